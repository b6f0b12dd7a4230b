/- The document's reader: Value, as contracts. Condition: the text is no longer than 2^40 bytes. -/
import Derived.Test.YtijhdnpaeliaoaaWl
namespace Go.Proofs.Ytijhdnpaeliaoaa.Wq
open Go.RowKit Go.Proofs.Ytijhdnpaeliaoaa.Wm Go.Proofs.Ytijhdnpaeliaoaa.Wb Go.Proofs.Ytijhdnpaeliaoaa.Wa Go.Proofs.Ytijhdnpaeliaoaa.We Go.Proofs.Ytijhdnpaeliaoaa.Wf Go.Proofs.Ytijhdnpaeliaoaa.Wg Go.Proofs.Ytijhdnpaeliaoaa.Wh Go.Proofs.Ytijhdnpaeliaoaa.Wi Go.Proofs.Ytijhdnpaeliaoaa.Wj Go.Proofs.Ytijhdnpaeliaoaa.Wk Go.Proofs.Ytijhdnpaeliaoaa.Wl
set_option linter.unusedVariables false
set_option linter.unusedSimpArgs false
set_option maxRecDepth 100000
set_option maxHeartbeats 1000000 in
theorem rval_no (g : Nat) (st : St) (hs : st.s.size ≤ 1099511627776) (w : World) (h : Rd g st.s st.e w) (c : Int) (hc : c ≠ 0) (st' : St) (hr : numS st = (0, c, st')) :
    Calls Try.prog 31 #[.pointer (some ⟨g, 0, none⟩)] w (RPost g w (.tuple #[.agg #[.int .u8 0, .int .i64 0, .string ⟨#[]⟩], .int .i64 c]) ⟨st'.s, st'.e⟩) := by
  have hvg : w.heap.size ≠ g := by have := h.lt; omega
  have hgv : g ≠ w.heap.size := Ne.symm hvg
  have h' := Rd.alloc h (.cells #[.int .u8 0, .int .i64 0, .string ⟨#[]⟩] 23)
  have v0 : Bv w.heap.size ⟨0, 0, ⟨#[]⟩⟩ (w.alloc (.cells #[.int .u8 0, .int .i64 0, .string ⟨#[]⟩] 23)) := Bv.new
  have HR := Lib.hid hr
  have hcb : (c != 0) = true := by simpa using hc
  have hcc : (c == 0) = false := by simpa using hc
  clear hr
  go_enter Try.func31, Try.ntmps31
  go_wp2_with fail
  refine (rnumRC g st hs _ h').mono ?_
  rw [HR.out]
  rintro e w1 ⟨rfl, hr1, hg1⟩
  (try dsimp only [St.bad] at hr1)
  have v1 := v0.far hg1 hvg
  have k0 := v1.c0
  have k1 := v1.c1
  have k2 := v1.c2
  have kf0 := v1.fz 0
  have kf1 := v1.fz 1
  have kf2 := v1.fz 2
  have kl := v1.lt
  have gl := hr1.lt
  have z1 := hg1.size
  simp only [World.size_alloc] at z1
  dsimp only at k0 k1 k2
  have hvg1 : w1.heap.size ≠ g := by omega
  have hgv1 : g ≠ w1.heap.size := by omega
  have hv01 : w.heap.size ≠ w1.heap.size := by omega
  have hv10 : w1.heap.size ≠ w.heap.size := by omega
  go_wp2_with fail
  refine bodyPost_ret (v := .tuple #[.agg #[.int .u8 0, .int .i64 0, .string ⟨#[]⟩], .int .i64 c]) (by simp [results, Try.results31, go_sem, k0, k1, k2, kl, gl, hvg, hgv, hvg1, hgv1, hv01, hv10 ]) rfl ?_
  exact ⟨rfl, by ((try dsimp only [St.bad]); (repeat' (first | (with_reducible assumption) | (with_reducible apply Rd.set0) | (with_reducible apply Rd.set1) | (with_reducible refine Rd.other ?_ (by with_reducible assumption)) | (with_reducible refine Rd.alloc ?_ _) | (with_reducible refine Rd.drew ?_)))), by (repeat' (first | (with_reducible assumption) | (with_reducible exact gr_refl _ _) | (with_reducible refine gr_al ?_ _) | (with_reducible refine gr_dr ?_) | (with_reducible refine gr_at ?_) | (with_reducible refine gr_new ?_ (by first | exact Nat.le_refl _ | omega)) | (with_reducible refine gr_trans ?_ (by with_reducible assumption))))⟩
set_option maxHeartbeats 1000000 in
theorem rval_kind (g : Nat) (st : St) (hs : st.s.size ≤ 1099511627776) (w : World) (h : Rd g st.s st.e w) (n : Nat) (hn : 3 < n) (t : ByteArray) (hts : t.size ≤ 1099511627776) (hr : numS st = (n, 0, ⟨t, 0⟩)) :
    Calls Try.prog 31 #[.pointer (some ⟨g, 0, none⟩)] w (RPost g w (.tuple #[.agg #[.int .u8 0, .int .i64 0, .string ⟨#[]⟩], .int .i64 4]) (St.bad 4)) := by
  have hvg : w.heap.size ≠ g := by have := h.lt; omega
  have hgv : g ≠ w.heap.size := Ne.symm hvg
  have h' := Rd.alloc h (.cells #[.int .u8 0, .int .i64 0, .string ⟨#[]⟩] 23)
  have v0 : Bv w.heap.size ⟨0, 0, ⟨#[]⟩⟩ (w.alloc (.cells #[.int .u8 0, .int .i64 0, .string ⟨#[]⟩] 23)) := Bv.new
  have HR := Lib.hid hr
  have t1 : decide ((3 : Int) < (n : Int)) = true := by simp; omega
  have t2 : decide (3 < n) = true := by simpa using hn
  clear hr
  go_enter Try.func31, Try.ntmps31
  go_wp2_with fail
  refine (rnumRC g st hs _ h').mono ?_
  rw [HR.out]
  rintro e w1 ⟨rfl, hr1, hg1⟩
  (try dsimp only [St.bad] at hr1)
  have v1 := v0.far hg1 hvg
  have k0 := v1.c0
  have k1 := v1.c1
  have k2 := v1.c2
  have kf0 := v1.fz 0
  have kf1 := v1.fz 1
  have kf2 := v1.fz 2
  have kl := v1.lt
  have gl := hr1.lt
  have z1 := hg1.size
  simp only [World.size_alloc] at z1
  dsimp only at k0 k1 k2
  have hvg1 : w1.heap.size ≠ g := by omega
  have hgv1 : g ≠ w1.heap.size := by omega
  have hv01 : w.heap.size ≠ w1.heap.size := by omega
  have hv10 : w1.heap.size ≠ w.heap.size := by omega
  go_wp2_with fail
  refine (wrongC g ⟨t, 0⟩ 4 _ hr1).mono ?_
  rintro e w2 ⟨rfl, hr2, hg2⟩
  dsimp only [St.bad] at hr2
  clear k0 k1 k2 kf0 kf1 kf2 kl gl
  have v2 := v1.far hg2 hvg
  have k0 := v2.c0
  have k1 := v2.c1
  have k2 := v2.c2
  have kf0 := v2.fz 0
  have kf1 := v2.fz 1
  have kf2 := v2.fz 2
  have kl := v2.lt
  have gl := hr2.lt
  dsimp only at k0 k1 k2
  go_wp2_with fail
  refine bodyPost_ret (v := .tuple #[.agg #[.int .u8 0, .int .i64 0, .string ⟨#[]⟩], .int .i64 4]) (by simp [results, Try.results31, go_sem, k0, k1, k2, kl, gl, hvg, hgv, hvg1, hgv1, hv01, hv10 ]) rfl ?_
  exact ⟨rfl, by ((try dsimp only [St.bad]); (repeat' (first | (with_reducible assumption) | (with_reducible apply Rd.set0) | (with_reducible apply Rd.set1) | (with_reducible refine Rd.other ?_ (by with_reducible assumption)) | (with_reducible refine Rd.alloc ?_ _) | (with_reducible refine Rd.drew ?_)))), by (repeat' (first | (with_reducible assumption) | (with_reducible exact gr_refl _ _) | (with_reducible refine gr_al ?_ _) | (with_reducible refine gr_dr ?_) | (with_reducible refine gr_at ?_) | (with_reducible refine gr_new ?_ (by first | exact Nat.le_refl _ | omega)) | (with_reducible refine gr_trans ?_ (by with_reducible assumption))))⟩
set_option maxHeartbeats 1000000 in
theorem rval_none (g : Nat) (st : St) (hs : st.s.size ≤ 1099511627776) (w : World) (h : Rd g st.s st.e w) (t : ByteArray) (hts : t.size ≤ 1099511627776) (hr : numS st = (0, 0, ⟨t, 0⟩)) :
    Calls Try.prog 31 #[.pointer (some ⟨g, 0, none⟩)] w (RPost g w (.tuple #[.agg #[.int .u8 0, .int .i64 0, .string ⟨#[]⟩], .int .i64 0]) ⟨t, 0⟩) := by
  have hvg : w.heap.size ≠ g := by have := h.lt; omega
  have hgv : g ≠ w.heap.size := Ne.symm hvg
  have h' := Rd.alloc h (.cells #[.int .u8 0, .int .i64 0, .string ⟨#[]⟩] 23)
  have v0 : Bv w.heap.size ⟨0, 0, ⟨#[]⟩⟩ (w.alloc (.cells #[.int .u8 0, .int .i64 0, .string ⟨#[]⟩] 23)) := Bv.new
  have HR := Lib.hid hr
  clear hr
  go_enter Try.func31, Try.ntmps31
  go_wp2_with fail
  refine (rnumRC g st hs _ h').mono ?_
  rw [HR.out]
  rintro e w1 ⟨rfl, hr1, hg1⟩
  (try dsimp only [St.bad] at hr1)
  have v1 := v0.far hg1 hvg
  have k0 := v1.c0
  have k1 := v1.c1
  have k2 := v1.c2
  have kf0 := v1.fz 0
  have kf1 := v1.fz 1
  have kf2 := v1.fz 2
  have kl := v1.lt
  have gl := hr1.lt
  have z1 := hg1.size
  simp only [World.size_alloc] at z1
  dsimp only at k0 k1 k2
  have hvg1 : w1.heap.size ≠ g := by omega
  have hgv1 : g ≠ w1.heap.size := by omega
  have hv01 : w.heap.size ≠ w1.heap.size := by omega
  have hv10 : w1.heap.size ≠ w.heap.size := by omega
  go_wp2_with fail
  refine bodyPost_ret (v := .tuple #[.agg #[.int .u8 0, .int .i64 0, .string ⟨#[]⟩], .int .i64 0]) (by simp [results, Try.results31, go_sem, k0, k1, k2, kl, gl, hvg, hgv, hvg1, hgv1, hv01, hv10 ]) rfl ?_
  exact ⟨rfl, by ((try dsimp only [St.bad]); (repeat' (first | (with_reducible assumption) | (with_reducible apply Rd.set0) | (with_reducible apply Rd.set1) | (with_reducible refine Rd.other ?_ (by with_reducible assumption)) | (with_reducible refine Rd.alloc ?_ _) | (with_reducible refine Rd.drew ?_)))), by (repeat' (first | (with_reducible assumption) | (with_reducible exact gr_refl _ _) | (with_reducible refine gr_al ?_ _) | (with_reducible refine gr_dr ?_) | (with_reducible refine gr_at ?_) | (with_reducible refine gr_new ?_ (by first | exact Nat.le_refl _ | omega)) | (with_reducible refine gr_trans ?_ (by with_reducible assumption))))⟩
set_option maxHeartbeats 1000000 in
theorem rval_int (g : Nat) (st : St) (hs : st.s.size ≤ 1099511627776) (w : World) (h : Rd g st.s st.e w) (t : ByteArray) (hts : t.size ≤ 1099511627776) (hr : numS st = (1, 0, ⟨t, 0⟩)) (x : Int) (t2 : ByteArray) (hr2 : intS ⟨t, 0⟩ = (x, 0, ⟨t2, 0⟩)) :
    Calls Try.prog 31 #[.pointer (some ⟨g, 0, none⟩)] w (RPost g w (.tuple #[.agg #[.int .u8 1, .int .i64 x, .string ⟨#[]⟩], .int .i64 0]) ⟨t2, 0⟩) := by
  have hvg : w.heap.size ≠ g := by have := h.lt; omega
  have hgv : g ≠ w.heap.size := Ne.symm hvg
  have h' := Rd.alloc h (.cells #[.int .u8 0, .int .i64 0, .string ⟨#[]⟩] 23)
  have v0 : Bv w.heap.size ⟨0, 0, ⟨#[]⟩⟩ (w.alloc (.cells #[.int .u8 0, .int .i64 0, .string ⟨#[]⟩] 23)) := Bv.new
  have HR := Lib.hid hr
  have HR2 := Lib.hid hr2
  clear hr2
  clear hr
  go_enter Try.func31, Try.ntmps31
  go_wp2_with fail
  refine (rnumRC g st hs _ h').mono ?_
  rw [HR.out]
  rintro e w1 ⟨rfl, hr1, hg1⟩
  (try dsimp only [St.bad] at hr1)
  have v1 := v0.far hg1 hvg
  have k0 := v1.c0
  have k1 := v1.c1
  have k2 := v1.c2
  have kf0 := v1.fz 0
  have kf1 := v1.fz 1
  have kf2 := v1.fz 2
  have kl := v1.lt
  have gl := hr1.lt
  have z1 := hg1.size
  simp only [World.size_alloc] at z1
  dsimp only at k0 k1 k2
  have hvg1 : w1.heap.size ≠ g := by omega
  have hgv1 : g ≠ w1.heap.size := by omega
  have hv01 : w.heap.size ≠ w1.heap.size := by omega
  have hv10 : w1.heap.size ≠ w.heap.size := by omega
  go_wp2_with fail
  have u0 : Bv w1.heap.size ⟨1, 0, ⟨#[]⟩⟩ (w1.alloc (.cells #[.int .u8 1, .int .i64 0, .string ⟨#[]⟩] 23)) := Bv.new
  have v1' := v1.alloc (.cells #[.int .u8 1, .int .i64 0, .string ⟨#[]⟩] 23)
  refine (rintRC g ⟨t, 0⟩ hts _ (Rd.alloc hr1 _)).mono ?_
  rw [HR2.out]
  rintro e w2 ⟨rfl, hr2, hg2⟩
  (try dsimp only [St.bad] at hr2)
  clear k0 k1 k2 kf0 kf1 kf2 kl gl
  have v2 := v1'.far hg2 hvg
  have u2 := u0.far hg2 hvg1
  have k0 := v2.c0
  have k1 := v2.c1
  have k2 := v2.c2
  have kf0 := v2.fz 0
  have kf1 := v2.fz 1
  have kf2 := v2.fz 2
  have kl := v2.lt
  have gl := hr2.lt
  have m0 := u2.c0
  have m1 := u2.c1
  have m2 := u2.c2
  have mf0 := u2.fz 0
  have mf1 := u2.fz 1
  have mf2 := u2.fz 2
  have ml := u2.lt
  dsimp only at k0 k1 k2 m0 m1 m2
  go_wp2_with fail
  refine bodyPost_ret (v := .tuple #[.agg #[.int .u8 1, .int .i64 x, .string ⟨#[]⟩], .int .i64 0]) (by simp [results, Try.results31, go_sem, k0, k1, k2, kl, gl, hvg, hgv, hvg1, hgv1, hv01, hv10 , m0, m1, m2, ml]) rfl ?_
  exact ⟨rfl, by ((try dsimp only [St.bad]); (repeat' (first | (with_reducible assumption) | (with_reducible apply Rd.set0) | (with_reducible apply Rd.set1) | (with_reducible refine Rd.other ?_ (by with_reducible assumption)) | (with_reducible refine Rd.alloc ?_ _) | (with_reducible refine Rd.drew ?_)))), by (repeat' (first | (with_reducible assumption) | (with_reducible exact gr_refl _ _) | (with_reducible refine gr_al ?_ _) | (with_reducible refine gr_dr ?_) | (with_reducible refine gr_at ?_) | (with_reducible refine gr_new ?_ (by first | exact Nat.le_refl _ | omega)) | (with_reducible refine gr_trans ?_ (by with_reducible assumption))))⟩
set_option maxHeartbeats 1000000 in
theorem rval_intno (g : Nat) (st : St) (hs : st.s.size ≤ 1099511627776) (w : World) (h : Rd g st.s st.e w) (t : ByteArray) (hts : t.size ≤ 1099511627776) (hr : numS st = (1, 0, ⟨t, 0⟩)) (c : Int) (hc : c ≠ 0) (st' : St) (hr2 : intS ⟨t, 0⟩ = (0, c, st')) :
    Calls Try.prog 31 #[.pointer (some ⟨g, 0, none⟩)] w (RPost g w (.tuple #[.agg #[.int .u8 0, .int .i64 0, .string ⟨#[]⟩], .int .i64 c]) ⟨st'.s, st'.e⟩) := by
  have hvg : w.heap.size ≠ g := by have := h.lt; omega
  have hgv : g ≠ w.heap.size := Ne.symm hvg
  have h' := Rd.alloc h (.cells #[.int .u8 0, .int .i64 0, .string ⟨#[]⟩] 23)
  have v0 : Bv w.heap.size ⟨0, 0, ⟨#[]⟩⟩ (w.alloc (.cells #[.int .u8 0, .int .i64 0, .string ⟨#[]⟩] 23)) := Bv.new
  have HR := Lib.hid hr
  have HR2 := Lib.hid hr2
  clear hr2
  have hcb : (c != 0) = true := by simpa using hc
  have hcc : (c == 0) = false := by simpa using hc
  clear hr
  go_enter Try.func31, Try.ntmps31
  go_wp2_with fail
  refine (rnumRC g st hs _ h').mono ?_
  rw [HR.out]
  rintro e w1 ⟨rfl, hr1, hg1⟩
  (try dsimp only [St.bad] at hr1)
  have v1 := v0.far hg1 hvg
  have k0 := v1.c0
  have k1 := v1.c1
  have k2 := v1.c2
  have kf0 := v1.fz 0
  have kf1 := v1.fz 1
  have kf2 := v1.fz 2
  have kl := v1.lt
  have gl := hr1.lt
  have z1 := hg1.size
  simp only [World.size_alloc] at z1
  dsimp only at k0 k1 k2
  have hvg1 : w1.heap.size ≠ g := by omega
  have hgv1 : g ≠ w1.heap.size := by omega
  have hv01 : w.heap.size ≠ w1.heap.size := by omega
  have hv10 : w1.heap.size ≠ w.heap.size := by omega
  go_wp2_with fail
  have u0 : Bv w1.heap.size ⟨1, 0, ⟨#[]⟩⟩ (w1.alloc (.cells #[.int .u8 1, .int .i64 0, .string ⟨#[]⟩] 23)) := Bv.new
  have v1' := v1.alloc (.cells #[.int .u8 1, .int .i64 0, .string ⟨#[]⟩] 23)
  refine (rintRC g ⟨t, 0⟩ hts _ (Rd.alloc hr1 _)).mono ?_
  rw [HR2.out]
  rintro e w2 ⟨rfl, hr2, hg2⟩
  (try dsimp only [St.bad] at hr2)
  clear k0 k1 k2 kf0 kf1 kf2 kl gl
  have v2 := v1'.far hg2 hvg
  have u2 := u0.far hg2 hvg1
  have k0 := v2.c0
  have k1 := v2.c1
  have k2 := v2.c2
  have kf0 := v2.fz 0
  have kf1 := v2.fz 1
  have kf2 := v2.fz 2
  have kl := v2.lt
  have gl := hr2.lt
  have m0 := u2.c0
  have m1 := u2.c1
  have m2 := u2.c2
  have mf0 := u2.fz 0
  have mf1 := u2.fz 1
  have mf2 := u2.fz 2
  have ml := u2.lt
  dsimp only at k0 k1 k2 m0 m1 m2
  go_wp2_with fail
  refine bodyPost_ret (v := .tuple #[.agg #[.int .u8 0, .int .i64 0, .string ⟨#[]⟩], .int .i64 c]) (by simp [results, Try.results31, go_sem, k0, k1, k2, kl, gl, hvg, hgv, hvg1, hgv1, hv01, hv10 , m0, m1, m2, ml]) rfl ?_
  exact ⟨rfl, by ((try dsimp only [St.bad]); (repeat' (first | (with_reducible assumption) | (with_reducible apply Rd.set0) | (with_reducible apply Rd.set1) | (with_reducible refine Rd.other ?_ (by with_reducible assumption)) | (with_reducible refine Rd.alloc ?_ _) | (with_reducible refine Rd.drew ?_)))), by (repeat' (first | (with_reducible assumption) | (with_reducible exact gr_refl _ _) | (with_reducible refine gr_al ?_ _) | (with_reducible refine gr_dr ?_) | (with_reducible refine gr_at ?_) | (with_reducible refine gr_new ?_ (by first | exact Nat.le_refl _ | omega)) | (with_reducible refine gr_trans ?_ (by with_reducible assumption))))⟩
set_option maxHeartbeats 1000000 in
theorem rval_bool (g : Nat) (st : St) (hs : st.s.size ≤ 1099511627776) (w : World) (h : Rd g st.s st.e w) (t : ByteArray) (hts : t.size ≤ 1099511627776) (hr : numS st = (2, 0, ⟨t, 0⟩)) (m : Nat) (hm : m ≤ 1) (t2 : ByteArray) (hr2 : numS ⟨t, 0⟩ = (m, 0, ⟨t2, 0⟩)) :
    Calls Try.prog 31 #[.pointer (some ⟨g, 0, none⟩)] w (RPost g w (.tuple #[.agg #[.int .u8 2, .int .i64 (m : Int), .string ⟨#[]⟩], .int .i64 0]) ⟨t2, 0⟩) := by
  have hvg : w.heap.size ≠ g := by have := h.lt; omega
  have hgv : g ≠ w.heap.size := Ne.symm hvg
  have h' := Rd.alloc h (.cells #[.int .u8 0, .int .i64 0, .string ⟨#[]⟩] 23)
  have v0 : Bv w.heap.size ⟨0, 0, ⟨#[]⟩⟩ (w.alloc (.cells #[.int .u8 0, .int .i64 0, .string ⟨#[]⟩] 23)) := Bv.new
  have HR := Lib.hid hr
  have HR2 := Lib.hid hr2
  clear hr2
  have t1 : decide ((1 : Int) < (m : Int)) = false := by simp; omega
  have t3 : decide (1 < m) = false := by simp; omega
  clear hr
  go_enter Try.func31, Try.ntmps31
  go_wp2_with fail
  refine (rnumRC g st hs _ h').mono ?_
  rw [HR.out]
  rintro e w1 ⟨rfl, hr1, hg1⟩
  (try dsimp only [St.bad] at hr1)
  have v1 := v0.far hg1 hvg
  have k0 := v1.c0
  have k1 := v1.c1
  have k2 := v1.c2
  have kf0 := v1.fz 0
  have kf1 := v1.fz 1
  have kf2 := v1.fz 2
  have kl := v1.lt
  have gl := hr1.lt
  have z1 := hg1.size
  simp only [World.size_alloc] at z1
  dsimp only at k0 k1 k2
  have hvg1 : w1.heap.size ≠ g := by omega
  have hgv1 : g ≠ w1.heap.size := by omega
  have hv01 : w.heap.size ≠ w1.heap.size := by omega
  have hv10 : w1.heap.size ≠ w.heap.size := by omega
  go_wp2_with fail
  have u0 : Bv w1.heap.size ⟨2, 0, ⟨#[]⟩⟩ (w1.alloc (.cells #[.int .u8 2, .int .i64 0, .string ⟨#[]⟩] 23)) := Bv.new
  have v1' := v1.alloc (.cells #[.int .u8 2, .int .i64 0, .string ⟨#[]⟩] 23)
  refine (rnumRC g ⟨t, 0⟩ hts _ (Rd.alloc hr1 _)).mono ?_
  rw [HR2.out]
  rintro e w2 ⟨rfl, hr2, hg2⟩
  (try dsimp only [St.bad] at hr2)
  clear k0 k1 k2 kf0 kf1 kf2 kl gl
  have v2 := v1'.far hg2 hvg
  have u2 := u0.far hg2 hvg1
  have k0 := v2.c0
  have k1 := v2.c1
  have k2 := v2.c2
  have kf0 := v2.fz 0
  have kf1 := v2.fz 1
  have kf2 := v2.fz 2
  have kl := v2.lt
  have gl := hr2.lt
  have m0 := u2.c0
  have m1 := u2.c1
  have m2 := u2.c2
  have mf0 := u2.fz 0
  have mf1 := u2.fz 1
  have mf2 := u2.fz 2
  have ml := u2.lt
  dsimp only at k0 k1 k2 m0 m1 m2
  go_wp2_with fail
  refine bodyPost_ret (v := .tuple #[.agg #[.int .u8 2, .int .i64 (m : Int), .string ⟨#[]⟩], .int .i64 0]) (by simp [results, Try.results31, go_sem, k0, k1, k2, kl, gl, hvg, hgv, hvg1, hgv1, hv01, hv10 , m0, m1, m2, ml]) rfl ?_
  exact ⟨rfl, by ((try dsimp only [St.bad]); (repeat' (first | (with_reducible assumption) | (with_reducible apply Rd.set0) | (with_reducible apply Rd.set1) | (with_reducible refine Rd.other ?_ (by with_reducible assumption)) | (with_reducible refine Rd.alloc ?_ _) | (with_reducible refine Rd.drew ?_)))), by (repeat' (first | (with_reducible assumption) | (with_reducible exact gr_refl _ _) | (with_reducible refine gr_al ?_ _) | (with_reducible refine gr_dr ?_) | (with_reducible refine gr_at ?_) | (with_reducible refine gr_new ?_ (by first | exact Nat.le_refl _ | omega)) | (with_reducible refine gr_trans ?_ (by with_reducible assumption))))⟩
set_option maxHeartbeats 1000000 in
theorem rval_boolbig (g : Nat) (st : St) (hs : st.s.size ≤ 1099511627776) (w : World) (h : Rd g st.s st.e w) (t : ByteArray) (hts : t.size ≤ 1099511627776) (hr : numS st = (2, 0, ⟨t, 0⟩)) (m : Nat) (hm : 1 < m) (t2 : ByteArray) (hr2 : numS ⟨t, 0⟩ = (m, 0, ⟨t2, 0⟩)) :
    Calls Try.prog 31 #[.pointer (some ⟨g, 0, none⟩)] w (RPost g w (.tuple #[.agg #[.int .u8 0, .int .i64 0, .string ⟨#[]⟩], .int .i64 4]) (St.bad 4)) := by
  have hvg : w.heap.size ≠ g := by have := h.lt; omega
  have hgv : g ≠ w.heap.size := Ne.symm hvg
  have h' := Rd.alloc h (.cells #[.int .u8 0, .int .i64 0, .string ⟨#[]⟩] 23)
  have v0 : Bv w.heap.size ⟨0, 0, ⟨#[]⟩⟩ (w.alloc (.cells #[.int .u8 0, .int .i64 0, .string ⟨#[]⟩] 23)) := Bv.new
  have HR := Lib.hid hr
  have HR2 := Lib.hid hr2
  clear hr2
  have t1 : decide ((1 : Int) < (m : Int)) = true := by simp; omega
  have t3 : decide (1 < m) = true := by simp; omega
  clear hr
  go_enter Try.func31, Try.ntmps31
  go_wp2_with fail
  refine (rnumRC g st hs _ h').mono ?_
  rw [HR.out]
  rintro e w1 ⟨rfl, hr1, hg1⟩
  (try dsimp only [St.bad] at hr1)
  have v1 := v0.far hg1 hvg
  have k0 := v1.c0
  have k1 := v1.c1
  have k2 := v1.c2
  have kf0 := v1.fz 0
  have kf1 := v1.fz 1
  have kf2 := v1.fz 2
  have kl := v1.lt
  have gl := hr1.lt
  have z1 := hg1.size
  simp only [World.size_alloc] at z1
  dsimp only at k0 k1 k2
  have hvg1 : w1.heap.size ≠ g := by omega
  have hgv1 : g ≠ w1.heap.size := by omega
  have hv01 : w.heap.size ≠ w1.heap.size := by omega
  have hv10 : w1.heap.size ≠ w.heap.size := by omega
  go_wp2_with fail
  have u0 : Bv w1.heap.size ⟨2, 0, ⟨#[]⟩⟩ (w1.alloc (.cells #[.int .u8 2, .int .i64 0, .string ⟨#[]⟩] 23)) := Bv.new
  have v1' := v1.alloc (.cells #[.int .u8 2, .int .i64 0, .string ⟨#[]⟩] 23)
  refine (rnumRC g ⟨t, 0⟩ hts _ (Rd.alloc hr1 _)).mono ?_
  rw [HR2.out]
  rintro e w2 ⟨rfl, hr2, hg2⟩
  (try dsimp only [St.bad] at hr2)
  clear k0 k1 k2 kf0 kf1 kf2 kl gl
  have v2 := v1'.far hg2 hvg
  have u2 := u0.far hg2 hvg1
  have k0 := v2.c0
  have k1 := v2.c1
  have k2 := v2.c2
  have kf0 := v2.fz 0
  have kf1 := v2.fz 1
  have kf2 := v2.fz 2
  have kl := v2.lt
  have gl := hr2.lt
  have m0 := u2.c0
  have m1 := u2.c1
  have m2 := u2.c2
  have mf0 := u2.fz 0
  have mf1 := u2.fz 1
  have mf2 := u2.fz 2
  have ml := u2.lt
  dsimp only at k0 k1 k2 m0 m1 m2
  go_wp2_with fail
  refine (wrongC g ⟨t2, 0⟩ 4 _ hr2).mono ?_
  rintro e w3 ⟨rfl, hr3, hg3⟩
  dsimp only [St.bad] at hr3
  clear k0 k1 k2 kf0 kf1 kf2 kl gl m0 m1 m2 mf0 mf1 mf2 ml
  have v3 := v2.far hg3 hvg
  have u3 := u2.far hg3 hvg1
  have k0 := v3.c0
  have k1 := v3.c1
  have k2 := v3.c2
  have kf0 := v3.fz 0
  have kf1 := v3.fz 1
  have kf2 := v3.fz 2
  have kl := v3.lt
  have gl := hr3.lt
  have m0 := u3.c0
  have m1 := u3.c1
  have m2 := u3.c2
  have mf0 := u3.fz 0
  have mf1 := u3.fz 1
  have mf2 := u3.fz 2
  have ml := u3.lt
  dsimp only at k0 k1 k2 m0 m1 m2
  go_wp2_with fail
  refine bodyPost_ret (v := .tuple #[.agg #[.int .u8 0, .int .i64 0, .string ⟨#[]⟩], .int .i64 4]) (by simp [results, Try.results31, go_sem, k0, k1, k2, kl, gl, hvg, hgv, hvg1, hgv1, hv01, hv10 , m0, m1, m2, ml]) rfl ?_
  exact ⟨rfl, by ((try dsimp only [St.bad]); (repeat' (first | (with_reducible assumption) | (with_reducible apply Rd.set0) | (with_reducible apply Rd.set1) | (with_reducible refine Rd.other ?_ (by with_reducible assumption)) | (with_reducible refine Rd.alloc ?_ _) | (with_reducible refine Rd.drew ?_)))), by (repeat' (first | (with_reducible assumption) | (with_reducible exact gr_refl _ _) | (with_reducible refine gr_al ?_ _) | (with_reducible refine gr_dr ?_) | (with_reducible refine gr_at ?_) | (with_reducible refine gr_new ?_ (by first | exact Nat.le_refl _ | omega)) | (with_reducible refine gr_trans ?_ (by with_reducible assumption))))⟩
set_option maxHeartbeats 1000000 in
theorem rval_boolno (g : Nat) (st : St) (hs : st.s.size ≤ 1099511627776) (w : World) (h : Rd g st.s st.e w) (t : ByteArray) (hts : t.size ≤ 1099511627776) (hr : numS st = (2, 0, ⟨t, 0⟩)) (c : Int) (hc : c ≠ 0) (st' : St) (hr2 : numS ⟨t, 0⟩ = (0, c, st')) :
    Calls Try.prog 31 #[.pointer (some ⟨g, 0, none⟩)] w (RPost g w (.tuple #[.agg #[.int .u8 0, .int .i64 0, .string ⟨#[]⟩], .int .i64 c]) ⟨st'.s, st'.e⟩) := by
  have hvg : w.heap.size ≠ g := by have := h.lt; omega
  have hgv : g ≠ w.heap.size := Ne.symm hvg
  have h' := Rd.alloc h (.cells #[.int .u8 0, .int .i64 0, .string ⟨#[]⟩] 23)
  have v0 : Bv w.heap.size ⟨0, 0, ⟨#[]⟩⟩ (w.alloc (.cells #[.int .u8 0, .int .i64 0, .string ⟨#[]⟩] 23)) := Bv.new
  have HR := Lib.hid hr
  have HR2 := Lib.hid hr2
  clear hr2
  have hcb : (c != 0) = true := by simpa using hc
  have hcc : (c == 0) = false := by simpa using hc
  clear hr
  go_enter Try.func31, Try.ntmps31
  go_wp2_with fail
  refine (rnumRC g st hs _ h').mono ?_
  rw [HR.out]
  rintro e w1 ⟨rfl, hr1, hg1⟩
  (try dsimp only [St.bad] at hr1)
  have v1 := v0.far hg1 hvg
  have k0 := v1.c0
  have k1 := v1.c1
  have k2 := v1.c2
  have kf0 := v1.fz 0
  have kf1 := v1.fz 1
  have kf2 := v1.fz 2
  have kl := v1.lt
  have gl := hr1.lt
  have z1 := hg1.size
  simp only [World.size_alloc] at z1
  dsimp only at k0 k1 k2
  have hvg1 : w1.heap.size ≠ g := by omega
  have hgv1 : g ≠ w1.heap.size := by omega
  have hv01 : w.heap.size ≠ w1.heap.size := by omega
  have hv10 : w1.heap.size ≠ w.heap.size := by omega
  go_wp2_with fail
  have u0 : Bv w1.heap.size ⟨2, 0, ⟨#[]⟩⟩ (w1.alloc (.cells #[.int .u8 2, .int .i64 0, .string ⟨#[]⟩] 23)) := Bv.new
  have v1' := v1.alloc (.cells #[.int .u8 2, .int .i64 0, .string ⟨#[]⟩] 23)
  refine (rnumRC g ⟨t, 0⟩ hts _ (Rd.alloc hr1 _)).mono ?_
  rw [HR2.out]
  rintro e w2 ⟨rfl, hr2, hg2⟩
  (try dsimp only [St.bad] at hr2)
  clear k0 k1 k2 kf0 kf1 kf2 kl gl
  have v2 := v1'.far hg2 hvg
  have u2 := u0.far hg2 hvg1
  have k0 := v2.c0
  have k1 := v2.c1
  have k2 := v2.c2
  have kf0 := v2.fz 0
  have kf1 := v2.fz 1
  have kf2 := v2.fz 2
  have kl := v2.lt
  have gl := hr2.lt
  have m0 := u2.c0
  have m1 := u2.c1
  have m2 := u2.c2
  have mf0 := u2.fz 0
  have mf1 := u2.fz 1
  have mf2 := u2.fz 2
  have ml := u2.lt
  dsimp only at k0 k1 k2 m0 m1 m2
  go_wp2_with fail
  refine bodyPost_ret (v := .tuple #[.agg #[.int .u8 0, .int .i64 0, .string ⟨#[]⟩], .int .i64 c]) (by simp [results, Try.results31, go_sem, k0, k1, k2, kl, gl, hvg, hgv, hvg1, hgv1, hv01, hv10 , m0, m1, m2, ml]) rfl ?_
  exact ⟨rfl, by ((try dsimp only [St.bad]); (repeat' (first | (with_reducible assumption) | (with_reducible apply Rd.set0) | (with_reducible apply Rd.set1) | (with_reducible refine Rd.other ?_ (by with_reducible assumption)) | (with_reducible refine Rd.alloc ?_ _) | (with_reducible refine Rd.drew ?_)))), by (repeat' (first | (with_reducible assumption) | (with_reducible exact gr_refl _ _) | (with_reducible refine gr_al ?_ _) | (with_reducible refine gr_dr ?_) | (with_reducible refine gr_at ?_) | (with_reducible refine gr_new ?_ (by first | exact Nat.le_refl _ | omega)) | (with_reducible refine gr_trans ?_ (by with_reducible assumption))))⟩
set_option maxHeartbeats 1000000 in
theorem rval_text (g : Nat) (st : St) (hs : st.s.size ≤ 1099511627776) (w : World) (h : Rd g st.s st.e w) (t : ByteArray) (hts : t.size ≤ 1099511627776) (hr : numS st = (3, 0, ⟨t, 0⟩)) (y t2 : ByteArray) (hr2 : textS 40 ⟨t, 0⟩ = (y, 0, ⟨t2, 0⟩)) :
    Calls Try.prog 31 #[.pointer (some ⟨g, 0, none⟩)] w (RPost g w (.tuple #[.agg #[.int .u8 3, .int .i64 0, .string y], .int .i64 0]) ⟨t2, 0⟩) := by
  have hvg : w.heap.size ≠ g := by have := h.lt; omega
  have hgv : g ≠ w.heap.size := Ne.symm hvg
  have h' := Rd.alloc h (.cells #[.int .u8 0, .int .i64 0, .string ⟨#[]⟩] 23)
  have v0 : Bv w.heap.size ⟨0, 0, ⟨#[]⟩⟩ (w.alloc (.cells #[.int .u8 0, .int .i64 0, .string ⟨#[]⟩] 23)) := Bv.new
  have HR := Lib.hid hr
  have HR2 := Lib.hid hr2
  clear hr2
  clear hr
  go_enter Try.func31, Try.ntmps31
  go_wp2_with fail
  refine (rnumRC g st hs _ h').mono ?_
  rw [HR.out]
  rintro e w1 ⟨rfl, hr1, hg1⟩
  (try dsimp only [St.bad] at hr1)
  have v1 := v0.far hg1 hvg
  have k0 := v1.c0
  have k1 := v1.c1
  have k2 := v1.c2
  have kf0 := v1.fz 0
  have kf1 := v1.fz 1
  have kf2 := v1.fz 2
  have kl := v1.lt
  have gl := hr1.lt
  have z1 := hg1.size
  simp only [World.size_alloc] at z1
  dsimp only at k0 k1 k2
  have hvg1 : w1.heap.size ≠ g := by omega
  have hgv1 : g ≠ w1.heap.size := by omega
  have hv01 : w.heap.size ≠ w1.heap.size := by omega
  have hv10 : w1.heap.size ≠ w.heap.size := by omega
  go_wp2_with fail
  have u0 : Bv w1.heap.size ⟨3, 0, ⟨#[]⟩⟩ (w1.alloc (.cells #[.int .u8 3, .int .i64 0, .string ⟨#[]⟩] 23)) := Bv.new
  have v1' := v1.alloc (.cells #[.int .u8 3, .int .i64 0, .string ⟨#[]⟩] 23)
  refine (rtextRC g 40 ⟨t, 0⟩ hts _ (Rd.alloc hr1 _)).mono ?_
  rw [HR2.out]
  rintro e w2 ⟨rfl, hr2, hg2⟩
  (try dsimp only [St.bad] at hr2)
  clear k0 k1 k2 kf0 kf1 kf2 kl gl
  have v2 := v1'.far hg2 hvg
  have u2 := u0.far hg2 hvg1
  have k0 := v2.c0
  have k1 := v2.c1
  have k2 := v2.c2
  have kf0 := v2.fz 0
  have kf1 := v2.fz 1
  have kf2 := v2.fz 2
  have kl := v2.lt
  have gl := hr2.lt
  have m0 := u2.c0
  have m1 := u2.c1
  have m2 := u2.c2
  have mf0 := u2.fz 0
  have mf1 := u2.fz 1
  have mf2 := u2.fz 2
  have ml := u2.lt
  dsimp only at k0 k1 k2 m0 m1 m2
  go_wp2_with fail
  refine bodyPost_ret (v := .tuple #[.agg #[.int .u8 3, .int .i64 0, .string y], .int .i64 0]) (by simp [results, Try.results31, go_sem, k0, k1, k2, kl, gl, hvg, hgv, hvg1, hgv1, hv01, hv10 , m0, m1, m2, ml]) rfl ?_
  exact ⟨rfl, by ((try dsimp only [St.bad]); (repeat' (first | (with_reducible assumption) | (with_reducible apply Rd.set0) | (with_reducible apply Rd.set1) | (with_reducible refine Rd.other ?_ (by with_reducible assumption)) | (with_reducible refine Rd.alloc ?_ _) | (with_reducible refine Rd.drew ?_)))), by (repeat' (first | (with_reducible assumption) | (with_reducible exact gr_refl _ _) | (with_reducible refine gr_al ?_ _) | (with_reducible refine gr_dr ?_) | (with_reducible refine gr_at ?_) | (with_reducible refine gr_new ?_ (by first | exact Nat.le_refl _ | omega)) | (with_reducible refine gr_trans ?_ (by with_reducible assumption))))⟩
set_option maxHeartbeats 1000000 in
theorem rval_textno (g : Nat) (st : St) (hs : st.s.size ≤ 1099511627776) (w : World) (h : Rd g st.s st.e w) (t : ByteArray) (hts : t.size ≤ 1099511627776) (hr : numS st = (3, 0, ⟨t, 0⟩)) (c : Int) (hc : c ≠ 0) (st' : St) (hr2 : textS 40 ⟨t, 0⟩ = (⟨#[]⟩, c, st')) :
    Calls Try.prog 31 #[.pointer (some ⟨g, 0, none⟩)] w (RPost g w (.tuple #[.agg #[.int .u8 0, .int .i64 0, .string ⟨#[]⟩], .int .i64 c]) ⟨st'.s, st'.e⟩) := by
  have hvg : w.heap.size ≠ g := by have := h.lt; omega
  have hgv : g ≠ w.heap.size := Ne.symm hvg
  have h' := Rd.alloc h (.cells #[.int .u8 0, .int .i64 0, .string ⟨#[]⟩] 23)
  have v0 : Bv w.heap.size ⟨0, 0, ⟨#[]⟩⟩ (w.alloc (.cells #[.int .u8 0, .int .i64 0, .string ⟨#[]⟩] 23)) := Bv.new
  have HR := Lib.hid hr
  have HR2 := Lib.hid hr2
  clear hr2
  have hcb : (c != 0) = true := by simpa using hc
  have hcc : (c == 0) = false := by simpa using hc
  clear hr
  go_enter Try.func31, Try.ntmps31
  go_wp2_with fail
  refine (rnumRC g st hs _ h').mono ?_
  rw [HR.out]
  rintro e w1 ⟨rfl, hr1, hg1⟩
  (try dsimp only [St.bad] at hr1)
  have v1 := v0.far hg1 hvg
  have k0 := v1.c0
  have k1 := v1.c1
  have k2 := v1.c2
  have kf0 := v1.fz 0
  have kf1 := v1.fz 1
  have kf2 := v1.fz 2
  have kl := v1.lt
  have gl := hr1.lt
  have z1 := hg1.size
  simp only [World.size_alloc] at z1
  dsimp only at k0 k1 k2
  have hvg1 : w1.heap.size ≠ g := by omega
  have hgv1 : g ≠ w1.heap.size := by omega
  have hv01 : w.heap.size ≠ w1.heap.size := by omega
  have hv10 : w1.heap.size ≠ w.heap.size := by omega
  go_wp2_with fail
  have u0 : Bv w1.heap.size ⟨3, 0, ⟨#[]⟩⟩ (w1.alloc (.cells #[.int .u8 3, .int .i64 0, .string ⟨#[]⟩] 23)) := Bv.new
  have v1' := v1.alloc (.cells #[.int .u8 3, .int .i64 0, .string ⟨#[]⟩] 23)
  refine (rtextRC g 40 ⟨t, 0⟩ hts _ (Rd.alloc hr1 _)).mono ?_
  rw [HR2.out]
  rintro e w2 ⟨rfl, hr2, hg2⟩
  (try dsimp only [St.bad] at hr2)
  clear k0 k1 k2 kf0 kf1 kf2 kl gl
  have v2 := v1'.far hg2 hvg
  have u2 := u0.far hg2 hvg1
  have k0 := v2.c0
  have k1 := v2.c1
  have k2 := v2.c2
  have kf0 := v2.fz 0
  have kf1 := v2.fz 1
  have kf2 := v2.fz 2
  have kl := v2.lt
  have gl := hr2.lt
  have m0 := u2.c0
  have m1 := u2.c1
  have m2 := u2.c2
  have mf0 := u2.fz 0
  have mf1 := u2.fz 1
  have mf2 := u2.fz 2
  have ml := u2.lt
  dsimp only at k0 k1 k2 m0 m1 m2
  go_wp2_with fail
  refine bodyPost_ret (v := .tuple #[.agg #[.int .u8 0, .int .i64 0, .string ⟨#[]⟩], .int .i64 c]) (by simp [results, Try.results31, go_sem, k0, k1, k2, kl, gl, hvg, hgv, hvg1, hgv1, hv01, hv10 , m0, m1, m2, ml]) rfl ?_
  exact ⟨rfl, by ((try dsimp only [St.bad]); (repeat' (first | (with_reducible assumption) | (with_reducible apply Rd.set0) | (with_reducible apply Rd.set1) | (with_reducible refine Rd.other ?_ (by with_reducible assumption)) | (with_reducible refine Rd.alloc ?_ _) | (with_reducible refine Rd.drew ?_)))), by (repeat' (first | (with_reducible assumption) | (with_reducible exact gr_refl _ _) | (with_reducible refine gr_al ?_ _) | (with_reducible refine gr_dr ?_) | (with_reducible refine gr_at ?_) | (with_reducible refine gr_new ?_ (by first | exact Nat.le_refl _ | omega)) | (with_reducible refine gr_trans ?_ (by with_reducible assumption))))⟩
theorem rvalRC (g : Nat) (st : St) (hs : st.s.size ≤ 1099511627776) (w : World) (h : Rd g st.s st.e w) : Calls Try.prog 31 #[.pointer (some ⟨g, 0, none⟩)] w (RPost g w (.tuple #[.agg #[.int .u8 (valS st).1.k, .int .i64 (valS st).1.n, .string (valS st).1.t], .int .i64 (valS st).2.1]) (valS st).2.2) := by
  rcases any_two st hs with ⟨n, t, hr, hn, hts⟩ | ⟨c, st', hr, hc⟩
  · by_cases h3 : 3 < n
    · have hx : valS st = (V.zero, 4, St.bad 4) := by unfold valS; rw [hr]; simp only; rw [if_pos trivial, if_pos h3]
      rw [hx]
      exact rval_kind g st hs w h n h3 t hts hr
    have hk : n = 0 ∨ n = 1 ∨ n = 2 ∨ n = 3 := by omega
    rcases hk with rfl | rfl | rfl | rfl
    · have hx : valS st = (V.zero, 0, ⟨t, 0⟩) := by unfold valS; rw [hr]; rfl
      rw [hx]
      exact rval_none g st hs w h t hts hr
    · rcases rd_two 18446744073709551615 t with ⟨x, t2, hr2, _, _⟩ | ⟨c, hr2, hc, _⟩
      · have hr2 := int_of hr2
        have hx : valS st = (⟨1, unzz x, ⟨#[]⟩⟩, 0, ⟨t2, 0⟩) := by unfold valS; rw [hr]; simp only; rw [hr2]; rfl
        rw [hx]
        exact rval_int g st hs w h t hts hr _ t2 hr2
      · have hr2 := int_of hr2
        have hc0 : c ≠ 0 := by omega
        have hx : valS st = (V.zero, c, St.bad c) := by unfold valS; rw [hr]; simp only; rw [hr2]; simp [hc0]
        rw [hx]
        exact rval_intno g st hs w h t hts hr c hc0 _ hr2
    · rcases num_two t with ⟨m, t2, hr2, _, _⟩ | ⟨c, hr2, hc⟩
      · by_cases hm : m ≤ 1
        · have hx : valS st = (⟨2, m, ⟨#[]⟩⟩, 0, ⟨t2, 0⟩) := by unfold valS; rw [hr]; simp only; rw [hr2]; simp; omega
          rw [hx]
          exact rval_bool g st hs w h t hts hr m hm t2 hr2
        · have hx : valS st = (V.zero, 4, St.bad 4) := by unfold valS; rw [hr]; simp only; rw [hr2]; simp; omega
          rw [hx]
          exact rval_boolbig g st hs w h t hts hr m (by omega) t2 hr2
      · have hc0 : c ≠ 0 := by omega
        have hx : valS st = (V.zero, c, St.bad c) := by unfold valS; rw [hr]; simp only; rw [hr2]; simp [hc0]
        rw [hx]
        exact rval_boolno g st hs w h t hts hr c hc0 _ hr2
    · rcases text_two 40 t with ⟨y, t2, hr2⟩ | ⟨c, hr2, hc⟩
      · have hx : valS st = (⟨3, 0, y⟩, 0, ⟨t2, 0⟩) := by unfold valS; rw [hr]; simp only; rw [hr2]; rfl
        rw [hx]
        exact rval_text g st hs w h t hts hr y t2 hr2
      · have hx : valS st = (V.zero, c, St.bad c) := by unfold valS; rw [hr]; simp only; rw [hr2]; simp [hc]
        rw [hx]
        exact rval_textno g st hs w h t hts hr c hc _ hr2
  · have hx : valS st = (V.zero, c, st') := by unfold valS; rw [hr]; simp [hc]
    rw [hx]
    exact rval_no g st hs w h c hc st' hr
end Go.Proofs.Ytijhdnpaeliaoaa.Wq
