/- Package wire's reader: Value, as a contract. Condition: the text is no longer than 2^40 bytes. -/
import Derived.Test.YtijhdnpaeliaoaaWi
namespace Go.Proofs.Ytijhdnpaeliaoaa.Wj
open Go.RowKit Go.Proofs.Ytijhdnpaeliaoaa.Wm Go.Proofs.Ytijhdnpaeliaoaa.Wb Go.Proofs.Ytijhdnpaeliaoaa.Wa Go.Proofs.Ytijhdnpaeliaoaa.We Go.Proofs.Ytijhdnpaeliaoaa.Wf Go.Proofs.Ytijhdnpaeliaoaa.Wg Go.Proofs.Ytijhdnpaeliaoaa.Wh Go.Proofs.Ytijhdnpaeliaoaa.Wi
set_option linter.unusedVariables false
set_option linter.unusedSimpArgs false
set_option maxRecDepth 100000
/-- Block g holds the value v, and may be written. -/
structure Bv (g : Nat) (v : V) (W : World) : Prop where
  c0 : W.cell? ⟨g, 0, none⟩ = some (.int .u8 v.k)
  c1 : W.cell? ⟨g, 1, none⟩ = some (.int .i64 v.n)
  c2 : W.cell? ⟨g, 2, none⟩ = some (.string v.t)
  fz : ∀ j, W.frozen? ⟨g, j, none⟩ = false
theorem Bv.lt {g : Nat} {v : V} {W : World} (h : Bv g v W) : g < W.heap.size := World.block_lt_of_cell? W ⟨g, 0, none⟩ h.c0
theorem Bv.new {W : World} {k n : Int} {t : ByteArray} {T : TypeId} : Bv W.heap.size ⟨k, n, t⟩ (W.alloc (.cells #[.int .u8 k, .int .i64 n, .string t] T)) := ⟨by simp [go_sem], by simp [go_sem], by simp [go_sem], fun j => by simp [go_sem]⟩
theorem Bv.on {g : Nat} {v : V} {W w1 : World} (h : Bv g v W) (hb : Below W.heap.size W w1) : Bv g v w1 :=
  ⟨(hb.cell (p := ⟨g, 0, none⟩) h.lt).trans h.c0, (hb.cell (p := ⟨g, 1, none⟩) h.lt).trans h.c1, (hb.cell (p := ⟨g, 2, none⟩) h.lt).trans h.c2, fun j => (hb.frozen (p := ⟨g, j, none⟩) h.lt).trans (h.fz j)⟩
theorem Bv.alloc {g : Nat} {v : V} {W : World} (h : Bv g v W) (o : Obj) : Bv g v (W.alloc o) := h.on ((Below.refl _ _).alloc (Nat.le_refl _) o)
theorem Bv.far {g k : Nat} {v : V} {W w1 : World} (h : Bv g v W) (hg : W.grownBy w1 (some k)) (hne : g ≠ k) : Bv g v w1 :=
  have hb := hg.block g h.lt (by simpa using hne)
  ⟨(World.cell?_of_block (a := ⟨g, 0, none⟩) hb).trans h.c0, (World.cell?_of_block (a := ⟨g, 1, none⟩) hb).trans h.c1, (World.cell?_of_block (a := ⟨g, 2, none⟩) hb).trans h.c2, fun j => (World.frozen?_of_block (a := ⟨g, j, none⟩) hb).trans (h.fz j)⟩
theorem Bv.set0 {g : Nat} {k k' n : Int} {t : ByteArray} {W : World} (h : Bv g ⟨k, n, t⟩ W) : Bv g ⟨k', n, t⟩ (W.setCell ⟨g, 0, none⟩ (.int .u8 k')) :=
  ⟨World.cell?_setCell_same _ _ _ h.c0, (World.cell?_setCell_other _ _ _ _ (by simp)).trans h.c1, (World.cell?_setCell_other _ _ _ _ (by simp)).trans h.c2, fun j => by rw [World.frozen?_setCell]; exact h.fz j⟩
theorem Rd.other {g k j : Nat} {s : ByteArray} {e : Int} {x : Value} {W : World} (h : Rd g s e W) (hne : k ≠ g) : Rd g s e (W.setCell ⟨k, j, none⟩ x) :=
  ⟨(World.cell?_setCell_other _ _ _ _ (by simp [hne])).trans h.c0, (World.cell?_setCell_other _ _ _ _ (by simp [hne])).trans h.c1, fun i => by rw [World.frozen?_setCell]; exact h.fz i⟩
theorem gr_new {a b : World} {g k j : Nat} {x : Value} (h : a.grownBy b (some g)) (hk : a.heap.size ≤ k) : a.grownBy (b.setCell ⟨k, j, none⟩ x) (some g) :=
  ⟨h.os, h.tape, h.output, by have := h.size; simpa using this, fun i hi hr => (heap_setCell_other b ⟨k, j, none⟩ i x (by simp; omega)).trans (h.block i hi hr)⟩
theorem cell_alloc {w : World} {b j : Nat} {v : Value} (h : w.cell? ⟨b, j, none⟩ = some v) (o : Obj) : (w.alloc o).cell? ⟨b, j, none⟩ = some v :=
  (((Below.refl w.heap.size w).alloc (Nat.le_refl _) o).cell (p := ⟨b, j, none⟩) (World.block_lt_of_cell? w ⟨b, j, none⟩ h)).trans h
theorem cell_set {w : World} {b j k i : Nat} {v x : Value} (h : w.cell? ⟨b, j, none⟩ = some v) (hne : k ≠ b) : (w.setCell ⟨k, i, none⟩ x).cell? ⟨b, j, none⟩ = some v :=
  (World.cell?_setCell_other _ _ _ _ (by simp [hne])).trans h
theorem gr_at {a b : World} {g j : Nat} {x : Value} (h : a.grownBy b (some g)) : a.grownBy (b.setCell ⟨g, j, none⟩ x) (some g) := gr_trans h (gr_set b g j x)
theorem gr_al {a b : World} {r : Option Nat} (h : a.grownBy b r) (o : Obj) : a.grownBy (b.alloc o) r := gr_trans h (gr_alloc b o r)
theorem gr_dr {a b : World} {r : Option Nat} (h : a.grownBy b r) : a.grownBy b.drew r := ⟨h.os, h.tape, h.output, h.size, h.block⟩
theorem Rd.drew {g : Nat} {s : ByteArray} {e : Int} {W : World} (h : Rd g s e W) : Rd g s e W.drew := ⟨h.c0, h.c1, h.fz⟩
theorem gr_lt {a b : World} {r : Option Nat} (h : a.grownBy b r) {k : Nat} (hk : k < a.heap.size) : k < b.heap.size := Nat.lt_of_lt_of_le hk h.size
theorem text_two (most : Int) (s : ByteArray) : (∃ y t, textS most ⟨s, 0⟩ = (y, 0, ⟨t, 0⟩)) ∨ (∃ c, textS most ⟨s, 0⟩ = (⟨#[]⟩, c, St.bad c) ∧ c ≠ 0) := by
  rcases num_two s with ⟨n, t, hr, hn, ht⟩ | ⟨c, hr, hc⟩
  · unfold textS
    rw [hr]
    simp only
    rw [if_pos trivial]
    by_cases h1 : most < n
    · rw [if_pos h1]; exact .inr ⟨40, rfl, by decide⟩
    · rw [if_neg h1]
      by_cases h2 : t.size < n
      · rw [if_pos h2]; exact .inr ⟨8, rfl, by decide⟩
      · rw [if_neg h2]; exact .inl ⟨_, _, rfl⟩
  · unfold textS
    rw [hr]
    simp only
    rw [if_neg (by omega)]
    exact .inr ⟨c, rfl, by omega⟩
set_option maxHeartbeats 1000000 in
theorem val1_no (g bx : Nat) (s : ByteArray) (hs : s.size ≤ 1099511627776) (w : World) (h : Rd g s 0 w) (hb : w.cell? ⟨bx, 0, none⟩ = some (.pointer (some ⟨g, 0, none⟩))) (c : Int) (hc : c ≠ 0) (hr : numS ⟨s, 0⟩ = (0, c, St.bad c)) :
    Calls Try.prog 44 #[.pointer (some ⟨bx, 0, none⟩)] w (RPost g w (.tuple #[.agg #[.int .u8 0, .int .i64 0, .string ⟨#[]⟩], .int .i64 c]) (St.bad c)) := by
  have hbg := bx_ne h hb (by simp)
  have hvg : w.heap.size ≠ g := by have := h.lt; omega
  have hvb : w.heap.size ≠ bx := by have := World.block_lt_of_cell? w ⟨bx, 0, none⟩ hb; simp at this; omega
  have h' := Rd.alloc h (.cells #[.int .u8 0, .int .i64 0, .string ⟨#[]⟩] 23)
  have hb' := cell_alloc hb (.cells #[.int .u8 0, .int .i64 0, .string ⟨#[]⟩] 23)
  have v0 : Bv w.heap.size ⟨0, 0, ⟨#[]⟩⟩ (w.alloc (.cells #[.int .u8 0, .int .i64 0, .string ⟨#[]⟩] 23)) := Bv.new
  have HR := Lib.hid hr
  have hcb : (c != 0) = true := by simpa using hc
  have hcc : (c == 0) = false := by simpa using hc
  clear hr
  go_enter Try.func44, Try.ntmps44
  go_wp2_with fail
  refine (numRC g ⟨s, 0⟩ hs _ h').mono ?_
  rw [HR.out]
  rintro e w1 ⟨rfl, hr1, hg1⟩
  dsimp only [St.bad] at hr1
  have qb := cell_far hg1 hb' hbg
  have v1 := v0.far hg1 hvg
  have k0 := v1.c0
  have k1 := v1.c1
  have k2 := v1.c2
  have kf0 := v1.fz 0
  have kf1 := v1.fz 1
  have kf2 := v1.fz 2
  dsimp only at k0 k1 k2
  go_wp2_with fail
  refine bodyPost_ret (v := .tuple #[.agg #[.int .u8 0, .int .i64 0, .string ⟨#[]⟩], .int .i64 c]) (by simp [results, Try.results44, go_sem, k0, k1, k2]) rfl ?_
  exact ⟨rfl, by ((try dsimp only [St.bad]); (repeat' (first | (with_reducible assumption) | (with_reducible apply Rd.set0) | (with_reducible apply Rd.set1) | (with_reducible refine Rd.other ?_ (by with_reducible assumption)) | (with_reducible refine Rd.alloc ?_ _) | (with_reducible refine Rd.drew ?_)))), by (repeat' (first | (with_reducible assumption) | (with_reducible exact gr_refl _ _) | (with_reducible refine gr_al ?_ _) | (with_reducible refine gr_dr ?_) | (with_reducible refine gr_at ?_) | (with_reducible refine gr_new ?_ (by first | exact Nat.le_refl _ | omega)) | (with_reducible refine gr_trans ?_ (by with_reducible assumption))))⟩
set_option maxHeartbeats 1000000 in
theorem val1_kind (g bx : Nat) (s : ByteArray) (hs : s.size ≤ 1099511627776) (w : World) (h : Rd g s 0 w) (hb : w.cell? ⟨bx, 0, none⟩ = some (.pointer (some ⟨g, 0, none⟩))) (n : Nat) (hn : 3 < n) (t : ByteArray) (hts : t.size ≤ 1099511627776) (hr : numS ⟨s, 0⟩ = (n, 0, ⟨t, 0⟩)) :
    Calls Try.prog 44 #[.pointer (some ⟨bx, 0, none⟩)] w (RPost g w (.tuple #[.agg #[.int .u8 0, .int .i64 0, .string ⟨#[]⟩], .int .i64 4]) ⟨t, 0⟩) := by
  have hbg := bx_ne h hb (by simp)
  have hvg : w.heap.size ≠ g := by have := h.lt; omega
  have hvb : w.heap.size ≠ bx := by have := World.block_lt_of_cell? w ⟨bx, 0, none⟩ hb; simp at this; omega
  have h' := Rd.alloc h (.cells #[.int .u8 0, .int .i64 0, .string ⟨#[]⟩] 23)
  have hb' := cell_alloc hb (.cells #[.int .u8 0, .int .i64 0, .string ⟨#[]⟩] 23)
  have v0 : Bv w.heap.size ⟨0, 0, ⟨#[]⟩⟩ (w.alloc (.cells #[.int .u8 0, .int .i64 0, .string ⟨#[]⟩] 23)) := Bv.new
  have HR := Lib.hid hr
  have t1 : decide ((3 : Int) < (n : Int)) = true := by simp; omega
  have t2 : decide (3 < n) = true := by simpa using hn
  clear hr
  go_enter Try.func44, Try.ntmps44
  go_wp2_with fail
  refine (numRC g ⟨s, 0⟩ hs _ h').mono ?_
  rw [HR.out]
  rintro e w1 ⟨rfl, hr1, hg1⟩
  dsimp only [St.bad] at hr1
  have qb := cell_far hg1 hb' hbg
  have v1 := v0.far hg1 hvg
  have k0 := v1.c0
  have k1 := v1.c1
  have k2 := v1.c2
  have kf0 := v1.fz 0
  have kf1 := v1.fz 1
  have kf2 := v1.fz 2
  dsimp only at k0 k1 k2
  go_wp2_with fail
  refine bodyPost_ret (v := .tuple #[.agg #[.int .u8 0, .int .i64 0, .string ⟨#[]⟩], .int .i64 4]) (by simp [results, Try.results44, go_sem, k0, k1, k2]) rfl ?_
  exact ⟨rfl, by ((try dsimp only [St.bad]); (repeat' (first | (with_reducible assumption) | (with_reducible apply Rd.set0) | (with_reducible apply Rd.set1) | (with_reducible refine Rd.other ?_ (by with_reducible assumption)) | (with_reducible refine Rd.alloc ?_ _) | (with_reducible refine Rd.drew ?_)))), by (repeat' (first | (with_reducible assumption) | (with_reducible exact gr_refl _ _) | (with_reducible refine gr_al ?_ _) | (with_reducible refine gr_dr ?_) | (with_reducible refine gr_at ?_) | (with_reducible refine gr_new ?_ (by first | exact Nat.le_refl _ | omega)) | (with_reducible refine gr_trans ?_ (by with_reducible assumption))))⟩
set_option maxHeartbeats 1000000 in
theorem val1_none (g bx : Nat) (s : ByteArray) (hs : s.size ≤ 1099511627776) (w : World) (h : Rd g s 0 w) (hb : w.cell? ⟨bx, 0, none⟩ = some (.pointer (some ⟨g, 0, none⟩))) (t : ByteArray) (hts : t.size ≤ 1099511627776) (hr : numS ⟨s, 0⟩ = (0, 0, ⟨t, 0⟩)) :
    Calls Try.prog 44 #[.pointer (some ⟨bx, 0, none⟩)] w (RPost g w (.tuple #[.agg #[.int .u8 0, .int .i64 0, .string ⟨#[]⟩], .int .i64 0]) ⟨t, 0⟩) := by
  have hbg := bx_ne h hb (by simp)
  have hvg : w.heap.size ≠ g := by have := h.lt; omega
  have hvb : w.heap.size ≠ bx := by have := World.block_lt_of_cell? w ⟨bx, 0, none⟩ hb; simp at this; omega
  have h' := Rd.alloc h (.cells #[.int .u8 0, .int .i64 0, .string ⟨#[]⟩] 23)
  have hb' := cell_alloc hb (.cells #[.int .u8 0, .int .i64 0, .string ⟨#[]⟩] 23)
  have v0 : Bv w.heap.size ⟨0, 0, ⟨#[]⟩⟩ (w.alloc (.cells #[.int .u8 0, .int .i64 0, .string ⟨#[]⟩] 23)) := Bv.new
  have HR := Lib.hid hr
  clear hr
  go_enter Try.func44, Try.ntmps44
  go_wp2_with fail
  refine (numRC g ⟨s, 0⟩ hs _ h').mono ?_
  rw [HR.out]
  rintro e w1 ⟨rfl, hr1, hg1⟩
  dsimp only [St.bad] at hr1
  have qb := cell_far hg1 hb' hbg
  have v1 := v0.far hg1 hvg
  have k0 := v1.c0
  have k1 := v1.c1
  have k2 := v1.c2
  have kf0 := v1.fz 0
  have kf1 := v1.fz 1
  have kf2 := v1.fz 2
  dsimp only at k0 k1 k2
  go_wp2_with fail
  refine bodyPost_ret (v := .tuple #[.agg #[.int .u8 0, .int .i64 0, .string ⟨#[]⟩], .int .i64 0]) (by simp [results, Try.results44, go_sem, k0, k1, k2]) rfl ?_
  exact ⟨rfl, by ((try dsimp only [St.bad]); (repeat' (first | (with_reducible assumption) | (with_reducible apply Rd.set0) | (with_reducible apply Rd.set1) | (with_reducible refine Rd.other ?_ (by with_reducible assumption)) | (with_reducible refine Rd.alloc ?_ _) | (with_reducible refine Rd.drew ?_)))), by (repeat' (first | (with_reducible assumption) | (with_reducible exact gr_refl _ _) | (with_reducible refine gr_al ?_ _) | (with_reducible refine gr_dr ?_) | (with_reducible refine gr_at ?_) | (with_reducible refine gr_new ?_ (by first | exact Nat.le_refl _ | omega)) | (with_reducible refine gr_trans ?_ (by with_reducible assumption))))⟩
set_option maxHeartbeats 1000000 in
theorem val1_int (g bx : Nat) (s : ByteArray) (hs : s.size ≤ 1099511627776) (w : World) (h : Rd g s 0 w) (hb : w.cell? ⟨bx, 0, none⟩ = some (.pointer (some ⟨g, 0, none⟩))) (t : ByteArray) (hts : t.size ≤ 1099511627776) (hr : numS ⟨s, 0⟩ = (1, 0, ⟨t, 0⟩)) (x : Int) (t2 : ByteArray) (hr2 : intS ⟨t, 0⟩ = (x, 0, ⟨t2, 0⟩)) :
    Calls Try.prog 44 #[.pointer (some ⟨bx, 0, none⟩)] w (RPost g w (.tuple #[.agg #[.int .u8 1, .int .i64 x, .string ⟨#[]⟩], .int .i64 0]) ⟨t2, 0⟩) := by
  have hbg := bx_ne h hb (by simp)
  have hvg : w.heap.size ≠ g := by have := h.lt; omega
  have hvb : w.heap.size ≠ bx := by have := World.block_lt_of_cell? w ⟨bx, 0, none⟩ hb; simp at this; omega
  have h' := Rd.alloc h (.cells #[.int .u8 0, .int .i64 0, .string ⟨#[]⟩] 23)
  have hb' := cell_alloc hb (.cells #[.int .u8 0, .int .i64 0, .string ⟨#[]⟩] 23)
  have v0 : Bv w.heap.size ⟨0, 0, ⟨#[]⟩⟩ (w.alloc (.cells #[.int .u8 0, .int .i64 0, .string ⟨#[]⟩] 23)) := Bv.new
  have HR := Lib.hid hr
  have HR2 := Lib.hid hr2
  clear hr2
  clear hr
  go_enter Try.func44, Try.ntmps44
  go_wp2_with fail
  refine (numRC g ⟨s, 0⟩ hs _ h').mono ?_
  rw [HR.out]
  rintro e w1 ⟨rfl, hr1, hg1⟩
  dsimp only [St.bad] at hr1
  have qb := cell_far hg1 hb' hbg
  have v1 := v0.far hg1 hvg
  have k0 := v1.c0
  have k1 := v1.c1
  have k2 := v1.c2
  have kf0 := v1.fz 0
  have kf1 := v1.fz 1
  have kf2 := v1.fz 2
  dsimp only at k0 k1 k2
  go_wp2_with fail
  have qb1 := cell_set (i := 0) (x := .int .u8 1) qb hvb
  refine (intRC g ⟨t, 0⟩ hts _ (Rd.other hr1 hvg)).mono ?_
  rw [HR2.out]
  rintro e w2 ⟨rfl, hr2, hg2⟩
  dsimp only [St.bad] at hr2
  have qb2 := cell_far hg2 qb1 hbg
  have v2 := (v1.set0 (k' := 1)).far hg2 hvg
  clear k0 k1 k2 kf0 kf1 kf2
  have k0 := v2.c0
  have k1 := v2.c1
  have k2 := v2.c2
  have kf0 := v2.fz 0
  have kf1 := v2.fz 1
  have kf2 := v2.fz 2
  dsimp only at k0 k1 k2
  go_wp2_with fail
  refine bodyPost_ret (v := .tuple #[.agg #[.int .u8 1, .int .i64 x, .string ⟨#[]⟩], .int .i64 0]) (by simp [results, Try.results44, go_sem, k0, k1, k2]) rfl ?_
  exact ⟨rfl, by ((try dsimp only [St.bad]); (repeat' (first | (with_reducible assumption) | (with_reducible apply Rd.set0) | (with_reducible apply Rd.set1) | (with_reducible refine Rd.other ?_ (by with_reducible assumption)) | (with_reducible refine Rd.alloc ?_ _) | (with_reducible refine Rd.drew ?_)))), by (repeat' (first | (with_reducible assumption) | (with_reducible exact gr_refl _ _) | (with_reducible refine gr_al ?_ _) | (with_reducible refine gr_dr ?_) | (with_reducible refine gr_at ?_) | (with_reducible refine gr_new ?_ (by first | exact Nat.le_refl _ | omega)) | (with_reducible refine gr_trans ?_ (by with_reducible assumption))))⟩
set_option maxHeartbeats 1000000 in
theorem val1_intno (g bx : Nat) (s : ByteArray) (hs : s.size ≤ 1099511627776) (w : World) (h : Rd g s 0 w) (hb : w.cell? ⟨bx, 0, none⟩ = some (.pointer (some ⟨g, 0, none⟩))) (t : ByteArray) (hts : t.size ≤ 1099511627776) (hr : numS ⟨s, 0⟩ = (1, 0, ⟨t, 0⟩)) (c : Int) (hc : c ≠ 0) (hr2 : intS ⟨t, 0⟩ = (0, c, St.bad c)) :
    Calls Try.prog 44 #[.pointer (some ⟨bx, 0, none⟩)] w (RPost g w (.tuple #[.agg #[.int .u8 1, .int .i64 0, .string ⟨#[]⟩], .int .i64 c]) (St.bad c)) := by
  have hbg := bx_ne h hb (by simp)
  have hvg : w.heap.size ≠ g := by have := h.lt; omega
  have hvb : w.heap.size ≠ bx := by have := World.block_lt_of_cell? w ⟨bx, 0, none⟩ hb; simp at this; omega
  have h' := Rd.alloc h (.cells #[.int .u8 0, .int .i64 0, .string ⟨#[]⟩] 23)
  have hb' := cell_alloc hb (.cells #[.int .u8 0, .int .i64 0, .string ⟨#[]⟩] 23)
  have v0 : Bv w.heap.size ⟨0, 0, ⟨#[]⟩⟩ (w.alloc (.cells #[.int .u8 0, .int .i64 0, .string ⟨#[]⟩] 23)) := Bv.new
  have HR := Lib.hid hr
  have HR2 := Lib.hid hr2
  clear hr2
  have hcb : (c != 0) = true := by simpa using hc
  have hcc : (c == 0) = false := by simpa using hc
  clear hr
  go_enter Try.func44, Try.ntmps44
  go_wp2_with fail
  refine (numRC g ⟨s, 0⟩ hs _ h').mono ?_
  rw [HR.out]
  rintro e w1 ⟨rfl, hr1, hg1⟩
  dsimp only [St.bad] at hr1
  have qb := cell_far hg1 hb' hbg
  have v1 := v0.far hg1 hvg
  have k0 := v1.c0
  have k1 := v1.c1
  have k2 := v1.c2
  have kf0 := v1.fz 0
  have kf1 := v1.fz 1
  have kf2 := v1.fz 2
  dsimp only at k0 k1 k2
  go_wp2_with fail
  have qb1 := cell_set (i := 0) (x := .int .u8 1) qb hvb
  refine (intRC g ⟨t, 0⟩ hts _ (Rd.other hr1 hvg)).mono ?_
  rw [HR2.out]
  rintro e w2 ⟨rfl, hr2, hg2⟩
  dsimp only [St.bad] at hr2
  have qb2 := cell_far hg2 qb1 hbg
  have v2 := (v1.set0 (k' := 1)).far hg2 hvg
  clear k0 k1 k2 kf0 kf1 kf2
  have k0 := v2.c0
  have k1 := v2.c1
  have k2 := v2.c2
  have kf0 := v2.fz 0
  have kf1 := v2.fz 1
  have kf2 := v2.fz 2
  dsimp only at k0 k1 k2
  go_wp2_with fail
  refine bodyPost_ret (v := .tuple #[.agg #[.int .u8 1, .int .i64 0, .string ⟨#[]⟩], .int .i64 c]) (by simp [results, Try.results44, go_sem, k0, k1, k2]) rfl ?_
  exact ⟨rfl, by ((try dsimp only [St.bad]); (repeat' (first | (with_reducible assumption) | (with_reducible apply Rd.set0) | (with_reducible apply Rd.set1) | (with_reducible refine Rd.other ?_ (by with_reducible assumption)) | (with_reducible refine Rd.alloc ?_ _) | (with_reducible refine Rd.drew ?_)))), by (repeat' (first | (with_reducible assumption) | (with_reducible exact gr_refl _ _) | (with_reducible refine gr_al ?_ _) | (with_reducible refine gr_dr ?_) | (with_reducible refine gr_at ?_) | (with_reducible refine gr_new ?_ (by first | exact Nat.le_refl _ | omega)) | (with_reducible refine gr_trans ?_ (by with_reducible assumption))))⟩
set_option maxHeartbeats 1000000 in
theorem val1_bool (g bx : Nat) (s : ByteArray) (hs : s.size ≤ 1099511627776) (w : World) (h : Rd g s 0 w) (hb : w.cell? ⟨bx, 0, none⟩ = some (.pointer (some ⟨g, 0, none⟩))) (t : ByteArray) (hts : t.size ≤ 1099511627776) (hr : numS ⟨s, 0⟩ = (2, 0, ⟨t, 0⟩)) (m : Nat) (hm : m ≤ 1) (t2 : ByteArray) (hr2 : numS ⟨t, 0⟩ = (m, 0, ⟨t2, 0⟩)) :
    Calls Try.prog 44 #[.pointer (some ⟨bx, 0, none⟩)] w (RPost g w (.tuple #[.agg #[.int .u8 2, .int .i64 (m : Int), .string ⟨#[]⟩], .int .i64 0]) ⟨t2, 0⟩) := by
  have hbg := bx_ne h hb (by simp)
  have hvg : w.heap.size ≠ g := by have := h.lt; omega
  have hvb : w.heap.size ≠ bx := by have := World.block_lt_of_cell? w ⟨bx, 0, none⟩ hb; simp at this; omega
  have h' := Rd.alloc h (.cells #[.int .u8 0, .int .i64 0, .string ⟨#[]⟩] 23)
  have hb' := cell_alloc hb (.cells #[.int .u8 0, .int .i64 0, .string ⟨#[]⟩] 23)
  have v0 : Bv w.heap.size ⟨0, 0, ⟨#[]⟩⟩ (w.alloc (.cells #[.int .u8 0, .int .i64 0, .string ⟨#[]⟩] 23)) := Bv.new
  have HR := Lib.hid hr
  have HR2 := Lib.hid hr2
  clear hr2
  have t1 : decide ((1 : Int) < (m : Int)) = false := by simp; omega
  have t3 : decide (1 < m) = false := by simp; omega
  clear hr
  go_enter Try.func44, Try.ntmps44
  go_wp2_with fail
  refine (numRC g ⟨s, 0⟩ hs _ h').mono ?_
  rw [HR.out]
  rintro e w1 ⟨rfl, hr1, hg1⟩
  dsimp only [St.bad] at hr1
  have qb := cell_far hg1 hb' hbg
  have v1 := v0.far hg1 hvg
  have k0 := v1.c0
  have k1 := v1.c1
  have k2 := v1.c2
  have kf0 := v1.fz 0
  have kf1 := v1.fz 1
  have kf2 := v1.fz 2
  dsimp only at k0 k1 k2
  go_wp2_with fail
  have qb1 := cell_set (i := 0) (x := .int .u8 2) qb hvb
  refine (numRC g ⟨t, 0⟩ hts _ (Rd.other hr1 hvg)).mono ?_
  rw [HR2.out]
  rintro e w2 ⟨rfl, hr2, hg2⟩
  dsimp only [St.bad] at hr2
  have qb2 := cell_far hg2 qb1 hbg
  have v2 := (v1.set0 (k' := 2)).far hg2 hvg
  clear k0 k1 k2 kf0 kf1 kf2
  have k0 := v2.c0
  have k1 := v2.c1
  have k2 := v2.c2
  have kf0 := v2.fz 0
  have kf1 := v2.fz 1
  have kf2 := v2.fz 2
  dsimp only at k0 k1 k2
  go_wp2_with fail
  refine bodyPost_ret (v := .tuple #[.agg #[.int .u8 2, .int .i64 (m : Int), .string ⟨#[]⟩], .int .i64 0]) (by simp [results, Try.results44, go_sem, k0, k1, k2]) rfl ?_
  exact ⟨rfl, by ((try dsimp only [St.bad]); (repeat' (first | (with_reducible assumption) | (with_reducible apply Rd.set0) | (with_reducible apply Rd.set1) | (with_reducible refine Rd.other ?_ (by with_reducible assumption)) | (with_reducible refine Rd.alloc ?_ _) | (with_reducible refine Rd.drew ?_)))), by (repeat' (first | (with_reducible assumption) | (with_reducible exact gr_refl _ _) | (with_reducible refine gr_al ?_ _) | (with_reducible refine gr_dr ?_) | (with_reducible refine gr_at ?_) | (with_reducible refine gr_new ?_ (by first | exact Nat.le_refl _ | omega)) | (with_reducible refine gr_trans ?_ (by with_reducible assumption))))⟩
set_option maxHeartbeats 1000000 in
theorem val1_boolbig (g bx : Nat) (s : ByteArray) (hs : s.size ≤ 1099511627776) (w : World) (h : Rd g s 0 w) (hb : w.cell? ⟨bx, 0, none⟩ = some (.pointer (some ⟨g, 0, none⟩))) (t : ByteArray) (hts : t.size ≤ 1099511627776) (hr : numS ⟨s, 0⟩ = (2, 0, ⟨t, 0⟩)) (m : Nat) (hm : 1 < m) (t2 : ByteArray) (hr2 : numS ⟨t, 0⟩ = (m, 0, ⟨t2, 0⟩)) :
    Calls Try.prog 44 #[.pointer (some ⟨bx, 0, none⟩)] w (RPost g w (.tuple #[.agg #[.int .u8 2, .int .i64 (m : Int), .string ⟨#[]⟩], .int .i64 4]) ⟨t2, 0⟩) := by
  have hbg := bx_ne h hb (by simp)
  have hvg : w.heap.size ≠ g := by have := h.lt; omega
  have hvb : w.heap.size ≠ bx := by have := World.block_lt_of_cell? w ⟨bx, 0, none⟩ hb; simp at this; omega
  have h' := Rd.alloc h (.cells #[.int .u8 0, .int .i64 0, .string ⟨#[]⟩] 23)
  have hb' := cell_alloc hb (.cells #[.int .u8 0, .int .i64 0, .string ⟨#[]⟩] 23)
  have v0 : Bv w.heap.size ⟨0, 0, ⟨#[]⟩⟩ (w.alloc (.cells #[.int .u8 0, .int .i64 0, .string ⟨#[]⟩] 23)) := Bv.new
  have HR := Lib.hid hr
  have HR2 := Lib.hid hr2
  clear hr2
  have t1 : decide ((1 : Int) < (m : Int)) = true := by simp; omega
  have t3 : decide (1 < m) = true := by simp; omega
  clear hr
  go_enter Try.func44, Try.ntmps44
  go_wp2_with fail
  refine (numRC g ⟨s, 0⟩ hs _ h').mono ?_
  rw [HR.out]
  rintro e w1 ⟨rfl, hr1, hg1⟩
  dsimp only [St.bad] at hr1
  have qb := cell_far hg1 hb' hbg
  have v1 := v0.far hg1 hvg
  have k0 := v1.c0
  have k1 := v1.c1
  have k2 := v1.c2
  have kf0 := v1.fz 0
  have kf1 := v1.fz 1
  have kf2 := v1.fz 2
  dsimp only at k0 k1 k2
  go_wp2_with fail
  have qb1 := cell_set (i := 0) (x := .int .u8 2) qb hvb
  refine (numRC g ⟨t, 0⟩ hts _ (Rd.other hr1 hvg)).mono ?_
  rw [HR2.out]
  rintro e w2 ⟨rfl, hr2, hg2⟩
  dsimp only [St.bad] at hr2
  have qb2 := cell_far hg2 qb1 hbg
  have v2 := (v1.set0 (k' := 2)).far hg2 hvg
  clear k0 k1 k2 kf0 kf1 kf2
  have k0 := v2.c0
  have k1 := v2.c1
  have k2 := v2.c2
  have kf0 := v2.fz 0
  have kf1 := v2.fz 1
  have kf2 := v2.fz 2
  dsimp only at k0 k1 k2
  go_wp2_with fail
  refine bodyPost_ret (v := .tuple #[.agg #[.int .u8 2, .int .i64 (m : Int), .string ⟨#[]⟩], .int .i64 4]) (by simp [results, Try.results44, go_sem, k0, k1, k2]) rfl ?_
  exact ⟨rfl, by ((try dsimp only [St.bad]); (repeat' (first | (with_reducible assumption) | (with_reducible apply Rd.set0) | (with_reducible apply Rd.set1) | (with_reducible refine Rd.other ?_ (by with_reducible assumption)) | (with_reducible refine Rd.alloc ?_ _) | (with_reducible refine Rd.drew ?_)))), by (repeat' (first | (with_reducible assumption) | (with_reducible exact gr_refl _ _) | (with_reducible refine gr_al ?_ _) | (with_reducible refine gr_dr ?_) | (with_reducible refine gr_at ?_) | (with_reducible refine gr_new ?_ (by first | exact Nat.le_refl _ | omega)) | (with_reducible refine gr_trans ?_ (by with_reducible assumption))))⟩
set_option maxHeartbeats 1000000 in
theorem val1_boolno (g bx : Nat) (s : ByteArray) (hs : s.size ≤ 1099511627776) (w : World) (h : Rd g s 0 w) (hb : w.cell? ⟨bx, 0, none⟩ = some (.pointer (some ⟨g, 0, none⟩))) (t : ByteArray) (hts : t.size ≤ 1099511627776) (hr : numS ⟨s, 0⟩ = (2, 0, ⟨t, 0⟩)) (c : Int) (hc : c ≠ 0) (hr2 : numS ⟨t, 0⟩ = (0, c, St.bad c)) :
    Calls Try.prog 44 #[.pointer (some ⟨bx, 0, none⟩)] w (RPost g w (.tuple #[.agg #[.int .u8 2, .int .i64 0, .string ⟨#[]⟩], .int .i64 c]) (St.bad c)) := by
  have hbg := bx_ne h hb (by simp)
  have hvg : w.heap.size ≠ g := by have := h.lt; omega
  have hvb : w.heap.size ≠ bx := by have := World.block_lt_of_cell? w ⟨bx, 0, none⟩ hb; simp at this; omega
  have h' := Rd.alloc h (.cells #[.int .u8 0, .int .i64 0, .string ⟨#[]⟩] 23)
  have hb' := cell_alloc hb (.cells #[.int .u8 0, .int .i64 0, .string ⟨#[]⟩] 23)
  have v0 : Bv w.heap.size ⟨0, 0, ⟨#[]⟩⟩ (w.alloc (.cells #[.int .u8 0, .int .i64 0, .string ⟨#[]⟩] 23)) := Bv.new
  have HR := Lib.hid hr
  have HR2 := Lib.hid hr2
  clear hr2
  have hcb : (c != 0) = true := by simpa using hc
  have hcc : (c == 0) = false := by simpa using hc
  clear hr
  go_enter Try.func44, Try.ntmps44
  go_wp2_with fail
  refine (numRC g ⟨s, 0⟩ hs _ h').mono ?_
  rw [HR.out]
  rintro e w1 ⟨rfl, hr1, hg1⟩
  dsimp only [St.bad] at hr1
  have qb := cell_far hg1 hb' hbg
  have v1 := v0.far hg1 hvg
  have k0 := v1.c0
  have k1 := v1.c1
  have k2 := v1.c2
  have kf0 := v1.fz 0
  have kf1 := v1.fz 1
  have kf2 := v1.fz 2
  dsimp only at k0 k1 k2
  go_wp2_with fail
  have qb1 := cell_set (i := 0) (x := .int .u8 2) qb hvb
  refine (numRC g ⟨t, 0⟩ hts _ (Rd.other hr1 hvg)).mono ?_
  rw [HR2.out]
  rintro e w2 ⟨rfl, hr2, hg2⟩
  dsimp only [St.bad] at hr2
  have qb2 := cell_far hg2 qb1 hbg
  have v2 := (v1.set0 (k' := 2)).far hg2 hvg
  clear k0 k1 k2 kf0 kf1 kf2
  have k0 := v2.c0
  have k1 := v2.c1
  have k2 := v2.c2
  have kf0 := v2.fz 0
  have kf1 := v2.fz 1
  have kf2 := v2.fz 2
  dsimp only at k0 k1 k2
  go_wp2_with fail
  refine bodyPost_ret (v := .tuple #[.agg #[.int .u8 2, .int .i64 0, .string ⟨#[]⟩], .int .i64 c]) (by simp [results, Try.results44, go_sem, k0, k1, k2]) rfl ?_
  exact ⟨rfl, by ((try dsimp only [St.bad]); (repeat' (first | (with_reducible assumption) | (with_reducible apply Rd.set0) | (with_reducible apply Rd.set1) | (with_reducible refine Rd.other ?_ (by with_reducible assumption)) | (with_reducible refine Rd.alloc ?_ _) | (with_reducible refine Rd.drew ?_)))), by (repeat' (first | (with_reducible assumption) | (with_reducible exact gr_refl _ _) | (with_reducible refine gr_al ?_ _) | (with_reducible refine gr_dr ?_) | (with_reducible refine gr_at ?_) | (with_reducible refine gr_new ?_ (by first | exact Nat.le_refl _ | omega)) | (with_reducible refine gr_trans ?_ (by with_reducible assumption))))⟩
set_option maxHeartbeats 1000000 in
theorem val1_text (g bx : Nat) (s : ByteArray) (hs : s.size ≤ 1099511627776) (w : World) (h : Rd g s 0 w) (hb : w.cell? ⟨bx, 0, none⟩ = some (.pointer (some ⟨g, 0, none⟩))) (t : ByteArray) (hts : t.size ≤ 1099511627776) (hr : numS ⟨s, 0⟩ = (3, 0, ⟨t, 0⟩)) (y t2 : ByteArray) (hr2 : textS 40 ⟨t, 0⟩ = (y, 0, ⟨t2, 0⟩)) :
    Calls Try.prog 44 #[.pointer (some ⟨bx, 0, none⟩)] w (RPost g w (.tuple #[.agg #[.int .u8 3, .int .i64 0, .string y], .int .i64 0]) ⟨t2, 0⟩) := by
  have hbg := bx_ne h hb (by simp)
  have hvg : w.heap.size ≠ g := by have := h.lt; omega
  have hvb : w.heap.size ≠ bx := by have := World.block_lt_of_cell? w ⟨bx, 0, none⟩ hb; simp at this; omega
  have h' := Rd.alloc h (.cells #[.int .u8 0, .int .i64 0, .string ⟨#[]⟩] 23)
  have hb' := cell_alloc hb (.cells #[.int .u8 0, .int .i64 0, .string ⟨#[]⟩] 23)
  have v0 : Bv w.heap.size ⟨0, 0, ⟨#[]⟩⟩ (w.alloc (.cells #[.int .u8 0, .int .i64 0, .string ⟨#[]⟩] 23)) := Bv.new
  have HR := Lib.hid hr
  have HR2 := Lib.hid hr2
  clear hr2
  clear hr
  go_enter Try.func44, Try.ntmps44
  go_wp2_with fail
  refine (numRC g ⟨s, 0⟩ hs _ h').mono ?_
  rw [HR.out]
  rintro e w1 ⟨rfl, hr1, hg1⟩
  dsimp only [St.bad] at hr1
  have qb := cell_far hg1 hb' hbg
  have v1 := v0.far hg1 hvg
  have k0 := v1.c0
  have k1 := v1.c1
  have k2 := v1.c2
  have kf0 := v1.fz 0
  have kf1 := v1.fz 1
  have kf2 := v1.fz 2
  dsimp only at k0 k1 k2
  go_wp2_with fail
  have qb1 := cell_set (i := 0) (x := .int .u8 3) qb hvb
  refine (textRC g 40 ⟨t, 0⟩ hts _ (Rd.other hr1 hvg)).mono ?_
  rw [HR2.out]
  rintro e w2 ⟨rfl, hr2, hg2⟩
  dsimp only [St.bad] at hr2
  have qb2 := cell_far hg2 qb1 hbg
  have v2 := (v1.set0 (k' := 3)).far hg2 hvg
  clear k0 k1 k2 kf0 kf1 kf2
  have k0 := v2.c0
  have k1 := v2.c1
  have k2 := v2.c2
  have kf0 := v2.fz 0
  have kf1 := v2.fz 1
  have kf2 := v2.fz 2
  dsimp only at k0 k1 k2
  go_wp2_with fail
  refine bodyPost_ret (v := .tuple #[.agg #[.int .u8 3, .int .i64 0, .string y], .int .i64 0]) (by simp [results, Try.results44, go_sem, k0, k1, k2]) rfl ?_
  exact ⟨rfl, by ((try dsimp only [St.bad]); (repeat' (first | (with_reducible assumption) | (with_reducible apply Rd.set0) | (with_reducible apply Rd.set1) | (with_reducible refine Rd.other ?_ (by with_reducible assumption)) | (with_reducible refine Rd.alloc ?_ _) | (with_reducible refine Rd.drew ?_)))), by (repeat' (first | (with_reducible assumption) | (with_reducible exact gr_refl _ _) | (with_reducible refine gr_al ?_ _) | (with_reducible refine gr_dr ?_) | (with_reducible refine gr_at ?_) | (with_reducible refine gr_new ?_ (by first | exact Nat.le_refl _ | omega)) | (with_reducible refine gr_trans ?_ (by with_reducible assumption))))⟩
set_option maxHeartbeats 1000000 in
theorem val1_textno (g bx : Nat) (s : ByteArray) (hs : s.size ≤ 1099511627776) (w : World) (h : Rd g s 0 w) (hb : w.cell? ⟨bx, 0, none⟩ = some (.pointer (some ⟨g, 0, none⟩))) (t : ByteArray) (hts : t.size ≤ 1099511627776) (hr : numS ⟨s, 0⟩ = (3, 0, ⟨t, 0⟩)) (c : Int) (hc : c ≠ 0) (hr2 : textS 40 ⟨t, 0⟩ = (⟨#[]⟩, c, St.bad c)) :
    Calls Try.prog 44 #[.pointer (some ⟨bx, 0, none⟩)] w (RPost g w (.tuple #[.agg #[.int .u8 3, .int .i64 0, .string ⟨#[]⟩], .int .i64 c]) (St.bad c)) := by
  have hbg := bx_ne h hb (by simp)
  have hvg : w.heap.size ≠ g := by have := h.lt; omega
  have hvb : w.heap.size ≠ bx := by have := World.block_lt_of_cell? w ⟨bx, 0, none⟩ hb; simp at this; omega
  have h' := Rd.alloc h (.cells #[.int .u8 0, .int .i64 0, .string ⟨#[]⟩] 23)
  have hb' := cell_alloc hb (.cells #[.int .u8 0, .int .i64 0, .string ⟨#[]⟩] 23)
  have v0 : Bv w.heap.size ⟨0, 0, ⟨#[]⟩⟩ (w.alloc (.cells #[.int .u8 0, .int .i64 0, .string ⟨#[]⟩] 23)) := Bv.new
  have HR := Lib.hid hr
  have HR2 := Lib.hid hr2
  clear hr2
  have hcb : (c != 0) = true := by simpa using hc
  have hcc : (c == 0) = false := by simpa using hc
  clear hr
  go_enter Try.func44, Try.ntmps44
  go_wp2_with fail
  refine (numRC g ⟨s, 0⟩ hs _ h').mono ?_
  rw [HR.out]
  rintro e w1 ⟨rfl, hr1, hg1⟩
  dsimp only [St.bad] at hr1
  have qb := cell_far hg1 hb' hbg
  have v1 := v0.far hg1 hvg
  have k0 := v1.c0
  have k1 := v1.c1
  have k2 := v1.c2
  have kf0 := v1.fz 0
  have kf1 := v1.fz 1
  have kf2 := v1.fz 2
  dsimp only at k0 k1 k2
  go_wp2_with fail
  have qb1 := cell_set (i := 0) (x := .int .u8 3) qb hvb
  refine (textRC g 40 ⟨t, 0⟩ hts _ (Rd.other hr1 hvg)).mono ?_
  rw [HR2.out]
  rintro e w2 ⟨rfl, hr2, hg2⟩
  dsimp only [St.bad] at hr2
  have qb2 := cell_far hg2 qb1 hbg
  have v2 := (v1.set0 (k' := 3)).far hg2 hvg
  clear k0 k1 k2 kf0 kf1 kf2
  have k0 := v2.c0
  have k1 := v2.c1
  have k2 := v2.c2
  have kf0 := v2.fz 0
  have kf1 := v2.fz 1
  have kf2 := v2.fz 2
  dsimp only at k0 k1 k2
  go_wp2_with fail
  refine bodyPost_ret (v := .tuple #[.agg #[.int .u8 3, .int .i64 0, .string ⟨#[]⟩], .int .i64 c]) (by simp [results, Try.results44, go_sem, k0, k1, k2]) rfl ?_
  exact ⟨rfl, by ((try dsimp only [St.bad]); (repeat' (first | (with_reducible assumption) | (with_reducible apply Rd.set0) | (with_reducible apply Rd.set1) | (with_reducible refine Rd.other ?_ (by with_reducible assumption)) | (with_reducible refine Rd.alloc ?_ _) | (with_reducible refine Rd.drew ?_)))), by (repeat' (first | (with_reducible assumption) | (with_reducible exact gr_refl _ _) | (with_reducible refine gr_al ?_ _) | (with_reducible refine gr_dr ?_) | (with_reducible refine gr_at ?_) | (with_reducible refine gr_new ?_ (by first | exact Nat.le_refl _ | omega)) | (with_reducible refine gr_trans ?_ (by with_reducible assumption))))⟩
set_option maxHeartbeats 1000000 in
theorem readVal_ok (g bx : Nat) (k n : Int) (t : ByteArray) (c : Int) (s : ByteArray) (st1 : St) (w : World) (h : Rd g s 0 w) 
    (hcl : Calls Try.prog 44 #[.pointer (some ⟨bx, 0, none⟩)] (w.alloc (.cells #[.int .u8 0, .int .i64 0, .string ⟨#[]⟩] 23)) (RPost g (w.alloc (.cells #[.int .u8 0, .int .i64 0, .string ⟨#[]⟩] 23)) (.tuple #[.agg #[.int .u8 k, .int .i64 n, .string t], .int .i64 0]) st1)) :
    Calls Try.prog 43 #[.pointer (some ⟨g, 0, none⟩), .func (.func 44) #[] #[.pointer (some ⟨bx, 0, none⟩)]] w (RPost g w (.tuple #[.agg #[.int .u8 k, .int .i64 n, .string t], .int .i64 0]) ⟨st1.s, st1.e⟩) := by
  have hvg : w.heap.size ≠ g := by have := h.lt; omega
  have hgv : g ≠ w.heap.size := Ne.symm hvg
  have v0 : Bv w.heap.size ⟨0, 0, ⟨#[]⟩⟩ (w.alloc (.cells #[.int .u8 0, .int .i64 0, .string ⟨#[]⟩] 23)) := Bv.new
  have c0 := h.c0
  have c1 := h.c1
  have hgl := h.lt
  go_enter Try.func43, Try.ntmps43
  go_wp2_with fail
  refine hcl.mono ?_
  rintro e w1 ⟨rfl, hr1, hg1⟩
  have q0 := hr1.c0
  have q1 := hr1.c1
  have qf0 := hr1.fz 0
  have qf1 := hr1.fz 1
  have v1 := v0.far hg1 hvg
  have k0 := v1.c0
  have k1 := v1.c1
  have k2 := v1.c2
  have kf0 := v1.fz 0
  have kf1 := v1.fz 1
  have kf2 := v1.fz 2
  have kl := v1.lt
  have gl := hr1.lt
  dsimp only at k0 k1 k2
  go_wp2_with fail
  refine bodyPost_ret (v := .tuple #[.agg #[.int .u8 k, .int .i64 n, .string t], .int .i64 0]) (by simp [results, Try.results43, go_sem, k0, k1, k2, kl, gl, hvg, hgv]) rfl ?_
  exact ⟨rfl, by ((try dsimp only [St.bad]); (repeat' (first | (with_reducible assumption) | (with_reducible apply Rd.set0) | (with_reducible apply Rd.set1) | (with_reducible refine Rd.other ?_ (by with_reducible assumption)) | (with_reducible refine Rd.alloc ?_ _) | (with_reducible refine Rd.drew ?_)))), by (repeat' (first | (with_reducible assumption) | (with_reducible exact gr_refl _ _) | (with_reducible refine gr_al ?_ _) | (with_reducible refine gr_dr ?_) | (with_reducible refine gr_at ?_) | (with_reducible refine gr_new ?_ (by first | exact Nat.le_refl _ | omega)) | (with_reducible refine gr_trans ?_ (by with_reducible assumption))))⟩
set_option maxHeartbeats 1000000 in
theorem readVal_no (g bx : Nat) (k n : Int) (t : ByteArray) (c : Int) (s : ByteArray) (st1 : St) (w : World) (h : Rd g s 0 w) (hc : c ≠ 0)
    (hcl : Calls Try.prog 44 #[.pointer (some ⟨bx, 0, none⟩)] (w.alloc (.cells #[.int .u8 0, .int .i64 0, .string ⟨#[]⟩] 23)) (RPost g (w.alloc (.cells #[.int .u8 0, .int .i64 0, .string ⟨#[]⟩] 23)) (.tuple #[.agg #[.int .u8 k, .int .i64 n, .string t], .int .i64 c]) st1)) :
    Calls Try.prog 43 #[.pointer (some ⟨g, 0, none⟩), .func (.func 44) #[] #[.pointer (some ⟨bx, 0, none⟩)]] w (RPost g w (.tuple #[.agg #[.int .u8 0, .int .i64 0, .string ⟨#[]⟩], .int .i64 c]) (St.bad c)) := by
  have hvg : w.heap.size ≠ g := by have := h.lt; omega
  have hgv : g ≠ w.heap.size := Ne.symm hvg
  have v0 : Bv w.heap.size ⟨0, 0, ⟨#[]⟩⟩ (w.alloc (.cells #[.int .u8 0, .int .i64 0, .string ⟨#[]⟩] 23)) := Bv.new
  have c0 := h.c0
  have hcb : (c != 0) = true := by simpa using hc
  have c1 := h.c1
  have hgl := h.lt
  go_enter Try.func43, Try.ntmps43
  go_wp2_with fail
  refine hcl.mono ?_
  rintro e w1 ⟨rfl, hr1, hg1⟩
  have q0 := hr1.c0
  have q1 := hr1.c1
  have qf0 := hr1.fz 0
  have qf1 := hr1.fz 1
  have v1 := v0.far hg1 hvg
  have k0 := v1.c0
  have k1 := v1.c1
  have k2 := v1.c2
  have kf0 := v1.fz 0
  have kf1 := v1.fz 1
  have kf2 := v1.fz 2
  have kl := v1.lt
  have gl := hr1.lt
  dsimp only at k0 k1 k2
  go_wp2_with fail
  refine bodyPost_ret (v := .tuple #[.agg #[.int .u8 0, .int .i64 0, .string ⟨#[]⟩], .int .i64 c]) (by simp [results, Try.results43, go_sem, k0, k1, k2, kl, gl, hvg, hgv]) rfl ?_
  exact ⟨rfl, by ((try dsimp only [St.bad]); (repeat' (first | (with_reducible assumption) | (with_reducible apply Rd.set0) | (with_reducible apply Rd.set1) | (with_reducible refine Rd.other ?_ (by with_reducible assumption)) | (with_reducible refine Rd.alloc ?_ _) | (with_reducible refine Rd.drew ?_)))), by (repeat' (first | (with_reducible assumption) | (with_reducible exact gr_refl _ _) | (with_reducible refine gr_al ?_ _) | (with_reducible refine gr_dr ?_) | (with_reducible refine gr_at ?_) | (with_reducible refine gr_new ?_ (by first | exact Nat.le_refl _ | omega)) | (with_reducible refine gr_trans ?_ (by with_reducible assumption))))⟩
set_option maxHeartbeats 1000000 in
theorem readValC (g bx : Nat) (st : St) (hs : st.s.size ≤ 1099511627776) (w : World) (h : Rd g st.s st.e w) (hb : w.cell? ⟨bx, 0, none⟩ = some (.pointer (some ⟨g, 0, none⟩))) :
    Calls Try.prog 43 #[.pointer (some ⟨g, 0, none⟩), .func (.func 44) #[] #[.pointer (some ⟨bx, 0, none⟩)]] w (RPost g w (.tuple #[.agg #[.int .u8 (valS st).1.k, .int .i64 (valS st).1.n, .string (valS st).1.t], .int .i64 (valS st).2.1]) (valS st).2.2) := by
  have hvg : w.heap.size ≠ g := by have := h.lt; omega
  have v0 : Bv w.heap.size ⟨0, 0, ⟨#[]⟩⟩ (w.alloc (.cells #[.int .u8 0, .int .i64 0, .string ⟨#[]⟩] 23)) := Bv.new
  by_cases he : st.e = 0
  · obtain ⟨s, e⟩ := st
    dsimp only at he hs h
    subst he
    have h2 := Rd.alloc h (.cells #[.int .u8 0, .int .i64 0, .string ⟨#[]⟩] 23)
    have hb2 := cell_alloc hb (.cells #[.int .u8 0, .int .i64 0, .string ⟨#[]⟩] 23)
    have c0 := h.c0
    have c1 := h.c1
    have hgl := h.lt
    rcases num_two s with ⟨n, t, hr, hn, ht⟩ | ⟨c, hr, hc⟩
    · have hts : t.size ≤ 1099511627776 := by omega
      by_cases h3 : 3 < n
      · have HR := Lib.hid hr
        clear hr
        have hx : valS ⟨s, 0⟩ = (V.zero, 4, St.bad 4) := by unfold valS; rw [HR.out]; simp only; rw [if_pos trivial, if_pos h3]
        rw [hx]
        exact readVal_no g bx _ _ _ 4 s _ w h (by decide) (val1_kind g bx s hs _ h2 hb2 n h3 t hts HR.out)
      have hk : n = 0 ∨ n = 1 ∨ n = 2 ∨ n = 3 := by omega
      rcases hk with rfl | rfl | rfl | rfl
      · have HR := Lib.hid hr
        clear hr h3
        have hx : valS ⟨s, 0⟩ = (V.zero, 0, ⟨t, 0⟩) := by unfold valS; rw [HR.out]; rfl
        rw [hx]
        exact readVal_ok g bx _ _ _ 0 s _ w h (val1_none g bx s hs _ h2 hb2 t hts HR.out)
      · have HR := Lib.hid hr
        clear hr h3
        rcases rd_two 18446744073709551615 t with ⟨x, t2, hr2, _, _⟩ | ⟨c, hr2, hc, _⟩
        · have HR2 := Lib.hid (int_of hr2)
          clear hr2
          generalize unzz x = y at *
          have hx : valS ⟨s, 0⟩ = (⟨1, y, ⟨#[]⟩⟩, 0, ⟨t2, 0⟩) := by unfold valS; rw [HR.out]; simp only; rw [HR2.out]; rfl
          rw [hx]
          exact readVal_ok g bx _ _ _ 0 s _ w h (val1_int g bx s hs _ h2 hb2 t hts HR.out _ t2 HR2.out)
        · have HR2 := Lib.hid (int_of hr2)
          have hc0 : c ≠ 0 := by omega
          have HC := Lib.hid hc0
          clear hr2 hc0
          have hx : valS ⟨s, 0⟩ = (V.zero, c, St.bad c) := by unfold valS; rw [HR.out]; simp only; rw [HR2.out]; simp [HC.out]
          rw [hx]
          exact readVal_no g bx _ _ _ c s _ w h HC.out (val1_intno g bx s hs _ h2 hb2 t hts HR.out c HC.out HR2.out)
      · have HR := Lib.hid hr
        clear hr h3
        rcases num_two t with ⟨m, t2, hr2, _, _⟩ | ⟨c, hr2, hc⟩
        · have HR2 := Lib.hid hr2
          clear hr2
          by_cases hm : m ≤ 1
          · have HM := Lib.hid hm
            clear hm
            have hx : valS ⟨s, 0⟩ = (⟨2, m, ⟨#[]⟩⟩, 0, ⟨t2, 0⟩) := by unfold valS; rw [HR.out]; simp only; rw [HR2.out]; have := HM.out; simp; omega
            rw [hx]
            exact readVal_ok g bx _ _ _ 0 s _ w h (val1_bool g bx s hs _ h2 hb2 t hts HR.out m HM.out t2 HR2.out)
          · have hm : 1 < m := by omega
            have HM := Lib.hid hm
            clear hm
            have hx : valS ⟨s, 0⟩ = (V.zero, 4, St.bad 4) := by unfold valS; rw [HR.out]; simp only; rw [HR2.out]; have := HM.out; simp; omega
            rw [hx]
            exact readVal_no g bx _ _ _ 4 s _ w h (by decide) (val1_boolbig g bx s hs _ h2 hb2 t hts HR.out m HM.out t2 HR2.out)
        · have HR2 := Lib.hid hr2
          have hc0 : c ≠ 0 := by omega
          have HC := Lib.hid hc0
          clear hr2 hc0
          have hx : valS ⟨s, 0⟩ = (V.zero, c, St.bad c) := by unfold valS; rw [HR.out]; simp only; rw [HR2.out]; simp [HC.out]
          rw [hx]
          exact readVal_no g bx _ _ _ c s _ w h HC.out (val1_boolno g bx s hs _ h2 hb2 t hts HR.out c HC.out HR2.out)
      · have HR := Lib.hid hr
        clear hr h3
        rcases text_two 40 t with ⟨y, t2, hr2⟩ | ⟨c, hr2, hc⟩
        · have HR2 := Lib.hid hr2
          clear hr2
          have hx : valS ⟨s, 0⟩ = (⟨3, 0, y⟩, 0, ⟨t2, 0⟩) := by unfold valS; rw [HR.out]; simp only; rw [HR2.out]; rfl
          rw [hx]
          exact readVal_ok g bx _ _ _ 0 s _ w h (val1_text g bx s hs _ h2 hb2 t hts HR.out y t2 HR2.out)
        · have HR2 := Lib.hid hr2
          have HC := Lib.hid hc
          clear hr2 hc
          have hx : valS ⟨s, 0⟩ = (V.zero, c, St.bad c) := by unfold valS; rw [HR.out]; simp only; rw [HR2.out]; simp [HC.out]
          rw [hx]
          exact readVal_no g bx _ _ _ c s _ w h HC.out (val1_textno g bx s hs _ h2 hb2 t hts HR.out c HC.out HR2.out)
    · have hc0 : c ≠ 0 := by omega
      have HC := Lib.hid hc0
      have HR := Lib.hid hr
      clear hr hc0
      have hx : valS ⟨s, 0⟩ = (V.zero, c, St.bad c) := by unfold valS; rw [HR.out]; simp [HC.out]
      rw [hx]
      exact readVal_no g bx _ _ _ c s _ w h HC.out (val1_no g bx s hs _ h2 hb2 c HC.out HR.out)
  · have hr : valS st = (V.zero, st.e, st) := by unfold valS; rw [show numS st = (0, st.e, st) from rd_wrong he]; simp only; rw [if_neg he]
    rw [hr]
    have c0 := cell_alloc h.c0 (.cells #[.int .u8 0, .int .i64 0, .string ⟨#[]⟩] 23)
    have c1 := cell_alloc h.c1 (.cells #[.int .u8 0, .int .i64 0, .string ⟨#[]⟩] 23)
    have hcb : (st.e != 0) = true := by simpa using he
    have hgl := h.lt
    clear hr he
    go_enter Try.func43, Try.ntmps43
    go_wp2_with fail
    go_region
    go_wp2_with fail
    refine bodyPost_ret (v := .tuple #[.agg #[.int .u8 0, .int .i64 0, .string ⟨#[]⟩], .int .i64 st.e]) (by simp [results, Try.results43, go_sem]) rfl ?_
    exact ⟨rfl, by ((try dsimp only [St.bad]); (repeat' (first | (with_reducible assumption) | (with_reducible apply Rd.set0) | (with_reducible apply Rd.set1) | (with_reducible refine Rd.other ?_ (by with_reducible assumption)) | (with_reducible refine Rd.alloc ?_ _) | (with_reducible refine Rd.drew ?_)))), by (repeat' (first | (with_reducible assumption) | (with_reducible exact gr_refl _ _) | (with_reducible refine gr_al ?_ _) | (with_reducible refine gr_dr ?_) | (with_reducible refine gr_at ?_) | (with_reducible refine gr_new ?_ (by first | exact Nat.le_refl _ | omega)) | (with_reducible refine gr_trans ?_ (by with_reducible assumption))))⟩
theorem valRC (g : Nat) (st : St) (hs : st.s.size ≤ 1099511627776) (w : World) (h : Rd g st.s st.e w) :
    Calls Try.prog 24 #[.pointer (some ⟨g, 0, none⟩)] w (RPost g w (.tuple #[.agg #[.int .u8 (valS st).1.k, .int .i64 (valS st).1.n, .string (valS st).1.t], .int .i64 (valS st).2.1]) (valS st).2.2) := by
  have hbx : ∀ o : Obj, ((w.alloc (.cells #[.pointer (some ⟨g, 0, none⟩)] 37)).alloc o).cell? ⟨w.heap.size, 0, none⟩ = some (.pointer (some ⟨g, 0, none⟩)) := fun o => cell_alloc (by simp [go_sem]) o
  have v0 : Bv (w.heap.size + 1) ⟨0, 0, ⟨#[]⟩⟩ ((w.alloc (.cells #[.pointer (some ⟨g, 0, none⟩)] 37)).alloc (.cells #[.int .u8 0, .int .i64 0, .string ⟨#[]⟩] 23)) := by
    have := Bv.new (W := w.alloc (.cells #[.pointer (some ⟨g, 0, none⟩)] 37)) (k := 0) (n := 0) (t := ⟨#[]⟩) (T := 23)
    simpa using this
  have hvg : w.heap.size + 1 ≠ g := by have := h.lt; omega
  have hgv : g ≠ w.heap.size + 1 := Ne.symm hvg
  have HRD := readValC g w.heap.size st hs ((w.alloc (.cells #[.pointer (some ⟨g, 0, none⟩)] 37)).alloc (.cells #[.int .u8 0, .int .i64 0, .string ⟨#[]⟩] 23)) ((h.alloc _).alloc _) (hbx _)
  obtain ⟨⟨⟨k, n, t⟩, c, st2⟩, hr⟩ : ∃ r, r = valS st := ⟨_, rfl⟩
  rw [← hr] at HRD ⊢
  dsimp only at HRD ⊢
  clear hr hbx
  go_enter Try.func24, Try.ntmps24
  go_wp2_with fail
  refine HRD.mono ?_
  clear HRD
  rintro e w1 ⟨rfl, hr1, hg1⟩
  have v1 := v0.far hg1 hvg
  have k0 := v1.c0
  have k1 := v1.c1
  have k2 := v1.c2
  have kf0 := v1.fz 0
  have kf1 := v1.fz 1
  have kf2 := v1.fz 2
  dsimp only at k0 k1 k2
  go_wp2_with fail
  refine bodyPost_ret (v := .tuple #[.agg #[.int .u8 k, .int .i64 n, .string t], .int .i64 c]) (by simp [results, Try.results24, go_sem, k0, k1, k2]) rfl ?_
  exact ⟨rfl, by ((try dsimp only [St.bad]); (repeat' (first | (with_reducible assumption) | (with_reducible apply Rd.set0) | (with_reducible apply Rd.set1) | (with_reducible refine Rd.other ?_ (by with_reducible assumption)) | (with_reducible refine Rd.alloc ?_ _) | (with_reducible refine Rd.drew ?_)))), by (repeat' (first | (with_reducible assumption) | (with_reducible exact gr_refl _ _) | (with_reducible refine gr_al ?_ _) | (with_reducible refine gr_dr ?_) | (with_reducible refine gr_at ?_) | (with_reducible refine gr_new ?_ (by first | exact Nat.le_refl _ | omega)) | (with_reducible refine gr_trans ?_ (by with_reducible assumption))))⟩
end Go.Proofs.Ytijhdnpaeliaoaa.Wj
