/- 'may' and 'Value' of package wire and of the document's text, as contracts. Condition: the texts are no longer than 2^40 bytes. -/
import Derived.Test.YtijhdnpaeliaoaaWc
import Derived.Lib.Strings
namespace Go.Proofs.Ytijhdnpaeliaoaa.Wd
open Go.RowKit Go.Proofs.Ytijhdnpaeliaoaa.Wm Go.Proofs.Ytijhdnpaeliaoaa.Wb Go.Proofs.Ytijhdnpaeliaoaa.Wa Go.Proofs.Ytijhdnpaeliaoaa.Wc
set_option linter.unusedVariables false
set_option linter.unusedSimpArgs false
set_option maxRecDepth 100000
def MayPost (v : V) (w : World) (e : Ending) (w' : World) : Prop := e = .returned (.bool (mayK v)) ∧ Below w.heap.size w w'
theorem MayPost.mk {v : V} {w w' : World} {e : Ending} {b : Bool} (h : mayK v = b) (he : e = .returned (.bool b)) (hb : Below w.heap.size w w') : MayPost v w e w' := ⟨by rw [h]; exact he, hb⟩
theorem may3_yes (n : Int) (t : ByteArray) : mayK ⟨3, n, t⟩ = (n == 0 && decide (t.size ≤ 40)) := rfl
theorem may2_yes (n : Int) (t : ByteArray) : mayK ⟨2, n, t⟩ = ((n == 0 || n == 1) && t.toList == []) := rfl
theorem may1_yes (n : Int) (t : ByteArray) : mayK ⟨1, n, t⟩ = (t.toList == []) := rfl
theorem may0_yes (n : Int) (t : ByteArray) : mayK ⟨0, n, t⟩ = (n == 0 && t.toList == []) := rfl
theorem and_one (n : Int) (h1 : -9223372036854775808 ≤ n) (h2 : n ≤ 9223372036854775807) : bits .and .i64 n 1 = n % 2 := by
  show IntKind.i64.wrap ((BitVec.ofInt 64 n &&& BitVec.ofInt 64 1).toNat : Int) = _
  have e1 : (BitVec.ofInt 64 1).toNat = 1 := by decide
  have e2 : (BitVec.ofInt 64 n).toNat = (n % 18446744073709551616).toNat := by rw [BitVec.toNat_ofInt]; rfl
  rw [BitVec.toNat_and, e1, e2, Nat.and_one_is_mod, IntKind.wrap_i64]
  omega
theorem mayC (v : V) (h0 : 0 ≤ v.k) (h1 : -9223372036854775808 ≤ v.n) (h2 : v.n ≤ 9223372036854775807) (w : World) : Calls Try.prog 36 #[.agg #[.int .u8 v.k, .int .i64 v.n, .string v.t]] w (MayPost v w) := by
  obtain ⟨k, n, t⟩ := v
  dsimp only at h0 h1 h2 ⊢
  by_cases k0 : k = 0
  · subst k0
    go_enter Try.func36, Try.ntmps36
    go_wp2_with fail
    all_goals
      go_ret
      exact MayPost.mk (by rw [may0_yes]; simp [*]) rfl (by (repeat' (first | (with_reducible exact Below.refl _ _) | (with_reducible assumption) | (with_reducible refine Below.alloc ?_ ?_ _) | (with_reducible refine Below.drew ?_) | (with_reducible refine below_drewN ?_ _) | (with_reducible refine Below.setCell ?_ ?_ _) | (with_reducible refine Below.trans ?_ (Below.mono (by with_reducible assumption) ?_)) | (simp only [World.size_alloc, World.size_setCell, World.heap_drewN, World.size_drew]; omega) | omega | (simp; omega) | (simp; done))))
  by_cases k1 : k = 1
  · subst k1
    clear k0
    go_enter Try.func36, Try.ntmps36
    go_wp2_with fail
    all_goals
      go_ret
      exact MayPost.mk (by rw [may1_yes]; simp [*]) rfl (by (repeat' (first | (with_reducible exact Below.refl _ _) | (with_reducible assumption) | (with_reducible refine Below.alloc ?_ ?_ _) | (with_reducible refine Below.drew ?_) | (with_reducible refine below_drewN ?_ _) | (with_reducible refine Below.setCell ?_ ?_ _) | (with_reducible refine Below.trans ?_ (Below.mono (by with_reducible assumption) ?_)) | (simp only [World.size_alloc, World.size_setCell, World.heap_drewN, World.size_drew]; omega) | omega | (simp; omega) | (simp; done))))
  by_cases k2 : k = 2
  · subst k2
    clear k0 k1
    have ha := and_one n h1 h2
    by_cases hn : n = 0 ∨ n = 1
    · have e1 : n % 2 = n := by omega
      have e2 : (n == 0 || n == 1) = true := by simpa using hn
      rw [e1] at ha
      have E2 := Lib.hid e2
      clear e1 e2 hn
      go_enter Try.func36, Try.ntmps36
      go_wp2_with fail
      all_goals
        go_ret
        exact MayPost.mk (by rw [may2_yes, E2.out]; simp [*]) rfl (by (repeat' (first | (with_reducible exact Below.refl _ _) | (with_reducible assumption) | (with_reducible refine Below.alloc ?_ ?_ _) | (with_reducible refine Below.drew ?_) | (with_reducible refine below_drewN ?_ _) | (with_reducible refine Below.setCell ?_ ?_ _) | (with_reducible refine Below.trans ?_ (Below.mono (by with_reducible assumption) ?_)) | (simp only [World.size_alloc, World.size_setCell, World.heap_drewN, World.size_drew]; omega) | omega | (simp; omega) | (simp; done))))
    · have e1 : (n == n % 2) = false := by simp; omega
      have e2 : (n == 0 || n == 1) = false := by simpa using hn
      have E2 := Lib.hid e2
      clear e2 hn
      go_enter Try.func36, Try.ntmps36
      go_wp2_with fail
      all_goals
        go_ret
        exact MayPost.mk (by rw [may2_yes, E2.out]; rfl) rfl (by (repeat' (first | (with_reducible exact Below.refl _ _) | (with_reducible assumption) | (with_reducible refine Below.alloc ?_ ?_ _) | (with_reducible refine Below.drew ?_) | (with_reducible refine below_drewN ?_ _) | (with_reducible refine Below.setCell ?_ ?_ _) | (with_reducible refine Below.trans ?_ (Below.mono (by with_reducible assumption) ?_)) | (simp only [World.size_alloc, World.size_setCell, World.heap_drewN, World.size_drew]; omega) | omega | (simp; omega) | (simp; done))))
  by_cases k3 : k = 3
  · subst k3
    clear k0 k1 k2
    by_cases ht : t.size ≤ 40
    · have e1 : (t.extract 0 t.size) = t := by simp
      have e2 : ¬ (40 : Int) < (t.size : Int) := by omega
      have e3 : decide (t.size ≤ 40) = true := by simpa using ht
      have E3 := Lib.hid e3
      clear ht e3
      go_enter Try.func36, Try.ntmps36
      go_wp2_with fail
      all_goals
        go_ret
        exact MayPost.mk (by rw [may3_yes, E3.out]; simp [*]) rfl (by (repeat' (first | (with_reducible exact Below.refl _ _) | (with_reducible assumption) | (with_reducible refine Below.alloc ?_ ?_ _) | (with_reducible refine Below.drew ?_) | (with_reducible refine below_drewN ?_ _) | (with_reducible refine Below.setCell ?_ ?_ _) | (with_reducible refine Below.trans ?_ (Below.mono (by with_reducible assumption) ?_)) | (simp only [World.size_alloc, World.size_setCell, World.heap_drewN, World.size_drew]; omega) | omega | (simp; omega) | (simp; done))))
    · have e1 : ¬ t.toList = (t.extract 0 40).toList := by
        intro h
        have := congrArg List.length h
        rw [Lib.toList_data, Lib.extract_toList] at this
        simp at this
        omega
      have e2 : (40 : Int) < (t.size : Int) := by omega
      have e3 : decide (t.size ≤ 40) = false := by simpa using ht
      have E3 := Lib.hid e3
      clear ht e3
      go_enter Try.func36, Try.ntmps36
      go_wp2_with fail
      all_goals
        go_ret
        exact MayPost.mk (by rw [may3_yes, E3.out]; simp) rfl (by (repeat' (first | (with_reducible exact Below.refl _ _) | (with_reducible assumption) | (with_reducible refine Below.alloc ?_ ?_ _) | (with_reducible refine Below.drew ?_) | (with_reducible refine below_drewN ?_ _) | (with_reducible refine Below.setCell ?_ ?_ _) | (with_reducible refine Below.trans ?_ (Below.mono (by with_reducible assumption) ?_)) | (simp only [World.size_alloc, World.size_setCell, World.heap_drewN, World.size_drew]; omega) | omega | (simp; omega) | (simp; done))))
  · have hm : mayK ⟨k, n, t⟩ = false := by unfold mayK; rw [if_neg k0, if_neg k1, if_neg k2, if_neg k3]
    have q1 : (k == 1) = false := by simpa using k1
    have q2 : (k == 2) = false := by simpa using k2
    have q3 : (k == 3) = false := by simpa using k3
    have q4 : decide (k ≤ 3) = false := by simp; omega
    have HM := Lib.hid hm
    clear hm k0 k1 k2 k3
    go_enter Try.func36, Try.ntmps36
    go_wp2_with fail
    all_goals
      go_ret
      exact MayPost.mk HM.out rfl (by (repeat' (first | (with_reducible exact Below.refl _ _) | (with_reducible assumption) | (with_reducible refine Below.alloc ?_ ?_ _) | (with_reducible refine Below.drew ?_) | (with_reducible refine below_drewN ?_ _) | (with_reducible refine Below.setCell ?_ ?_ _) | (with_reducible refine Below.trans ?_ (Below.mono (by with_reducible assumption) ?_)) | (simp only [World.size_alloc, World.size_setCell, World.heap_drewN, World.size_drew]; omega) | omega | (simp; omega) | (simp; done))))
theorem rmayC (v : V) (h0 : 0 ≤ v.k) (w : World) : Calls Try.prog 37 #[.agg #[.int .u8 v.k, .int .i64 v.n, .string v.t]] w (MayPost v w) := by
  obtain ⟨k, n, t⟩ := v
  dsimp only at h0 ⊢
  by_cases k0 : k = 0
  · subst k0
    go_enter Try.func37, Try.ntmps37
    go_wp2_with fail
    all_goals
      go_ret
      exact MayPost.mk (by rw [may0_yes]; first | rfl | simp [*]) rfl (by (repeat' (first | (with_reducible exact Below.refl _ _) | (with_reducible assumption) | (with_reducible refine Below.alloc ?_ ?_ _) | (with_reducible refine Below.drew ?_) | (with_reducible refine below_drewN ?_ _) | (with_reducible refine Below.setCell ?_ ?_ _) | (with_reducible refine Below.trans ?_ (Below.mono (by with_reducible assumption) ?_)) | (simp only [World.size_alloc, World.size_setCell, World.heap_drewN, World.size_drew]; omega) | omega | (simp; omega) | (simp; done))))
  by_cases k1 : k = 1
  · subst k1
    clear k0
    go_enter Try.func37, Try.ntmps37
    go_wp2_with fail
    all_goals
      go_ret
      exact MayPost.mk (by rw [may1_yes]; first | rfl | simp [*]) rfl (by (repeat' (first | (with_reducible exact Below.refl _ _) | (with_reducible assumption) | (with_reducible refine Below.alloc ?_ ?_ _) | (with_reducible refine Below.drew ?_) | (with_reducible refine below_drewN ?_ _) | (with_reducible refine Below.setCell ?_ ?_ _) | (with_reducible refine Below.trans ?_ (Below.mono (by with_reducible assumption) ?_)) | (simp only [World.size_alloc, World.size_setCell, World.heap_drewN, World.size_drew]; omega) | omega | (simp; omega) | (simp; done))))
  by_cases k2 : k = 2
  · subst k2
    clear k0 k1
    go_enter Try.func37, Try.ntmps37
    go_wp2_with fail
    all_goals
      go_ret
      exact MayPost.mk (by rw [may2_yes]; first | rfl | simp [*]) rfl (by (repeat' (first | (with_reducible exact Below.refl _ _) | (with_reducible assumption) | (with_reducible refine Below.alloc ?_ ?_ _) | (with_reducible refine Below.drew ?_) | (with_reducible refine below_drewN ?_ _) | (with_reducible refine Below.setCell ?_ ?_ _) | (with_reducible refine Below.trans ?_ (Below.mono (by with_reducible assumption) ?_)) | (simp only [World.size_alloc, World.size_setCell, World.heap_drewN, World.size_drew]; omega) | omega | (simp; omega) | (simp; done))))
  by_cases k3 : k = 3
  · subst k3
    clear k0 k1 k2
    go_enter Try.func37, Try.ntmps37
    go_wp2_with fail
    all_goals
      go_ret
      exact MayPost.mk (by rw [may3_yes]; first | rfl | (simp [*]; done) | (simp [*]; omega)) rfl (by (repeat' (first | (with_reducible exact Below.refl _ _) | (with_reducible assumption) | (with_reducible refine Below.alloc ?_ ?_ _) | (with_reducible refine Below.drew ?_) | (with_reducible refine below_drewN ?_ _) | (with_reducible refine Below.setCell ?_ ?_ _) | (with_reducible refine Below.trans ?_ (Below.mono (by with_reducible assumption) ?_)) | (simp only [World.size_alloc, World.size_setCell, World.heap_drewN, World.size_drew]; omega) | omega | (simp; omega) | (simp; done))))
  · have hm : mayK ⟨k, n, t⟩ = false := by unfold mayK; rw [if_neg k0, if_neg k1, if_neg k2, if_neg k3]
    have q0 : (k == 0) = false := by simpa using k0
    have q1 : (k == 1) = false := by simpa using k1
    have q2 : (k == 2) = false := by simpa using k2
    have q3 : (k == 3) = false := by simpa using k3
    have HM := Lib.hid hm
    clear hm k0 k1 k2 k3
    go_enter Try.func37, Try.ntmps37
    go_wp2_with fail
    all_goals
      go_ret
      exact MayPost.mk HM.out rfl (by (repeat' (first | (with_reducible exact Below.refl _ _) | (with_reducible assumption) | (with_reducible refine Below.alloc ?_ ?_ _) | (with_reducible refine Below.drew ?_) | (with_reducible refine below_drewN ?_ _) | (with_reducible refine Below.setCell ?_ ?_ _) | (with_reducible refine Below.trans ?_ (Below.mono (by with_reducible assumption) ?_)) | (simp only [World.size_alloc, World.size_setCell, World.heap_drewN, World.size_drew]; omega) | omega | (simp; omega) | (simp; done))))
def ValPost (s : ByteArray) (v : V) (w : World) (e : Ending) (w' : World) : Prop := e = .returned (.tuple #[.string (valR s v).1, .int .i64 (valR s v).2]) ∧ Below w.heap.size w w'
theorem ValPost.mk {s : ByteArray} {v : V} {w w' : World} {e : Ending} {b : ByteArray} {c : Int} (h : valR s v = (b, c)) (he : e = .returned (.tuple #[.string b, .int .i64 c])) (hb : Below w.heap.size w w') : ValPost s v w e w' := ⟨by rw [h]; exact he, hb⟩
theorem valR_no {s : ByteArray} {v : V} (h : mayK v = false) : valR s v = (s, 4) := by unfold valR; rw [h]; rfl
theorem valR_ok {s : ByteArray} {v : V} (h : mayK v = true) : valR s v = (valW s v, 0) := by unfold valR; rw [h]; rfl
theorem may_kinds {v : V} (h : mayK v = true) : v.k = 0 ∨ v.k = 1 ∨ (v.k = 2 ∧ 0 ≤ v.n ∧ v.n ≤ 1) ∨ (v.k = 3 ∧ v.t.size ≤ 40) := by
  unfold mayK at h
  by_cases k0 : v.k = 0
  · exact .inl k0
  by_cases k1 : v.k = 1
  · exact .inr (.inl k1)
  rw [if_neg k0, if_neg k1] at h
  by_cases k2 : v.k = 2
  · rw [if_pos k2] at h
    simp only [Bool.and_eq_true, Bool.or_eq_true, beq_iff_eq] at h
    exact .inr (.inr (.inl ⟨k2, by omega, by omega⟩))
  rw [if_neg k2] at h
  by_cases k3 : v.k = 3
  · rw [if_pos k3] at h
    simp only [Bool.and_eq_true, decide_eq_true_eq] at h
    exact .inr (.inr (.inr ⟨k3, h.2⟩))
  · rw [if_neg k3] at h
    cases h
theorem mayT {v : V} {b : Bool} (h : mayK v = b) (h0 : 0 ≤ v.k) (h1 : -9223372036854775808 ≤ v.n) (h2 : v.n ≤ 9223372036854775807) (w : World) : Calls Try.prog 36 #[.agg #[.int .u8 v.k, .int .i64 v.n, .string v.t]] w fun e w' => e = .returned (.bool b) ∧ Below w.heap.size w w' := by
  subst h
  exact mayC v h0 h1 h2 w
theorem rmayT {v : V} {b : Bool} (h : mayK v = b) (h0 : 0 ≤ v.k) (w : World) : Calls Try.prog 37 #[.agg #[.int .u8 v.k, .int .i64 v.n, .string v.t]] w fun e w' => e = .returned (.bool b) ∧ Below w.heap.size w w' := by
  subst h
  exact rmayC v h0 w
set_option maxHeartbeats 1000000 in
theorem valC (s : ByteArray) (v : V) (hs : s.size ≤ 1099511627) (h0 : 0 ≤ v.k) (h1 : -9223372036854775808 ≤ v.n) (h2 : v.n ≤ 9223372036854775807) (w : World) : Calls Try.prog 13 #[.string s, .agg #[.int .u8 v.k, .int .i64 v.n, .string v.t]] w (ValPost s v w) := by
  by_cases hm : mayK v = true
  · have hr := valR_ok (s := s) hm
    have hk := may_kinds hm
    have hp0 := put_size (s := s) (n := 0)
    have hp1 := put_size (s := s) (n := 1)
    have hp2 := put_size (s := s) (n := 2)
    have hp3 := put_size (s := s) (n := 3)
    have q0 := enc_len10 (n := 0) (by decide)
    have q1 := enc_len10 (n := 1) (by decide)
    have q2 := enc_len10 (n := 2) (by decide)
    have q3 := enc_len10 (n := 3) (by decide)
    have z0 : (put s 0).size ≤ 1099511627776 := by omega
    have z1 : (put s 1).size ≤ 1099511627776 := by omega
    have z2 : (put s 2).size ≤ 1099511627776 := by omega
    have z3 : (put s 3).size ≤ 1099511627776 := by omega
    have HM := Lib.hid hm
    have HR := Lib.hid hr
    clear hm hr hp0 hp1 hp2 hp3 q0 q1 q2 q3
    obtain ⟨k, n, t⟩ := v
    dsimp only at h0 h1 h2 hk ⊢
    rcases hk with rfl | rfl | ⟨rfl, n0, n1⟩ | ⟨rfl, ht⟩
    · have hw : valW s ⟨0, n, t⟩ = put s 0 := rfl
      have HW := Lib.hid hw
      clear hw
      go_enter Try.func13, Try.ntmps13
      go_wp2_with (first | (go_at_call 36; refine (mayT HM.out h0 h1 h2 _).mono ?_; rintro e w1 ⟨rfl, hb1⟩; obtain ⟨chb1, fhb1⟩ := bcell hb1; have zhb1 := hb1.size; (try simp only [World.size_alloc, World.size_setCell, World.heap_drewN, World.size_drew] at zhb1); have zzhb10 : w.heap.size < w1.heap.size := (by omega)) | (go_at_call 34; refine (putC s 0 (by omega) (by decide) _).mono ?_; rintro e w2 ⟨rfl, hb2⟩; obtain ⟨chb2, fhb2⟩ := bcell hb2; have zhb2 := hb2.size; (try simp only [World.size_alloc, World.size_setCell, World.heap_drewN, World.size_drew] at zhb2); have zzhb20 : w.heap.size < w2.heap.size := (by omega)))
      go_ret2
      exact ValPost.mk (HR.out.trans (by rw [HW.out])) rfl (by (repeat' (first | (with_reducible exact Below.refl _ _) | (with_reducible assumption) | (with_reducible refine Below.alloc ?_ ?_ _) | (with_reducible refine Below.drew ?_) | (with_reducible refine below_drewN ?_ _) | (with_reducible refine Below.setCell ?_ ?_ _) | (with_reducible refine Below.trans ?_ (Below.mono (by with_reducible assumption) ?_)) | (simp only [World.size_alloc, World.size_setCell, World.heap_drewN, World.size_drew]; omega) | omega | (simp; omega) | (simp; done))))
    · have hw : valW s ⟨1, n, t⟩ = intW (put s 1) n := rfl
      have HW := Lib.hid hw
      clear hw
      go_enter Try.func13, Try.ntmps13
      go_wp2_with (first | (go_at_call 36; refine (mayT HM.out h0 h1 h2 _).mono ?_; rintro e w1 ⟨rfl, hb1⟩; obtain ⟨chb1, fhb1⟩ := bcell hb1; have zhb1 := hb1.size; (try simp only [World.size_alloc, World.size_setCell, World.heap_drewN, World.size_drew] at zhb1); have zzhb10 : w.heap.size < w1.heap.size := (by omega)) | (go_at_call 34; refine (putC s 1 (by omega) (by decide) _).mono ?_; rintro e w2 ⟨rfl, hb2⟩; obtain ⟨chb2, fhb2⟩ := bcell hb2; have zhb2 := hb2.size; (try simp only [World.size_alloc, World.size_setCell, World.heap_drewN, World.size_drew] at zhb2); have zzhb20 : w.heap.size < w2.heap.size := (by omega)) | (go_at_call 15; refine (intC _ _ z1 h1 h2 _).mono ?_; rintro e w3 ⟨rfl, hb3⟩; obtain ⟨chb3, fhb3⟩ := bcell hb3; have zhb3 := hb3.size; (try simp only [World.size_alloc, World.size_setCell, World.heap_drewN, World.size_drew] at zhb3); have zzhb30 : w.heap.size < w3.heap.size := (by omega)))
      go_ret2
      exact ValPost.mk (HR.out.trans (by rw [HW.out])) rfl (by (repeat' (first | (with_reducible exact Below.refl _ _) | (with_reducible assumption) | (with_reducible refine Below.alloc ?_ ?_ _) | (with_reducible refine Below.drew ?_) | (with_reducible refine below_drewN ?_ _) | (with_reducible refine Below.setCell ?_ ?_ _) | (with_reducible refine Below.trans ?_ (Below.mono (by with_reducible assumption) ?_)) | (simp only [World.size_alloc, World.size_setCell, World.heap_drewN, World.size_drew]; omega) | omega | (simp; omega) | (simp; done))))
    · obtain ⟨m, rfl⟩ : ∃ m : Nat, n = m := ⟨n.toNat, by omega⟩
      have hw : valW s ⟨2, m, t⟩ = put (put s 2) m := rfl
      have HW := Lib.hid hw
      clear hw
      go_enter Try.func13, Try.ntmps13
      go_wp2_with (first | (go_at_call 36; refine (mayT HM.out h0 h1 h2 _).mono ?_; rintro e w1 ⟨rfl, hb1⟩; obtain ⟨chb1, fhb1⟩ := bcell hb1; have zhb1 := hb1.size; (try simp only [World.size_alloc, World.size_setCell, World.heap_drewN, World.size_drew] at zhb1); have zzhb10 : w.heap.size < w1.heap.size := (by omega)) | (go_at_call_of 34 (Value.string s); refine (putC s 2 (by omega) (by decide) _).mono ?_; rintro e w2 ⟨rfl, hb2⟩; obtain ⟨chb2, fhb2⟩ := bcell hb2; have zhb2 := hb2.size; (try simp only [World.size_alloc, World.size_setCell, World.heap_drewN, World.size_drew] at zhb2); have zzhb20 : w.heap.size < w2.heap.size := (by omega)) | (go_at_call_of 34 (Value.string (put s 2)); refine (putC _ m z2 (by omega) _).mono ?_; rintro e w3 ⟨rfl, hb3⟩; obtain ⟨chb3, fhb3⟩ := bcell hb3; have zhb3 := hb3.size; (try simp only [World.size_alloc, World.size_setCell, World.heap_drewN, World.size_drew] at zhb3); have zzhb30 : w.heap.size < w3.heap.size := (by omega)))
      go_ret2
      exact ValPost.mk (HR.out.trans (by rw [HW.out])) rfl (by (repeat' (first | (with_reducible exact Below.refl _ _) | (with_reducible assumption) | (with_reducible refine Below.alloc ?_ ?_ _) | (with_reducible refine Below.drew ?_) | (with_reducible refine below_drewN ?_ _) | (with_reducible refine Below.setCell ?_ ?_ _) | (with_reducible refine Below.trans ?_ (Below.mono (by with_reducible assumption) ?_)) | (simp only [World.size_alloc, World.size_setCell, World.heap_drewN, World.size_drew]; omega) | omega | (simp; omega) | (simp; done))))
    · have hw : valW s ⟨3, n, t⟩ = textW (put s 3) t := rfl
      have HW := Lib.hid hw
      clear hw
      go_enter Try.func13, Try.ntmps13
      go_wp2_with (first | (go_at_call 36; refine (mayT HM.out h0 h1 h2 _).mono ?_; rintro e w1 ⟨rfl, hb1⟩; obtain ⟨chb1, fhb1⟩ := bcell hb1; have zhb1 := hb1.size; (try simp only [World.size_alloc, World.size_setCell, World.heap_drewN, World.size_drew] at zhb1); have zzhb10 : w.heap.size < w1.heap.size := (by omega)) | (go_at_call 34; refine (putC s 3 (by omega) (by decide) _).mono ?_; rintro e w2 ⟨rfl, hb2⟩; obtain ⟨chb2, fhb2⟩ := bcell hb2; have zhb2 := hb2.size; (try simp only [World.size_alloc, World.size_setCell, World.heap_drewN, World.size_drew] at zhb2); have zzhb20 : w.heap.size < w2.heap.size := (by omega)) | (go_at_call 17; refine (textC _ _ z3 (by omega) _).mono ?_; rintro e w3 ⟨rfl, hb3⟩; obtain ⟨chb3, fhb3⟩ := bcell hb3; have zhb3 := hb3.size; (try simp only [World.size_alloc, World.size_setCell, World.heap_drewN, World.size_drew] at zhb3); have zzhb30 : w.heap.size < w3.heap.size := (by omega)))
      go_ret2
      exact ValPost.mk (HR.out.trans (by rw [HW.out])) rfl (by (repeat' (first | (with_reducible exact Below.refl _ _) | (with_reducible assumption) | (with_reducible refine Below.alloc ?_ ?_ _) | (with_reducible refine Below.drew ?_) | (with_reducible refine below_drewN ?_ _) | (with_reducible refine Below.setCell ?_ ?_ _) | (with_reducible refine Below.trans ?_ (Below.mono (by with_reducible assumption) ?_)) | (simp only [World.size_alloc, World.size_setCell, World.heap_drewN, World.size_drew]; omega) | omega | (simp; omega) | (simp; done))))
  · have hm : mayK v = false := by simpa using hm
    have hr := valR_no (s := s) hm
    have HM := Lib.hid hm
    have HR := Lib.hid hr
    clear hm hr
    go_enter Try.func13, Try.ntmps13
    go_wp2_with (go_at_call 36; refine (mayT HM.out h0 h1 h2 _).mono ?_; rintro e w1 ⟨rfl, hb1⟩; obtain ⟨chb1, fhb1⟩ := bcell hb1; have zhb1 := hb1.size; (try simp only [World.size_alloc, World.size_setCell, World.heap_drewN, World.size_drew] at zhb1); have zzhb10 : w.heap.size < w1.heap.size := (by omega))
    go_ret2
    exact ValPost.mk HR.out rfl (by (repeat' (first | (with_reducible exact Below.refl _ _) | (with_reducible assumption) | (with_reducible refine Below.alloc ?_ ?_ _) | (with_reducible refine Below.drew ?_) | (with_reducible refine below_drewN ?_ _) | (with_reducible refine Below.setCell ?_ ?_ _) | (with_reducible refine Below.trans ?_ (Below.mono (by with_reducible assumption) ?_)) | (simp only [World.size_alloc, World.size_setCell, World.heap_drewN, World.size_drew]; omega) | omega | (simp; omega) | (simp; done))))
set_option maxHeartbeats 1000000 in
theorem rvalC (s : ByteArray) (v : V) (hs : s.size ≤ 1099511627) (h0 : 0 ≤ v.k) (h1 : -9223372036854775808 ≤ v.n) (h2 : v.n ≤ 9223372036854775807) (w : World) : Calls Try.prog 14 #[.string s, .agg #[.int .u8 v.k, .int .i64 v.n, .string v.t]] w (ValPost s v w) := by
  by_cases hm : mayK v = true
  · have hr := valR_ok (s := s) hm
    have hk := may_kinds hm
    have hp0 := put_size (s := s) (n := 0)
    have hp1 := put_size (s := s) (n := 1)
    have hp2 := put_size (s := s) (n := 2)
    have hp3 := put_size (s := s) (n := 3)
    have q0 := enc_len10 (n := 0) (by decide)
    have q1 := enc_len10 (n := 1) (by decide)
    have q2 := enc_len10 (n := 2) (by decide)
    have q3 := enc_len10 (n := 3) (by decide)
    have z0 : (put s 0).size ≤ 1099511627776 := by omega
    have z1 : (put s 1).size ≤ 1099511627776 := by omega
    have z2 : (put s 2).size ≤ 1099511627776 := by omega
    have z3 : (put s 3).size ≤ 1099511627776 := by omega
    have HM := Lib.hid hm
    have HR := Lib.hid hr
    clear hm hr hp0 hp1 hp2 hp3 q0 q1 q2 q3
    obtain ⟨k, n, t⟩ := v
    dsimp only at h0 h1 h2 hk ⊢
    rcases hk with rfl | rfl | ⟨rfl, n0, n1⟩ | ⟨rfl, ht⟩
    · have hw : valW s ⟨0, n, t⟩ = put s 0 := rfl
      have HW := Lib.hid hw
      clear hw
      go_enter Try.func14, Try.ntmps14
      go_wp2_with (first | (go_at_call 37; refine (rmayT HM.out h0 _).mono ?_; rintro e w1 ⟨rfl, hb1⟩; obtain ⟨chb1, fhb1⟩ := bcell hb1; have zhb1 := hb1.size; (try simp only [World.size_alloc, World.size_setCell, World.heap_drewN, World.size_drew] at zhb1); have zzhb10 : w.heap.size < w1.heap.size := (by omega)) | (go_at_call 35; refine (bytesC s 0 (by omega) (by decide) _).mono ?_; rintro e w2 ⟨rfl, hb2⟩; obtain ⟨chb2, fhb2⟩ := bcell hb2; have zhb2 := hb2.size; (try simp only [World.size_alloc, World.size_setCell, World.heap_drewN, World.size_drew] at zhb2); have zzhb20 : w.heap.size < w2.heap.size := (by omega)))
      go_ret2
      exact ValPost.mk (HR.out.trans (by rw [HW.out])) rfl (by (repeat' (first | (with_reducible exact Below.refl _ _) | (with_reducible assumption) | (with_reducible refine Below.alloc ?_ ?_ _) | (with_reducible refine Below.drew ?_) | (with_reducible refine below_drewN ?_ _) | (with_reducible refine Below.setCell ?_ ?_ _) | (with_reducible refine Below.trans ?_ (Below.mono (by with_reducible assumption) ?_)) | (simp only [World.size_alloc, World.size_setCell, World.heap_drewN, World.size_drew]; omega) | omega | (simp; omega) | (simp; done))))
    · have hw : valW s ⟨1, n, t⟩ = intW (put s 1) n := rfl
      have HW := Lib.hid hw
      clear hw
      go_enter Try.func14, Try.ntmps14
      go_wp2_with (first | (go_at_call 37; refine (rmayT HM.out h0 _).mono ?_; rintro e w1 ⟨rfl, hb1⟩; obtain ⟨chb1, fhb1⟩ := bcell hb1; have zhb1 := hb1.size; (try simp only [World.size_alloc, World.size_setCell, World.heap_drewN, World.size_drew] at zhb1); have zzhb10 : w.heap.size < w1.heap.size := (by omega)) | (go_at_call 35; refine (bytesC s 1 (by omega) (by decide) _).mono ?_; rintro e w2 ⟨rfl, hb2⟩; obtain ⟨chb2, fhb2⟩ := bcell hb2; have zhb2 := hb2.size; (try simp only [World.size_alloc, World.size_setCell, World.heap_drewN, World.size_drew] at zhb2); have zzhb20 : w.heap.size < w2.heap.size := (by omega)) | (go_at_call 16; refine (rintC _ _ z1 h1 h2 _).mono ?_; rintro e w3 ⟨rfl, hb3⟩; obtain ⟨chb3, fhb3⟩ := bcell hb3; have zhb3 := hb3.size; (try simp only [World.size_alloc, World.size_setCell, World.heap_drewN, World.size_drew] at zhb3); have zzhb30 : w.heap.size < w3.heap.size := (by omega)))
      go_ret2
      exact ValPost.mk (HR.out.trans (by rw [HW.out])) rfl (by (repeat' (first | (with_reducible exact Below.refl _ _) | (with_reducible assumption) | (with_reducible refine Below.alloc ?_ ?_ _) | (with_reducible refine Below.drew ?_) | (with_reducible refine below_drewN ?_ _) | (with_reducible refine Below.setCell ?_ ?_ _) | (with_reducible refine Below.trans ?_ (Below.mono (by with_reducible assumption) ?_)) | (simp only [World.size_alloc, World.size_setCell, World.heap_drewN, World.size_drew]; omega) | omega | (simp; omega) | (simp; done))))
    · obtain ⟨m, rfl⟩ : ∃ m : Nat, n = m := ⟨n.toNat, by omega⟩
      have hw : valW s ⟨2, m, t⟩ = put (put s 2) m := rfl
      have HW := Lib.hid hw
      clear hw
      go_enter Try.func14, Try.ntmps14
      go_wp2_with (first | (go_at_call 37; refine (rmayT HM.out h0 _).mono ?_; rintro e w1 ⟨rfl, hb1⟩; obtain ⟨chb1, fhb1⟩ := bcell hb1; have zhb1 := hb1.size; (try simp only [World.size_alloc, World.size_setCell, World.heap_drewN, World.size_drew] at zhb1); have zzhb10 : w.heap.size < w1.heap.size := (by omega)) | (go_at_call_of 35 (Value.string s); refine (bytesC s 2 (by omega) (by decide) _).mono ?_; rintro e w2 ⟨rfl, hb2⟩; obtain ⟨chb2, fhb2⟩ := bcell hb2; have zhb2 := hb2.size; (try simp only [World.size_alloc, World.size_setCell, World.heap_drewN, World.size_drew] at zhb2); have zzhb20 : w.heap.size < w2.heap.size := (by omega)) | (go_at_call_of 35 (Value.string (put s 2)); refine (bytesC _ m z2 (by omega) _).mono ?_; rintro e w3 ⟨rfl, hb3⟩; obtain ⟨chb3, fhb3⟩ := bcell hb3; have zhb3 := hb3.size; (try simp only [World.size_alloc, World.size_setCell, World.heap_drewN, World.size_drew] at zhb3); have zzhb30 : w.heap.size < w3.heap.size := (by omega)))
      go_ret2
      exact ValPost.mk (HR.out.trans (by rw [HW.out])) rfl (by (repeat' (first | (with_reducible exact Below.refl _ _) | (with_reducible assumption) | (with_reducible refine Below.alloc ?_ ?_ _) | (with_reducible refine Below.drew ?_) | (with_reducible refine below_drewN ?_ _) | (with_reducible refine Below.setCell ?_ ?_ _) | (with_reducible refine Below.trans ?_ (Below.mono (by with_reducible assumption) ?_)) | (simp only [World.size_alloc, World.size_setCell, World.heap_drewN, World.size_drew]; omega) | omega | (simp; omega) | (simp; done))))
    · have hw : valW s ⟨3, n, t⟩ = textW (put s 3) t := rfl
      have HW := Lib.hid hw
      clear hw
      go_enter Try.func14, Try.ntmps14
      go_wp2_with (first | (go_at_call 37; refine (rmayT HM.out h0 _).mono ?_; rintro e w1 ⟨rfl, hb1⟩; obtain ⟨chb1, fhb1⟩ := bcell hb1; have zhb1 := hb1.size; (try simp only [World.size_alloc, World.size_setCell, World.heap_drewN, World.size_drew] at zhb1); have zzhb10 : w.heap.size < w1.heap.size := (by omega)) | (go_at_call 35; refine (bytesC s 3 (by omega) (by decide) _).mono ?_; rintro e w2 ⟨rfl, hb2⟩; obtain ⟨chb2, fhb2⟩ := bcell hb2; have zhb2 := hb2.size; (try simp only [World.size_alloc, World.size_setCell, World.heap_drewN, World.size_drew] at zhb2); have zzhb20 : w.heap.size < w2.heap.size := (by omega)) | (go_at_call 18; refine (rtextC _ _ z3 (by omega) _).mono ?_; rintro e w3 ⟨rfl, hb3⟩; obtain ⟨chb3, fhb3⟩ := bcell hb3; have zhb3 := hb3.size; (try simp only [World.size_alloc, World.size_setCell, World.heap_drewN, World.size_drew] at zhb3); have zzhb30 : w.heap.size < w3.heap.size := (by omega)))
      go_ret2
      exact ValPost.mk (HR.out.trans (by rw [HW.out])) rfl (by (repeat' (first | (with_reducible exact Below.refl _ _) | (with_reducible assumption) | (with_reducible refine Below.alloc ?_ ?_ _) | (with_reducible refine Below.drew ?_) | (with_reducible refine below_drewN ?_ _) | (with_reducible refine Below.setCell ?_ ?_ _) | (with_reducible refine Below.trans ?_ (Below.mono (by with_reducible assumption) ?_)) | (simp only [World.size_alloc, World.size_setCell, World.heap_drewN, World.size_drew]; omega) | omega | (simp; omega) | (simp; done))))
  · have hm : mayK v = false := by simpa using hm
    have hr := valR_no (s := s) hm
    have HM := Lib.hid hm
    have HR := Lib.hid hr
    clear hm hr
    go_enter Try.func14, Try.ntmps14
    go_wp2_with (go_at_call 37; refine (rmayT HM.out h0 _).mono ?_; rintro e w1 ⟨rfl, hb1⟩; obtain ⟨chb1, fhb1⟩ := bcell hb1; have zhb1 := hb1.size; (try simp only [World.size_alloc, World.size_setCell, World.heap_drewN, World.size_drew] at zhb1); have zzhb10 : w.heap.size < w1.heap.size := (by omega))
    go_ret2
    exact ValPost.mk HR.out rfl (by (repeat' (first | (with_reducible exact Below.refl _ _) | (with_reducible assumption) | (with_reducible refine Below.alloc ?_ ?_ _) | (with_reducible refine Below.drew ?_) | (with_reducible refine below_drewN ?_ _) | (with_reducible refine Below.setCell ?_ ?_ _) | (with_reducible refine Below.trans ?_ (Below.mono (by with_reducible assumption) ?_)) | (simp only [World.size_alloc, World.size_setCell, World.heap_drewN, World.size_drew]; omega) | omega | (simp; omega) | (simp; done))))
end Go.Proofs.Ytijhdnpaeliaoaa.Wd
