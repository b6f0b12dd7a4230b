/- value.One, as a contract of its call, for any operator and any value. No condition. -/
import Derived.Test.YtgkdmccceegifaaVz
namespace Go.Proofs.Ytgkdmccceegifaa.Vo
open Go.RowKit Go.Proofs.Ytgkdmccceegifaa.Vm Go.Proofs.Ytgkdmccceegifaa.Va Go.Proofs.Ytgkdmccceegifaa.Vc Go.Proofs.Ytgkdmccceegifaa.Vt Go.Proofs.Ytgkdmccceegifaa.Vz
set_option linter.unusedVariables false
set_option linter.unusedSimpArgs false

def OnePost (op : Int) (v : V) (w : World) (e : Ending) (w' : World) : Prop :=
  e = .returned (.tuple #[.agg #[.int .u8 (one op v).1.k, .int .i64 (one op v).1.n, .string (one op v).1.t], .int .i64 (one op v).2]) ∧ Below w.heap.size w w'
theorem OnePost.mk {op : Int} {v : V} {w w' : World} {e : Ending} {r : V × Int} (h : one op v = r) (he : e = .returned (.tuple #[.agg #[.int .u8 r.1.k, .int .i64 r.1.n, .string r.1.t], .int .i64 r.2])) (hb : Below w.heap.size w w') : OnePost op v w e w' := by
  unfold OnePost
  rw [h]
  exact ⟨he, hb⟩
set_option maxHeartbeats 2000000 in
theorem oneC (op : Int) (v : V) (w : World) : Calls Try.prog 15 #[.int .u8 op, .agg #[.int .u8 v.k, .int .i64 v.n, .string v.t]] w (OnePost op v w) := by
  by_cases h3 : op = 3
  · subst h3
    by_cases hk : v.k = 1
    · have ht : one 3 v = numbers 15 0 v.n := by simp [one, hk]
      have HT := Lib.hid ht
      have k1 : (v.k != 1) = false := by simp [hk]
      clear ht hk
      go_enter Try.func15, Try.ntmps15
      go_wp2_with (go_at_call 20; refine (numbersC 15 0 v.n (by unfold Five; omega) _).mono ?_; rintro e w1 ⟨rfl, hb1⟩; obtain ⟨chb1, fhb1⟩ := bcell hb1; have zhb1 := hb1.size; (try simp only [World.size_alloc, World.size_setCell, World.heap_drewN, World.size_drew] at zhb1); have zzhb10 : w.heap.size < w1.heap.size := (by omega); have zzhb11 : w.heap.size + 1 < w1.heap.size := (by omega))
      refine bodyPost_ret (v := .tuple #[.agg #[.int .u8 (numbers 15 0 v.n).1.k, .int .i64 (numbers 15 0 v.n).1.n, .string (numbers 15 0 v.n).1.t], .int .i64 (numbers 15 0 v.n).2]) (by simp [results, Try.results15, go_sem, *]) rfl ?_
      exact OnePost.mk HT.out rfl (by (repeat' (first | (with_reducible exact Below.refl _ _) | (with_reducible assumption) | (with_reducible refine Below.alloc ?_ ?_ _) | (with_reducible refine Below.drew ?_) | (with_reducible refine below_drewN ?_ _) | (with_reducible refine Below.setCell ?_ ?_ _) | (with_reducible refine Below.trans ?_ (Below.mono (by with_reducible assumption) ?_)) | (simp only [World.size_alloc, World.size_setCell, World.heap_drewN, World.size_drew]; omega) | omega | (simp; omega) | (simp; done))))
    · have ht : one 3 v = (V.zero, 23) := by simp [one, hk]
      have HT := Lib.hid ht
      have k1 : (v.k != 1) = true := by simp [hk]
      clear ht hk
      go_enter Try.func15, Try.ntmps15
      go_wp2
      go_returns
      exact OnePost.mk HT.out rfl (by (repeat' (first | (with_reducible exact Below.refl _ _) | (with_reducible assumption) | (with_reducible refine Below.alloc ?_ ?_ _) | (with_reducible refine Below.drew ?_) | (with_reducible refine below_drewN ?_ _) | (with_reducible refine Below.setCell ?_ ?_ _) | (with_reducible refine Below.trans ?_ (Below.mono (by with_reducible assumption) ?_)) | (simp only [World.size_alloc, World.size_setCell, World.heap_drewN, World.size_drew]; omega) | omega | (simp; omega) | (simp; done))))
  by_cases h4 : op = 4
  · subst h4
    clear h3
    by_cases hk : v.k = 2
    · have ht : one 4 v = (truth (!yes v), 0) := by simp [one, hk]
      have HT := Lib.hid ht
      have k1 : (v.k != 2) = false := by simp [hk]
      clear ht hk
      go_enter Try.func15, Try.ntmps15
      go_wp2_with (first | (go_at_call 12; refine (yesC v _).mono ?_; rintro e w1 ⟨rfl, hb1⟩; obtain ⟨chb1, fhb1⟩ := bcell hb1; have zhb1 := hb1.size; (try simp only [World.size_alloc, World.size_setCell, World.heap_drewN, World.size_drew] at zhb1); have zzhb10 : w.heap.size < w1.heap.size := (by omega); have zzhb11 : w.heap.size + 1 < w1.heap.size := (by omega)) | (go_at_call 13; refine (truthC _ _).mono ?_; rintro e w2 ⟨rfl, hb2⟩; obtain ⟨chb2, fhb2⟩ := bcell hb2; have zhb2 := hb2.size; (try simp only [World.size_alloc, World.size_setCell, World.heap_drewN, World.size_drew] at zhb2); have zzhb20 : w.heap.size < w2.heap.size := (by omega); have zzhb21 : w.heap.size + 1 < w2.heap.size := (by omega)))
      refine bodyPost_ret (v := .tuple #[.agg #[.int .u8 2, .int .i64 (b2i (!yes v)), .string ⟨#[]⟩], .int .i64 0]) (by simp [results, Try.results15, go_sem, *]) rfl ?_
      exact OnePost.mk HT.out rfl (by (repeat' (first | (with_reducible exact Below.refl _ _) | (with_reducible assumption) | (with_reducible refine Below.alloc ?_ ?_ _) | (with_reducible refine Below.drew ?_) | (with_reducible refine below_drewN ?_ _) | (with_reducible refine Below.setCell ?_ ?_ _) | (with_reducible refine Below.trans ?_ (Below.mono (by with_reducible assumption) ?_)) | (simp only [World.size_alloc, World.size_setCell, World.heap_drewN, World.size_drew]; omega) | omega | (simp; omega) | (simp; done))))
    · have ht : one 4 v = (V.zero, 23) := by simp [one, hk]
      have HT := Lib.hid ht
      have k1 : (v.k != 2) = true := by simp [hk]
      clear ht hk
      go_enter Try.func15, Try.ntmps15
      go_wp2
      go_returns
      exact OnePost.mk HT.out rfl (by (repeat' (first | (with_reducible exact Below.refl _ _) | (with_reducible assumption) | (with_reducible refine Below.alloc ?_ ?_ _) | (with_reducible refine Below.drew ?_) | (with_reducible refine below_drewN ?_ _) | (with_reducible refine Below.setCell ?_ ?_ _) | (with_reducible refine Below.trans ?_ (Below.mono (by with_reducible assumption) ?_)) | (simp only [World.size_alloc, World.size_setCell, World.heap_drewN, World.size_drew]; omega) | omega | (simp; omega) | (simp; done))))
  by_cases h16 : op = 16
  · subst h16
    clear h3 h4
    by_cases hk : v.k = 3
    · have ht : one 16 v = (num (v.t.size : Int), 0) := by simp [one, hk]
      have HT := Lib.hid ht
      have k1 : (v.k != 3) = false := by simp [hk]
      clear ht hk
      go_enter Try.func15, Try.ntmps15
      go_wp2_with (go_at_call 33; refine (numC _ _).mono ?_; rintro e w1 ⟨rfl, hb1⟩; obtain ⟨chb1, fhb1⟩ := bcell hb1; have zhb1 := hb1.size; (try simp only [World.size_alloc, World.size_setCell, World.heap_drewN, World.size_drew] at zhb1); have zzhb10 : w.heap.size < w1.heap.size := (by omega); have zzhb11 : w.heap.size + 1 < w1.heap.size := (by omega))
      refine bodyPost_ret (v := .tuple #[.agg #[.int .u8 1, .int .i64 (v.t.size : Int), .string ⟨#[]⟩], .int .i64 0]) (by simp [results, Try.results15, go_sem, *]) rfl ?_
      exact OnePost.mk HT.out rfl (by (repeat' (first | (with_reducible exact Below.refl _ _) | (with_reducible assumption) | (with_reducible refine Below.alloc ?_ ?_ _) | (with_reducible refine Below.drew ?_) | (with_reducible refine below_drewN ?_ _) | (with_reducible refine Below.setCell ?_ ?_ _) | (with_reducible refine Below.trans ?_ (Below.mono (by with_reducible assumption) ?_)) | (simp only [World.size_alloc, World.size_setCell, World.heap_drewN, World.size_drew]; omega) | omega | (simp; omega) | (simp; done))))
    · have ht : one 16 v = (V.zero, 23) := by simp [one, hk]
      have HT := Lib.hid ht
      have k1 : (v.k != 3) = true := by simp [hk]
      clear ht hk
      go_enter Try.func15, Try.ntmps15
      go_wp2
      go_returns
      exact OnePost.mk HT.out rfl (by (repeat' (first | (with_reducible exact Below.refl _ _) | (with_reducible assumption) | (with_reducible refine Below.alloc ?_ ?_ _) | (with_reducible refine Below.drew ?_) | (with_reducible refine below_drewN ?_ _) | (with_reducible refine Below.setCell ?_ ?_ _) | (with_reducible refine Below.trans ?_ (Below.mono (by with_reducible assumption) ?_)) | (simp only [World.size_alloc, World.size_setCell, World.heap_drewN, World.size_drew]; omega) | omega | (simp; omega) | (simp; done))))
  · have ht : one op v = (V.zero, 4) := by simp [one, h3, h4, h16]
    have HT := Lib.hid ht
    have k1 : (op == 3) = false := by simp [h3]
    have k2 : (op == 4) = false := by simp [h4]
    have k3 : (op == 16) = false := by simp [h16]
    clear ht h3 h4 h16
    go_enter Try.func15, Try.ntmps15
    go_wp2
    go_returns
    exact OnePost.mk HT.out rfl (by (repeat' (first | (with_reducible exact Below.refl _ _) | (with_reducible assumption) | (with_reducible refine Below.alloc ?_ ?_ _) | (with_reducible refine Below.drew ?_) | (with_reducible refine below_drewN ?_ _) | (with_reducible refine Below.setCell ?_ ?_ _) | (with_reducible refine Below.trans ?_ (Below.mono (by with_reducible assumption) ?_)) | (simp only [World.size_alloc, World.size_setCell, World.heap_drewN, World.size_drew]; omega) | omega | (simp; omega) | (simp; done))))
theorem oneR (op : Int) (v : V) (r : V × Int) (h : one op v = r) (w : World) : Calls Try.prog 15 #[.int .u8 op, .agg #[.int .u8 v.k, .int .i64 v.n, .string v.t]] w fun e w' =>
    e = .returned (.tuple #[.agg #[.int .u8 r.1.k, .int .i64 r.1.n, .string r.1.t], .int .i64 r.2]) ∧ Below w.heap.size w w' := by
  subst h
  exact oneC op v w
end Go.Proofs.Ytgkdmccceegifaa.Vo
