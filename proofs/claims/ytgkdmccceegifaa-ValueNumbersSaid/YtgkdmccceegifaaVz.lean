/- value.Two, as a contract of its call, for any operator and any two values; and the law's own is, no, works. No condition. -/
import Derived.Test.YtgkdmccceegifaaVt0
import Derived.Test.YtgkdmccceegifaaVtu
import Derived.Test.YtgkdmccceegifaaVt1
import Derived.Test.YtgkdmccceegifaaVt2
import Derived.Test.YtgkdmccceegifaaVt3
import Derived.Test.YtgkdmccceegifaaVt4
import Derived.Test.YtgkdmccceegifaaVt5
import Derived.Laws.StructEq
namespace Go.Proofs.Ytgkdmccceegifaa.Vz
open Go.RowKit Go.Proofs.Ytgkdmccceegifaa.Vm Go.Proofs.Ytgkdmccceegifaa.Va Go.Proofs.Ytgkdmccceegifaa.Vc Go.Proofs.Ytgkdmccceegifaa.Vt
set_option linter.unusedVariables false
set_option linter.unusedSimpArgs false

/-- Block g holds the value v. -/
structure Kv (g : Nat) (v : V) (W : World) : Prop where
  c0 : W.cell? ⟨g, 0, none⟩ = some (.int .u8 v.k)
  c1 : W.cell? ⟨g, 1, none⟩ = some (.int .i64 v.n)
  c2 : W.cell? ⟨g, 2, none⟩ = some (.string v.t)
theorem Kv.lt {g : Nat} {v : V} {W : World} (h : Kv g v W) : g < W.heap.size := lt_of_cell h.c0
theorem Kv.on {g : Nat} {v : V} {W w1 : World} (h : Kv g v W) (hb : Below W.heap.size W w1) : Kv g v w1 := ⟨cell_on hb h.c0, cell_on hb h.c1, cell_on hb h.c2⟩
theorem Kv.alloc {g : Nat} {v : V} {W : World} (h : Kv g v W) (o : Obj) : Kv g v (W.alloc o) := ⟨al h.c0, al h.c1, al h.c2⟩
theorem twoC (op : Int) (a b : V) (w : World) : Calls Try.prog 8 #[.int .u8 op, .agg #[.int .u8 a.k, .int .i64 a.n, .string a.t], .agg #[.int .u8 b.k, .int .i64 b.n, .string b.t]] w (TwoPost op a b w) := by
  by_cases h : op < 5 ∨ 15 < op
  · exact two_none op a b w h
  · cases hf : fits op a b
    · exact two_unfit op a b w (by omega) (by omega) hf
    · by_cases h1 : op = 5 ∨ op = 6 ∨ op = 7 ∨ op = 15
      · exact two_nums op a b w h1 hf
      · by_cases h2 : op = 8
        · exact two_add op a b w h2 hf
        · by_cases h3 : op = 9 ∨ op = 10
          · exact two_order op a b w h3 hf
          · by_cases h4 : op = 11 ∨ op = 12
            · exact two_equal op a b w h4 hf
            · exact two_logic op a b w (by omega) hf
/-- The same, its outcome under a letter. -/
theorem twoR (op : Int) (a b : V) (r : V × Int) (h : two op a b = r) (w : World) : Calls Try.prog 8 #[.int .u8 op, .agg #[.int .u8 a.k, .int .i64 a.n, .string a.t], .agg #[.int .u8 b.k, .int .i64 b.n, .string b.t]] w fun e w' =>
    e = .returned (.tuple #[.agg #[.int .u8 r.1.k, .int .i64 r.1.n, .string r.1.t], .int .i64 r.2]) ∧ Below w.heap.size w w' := by
  subst h
  exact twoC op a b w
def eqB (a b : V) : Bool := a.k == b.k && (a.n == b.n && a.t.toList == b.t.toList)
theorem isC (op : Int) (a b want : V) (w : World) : Calls Try.prog 32 #[.int .u8 op, .agg #[.int .u8 a.k, .int .i64 a.n, .string a.t], .agg #[.int .u8 b.k, .int .i64 b.n, .string b.t], .agg #[.int .u8 want.k, .int .i64 want.n, .string want.t]] w fun e w' =>
    e = .returned (.bool ((two op a b).2 == 0 && eqB (two op a b).1 want)) ∧ Below w.heap.size w w' := by
  obtain ⟨r, hr⟩ : ∃ r, two op a b = r := ⟨_, rfl⟩
  rw [hr]
  have HR := Lib.hid hr
  clear hr
  obtain ⟨⟨k, n, t⟩, c⟩ := r
  go_enter Try.func32, Try.ntmps32
  go_wp2_with fail
  refine (twoR op a b _ HR.out _).mono ?_
  rintro e w1 ⟨rfl, hb1⟩; obtain ⟨chb1, fhb1⟩ := bcell hb1; have zhb1 := hb1.size; (try simp only [World.size_alloc, World.size_setCell, World.heap_drewN, World.size_drew] at zhb1); have zzhb10 : w.heap.size < w1.heap.size := (by omega); have zzhb11 : w.heap.size + 1 < w1.heap.size := (by omega); have zzhb12 : w.heap.size + 1 + 1 < w1.heap.size := (by omega)
  go_wp2_with fail
  all_goals
    go_returns
    exact ⟨by simp [eqB, *], by (repeat' (first | (with_reducible exact Below.refl _ _) | (with_reducible assumption) | (with_reducible refine Below.alloc ?_ ?_ _) | (with_reducible refine Below.drew ?_) | (with_reducible refine below_drewN ?_ _) | (with_reducible refine Below.setCell ?_ ?_ _) | (with_reducible refine Below.trans ?_ (Below.mono (by with_reducible assumption) ?_)) | (simp only [World.size_alloc, World.size_setCell, World.heap_drewN, World.size_drew]; omega) | omega | (simp; omega) | (simp; done)))⟩
theorem noC (op : Int) (a b : V) (want : Int) (w : World) : Calls Try.prog 31 #[.int .u8 op, .agg #[.int .u8 a.k, .int .i64 a.n, .string a.t], .agg #[.int .u8 b.k, .int .i64 b.n, .string b.t], .int .i64 want] w fun e w' =>
    e = .returned (.bool ((two op a b).2 == want && eqB (two op a b).1 V.zero)) ∧ Below w.heap.size w w' := by
  obtain ⟨r, hr⟩ : ∃ r, two op a b = r := ⟨_, rfl⟩
  rw [hr]
  have HR := Lib.hid hr
  clear hr
  obtain ⟨⟨k, n, t⟩, c⟩ := r
  go_enter Try.func31, Try.ntmps31
  go_wp2_with fail
  refine (twoR op a b _ HR.out _).mono ?_
  rintro e w1 ⟨rfl, hb1⟩; obtain ⟨chb1, fhb1⟩ := bcell hb1; have zhb1 := hb1.size; (try simp only [World.size_alloc, World.size_setCell, World.heap_drewN, World.size_drew] at zhb1); have zzhb10 : w.heap.size < w1.heap.size := (by omega); have zzhb11 : w.heap.size + 1 < w1.heap.size := (by omega)
  go_wp2_with fail
  all_goals
    go_returns
    exact ⟨by simp [eqB, V.zero, *], by (repeat' (first | (with_reducible exact Below.refl _ _) | (with_reducible assumption) | (with_reducible refine Below.alloc ?_ ?_ _) | (with_reducible refine Below.drew ?_) | (with_reducible refine below_drewN ?_ _) | (with_reducible refine Below.setCell ?_ ?_ _) | (with_reducible refine Below.trans ?_ (Below.mono (by with_reducible assumption) ?_)) | (simp only [World.size_alloc, World.size_setCell, World.heap_drewN, World.size_drew]; omega) | omega | (simp; omega) | (simp; done)))⟩
theorem isT (op k1 n1 : Int) (t1 : ByteArray) (k2 n2 : Int) (t2 : ByteArray) (k3 n3 : Int) (t3 : ByteArray) (h : ((two op ⟨k1, n1, t1⟩ ⟨k2, n2, t2⟩).2 == 0 && eqB (two op ⟨k1, n1, t1⟩ ⟨k2, n2, t2⟩).1 ⟨k3, n3, t3⟩) = true) (w : World) :
    Calls Try.prog 32 #[.int .u8 op, .agg #[.int .u8 k1, .int .i64 n1, .string t1], .agg #[.int .u8 k2, .int .i64 n2, .string t2], .agg #[.int .u8 k3, .int .i64 n3, .string t3]] w fun e w' => e = .returned (.bool true) ∧ Below w.heap.size w w' := by
  rw [← h]
  exact isC op ⟨k1, n1, t1⟩ ⟨k2, n2, t2⟩ ⟨k3, n3, t3⟩ w
theorem noT (op k1 n1 : Int) (t1 : ByteArray) (k2 n2 : Int) (t2 : ByteArray) (want : Int) (h : ((two op ⟨k1, n1, t1⟩ ⟨k2, n2, t2⟩).2 == want && eqB (two op ⟨k1, n1, t1⟩ ⟨k2, n2, t2⟩).1 V.zero) = true) (w : World) :
    Calls Try.prog 31 #[.int .u8 op, .agg #[.int .u8 k1, .int .i64 n1, .string t1], .agg #[.int .u8 k2, .int .i64 n2, .string t2], .int .i64 want] w fun e w' => e = .returned (.bool true) ∧ Below w.heap.size w w' := by
  rw [← h]
  exact noC op ⟨k1, n1, t1⟩ ⟨k2, n2, t2⟩ want w
set_option maxHeartbeats 1000000 in
theorem worksC (w : World) : Calls Try.prog 10 #[] w fun e w' => e = .returned (.bool true) ∧ Below w.heap.size w w' := by
  go_enter Try.func10, Try.ntmps10
  go_wp2_with (first | (go_at_call 11; refine (lnumC _ _).mono ?_; rintro e w1 ⟨rfl, hb1⟩; have zhb1 := hb1.size; (try simp only [World.size_alloc, World.size_setCell, World.heap_drewN, World.size_drew] at zhb1)) | (go_at_call 17; refine (ltextC _ _).mono ?_; rintro e w1 ⟨rfl, hb1⟩; have zhb1 := hb1.size; (try simp only [World.size_alloc, World.size_setCell, World.heap_drewN, World.size_drew] at zhb1)) | (go_at_call 31; refine (noT _ _ _ _ _ _ _ _ (by decide +kernel) _).mono ?_; rintro e w1 ⟨rfl, hb1⟩; have zhb1 := hb1.size; (try simp only [World.size_alloc, World.size_setCell, World.heap_drewN, World.size_drew] at zhb1)) | (go_at_call 32; refine (isT _ _ _ _ _ _ _ _ _ _ (by decide +kernel) _).mono ?_; rintro e w1 ⟨rfl, hb1⟩; have zhb1 := hb1.size; (try simp only [World.size_alloc, World.size_setCell, World.heap_drewN, World.size_drew] at zhb1)))
  go_returns
  exact ⟨rfl, by (repeat' (first | (with_reducible exact Below.refl _ _) | (with_reducible assumption) | (with_reducible refine Below.alloc ?_ ?_ _) | (with_reducible refine Below.drew ?_) | (with_reducible refine below_drewN ?_ _) | (with_reducible refine Below.setCell ?_ ?_ _) | (with_reducible refine Below.trans ?_ (Below.mono (by with_reducible assumption) ?_)) | (simp only [World.size_alloc, World.size_setCell, World.heap_drewN, World.size_drew]; omega) | omega | (simp; omega) | (simp; done)))⟩
end Go.Proofs.Ytgkdmccceegifaa.Vz
