/- Helpers of the laws' walks. No condition. -/
import Derived.Test.YtgkdmccceegifaaVo
import Derived.Test.YtgkdmccceegifaaVq
import Derived.Deep.DeepCutAuto
import Derived.BigRegion
import Derived.Deep.DrawnRows
namespace Go.Proofs.Ytgkdmccceegifaa.Vx
open Go.RowKit Go.Proofs.Ytgkdmccceegifaa.Vm Go.Proofs.Ytgkdmccceegifaa.Va Go.Proofs.Ytgkdmccceegifaa.Vc Go.Proofs.Ytgkdmccceegifaa.Vt Go.Proofs.Ytgkdmccceegifaa.Vz Go.Proofs.Ytgkdmccceegifaa.Vo
set_option linter.unusedVariables false
set_option linter.unusedSimpArgs false
theorem Kv.set {g : Nat} {v : V} {W : World} {b i : Nat} {x : Value} (h : Kv g v W) (hb : b ≠ g) : Kv g v (W.setCell ⟨b, i, none⟩ x) :=
  ⟨(World.cell?_setCell_other W ⟨b, i, none⟩ ⟨g, 0, none⟩ x (fun e => hb (by simpa using congrArg Addr.block e))).trans h.c0,
   (World.cell?_setCell_other W ⟨b, i, none⟩ ⟨g, 1, none⟩ x (fun e => hb (by simpa using congrArg Addr.block e))).trans h.c1,
   (World.cell?_setCell_other W ⟨b, i, none⟩ ⟨g, 2, none⟩ x (fun e => hb (by simpa using congrArg Addr.block e))).trans h.c2⟩
theorem Kv.drew {g : Nat} {v : V} {W : World} (h : Kv g v W) : Kv g v W.drew := ⟨h.c0, h.c1, h.c2⟩
theorem Kv.drewN {g : Nat} {v : V} {W : World} (n : Nat) (h : Kv g v W) : Kv g v (W.drewN n) :=
  ⟨by simpa [World.cell?] using h.c0, by simpa [World.cell?] using h.c1, by simpa [World.cell?] using h.c2⟩
/-- Block g holds the value v in the cells x, y, z. -/
structure Ko (g x y z : Nat) (v : V) (W : World) : Prop where
  c0 : W.cell? ⟨g, x, none⟩ = some (.int .u8 v.k)
  c1 : W.cell? ⟨g, y, none⟩ = some (.int .i64 v.n)
  c2 : W.cell? ⟨g, z, none⟩ = some (.string v.t)
theorem Ko.lt {g x y z : Nat} {v : V} {W : World} (h : Ko g x y z v W) : g < W.heap.size := lt_of_cell h.c0
theorem Ko.on {g x y z : Nat} {v : V} {W w1 : World} (h : Ko g x y z v W) (hb : Below W.heap.size W w1) : Ko g x y z v w1 := ⟨cell_on hb h.c0, cell_on hb h.c1, cell_on hb h.c2⟩
theorem Ko.alloc {g x y z : Nat} {v : V} {W : World} (h : Ko g x y z v W) (o : Obj) : Ko g x y z v (W.alloc o) := ⟨al h.c0, al h.c1, al h.c2⟩
theorem Ko.drew {g x y z : Nat} {v : V} {W : World} (h : Ko g x y z v W) : Ko g x y z v W.drew := ⟨h.c0, h.c1, h.c2⟩
theorem Ko.set {g x y z : Nat} {v : V} {W : World} {b i : Nat} {u : Value} (h : Ko g x y z v W) (hb : b ≠ g) : Ko g x y z v (W.setCell ⟨b, i, none⟩ u) :=
  ⟨(World.cell?_setCell_other W ⟨b, i, none⟩ ⟨g, x, none⟩ u (fun e => hb (by simpa using congrArg Addr.block e))).trans h.c0,
   (World.cell?_setCell_other W ⟨b, i, none⟩ ⟨g, y, none⟩ u (fun e => hb (by simpa using congrArg Addr.block e))).trans h.c1,
   (World.cell?_setCell_other W ⟨b, i, none⟩ ⟨g, z, none⟩ u (fun e => hb (by simpa using congrArg Addr.block e))).trans h.c2⟩
/-- A value's box, new. -/
theorem Kv.new {W : World} {k n : Int} {t : ByteArray} {T : TypeId} : Kv W.heap.size ⟨k, n, t⟩ (W.alloc (.cells #[.int .u8 k, .int .i64 n, .string t] T)) := ⟨by simp [go_sem], by simp [go_sem], by simp [go_sem]⟩
theorem Kv.new' {W : World} {g : Nat} {k n : Int} {t : ByteArray} {T : TypeId} (h : g = W.heap.size) : Kv g ⟨k, n, t⟩ (W.alloc (.cells #[.int .u8 k, .int .i64 n, .string t] T)) := by
  subst h
  exact Kv.new
theorem yesT (x : Bool) (w : World) : Calls Try.prog 12 #[.agg #[.int .u8 2, .int .i64 (b2i x), .string ⟨#[]⟩]] w fun e w' => e = .returned (.bool x) ∧ Below w.heap.size w w' := by
  have : yes (truth x) = x := by cases x <;> decide +kernel
  refine (yesC (truth x) w).mono ?_
  rintro e w1 ⟨rfl, hb⟩
  exact ⟨by rw [this], hb⟩
theorem twoAdd (a b : ByteArray) : two 8 (text a) (text b) = if 40 < (a.size : Int) + b.size then (V.zero, 20) else (text (a ++ b), 0) := by
  have e1 : texts (text a) (text b) = true := rfl
  have e2 : fits 8 (text a) (text b) = true := rfl
  unfold two
  rw [if_neg (by omega), if_neg (by rw [e2]; decide)]
  simp only [show ¬ (8 : Int) = 9 by omega, show ¬ (8 : Int) = 10 by omega, show ¬ (8 : Int) = 11 by omega, show ¬ (8 : Int) = 12 by omega, show ¬ (8 : Int) = 13 by omega, show ¬ (8 : Int) = 14 by omega, if_false, e1]
  rw [if_neg (by decide)]
  show (if 40 < a.size ∨ 40 - (a.size : Int) < b.size then (V.zero, 20) else (text (a ++ b), 0)) = _
  by_cases h : 40 < (a.size : Int) + b.size
  · rw [if_pos h, if_pos (by omega)]
  · rw [if_neg h, if_neg (by omega)]
theorem add_no {a b : ByteArray} (h : 40 < (a.size : Int) + b.size) : two 8 (text a) (text b) = (V.zero, 20) := by rw [twoAdd, if_pos h]
theorem add_ok {a b : ByteArray} (h : ¬ 40 < (a.size : Int) + b.size) : two 8 (text a) (text b) = (text (a ++ b), 0) := by rw [twoAdd, if_neg h]
end Go.Proofs.Ytgkdmccceegifaa.Vx
