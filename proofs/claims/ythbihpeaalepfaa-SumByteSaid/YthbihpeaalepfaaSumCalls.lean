/- What sum.Sum, sum.Add, sum.Both and the law's own works come to, as contracts of their calls. No condition but the reach of a string. -/
import Derived.Test.YthbihpeaalepfaaPSumNamesx1
import Derived.Test.YthbihpeaalepfaaSumMath
namespace Go.Proofs.Ythbihpeaalepfaa.SumCalls
open Go.RowKit Go.Proofs.Ythbihpeaalepfaa.PSumNames Go.Proofs.YthbihpeaalepfaaW.PrintWords Go.Proofs.YthbihpeaalepfaaW.PrintLast Go.Proofs.Ythbihpeaalepfaa.SumMath

theorem bt_nat (s : ByteArray) (i : Nat) (h : i < s.size) : bt s (i : Int) = ((s[i]'h).toNat : Int) := by
  simp [bt, h]
theorem l1_tells (s : ByteArray) (hs : s.size ≤ 140737488351232) (xs : List ByteArray) (x11 x12 : Int) (d : Nat) : ∀ (k : Nat) (a b : Int) (i : Nat), i + d = s.size → 0 ≤ a → a < 65536 → 0 ≤ b → b < 65536 →
    sum_over.l1 (k + d + 1) a b s xs x11 x12 (s.size : Int) (i : Int) = sum_over.l0 k (fld (a, b) ((bys s).drop i)).1 (fld (a, b) ((bys s).drop i)).2 xs x11 (wrap64 (x12 + 1)) := by
  induction d with
  | zero =>
    intro k a b i hi h0 h1 h2 h3
    rw [List.drop_of_length_le (by rw [bys_length]; omega)]
    simp only [sum_over.l1]
    rw [if_neg (by omega)]
    rfl
  | succ d ih =>
    intro k a b i hi h0 h1 h2 h3
    have hlt : i < s.size := by omega
    rw [show k + (d + 1) + 1 = (k + d + 1) + 1 by omega]
    rw [sum_over.l1]
    rw [if_pos (by omega), if_pos (by omega), if_pos (by omega), bt_nat s i hlt]
    have hb := (s[i]).toNat_lt
    rw [show wrap64 ((i : Int) + 1) = ((i + 1 : Nat) : Int) from by unfold wrap64; omega]
    have e1 : ((a + ((s[i].toNat : Int) % 4294967296)) % 4294967296) % 65521 = (a + (s[i].toNat : Int)) % 65521 := by omega
    rw [e1]
    have e2 : ((b + (a + (s[i].toNat : Int)) % 65521) % 4294967296) % 65521 = (b + (a + (s[i].toNat : Int)) % 65521) % 65521 := by omega
    rw [e2, ih k _ _ (i + 1) (by omega) (by omega) (by omega) (by omega) (by omega), drop_cons s i hlt, fld_cons]
    rfl
theorem fld_small (a b : Int) (l : List Int) (h0 : 0 ≤ a) (h1 : a < 65536) (h2 : 0 ≤ b) (h3 : b < 65536) : 0 ≤ (fld (a, b) l).1 ∧ (fld (a, b) l).1 < 65536 ∧ 0 ≤ (fld (a, b) l).2 ∧ (fld (a, b) l).2 < 65536 := by
  cases l with
  | nil => exact ⟨h0, h1, h2, h3⟩
  | cons c l =>
    rw [fld_cons]
    have := fld_in (stp_in (a, b) c) l
    unfold In at this
    omega
theorem over_tells (s : ByteArray) (hs : s.size ≤ 140737488351232) (a b : Int) (h0 : 0 ≤ a) (h1 : a < 65536) (h2 : 0 ≤ b) (h3 : b < 65536) (k : Nat) : sum_over.f (k + s.size + 3) a b [s] = some (pack (fld (a, b) (bys s))) := by
  obtain ⟨g0, g1, g2, g3⟩ := fld_small a b (bys s) h0 h1 h2 h3
  unfold sum_over.f
  rw [show k + s.size + 3 = (k + s.size + 2) + 1 by omega, sum_over.l0]
  rw [if_pos (by simp), if_pos (by omega), if_pos (by simp)]
  have hr : rdOf ByteArray.empty [s] 0 = s := rfl
  rw [hr, show k + s.size + 2 = (k + 1) + s.size + 1 by omega]
  have := l1_tells s hs [s] (([s] : List ByteArray).length : Int) 0 s.size (k + 1) a b 0 (by omega) h0 h1 h2 h3
  rw [show ((0 : Nat) : Int) = 0 from rfl] at this
  rw [this, sum_over.l0, if_neg (by simp [wrap64]), List.drop_zero, or_pack _ _ g0 g1 g2 g3]
  rfl
theorem sum_tells (s : ByteArray) (hs : s.size ≤ 140737488351232) (k : Nat) : sum_Sum.f (k + s.size + 3) s = some (pack (fld (1, 0) (bys s))) := by
  unfold sum_Sum.f
  rw [over_tells s hs 1 0 (by omega) (by omega) (by omega) (by omega)]
  rfl
theorem both_tells (x : Int) (h0 : 0 ≤ x) (h1 : x < 4294967296) : sum_Both.f x = some (x % 65536, x / 65536) := by
  unfold sum_Both.f
  rw [and_low x h0 h1]
  simp only [Option.some.injEq, Prod.mk.injEq]
  unfold wrap64
  omega
theorem add_tells (x : Int) (h0 : 0 ≤ x) (h1 : x < 4294967296) (s : ByteArray) (hs : s.size ≤ 140737488351232) (k : Nat) : sum_Add.f (k + s.size + 3) x s = some (pack (fld (x % 65536, x / 65536) (bys s))) := by
  unfold sum_Add.f
  rw [and_low x h0 h1, over_tells s hs _ _ (by omega) (by omega) (by omega) (by omega)]
  rfl

def Sm (s : ByteArray) : Int := pack (fld (1, 0) (bys s))
def Ad (x : Int) (s : ByteArray) : Int := pack (fld (x % 65536, x / 65536) (bys s))
theorem Ad_bd (x : Int) (h0 : 0 ≤ x) (h1 : x < 4294967296) (s : ByteArray) : 0 ≤ Ad x s ∧ Ad x s < 4294967296 := by
  have := fld_small (x % 65536) (x / 65536) (bys s) (by omega) (by omega) (by omega) (by omega)
  unfold Ad pack
  omega
theorem Sm_bd (s : ByteArray) : 0 ≤ Sm s ∧ Sm s < 4294967296 := by
  have := fld_small 1 0 (bys s) (by omega) (by omega) (by omega) (by omega)
  unfold Sm pack
  omega
theorem sumC (s : ByteArray) (hs : s.size ≤ 140737488351232) (w : World) : Calls Try.prog 9 #[.string s] w fun e w' => e = .returned (.int .u32 (Sm s)) ∧ Below w.heap.size w w' :=
  sum_Sum.calls _ s _ w (sum_tells s hs 0)
theorem addC (x : Int) (h0 : 0 ≤ x) (h1 : x < 4294967296) (s : ByteArray) (hs : s.size ≤ 140737488351232) (w : World) : Calls Try.prog 12 #[.int .u32 x, .string s] w fun e w' => e = .returned (.int .u32 (Ad x s)) ∧ Below w.heap.size w w' :=
  sum_Add.calls _ x s _ w (add_tells x h0 h1 s hs 0)
theorem bothC (x : Int) (h0 : 0 ≤ x) (h1 : x < 4294967296) (w : World) : Calls Try.prog 10 #[.int .u32 x] w fun e w' => e = .returned (.tuple #[.int .i64 (x % 65536), .int .i64 (x / 65536)]) ∧ Drawn0 w w' :=
  sum_Both.calls x _ _ w (both_tells x h0 h1)
theorem works_tells : callboardlaw01_works.f 20 = some true := by decide +kernel
theorem worksC (w : World) : Calls Try.prog 8 #[] w fun e w' => e = .returned (.bool true) ∧ Below w.heap.size w w' :=
  callboardlaw01_works.calls _ _ w works_tells
end Go.Proofs.Ythbihpeaalepfaa.SumCalls
