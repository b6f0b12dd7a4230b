/- The printed functions of sum and of the reference come to one fold: SumTells. No condition. -/
import Derived.Test.YthbihpeaalepfaaPSumTellsx1
import Derived.Test.YthbihpeaalepfaaSumMath
namespace Go.Proofs.Ythbihpeaalepfaa.Pure
open Go.RowKit Go.Proofs.Ythbihpeaalepfaa.PSumTells Go.Proofs.YthbihpeaalepfaaW.PrintWords Go.Proofs.YthbihpeaalepfaaW.PrintLast Go.Proofs.Ythbihpeaalepfaa.SumMath

theorem bt_nat (s : ByteArray) (i : Nat) (h : i < s.size) : bt s (i : Int) = ((s[i]'h).toNat : Int) := by
  simp [bt, h]
theorem l1_tells (s : ByteArray) (hs : s.size ≤ 140737488351232) (xs : List ByteArray) (x11 x12 : Int) (d : Nat) : ∀ (k : Nat) (a b : Int) (i : Nat), i + d = s.size → 0 ≤ a → a < 65536 → 0 ≤ b → b < 65536 →
    sum_over.l1 (k + d + 1) a b s xs x11 x12 (s.size : Int) (i : Int) = sum_over.l0 k (fld (a, b) ((bys s).drop i)).1 (fld (a, b) ((bys s).drop i)).2 xs x11 (wrap64 (x12 + 1)) := by
  induction d with
  | zero =>
    intro k a b i hi h0 h1 h2 h3
    rw [List.drop_of_length_le (by rw [bys_length]; omega)]
    simp only [sum_over.l1]
    rw [if_neg (by omega)]
    rfl
  | succ d ih =>
    intro k a b i hi h0 h1 h2 h3
    have hlt : i < s.size := by omega
    rw [show k + (d + 1) + 1 = (k + d + 1) + 1 by omega]
    rw [sum_over.l1]
    rw [if_pos (by omega), if_pos (by omega), if_pos (by omega), bt_nat s i hlt]
    have hb := (s[i]).toNat_lt
    rw [show wrap64 ((i : Int) + 1) = ((i + 1 : Nat) : Int) from by unfold wrap64; omega]
    have e1 : ((a + ((s[i].toNat : Int) % 4294967296)) % 4294967296) % 65521 = (a + (s[i].toNat : Int)) % 65521 := by omega
    rw [e1]
    have e2 : ((b + (a + (s[i].toNat : Int)) % 65521) % 4294967296) % 65521 = (b + (a + (s[i].toNat : Int)) % 65521) % 65521 := by omega
    rw [e2, ih k _ _ (i + 1) (by omega) (by omega) (by omega) (by omega) (by omega), drop_cons s i hlt, fld_cons]
    rfl
theorem fld_small (a b : Int) (l : List Int) (h0 : 0 ≤ a) (h1 : a < 65536) (h2 : 0 ≤ b) (h3 : b < 65536) : 0 ≤ (fld (a, b) l).1 ∧ (fld (a, b) l).1 < 65536 ∧ 0 ≤ (fld (a, b) l).2 ∧ (fld (a, b) l).2 < 65536 := by
  cases l with
  | nil => exact ⟨h0, h1, h2, h3⟩
  | cons c l =>
    rw [fld_cons]
    have := fld_in (stp_in (a, b) c) l
    unfold In at this
    omega
theorem over_tells (s : ByteArray) (hs : s.size ≤ 140737488351232) (a b : Int) (h0 : 0 ≤ a) (h1 : a < 65536) (h2 : 0 ≤ b) (h3 : b < 65536) (k : Nat) : sum_over.f (k + s.size + 3) a b [s] = some (pack (fld (a, b) (bys s))) := by
  obtain ⟨g0, g1, g2, g3⟩ := fld_small a b (bys s) h0 h1 h2 h3
  unfold sum_over.f
  rw [show k + s.size + 3 = (k + s.size + 2) + 1 by omega, sum_over.l0]
  rw [if_pos (by simp), if_pos (by omega), if_pos (by simp)]
  have hr : rdOf ByteArray.empty [s] 0 = s := rfl
  rw [hr, show k + s.size + 2 = (k + 1) + s.size + 1 by omega]
  have := l1_tells s hs [s] (([s] : List ByteArray).length : Int) 0 s.size (k + 1) a b 0 (by omega) h0 h1 h2 h3
  rw [show ((0 : Nat) : Int) = 0 from rfl] at this
  rw [this, sum_over.l0, if_neg (by simp [wrap64]), List.drop_zero, or_pack _ _ g0 g1 g2 g3]
  rfl
theorem sum_tells (s : ByteArray) (hs : s.size ≤ 140737488351232) (k : Nat) : sum_Sum.f (k + s.size + 3) s = some (pack (fld (1, 0) (bys s))) := by
  unfold sum_Sum.f
  rw [over_tells s hs 1 0 (by omega) (by omega) (by omega) (by omega)]
  rfl
theorem both_tells (x : Int) (h0 : 0 ≤ x) (h1 : x < 4294967296) : sum_Both.f x = some (x % 65536, x / 65536) := by
  unfold sum_Both.f
  rw [and_low x h0 h1]
  simp only [Option.some.injEq, Prod.mk.injEq]
  unfold wrap64
  omega
theorem add_tells (x : Int) (h0 : 0 ≤ x) (h1 : x < 4294967296) (s : ByteArray) (hs : s.size ≤ 140737488351232) (k : Nat) : sum_Add.f (k + s.size + 3) x s = some (pack (fld (x % 65536, x / 65536) (bys s))) := by
  unfold sum_Add.f
  rw [and_low x h0 h1, over_tells s hs _ _ (by omega) (by omega) (by omega) (by omega)]
  rfl

theorem ref_tells (s : ByteArray) (hs : s.size ≤ 140737488351232) (d : Nat) : ∀ (k : Nat) (a b : Int) (i : Nat), i + d = s.size → 0 ≤ a → a < 65536 → 0 ≤ b → b < 65536 →
    callboardref01_Add.l0 (k + d + 1) s a b (i : Int) = some (pack (fld (a, b) ((bys s).drop i))) := by
  induction d with
  | zero =>
    intro k a b i hi h0 h1 h2 h3
    rw [List.drop_of_length_le (by rw [bys_length]; omega)]
    rw [Nat.add_zero, callboardref01_Add.l0, if_neg (by omega)]
    simp only [pack, fld, List.foldl_nil, Option.some.injEq]
    unfold wrap64
    omega
  | succ d ih =>
    intro k a b i hi h0 h1 h2 h3
    have hlt : i < s.size := by omega
    rw [show k + (d + 1) + 1 = (k + d + 1) + 1 by omega]
    rw [callboardref01_Add.l0]
    rw [if_pos (by omega), if_pos (by omega), bt_nat s i hlt]
    have hb := (s[i]).toNat_lt
    rw [show wrap64 ((i : Int) + 1) = ((i + 1 : Nat) : Int) from by unfold wrap64; omega]
    have e0 : wrap64 (s[i].toNat : Int) = (s[i].toNat : Int) := by unfold wrap64; omega
    have e1 : Int.tmod (wrap64 (a + (s[i].toNat : Int))) 65521 = (a + (s[i].toNat : Int)) % 65521 := by
      rw [show wrap64 (a + (s[i].toNat : Int)) = a + (s[i].toNat : Int) from by unfold wrap64; omega, Int.tmod_eq_emod_of_nonneg (by omega)]
    rw [e0, e1]
    have e2 : Int.tmod (wrap64 (b + (a + (s[i].toNat : Int)) % 65521)) 65521 = (b + (a + (s[i].toNat : Int)) % 65521) % 65521 := by
      rw [show wrap64 (b + (a + (s[i].toNat : Int)) % 65521) = b + (a + (s[i].toNat : Int)) % 65521 from by unfold wrap64; omega, Int.tmod_eq_emod_of_nonneg (by omega)]
    rw [e2, ih k _ _ (i + 1) (by omega) (by omega) (by omega) (by omega) (by omega), drop_cons s i hlt, fld_cons]
    rfl
theorem refboth_tells (x : Int) (h0 : 0 ≤ x) (h1 : x < 4294967296) : callboardref01_Both.f x = some (x % 65536, x / 65536) := by
  unfold callboardref01_Both.f
  rw [Int.tmod_eq_emod_of_nonneg h0, Int.tdiv_eq_ediv_of_nonneg h0]
  simp only [Option.some.injEq, Prod.mk.injEq]
  unfold wrap64
  omega
theorem refadd_tells (x : Int) (h0 : 0 ≤ x) (h1 : x < 4294967296) (s : ByteArray) (hs : s.size ≤ 140737488351232) (k : Nat) : callboardref01_Add.f (k + s.size + 3) x s = some (pack (fld (x % 65536, x / 65536) (bys s))) := by
  unfold callboardref01_Add.f
  rw [refboth_tells x h0 h1, Option.bind_some]
  have := ref_tells s hs s.size (k + 2) (x % 65536) (x / 65536) 0 (by omega) (by omega) (by omega) (by omega) (by omega)
  rw [show k + 2 + s.size + 1 = k + s.size + 3 by omega] at this
  exact this

theorem SumTells : callboardlaw01_SumTells.Pure := by
  intro s x hs hw
  have hx : 0 ≤ x ∧ x < 4294967296 := by
    simp only [Lit.wf, Bool.and_eq_true, decide_eq_true_eq] at hw
    have h1 : IntKind.u32.min = 0 := rfl
    have h2 : IntKind.u32.max = 4294967295 := rfl
    omega
  refine ⟨0 + s.size + 3, ?_⟩
  unfold callboardlaw01_SumTells.f
  by_cases hl : (s.size : Int) > 20000
  · rw [if_pos hl]
  · rw [if_neg hl, both_tells x hx.1 hx.2, refboth_tells x hx.1 hx.2]
    simp only [Option.bind_some]
    have e := refadd_tells 1 (by omega) (by omega) s hs 0
    have r : callboardref01_Sum.f (0 + s.size + 3) s = some (pack (fld (1, 0) (bys s))) := by
      unfold callboardref01_Sum.f
      rw [e]
      rfl
    rw [sum_tells s hs 0, r, add_tells x hx.1 hx.2 s hs 0, refadd_tells x hx.1 hx.2 s hs 0]
    simp

end Go.Proofs.Ythbihpeaalepfaa.Pure
