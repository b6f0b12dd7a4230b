/- Plain law of the sums of bytes (Adler's two numbers): a step is told apart by its byte and by its state. No condition. -/
import Derived.WalkKit
namespace Go.Proofs.Ythbihpeaalepfaa.SumMath
open Go.RowKit

def stp (p : Int × Int) (c : Int) : Int × Int := ((p.1 + c) % 65521, (p.2 + (p.1 + c) % 65521) % 65521)
def fld (p : Int × Int) (l : List Int) : Int × Int := l.foldl stp p
def In (p : Int × Int) : Prop := 0 ≤ p.1 ∧ p.1 < 65521 ∧ 0 ≤ p.2 ∧ p.2 < 65521
def Byte (c : Int) : Prop := 0 ≤ c ∧ c ≤ 255
/-- The bytes of a text, as numbers. -/
def bys (s : ByteArray) : List Int := s.data.toList.map fun c => (c.toNat : Int)
def pack (p : Int × Int) : Int := p.2 * 65536 + p.1

theorem bys_length (s : ByteArray) : (bys s).length = s.size := by simp [bys]
theorem bys_byte (s : ByteArray) : ∀ c ∈ bys s, Byte c := by
  intro c h
  simp only [bys, List.mem_map] at h
  obtain ⟨u, _, rfl⟩ := h
  have := u.toNat_lt
  unfold Byte; omega
theorem bys_inj {s t : ByteArray} (h : bys s = bys t) : s = t := by
  have h1 : s.data.toList = t.data.toList := by
    refine (List.map_inj_right ?_).1 h
    intro a b hab
    apply UInt8.toNat_inj.1
    have hh : (a.toNat : Int) = b.toNat := hab
    omega
  cases s; cases t
  simpa using h1
theorem bys_append (s t : ByteArray) : bys (s ++ t) = bys s ++ bys t := by simp [bys]

theorem stp_in (p : Int × Int) (c : Int) : In (stp p c) := by
  unfold In stp; omega
theorem fld_in {p : Int × Int} (hp : In p) (l : List Int) : In (fld p l) := by
  unfold fld
  induction l generalizing p with
  | nil => exact hp
  | cons c l ih => exact ih (stp_in p c)
theorem fld_append (p : Int × Int) (l m : List Int) : fld p (l ++ m) = fld (fld p l) m := by simp [fld]
theorem fld_cons (p : Int × Int) (c : Int) (l : List Int) : fld p (c :: l) = fld (stp p c) l := rfl
theorem stp_inj {p q : Int × Int} (hp : In p) (hq : In q) {c : Int} (h : stp p c = stp q c) : p = q := by
  obtain ⟨a, b⟩ := p; obtain ⟨x, y⟩ := q
  simp only [stp, Prod.mk.injEq, In] at *
  omega
theorem fld_inj {p q : Int × Int} (hp : In p) (hq : In q) (l : List Int) (h : fld p l = fld q l) : p = q := by
  induction l generalizing p q with
  | nil => exact h
  | cons c l ih => exact stp_inj hp hq (ih (stp_in p c) (stp_in q c) h)
/-- One byte unlike. -/
theorem byte_apart {p : Int × Int} (hp : In p) {c d : Int} (hc : Byte c) (hd : Byte d) (l m : List Int) (h : fld p (l ++ c :: m) = fld p (l ++ d :: m)) : c = d := by
  rw [fld_append, fld_append, fld_cons, fld_cons] at h
  have hq := fld_in hp l
  generalize fld p l = q at *
  have := fld_inj (stp_in _ _) (stp_in _ _) m h
  obtain ⟨a, b⟩ := q
  simp only [stp, Prod.mk.injEq, In, Byte] at *
  omega
/-- Two bytes change places. -/
theorem swap_apart {p : Int × Int} (hp : In p) {c d : Int} (hc : Byte c) (hd : Byte d) (l m : List Int) (h : fld p (l ++ c :: d :: m) = fld p (l ++ d :: c :: m)) : c = d := by
  rw [fld_append, fld_append, fld_cons, fld_cons, fld_cons, fld_cons] at h
  have hq := fld_in hp l
  generalize fld p l = q at *
  have := fld_inj (stp_in _ _) (stp_in _ _) m h
  obtain ⟨a, b⟩ := q
  simp only [stp, Prod.mk.injEq, In, Byte] at *
  omega
theorem pack_inj {p q : Int × Int} (hp : In p) (hq : In q) (h : pack p = pack q) : p = q := by
  obtain ⟨a, b⟩ := p; obtain ⟨x, y⟩ := q
  simp only [pack, Prod.mk.injEq, In] at *
  omega

/-- The first number: the sum of all. -/
theorem fld_fst (p : Int × Int) (hp : In p) (l : List Int) : (fld p l).1 = (p.1 + l.sum) % 65521 := by
  induction l generalizing p with
  | nil => unfold In at hp; simp [fld]; omega
  | cons c l ih =>
    rw [fld_cons, ih _ (stp_in p c)]
    simp only [stp, List.sum_cons]
    omega
theorem fst_turned (p : Int × Int) (hp : In p) (l m : List Int) : (fld p (l ++ m)).1 = (fld p (m ++ l)).1 := by
  rw [fld_fst p hp, fld_fst p hp, List.sum_append, List.sum_append, Int.add_comm l.sum]
theorem zeros (p : Int × Int) (hp : In p) (n : Nat) : fld p (List.replicate n 0) = (p.1, (p.2 + n * p.1) % 65521) := by
  induction n generalizing p with
  | zero => obtain ⟨a, b⟩ := p; unfold In at hp; simp [fld] at *; omega
  | succ n ih =>
    rw [List.replicate_succ, fld_cons, ih _ (stp_in p 0)]
    obtain ⟨a, b⟩ := p
    unfold In at hp
    simp only [stp, Prod.mk.injEq] at *
    have e : (a + 0) % 65521 = a := by omega
    rw [e]
    refine ⟨rfl, ?_⟩
    have : ((n + 1 : Nat) : Int) * a = n * a + a := by rw [Int.natCast_add, Int.add_mul]; simp
    rw [this]
    omega

theorem or_pack (a b : Int) (h0 : 0 ≤ a) (h1 : a < 65536) (h2 : 0 ≤ b) (h3 : b < 65536) : Go.bits .or .u32 ((b * 65536) % 4294967296) a = b * 65536 + a := by
  rw [show (b * 65536) % 4294967296 = b * 65536 by omega]
  obtain ⟨a, rfl⟩ := Int.eq_ofNat_of_zero_le h0
  obtain ⟨b, rfl⟩ := Int.eq_ofNat_of_zero_le h2
  rw [u32_or (b * 65536) a (by omega) (by omega) (by omega) (by omega)]
  have e1 : ((b : Int) * 65536).toNat = b * 2 ^ 16 := by omega
  have e2 : ((a : Int)).toNat = a := by omega
  rw [e1, e2, ← Nat.shiftLeft_eq, ← Nat.shiftLeft_add_eq_or_of_lt (by omega), Nat.shiftLeft_eq]
  omega
theorem and_low (x : Int) (h0 : 0 ≤ x) (h1 : x < 4294967296) : Go.bits .and .u32 x 65535 = x % 65536 := by
  obtain ⟨x, rfl⟩ := Int.eq_ofNat_of_zero_le h0
  rw [u32_and x 65535 (by omega) (by omega) (by omega) (by omega)]
  have e1 : ((x : Int)).toNat = x := by omega
  have e2 : ((65535 : Int)).toNat = 2 ^ 16 - 1 := by decide
  rw [e1, e2, Nat.and_two_pow_sub_one_eq_mod]
  omega
theorem drop_cons (s : ByteArray) (i : Nat) (h : i < s.size) : (bys s).drop i = ((s[i]'h).toNat : Int) :: (bys s).drop (i + 1) := by
  rw [List.drop_eq_getElem_cons (by rw [bys_length]; exact h)]
  simp [bys]
  rfl
end Go.Proofs.Ythbihpeaalepfaa.SumMath
