/- Slices of whole numbers that came in: what the laws' walks need of them; the table of math/bits, out of the row's list. No condition. -/
import Derived.Test.YtpgkikondihplaaDoorBq
import Derived.ProofKit
import Derived.OpenShut
import Derived.SliceStrings
import Derived.Deep.Slices
import Derived.ChangeOld
import Derived.Carry
import Derived.Lib.LaidTab
namespace Go.Proofs.YtpgkikondihplaaDoor.Bk
open Go.ChangeShapes Go.WideShapes Go.ChangeAt Go.RowKit Go.Proofs.YtpgkikondihplaaDoor.Bv Go.Proofs.YtpgkikondihplaaDoor.Bt
set_option linter.unusedVariables false
/-- A slice of whole numbers that can be read. -/
def IntsAt (W : World) (k : IntKind) (v : Value) : Prop := ∃ (a : Option Addr) (len cap : Nat) (zs : List Int), v = .slice a len cap ∧ len ≤ zs.length ∧ len ≤ cap ∧ cap ≤ maxLen ∧
  (0 < len → ∃ b off, a = some ⟨b, off, none⟩ ∧ ∀ i, i < len → W.cell? ⟨b, off + i, none⟩ = some (.int k (zs.getD i 0))) ∧ ∀ n ∈ zs, (Lit.int k n).wf = true
theorem ints_read {H : Type} {enc : TypeId × Value → H} {P : Program} {W : World} {t e : TypeId} {k : IntKind} {v : Value} {d : DataW H} {p : List MemPlace}
    (ht : P.underlying t = some (.slice e)) (he : P.underlying e = some (.int k)) (hc : P.cellsOf e = 1) (hv : ∃ a len cap, v = .slice a len cap)
    (h : DataW.Trod enc P W 0 (fun _ => true) true t v d p) : IntsAt W k v := by
  obtain ⟨a, len, cap, rfl⟩ := hv
  obtain ⟨fuel, hf⟩ := h
  rcases open_ints ht he hc hf with ⟨hcs, hx⟩ | ⟨a', len', cap', zs, hcs, _, hl, hm, hz, hx, hcell, hwz⟩
  · simp only [Value.cells, List.cons.injEq, and_true] at hcs
    injection hcs with h1 h2 h3
    subst h1 h2 h3
    exact ⟨none, 0, 0, [], rfl, Nat.le_refl _, Nat.le_refl _, by unfold maxLen; omega, fun h => absurd h (by decide), by simp⟩
  · simp only [Value.cells, List.cons.injEq, and_true] at hcs
    injection hcs with h1 h2 h3
    subst h1 h2 h3
    have hlen : zs.length = cap := by simpa using hz
    refine ⟨some a', len, cap, zs, rfl, by omega, hl, hm, fun h0 => ?_, hwz⟩
    obtain ⟨b, off, rfl, hc2⟩ := ints_at hcell (by omega)
    exact ⟨b, off, rfl, fun i hi => hc2 i (by omega)⟩
theorem trod_far {H : Type} {enc : TypeId × Value → H} {P : Program} {W : World} {t : TypeId} {v : Value} {d : DataW H} {p : List MemPlace} (h : DataW.Trod enc P W 0 (fun _ => true) true t v d p) : ∀ x ∈ p, x.block < W.heap.size := by
  obtain ⟨fuel, hf⟩ := h
  exact DataW.trod_lt fuel t _ _ hf
/-- What was read, as a slice's value and the list that it reads as, if it is no longer than 200. -/
theorem IntsAt.parts {W : World} {v : Value} (h : IntsAt W .i64 v) : ∃ a n c, v = .slice a n c ∧ (n ≤ 200 → ∃ l : List Int, Rd (.slice a n c) l W) := by
  obtain ⟨a, len, cap, zs, rfl, hz, hc, hm, hcell, _⟩ := h
  refine ⟨a, len, cap, rfl, fun hl => ⟨zs.take len, a, cap, ?_, ?_, fun h0 => ?_⟩⟩
  · rw [List.length_take, Nat.min_eq_left hz]
  · rw [List.length_take]; omega
  · rw [List.length_take, Nat.min_eq_left hz] at h0 ⊢
    obtain ⟨b, off, rfl, hc2⟩ := hcell h0
    refine ⟨b, off, rfl, fun i hi => ?_⟩
    rw [hc2 i hi]
    congr 2
    rw [List.getD_eq_getElem?_getD, List.getD_eq_getElem?_getD, List.getElem?_take, if_pos hi]
theorem gTab : Tryd.prog.globalNamed "math/bits.deBruijn64tab" = some 0 := by kernel_rfl
theorem gTabType : (Tryd.prog.globals[0]?).map (·.type) = some 53 := by kernel_rfl
theorem cellsTab : Tryd.prog.cellsOf 53 = 64 := by kernel_rfl
theorem cellsU8 : Tryd.prog.cellsOf 5 = 1 := by kernel_rfl
/-- The table's cells, as the contracts ask them. -/
theorem tab_of {W : World} {zs : List Int} (hz : zs = Lib.deBruijn64tab.map Int.ofNat) (h : Lib.TabIs Tryd.prog W "math/bits.deBruijn64tab" .u8 zs) : Tab W := fun j hj => by
  subst hz
  rw [h.cell gTab j (by rw [List.length_map]; exact hj), List.getD_eq_getElem?_getD, List.getD_eq_getElem?_getD, List.getElem?_map, List.getElem?_eq_getElem hj]
  rfl
end Go.Proofs.YtpgkikondihplaaDoor.Bk
