/- Package bits: All as a contract. Conditions: each word is a word; the table lies in its variable. -/
import Derived.Test.YtpgkikondihplaaDoorBw
import Derived.Deep.LoopGhost
namespace Go.Proofs.YtpgkikondihplaaDoor.Bx
open Go.RowKit Go.Proofs.YtpgkikondihplaaDoor.Ba Go.Proofs.YtpgkikondihplaaDoor.Bm Go.Proofs.YtpgkikondihplaaDoor.Bn Go.Proofs.YtpgkikondihplaaDoor.Bb Go.Proofs.YtpgkikondihplaaDoor.Bd Go.Proofs.YtpgkikondihplaaDoor.Bt Go.Proofs.YtpgkikondihplaaDoor.Be Go.Proofs.YtpgkikondihplaaDoor.Bu Go.Proofs.YtpgkikondihplaaDoor.Bv Go.Proofs.YtpgkikondihplaaDoor.Bw
set_option linter.unusedVariables false
set_option linter.unusedSimpArgs false
set_option maxRecDepth 100000
def nI : Option Nat → Int
  | none => 0
  | some m => (m : Int)
def nB : Option Nat → Bool
  | none => false
  | some _ => true
theorem nxV_eq (o : Option Nat) : nxV o = .tuple #[.int .i64 (nI o), .bool (nB o)] := by cases o <;> rfl
/-- Next, its two results apart. -/
theorem nextP (s : Nat → Nat) (hs : Word s) (n : Int) (o : Option Nat) (ho : nx (lst s) n.toNat = o) (w : World) (hT : Tab w) : Calls Tryd.prog 12 #[.agg (row s), .int .i64 n] w fun e w' => e = .returned (.tuple #[.int .i64 (nI o), .bool (nB o)]) ∧ Below w.heap.size w w' := by
  have := nextC s hs n w hT
  rw [ho, nxV_eq] at this
  exact this
/-- A set's numbers, as a list of Go's. -/
def lstI (s : Nat → Nat) : List Int := (lst s).map Int.ofNat
theorem lstI_len (s : Nat → Nat) : (lstI s).length = (lst s).length := List.length_map _
theorem lstI_take (s : Nat → Nat) {k : Nat} (h : k < (lst s).length) : (lstI s).take (k + 1) = (lstI s).take k ++ [nI ((lst s)[k]?)] := by
  rw [List.take_succ_eq_append_getElem (by rw [lstI_len]; exact h)]
  congr 2
  rw [List.getElem?_eq_getElem h]
  simp [lstI, nI]
theorem at_some {l : List Nat} {k : Nat} (h : k < l.length) : nB (l[k]?) = true := by rw [List.getElem?_eq_getElem h]; rfl
theorem at_none {l : List Nat} {k : Nat} (h : ¬ k < l.length) : nB (l[k]?) = false := by rw [List.getElem?_eq_none (by omega)]; rfl
theorem nI_next (s : Nat → Nat) {k : Nat} (h : k < (lst s).length) : nx (lst s) (nI ((lst s)[k]?) + 1).toNat = (lst s)[k + 1]? := by
  rw [List.getElem?_eq_getElem h]
  show nx (lst s) (((lst s)[k] : Int) + 1).toNat = _
  rw [show (((lst s)[k] : Int) + 1).toNat = (lst s)[k] + 1 by omega]
  exact nx_succ (lst_rising s) h
theorem nI_bound (s : Nat → Nat) {k : Nat} (h : k < (lst s).length) : 0 ≤ nI ((lst s)[k]?) ∧ nI ((lst s)[k]?) < 1024 := by
  rw [List.getElem?_eq_getElem h]
  have hm := mem_lst.1 (List.getElem_mem h)
  unfold has at hm
  simp at hm
  show 0 ≤ ((lst s)[k] : Int) ∧ ((lst s)[k] : Int) < 1024
  omega
/-- What All leaves. -/
def AllPost (s : Nat → Nat) (w : World) (e : Ending) (w' : World) : Prop := ∃ v, e = .returned v ∧ Own w.heap.size v (lstI s) w' ∧ Below w.heap.size w w'
set_option maxHeartbeats 1000000 in
theorem allC (s : Nat → Nat) (hs : Word s) (w : World) (hT : Tab w) : Calls Tryd.prog 20 #[.agg (row s)] w (AllPost s w) := by
  have r0 := Row.new s w
  have hB : Below w.heap.size w (w.alloc (.cells (row s) 25)) := by (repeat' (first | (with_reducible exact Below.refl _ _) | (with_reducible assumption) | (with_reducible refine Below.alloc ?_ ?_ _) | (with_reducible refine Below.drew ?_) | (with_reducible refine below_drewN ?_ _) | (with_reducible refine Below.setCell ?_ ?_ _) | (with_reducible refine Below.trans ?_ (Below.mono (by with_reducible assumption) ?_)) | (simp only [World.size_alloc, World.size_setCell, World.heap_drewN, World.size_drew]; omega) | omega | (simp; omega) | (simp; done)))
  replace hT := hT.on hB
  have hL := lst_len_le s
  have hn0 : nx (lst s) (0 : Int).toNat = (lst s)[0]? := nx_head _
  have H0 := Lib.hid hn0
  have HL := Lib.hid hL
  have hlt_ : w.heap.size + 1 ≤ (w.alloc (.cells (row s) 25)).heap.size := by simp
  clear hn0 hL
  go_enter Tryd.func20, Tryd.ntmps20
  go_wp2_with (refine ld _ rfl rfl _ rfl _ r0 ?_)
  refine (nextP s hs 0 _ H0.out _ hT).mono ?_
  rintro e w1 ⟨rfl, hb⟩
  have hz1 : w.heap.size + 1 ≤ w1.heap.size := Nat.le_trans hlt_ hb.size
  replace r0 := r0.on hb
  replace hT := hT.on hb
  replace hB := hB.trans (hb.mono hB.size)
  clear hb hlt_
  go_wp2_with fail
  go_loopg [3, 4, 5] ((lst s).length) (fun q o n b wr => ∃ k : Nat, k + q = (lst s).length ∧ Own (w.heap.size + 1) o ((lstI s).take k) wr ∧ n = .int .i64 (nI ((lst s)[k]?)) ∧ b = .bool (nB ((lst s)[k]?)) ∧ Row w.heap.size s wr ∧ Tab wr ∧ w.heap.size + 1 ≤ wr.heap.size ∧ Below w.heap.size w wr)
  case atStart => exact ⟨0, by omega, Own.nil _ _, rfl, rfl, r0, hT, hz1, hB⟩
  case round =>
    clear r0 hT hz1 hB
    obtain ⟨k, hk, hown, rfl, rfl, r0, hT, hz1, hB⟩ := hrel
    by_cases hlt : k < (lst s).length
    · have hbt := at_some hlt
      have hnx := nI_next s hlt
      have htk := lstI_take s hlt
      obtain ⟨hx0, hx1⟩ := nI_bound s hlt
      have hln : ((lstI s).take k).length ≤ 1099511627776 := by rw [List.length_take, lstI_len]; have := HL.out; omega
      have hk1 : k + 1 + (gk - 1) = (lst s).length := by omega
      have hgk : gk - 1 < gk := by omega
      have HN := Lib.hid hnx
      have HT2 := Lib.hid htk
      have HB := Lib.hid hbt
      clear hnx htk hlt hk hbt
      rw [HB.out] at *
      generalize nI ((lst s)[k]?) = x at *
      generalize (lstI s).take k = lk at *
      have hown1 : Own (w.heap.size + 1) _ lk (wr.alloc (.cells #[.int .i64 x] 3)) := hown.on ((Below.refl _ _).alloc (Nat.le_refl _) _)
      have hc1 : (wr.alloc (.cells #[.int .i64 x] 3)).cell? ⟨wr.heap.size, 0, none⟩ = some (.int .i64 x) := by simp [go_sem]
      have hw1 : w.heap.size + 1 ≤ (wr.alloc (.cells #[.int .i64 x] 3)).heap.size := by simp; omega
      have r1 : Row w.heap.size s (wr.alloc (.cells #[.int .i64 x] 3)) := r0.alloc _
      have hT1 : Tab (wr.alloc (.cells #[.int .i64 x] 3)) := hT.alloc _
      have hB1 : Below w.heap.size w (wr.alloc (.cells #[.int .i64 x] 3)) := hB.alloc hB.size _
      have HC := Lib.hid hc1
      clear r0 hT hB hown hc1
      go_wp2_with (first | (at_builtin; refine app1 _ _ rfl rfl (w.heap.size + 1) _ lk rfl hown1 wr.heap.size rfl x HC.out hln hw1 ?_; intro v2 w2 hown2 hb2; have hBn : Below w.heap.size w w2 := hB1.trans (hb2.mono (by omega)); have r2 : Row w.heap.size s w2 := (hb2.block w.heap.size (by omega)).trans r1; have hT2 : Tab w2 := hT1.below hb2 (by omega); have hz2 : w.heap.size + 1 ≤ w2.heap.size := Nat.le_trans hw1 hb2.size; clear hb2 r1 hT1 hB1 hown1 hw1 HC; skip) | (refine ld _ rfl rfl _ rfl s (by assumption) ?_))
      refine (nextP s hs (x + 1) _ HN.out _ hT2).mono ?_
      rintro e w3 ⟨rfl, hb⟩
      replace r2 := r2.on hb
      replace hT2 := hT2.on hb
      replace hBn := hBn.trans (hb.mono hBn.size)
      replace hown2 := hown2.on hb
      replace hz2 := Nat.le_trans hz2 hb.size
      clear hb
      go_wp2_with fail
      go_roundg (gk - 1)
      case measure => exact hgk
      case rel => exact ⟨k + 1, hk1, HT2.out ▸ hown2, rfl, rfl, r2, hT2, hz2, hBn⟩
    · have hbf := at_none hlt
      have hke : (lstI s).take k = lstI s := List.take_of_length_le (by rw [lstI_len]; omega)
      rw [hke] at hown
      have HB := Lib.hid hbf
      clear hbf hke
      rw [HB.out] at *
      go_wp2_with fail
      go_ret
      exact ⟨_, rfl, hown.mono (by omega), hB⟩
end Go.Proofs.YtpgkikondihplaaDoor.Bx
