/- Package bits: Of, All as contracts; the reference's Ints. Conditions: each word is a word; no list is longer than 2^40; the table lies in its variable. -/
import Derived.Test.YtpgkikondihplaaDoorBv
namespace Go.Proofs.YtpgkikondihplaaDoor.Bw
open Go.RowKit Go.Proofs.YtpgkikondihplaaDoor.Ba Go.Proofs.YtpgkikondihplaaDoor.Bm Go.Proofs.YtpgkikondihplaaDoor.Bn Go.Proofs.YtpgkikondihplaaDoor.Bb Go.Proofs.YtpgkikondihplaaDoor.Bd Go.Proofs.YtpgkikondihplaaDoor.Bt Go.Proofs.YtpgkikondihplaaDoor.Be Go.Proofs.YtpgkikondihplaaDoor.Bu Go.Proofs.YtpgkikondihplaaDoor.Bv
set_option linter.unusedVariables false
set_option linter.unusedSimpArgs false
set_option maxRecDepth 100000
/-- The set of a list. -/
def ofS (l : List Int) : Nat → Nat := l.foldl withI zeroS
theorem fold_word : ∀ (l : List Int) (s : Nat → Nat), Word s → Word (l.foldl withI s)
  | [], _, h => h
  | x :: l, s, h => fold_word l _ (withI_word h x)
theorem ofS_word (l : List Int) : Word (ofS l) := fold_word l _ zero_word
theorem take_succ' (l : List Int) {k : Nat} (h : k < l.length) : l.take (k + 1) = l.take k ++ [l.getD k 0] := by
  rw [List.take_succ_eq_append_getElem h]
  simp [List.getD_eq_getElem?_getD, List.getElem?_eq_getElem h]
theorem ofS_next (l : List Int) {k : Nat} (h : k < l.length) : ofS (l.take (k + 1)) = withI (ofS (l.take k)) (l.getD k 0) := by
  rw [take_succ' l h]; unfold ofS; rw [List.foldl_append]; rfl
set_option maxHeartbeats 400000 in
theorem ofC (v : Value) (l : List Int) (w : World) (h : Rd v l w) : Calls Tryd.prog 11 #[v] w fun e w' => e = .returned (.agg (row (ofS l))) ∧ Below w.heap.size w w' := by
  obtain ⟨a, cap, rfl, hl, hs⟩ := h
  have r0 : Row w.heap.size zeroS ((w.alloc (.cells (row zeroS) 25)).alloc (.cells (row zeroS) 25)) := (Row.new zeroS w).alloc _
  have r1 : Row (w.heap.size + 1) (ofS (l.take 0)) ((w.alloc (.cells (row zeroS) 25)).alloc (.cells (row zeroS) 25)) := by
    have := Row.new zeroS (w.alloc (.cells (row zeroS) 25)); rw [World.size_alloc] at this; exact this
  have hB0 : Below w.heap.size w ((w.alloc (.cells (row zeroS) 25)).alloc (.cells (row zeroS) 25)) := by (repeat' (first | (with_reducible exact Below.refl _ _) | (with_reducible assumption) | (with_reducible refine Below.alloc ?_ ?_ _) | (with_reducible refine Below.drew ?_) | (with_reducible refine below_drewN ?_ _) | (with_reducible refine Below.setCell ?_ ?_ _) | (with_reducible refine Below.trans ?_ (Below.mono (by with_reducible assumption) ?_)) | (simp only [World.size_alloc, World.size_setCell, World.heap_drewN, World.size_drew]; omega) | omega | (simp; omega) | (simp; done)))
  have HS := Lib.hid hs
  clear hs
  go_enter Tryd.func11, Tryd.ntmps11
  go_wp2_with fail
  go_loopw [8] (fun v wr => ∃ k : Nat, k ≤ l.length ∧ v = .int .i64 k ∧ Row w.heap.size zeroS wr ∧ Row (w.heap.size + 1) (ofS (l.take k)) wr ∧ Below w.heap.size w wr) (fun v _ => l.length - (intOf v).toNat)
  case atStart => exact ⟨0, by omega, rfl, r0, r1, hB0⟩
  case round =>
    clear r0 r1 hB0
    obtain ⟨k, hk, rfl, r0, r1, hB⟩ := hrel
    by_cases hlt : k < l.length
    · obtain ⟨b, off, rfl, hc⟩ := HS.out (by omega)
      have q0 := hc k hlt
      have q : wr.cell? ⟨b, off + k, none⟩ = some (.int .i64 (l.getD k 0)) := (hB.cell (p := ⟨b, off + k, none⟩) (World.block_lt_of_cell? w _ q0)).trans q0
      have hz : (0 : Int) ≤ (k : Int) := by omega
      have hzl : (k : Int) < (l.length : Int) := by omega
      have hw := ofS_word (l.take k)
      have hnx := ofS_next l hlt
      have HN := Lib.hid hnx
      clear hc hnx q0
      generalize l.getD k 0 = x at *
      go_wp2_with (refine ld _ rfl rfl _ rfl _ r1 ?_)
      refine (withC _ hw _ _).mono ?_
      rintro e w1 ⟨rfl, hb⟩
      have r0' := r0.on hb
      have r1' := r1.on hb
      have hB' := hB.trans (hb.mono hB.size)
      clear r0 r1 hB hb q
      go_wp2_with (refine st _ _ rfl rfl _ rfl _ rfl _ r1' ?_; intro w2 hr hu)
      go_roundw
      case rel => exact ⟨k + 1, by omega, by go_num, hu.row r0' (by omega), HN.out ▸ hr, hu.below hB' (by omega)⟩
      case measure => simp [intOf]; omega
    · obtain rfl : k = l.length := by omega
      have hzl : ¬ (l.length : Int) < (l.length : Int) := by omega
      have he := List.take_length (l := l)
      rw [he] at r1
      clear he
      go_wp2_with (first | (refine ld _ rfl rfl _ rfl _ r1 ?_) | (refine st _ _ rfl rfl _ rfl _ rfl _ r0 ?_; intro w2 hr hu))
      refine bodyPost_ret (v := .agg (row (ofS l))) (results_cell_row rfl _ _ _ _ _ _ _ rfl hr Tryd.underlying25 rfl info25) rfl ?_
      exact ⟨rfl, hu.below hB (by omega)⟩
theorem intsDiff (v u : Value) (l m : List Int) (w : World) (h : Rd v l w) (k : Rd u m w) (hne : l.length ≠ m.length) : Calls Tryd.prog 19 #[v, u] w fun e w' => e = .returned (.bool false) ∧ Below w.heap.size w w' := by
  obtain ⟨a, cap, rfl, hl, hs⟩ := h
  obtain ⟨b, cap', rfl, hm, ht⟩ := k
  clear hs ht
  have hb : ((l.length : Int) != (m.length : Int)) = true := by simp; omega
  go_enter Tryd.func19, Tryd.ntmps19
  go_wp2_with fail
  go_ret
  exact ⟨rfl, Below.refl _ _⟩
theorem ne_at {l m : List Int} {k : Nat} (hk : k < l.length) (he : l.length = m.length) (h : l.getD k 0 ≠ m.getD k 0) : (l == m) = false := by
  rw [beq_eq_false_iff_ne]
  rintro rfl
  exact h rfl
theorem take_step {l m : List Int} {k : Nat} (hk : k < l.length) (he : l.length = m.length) (ht : l.take k = m.take k) (h : l.getD k 0 = m.getD k 0) : l.take (k + 1) = m.take (k + 1) := by
  rw [take_succ' l hk, take_succ' m (by omega), ht, h]
set_option maxHeartbeats 400000 in
theorem intsSame (v u : Value) (l m : List Int) (w : World) (h : Rd v l w) (k : Rd u m w) (hne : l.length = m.length) : Calls Tryd.prog 19 #[v, u] w fun e w' => e = .returned (.bool (l == m)) ∧ Below w.heap.size w w' := by
  obtain ⟨a, cap, rfl, hl, hs⟩ := h
  obtain ⟨b, cap', rfl, hm, ht⟩ := k
  have HS := Lib.hid hs
  have HT := Lib.hid ht
  have HE := Lib.hid hne
  clear hs ht
  rw [← hne]
  clear hne hm
  have hb : ((l.length : Int) != (l.length : Int)) = false := by simp
  go_enter Tryd.func19, Tryd.ntmps19
  go_wp2_with fail
  go_loopw [5] (fun v wr => ∃ k : Nat, k ≤ l.length ∧ v = .int .i64 k ∧ Hid (l.take k = m.take k) ∧ Below w.heap.size w wr) (fun v _ => l.length - (intOf v).toNat)
  case atStart => exact ⟨0, by omega, rfl, by rw [List.take_zero, List.take_zero]; rfl, Below.refl _ _⟩
  case round =>
    obtain ⟨k, hk, rfl, HK, hB⟩ := hrel
    by_cases hlt : k < l.length
    · obtain ⟨b1, off1, rfl, hc1⟩ := HS.out (by omega)
      obtain ⟨b2, off2, rfl, hc2⟩ := HT.out (by rw [← HE.out]; omega)
      have p0 := hc1 k hlt
      have q0 := hc2 k (by rw [← HE.out]; exact hlt)
      have p : wr.cell? ⟨b1, off1 + k, none⟩ = some (.int .i64 (l.getD k 0)) := (hB.cell (p := ⟨b1, off1 + k, none⟩) (World.block_lt_of_cell? w _ p0)).trans p0
      have q : wr.cell? ⟨b2, off2 + k, none⟩ = some (.int .i64 (m.getD k 0)) := (hB.cell (p := ⟨b2, off2 + k, none⟩) (World.block_lt_of_cell? w _ q0)).trans q0
      have hz : (0 : Int) ≤ (k : Int) := by omega
      have hzl : (k : Int) < (l.length : Int) := by omega
      clear hc1 hc2 p0 q0
      by_cases hxy : l.getD k 0 = m.getD k 0
      · have hnx := Lib.hid (take_step hlt HE.out HK.out hxy)
        rw [← hxy] at q
        generalize l.getD k 0 = x at *
        generalize m.getD k 0 = y at *
        have hd : (x != x) = false := by simp
        clear hxy
        go_wp2_with fail
        go_quiet (fail)
        go_wp2_with fail
        go_roundw
        case rel => exact ⟨k + 1, by omega, by go_num, hnx, below_drewN hB _⟩
        case measure => simp [intOf]; omega
      · have hans := ne_at hlt HE.out hxy
        have HA := Lib.hid hans
        generalize l.getD k 0 = x at *
        generalize m.getD k 0 = y at *
        have hd : (x != y) = true := by simpa using hxy
        clear hxy hans
        go_wp2_with fail
        go_quiet (fail)
        go_wp2_with fail
        go_ret
        exact ⟨congrArg (fun b => Ending.returned (.bool b)) HA.out.symm, below_drewN hB _⟩
    · obtain rfl : k = l.length := by omega
      have hzl : ¬ (l.length : Int) < (l.length : Int) := by omega
      have hans : (l == m) = true := by
        have := HK.out
        rw [List.take_length, HE.out, List.take_length] at this
        rw [this]; simp
      have HA := Lib.hid hans
      clear hans
      go_wp2_with fail
      go_ret
      exact ⟨congrArg (fun b => Ending.returned (.bool b)) HA.out.symm, hB⟩
/-- Ints: the same numbers? -/
theorem intsC (v u : Value) (l m : List Int) (w : World) (h : Rd v l w) (k : Rd u m w) : Calls Tryd.prog 19 #[v, u] w fun e w' => e = .returned (.bool (l == m)) ∧ Below w.heap.size w w' := by
  by_cases hne : l.length = m.length
  · exact intsSame v u l m w h k hne
  · have : (l == m) = false := by rw [beq_eq_false_iff_ne]; rintro rfl; exact hne rfl
    rw [this]
    exact intsDiff v u l m w h k hne
end Go.Proofs.YtpgkikondihplaaDoor.Bw
