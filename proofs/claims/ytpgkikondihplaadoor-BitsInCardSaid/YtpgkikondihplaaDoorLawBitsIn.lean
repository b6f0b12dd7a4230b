/- BitsIn: the walk of the law, from the contracts. No condition but what the argument's reading gives. -/
import Derived.Test.YtpgkikondihplaaDoorBk
import Derived.Deep.DeepCutAuto
import Derived.Deep.CutBlock
namespace Go.Proofs.YtpgkikondihplaaDoor.LawBitsIn
open Go.RowKit Go.Proofs.YtpgkikondihplaaDoor.Ba Go.Proofs.YtpgkikondihplaaDoor.Bm Go.Proofs.YtpgkikondihplaaDoor.Bn Go.Proofs.YtpgkikondihplaaDoor.Bb Go.Proofs.YtpgkikondihplaaDoor.Bc Go.Proofs.YtpgkikondihplaaDoor.Bd Go.Proofs.YtpgkikondihplaaDoor.Bg Go.Proofs.YtpgkikondihplaaDoor.Bt Go.Proofs.YtpgkikondihplaaDoor.Be Go.Proofs.YtpgkikondihplaaDoor.Bf Go.Proofs.YtpgkikondihplaaDoor.Bu Go.Proofs.YtpgkikondihplaaDoor.Bv Go.Proofs.YtpgkikondihplaaDoor.Bw Go.Proofs.YtpgkikondihplaaDoor.Bx Go.Proofs.YtpgkikondihplaaDoor.By Go.Proofs.YtpgkikondihplaaDoor.Bz Go.Proofs.YtpgkikondihplaaDoor.Bq Go.Proofs.YtpgkikondihplaaDoor.Bk
set_option linter.unusedVariables false
set_option linter.unusedSimpArgs false
set_option maxRecDepth 100000
/-- Within the bounds? -/
def inB (n : Int) : Bool := decide (0 ≤ n) && decide (n < 1024)
theorem has_lt {s : Nat → Nat} {k : Nat} (h : has s k = true) : k < 1024 := by unfold has at h; simp at h; exact h.1
theorem hasI_in (s : Nat → Nat) (n : Int) : hasI s n = (inB n && has s n.toNat) := by
  unfold hasI inB
  by_cases h0 : 0 ≤ n
  · by_cases h1 : n < 1024
    · simp [h0, h1]
    · have : has s n.toNat = false := by
        cases h : has s n.toNat with
        | false => rfl
        | true => have := has_lt h; omega
      simp [this]
  · simp [h0]
theorem hasI_or (s t : Nat → Nat) (n : Int) : hasI (orS s t) n = (hasI s n || hasI t n) := by unfold hasI; rw [has_or]; cases decide (0 ≤ n) <;> simp
theorem hasI_and (s t : Nat → Nat) (n : Int) : hasI (andS s t) n = (hasI s n && hasI t n) := by unfold hasI; rw [has_and]; cases decide (0 ≤ n) <;> simp
theorem hasI_less (s t : Nat → Nat) (ht : Word t) (n : Int) : hasI (lessS s t) n = (hasI s n && !hasI t n) := by unfold hasI; rw [has_less ht]; cases decide (0 ≤ n) <;> simp
theorem hasI_with (s : Nat → Nat) (k n : Int) : hasI (withI s k) n = (hasI s n || (n == k && inB n)) := by
  unfold withI
  split
  · rename_i h
    have : (n == k && inB n) = false := by
      cases e : (n == k) with
      | false => rfl
      | true =>
        have : n = k := by simpa using e
        subst this
        unfold inB; simp; omega
    rw [this, Bool.or_false]
  · rename_i h
    unfold hasI inB
    rw [has_with s (by omega)]
    by_cases h0 : 0 ≤ n
    · have e : (n.toNat == k.toNat) = (n == k) := by rw [Bool.eq_iff_iff]; simp; omega
      rw [e]
      cases e2 : (n == k) with
      | false => simp
      | true =>
        have : n = k := by simpa using e2
        subst this
        have h1 : n < 1024 := by omega
        simp [h0, h1]
    · simp [h0]
theorem hasI_without (s : Nat → Nat) (k n : Int) : hasI (withoutI s k) n = (hasI s n && n != k) := by
  unfold withoutI
  split
  · rename_i h
    cases e : (n != k) with
    | true => simp
    | false =>
      have : n = k := by simpa using e
      subst this
      rw [hasI_no s (by omega)]; rfl
  · rename_i h
    unfold hasI
    rw [has_without s (by omega)]
    by_cases h0 : 0 ≤ n
    · have e : (!(n.toNat == k.toNat)) = (n != k) := by rw [Bool.eq_iff_iff]; simp; omega
      rw [e]
      simp [h0]
    · simp [h0]
theorem hasI_below (k n : Int) : hasI (belowS (min k.toNat 1024)) n = (inB n && decide (n < k)) := by
  rw [hasI_in, has_below]
  unfold inB
  by_cases h0 : 0 ≤ n
  · by_cases h1 : n < 1024
    · have e1 : decide (n.toNat < 1024) = true := by simp; omega
      have e2 : decide (n.toNat < min k.toNat 1024) = decide (n < k) := by rw [Bool.eq_iff_iff]; simp; omega
      rw [e1, e2]; simp
    · simp [h1]
  · simp [h0]
theorem hasI_zero (n : Int) : hasI zeroS n = false := by unfold hasI; rw [has_zero]; simp
theorem hasI_fold (n : Int) : ∀ (l : List Int) (s : Nat → Nat), hasI (l.foldl withI s) n = (hasI s n || (decide (n ∈ l) && inB n))
  | [], s => by simp
  | x :: l, s => by
    rw [List.foldl_cons, hasI_fold n l, hasI_with]
    by_cases e : n = x
    · subst e
      cases hasI s n <;> cases inB n <;> simp
    · have : (n == x) = false := by simpa using e
      simp [this, e]
theorem hasI_of (l : List Int) (n : Int) : hasI (ofS l) n = (decide (n ∈ l) && inB n) := by unfold ofS; rw [hasI_fold, hasI_zero, Bool.false_or]
theorem tri (n k : Int) : ((n == k) = false ∧ (n != k) = true ∧ decide (n < k) = true) ∨ ((n == k) = true ∧ (n != k) = false ∧ decide (n < k) = false) ∨ ((n == k) = false ∧ (n != k) = true ∧ decide (n < k) = false) := by
  rcases Int.lt_trichotomy n k with h | h | h
  · left; simp; omega
  · right; left; simp; omega
  · right; right; simp; omega
theorem stands_next (l : List Int) (n : Int) {k : Nat} (h : k < l.length) : decide (n ∈ l.take (k + 1)) = (decide (n ∈ l.take k) || (l.getD k 0 == n)) := by
  rw [take_succ' l h, Bool.eq_iff_iff]
  simp
  constructor
  · rintro (h | h)
    · exact Or.inl h
    · exact Or.inr h.symm
  · rintro (h | h)
    · exact Or.inl h
    · exact Or.inr h.symm
theorem far (a1 a2 : Option Addr) (n1 n2 c1 c2 : Nat) (n : Int) (one : Int) (h : 200 < n1 ∨ 200 < n2) (w : World) (hT : Tab w) : Calls Tryd.prog 7 #[.slice a1 n1 c1, .slice a2 n2 c2, .int .i64 n, .int .i64 one] w fun e w' => e = .returned (.bool true) ∧ Below w.heap.size w w' := by
  have hb : big 2 (fun i => (([(a1, n1, c1), (a2, n2, c2)] : List (Option Addr × Nat × Nat)).getD i (none, 0, 0)).2.1) = true := by
    rcases h with h | h
    · exact big_yes (k := 0) (by decide) h
    · exact big_yes (k := 1) (by decide) h
  have HB := Lib.hid hb
  clear hb h
  have hW := Below.refl w.heap.size w
  go_enter Tryd.func7, Tryd.ntmps7
  go_wp2_with (first
    | (go_at_call 10; refine (worksC _ hT).mono ?_; rintro e w1 ⟨rfl, hb⟩; replace hT := hT.on hb; replace hW := hW.trans (hb.mono hW.size); clear hb)
    | (go_at_call 18; refine (large_lit [(a1, n1, c1), (a2, n2, c2)] _ rfl 2 rfl (by decide) true HB.out _).mono ?_; rintro e w1 ⟨rfl, hb⟩; replace hT := (hT.alloc _).on hb; replace hW := (hW.alloc hW.size _).trans (hb.mono (hW.alloc hW.size _).size); clear hb))
  go_ret
  exact ⟨rfl, hW⟩
set_option maxHeartbeats 4000000 in
theorem nearIn (a1 a2 : Option Addr) (n1 n2 c1 c2 : Nat) (n : Int) (one : Int) (la lb : List Int) (h1 : n1 ≤ 200) (h2 : n2 ≤ 200) (w : World) (hT : Tab w) (va : Rd (.slice a1 n1 c1) la w) (vb : Rd (.slice a2 n2 c2) lb w) (h0 : 0 ≤ n) (h1024 : n < 1024) : Calls Tryd.prog 7 #[.slice a1 n1 c1, .slice a2 n2 c2, .int .i64 n, .int .i64 one] w fun e w' => e = .returned (.bool true) ∧ Below w.heap.size w w' := by
  have hb : big 2 (fun i => (([(a1, n1, c1), (a2, n2, c2)] : List (Option Addr × Nat × Nat)).getD i (none, 0, 0)).2.1) = false := by
    refine big_no fun j hj => ?_
    have : j = 0 ∨ j = 1 := by omega
    rcases this with rfl | rfl
    · exact h1
    · exact h2
  have HB := Lib.hid hb
  clear hb h1 h2
  have hW := Below.refl w.heap.size w
  have hw0 := hT.pos
  have wa := ofS_word la
  have wb := ofS_word lb
  have oa := fun v w h => ofAt v la (ofS la) (SameS.refl _) w h
  have ob := fun v w h => ofAt v lb (ofS lb) (SameS.refl _) w h
  have OA := Lib.hid oa
  have OB := Lib.hid ob
  have hst := hasI_of la n
  clear oa ob
  generalize ofS la = A at *
  generalize ofS lb = B at *
  have c1 := hasI_or A B n
  have c2 := hasI_and A B n
  have c3 := hasI_less A B wb n
  have c4 := hasI_with A one n
  have c5 := hasI_without A one n
  have c6 := hasI_below one n
  have hin : inB n = true := by unfold inB; simp; omega
  rw [hin] at c4 c6 hst
  obtain ⟨a, ha⟩ : ∃ a, hasI A n = a := ⟨_, rfl⟩
  obtain ⟨b, hb⟩ : ∃ b, hasI B n = b := ⟨_, rfl⟩
  rw [ha, hb] at c1 c2 c3
  rw [ha] at c4 c5 hst
  have HA := Lib.hid (hasAt A wa n _ ha)
  have HB2 := Lib.hid (hasAt B wb n _ hb)
  have H1 := Lib.hid (hasAt (orS A B) (or_word wa wb) n _ c1)
  have H2 := Lib.hid (hasAt (andS A B) (and_word wa) n _ c2)
  have H3 := Lib.hid (hasAt (lessS A B) (less_word wa) n _ c3)
  have H4 := Lib.hid (hasAt (withI A one) (withI_word wa one) n _ c4)
  have H5 := Lib.hid (hasAt (withoutI A one) (withoutI_word wa one) n _ c5)
  have H6 := Lib.hid (hasAt (belowS (min one.toNat 1024)) (below_word _) n _ c6)
  clear c1 c2 c3 c4 c5 c6 ha hb
  have HST := Lib.hid hst
  clear hst
  go_enter Tryd.func7, Tryd.ntmps7
  go_wp2_with (first
    | (go_at_call 10; refine (worksC _ hT).mono ?_; rintro e w1 ⟨rfl, hb⟩; replace hT := hT.on hb; replace va := va.on hb; replace vb := vb.on hb; replace hW := hW.trans (hb.mono hW.size); clear hb)
    | (go_at_call 18; refine (large_lit [(a1, n1, c1), (a2, n2, c2)] _ rfl 2 rfl (by decide) false HB.out _).mono ?_; rintro e w1 ⟨rfl, hb⟩; replace va := (va.on ((Below.refl _ _).alloc (Nat.le_refl _) _)).on hb; replace vb := (vb.on ((Below.refl _ _).alloc (Nat.le_refl _) _)).on hb; replace hT := (hT.alloc _).on hb; replace hW := (hW.alloc hW.size _).trans (hb.mono (hW.alloc hW.size _).size); clear hb))
  refine (OA.out _ _ va).mono ?_
  rintro e w2 ⟨rfl, hb⟩
  replace hT := hT.on hb; replace va := va.on hb; replace vb := vb.on hb; replace hW := hW.trans (hb.mono hW.size); clear hb
  go_wp2_with fail
  refine (OB.out _ _ vb).mono ?_
  rintro e w4 ⟨rfl, hb⟩
  replace hT := hT.on hb; replace va := va.on hb; replace hW := hW.trans (hb.mono hW.size); clear hb vb
  have z1 : Row (w4.heap.size) zeroS ((w4.alloc (.cells (row zeroS) 25)).alloc (.cells (row zeroS) 25)) := by
    have := (Row.new zeroS w4).alloc (.cells (row zeroS) 25)
    exact this
  have z2 : Row (w4.heap.size + 1) zeroS ((w4.alloc (.cells (row zeroS) 25)).alloc (.cells (row zeroS) 25)) := by
    have := Row.new zeroS (w4.alloc (.cells (row zeroS) 25))
    simp only [World.size_alloc] at this; exact this
  have hz4 := hW.size
  have hW3 : Below w.heap.size w ((w4.alloc (.cells (row zeroS) 25)).alloc (.cells (row zeroS) 25)) := by (repeat' (first | (with_reducible exact Below.refl _ _) | (with_reducible assumption) | (with_reducible refine Below.alloc ?_ ?_ _) | (with_reducible refine Below.drew ?_) | (with_reducible refine below_drewN ?_ _) | (with_reducible refine Below.setCell ?_ ?_ _) | (with_reducible refine Below.trans ?_ (Below.mono (by with_reducible assumption) ?_)) | (simp only [World.size_alloc, World.size_setCell, World.heap_drewN, World.size_drew]; omega) | omega | (simp; omega) | (simp; done)))
  have hB4 : Below w4.heap.size w4 ((w4.alloc (.cells (row zeroS) 25)).alloc (.cells (row zeroS) 25)) := by (repeat' (first | (with_reducible exact Below.refl _ _) | (with_reducible assumption) | (with_reducible refine Below.alloc ?_ ?_ _) | (with_reducible refine Below.drew ?_) | (with_reducible refine below_drewN ?_ _) | (with_reducible refine Below.setCell ?_ ?_ _) | (with_reducible refine Below.trans ?_ (Below.mono (by with_reducible assumption) ?_)) | (simp only [World.size_alloc, World.size_setCell, World.heap_drewN, World.size_drew]; omega) | omega | (simp; omega) | (simp; done)))
  clear hW hT
  obtain ⟨aq, cq, hve, hnl, hsl⟩ := va
  injection hve with hv1 hv2 hv3
  subst hv1 hv2 hv3
  have HSL := Lib.hid hsl
  clear hsl
  go_wp2_with (first
    | (refine stN _ _ rfl rfl rfl _ rfl A rfl zeroS z1 ?_; intro w5 hA hu; replace z2 := hu.row z2 (by omega); replace hW3 := hu.below hW3 (by omega); replace hB4 := hu.below hB4 (by omega); clear z1 hu)
    | (refine stN _ _ rfl rfl rfl _ rfl B rfl zeroS z2 ?_; intro w6 hB hu; replace hA := hu.row hA (by omega); replace hW3 := hu.below hW3 (by omega); replace hB4 := hu.below hB4 (by omega); clear z2 hu))
  refine wp_region_quiet_below (by kernel_rfl) (by kernel_rfl) ?_
  repeat (first
    | (refine qld _ rfl rfl _ rfl A hA ?_; (simp only [Act.put, List.setIfInBounds_toArray, List.set_cons_succ, List.set_cons_zero]))
    | (refine qld _ rfl rfl _ rfl B hB ?_; (simp only [Act.put, List.setIfInBounds_toArray, List.set_cons_succ, List.set_cons_zero]))
    | go_big_quiet_step ((first | with_reducible exact Calls.regrown_of (HA.out _) | with_reducible exact Calls.regrown_of (HB2.out _))))
  refine wpQuiet_nil ?_
  intro _ hw'
  obtain ⟨⟨dq, osq⟩, hw''⟩ := hw'
  subst hw''
  have hq := below_regrown w6 dq osq
  replace hW3 := hW3.trans (hq.mono hW3.size)
  replace hB4 := hB4.trans (hq.mono hB4.size)
  replace hA := hA.on hq
  replace hB := hB.on hq
  generalize Go.Sort.grow (redrawn w6 dq) osq = w7 at *
  clear hq
  go_wp2_with fail
  go_loop [14, 15] (fun s v => ∃ k : Nat, k ≤ la.length ∧ v = .int .i64 k ∧ s = .bool (decide (n ∈ la.take k))) (fun _ v => la.length - (intOf v).toNat)
  case atStart => exact ⟨0, by omega, rfl, by simp⟩
  case round =>
    obtain ⟨k, hk, rfl, rfl⟩ := hrel
    by_cases hlt : k < la.length
    · obtain ⟨bq, off, rfl, hc⟩ := HSL.out (by omega)
      have q0 := hc k hlt
      have q := (hB4.cell (p := ⟨bq, off + k, none⟩) (World.block_lt_of_cell? w4 _ q0)).trans q0
      have hz : (0 : Int) ≤ (k : Int) := by omega
      have hzl : (k : Int) < (la.length : Int) := by omega
      have hnx := Lib.hid (stands_next la n hlt)
      clear hc q0
      generalize la.getD k 0 = x at *
      generalize decide (n ∈ la.take k) = sb at *
      cases sb with
      | false =>
        have hnx2 : decide (n ∈ la.take (k + 1)) = (x == n) := by rw [hnx.out, Bool.false_or]
        have HNX := Lib.hid hnx2
        clear hnx2 hnx
        go_wp2_with fail
        go_round
        case rel => exact ⟨k + 1, by omega, by go_num, by rw [HNX.out]⟩
        case measure => simp [intOf]; omega
      | true =>
        have hnx2 : decide (n ∈ la.take (k + 1)) = true := by rw [hnx.out, Bool.true_or]
        have HNX := Lib.hid hnx2
        clear hnx2 hnx
        go_wp2_with fail
        go_round
        case rel => exact ⟨k + 1, by omega, by go_num, by rw [HNX.out]⟩
        case measure => simp [intOf]; omega
    · obtain rfl : k = la.length := by omega
      have hzl : ¬ (la.length : Int) < (la.length : Int) := by omega
      have htk := List.take_length (l := la)
      rw [htk] at *
      clear htk
      have hst : decide (n ∈ la) = a := by rw [HST.out, Bool.and_true]
      rw [hst] at *
      clear hst
      go_upto_region 11 with fail
      go_cut [98] (fun v wr => v = .bool false ∧ Row w4.heap.size A wr ∧ Row (w4.heap.size + 1) B wr ∧ Below w.heap.size w wr)
      case first =>
        cases a <;> cases b
        all_goals
          go_wp2_with (first
            | (refine ld _ rfl rfl _ rfl A hA ?_)
            | (refine ld _ rfl rfl _ rfl B hB ?_)
            | (go_at_call 23; refine (orSetC A B wa wb _).mono ?_; rintro e w8 ⟨rfl, hb⟩; replace hA := hA.on hb; replace hB := hB.on hb; replace hW3 := hW3.trans (hb.mono hW3.size); clear hb)
            | (go_at_call 22; refine (andSetC A B wa wb _).mono ?_; rintro e w8 ⟨rfl, hb⟩; replace hA := hA.on hb; replace hB := hB.on hb; replace hW3 := hW3.trans (hb.mono hW3.size); clear hb)
            | (go_at_call 21; refine (lessSetC A B wa wb _).mono ?_; rintro e w8 ⟨rfl, hb⟩; replace hA := hA.on hb; replace hB := hB.on hb; replace hW3 := hW3.trans (hb.mono hW3.size); clear hb)
            | (go_at_call_of 15 (orS A B); refine (H1.out _).mono ?_; rintro e w8 ⟨rfl, hb⟩; replace hA := hA.on hb; replace hB := hB.on hb; replace hW3 := hW3.trans (hb.mono hW3.size); clear hb)
            | (go_at_call_of 15 (andS A B); refine (H2.out _).mono ?_; rintro e w8 ⟨rfl, hb⟩; replace hA := hA.on hb; replace hB := hB.on hb; replace hW3 := hW3.trans (hb.mono hW3.size); clear hb)
            | (go_at_call_of 15 (lessS A B); refine (H3.out _).mono ?_; rintro e w8 ⟨rfl, hb⟩; replace hA := hA.on hb; replace hB := hB.on hb; replace hW3 := hW3.trans (hb.mono hW3.size); clear hb))
          go_meet
          exact ⟨rfl, hA, hB, hW3⟩
      case rest =>
      clear hA hB hW3
      obtain ⟨rfl, hA, hB, hW3⟩ := hcut
      rcases tri n one with ⟨e1, e2, e3⟩ | ⟨e1, e2, e3⟩ | ⟨e1, e2, e3⟩ <;> cases a
      all_goals
        go_wp2_with (first
          | (refine ld _ rfl rfl _ rfl A hA ?_)
          | (go_at_call 16; refine (withC A wa _ _).mono ?_; rintro e w8 ⟨rfl, hb⟩; replace hA := hA.on hb; replace hB := hB.on hb; replace hW3 := hW3.trans (hb.mono hW3.size); clear hb)
          | (go_at_call 17; refine (withoutC A wa _ _).mono ?_; rintro e w8 ⟨rfl, hb⟩; replace hA := hA.on hb; replace hB := hB.on hb; replace hW3 := hW3.trans (hb.mono hW3.size); clear hb)
          | (go_at_call 13; refine (belowC _ _).mono ?_; rintro e w8 ⟨rfl, hb⟩; replace hA := hA.on hb; replace hB := hB.on hb; replace hW3 := hW3.trans (hb.mono hW3.size); clear hb)
          | (go_at_call_of 15 (withI A one); refine (H4.out _).mono ?_; rintro e w8 ⟨rfl, hb⟩; replace hA := hA.on hb; replace hB := hB.on hb; replace hW3 := hW3.trans (hb.mono hW3.size); clear hb)
          | (go_at_call_of 15 (withoutI A one); refine (H5.out _).mono ?_; rintro e w8 ⟨rfl, hb⟩; replace hA := hA.on hb; replace hB := hB.on hb; replace hW3 := hW3.trans (hb.mono hW3.size); clear hb)
          | (go_at_call_of 15 (belowS (min one.toNat 1024)); refine (H6.out _).mono ?_; rintro e w8 ⟨rfl, hb⟩; replace hA := hA.on hb; replace hB := hB.on hb; replace hW3 := hW3.trans (hb.mono hW3.size); clear hb))
        go_ret
        exact ⟨rfl, hW3⟩
set_option maxHeartbeats 4000000 in
theorem nearNeg (a1 a2 : Option Addr) (n1 n2 c1 c2 : Nat) (n : Int) (one : Int) (la lb : List Int) (h1 : n1 ≤ 200) (h2 : n2 ≤ 200) (w : World) (hT : Tab w) (va : Rd (.slice a1 n1 c1) la w) (vb : Rd (.slice a2 n2 c2) lb w) (hfar : n < 0 ∨ 1024 ≤ n) (hneg : n < 0) (hz0 : ¬ 0 ≤ n) : Calls Tryd.prog 7 #[.slice a1 n1 c1, .slice a2 n2 c2, .int .i64 n, .int .i64 one] w fun e w' => e = .returned (.bool true) ∧ Below w.heap.size w w' := by
  have hb : big 2 (fun i => (([(a1, n1, c1), (a2, n2, c2)] : List (Option Addr × Nat × Nat)).getD i (none, 0, 0)).2.1) = false := by
    refine big_no fun j hj => ?_
    have : j = 0 ∨ j = 1 := by omega
    rcases this with rfl | rfl
    · exact h1
    · exact h2
  have HB := Lib.hid hb
  clear hb h1 h2
  have hW := Below.refl w.heap.size w
  have hw0 := hT.pos
  have wa := ofS_word la
  have wb := ofS_word lb
  have oa := fun v w h => ofAt v la (ofS la) (SameS.refl _) w h
  have ob := fun v w h => ofAt v lb (ofS lb) (SameS.refl _) w h
  have OA := Lib.hid oa
  have OB := Lib.hid ob
  have hst := hasI_of la n
  clear oa ob
  generalize ofS la = A at *
  generalize ofS lb = B at *
  have c1 := hasI_or A B n
  have c2 := hasI_and A B n
  have c3 := hasI_less A B wb n
  have c4 := hasI_with A one n
  have c5 := hasI_without A one n
  have c6 := hasI_below one n
  have hin : inB n = false := by unfold inB; simp; omega
  rw [hin] at c4 c6
  have ha : hasI A n = false := hasI_no A hfar
  have hb : hasI B n = false := hasI_no B hfar
  rw [ha, hb] at c1 c2 c3
  rw [ha] at c4 c5
  clear hst
  have HA := Lib.hid (hasAt A wa n _ ha)
  have HB2 := Lib.hid (hasAt B wb n _ hb)
  have H1 := Lib.hid (hasAt (orS A B) (or_word wa wb) n _ c1)
  have H2 := Lib.hid (hasAt (andS A B) (and_word wa) n _ c2)
  have H3 := Lib.hid (hasAt (lessS A B) (less_word wa) n _ c3)
  have H4 := Lib.hid (hasAt (withI A one) (withI_word wa one) n _ c4)
  have H5 := Lib.hid (hasAt (withoutI A one) (withoutI_word wa one) n _ c5)
  have H6 := Lib.hid (hasAt (belowS (min one.toNat 1024)) (below_word _) n _ c6)
  clear c1 c2 c3 c4 c5 c6 ha hb
  go_enter Tryd.func7, Tryd.ntmps7
  go_wp2_with (first
    | (go_at_call 10; refine (worksC _ hT).mono ?_; rintro e w1 ⟨rfl, hb⟩; replace hT := hT.on hb; replace va := va.on hb; replace vb := vb.on hb; replace hW := hW.trans (hb.mono hW.size); clear hb)
    | (go_at_call 18; refine (large_lit [(a1, n1, c1), (a2, n2, c2)] _ rfl 2 rfl (by decide) false HB.out _).mono ?_; rintro e w1 ⟨rfl, hb⟩; replace va := (va.on ((Below.refl _ _).alloc (Nat.le_refl _) _)).on hb; replace vb := (vb.on ((Below.refl _ _).alloc (Nat.le_refl _) _)).on hb; replace hT := (hT.alloc _).on hb; replace hW := (hW.alloc hW.size _).trans (hb.mono (hW.alloc hW.size _).size); clear hb))
  refine (OA.out _ _ va).mono ?_
  rintro e w2 ⟨rfl, hb⟩
  replace hT := hT.on hb; replace va := va.on hb; replace vb := vb.on hb; replace hW := hW.trans (hb.mono hW.size); clear hb
  go_wp2_with fail
  refine (OB.out _ _ vb).mono ?_
  rintro e w4 ⟨rfl, hb⟩
  replace hT := hT.on hb; replace va := va.on hb; replace hW := hW.trans (hb.mono hW.size); clear hb vb
  have z1 : Row (w4.heap.size) zeroS ((w4.alloc (.cells (row zeroS) 25)).alloc (.cells (row zeroS) 25)) := by
    have := (Row.new zeroS w4).alloc (.cells (row zeroS) 25)
    exact this
  have z2 : Row (w4.heap.size + 1) zeroS ((w4.alloc (.cells (row zeroS) 25)).alloc (.cells (row zeroS) 25)) := by
    have := Row.new zeroS (w4.alloc (.cells (row zeroS) 25))
    simp only [World.size_alloc] at this; exact this
  have hz4 := hW.size
  have hW3 : Below w.heap.size w ((w4.alloc (.cells (row zeroS) 25)).alloc (.cells (row zeroS) 25)) := by (repeat' (first | (with_reducible exact Below.refl _ _) | (with_reducible assumption) | (with_reducible refine Below.alloc ?_ ?_ _) | (with_reducible refine Below.drew ?_) | (with_reducible refine below_drewN ?_ _) | (with_reducible refine Below.setCell ?_ ?_ _) | (with_reducible refine Below.trans ?_ (Below.mono (by with_reducible assumption) ?_)) | (simp only [World.size_alloc, World.size_setCell, World.heap_drewN, World.size_drew]; omega) | omega | (simp; omega) | (simp; done)))
  have hB4 : Below w4.heap.size w4 ((w4.alloc (.cells (row zeroS) 25)).alloc (.cells (row zeroS) 25)) := by (repeat' (first | (with_reducible exact Below.refl _ _) | (with_reducible assumption) | (with_reducible refine Below.alloc ?_ ?_ _) | (with_reducible refine Below.drew ?_) | (with_reducible refine below_drewN ?_ _) | (with_reducible refine Below.setCell ?_ ?_ _) | (with_reducible refine Below.trans ?_ (Below.mono (by with_reducible assumption) ?_)) | (simp only [World.size_alloc, World.size_setCell, World.heap_drewN, World.size_drew]; omega) | omega | (simp; omega) | (simp; done)))
  clear hW hT
  obtain ⟨aq, cq, hve, hnl, hsl⟩ := va
  injection hve with hv1 hv2 hv3
  subst hv1 hv2 hv3
  have HSL := Lib.hid hsl
  clear hsl
  go_wp2_with (first
    | (refine stN _ _ rfl rfl rfl _ rfl A rfl zeroS z1 ?_; intro w5 hA hu; replace z2 := hu.row z2 (by omega); replace hW3 := hu.below hW3 (by omega); replace hB4 := hu.below hB4 (by omega); clear z1 hu)
    | (refine stN _ _ rfl rfl rfl _ rfl B rfl zeroS z2 ?_; intro w6 hB hu; replace hA := hu.row hA (by omega); replace hW3 := hu.below hW3 (by omega); replace hB4 := hu.below hB4 (by omega); clear z2 hu))
  refine wp_region_quiet_below (by kernel_rfl) (by kernel_rfl) ?_
  repeat (first
    | (refine qld _ rfl rfl _ rfl A hA ?_; (simp only [Act.put, List.setIfInBounds_toArray, List.set_cons_succ, List.set_cons_zero]))
    | (refine qld _ rfl rfl _ rfl B hB ?_; (simp only [Act.put, List.setIfInBounds_toArray, List.set_cons_succ, List.set_cons_zero]))
    | go_big_quiet_step ((first | with_reducible exact Calls.regrown_of (HA.out _) | with_reducible exact Calls.regrown_of (HB2.out _))))
  refine wpQuiet_nil ?_
  intro _ hw'
  obtain ⟨⟨dq, osq⟩, hw''⟩ := hw'
  subst hw''
  have hq := below_regrown w6 dq osq
  replace hW3 := hW3.trans (hq.mono hW3.size)
  replace hB4 := hB4.trans (hq.mono hB4.size)
  replace hA := hA.on hq
  replace hB := hB.on hq
  generalize Go.Sort.grow (redrawn w6 dq) osq = w7 at *
  clear hq
  go_wp2_with fail
  go_loop [14, 15] (fun s v => ∃ k : Nat, k ≤ la.length ∧ v = .int .i64 k ∧ s = .bool (decide (n ∈ la.take k))) (fun _ v => la.length - (intOf v).toNat)
  case atStart => exact ⟨0, by omega, rfl, by simp⟩
  case round =>
    obtain ⟨k, hk, rfl, rfl⟩ := hrel
    by_cases hlt : k < la.length
    · obtain ⟨bq, off, rfl, hc⟩ := HSL.out (by omega)
      have q0 := hc k hlt
      have q := (hB4.cell (p := ⟨bq, off + k, none⟩) (World.block_lt_of_cell? w4 _ q0)).trans q0
      have hz : (0 : Int) ≤ (k : Int) := by omega
      have hzl : (k : Int) < (la.length : Int) := by omega
      have hnx := Lib.hid (stands_next la n hlt)
      clear hc q0
      generalize la.getD k 0 = x at *
      generalize decide (n ∈ la.take k) = sb at *
      cases sb with
      | false =>
        have hnx2 : decide (n ∈ la.take (k + 1)) = (x == n) := by rw [hnx.out, Bool.false_or]
        have HNX := Lib.hid hnx2
        clear hnx2 hnx
        go_wp2_with fail
        go_round
        case rel => exact ⟨k + 1, by omega, by go_num, by rw [HNX.out]⟩
        case measure => simp [intOf]; omega
      | true =>
        have hnx2 : decide (n ∈ la.take (k + 1)) = true := by rw [hnx.out, Bool.true_or]
        have HNX := Lib.hid hnx2
        clear hnx2 hnx
        go_wp2_with fail
        go_round
        case rel => exact ⟨k + 1, by omega, by go_num, by rw [HNX.out]⟩
        case measure => simp [intOf]; omega
    · obtain rfl : k = la.length := by omega
      have hzl : ¬ (la.length : Int) < (la.length : Int) := by omega
      have htk := List.take_length (l := la)
      rw [htk] at *
      clear htk
      generalize decide (n ∈ la) = st at *
      go_upto_region 11 with fail
      go_cut [98] (fun v wr => v = .bool false ∧ Row w4.heap.size A wr ∧ Row (w4.heap.size + 1) B wr ∧ Below w.heap.size w wr)
      case first =>
        cases st
        all_goals
          go_wp2_with (first
            | (refine ld _ rfl rfl _ rfl A hA ?_)
            | (refine ld _ rfl rfl _ rfl B hB ?_)
            | (go_at_call 23; refine (orSetC A B wa wb _).mono ?_; rintro e w8 ⟨rfl, hb⟩; replace hA := hA.on hb; replace hB := hB.on hb; replace hW3 := hW3.trans (hb.mono hW3.size); clear hb)
            | (go_at_call 22; refine (andSetC A B wa wb _).mono ?_; rintro e w8 ⟨rfl, hb⟩; replace hA := hA.on hb; replace hB := hB.on hb; replace hW3 := hW3.trans (hb.mono hW3.size); clear hb)
            | (go_at_call 21; refine (lessSetC A B wa wb _).mono ?_; rintro e w8 ⟨rfl, hb⟩; replace hA := hA.on hb; replace hB := hB.on hb; replace hW3 := hW3.trans (hb.mono hW3.size); clear hb)
            | (go_at_call_of 15 (orS A B); refine (H1.out _).mono ?_; rintro e w8 ⟨rfl, hb⟩; replace hA := hA.on hb; replace hB := hB.on hb; replace hW3 := hW3.trans (hb.mono hW3.size); clear hb)
            | (go_at_call_of 15 (andS A B); refine (H2.out _).mono ?_; rintro e w8 ⟨rfl, hb⟩; replace hA := hA.on hb; replace hB := hB.on hb; replace hW3 := hW3.trans (hb.mono hW3.size); clear hb)
            | (go_at_call_of 15 (lessS A B); refine (H3.out _).mono ?_; rintro e w8 ⟨rfl, hb⟩; replace hA := hA.on hb; replace hB := hB.on hb; replace hW3 := hW3.trans (hb.mono hW3.size); clear hb))
          go_meet
          exact ⟨rfl, hA, hB, hW3⟩
      case rest =>
      clear hA hB hW3
      obtain ⟨rfl, hA, hB, hW3⟩ := hcut
      rcases tri n one with ⟨e1, e2, e3⟩ | ⟨e1, e2, e3⟩ | ⟨e1, e2, e3⟩
      all_goals
        go_wp2_with (first
          | (refine ld _ rfl rfl _ rfl A hA ?_)
          | (go_at_call 16; refine (withC A wa _ _).mono ?_; rintro e w8 ⟨rfl, hb⟩; replace hA := hA.on hb; replace hB := hB.on hb; replace hW3 := hW3.trans (hb.mono hW3.size); clear hb)
          | (go_at_call 17; refine (withoutC A wa _ _).mono ?_; rintro e w8 ⟨rfl, hb⟩; replace hA := hA.on hb; replace hB := hB.on hb; replace hW3 := hW3.trans (hb.mono hW3.size); clear hb)
          | (go_at_call 13; refine (belowC _ _).mono ?_; rintro e w8 ⟨rfl, hb⟩; replace hA := hA.on hb; replace hB := hB.on hb; replace hW3 := hW3.trans (hb.mono hW3.size); clear hb)
          | (go_at_call_of 15 (withI A one); refine (H4.out _).mono ?_; rintro e w8 ⟨rfl, hb⟩; replace hA := hA.on hb; replace hB := hB.on hb; replace hW3 := hW3.trans (hb.mono hW3.size); clear hb)
          | (go_at_call_of 15 (withoutI A one); refine (H5.out _).mono ?_; rintro e w8 ⟨rfl, hb⟩; replace hA := hA.on hb; replace hB := hB.on hb; replace hW3 := hW3.trans (hb.mono hW3.size); clear hb)
          | (go_at_call_of 15 (belowS (min one.toNat 1024)); refine (H6.out _).mono ?_; rintro e w8 ⟨rfl, hb⟩; replace hA := hA.on hb; replace hB := hB.on hb; replace hW3 := hW3.trans (hb.mono hW3.size); clear hb))
        go_ret
        exact ⟨rfl, hW3⟩
set_option maxHeartbeats 4000000 in
theorem nearBig (a1 a2 : Option Addr) (n1 n2 c1 c2 : Nat) (n : Int) (one : Int) (la lb : List Int) (h1 : n1 ≤ 200) (h2 : n2 ≤ 200) (w : World) (hT : Tab w) (va : Rd (.slice a1 n1 c1) la w) (vb : Rd (.slice a2 n2 c2) lb w) (hfar : n < 0 ∨ 1024 ≤ n) (h0 : 0 ≤ n) (hbig : decide (n < 1024) = false) : Calls Tryd.prog 7 #[.slice a1 n1 c1, .slice a2 n2 c2, .int .i64 n, .int .i64 one] w fun e w' => e = .returned (.bool true) ∧ Below w.heap.size w w' := by
  have hb : big 2 (fun i => (([(a1, n1, c1), (a2, n2, c2)] : List (Option Addr × Nat × Nat)).getD i (none, 0, 0)).2.1) = false := by
    refine big_no fun j hj => ?_
    have : j = 0 ∨ j = 1 := by omega
    rcases this with rfl | rfl
    · exact h1
    · exact h2
  have HB := Lib.hid hb
  clear hb h1 h2
  have hW := Below.refl w.heap.size w
  have hw0 := hT.pos
  have wa := ofS_word la
  have wb := ofS_word lb
  have oa := fun v w h => ofAt v la (ofS la) (SameS.refl _) w h
  have ob := fun v w h => ofAt v lb (ofS lb) (SameS.refl _) w h
  have OA := Lib.hid oa
  have OB := Lib.hid ob
  have hst := hasI_of la n
  clear oa ob
  generalize ofS la = A at *
  generalize ofS lb = B at *
  have c1 := hasI_or A B n
  have c2 := hasI_and A B n
  have c3 := hasI_less A B wb n
  have c4 := hasI_with A one n
  have c5 := hasI_without A one n
  have c6 := hasI_below one n
  have hin : inB n = false := by unfold inB; simp; omega
  rw [hin] at c4 c6
  have ha : hasI A n = false := hasI_no A hfar
  have hb : hasI B n = false := hasI_no B hfar
  rw [ha, hb] at c1 c2 c3
  rw [ha] at c4 c5
  clear hst
  have HA := Lib.hid (hasAt A wa n _ ha)
  have HB2 := Lib.hid (hasAt B wb n _ hb)
  have H1 := Lib.hid (hasAt (orS A B) (or_word wa wb) n _ c1)
  have H2 := Lib.hid (hasAt (andS A B) (and_word wa) n _ c2)
  have H3 := Lib.hid (hasAt (lessS A B) (less_word wa) n _ c3)
  have H4 := Lib.hid (hasAt (withI A one) (withI_word wa one) n _ c4)
  have H5 := Lib.hid (hasAt (withoutI A one) (withoutI_word wa one) n _ c5)
  have H6 := Lib.hid (hasAt (belowS (min one.toNat 1024)) (below_word _) n _ c6)
  clear c1 c2 c3 c4 c5 c6 ha hb
  go_enter Tryd.func7, Tryd.ntmps7
  go_wp2_with (first
    | (go_at_call 10; refine (worksC _ hT).mono ?_; rintro e w1 ⟨rfl, hb⟩; replace hT := hT.on hb; replace va := va.on hb; replace vb := vb.on hb; replace hW := hW.trans (hb.mono hW.size); clear hb)
    | (go_at_call 18; refine (large_lit [(a1, n1, c1), (a2, n2, c2)] _ rfl 2 rfl (by decide) false HB.out _).mono ?_; rintro e w1 ⟨rfl, hb⟩; replace va := (va.on ((Below.refl _ _).alloc (Nat.le_refl _) _)).on hb; replace vb := (vb.on ((Below.refl _ _).alloc (Nat.le_refl _) _)).on hb; replace hT := (hT.alloc _).on hb; replace hW := (hW.alloc hW.size _).trans (hb.mono (hW.alloc hW.size _).size); clear hb))
  refine (OA.out _ _ va).mono ?_
  rintro e w2 ⟨rfl, hb⟩
  replace hT := hT.on hb; replace va := va.on hb; replace vb := vb.on hb; replace hW := hW.trans (hb.mono hW.size); clear hb
  go_wp2_with fail
  refine (OB.out _ _ vb).mono ?_
  rintro e w4 ⟨rfl, hb⟩
  replace hT := hT.on hb; replace va := va.on hb; replace hW := hW.trans (hb.mono hW.size); clear hb vb
  have z1 : Row (w4.heap.size) zeroS ((w4.alloc (.cells (row zeroS) 25)).alloc (.cells (row zeroS) 25)) := by
    have := (Row.new zeroS w4).alloc (.cells (row zeroS) 25)
    exact this
  have z2 : Row (w4.heap.size + 1) zeroS ((w4.alloc (.cells (row zeroS) 25)).alloc (.cells (row zeroS) 25)) := by
    have := Row.new zeroS (w4.alloc (.cells (row zeroS) 25))
    simp only [World.size_alloc] at this; exact this
  have hz4 := hW.size
  have hW3 : Below w.heap.size w ((w4.alloc (.cells (row zeroS) 25)).alloc (.cells (row zeroS) 25)) := by (repeat' (first | (with_reducible exact Below.refl _ _) | (with_reducible assumption) | (with_reducible refine Below.alloc ?_ ?_ _) | (with_reducible refine Below.drew ?_) | (with_reducible refine below_drewN ?_ _) | (with_reducible refine Below.setCell ?_ ?_ _) | (with_reducible refine Below.trans ?_ (Below.mono (by with_reducible assumption) ?_)) | (simp only [World.size_alloc, World.size_setCell, World.heap_drewN, World.size_drew]; omega) | omega | (simp; omega) | (simp; done)))
  have hB4 : Below w4.heap.size w4 ((w4.alloc (.cells (row zeroS) 25)).alloc (.cells (row zeroS) 25)) := by (repeat' (first | (with_reducible exact Below.refl _ _) | (with_reducible assumption) | (with_reducible refine Below.alloc ?_ ?_ _) | (with_reducible refine Below.drew ?_) | (with_reducible refine below_drewN ?_ _) | (with_reducible refine Below.setCell ?_ ?_ _) | (with_reducible refine Below.trans ?_ (Below.mono (by with_reducible assumption) ?_)) | (simp only [World.size_alloc, World.size_setCell, World.heap_drewN, World.size_drew]; omega) | omega | (simp; omega) | (simp; done)))
  clear hW hT
  obtain ⟨aq, cq, hve, hnl, hsl⟩ := va
  injection hve with hv1 hv2 hv3
  subst hv1 hv2 hv3
  have HSL := Lib.hid hsl
  clear hsl
  go_wp2_with (first
    | (refine stN _ _ rfl rfl rfl _ rfl A rfl zeroS z1 ?_; intro w5 hA hu; replace z2 := hu.row z2 (by omega); replace hW3 := hu.below hW3 (by omega); replace hB4 := hu.below hB4 (by omega); clear z1 hu)
    | (refine stN _ _ rfl rfl rfl _ rfl B rfl zeroS z2 ?_; intro w6 hB hu; replace hA := hu.row hA (by omega); replace hW3 := hu.below hW3 (by omega); replace hB4 := hu.below hB4 (by omega); clear z2 hu))
  refine wp_region_quiet_below (by kernel_rfl) (by kernel_rfl) ?_
  repeat (first
    | (refine qld _ rfl rfl _ rfl A hA ?_; (simp only [Act.put, List.setIfInBounds_toArray, List.set_cons_succ, List.set_cons_zero]))
    | (refine qld _ rfl rfl _ rfl B hB ?_; (simp only [Act.put, List.setIfInBounds_toArray, List.set_cons_succ, List.set_cons_zero]))
    | go_big_quiet_step ((first | with_reducible exact Calls.regrown_of (HA.out _) | with_reducible exact Calls.regrown_of (HB2.out _))))
  refine wpQuiet_nil ?_
  intro _ hw'
  obtain ⟨⟨dq, osq⟩, hw''⟩ := hw'
  subst hw''
  have hq := below_regrown w6 dq osq
  replace hW3 := hW3.trans (hq.mono hW3.size)
  replace hB4 := hB4.trans (hq.mono hB4.size)
  replace hA := hA.on hq
  replace hB := hB.on hq
  generalize Go.Sort.grow (redrawn w6 dq) osq = w7 at *
  clear hq
  go_wp2_with fail
  go_loop [14, 15] (fun s v => ∃ k : Nat, k ≤ la.length ∧ v = .int .i64 k ∧ s = .bool (decide (n ∈ la.take k))) (fun _ v => la.length - (intOf v).toNat)
  case atStart => exact ⟨0, by omega, rfl, by simp⟩
  case round =>
    obtain ⟨k, hk, rfl, rfl⟩ := hrel
    by_cases hlt : k < la.length
    · obtain ⟨bq, off, rfl, hc⟩ := HSL.out (by omega)
      have q0 := hc k hlt
      have q := (hB4.cell (p := ⟨bq, off + k, none⟩) (World.block_lt_of_cell? w4 _ q0)).trans q0
      have hz : (0 : Int) ≤ (k : Int) := by omega
      have hzl : (k : Int) < (la.length : Int) := by omega
      have hnx := Lib.hid (stands_next la n hlt)
      clear hc q0
      generalize la.getD k 0 = x at *
      generalize decide (n ∈ la.take k) = sb at *
      cases sb with
      | false =>
        have hnx2 : decide (n ∈ la.take (k + 1)) = (x == n) := by rw [hnx.out, Bool.false_or]
        have HNX := Lib.hid hnx2
        clear hnx2 hnx
        go_wp2_with fail
        go_round
        case rel => exact ⟨k + 1, by omega, by go_num, by rw [HNX.out]⟩
        case measure => simp [intOf]; omega
      | true =>
        have hnx2 : decide (n ∈ la.take (k + 1)) = true := by rw [hnx.out, Bool.true_or]
        have HNX := Lib.hid hnx2
        clear hnx2 hnx
        go_wp2_with fail
        go_round
        case rel => exact ⟨k + 1, by omega, by go_num, by rw [HNX.out]⟩
        case measure => simp [intOf]; omega
    · obtain rfl : k = la.length := by omega
      have hzl : ¬ (la.length : Int) < (la.length : Int) := by omega
      have htk := List.take_length (l := la)
      rw [htk] at *
      clear htk
      generalize decide (n ∈ la) = st at *
      go_upto_region 11 with fail
      go_cut [98] (fun v wr => v = .bool false ∧ Row w4.heap.size A wr ∧ Row (w4.heap.size + 1) B wr ∧ Below w.heap.size w wr)
      case first =>
        cases st
        all_goals
          go_wp2_with (first
            | (refine ld _ rfl rfl _ rfl A hA ?_)
            | (refine ld _ rfl rfl _ rfl B hB ?_)
            | (go_at_call 23; refine (orSetC A B wa wb _).mono ?_; rintro e w8 ⟨rfl, hb⟩; replace hA := hA.on hb; replace hB := hB.on hb; replace hW3 := hW3.trans (hb.mono hW3.size); clear hb)
            | (go_at_call 22; refine (andSetC A B wa wb _).mono ?_; rintro e w8 ⟨rfl, hb⟩; replace hA := hA.on hb; replace hB := hB.on hb; replace hW3 := hW3.trans (hb.mono hW3.size); clear hb)
            | (go_at_call 21; refine (lessSetC A B wa wb _).mono ?_; rintro e w8 ⟨rfl, hb⟩; replace hA := hA.on hb; replace hB := hB.on hb; replace hW3 := hW3.trans (hb.mono hW3.size); clear hb)
            | (go_at_call_of 15 (orS A B); refine (H1.out _).mono ?_; rintro e w8 ⟨rfl, hb⟩; replace hA := hA.on hb; replace hB := hB.on hb; replace hW3 := hW3.trans (hb.mono hW3.size); clear hb)
            | (go_at_call_of 15 (andS A B); refine (H2.out _).mono ?_; rintro e w8 ⟨rfl, hb⟩; replace hA := hA.on hb; replace hB := hB.on hb; replace hW3 := hW3.trans (hb.mono hW3.size); clear hb)
            | (go_at_call_of 15 (lessS A B); refine (H3.out _).mono ?_; rintro e w8 ⟨rfl, hb⟩; replace hA := hA.on hb; replace hB := hB.on hb; replace hW3 := hW3.trans (hb.mono hW3.size); clear hb))
          go_meet
          exact ⟨rfl, hA, hB, hW3⟩
      case rest =>
      clear hA hB hW3
      obtain ⟨rfl, hA, hB, hW3⟩ := hcut
      rcases tri n one with ⟨e1, e2, e3⟩ | ⟨e1, e2, e3⟩ | ⟨e1, e2, e3⟩
      all_goals
        go_wp2_with (first
          | (refine ld _ rfl rfl _ rfl A hA ?_)
          | (go_at_call 16; refine (withC A wa _ _).mono ?_; rintro e w8 ⟨rfl, hb⟩; replace hA := hA.on hb; replace hB := hB.on hb; replace hW3 := hW3.trans (hb.mono hW3.size); clear hb)
          | (go_at_call 17; refine (withoutC A wa _ _).mono ?_; rintro e w8 ⟨rfl, hb⟩; replace hA := hA.on hb; replace hB := hB.on hb; replace hW3 := hW3.trans (hb.mono hW3.size); clear hb)
          | (go_at_call 13; refine (belowC _ _).mono ?_; rintro e w8 ⟨rfl, hb⟩; replace hA := hA.on hb; replace hB := hB.on hb; replace hW3 := hW3.trans (hb.mono hW3.size); clear hb)
          | (go_at_call_of 15 (withI A one); refine (H4.out _).mono ?_; rintro e w8 ⟨rfl, hb⟩; replace hA := hA.on hb; replace hB := hB.on hb; replace hW3 := hW3.trans (hb.mono hW3.size); clear hb)
          | (go_at_call_of 15 (withoutI A one); refine (H5.out _).mono ?_; rintro e w8 ⟨rfl, hb⟩; replace hA := hA.on hb; replace hB := hB.on hb; replace hW3 := hW3.trans (hb.mono hW3.size); clear hb)
          | (go_at_call_of 15 (belowS (min one.toNat 1024)); refine (H6.out _).mono ?_; rintro e w8 ⟨rfl, hb⟩; replace hA := hA.on hb; replace hB := hB.on hb; replace hW3 := hW3.trans (hb.mono hW3.size); clear hb))
        go_ret
        exact ⟨rfl, hW3⟩
theorem near (a1 a2 : Option Addr) (n1 n2 c1 c2 : Nat) (n one : Int) (la lb : List Int) (h1 : n1 ≤ 200) (h2 : n2 ≤ 200) (w : World) (hT : Tab w) (va : Rd (.slice a1 n1 c1) la w) (vb : Rd (.slice a2 n2 c2) lb w) : Calls Tryd.prog 7 #[.slice a1 n1 c1, .slice a2 n2 c2, .int .i64 n, .int .i64 one] w fun e w' => e = .returned (.bool true) ∧ Below w.heap.size w w' := by
  by_cases h0 : 0 ≤ n
  · by_cases hb : n < 1024
    · exact nearIn a1 a2 n1 n2 c1 c2 n one la lb h1 h2 w hT va vb h0 hb
    · exact nearBig a1 a2 n1 n2 c1 c2 n one la lb h1 h2 w hT va vb (Or.inr (by omega)) h0 (by simp; omega)
  · exact nearNeg a1 a2 n1 n2 c1 c2 n one la lb h1 h2 w hT va vb (Or.inl (by omega)) (by omega) h0
theorem walk (v1 v2 : Value) (n : Int) (one : Int) (W : World) (hT : Tab W) (w1 : IntsAt W .i64 v1) (w2 : IntsAt W .i64 v2) (wn : (Lit.int .i64 n).wf = true) (wone : (Lit.int .i64 one).wf = true) : Calls Tryd.prog 7 #[v1, v2, .int .i64 n, .int .i64 one] W fun e w' => e = .returned (.bool true) ∧ Below W.heap.size W w' := by
  obtain ⟨a1, n1, c1, rfl, r1⟩ := w1.parts
  obtain ⟨a2, n2, c2, rfl, r2⟩ := w2.parts
  by_cases h : 200 < n1 ∨ 200 < n2
  · exact far a1 a2 n1 n2 c1 c2 n one h W hT
  · obtain ⟨la, va⟩ := r1 (by omega)
    obtain ⟨lb, vb⟩ := r2 (by omega)
    exact near a1 a2 n1 n2 c1 c2 n one la lb (by omega) (by omega) W hT va vb
end Go.Proofs.YtpgkikondihplaaDoor.LawBitsIn
