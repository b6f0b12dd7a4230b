/- BitsNames: the walk of the law, from the contracts. No condition but what the argument's reading gives. -/
import Derived.Test.YtpgkikondihplaaDoorBk
namespace Go.Proofs.YtpgkikondihplaaDoor.LawBitsNames
open Go.RowKit Go.Proofs.YtpgkikondihplaaDoor.Ba Go.Proofs.YtpgkikondihplaaDoor.Bm Go.Proofs.YtpgkikondihplaaDoor.Bn Go.Proofs.YtpgkikondihplaaDoor.Bb Go.Proofs.YtpgkikondihplaaDoor.Bc Go.Proofs.YtpgkikondihplaaDoor.Bd Go.Proofs.YtpgkikondihplaaDoor.Bg Go.Proofs.YtpgkikondihplaaDoor.Bt Go.Proofs.YtpgkikondihplaaDoor.Be Go.Proofs.YtpgkikondihplaaDoor.Bf Go.Proofs.YtpgkikondihplaaDoor.Bu Go.Proofs.YtpgkikondihplaaDoor.Bv Go.Proofs.YtpgkikondihplaaDoor.Bw Go.Proofs.YtpgkikondihplaaDoor.Bx Go.Proofs.YtpgkikondihplaaDoor.By Go.Proofs.YtpgkikondihplaaDoor.Bz Go.Proofs.YtpgkikondihplaaDoor.Bq Go.Proofs.YtpgkikondihplaaDoor.Bk
set_option linter.unusedVariables false
set_option linter.unusedSimpArgs false
set_option maxRecDepth 100000
def nmS : Nat → Nat := ofS [0, 63, 65, 1023]
theorem nm_word : Word nmS := ofS_word _
theorem nm_lst : lst nmS = [0, 63, 65, 1023] := by decide +kernel
theorem nm_0 : ((nmS 0 : Nat) : Int) = 9223372036854775809 := by decide +kernel
theorem nm_1 : ((nmS 1 : Nat) : Int) = 2 := by decide +kernel
theorem nm_15 : ((nmS 15 : Nat) : Int) = 9223372036854775808 := by decide +kernel
theorem nm_n1 : nx (lst nmS) (1024 : Int).toNat = none := by rw [nm_lst]; rfl
theorem nm_n2 : nx (lst nmS) (-9 : Int).toNat = some 0 := by rw [nm_lst]; rfl
theorem z_n : nx (lst zeroS) (0 : Int).toNat = none := by
  have : lst zeroS = [] := by decide +kernel
  rw [this]; rfl
def bAll : Nat → Nat := belowS 1024
def bNone : Nat → Nat := belowS 0
theorem all_len : ((lst bAll).length : Int) = 1024 := by unfold bAll; rw [lst_below 1024 (by decide), List.length_range]; rfl
theorem none_len : ((lst bNone).length : Int) = 0 := by unfold bNone; rw [lst_below 0 (by decide), List.length_range]; rfl
theorem bAll_word : Word bAll := below_word _
theorem bNone_word : Word bNone := below_word _
theorem same_of_eq {s t : Nat → Nat} (h : s = t) : SameS s t := fun _ _ => by rw [h]
theorem nat_of (n : Int) (k : Nat) (h : min n.toNat 1024 = k) : SameS (belowS (min n.toNat 1024)) (belowS k) := same_of_eq (by rw [h])
theorem has1 : hasI nmS (-9223372036854775808) = false := hasI_no _ (Or.inl (by decide))
theorem has2 : hasI nmS 9223372036854775807 = false := hasI_no _ (Or.inr (by decide))
theorem withAt (s : Nat → Nat) (hs : Word s) (n : Int) (t : Nat → Nat) (h : SameS (withI s n) t) (w : World) : Calls Tryd.prog 16 #[.agg (row s), .int .i64 n] w fun e w' => e = .returned (.agg (row t)) ∧ Below w.heap.size w w' := by
  rw [← row_same h]; exact withC s hs n w
theorem same1 : SameS (withI nmS 1024) nmS := same_of_eq (by unfold withI; rw [if_pos (Or.inr (by decide))])
theorem same2 : SameS (withoutI nmS (-1)) nmS := same_of_eq (by unfold withoutI; rw [if_pos (Or.inl (by decide))])
theorem same3 : SameS (withI nmS 63) nmS := by
  have h : ∀ i, i < 16 → withI nmS 63 i = nmS i := by decide +kernel
  exact h
set_option maxHeartbeats 4000000 in
theorem walk (w : World) (hT : Tab w) : Calls Tryd.prog 3 #[] w fun e w' => e = .returned (.bool true) ∧ Below w.heap.size w w' := by
  have hW := Below.refl w.heap.size w
  have hw0 := hT.pos
  go_enter Tryd.func3, Tryd.ntmps3
  go_wp2_with (first
    | (go_at_call 10; refine (worksC _ hT).mono ?_; rintro e w1 ⟨rfl, hb⟩; replace hT := hT.on hb; replace hW := hW.trans (hb.mono hW.size); clear hb)
    | (go_at_call 11; refine (ofAt _ [0, 63, 65, 1023] nmS (SameS.refl _) _ (rd_lit [0, 63, 65, 1023] 4 rfl (by decide) _ rfl _)).mono ?_; rintro e w2 ⟨rfl, hb⟩; replace hT := (hT.alloc _).on hb; replace hW := (hW.alloc hW.size _).trans (hb.mono (hW.alloc hW.size _).size); clear hb)
    | (refine al rfl rfl ?_; intro g w3 hz hb hgz; replace hgz := Nat.le_trans hW.size hgz; replace hT := hT.on hb; replace hW := hW.trans (hb.mono hW.size); clear hb)
    | (refine stN _ _ rfl rfl rfl _ rfl _ rfl _ hz ?_; intro w4 r0 hu; replace hT := tab_upd hT hu (Nat.lt_of_lt_of_le hw0 hgz); replace hW := hu.below hW hgz; clear hz hu)
    | (refine ld _ rfl rfl _ rfl nmS r0 ?_)
    | (refine bld rfl rfl ?_)
    | (go_at_call_of 12 (1024 : Int); refine (nextAt nmS nm_word 1024 _ nm_n1 0 false rfl rfl _ hT).mono ?_; rintro e w5 ⟨rfl, hb⟩; replace hT := hT.on hb; replace r0 := r0.on hb; replace hW := hW.trans (hb.mono hW.size); clear hb)
    | (go_at_call_of 12 zeroS; refine (nextAt zeroS zero_word 0 _ z_n 0 false rfl rfl _ hT).mono ?_; rintro e w5 ⟨rfl, hb⟩; replace hT := hT.on hb; replace r0 := r0.on hb; replace hW := hW.trans (hb.mono hW.size); clear hb)
    | (go_at_call 12; refine (nextAt nmS nm_word (-9) _ nm_n2 0 true rfl rfl _ hT).mono ?_; rintro e w5 ⟨rfl, hb⟩; replace hT := hT.on hb; replace r0 := r0.on hb; replace hW := hW.trans (hb.mono hW.size); clear hb))
  (try dsimp only [List.append])
  have q0 := r0.cell (i := 0) (by decide)
  have q1 := r0.cell (i := 1) (by decide)
  have q15 := r0.cell (i := 15) (by decide)
  rw [nm_0] at q0
  rw [nm_1] at q1
  rw [nm_15] at q15
  have p0 := cell_regrown q0
  have p1 := cell_regrown q1
  have p15 := cell_regrown q15
  clear q0 q1 q15
  refine wp_region_quiet_below (by kernel_rfl) (by kernel_rfl) ?_
  repeat (first
    | (refine qld _ rfl rfl _ rfl nmS r0 ?_; (simp only [Act.put, List.setIfInBounds_toArray, List.set_cons_succ, List.set_cons_zero]))
    | (refine qeqT _ _ rfl rfl bAll bAll rfl rfl (SameS.refl _) ?_; (simp only [Act.put, List.setIfInBounds_toArray, List.set_cons_succ, List.set_cons_zero]))
    | (refine qeqT _ _ rfl rfl nmS nmS rfl rfl (SameS.refl _) ?_; (simp only [Act.put, List.setIfInBounds_toArray, List.set_cons_succ, List.set_cons_zero]))
    | go_big_quiet_step ((first
      | with_reducible exact Calls.regrown_of (belowAt 1024 bAll (nat_of _ 1024 (by decide)) _)
      | with_reducible exact Calls.regrown_of (belowAt 4611686018427387904 bAll (nat_of _ 1024 (by decide)) _)
      | with_reducible exact Calls.regrown_of (belowAt (-9223372036854775808) bNone (nat_of _ 0 (by decide)) _)
      | with_reducible exact Calls.regrown_of (belowAt 9223372036854775807 bAll (nat_of _ 1024 (by decide)) _)
      | with_reducible exact Calls.regrown_of (lenAt bAll bAll_word 1024 all_len _)
      | with_reducible exact Calls.regrown_of (lenAt bNone bNone_word 0 none_len _)
      | with_reducible exact Calls.regrown_of (hasAt nmS nm_word (-9223372036854775808) false has1 _)
      | with_reducible exact Calls.regrown_of (hasAt nmS nm_word 9223372036854775807 false has2 _)
      | with_reducible exact Calls.regrown_of (withAt nmS nm_word 1024 nmS same1 _)
      | with_reducible exact Calls.regrown_of (withAt nmS nm_word 63 nmS same3 _)
      | with_reducible exact Calls.regrown_of (withoutAt nmS nm_word (-1) nmS same2 _))))
  refine wpQuiet_nil ?_
  intro _ hw'
  obtain ⟨⟨dq, osq⟩, hw''⟩ := hw'
  subst hw''
  have hq := below_regrown w5 dq osq
  replace hW := hW.trans (hq.mono hW.size)
  clear p0 p1 p15
  go_wp2_with fail
  go_ret
  exact ⟨rfl, hW⟩
end Go.Proofs.YtpgkikondihplaaDoor.LawBitsNames
