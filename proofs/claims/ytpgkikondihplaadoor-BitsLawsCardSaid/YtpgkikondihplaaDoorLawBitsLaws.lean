/- BitsLaws: the walk of the law, from the contracts. No condition but what the argument's reading gives. -/
import Derived.Test.YtpgkikondihplaaDoorBk
namespace Go.Proofs.YtpgkikondihplaaDoor.LawBitsLaws
open Go.RowKit Go.Proofs.YtpgkikondihplaaDoor.Ba Go.Proofs.YtpgkikondihplaaDoor.Bm Go.Proofs.YtpgkikondihplaaDoor.Bn Go.Proofs.YtpgkikondihplaaDoor.Bb Go.Proofs.YtpgkikondihplaaDoor.Bc Go.Proofs.YtpgkikondihplaaDoor.Bd Go.Proofs.YtpgkikondihplaaDoor.Bg Go.Proofs.YtpgkikondihplaaDoor.Bt Go.Proofs.YtpgkikondihplaaDoor.Be Go.Proofs.YtpgkikondihplaaDoor.Bf Go.Proofs.YtpgkikondihplaaDoor.Bu Go.Proofs.YtpgkikondihplaaDoor.Bv Go.Proofs.YtpgkikondihplaaDoor.Bw Go.Proofs.YtpgkikondihplaaDoor.Bx Go.Proofs.YtpgkikondihplaaDoor.By Go.Proofs.YtpgkikondihplaaDoor.Bz Go.Proofs.YtpgkikondihplaaDoor.Bq Go.Proofs.YtpgkikondihplaaDoor.Bk
set_option linter.unusedVariables false
set_option linter.unusedSimpArgs false
set_option maxRecDepth 100000
section
variable {a b c : Nat → Nat}
theorem l1 : SameS (orS a b) (orS b a) := fun i _ => Nat.or_comm _ _
theorem l2 : SameS (andS a b) (andS b a) := fun i _ => Nat.and_comm _ _
theorem l3 : SameS (orS (orS a b) c) (orS a (orS b c)) := fun i _ => Nat.or_assoc _ _ _
theorem l4 : SameS (andS (andS a b) c) (andS a (andS b c)) := fun i _ => Nat.and_assoc _ _ _
theorem l5 : SameS (andS a (orS b c)) (orS (andS a b) (andS a c)) := fun i _ => Nat.and_or_distrib_left _ _ _
theorem l6 (ha : Word a) (hb : Word b) : SameS (orS (lessS a b) (andS a b)) a := fun i _ => by
  refine word_ext (or_word (less_word ha) (and_word ha) i) (ha i) fun j hj => ?_
  unfold orS lessS andS
  rw [Nat.testBit_or, Nat.testBit_and, Nat.testBit_and, not_bit (hb i)]
  simp [hj]
  cases (a i).testBit j <;> cases (b i).testBit j <;> rfl
theorem l7 (ha : Word a) (hb : Word b) : SameS (andS (lessS a b) b) zeroS := fun i _ => by
  refine word_ext (and_word (less_word ha) i) (zero_word i) fun j hj => ?_
  unfold lessS andS zeroS
  rw [Nat.testBit_and, Nat.testBit_and, not_bit (hb i)]
  simp [hj]
theorem l8 : SameS (orS a a) a := fun i _ => Nat.or_self _
theorem l9 (ha : Word a) : SameS (lessS a a) zeroS := fun i _ => by
  refine word_ext (less_word ha i) (zero_word i) fun j hj => ?_
  unfold lessS zeroS
  rw [Nat.testBit_and, not_bit (ha i)]
  simp [hj]
end
theorem far (a1 a2 a3 : Option Addr) (n1 n2 n3 c1 c2 c3 : Nat) (h : 200 < n1 ∨ 200 < n2 ∨ 200 < n3) (w : World) (hT : Tab w) : Calls Tryd.prog 8 #[.slice a1 n1 c1, .slice a2 n2 c2, .slice a3 n3 c3] w fun e w' => e = .returned (.bool true) ∧ Below w.heap.size w w' := by
  have hb : big 3 (fun i => (([(a1, n1, c1), (a2, n2, c2), (a3, n3, c3)] : List (Option Addr × Nat × Nat)).getD i (none, 0, 0)).2.1) = true := by
    rcases h with h | h | h
    · exact big_yes (k := 0) (by decide) h
    · exact big_yes (k := 1) (by decide) h
    · exact big_yes (k := 2) (by decide) h
  have HB := Lib.hid hb
  clear hb h
  have hW := Below.refl w.heap.size w
  go_enter Tryd.func8, Tryd.ntmps8
  go_wp2_with (first
    | (go_at_call 10; refine (worksC _ hT).mono ?_; rintro e w1 ⟨rfl, hb⟩; replace hT := hT.on hb; replace hW := hW.trans (hb.mono hW.size); clear hb)
    | (go_at_call 18; refine (large_lit [(a1, n1, c1), (a2, n2, c2), (a3, n3, c3)] _ rfl 3 rfl (by decide) true HB.out _).mono ?_; rintro e w1 ⟨rfl, hb⟩; replace hT := (hT.alloc _).on hb; replace hW := (hW.alloc hW.size _).trans (hb.mono (hW.alloc hW.size _).size); clear hb))
  go_ret
  exact ⟨rfl, hW⟩
set_option maxHeartbeats 4000000 in
theorem near (a1 a2 a3 : Option Addr) (n1 n2 n3 c1 c2 c3 : Nat) (la lb lc : List Int) (h1 : n1 ≤ 200) (h2 : n2 ≤ 200) (h3 : n3 ≤ 200) (w : World) (hT : Tab w)
    (va : Rd (.slice a1 n1 c1) la w) (vb : Rd (.slice a2 n2 c2) lb w) (vc : Rd (.slice a3 n3 c3) lc w) : Calls Tryd.prog 8 #[.slice a1 n1 c1, .slice a2 n2 c2, .slice a3 n3 c3] w fun e w' => e = .returned (.bool true) ∧ Below w.heap.size w w' := by
  have hb : big 3 (fun i => (([(a1, n1, c1), (a2, n2, c2), (a3, n3, c3)] : List (Option Addr × Nat × Nat)).getD i (none, 0, 0)).2.1) = false := by
    refine big_no fun j hj => ?_
    have : j = 0 ∨ j = 1 ∨ j = 2 := by omega
    rcases this with rfl | rfl | rfl
    · exact h1
    · exact h2
    · exact h3
  have HB := Lib.hid hb
  clear hb h1 h2 h3
  have hW := Below.refl w.heap.size w
  have hw0 := hT.pos
  have wa := ofS_word la
  have wb := ofS_word lb
  have wc := ofS_word lc
  have oa := fun v w h => ofAt v la (ofS la) (SameS.refl _) w h
  have ob := fun v w h => ofAt v lb (ofS lb) (SameS.refl _) w h
  have oc := fun v w h => ofAt v lc (ofS lc) (SameS.refl _) w h
  have OA := Lib.hid oa
  have OB := Lib.hid ob
  have OC := Lib.hid oc
  clear oa ob oc
  generalize ofS la = A at *
  generalize ofS lb = B at *
  generalize ofS lc = C at *
  have e1 := l1 (a := A) (b := B)
  have e2 := l2 (a := A) (b := B)
  have e3 := l3 (a := A) (b := B) (c := C)
  have e4 := l4 (a := A) (b := B) (c := C)
  have e5 := l5 (a := A) (b := B) (c := C)
  have e6 := l6 wa wb
  have e7 := l7 wa wb
  have e8 := l8 (a := A)
  have e9 := l9 wa
  go_enter Tryd.func8, Tryd.ntmps8
  go_wp2_with (first
    | (go_at_call 10; refine (worksC _ hT).mono ?_; rintro e w1 ⟨rfl, hb⟩; replace hT := hT.on hb; replace va := va.on hb; replace vb := vb.on hb; replace vc := vc.on hb; replace hW := hW.trans (hb.mono hW.size); clear hb)
    | (go_at_call 18; refine (large_lit [(a1, n1, c1), (a2, n2, c2), (a3, n3, c3)] _ rfl 3 rfl (by decide) false HB.out _).mono ?_; rintro e w1 ⟨rfl, hb⟩; replace va := (va.on ((Below.refl _ _).alloc (Nat.le_refl _) _)).on hb; replace vb := (vb.on ((Below.refl _ _).alloc (Nat.le_refl _) _)).on hb; replace vc := (vc.on ((Below.refl _ _).alloc (Nat.le_refl _) _)).on hb; replace hT := (hT.alloc _).on hb; replace hW := (hW.alloc hW.size _).trans (hb.mono (hW.alloc hW.size _).size); clear hb))
  refine (OA.out _ _ va).mono ?_
  rintro e w2 ⟨rfl, hb⟩
  replace hT := hT.on hb; replace vb := vb.on hb; replace vc := vc.on hb; replace hW := hW.trans (hb.mono hW.size); clear hb va
  go_wp2_with fail
  refine (OB.out _ _ vb).mono ?_
  rintro e w3 ⟨rfl, hb⟩
  replace hT := hT.on hb; replace vc := vc.on hb; replace hW := hW.trans (hb.mono hW.size); clear hb vb
  go_wp2_with fail
  refine (OC.out _ _ vc).mono ?_
  rintro e w4 ⟨rfl, hb⟩
  replace hT := hT.on hb; replace hW := hW.trans (hb.mono hW.size); clear hb vc
  have z1 : Row w4.heap.size zeroS (((w4.alloc (.cells (row zeroS) 25)).alloc (.cells (row zeroS) 25)).alloc (.cells (row zeroS) 25)) := ((Row.new zeroS w4).alloc _).alloc _
  have z2 : Row (w4.heap.size + 1) zeroS (((w4.alloc (.cells (row zeroS) 25)).alloc (.cells (row zeroS) 25)).alloc (.cells (row zeroS) 25)) := by
    have := (Row.new zeroS (w4.alloc (.cells (row zeroS) 25))).alloc (.cells (row zeroS) 25); rw [World.size_alloc] at this; exact this
  have z3 : Row (w4.heap.size + 1 + 1) zeroS (((w4.alloc (.cells (row zeroS) 25)).alloc (.cells (row zeroS) 25)).alloc (.cells (row zeroS) 25)) := by
    have := Row.new zeroS ((w4.alloc (.cells (row zeroS) 25)).alloc (.cells (row zeroS) 25)); rw [World.size_alloc, World.size_alloc] at this; exact this
  have hT3 : Tab (((w4.alloc (.cells (row zeroS) 25)).alloc (.cells (row zeroS) 25)).alloc (.cells (row zeroS) 25)) := ((hT.alloc _).alloc _).alloc _
  have hz4 := hW.size
  have hW3 : Below w.heap.size w (((w4.alloc (.cells (row zeroS) 25)).alloc (.cells (row zeroS) 25)).alloc (.cells (row zeroS) 25)) := by (repeat' (first | (with_reducible exact Below.refl _ _) | (with_reducible assumption) | (with_reducible refine Below.alloc ?_ ?_ _) | (with_reducible refine Below.drew ?_) | (with_reducible refine below_drewN ?_ _) | (with_reducible refine Below.setCell ?_ ?_ _) | (with_reducible refine Below.trans ?_ (Below.mono (by with_reducible assumption) ?_)) | (simp only [World.size_alloc, World.size_setCell, World.heap_drewN, World.size_drew]; omega) | omega | (simp; omega) | (simp; done)))
  clear hW hT
  go_wp2_with (first
    | (refine stN _ _ rfl rfl rfl _ rfl A rfl zeroS z1 ?_; intro w5 hA hu; replace z2 := hu.row z2 (by omega); replace z3 := hu.row z3 (by omega); replace hT3 := tab_upd hT3 hu (by omega); replace hW3 := hu.below hW3 (by omega); clear z1 hu)
    | (refine stN _ _ rfl rfl rfl _ rfl B rfl zeroS z2 ?_; intro w6 hB hu; replace hA := hu.row hA (by omega); replace z3 := hu.row z3 (by omega); replace hT3 := tab_upd hT3 hu (by omega); replace hW3 := hu.below hW3 (by omega); clear z2 hu)
    | (refine stN _ _ rfl rfl rfl _ rfl C rfl zeroS z3 ?_; intro w7 hC hu; replace hA := hu.row hA (by omega); replace hB := hu.row hB (by omega); replace hT3 := tab_upd hT3 hu (by omega); replace hW3 := hu.below hW3 (by omega); clear z3 hu))
  (try dsimp only [List.append])
  refine wp_region_quiet_below (by kernel_rfl) (by kernel_rfl) ?_
  repeat (first
    | (refine qld _ rfl rfl _ rfl A hA ?_; (simp only [Act.put, List.setIfInBounds_toArray, List.set_cons_succ, List.set_cons_zero]))
    | (refine qld _ rfl rfl _ rfl B hB ?_; (simp only [Act.put, List.setIfInBounds_toArray, List.set_cons_succ, List.set_cons_zero]))
    | (refine qld _ rfl rfl _ rfl C hC ?_; (simp only [Act.put, List.setIfInBounds_toArray, List.set_cons_succ, List.set_cons_zero]))
    | (refine qbld rfl rfl ?_; (simp only [Act.put, List.setIfInBounds_toArray, List.set_cons_succ, List.set_cons_zero]))
    | (refine qeqT _ _ rfl rfl _ _ rfl rfl (by assumption) ?_; (simp only [Act.put, List.setIfInBounds_toArray, List.set_cons_succ, List.set_cons_zero]))
    | go_big_quiet_step ((first | with_reducible exact Calls.regrown_of (orSetC _ _ (by repeat' (first | (with_reducible assumption) | (with_reducible refine or_word ?_ ?_) | (with_reducible refine and_word ?_) | (with_reducible refine less_word ?_))) (by repeat' (first | (with_reducible assumption) | (with_reducible refine or_word ?_ ?_) | (with_reducible refine and_word ?_) | (with_reducible refine less_word ?_))) _) | with_reducible exact Calls.regrown_of (andSetC _ _ (by repeat' (first | (with_reducible assumption) | (with_reducible refine or_word ?_ ?_) | (with_reducible refine and_word ?_) | (with_reducible refine less_word ?_))) (by repeat' (first | (with_reducible assumption) | (with_reducible refine or_word ?_ ?_) | (with_reducible refine and_word ?_) | (with_reducible refine less_word ?_))) _) | with_reducible exact Calls.regrown_of (lessSetC _ _ (by repeat' (first | (with_reducible assumption) | (with_reducible refine or_word ?_ ?_) | (with_reducible refine and_word ?_) | (with_reducible refine less_word ?_))) (by repeat' (first | (with_reducible assumption) | (with_reducible refine or_word ?_ ?_) | (with_reducible refine and_word ?_) | (with_reducible refine less_word ?_))) _))))
  refine wpQuiet_nil ?_
  intro _ hw'
  obtain ⟨⟨dq, osq⟩, hw''⟩ := hw'
  subst hw''
  have hq := below_regrown w7 dq osq
  replace hW3 := hW3.trans (hq.mono hW3.size)
  go_wp2_with fail
  go_ret
  exact ⟨rfl, hW3⟩
theorem walk (v1 v2 v3 : Value) (W : World) (hT : Tab W) (w1 : IntsAt W .i64 v1) (w2 : IntsAt W .i64 v2) (w3 : IntsAt W .i64 v3) : Calls Tryd.prog 8 #[v1, v2, v3] W fun e w' => e = .returned (.bool true) ∧ Below W.heap.size W w' := by
  obtain ⟨a1, n1, c1, rfl, r1⟩ := w1.parts
  obtain ⟨a2, n2, c2, rfl, r2⟩ := w2.parts
  obtain ⟨a3, n3, c3, rfl, r3⟩ := w3.parts
  by_cases h : 200 < n1 ∨ 200 < n2 ∨ 200 < n3
  · exact far a1 a2 a3 n1 n2 n3 c1 c2 c3 h W hT
  · obtain ⟨la, va⟩ := r1 (by omega)
    obtain ⟨lb, vb⟩ := r2 (by omega)
    obtain ⟨lc, vc⟩ := r3 (by omega)
    exact near a1 a2 a3 n1 n2 n3 c1 c2 c3 la lb lc (by omega) (by omega) (by omega) W hT va vb vc
end Go.Proofs.YtpgkikondihplaaDoor.LawBitsLaws
