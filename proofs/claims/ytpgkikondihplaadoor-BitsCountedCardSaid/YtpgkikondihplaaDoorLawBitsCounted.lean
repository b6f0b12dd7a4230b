/- BitsCounted: the walk of the law, from the contracts. No condition but what the argument's reading gives. -/
import Derived.Test.YtpgkikondihplaaDoorBk
namespace Go.Proofs.YtpgkikondihplaaDoor.LawBitsCounted
open Go.RowKit Go.Proofs.YtpgkikondihplaaDoor.Ba Go.Proofs.YtpgkikondihplaaDoor.Bm Go.Proofs.YtpgkikondihplaaDoor.Bn Go.Proofs.YtpgkikondihplaaDoor.Bb Go.Proofs.YtpgkikondihplaaDoor.Bc Go.Proofs.YtpgkikondihplaaDoor.Bd Go.Proofs.YtpgkikondihplaaDoor.Bg Go.Proofs.YtpgkikondihplaaDoor.Bt Go.Proofs.YtpgkikondihplaaDoor.Be Go.Proofs.YtpgkikondihplaaDoor.Bf Go.Proofs.YtpgkikondihplaaDoor.Bu Go.Proofs.YtpgkikondihplaaDoor.Bv Go.Proofs.YtpgkikondihplaaDoor.Bw Go.Proofs.YtpgkikondihplaaDoor.Bx Go.Proofs.YtpgkikondihplaaDoor.By Go.Proofs.YtpgkikondihplaaDoor.Bz Go.Proofs.YtpgkikondihplaaDoor.Bq Go.Proofs.YtpgkikondihplaaDoor.Bk
set_option linter.unusedVariables false
set_option linter.unusedSimpArgs false
set_option maxRecDepth 100000
theorem countP_or_and {α : Type} (p q : α → Bool) : ∀ l : List α, l.countP (fun x => p x || q x) + l.countP (fun x => p x && q x) = l.countP p + l.countP q
  | [] => rfl
  | x :: l => by
    have ih := countP_or_and p q l
    simp only [List.countP_cons]
    cases p x <;> cases q x <;> simp <;> omega
theorem countP_less {α : Type} (p q : α → Bool) : ∀ l : List α, l.countP (fun x => p x && !q x) + l.countP (fun x => p x && q x) = l.countP p
  | [] => rfl
  | x :: l => by
    have ih := countP_less p q l
    simp only [List.countP_cons]
    cases p x <;> cases q x <;> simp <;> omega
theorem len_count (s : Nat → Nat) : (lst s).length = (List.range 1024).countP (has s) := by unfold lst; rw [List.countP_eq_length_filter]
theorem or_and (a b : Nat → Nat) : (lst (orS a b)).length + (lst (andS a b)).length = (lst a).length + (lst b).length := by
  rw [len_count, len_count, len_count, len_count, ← countP_or_and (has a) (has b)]
  congr 1
  · exact List.countP_congr fun x _ => by rw [has_or]
  · exact List.countP_congr fun x _ => by rw [has_and]
theorem less_and (a b : Nat → Nat) (hb : Word b) : (lst (lessS a b)).length + (lst (andS a b)).length = (lst a).length := by
  rw [len_count, len_count, len_count, ← countP_less (has a) (has b)]
  congr 1
  · exact List.countP_congr fun x _ => by rw [has_less hb]
  · exact List.countP_congr fun x _ => by rw [has_and]
/-- The numbers as the walk reads them. -/
structure Facts (p q r s u : Int) : Prop where
  w1 : IntKind.i64.wrap (p + q) = p + q
  w2 : IntKind.i64.wrap (r + s) = r + s
  w3 : IntKind.i64.wrap (r - q) = r - q
  e1 : ((p + q) == (r + s)) = true
  e2 : (u == (r - q)) = true
theorem facts (a b : Nat → Nat) (hb : Word b) : Facts ((lst (orS a b)).length) ((lst (andS a b)).length) ((lst a).length) ((lst b).length) ((lst (lessS a b)).length) := by
  have h1 := or_and a b
  have h2 := less_and a b hb
  have k1 := lst_len_le (orS a b)
  have k2 := lst_len_le (andS a b)
  have k3 := lst_len_le a
  have k4 := lst_len_le b
  constructor
  · rw [IntKind.wrap_i64]; omega
  · rw [IntKind.wrap_i64]; omega
  · rw [IntKind.wrap_i64]; omega
  · simp; omega
  · simp; omega
theorem below_len (n : Int) : ((lst (belowS (min n.toNat 1024))).length : Int) = (if 1024 < (if n < 0 then 0 else n) then 1024 else (if n < 0 then 0 else n)) := by
  rw [lst_below _ (Nat.min_le_right _ _), List.length_range]
  repeat' split
  all_goals omega
theorem far (a1 a2 : Option Addr) (n1 n2 c1 c2 : Nat) (n : Int) (h : 200 < n1 ∨ 200 < n2) (w : World) (hT : Tab w) : Calls Tryd.prog 9 #[.slice a1 n1 c1, .slice a2 n2 c2, .int .i64 n] w fun e w' => e = .returned (.bool true) ∧ Below w.heap.size w w' := by
  have hb : big 2 (fun i => (([(a1, n1, c1), (a2, n2, c2)] : List (Option Addr × Nat × Nat)).getD i (none, 0, 0)).2.1) = true := by
    rcases h with h | h
    · exact big_yes (k := 0) (by decide) h
    · exact big_yes (k := 1) (by decide) h
  have HB := Lib.hid hb
  clear hb h
  have hW := Below.refl w.heap.size w
  go_enter Tryd.func9, Tryd.ntmps9
  go_wp2_with (first
    | (go_at_call 10; refine (worksC _ hT).mono ?_; rintro e w1 ⟨rfl, hb⟩; replace hT := hT.on hb; replace hW := hW.trans (hb.mono hW.size); clear hb)
    | (go_at_call 18; refine (large_lit [(a1, n1, c1), (a2, n2, c2)] _ rfl 2 rfl (by decide) true HB.out _).mono ?_; rintro e w1 ⟨rfl, hb⟩; replace hT := (hT.alloc _).on hb; replace hW := (hW.alloc hW.size _).trans (hb.mono (hW.alloc hW.size _).size); clear hb))
  go_ret
  exact ⟨rfl, hW⟩
set_option maxHeartbeats 4000000 in
theorem near (a1 a2 : Option Addr) (n1 n2 c1 c2 : Nat) (n : Int) (la lb : List Int) (h1 : n1 ≤ 200) (h2 : n2 ≤ 200) (w : World) (hT : Tab w) (va : Rd (.slice a1 n1 c1) la w) (vb : Rd (.slice a2 n2 c2) lb w) : Calls Tryd.prog 9 #[.slice a1 n1 c1, .slice a2 n2 c2, .int .i64 n] w fun e w' => e = .returned (.bool true) ∧ Below w.heap.size w w' := by
  have hb : big 2 (fun i => (([(a1, n1, c1), (a2, n2, c2)] : List (Option Addr × Nat × Nat)).getD i (none, 0, 0)).2.1) = false := by
    refine big_no fun j hj => ?_
    have : j = 0 ∨ j = 1 := by omega
    rcases this with rfl | rfl
    · exact h1
    · exact h2
  have HB := Lib.hid hb
  clear hb h1 h2
  have hW := Below.refl w.heap.size w
  have hw0 := hT.pos
  have wa := ofS_word la
  have wb := ofS_word lb
  have oa := fun v w h => ofAt v la (ofS la) (SameS.refl _) w h
  have ob := fun v w h => ofAt v lb (ofS lb) (SameS.refl _) w h
  have OA := Lib.hid oa
  have OB := Lib.hid ob
  clear oa ob
  generalize ofS la = A at *
  generalize ofS lb = B at *
  have F := Lib.hid (facts A B wb)
  obtain ⟨p, hp⟩ : ∃ p : Int, ((lst (orS A B)).length : Int) = p := ⟨_, rfl⟩
  obtain ⟨q, hq⟩ : ∃ p : Int, ((lst (andS A B)).length : Int) = p := ⟨_, rfl⟩
  obtain ⟨r, hr⟩ : ∃ p : Int, ((lst A).length : Int) = p := ⟨_, rfl⟩
  obtain ⟨s, hs⟩ : ∃ p : Int, ((lst B).length : Int) = p := ⟨_, rfl⟩
  obtain ⟨u, hu⟩ : ∃ p : Int, ((lst (lessS A B)).length : Int) = p := ⟨_, rfl⟩
  rw [hp, hq, hr, hs, hu] at F
  have lp := lenAt (orS A B) (or_word wa wb) p hp
  have lq := lenAt (andS A B) (and_word wa) q hq
  have lr := lenAt A wa r hr
  have ls := lenAt B wb s hs
  have lu := lenAt (lessS A B) (less_word wa) u hu
  have lb := lenAt (belowS (min n.toNat 1024)) (below_word _) _ (below_len n)
  have LP := Lib.hid lp
  have LQ := Lib.hid lq
  have LR := Lib.hid lr
  have LS := Lib.hid ls
  have LU := Lib.hid lu
  have LB := Lib.hid lb
  clear lp lq lr ls lu lb hp hq hr hs hu
  go_enter Tryd.func9, Tryd.ntmps9
  go_wp2_with (first
    | (go_at_call 10; refine (worksC _ hT).mono ?_; rintro e w1 ⟨rfl, hb⟩; replace hT := hT.on hb; replace va := va.on hb; replace vb := vb.on hb; replace hW := hW.trans (hb.mono hW.size); clear hb)
    | (go_at_call 18; refine (large_lit [(a1, n1, c1), (a2, n2, c2)] _ rfl 2 rfl (by decide) false HB.out _).mono ?_; rintro e w1 ⟨rfl, hb⟩; replace va := (va.on ((Below.refl _ _).alloc (Nat.le_refl _) _)).on hb; replace vb := (vb.on ((Below.refl _ _).alloc (Nat.le_refl _) _)).on hb; replace hT := (hT.alloc _).on hb; replace hW := (hW.alloc hW.size _).trans (hb.mono (hW.alloc hW.size _).size); clear hb))
  refine (OA.out _ _ va).mono ?_
  rintro e w2 ⟨rfl, hb⟩
  replace hT := hT.on hb; replace vb := vb.on hb; replace hW := hW.trans (hb.mono hW.size); clear hb va
  go_wp2_with fail
  refine (OB.out _ _ vb).mono ?_
  rintro e w4 ⟨rfl, hb⟩
  replace hT := hT.on hb; replace hW := hW.trans (hb.mono hW.size); clear hb vb
  have z1 : Row (w4.heap.size) zeroS ((w4.alloc (.cells (row zeroS) 25)).alloc (.cells (row zeroS) 25)) := by
    have := (Row.new zeroS w4).alloc (.cells (row zeroS) 25)
    exact this
  have z2 : Row (w4.heap.size + 1) zeroS ((w4.alloc (.cells (row zeroS) 25)).alloc (.cells (row zeroS) 25)) := by
    have := Row.new zeroS (w4.alloc (.cells (row zeroS) 25))
    simp only [World.size_alloc] at this; exact this
  have hz4 := hW.size
  have hW3 : Below w.heap.size w ((w4.alloc (.cells (row zeroS) 25)).alloc (.cells (row zeroS) 25)) := by (repeat' (first | (with_reducible exact Below.refl _ _) | (with_reducible assumption) | (with_reducible refine Below.alloc ?_ ?_ _) | (with_reducible refine Below.drew ?_) | (with_reducible refine below_drewN ?_ _) | (with_reducible refine Below.setCell ?_ ?_ _) | (with_reducible refine Below.trans ?_ (Below.mono (by with_reducible assumption) ?_)) | (simp only [World.size_alloc, World.size_setCell, World.heap_drewN, World.size_drew]; omega) | omega | (simp; omega) | (simp; done)))
  clear hW hT
  go_wp2_with (first
    | (refine stN _ _ rfl rfl rfl _ rfl A rfl zeroS z1 ?_; intro w5 hA hu; replace z2 := hu.row z2 (by omega); replace hW3 := hu.below hW3 (by omega); clear z1 hu)
    | (refine stN _ _ rfl rfl rfl _ rfl B rfl zeroS z2 ?_; intro w6 hB hu; replace hA := hu.row hA (by omega); replace hW3 := hu.below hW3 (by omega); clear z2 hu))
  (try dsimp only [List.append])
  obtain ⟨f1, f2, f3, f4, f5⟩ := F.out
  refine wp_region_quiet_below (by kernel_rfl) (by kernel_rfl) ?_
  repeat (first
    | (refine qld _ rfl rfl _ rfl A hA ?_; (simp only [Act.put, List.setIfInBounds_toArray, List.set_cons_succ, List.set_cons_zero]))
    | (refine qld _ rfl rfl _ rfl B hB ?_; (simp only [Act.put, List.setIfInBounds_toArray, List.set_cons_succ, List.set_cons_zero]))
    | go_big_quiet_step ((first | with_reducible exact Calls.regrown_of (belowC n _) | with_reducible exact Calls.regrown_of (LB.out _) | with_reducible exact Calls.regrown_of (LP.out _) | with_reducible exact Calls.regrown_of (LQ.out _) | with_reducible exact Calls.regrown_of (LR.out _) | with_reducible exact Calls.regrown_of (LS.out _) | with_reducible exact Calls.regrown_of (LU.out _) | with_reducible exact Calls.regrown_of (orSetC A B wa wb _) | with_reducible exact Calls.regrown_of (andSetC A B wa wb _) | with_reducible exact Calls.regrown_of (lessSetC A B wa wb _))))
  refine wpQuiet_nil ?_
  intro _ hw'
  obtain ⟨⟨dq, osq⟩, hw''⟩ := hw'
  subst hw''
  have hq := below_regrown w6 dq osq
  replace hW3 := hW3.trans (hq.mono hW3.size)
  clear f1 f2 f3 f4 f5
  go_wp2_with fail
  all_goals go_ret
  all_goals exact ⟨rfl, hW3⟩
theorem walk (v1 v2 : Value) (n : Int) (W : World) (hT : Tab W) (w1 : IntsAt W .i64 v1) (w2 : IntsAt W .i64 v2) (wn : (Lit.int .i64 n).wf = true) : Calls Tryd.prog 9 #[v1, v2, .int .i64 n] W fun e w' => e = .returned (.bool true) ∧ Below W.heap.size W w' := by
  obtain ⟨a1, n1, c1, rfl, r1⟩ := w1.parts
  obtain ⟨a2, n2, c2, rfl, r2⟩ := w2.parts
  by_cases h : 200 < n1 ∨ 200 < n2
  · exact far a1 a2 n1 n2 c1 c2 n h W hT
  · obtain ⟨la, va⟩ := r1 (by omega)
    obtain ⟨lb, vb⟩ := r2 (by omega)
    exact near a1 a2 n1 n2 c1 c2 n la lb (by omega) (by omega) W hT va vb
end Go.Proofs.YtpgkikondihplaaDoor.LawBitsCounted
