/- BitsValues: the walk of the law, from the contracts. No condition but what the argument's reading gives. -/
import Derived.Test.YtpgkikondihplaaDoorBk
import Derived.Deep.DeepCutAuto
import Derived.Deep.CutBlock
import Derived.Deep.LoopGhost
import Derived.Deep.DrawnRows
import Derived.Test.YtpgkikondihplaaDoorBh
namespace Go.Proofs.YtpgkikondihplaaDoor.LawBitsValues
open Go.RowKit Go.Proofs.YtpgkikondihplaaDoor.Ba Go.Proofs.YtpgkikondihplaaDoor.Bm Go.Proofs.YtpgkikondihplaaDoor.Bn Go.Proofs.YtpgkikondihplaaDoor.Bb Go.Proofs.YtpgkikondihplaaDoor.Bc Go.Proofs.YtpgkikondihplaaDoor.Bd Go.Proofs.YtpgkikondihplaaDoor.Bg Go.Proofs.YtpgkikondihplaaDoor.Bt Go.Proofs.YtpgkikondihplaaDoor.Be Go.Proofs.YtpgkikondihplaaDoor.Bf Go.Proofs.YtpgkikondihplaaDoor.Bu Go.Proofs.YtpgkikondihplaaDoor.Bv Go.Proofs.YtpgkikondihplaaDoor.Bw Go.Proofs.YtpgkikondihplaaDoor.Bx Go.Proofs.YtpgkikondihplaaDoor.By Go.Proofs.YtpgkikondihplaaDoor.Bz Go.Proofs.YtpgkikondihplaaDoor.Bq Go.Proofs.YtpgkikondihplaaDoor.Bk
set_option linter.unusedVariables false
set_option linter.unusedSimpArgs false
set_option maxRecDepth 100000
open Go.Proofs.YtpgkikondihplaaDoor.Bh
attribute [local go_sem ↓] Go.wp_at_zero Go.wp_at_succ
theorem lst_same {s t : Nat → Nat} (h : SameS s t) : lst s = lst t := by
  unfold lst
  refine List.filter_congr fun n hn => ?_
  have := List.mem_range.1 hn
  unfold has; rw [h _ (by omega)]
theorem all_eq {s t : Nat → Nat} (hs : Word s) (ht : Word t) : (lstI s == lstI t) = eqB s t := by
  rw [Bool.eq_iff_iff, eqB_iff, beq_iff_eq]
  constructor
  · intro h
    have h2 : lst s = lst t := by
      unfold lstI at h
      exact (List.map_inj_right (fun a b hab => Int.ofNat.inj hab)).1 h
    exact fun i hi => lst_inj hs ht h2 hi
  · intro h; unfold lstI; rw [lst_same h]
/-- A slice of the call's own whose cells may be written. -/
def Wr (B : Nat) (a : Option Addr) (n : Nat) (w : World) : Prop := n = 0 ∨ ∃ g cur, a = some ⟨g, 0, none⟩ ∧ B ≤ g ∧ w.heap[g]? = some (.cells cur 3 (0, 0)) ∧ n ≤ cur.size
theorem own_wr {B : Nat} {v : Value} {l : List Int} {w : World} (h : Own B v l w) : ∃ a cap, v = .slice a l.length cap ∧ Wr B a l.length w := by
  obtain ⟨h1, ⟨rfl, h2⟩ | ⟨g, cap, cur, rfl, hg, hh, hn, hm, hz, ht⟩⟩ := h
  · exact ⟨none, 0, by rw [h2], Or.inl h2⟩
  · exact ⟨_, cap, rfl, Or.inr ⟨g, cur, rfl, hg, hh, by omega⟩⟩
theorem Wr.on {B : Nat} {a : Option Addr} {n : Nat} {w w1 : World} (h : Wr B a n w) (hb : Below w.heap.size w w1) : Wr B a n w1 := by
  rcases h with h | ⟨g, cur, h1, h2, h3, h4⟩
  · exact Or.inl h
  · exact Or.inr ⟨g, cur, h1, h2, (hb.block g (Array.getElem?_eq_some_iff.1 h3).1).trans h3, h4⟩
theorem far (a1 a2 : Option Addr) (n1 n2 c1 c2 : Nat) (n : Int) (one : Int) (h : 200 < n1 ∨ 200 < n2) (w : World) (hT : Tab w) : Calls Tryd.prog 5 #[.slice a1 n1 c1, .slice a2 n2 c2, .int .i64 n, .int .i64 one] w fun e w' => e = .returned (.bool true) ∧ Below w.heap.size w w' := by
  have hb : big 2 (fun i => (([(a1, n1, c1), (a2, n2, c2)] : List (Option Addr × Nat × Nat)).getD i (none, 0, 0)).2.1) = true := by
    rcases h with h | h
    · exact big_yes (k := 0) (by decide) h
    · exact big_yes (k := 1) (by decide) h
  have HB := Lib.hid hb
  clear hb h
  have hW := Below.refl w.heap.size w
  go_enter Tryd.func5, Tryd.ntmps5
  go_wp2_with (first
    | (go_at_call 10; refine (worksC _ hT).mono ?_; rintro e w1 ⟨rfl, hb⟩; replace hT := hT.on hb; replace hW := hW.trans (hb.mono hW.size); clear hb)
    | (go_at_call 18; refine (large_lit [(a1, n1, c1), (a2, n2, c2)] _ rfl 2 rfl (by decide) true HB.out _).mono ?_; rintro e w1 ⟨rfl, hb⟩; replace hT := (hT.alloc _).on hb; replace hW := (hW.alloc hW.size _).trans (hb.mono (hW.alloc hW.size _).size); clear hb))
  go_ret
  exact ⟨rfl, hW⟩
set_option maxHeartbeats 4000000 in
theorem near (a1 a2 : Option Addr) (n1 n2 c1 c2 : Nat) (n : Int) (one : Int) (la lb : List Int) (h1 : n1 ≤ 200) (h2 : n2 ≤ 200) (w : World) (hT : Tab w) (va : Rd (.slice a1 n1 c1) la w) (vb : Rd (.slice a2 n2 c2) lb w) : Calls Tryd.prog 5 #[.slice a1 n1 c1, .slice a2 n2 c2, .int .i64 n, .int .i64 one] w fun e w' => e = .returned (.bool true) ∧ Below w.heap.size w w' := by
  have hb : big 2 (fun i => (([(a1, n1, c1), (a2, n2, c2)] : List (Option Addr × Nat × Nat)).getD i (none, 0, 0)).2.1) = false := by
    refine big_no fun j hj => ?_
    have : j = 0 ∨ j = 1 := by omega
    rcases this with rfl | rfl
    · exact h1
    · exact h2
  have HB := Lib.hid hb
  clear hb h1 h2
  have hW := Below.refl w.heap.size w
  have hw0 := hT.pos
  have wa := ofS_word la
  have wb := ofS_word lb
  have oa := fun v w h => ofAt v la (ofS la) (SameS.refl _) w h
  have ob := fun v w h => ofAt v lb (ofS lb) (SameS.refl _) w h
  have OA := Lib.hid oa
  have OB := Lib.hid ob
  clear oa ob
  generalize ofS la = A at *
  generalize ofS lb = B at *
  have hle := lst_len_le A
  have HLE := Lib.hid hle
  clear hle
  go_enter Tryd.func5, Tryd.ntmps5
  go_wp2_with (first
    | (go_at_call 10; refine (worksC _ hT).mono ?_; rintro e w1 ⟨rfl, hb⟩; replace hT := hT.on hb; replace va := va.on hb; replace vb := vb.on hb; replace hW := hW.trans (hb.mono hW.size); clear hb)
    | (go_at_call 18; refine (large_lit [(a1, n1, c1), (a2, n2, c2)] _ rfl 2 rfl (by decide) false HB.out _).mono ?_; rintro e w1 ⟨rfl, hb⟩; replace va := (va.on ((Below.refl _ _).alloc (Nat.le_refl _) _)).on hb; replace vb := (vb.on ((Below.refl _ _).alloc (Nat.le_refl _) _)).on hb; replace hT := (hT.alloc _).on hb; replace hW := (hW.alloc hW.size _).trans (hb.mono (hW.alloc hW.size _).size); clear hb))
  refine (OA.out _ _ va).mono ?_
  rintro e w4 ⟨rfl, hb⟩
  have hT4 := hT.on hb; have vb4 := vb.on hb; have hW4 := hW.trans (hb.mono hW.size); clear hb va hT vb hW
  have hz4 := hW4.size
  have hp4 := hT4.pos
  go_upto_region 4 with (first
    | (refine al rfl rfl ?_; intro g1 w5 hz hB4 hg1)
    | (refine stN _ _ rfl rfl rfl _ rfl A rfl zeroS hz ?_; intro w6 hA hu; replace hB4 := hu.below hB4 hg1; clear hz hu))
  go_upto_region 5 with (first
    | (refine ld _ rfl rfl _ rfl A hA ?_)
    | (refine al rfl rfl ?_; intro g2 w7 hz hb hg2; have h12 : g1 < g2 := Nat.lt_of_lt_of_le hA.lt hg2; replace hg2 := Nat.le_trans hB4.size hg2; replace hA := hA.on hb; replace hB4 := hB4.trans (hb.mono hB4.size); clear hb)
    | (refine stN _ _ rfl rfl rfl _ rfl A rfl zeroS hz ?_; intro w8 hC hu; replace hA := hu.row hA (by omega); replace hB4 := hu.below hB4 hg2; clear hz hu))
  go_wp2_with (refine ld _ rfl rfl _ rfl A hA ?_)
  refine (allC A wa _ (hT4.below hB4 hp4)).mono ?_
  rintro e w9 ⟨v9, rfl, hown, hQ⟩
  obtain ⟨a9, c9, rfl, hwr⟩ := own_wr hown
  have hb1 := hA.lt
  have hb2 := hC.lt
  have hb4 := hB4.size
  rw [lstI_len] at *
  clear hown
  go_upto_region 8 with (first
    | (refine ld _ rfl rfl _ rfl A (Row.keep hA hQ hb1) ?_)
    | (go_at_call 16; refine (withC A wa _ _).mono ?_; rintro e w10 ⟨rfl, hb⟩; replace hwr := hwr.on hb; replace hQ := hQ.trans (hb.mono hQ.size); clear hb)
    | (go_at_call 17; refine (withoutC A wa _ _).mono ?_; rintro e w10 ⟨rfl, hb⟩; replace hwr := hwr.on hb; replace hQ := hQ.trans (hb.mono hQ.size); clear hb))
  have hAc := Row.keep hA hQ hb1
  have vbc := vb4.on (hB4.trans (hQ.mono hb4))
  refine wp_region_quiet_below (by kernel_rfl) (by kernel_rfl) ?_
  repeat (first
    | (refine qld _ rfl rfl _ rfl A hAc ?_; (simp only [Act.put, List.setIfInBounds_toArray, List.set_cons_succ, List.set_cons_zero]))
    | go_big_quiet_step ((first | with_reducible exact Calls.regrown_of (OB.out _ _ (Rd.on vbc (below_regrown _ _ _))) | with_reducible exact Calls.regrown_of (orSetC A B wa wb _))))
  refine wpQuiet_nil ?_
  intro _ hw'
  obtain ⟨⟨dq, osq⟩, hw''⟩ := hw'
  subst hw''
  replace hwr := hwr.on (below_regrown _ dq osq)
  replace hQ := hQ.trans ((below_regrown _ dq osq).mono hQ.size)
  clear hAc vbc
  go_wp2_with (first
    | (refine ld _ rfl rfl _ rfl A (Row.keep hA hQ hb1) ?_)
    | (go_at_call 21; refine (lessSetC A A wa wa _).mono ?_; rintro e w11 ⟨rfl, hb⟩; replace hwr := hwr.on hb; replace hQ := hQ.trans (hb.mono hQ.size); clear hb))
  go_loopw [12] (fun v wr => ∃ k : Nat, k ≤ (lst A).length ∧ v = .int .i64 k ∧ Wr w8.heap.size a9 (lst A).length wr ∧ Below w8.heap.size w8 wr) (fun v _ => (lst A).length - (intOf v).toNat)
  case atStart => exact ⟨0, by omega, rfl, hwr, hQ⟩
  case round =>
    clear hwr hQ
    obtain ⟨k, hk, rfl, hwr, hQ⟩ := hrel
    have hl1 := HLE.out
    by_cases hlt : k < (lst A).length
    · rcases hwr with h0 | ⟨g, cur, rfl, hgb, hh, hn⟩
      · omega
      · have hcs := cell_of_row wr g k cur _ _ hh
        obtain ⟨y, hy⟩ : ∃ y, cur[k]? = some y := ⟨_, Array.getElem?_eq_getElem (by omega)⟩
        rw [hy] at hcs
        have hf := frozen_of_row wr g k cur _ hh
        have hset := heap_setCell_same wr g k cur _ (.int .i64 5) hh
        have hQ' := hQ.setCell (p := ⟨g, k, none⟩) hgb (.int .i64 5)
        have hn' : (lst A).length ≤ (cur.setIfInBounds k (.int .i64 5)).size := by rw [Array.size_setIfInBounds]; exact hn
        have hz : (0 : Int) ≤ (k : Int) := by omega
        have hzl : (k : Int) < ((lst A).length : Int) := by omega
        have HS := Lib.hid hset
        clear hset hy hh hn hQ
        go_wp2_with fail
        go_roundw
        case rel => exact ⟨k + 1, by omega, by go_num, Or.inr ⟨g, _, rfl, hgb, HS.out, hn'⟩, hQ'⟩
        case measure => simp [intOf]; omega
    · obtain rfl : k = (lst A).length := by omega
      have hzl : ¬ ((lst A).length : Int) < ((lst A).length : Int) := by omega
      clear hwr hlt hk
      have hae := all_eq wa wb
      have hne0 : (!eqB A A) = false := by rw [(eqB_iff A A).2 (SameS.refl _)]; rfl
      have HNE := Lib.hid hne0
      have vbc := vb4.on (hB4.trans (hQ.mono hb4))
      have hAc := Row.keep hA hQ hb1
      have hCc := Row.keep hC hQ hb2
      have hTc := (hT4.below hB4 hp4).below hQ (by omega)
      obtain ⟨be, hbe⟩ : ∃ b, eqB A B = b := ⟨_, rfl⟩
      rw [hbe] at hae
      have HAE := Lib.hid hae
      have HBE := Lib.hid hbe
      clear hae hne0 hbe
      go_upto_region 14 with fail
      go_cut [66] (fun v wq => v = .bool false ∧ Below w8.heap.size w8 wq)
      case first =>
        refine wp_region_held_drew (S := fun W => Row g1 A W ∧ Row g2 A W) (by kernel_rfl) ⟨hAc, hCc⟩ (fun _ => ?_)
        replace hAc : Row g1 A wr.drew := hAc
        replace hCc : Row g2 A wr.drew := hCc
        replace hQ : Below w8.heap.size w8 wr.drew := hQ.drew
        replace hTc : Tab wr.drew := hTc.on ((Below.refl _ _).drew)
        replace vbc := vbc.on ((Below.refl wr.heap.size wr).drew)
        generalize wr.drew = wd at *
        refine takeD (i := 0) (some 51) rfl rfl (by kernel_rfl) (by kernel_rfl) (by kernel_rfl) (fun _ _ _ h => h) (yLd _ rfl (by rfl) g2 rfl A (fun _ h => h.2)) ⟨hAc, hCc⟩ ?_
        (simp only [Act.put, List.setIfInBounds_toArray, List.set_cons_succ, List.set_cons_zero])
        refine takeD (i := 1) (some 52) rfl rfl (by kernel_rfl) (by kernel_rfl) (by kernel_rfl) (fun _ _ _ h => h) (yLd _ rfl (by rfl) g1 rfl A (fun _ h => h.1)) ⟨hAc, hCc⟩ ?_
        (simp only [Act.put, List.setIfInBounds_toArray, List.set_cons_succ, List.set_cons_zero])
        refine takeD (i := 2) (some 53) rfl rfl (by kernel_rfl) (by kernel_rfl) (by kernel_rfl) (fun _ _ _ h => h) (yNe _ _ rfl (by rfl) A A rfl rfl false HNE.out) ⟨hAc, hCc⟩ ?_
        (simp only [Act.put, List.setIfInBounds_toArray, List.set_cons_succ, List.set_cons_zero])
        refine takeD (i := 3) (v := ?_) (some 54) rfl rfl (by kernel_rfl) (by kernel_rfl) (by kernel_rfl) (fun _ _ _ h => h) (yAll (by rfl) ?_) ⟨hAc, hCc⟩ ?_
        rotate_left
        · intro w; go_simp; try with_reducible rfl
        (simp only [Act.put, List.setIfInBounds_toArray, List.set_cons_succ, List.set_cons_zero])
        refine takeD (i := 4) (some 55) rfl rfl (by kernel_rfl) (by kernel_rfl) (by kernel_rfl) (fun _ _ _ h => h) (yLd _ rfl (by rfl) g1 rfl A (fun _ h => h.1)) ⟨hAc, hCc⟩ ?_
        (simp only [Act.put, List.setIfInBounds_toArray, List.set_cons_succ, List.set_cons_zero])
        refine takeD (i := 6) (v := ?_) (some 57) rfl rfl (by kernel_rfl) (by kernel_rfl) (by kernel_rfl) (fun _ _ _ h => h) (yAll (by rfl) ?_) ⟨hAc, hCc⟩ ?_
        rotate_left
        · intro w; go_simp; try with_reducible rfl
        (simp only [Act.put, List.setIfInBounds_toArray, List.set_cons_succ, List.set_cons_zero])
        refine takeD (i := 10) (some 61) rfl rfl (by kernel_rfl) (by kernel_rfl) (by kernel_rfl) (fun _ _ _ h => h) (yLd _ rfl (by rfl) g1 rfl A (fun _ h => h.1)) ⟨hAc, hCc⟩ ?_
        (simp only [Act.put, List.setIfInBounds_toArray, List.set_cons_succ, List.set_cons_zero])
        refine takeD (i := 11) (v := ?_) (some 62) rfl rfl (by kernel_rfl) (by kernel_rfl) (by kernel_rfl) (fun _ _ _ h => h) (yAll (by rfl) ?_) ⟨hAc, hCc⟩ ?_
        rotate_left
        · intro w; go_simp; try with_reducible rfl
        (simp only [Act.put, List.setIfInBounds_toArray, List.set_cons_succ, List.set_cons_zero])
        refine wpAnyH_ready (rs := [5]) (by kernel_rfl) (by simp) ?_
        refine AllReadyH.cons rfl (fun K hK => ?_) ?_
        · go_simp
          refine (allC A wa _ hTc).mono ?_
          rintro e w25 ⟨va, rfl, hall, hb⟩
          have hva := all_rd hall
          replace hAc := hAc.on hb; replace hCc := hCc.on hb; replace hTc := hTc.on hb; replace vbc := vbc.on hb; replace hQ := hQ.trans (hb.mono hQ.size)
          clear hb hall
          go_wp2_with fail
          refine hK.out _ _ ⟨hAc, hCc⟩ (fun _ => ?_)
          clear hK K
          refine wpAnyH_ready (rs := [7]) (by kernel_rfl) (by simp) ?_
          refine AllReadyH.cons rfl (fun K hK => ?_) ?_
          · go_simp
            refine (OB.out _ _ vbc).mono ?_
            rintro e w27 ⟨rfl, hb⟩
            replace hva := hva.on hb
            replace hAc := hAc.on hb; replace hCc := hCc.on hb; replace hTc := hTc.on hb; replace vbc := vbc.on hb; replace hQ := hQ.trans (hb.mono hQ.size)
            clear hb
            go_wp2_with fail
            refine hK.out _ _ ⟨hAc, hCc⟩ (fun _ => ?_)
            clear hK K
            refine wpAnyH_ready (rs := [8]) (by kernel_rfl) (by simp) ?_
            refine AllReadyH.cons rfl (fun K hK => ?_) ?_
            · go_simp
              refine (allC B wb _ hTc).mono ?_
              rintro e w28 ⟨vo, rfl, hall, hb⟩
              have hvo := all_rd hall
              replace hva := hva.on hb
              replace hAc := hAc.on hb; replace hCc := hCc.on hb; replace hTc := hTc.on hb; replace vbc := vbc.on hb; replace hQ := hQ.trans (hb.mono hQ.size)
              clear hb hall
              go_wp2_with fail
              refine hK.out _ _ ⟨hAc, hCc⟩ (fun _ => ?_)
              clear hK K
              refine wpAnyH_ready (rs := [9]) (by kernel_rfl) (by simp) ?_
              refine AllReadyH.cons rfl (fun K hK => ?_) ?_
              · go_simp
                refine (intsAt _ _ (lstI A) (lstI B) be HAE.out _ hva hvo).mono ?_
                rintro e w29 ⟨rfl, hb⟩
                replace hAc := hAc.on hb; replace hCc := hCc.on hb; replace hTc := hTc.on hb; replace vbc := vbc.on hb; replace hQ := hQ.trans (hb.mono hQ.size)
                clear hb hva hvo
                go_wp2_with fail
                refine hK.out _ _ ⟨hAc, hCc⟩ (fun _ => ?_)
                clear hK K
                refine wpAnyH_ready (rs := [12]) (by kernel_rfl) (by simp) ?_
                refine AllReadyH.cons rfl (fun K hK => ?_) ?_
                · go_simp
                  refine (OB.out _ _ vbc).mono ?_
                  rintro e w32 ⟨rfl, hb⟩
                  replace hAc := hAc.on hb; replace hCc := hCc.on hb; replace hTc := hTc.on hb; replace vbc := vbc.on hb; replace hQ := hQ.trans (hb.mono hQ.size)
                  clear hb
                  go_wp2_with fail
                  refine hK.out _ _ ⟨hAc, hCc⟩ (fun _ => ?_)
                  clear hK K
                  refine takeD (i := 13) (some 64) rfl rfl (by kernel_rfl) (by kernel_rfl) (by kernel_rfl) (fun _ _ _ h => h) (yEq _ _ rfl (by rfl) A B rfl rfl be HBE.out) ⟨hAc, hCc⟩ ?_
                  (simp only [Act.put, List.setIfInBounds_toArray, List.set_cons_succ, List.set_cons_zero])
                  refine takeD (i := 14) (v := ?_) (some 65) rfl rfl (by kernel_rfl) (by kernel_rfl) (by kernel_rfl) (fun _ _ _ h => h) (yAll (by rfl) ?_) ⟨hAc, hCc⟩ ?_
                  rotate_left
                  · intro w; go_simp; try with_reducible rfl
                  (simp only [Act.put, List.setIfInBounds_toArray, List.set_cons_succ, List.set_cons_zero])
                  refine takeD (i := 15) (v := ?_) (some 66) rfl rfl (by kernel_rfl) (by kernel_rfl) (by kernel_rfl) (fun _ _ _ h => h) (yAll (by rfl) ?_) ⟨hAc, hCc⟩ ?_
                  rotate_left
                  · intro w; go_simp; try with_reducible rfl
                  (simp only [Act.put, List.setIfInBounds_toArray, List.set_cons_succ, List.set_cons_zero])
                  refine wpAnyH_done (by kernel_rfl) ?_ _
                  (try go_simp)
                  cases be
                  all_goals go_wp2_with fail
                  all_goals go_meet
                  all_goals exact ⟨by simp, hQ⟩
                exact AllReadyH.nil
              exact AllReadyH.nil
            exact AllReadyH.nil
          exact AllReadyH.nil
        exact AllReadyH.nil
      case rest =>
      clear hQ vbc hAc hCc hTc
      obtain ⟨rfl, hQ⟩ := hcut
      go_upto_region 17 with (first
        | (refine ld _ rfl rfl _ rfl A (Row.keep hA hQ hb1) ?_)
        | (refine al rfl rfl ?_; intro g3 w40 hz hb hg3; replace hg3 := Nat.le_trans hQ.size hg3; replace hQ := hQ.trans (hb.mono hQ.size); clear hb)
        | (refine stN _ _ rfl rfl rfl _ rfl A rfl zeroS hz ?_; intro w41 hD hu; replace hQ := hu.below hQ hg3; clear hz hu))
      rw [← mix_zero zeroS A] at hD
      go_wp2_with fail
      go_loopw [14] (fun v wq => ∃ k : Nat, k ≤ 16 ∧ v = .int .i64 k ∧ Row g3 (mix zeroS A k) wq ∧ Below w8.heap.size w8 wq) (fun v _ => 16 - (intOf v).toNat)
      case atStart => exact ⟨0, by omega, rfl, hD, hQ⟩
      case round =>
        clear hD hQ
        obtain ⟨k, hk, rfl, hD, hQ⟩ := hrel
        by_cases hlt : k < 16
        · have q := hD.cell hlt
          have f := hD.free k
          have hset := hD.set (mix zeroS A (k + 1)) hlt (mix_next _ _ _) (fun j hj => mix_other _ _ hj)
          have hQ' := hQ.setCell (p := ⟨g3, k, none⟩) hg3 (.int .u64 0)
          have hz : (0 : Int) ≤ (k : Int) := by omega
          have hz16 : (k : Int) < 16 := by omega
          have HS := Lib.hid hset
          clear hset hD hQ
          go_wp2_with fail
          go_roundw
          case rel => exact ⟨k + 1, by omega, by go_num, HS.out, hQ'⟩
          case measure => simp [intOf]; omega
        · obtain rfl : k = 16 := by omega
          unfold Row at hD
          rw [mix_16] at hD
          have hzl : ((lst zeroS).length : Int) = 0 := by
            have : lst zeroS = [] := by decide +kernel
            rw [this]; rfl
          have HZ := Lib.hid (lenAt zeroS zero_word 0 hzl)
          have esame := SameS.refl A
          clear hzl
          go_wp2_with (first
            | (refine ld _ rfl rfl _ rfl A (Row.keep hA hQ hb1) ?_)
            | (refine ld _ rfl rfl _ rfl A (Row.keep hC hQ hb2) ?_)
            | (refine ld _ rfl rfl _ rfl zeroS hD ?_)
            | (refine eqT _ _ rfl rfl _ _ rfl rfl esame ?_)
            | (go_at_call 14; refine (HZ.out _).mono ?_; rintro e w42 ⟨rfl, hb⟩; replace hQ := hQ.trans (hb.mono hQ.size); clear hb))
          go_ret
          exact ⟨rfl, hW4.trans ((hB4.trans (hQ.mono hb4)).mono hz4)⟩
theorem walk (v1 v2 : Value) (n : Int) (one : Int) (W : World) (hT : Tab W) (w1 : IntsAt W .i64 v1) (w2 : IntsAt W .i64 v2) (wn : (Lit.int .i64 n).wf = true) (wone : (Lit.int .i64 one).wf = true) : Calls Tryd.prog 5 #[v1, v2, .int .i64 n, .int .i64 one] W fun e w' => e = .returned (.bool true) ∧ Below W.heap.size W w' := by
  obtain ⟨a1, n1, c1, rfl, r1⟩ := w1.parts
  obtain ⟨a2, n2, c2, rfl, r2⟩ := w2.parts
  by_cases h : 200 < n1 ∨ 200 < n2
  · exact far a1 a2 n1 n2 c1 c2 n one h W hT
  · obtain ⟨la, va⟩ := r1 (by omega)
    obtain ⟨lb, vb⟩ := r2 (by omega)
    exact near a1 a2 n1 n2 c1 c2 n one la lb (by omega) (by omega) W hT va vb
end Go.Proofs.YtpgkikondihplaaDoor.LawBitsValues
