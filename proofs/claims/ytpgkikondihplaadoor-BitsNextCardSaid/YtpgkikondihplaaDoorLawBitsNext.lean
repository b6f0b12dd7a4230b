/- BitsNext: the walk of the law, from the contracts. No condition but what the argument's reading gives. -/
import Derived.Test.YtpgkikondihplaaDoorBk
import Derived.Deep.DeepCutAuto
import Derived.Deep.CutBlock
import Derived.Deep.LoopGhost
import Derived.Deep.DrawnRows
import Derived.Test.YtpgkikondihplaaDoorBh
namespace Go.Proofs.YtpgkikondihplaaDoor.LawBitsNext
open Go.RowKit Go.Proofs.YtpgkikondihplaaDoor.Ba Go.Proofs.YtpgkikondihplaaDoor.Bm Go.Proofs.YtpgkikondihplaaDoor.Bn Go.Proofs.YtpgkikondihplaaDoor.Bb Go.Proofs.YtpgkikondihplaaDoor.Bc Go.Proofs.YtpgkikondihplaaDoor.Bd Go.Proofs.YtpgkikondihplaaDoor.Bg Go.Proofs.YtpgkikondihplaaDoor.Bt Go.Proofs.YtpgkikondihplaaDoor.Be Go.Proofs.YtpgkikondihplaaDoor.Bf Go.Proofs.YtpgkikondihplaaDoor.Bu Go.Proofs.YtpgkikondihplaaDoor.Bv Go.Proofs.YtpgkikondihplaaDoor.Bw Go.Proofs.YtpgkikondihplaaDoor.Bx Go.Proofs.YtpgkikondihplaaDoor.By Go.Proofs.YtpgkikondihplaaDoor.Bz Go.Proofs.YtpgkikondihplaaDoor.Bq Go.Proofs.YtpgkikondihplaaDoor.Bk
set_option linter.unusedVariables false
set_option linter.unusedSimpArgs false
set_option maxRecDepth 100000
open Go.Proofs.YtpgkikondihplaaDoor.Bh
attribute [local go_sem ↓] Go.wp_at_zero Go.wp_at_succ
theorem ins_len (n : Nat) : ∀ l : List Nat, (ins n l).length = l.length + 1
  | [] => rfl
  | x :: l => by
    unfold ins
    split
    · simp
    · rw [List.length_cons, ins_len n l]; simp
theorem with_len {s : Nat → Nat} {n : Nat} (hn : n < 1024) : (lst (withS s n)).length ≤ (lst s).length + 1 := by
  rw [← lst_with hn]; unfold refWith; split
  · omega
  · rw [ins_len]; omega
theorem fold_len : ∀ (l : List Int) (s : Nat → Nat), (lst (l.foldl withI s)).length ≤ (lst s).length + l.length
  | [], s => by simp
  | x :: l, s => by
    have h := fold_len l (withI s x)
    have h2 : (lst (withI s x)).length ≤ (lst s).length + 1 := by
      unfold withI; split
      · omega
      · exact with_len (by omega)
    simp only [List.foldl_cons, List.length_cons]
    omega
theorem lst_zero : lst zeroS = [] := by
  unfold lst
  rw [List.filter_eq_nil_iff]
  intro n _; rw [has_zero]; simp
theorem of_len (l : List Int) : (lst (ofS l)).length ≤ l.length := by
  have := fold_len l zeroS
  rw [lst_zero] at this
  simp at this
  exact this
theorem fold_nat : ∀ (l : List Nat) (s : Nat → Nat), (∀ x ∈ l, x < 1024) → (l.map Int.ofNat).foldl withI s = l.foldl withS s
  | [], _, _ => rfl
  | x :: l, s, h => by
    have hx := h x (by simp)
    rw [List.map_cons, List.foldl_cons, List.foldl_cons, show withI s (Int.ofNat x) = withS s x by
      unfold withI; rw [if_neg (by simp; omega)]; rfl]
    exact fold_nat l _ fun y hy => h y (by simp [hy])
theorem lst_lt {s : Nat → Nat} {x : Nat} (h : x ∈ lst s) : x < 1024 := by
  have := mem_lst.1 h; unfold has at this; simp at this; exact this.1
/-- The set of a set's numbers is it. -/
theorem of_all {s : Nat → Nat} (hs : Word s) : SameS (ofS (lstI s)) s := fun i hi => by
  refine ext (ofS_word _) hs (fun n hn => ?_) hi
  unfold ofS lstI
  rw [fold_nat _ _ (fun x hx => lst_lt hx), has_fold _ _ (fun x hx => lst_lt hx), has_zero, Bool.false_or, Bool.eq_iff_iff]
  simp [mem_lst]
theorem last_lt (s : Nat → Nat) {j : Nat} (h : j + 1 < (lst s).length) : nI ((lst s)[j]?) < nI ((lst s)[j + 1]?) := by
  rw [List.getElem?_eq_getElem h, List.getElem?_eq_getElem (show j < (lst s).length by omega)]
  have := List.pairwise_iff_getElem.1 (lst_rising s) j (j + 1) (by omega) h (by omega)
  show ((lst s)[j] : Int) < ((lst s)[j + 1] : Int)
  omega
theorem take_at (s : Nat → Nat) {j k : Nat} (hj : j < k) (hk : k ≤ (lst s).length) : ((lstI s).take k).getD j 0 = nI ((lst s)[j]?) := by
  rw [List.getD_eq_getElem?_getD, List.getElem?_take, if_pos hj]
  unfold lstI
  rw [List.getElem?_map, List.getElem?_eq_getElem (show j < (lst s).length by omega)]
  rfl
theorem has_at (s : Nat → Nat) {k : Nat} (hk : k < (lst s).length) : hasI s (nI ((lst s)[k]?)) = true := by
  rw [List.getElem?_eq_getElem hk]
  show hasI s (((lst s)[k] : Nat) : Int) = true
  rw [hasI_nat]
  exact mem_lst.1 (List.getElem_mem hk)
theorem own_slice {B : Nat} {v : Value} {l : List Int} {w : World} (h : Own B v l w) {n : Nat} (hn : l.length = n) : ∃ a cap, v = .slice a n cap ∧ Own B (.slice a n cap) l w := by
  subst hn
  have h0 := h
  obtain ⟨h1, ⟨rfl, h2⟩ | ⟨g, cap, cur, rfl, r⟩⟩ := h
  · exact ⟨none, 0, by rw [h2], by rw [h2]; exact h0⟩
  · exact ⟨_, cap, rfl, h0⟩
/-- What is told of the next one from a number on. -/
def dif (s : Nat → Nat) (m : Nat) : Nat → Nat := lessS s (belowS m)
theorem has_dif (s : Nat → Nat) (m n : Nat) : has (dif s (min m 1024)) n = (has s n && decide (m ≤ n)) := by
  unfold dif
  rw [has_less (below_word _), has_below]
  cases h : has s n with
  | false => simp
  | true =>
    have : n < 1024 := by unfold has at h; simp at h; exact h.1
    rw [Bool.eq_iff_iff]; simp; omega
theorem dif_none {s : Nat → Nat} (hs : Word s) {m : Nat} (h : nx (lst s) m = none) : eqB (dif s (min m 1024)) zeroS = true := by
  rw [eqB_iff]
  intro i hi
  refine ext (less_word hs) zero_word (fun n hn => ?_) hi
  have := has_dif s m n
  unfold dif at this
  rw [this, has_zero]
  cases e : has s n with
  | false => rfl
  | true =>
    unfold nx at h
    rw [List.find?_eq_none] at h
    have := h n (mem_lst.2 e)
    simp at this ⊢; exact this
theorem dif_some {s : Nat → Nat} (hs : Word s) {m x : Nat} (h : nx (lst s) m = some x) : eqB (dif s (min m 1024)) zeroS = false := by
  obtain ⟨h1, h2, _⟩ := nx_spec (lst_rising s) h
  cases e : eqB (dif s (min m 1024)) zeroS with
  | false => rfl
  | true =>
    exfalso
    have he := (eqB_iff _ _).1 e
    have hx := has_dif s m x
    rw [mem_lst.1 h1] at hx
    have hlt := lst_lt h1
    have : has (dif s (min m 1024)) x = false := by
      unfold has
      rw [he _ (by omega)]
      simp [zeroS]
    rw [this] at hx
    simp at hx
    omega
theorem dif_least {s : Nat → Nat} (hs : Word s) {m x : Nat} (h : nx (lst s) m = some x) : eqB (lessS (andS s (belowS (min x 1024))) (belowS (min m 1024))) zeroS = true := by
  obtain ⟨h1, h2, h3⟩ := nx_spec (lst_rising s) h
  rw [eqB_iff]
  intro i hi
  refine ext (less_word (and_word hs)) zero_word (fun n hn => ?_) hi
  rw [has_less (below_word _), has_and, has_below, has_below, has_zero]
  cases e : has s n with
  | false => rfl
  | true =>
    have := h3 n (mem_lst.2 e)
    simp
    omega
theorem far (a1 : Option Addr) (n1 c1 : Nat) (from0 : Int) (h : 200 < n1) (w : World) (hT : Tab w) : Calls Tryd.prog 4 #[.slice a1 n1 c1, .int .i64 from0] w fun e w' => e = .returned (.bool true) ∧ Below w.heap.size w w' := by
  have hb : big 1 (fun i => (([(a1, n1, c1)] : List (Option Addr × Nat × Nat)).getD i (none, 0, 0)).2.1) = true := by
    exact big_yes (k := 0) (by decide) h
  have HB := Lib.hid hb
  clear hb h
  have hW := Below.refl w.heap.size w
  go_enter Tryd.func4, Tryd.ntmps4
  go_wp2_with (first
    | (go_at_call 10; refine (worksC _ hT).mono ?_; rintro e w1 ⟨rfl, hb⟩; replace hT := hT.on hb; replace hW := hW.trans (hb.mono hW.size); clear hb)
    | (go_at_call 18; refine (large_lit [(a1, n1, c1)] _ rfl 1 rfl (by decide) true HB.out _).mono ?_; rintro e w1 ⟨rfl, hb⟩; replace hT := (hT.alloc _).on hb; replace hW := (hW.alloc hW.size _).trans (hb.mono (hW.alloc hW.size _).size); clear hb))
  go_ret
  exact ⟨rfl, hW⟩
set_option maxHeartbeats 16000000 in
theorem near (a1 : Option Addr) (n1 c1 : Nat) (from0 : Int) (la : List Int) (h1 : n1 ≤ 200) (w : World) (hT : Tab w) (va : Rd (.slice a1 n1 c1) la w) : Calls Tryd.prog 4 #[.slice a1 n1 c1, .int .i64 from0] w fun e w' => e = .returned (.bool true) ∧ Below w.heap.size w w' := by
  have hb : big 1 (fun i => (([(a1, n1, c1)] : List (Option Addr × Nat × Nat)).getD i (none, 0, 0)).2.1) = false := by
    refine big_no fun j hj => ?_
    obtain rfl : j = 0 := by omega
    exact h1
  have HB := Lib.hid hb
  clear hb
  have hW := Below.refl w.heap.size w
  have hw0 := hT.pos
  have wa := ofS_word la
  have hlen := of_len la
  have oa := fun v w h => ofAt v la (ofS la) (SameS.refl _) w h
  have OA := Lib.hid oa
  clear oa
  generalize ofS la = S at *
  have hl2 : (lst S).length ≤ 200 := by
    obtain ⟨_, _, hv, _, _⟩ := va
    injection hv with _ hv2 _
    omega
  have HL := Lib.hid hl2
  have hn0 : nx (lst S) (0 : Int).toNat = (lst S)[0]? := nx_head _
  have H0 := Lib.hid hn0
  clear hn0 hlen hl2 h1
  go_enter Tryd.func4, Tryd.ntmps4
  go_wp2_with (first
    | (go_at_call 10; refine (worksC _ hT).mono ?_; rintro e w1 ⟨rfl, hb⟩; replace hT := hT.on hb; replace va := va.on hb; replace hW := hW.trans (hb.mono hW.size); clear hb)
    | (go_at_call 18; refine (large_lit [(a1, n1, c1)] _ rfl 1 rfl (by decide) false HB.out _).mono ?_; rintro e w1 ⟨rfl, hb⟩; replace va := (va.on ((Below.refl _ _).alloc (Nat.le_refl _) _)).on hb; replace hT := (hT.alloc _).on hb; replace hW := (hW.alloc hW.size _).trans (hb.mono (hW.alloc hW.size _).size); clear hb))
  refine (OA.out _ _ va).mono ?_
  rintro e w4 ⟨rfl, hb⟩
  replace hT := hT.on hb; replace hW := hW.trans (hb.mono hW.size); clear hb va
  go_wp2_with (first
    | (refine al rfl rfl ?_; intro g w3 hz hb hgz; replace hgz := Nat.le_trans hW.size hgz; replace hT := hT.on hb; replace hW := hW.trans (hb.mono hW.size); clear hb)
    | (refine stN _ _ rfl rfl rfl _ rfl S rfl zeroS hz ?_; intro w5 hA hu; replace hT := tab_upd hT hu (Nat.lt_of_lt_of_le hw0 hgz); replace hW := hu.below hW hgz; clear hz hu)
    | (refine ld _ rfl rfl _ rfl S hA ?_)
    | (go_at_call 12; refine (nextP S wa 0 _ H0.out _ hT).mono ?_; rintro e w6 ⟨rfl, hb⟩; replace hT := hT.on hb; replace hA := hA.on hb; replace hW := hW.trans (hb.mono hW.size); clear hb))
  have hgB : g < w6.heap.size := hA.lt
  go_loopg [6, 7, 8, 9] ((lst S).length) (fun q o n b c wr => ∃ (k : Nat) (a : Option Addr) (cap : Nat), k + q = (lst S).length ∧ o = .slice a k cap ∧ Own w6.heap.size (.slice a k cap) ((lstI S).take k) wr ∧ n = .int .i64 (nI ((lst S)[k]?)) ∧ b = .bool (nB ((lst S)[k]?)) ∧ c = .int .i64 (k : Int) ∧ Row g S wr ∧ Tab wr ∧ w6.heap.size ≤ wr.heap.size ∧ Below w.heap.size w wr)
  case atStart => exact ⟨0, none, 0, by omega, rfl, Own.nil _ _, rfl, rfl, rfl, hA, hT, Nat.le_refl _, hW⟩
  case round =>
    have hww := hW.size
    clear hA hT hW
    obtain ⟨k, a, cap, hk, rfl, hown, rfl, rfl, rfl, hA, hT, hz1, hW⟩ := hrel
    have hk200 : k ≤ 200 := by have := HL.out; omega
    by_cases hlt : k < (lst S).length
    · have hbt := at_some hlt
      have hnx := nI_next S hlt
      have htk := lstI_take S hlt
      obtain ⟨hx0, hx1⟩ := nI_bound S hlt
      have hlk : ((lstI S).take k).length = k := by rw [List.length_take, lstI_len]; omega
      have hln : ((lstI S).take k).length ≤ 1099511627776 := by omega
      have hk1 : k + 1 + (gk - 1) = (lst S).length := by omega
      have hgk : gk - 1 < gk := by omega
      have hhas := has_at S hlt
      have hrd := hown.rd hln
      have hprev : ∀ j, j + 1 = k → nI ((lst S)[j]?) < nI ((lst S)[k]?) := fun j hj => by subst hj; exact last_lt S hlt
      have hat : ∀ j, j + 1 = k → ((lstI S).take k).getD j 0 = nI ((lst S)[j]?) := fun j hj => take_at S (by omega) (by omega)
      have HN := Lib.hid hnx
      have HT2 := Lib.hid htk
      have HBt := Lib.hid hbt
      have HP := Lib.hid hprev
      have HAt := Lib.hid hat
      have HK := Lib.hid hlk
      have HH := Lib.hid (hasAt S wa _ _ hhas)
      clear hnx htk hlt hk hbt hprev hat hhas hlk
      rw [HBt.out] at *
      generalize nI ((lst S)[k]?) = x at *
      generalize (lstI S).take k = lk at *
      rcases Nat.eq_zero_or_pos k with hk0 | hpos
      · have hb0 : decide (0 < (k : Int)) = false := by simp; omega
        have hb1 : decide (0 < k) = false := by simp; omega
        clear hk0
        go_wp2_with (first
          | (refine ld _ rfl rfl _ rfl S hA ?_)
          | (go_at_call 15; refine (HH.out _).mono ?_; rintro e w8 ⟨rfl, hb⟩; replace hT := hT.on hb; replace hA := hA.on hb; replace hW := hW.trans (hb.mono hW.size); replace hz1 := Nat.le_trans hz1 hb.size; replace hown := hown.on hb; clear hb)
          | (at_builtin; refine app1 _ _ rfl rfl w6.heap.size _ lk rfl (hown.on ((Below.refl _ _).alloc (Nat.le_refl _) _)) _ rfl x (by simp [go_sem]) hln (Nat.le_trans hz1 (by simp)) ?_; intro v2 w9 hown2 hb2; replace hW := (hW.alloc hW.size _).trans (hb2.mono hww); replace hA : Row g S w9 := (hb2.block g hgB).trans (hA.alloc _); replace hT := (hT.alloc _).below hb2 (by omega); replace hz1 := Nat.le_trans (Nat.le_trans hz1 (by simp)) hb2.size; clear hb2 hown)
          | (go_at_call 12; refine (nextP S wa (x + 1) _ HN.out _ hT).mono ?_; rintro e w10 ⟨rfl, hb⟩; replace hT := hT.on hb; replace hA := hA.on hb; replace hW := hW.trans (hb.mono hW.size); replace hz1 := Nat.le_trans hz1 hb.size; replace hown2 := hown2.on hb; clear hb))
        obtain ⟨a', cap', rfl, hown3⟩ := own_slice hown2 (n := k + 1) (by rw [List.length_append, HK.out]; rfl)
        go_roundg (gk - 1)
        case measure => exact hgk
        case rel => exact ⟨k + 1, a', cap', hk1, rfl, HT2.out ▸ hown3, rfl, rfl, by go_num, hA, hT, hz1, hW⟩
      · obtain ⟨j, hj⟩ : ∃ j : Nat, j + 1 = k := ⟨k - 1, by omega⟩
        have hb0 : decide (0 < (k : Int)) = true := by simp; omega
        have hb1 : decide (0 < k) = true := by simp; omega
        obtain ⟨aq, cq, hv, _, hsl⟩ := hrd
        injection hv with hv1 hv2 hv3
        subst hv1
        clear hv2 hv3
        obtain ⟨b, off, rfl, hc⟩ := hsl (by rw [HK.out]; omega)
        have q := hc j (by rw [HK.out]; omega)
        rw [HAt.out j hj] at q
        have hxy := HP.out j hj
        have hs1 : (k : Int) - 1 = (j : Int) := by omega
        have hjz : (0 : Int) ≤ (j : Int) := by omega
        have hjk : (j : Int) < (k : Int) := by omega
        generalize nI ((lst S)[j]?) = y at *
        have hle : decide (x ≤ y) = false := by simp; omega
        clear hc hj hpos hxy
        go_wp2_with (first
          | (refine ld _ rfl rfl _ rfl S hA ?_)
          | (go_at_call 15; refine (HH.out _).mono ?_; rintro e w8 ⟨rfl, hb⟩; replace hT := hT.on hb; replace hA := hA.on hb; replace hW := hW.trans (hb.mono hW.size); replace hz1 := Nat.le_trans hz1 hb.size; replace hown := hown.on hb; clear hb)
          | (at_builtin; refine app1 _ _ rfl rfl w6.heap.size _ lk rfl (hown.on ((Below.refl _ _).alloc (Nat.le_refl _) _)) _ rfl x (by simp [go_sem]) hln (Nat.le_trans hz1 (by simp)) ?_; intro v2 w9 hown2 hb2; replace hW := (hW.alloc hW.size _).trans (hb2.mono hww); replace hA : Row g S w9 := (hb2.block g hgB).trans (hA.alloc _); replace hT := (hT.alloc _).below hb2 (by omega); replace hz1 := Nat.le_trans (Nat.le_trans hz1 (by simp)) hb2.size; clear hb2 hown)
          | (go_at_call 12; refine (nextP S wa (x + 1) _ HN.out _ hT).mono ?_; rintro e w10 ⟨rfl, hb⟩; replace hT := hT.on hb; replace hA := hA.on hb; replace hW := hW.trans (hb.mono hW.size); replace hz1 := Nat.le_trans hz1 hb.size; replace hown2 := hown2.on hb; clear hb))
        obtain ⟨a', cap', rfl, hown3⟩ := own_slice hown2 (n := k + 1) (by rw [List.length_append, HK.out]; rfl)
        go_roundg (gk - 1)
        case measure => exact hgk
        case rel => exact ⟨k + 1, a', cap', hk1, rfl, HT2.out ▸ hown3, rfl, rfl, by go_num, hA, hT, hz1, hW⟩
    · obtain rfl : k = (lst S).length := by omega
      have hbf := at_none hlt
      have hke : (lstI S).take (lst S).length = lstI S := List.take_of_length_le (by rw [lstI_len]; omega)
      rw [hke] at hown
      have hmet : Rd (.slice a (lst S).length cap) (lstI S) wr := all_rd hown
      have HBt := Lib.hid hbf
      have hl3 : ((lst S).length : Int) < 300 := by omega
      clear hbf hke hlt hk hown
      rw [HBt.out] at *
      generalize nI ((lst S)[(lst S).length]?) = y7 at *
      go_upto_region 13 with fail
      go_cut [84] (fun v wq => v = .bool false ∧ Row g S wq ∧ Tab wq ∧ Below w.heap.size w wq)
      case first =>
        refine wp_region_held_drew (S := fun W => Row g S W) (by kernel_rfl) hA (fun _ => ?_)
        replace hA : Row g S wr.drew := hA
        replace hW : Below w.heap.size w wr.drew := hW.drew
        replace hT : Tab wr.drew := hT.on ((Below.refl _ _).drew)
        replace hmet : Rd (.slice a (lst S).length cap) (lstI S) wr.drew := hmet.on ((Below.refl _ _).drew)
        have heq : (!eqB S S) = false := by rw [(eqB_iff S S).2 (SameS.refl _)]; rfl
        have HEQ := Lib.hid heq
        clear heq
        generalize wr.drew = wb at *
        refine takeD (i := 0) (v := ?_) (some 64) rfl rfl (by kernel_rfl) (by kernel_rfl) (by kernel_rfl) (fun _ _ _ h => h) (yAll (by rfl) ?_) hA ?_
        rotate_left
        · intro w; go_simp; try with_reducible rfl
        (simp only [Act.put, List.setIfInBounds_toArray, List.set_cons_succ, List.set_cons_zero])
        refine takeD (i := 1) (v := ?_) (some 65) rfl rfl (by kernel_rfl) (by kernel_rfl) (by kernel_rfl) (fun _ _ _ h => h) (yAll (by rfl) ?_) hA ?_
        rotate_left
        · intro w; go_simp; try with_reducible rfl
        (simp only [Act.put, List.setIfInBounds_toArray, List.set_cons_succ, List.set_cons_zero])
        refine takeD (i := 2) (v := ?_) (some 66) rfl rfl (by kernel_rfl) (by kernel_rfl) (by kernel_rfl) (fun _ _ _ h => h) (yAll (by rfl) ?_) hA ?_
        rotate_left
        · intro w; go_simp; try with_reducible rfl
        (simp only [Act.put, List.setIfInBounds_toArray, List.set_cons_succ, List.set_cons_zero])
        refine takeD (i := 3) (some 67) rfl rfl (by kernel_rfl) (by kernel_rfl) (by kernel_rfl) (fun _ _ _ h => h) (yLd _ rfl (by rfl) g rfl S (fun _ h => h)) hA ?_
        (simp only [Act.put, List.setIfInBounds_toArray, List.set_cons_succ, List.set_cons_zero])
        refine wpAnyH_ready (rs := [4]) (by kernel_rfl) (by simp) ?_
        refine AllReadyH.cons rfl (fun K hK => ?_) ?_
        · go_simp
          refine (allC S wa _ hT).mono ?_
          rintro e w34 ⟨va, rfl, hall, hb⟩
          have hva := all_rd hall
          replace hT := hT.on hb; replace hA := hA.on hb; replace hmet := hmet.on hb; replace hW := hW.trans (hb.mono hW.size)
          clear hb hall
          go_wp2_with fail
          refine hK.out _ _ hA (fun _ => ?_)
          clear hK K
          refine wpAnyH_ready (rs := [5]) (by kernel_rfl) (by simp) ?_
          refine AllReadyH.cons rfl (fun K hK => ?_) ?_
          · go_simp
            refine (intsAt _ _ (lstI S) (lstI S) true (by simp) _ hmet hva).mono ?_
            rintro e w35 ⟨rfl, hb⟩
            replace hT := hT.on hb; replace hA := hA.on hb; replace hmet := hmet.on hb; replace hW := hW.trans (hb.mono hW.size)
            clear hb hva
            go_wp2_with fail
            refine hK.out _ _ hA (fun _ => ?_)
            clear hK K
            refine takeD (i := 6) (v := ?_) (some 70) rfl rfl (by kernel_rfl) (by kernel_rfl) (by kernel_rfl) (fun _ _ _ h => h) (yAll (by rfl) ?_) hA ?_
            rotate_left
            · intro w; go_simp; try with_reducible rfl
            (simp only [Act.put, List.setIfInBounds_toArray, List.set_cons_succ, List.set_cons_zero])
            refine takeD (i := 7) (v := ?_) (some 71) rfl rfl (by kernel_rfl) (by kernel_rfl) (by kernel_rfl) (fun _ _ _ h => h) (yAll (by rfl) ?_) hA ?_
            rotate_left
            · intro w; go_simp; try with_reducible rfl
            (simp only [Act.put, List.setIfInBounds_toArray, List.set_cons_succ, List.set_cons_zero])
            refine takeD (i := 8) (v := ?_) (some 72) rfl rfl (by kernel_rfl) (by kernel_rfl) (by kernel_rfl) (fun _ _ _ h => h) (yAll (by rfl) ?_) hA ?_
            rotate_left
            · intro w; go_simp; try with_reducible rfl
            (simp only [Act.put, List.setIfInBounds_toArray, List.set_cons_succ, List.set_cons_zero])
            refine takeD (i := 9) (v := ?_) (some 73) rfl rfl (by kernel_rfl) (by kernel_rfl) (by kernel_rfl) (fun _ _ _ h => h) (yAll (by rfl) ?_) hA ?_
            rotate_left
            · intro w; go_simp; try with_reducible rfl
            (simp only [Act.put, List.setIfInBounds_toArray, List.set_cons_succ, List.set_cons_zero])
            refine takeD (i := 11) (some 75) rfl rfl (by kernel_rfl) (by kernel_rfl) (by kernel_rfl) (fun _ _ _ h => h) (yLd _ rfl (by rfl) g rfl S (fun _ h => h)) hA ?_
            (simp only [Act.put, List.setIfInBounds_toArray, List.set_cons_succ, List.set_cons_zero])
            refine wpAnyH_ready (rs := [10]) (by kernel_rfl) (by simp) ?_
            refine AllReadyH.cons rfl (fun K hK => ?_) ?_
            · go_simp
              refine (ofAt _ (lstI S) S (of_all wa) _ hmet).mono ?_
              rintro e w40 ⟨rfl, hb⟩
              replace hT := hT.on hb; replace hA := hA.on hb; replace hmet := hmet.on hb; replace hW := hW.trans (hb.mono hW.size)
              clear hb
              go_wp2_with fail
              refine hK.out _ _ hA (fun _ => ?_)
              clear hK K
              refine takeD (i := 12) (some 76) rfl rfl (by kernel_rfl) (by kernel_rfl) (by kernel_rfl) (fun _ _ _ h => h) (yNe _ _ rfl (by rfl) S S rfl rfl false HEQ.out) hA ?_
              (simp only [Act.put, List.setIfInBounds_toArray, List.set_cons_succ, List.set_cons_zero])
              refine takeD (i := 13) (v := ?_) (some 77) rfl rfl (by kernel_rfl) (by kernel_rfl) (by kernel_rfl) (fun _ _ _ h => h) (yAll (by rfl) ?_) hA ?_
              rotate_left
              · intro w; go_simp; try with_reducible rfl
              (simp only [Act.put, List.setIfInBounds_toArray, List.set_cons_succ, List.set_cons_zero])
              refine takeD (i := 14) (v := ?_) (some 78) rfl rfl (by kernel_rfl) (by kernel_rfl) (by kernel_rfl) (fun _ _ _ h => h) (yAll (by rfl) ?_) hA ?_
              rotate_left
              · intro w; go_simp; try with_reducible rfl
              (simp only [Act.put, List.setIfInBounds_toArray, List.set_cons_succ, List.set_cons_zero])
              refine takeD (i := 15) (v := ?_) (some 79) rfl rfl (by kernel_rfl) (by kernel_rfl) (by kernel_rfl) (fun _ _ _ h => h) (yAll (by rfl) ?_) hA ?_
              rotate_left
              · intro w; go_simp; try with_reducible rfl
              (simp only [Act.put, List.setIfInBounds_toArray, List.set_cons_succ, List.set_cons_zero])
              refine takeD (i := 16) (v := ?_) (some 80) rfl rfl (by kernel_rfl) (by kernel_rfl) (by kernel_rfl) (fun _ _ _ h => h) (yAll (by rfl) ?_) hA ?_
              rotate_left
              · intro w; go_simp; try with_reducible rfl
              (simp only [Act.put, List.setIfInBounds_toArray, List.set_cons_succ, List.set_cons_zero])
              refine takeD (i := 17) (some 81) rfl rfl (by kernel_rfl) (by kernel_rfl) (by kernel_rfl) (fun _ _ _ h => h) (yLd _ rfl (by rfl) g rfl S (fun _ h => h)) hA ?_
              (simp only [Act.put, List.setIfInBounds_toArray, List.set_cons_succ, List.set_cons_zero])
              refine wpAnyH_ready (rs := [18]) (by kernel_rfl) (by simp) ?_
              refine AllReadyH.cons rfl (fun K hK => ?_) ?_
              · go_simp
                refine (lenAt S wa _ rfl _).mono ?_
                rintro e w48 ⟨rfl, hb⟩
                replace hT := hT.on hb; replace hA := hA.on hb; replace hmet := hmet.on hb; replace hW := hW.trans (hb.mono hW.size)
                clear hb
                go_wp2_with fail
                refine hK.out _ _ hA (fun _ => ?_)
                clear hK K
                refine takeD (i := 19) (v := ?_) (some 83) rfl rfl (by kernel_rfl) (by kernel_rfl) (by kernel_rfl) (fun _ _ _ h => h) (yAll (by rfl) ?_) hA ?_
                rotate_left
                · intro w; go_simp; try with_reducible rfl
                (simp only [Act.put, List.setIfInBounds_toArray, List.set_cons_succ, List.set_cons_zero])
                refine takeD (i := 20) (v := ?_) (some 84) rfl rfl (by kernel_rfl) (by kernel_rfl) (by kernel_rfl) (fun _ _ _ h => h) (yAll (by rfl) ?_) hA ?_
                rotate_left
                · intro w; go_simp; try with_reducible rfl
                (simp only [Act.put, List.setIfInBounds_toArray, List.set_cons_succ, List.set_cons_zero])
                refine wpAnyH_done (by kernel_rfl) ?_ _
                (try go_simp)
                go_wp2_with fail
                go_meet
                exact ⟨rfl, hA, hT, hW⟩
              exact AllReadyH.nil
            exact AllReadyH.nil
          exact AllReadyH.nil
        exact AllReadyH.nil
      case rest =>
      clear hA hT hW hmet
      obtain ⟨rfl, hA, hT, hW⟩ := hcut
      cases hnx : nx (lst S) from0.toNat with
      | none =>
        have HX := Lib.hid hnx
        have HD := Lib.hid (show (!eqB (lessS S (belowS (min from0.toNat 1024))) zeroS) = false by have h9 := dif_none wa hnx; unfold dif at h9; rw [h9]; rfl)
        clear hnx
        go_wp2_with (first
          | (refine ld _ rfl rfl _ rfl S hA ?_)
          | (go_at_call 12; refine (nextAt S wa from0 _ HX.out 0 false rfl rfl _ hT).mono ?_; rintro e w21 ⟨rfl, hb⟩; replace hT := hT.on hb; replace hA := hA.on hb; replace hW := hW.trans (hb.mono hW.size); clear hb))
        refine wp_region_held_drew (S := fun W => Row g S W) (by kernel_rfl) hA (fun _ => ?_)
        replace hA : Row g S w21.drew := hA
        replace hW : Below w.heap.size w w21.drew := hW.drew
        generalize w21.drew = wd at *
        refine takeD (i := 0) (v := ?_) (some 91) rfl rfl (by kernel_rfl) (by kernel_rfl) (by kernel_rfl) (fun _ _ _ h => h) (yAll (by rfl) ?_) hA ?_
        rotate_left
        · intro w; go_simp; try with_reducible rfl
        (simp only [Act.put, List.setIfInBounds_toArray, List.set_cons_succ, List.set_cons_zero])
        refine takeD (i := 1) (some 92) rfl rfl (by kernel_rfl) (by kernel_rfl) (by kernel_rfl) (fun _ _ _ h => h) (yLd _ rfl (by rfl) g rfl S (fun _ h => h)) hA ?_
        (simp only [Act.put, List.setIfInBounds_toArray, List.set_cons_succ, List.set_cons_zero])
        refine takeD (i := 2) (v := ?_) (some 93) rfl rfl (by kernel_rfl) (by kernel_rfl) (by kernel_rfl) (fun _ _ _ h => h) (yAll (by rfl) ?_) hA ?_
        rotate_left
        · intro w; go_simp; try with_reducible rfl
        (simp only [Act.put, List.setIfInBounds_toArray, List.set_cons_succ, List.set_cons_zero])
        refine takeD (i := 5) (some 96) rfl rfl (by kernel_rfl) (by kernel_rfl) (by kernel_rfl) (fun _ _ _ h => h) (yBld rfl (by rfl)) hA ?_
        (simp only [Act.put, List.setIfInBounds_toArray, List.set_cons_succ, List.set_cons_zero])
        refine wpAnyH_ready (rs := [3]) (by kernel_rfl) (by simp) ?_
        refine AllReadyH.cons rfl (fun K hK => ?_) ?_
        · go_simp
          refine (belowC from0 _).mono ?_
          rintro e w63 ⟨rfl, hb⟩
          replace hA := hA.on hb; replace hW := hW.trans (hb.mono hW.size)
          clear hb
          go_wp2_with fail
          refine hK.out _ _ hA (fun _ => ?_)
          clear hK K
          refine wpAnyH_ready (rs := [4]) (by kernel_rfl) (by simp) ?_
          refine AllReadyH.cons rfl (fun K hK => ?_) ?_
          · go_simp
            refine (lessSetC S (belowS (min from0.toNat 1024)) wa (below_word _) _).mono ?_
            rintro e w64 ⟨rfl, hb⟩
            replace hA := hA.on hb; replace hW := hW.trans (hb.mono hW.size)
            clear hb
            go_wp2_with fail
            refine hK.out _ _ hA (fun _ => ?_)
            clear hK K
            refine takeD (i := 6) (some 97) rfl rfl (by kernel_rfl) (by kernel_rfl) (by kernel_rfl) (fun _ _ _ h => h) (yNe _ _ rfl (by rfl) (lessS S (belowS (min from0.toNat 1024))) zeroS rfl rfl false HD.out) hA ?_
            (simp only [Act.put, List.setIfInBounds_toArray, List.set_cons_succ, List.set_cons_zero])
            refine takeD (i := 7) (v := ?_) (some 98) rfl rfl (by kernel_rfl) (by kernel_rfl) (by kernel_rfl) (fun _ _ _ h => h) (yAll (by rfl) ?_) hA ?_
            rotate_left
            · intro w; go_simp; try with_reducible rfl
            (simp only [Act.put, List.setIfInBounds_toArray, List.set_cons_succ, List.set_cons_zero])
            refine takeD (i := 8) (v := ?_) (some 99) rfl rfl (by kernel_rfl) (by kernel_rfl) (by kernel_rfl) (fun _ _ _ h => h) (yAll (by rfl) ?_) hA ?_
            rotate_left
            · intro w; go_simp; try with_reducible rfl
            (simp only [Act.put, List.setIfInBounds_toArray, List.set_cons_succ, List.set_cons_zero])
            refine takeD (i := 9) (v := ?_) (some 100) rfl rfl (by kernel_rfl) (by kernel_rfl) (by kernel_rfl) (fun _ _ _ h => h) (yAll (by rfl) ?_) hA ?_
            rotate_left
            · intro w; go_simp; try with_reducible rfl
            (simp only [Act.put, List.setIfInBounds_toArray, List.set_cons_succ, List.set_cons_zero])
            refine takeD (i := 10) (v := ?_) (some 101) rfl rfl (by kernel_rfl) (by kernel_rfl) (by kernel_rfl) (fun _ _ _ h => h) (yAll (by rfl) ?_) hA ?_
            rotate_left
            · intro w; go_simp; try with_reducible rfl
            (simp only [Act.put, List.setIfInBounds_toArray, List.set_cons_succ, List.set_cons_zero])
            refine takeD (i := 11) (v := ?_) (some 102) rfl rfl (by kernel_rfl) (by kernel_rfl) (by kernel_rfl) (fun _ _ _ h => h) (yAll (by rfl) ?_) hA ?_
            rotate_left
            · intro w; go_simp; try with_reducible rfl
            (simp only [Act.put, List.setIfInBounds_toArray, List.set_cons_succ, List.set_cons_zero])
            refine takeD (i := 12) (some 103) rfl rfl (by kernel_rfl) (by kernel_rfl) (by kernel_rfl) (fun _ _ _ h => h) (ySkip (by rfl)) hA ?_
            (simp only [Act.put, List.setIfInBounds_toArray, List.set_cons_succ, List.set_cons_zero])
            refine takeD (i := 13) (some 104) rfl rfl (by kernel_rfl) (by kernel_rfl) (by kernel_rfl) (fun _ _ _ h => h) (ySkip (by rfl)) hA ?_
            (simp only [Act.put, List.setIfInBounds_toArray, List.set_cons_succ, List.set_cons_zero])
            refine takeD (i := 14) (some 105) rfl rfl (by kernel_rfl) (by kernel_rfl) (by kernel_rfl) (fun _ _ _ h => h) (ySkip (by rfl)) hA ?_
            (simp only [Act.put, List.setIfInBounds_toArray, List.set_cons_succ, List.set_cons_zero])
            refine takeD (i := 15) (some 106) rfl rfl (by kernel_rfl) (by kernel_rfl) (by kernel_rfl) (fun _ _ _ h => h) (ySkip (by rfl)) hA ?_
            (simp only [Act.put, List.setIfInBounds_toArray, List.set_cons_succ, List.set_cons_zero])
            refine takeD (i := 16) (some 107) rfl rfl (by kernel_rfl) (by kernel_rfl) (by kernel_rfl) (fun _ _ _ h => h) (ySkip (by rfl)) hA ?_
            (simp only [Act.put, List.setIfInBounds_toArray, List.set_cons_succ, List.set_cons_zero])
            refine takeD (i := 17) (some 108) rfl rfl (by kernel_rfl) (by kernel_rfl) (by kernel_rfl) (fun _ _ _ h => h) (ySkip (by rfl)) hA ?_
            (simp only [Act.put, List.setIfInBounds_toArray, List.set_cons_succ, List.set_cons_zero])
            refine takeD (i := 18) (some 109) rfl rfl (by kernel_rfl) (by kernel_rfl) (by kernel_rfl) (fun _ _ _ h => h) (ySkip (by rfl)) hA ?_
            (simp only [Act.put, List.setIfInBounds_toArray, List.set_cons_succ, List.set_cons_zero])
            refine takeD (i := 19) (some 110) rfl rfl (by kernel_rfl) (by kernel_rfl) (by kernel_rfl) (fun _ _ _ h => h) (ySkip (by rfl)) hA ?_
            (simp only [Act.put, List.setIfInBounds_toArray, List.set_cons_succ, List.set_cons_zero])
            refine takeD (i := 20) (some 111) rfl rfl (by kernel_rfl) (by kernel_rfl) (by kernel_rfl) (fun _ _ _ h => h) (ySkip (by rfl)) hA ?_
            (simp only [Act.put, List.setIfInBounds_toArray, List.set_cons_succ, List.set_cons_zero])
            refine takeD (i := 21) (some 112) rfl rfl (by kernel_rfl) (by kernel_rfl) (by kernel_rfl) (fun _ _ _ h => h) (ySkip (by rfl)) hA ?_
            (simp only [Act.put, List.setIfInBounds_toArray, List.set_cons_succ, List.set_cons_zero])
            refine takeD (i := 22) (some 113) rfl rfl (by kernel_rfl) (by kernel_rfl) (by kernel_rfl) (fun _ _ _ h => h) (ySkip (by rfl)) hA ?_
            (simp only [Act.put, List.setIfInBounds_toArray, List.set_cons_succ, List.set_cons_zero])
            refine takeD (i := 23) (some 114) rfl rfl (by kernel_rfl) (by kernel_rfl) (by kernel_rfl) (fun _ _ _ h => h) (ySkip (by rfl)) hA ?_
            (simp only [Act.put, List.setIfInBounds_toArray, List.set_cons_succ, List.set_cons_zero])
            refine takeD (i := 24) (some 115) rfl rfl (by kernel_rfl) (by kernel_rfl) (by kernel_rfl) (fun _ _ _ h => h) (ySkip (by rfl)) hA ?_
            (simp only [Act.put, List.setIfInBounds_toArray, List.set_cons_succ, List.set_cons_zero])
            refine takeD (i := 25) (some 116) rfl rfl (by kernel_rfl) (by kernel_rfl) (by kernel_rfl) (fun _ _ _ h => h) (ySkip (by rfl)) hA ?_
            (simp only [Act.put, List.setIfInBounds_toArray, List.set_cons_succ, List.set_cons_zero])
            refine takeD (i := 26) (some 117) rfl rfl (by kernel_rfl) (by kernel_rfl) (by kernel_rfl) (fun _ _ _ h => h) (ySkip (by rfl)) hA ?_
            (simp only [Act.put, List.setIfInBounds_toArray, List.set_cons_succ, List.set_cons_zero])
            refine takeD (i := 27) (some 118) rfl rfl (by kernel_rfl) (by kernel_rfl) (by kernel_rfl) (fun _ _ _ h => h) (ySkip (by rfl)) hA ?_
            (simp only [Act.put, List.setIfInBounds_toArray, List.set_cons_succ, List.set_cons_zero])
            refine takeD (i := 28) (some 119) rfl rfl (by kernel_rfl) (by kernel_rfl) (by kernel_rfl) (fun _ _ _ h => h) (ySkip (by rfl)) hA ?_
            (simp only [Act.put, List.setIfInBounds_toArray, List.set_cons_succ, List.set_cons_zero])
            refine takeD (i := 29) (some 120) rfl rfl (by kernel_rfl) (by kernel_rfl) (by kernel_rfl) (fun _ _ _ h => h) (ySkip (by rfl)) hA ?_
            (simp only [Act.put, List.setIfInBounds_toArray, List.set_cons_succ, List.set_cons_zero])
            refine takeD (i := 30) (some 121) rfl rfl (by kernel_rfl) (by kernel_rfl) (by kernel_rfl) (fun _ _ _ h => h) (ySkip (by rfl)) hA ?_
            (simp only [Act.put, List.setIfInBounds_toArray, List.set_cons_succ, List.set_cons_zero])
            refine takeD (i := 31) (v := ?_) (some 122) rfl rfl (by kernel_rfl) (by kernel_rfl) (by kernel_rfl) (fun _ _ _ h => h) (yAll (by rfl) ?_) hA ?_
            rotate_left
            · intro w; go_simp; try with_reducible rfl
            (simp only [Act.put, List.setIfInBounds_toArray, List.set_cons_succ, List.set_cons_zero])
            refine takeD (i := 32) (v := ?_) (some 123) rfl rfl (by kernel_rfl) (by kernel_rfl) (by kernel_rfl) (fun _ _ _ h => h) (yAll (by rfl) ?_) hA ?_
            rotate_left
            · intro w; go_simp; try with_reducible rfl
            (simp only [Act.put, List.setIfInBounds_toArray, List.set_cons_succ, List.set_cons_zero])
            refine takeD (i := 33) (v := ?_) (some 4) rfl rfl (by kernel_rfl) (by kernel_rfl) (by kernel_rfl) (fun _ _ _ h => h) (yAll (by rfl) ?_) hA ?_
            rotate_left
            · intro w; go_simp; try with_reducible rfl
            (simp only [Act.put, List.setIfInBounds_toArray, List.set_cons_succ, List.set_cons_zero])
            refine wpAnyH_done (by kernel_rfl) ?_ _
            (try go_simp)
            go_wp2_with fail
            go_ret
            exact ⟨rfl, hW⟩
          exact AllReadyH.nil
        exact AllReadyH.nil
      | some m =>
        have HX := Lib.hid hnx
        have HD := Lib.hid (show (!eqB (lessS S (belowS (min from0.toNat 1024))) zeroS) = true by have h9 := dif_some wa hnx; unfold dif at h9; rw [h9]; rfl)
        have HE := Lib.hid (dif_least wa hnx)
        have hsp := nx_spec (lst_rising S) hnx
        have hge : decide (from0 ≤ (m : Int)) = true := by simp; omega
        have HH := Lib.hid (hasAt S wa (m : Int) true (by rw [hasI_nat]; exact mem_lst.1 hsp.1))
        have HBm := Lib.hid (belowAt (m : Int) (belowS (min m 1024)) (fun _ _ => by rw [show min (m : Int).toNat 1024 = min m 1024 by omega]))
        clear hnx hsp
        go_wp2_with (first
          | (refine ld _ rfl rfl _ rfl S hA ?_)
          | (go_at_call 12; refine (nextAt S wa from0 _ HX.out (m : Int) true rfl rfl _ hT).mono ?_; rintro e w21 ⟨rfl, hb⟩; replace hT := hT.on hb; replace hA := hA.on hb; replace hW := hW.trans (hb.mono hW.size); clear hb))
        refine wp_region_held_drew (S := fun W => Row g S W) (by kernel_rfl) hA (fun _ => ?_)
        replace hA : Row g S w21.drew := hA
        replace hW : Below w.heap.size w w21.drew := hW.drew
        generalize w21.drew = wd at *
        refine takeD (i := 0) (v := ?_) (some 91) rfl rfl (by kernel_rfl) (by kernel_rfl) (by kernel_rfl) (fun _ _ _ h => h) (yAll (by rfl) ?_) hA ?_
        rotate_left
        · intro w; go_simp; try with_reducible rfl
        (simp only [Act.put, List.setIfInBounds_toArray, List.set_cons_succ, List.set_cons_zero])
        refine takeD (i := 1) (some 92) rfl rfl (by kernel_rfl) (by kernel_rfl) (by kernel_rfl) (fun _ _ _ h => h) (yLd _ rfl (by rfl) g rfl S (fun _ h => h)) hA ?_
        (simp only [Act.put, List.setIfInBounds_toArray, List.set_cons_succ, List.set_cons_zero])
        refine takeD (i := 2) (v := ?_) (some 93) rfl rfl (by kernel_rfl) (by kernel_rfl) (by kernel_rfl) (fun _ _ _ h => h) (yAll (by rfl) ?_) hA ?_
        rotate_left
        · intro w; go_simp; try with_reducible rfl
        (simp only [Act.put, List.setIfInBounds_toArray, List.set_cons_succ, List.set_cons_zero])
        refine takeD (i := 5) (some 96) rfl rfl (by kernel_rfl) (by kernel_rfl) (by kernel_rfl) (fun _ _ _ h => h) (yBld rfl (by rfl)) hA ?_
        (simp only [Act.put, List.setIfInBounds_toArray, List.set_cons_succ, List.set_cons_zero])
        refine wpAnyH_ready (rs := [3]) (by kernel_rfl) (by simp) ?_
        refine AllReadyH.cons rfl (fun K hK => ?_) ?_
        · go_simp
          refine (belowC from0 _).mono ?_
          rintro e w63 ⟨rfl, hb⟩
          replace hA := hA.on hb; replace hW := hW.trans (hb.mono hW.size)
          clear hb
          go_wp2_with fail
          refine hK.out _ _ hA (fun _ => ?_)
          clear hK K
          refine wpAnyH_ready (rs := [4]) (by kernel_rfl) (by simp) ?_
          refine AllReadyH.cons rfl (fun K hK => ?_) ?_
          · go_simp
            refine (lessSetC S (belowS (min from0.toNat 1024)) wa (below_word _) _).mono ?_
            rintro e w64 ⟨rfl, hb⟩
            replace hA := hA.on hb; replace hW := hW.trans (hb.mono hW.size)
            clear hb
            go_wp2_with fail
            refine hK.out _ _ hA (fun _ => ?_)
            clear hK K
            refine takeD (i := 6) (some 97) rfl rfl (by kernel_rfl) (by kernel_rfl) (by kernel_rfl) (fun _ _ _ h => h) (yNe _ _ rfl (by rfl) (lessS S (belowS (min from0.toNat 1024))) zeroS rfl rfl true HD.out) hA ?_
            (simp only [Act.put, List.setIfInBounds_toArray, List.set_cons_succ, List.set_cons_zero])
            refine takeD (i := 7) (v := ?_) (some 98) rfl rfl (by kernel_rfl) (by kernel_rfl) (by kernel_rfl) (fun _ _ _ h => h) (yAll (by rfl) ?_) hA ?_
            rotate_left
            · intro w; go_simp; try with_reducible rfl
            (simp only [Act.put, List.setIfInBounds_toArray, List.set_cons_succ, List.set_cons_zero])
            refine takeD (i := 8) (v := ?_) (some 99) rfl rfl (by kernel_rfl) (by kernel_rfl) (by kernel_rfl) (fun _ _ _ h => h) (yAll (by rfl) ?_) hA ?_
            rotate_left
            · intro w; go_simp; try with_reducible rfl
            (simp only [Act.put, List.setIfInBounds_toArray, List.set_cons_succ, List.set_cons_zero])
            refine takeD (i := 9) (v := ?_) (some 100) rfl rfl (by kernel_rfl) (by kernel_rfl) (by kernel_rfl) (fun _ _ _ h => h) (yAll (by rfl) ?_) hA ?_
            rotate_left
            · intro w; go_simp; try with_reducible rfl
            (simp only [Act.put, List.setIfInBounds_toArray, List.set_cons_succ, List.set_cons_zero])
            refine takeD (i := 10) (v := ?_) (some 101) rfl rfl (by kernel_rfl) (by kernel_rfl) (by kernel_rfl) (fun _ _ _ h => h) (yAll (by rfl) ?_) hA ?_
            rotate_left
            · intro w; go_simp; try with_reducible rfl
            (simp only [Act.put, List.setIfInBounds_toArray, List.set_cons_succ, List.set_cons_zero])
            refine takeD (i := 11) (v := ?_) (some 102) rfl rfl (by kernel_rfl) (by kernel_rfl) (by kernel_rfl) (fun _ _ _ h => h) (yAll (by rfl) ?_) hA ?_
            rotate_left
            · intro w; go_simp; try with_reducible rfl
            (simp only [Act.put, List.setIfInBounds_toArray, List.set_cons_succ, List.set_cons_zero])
            refine takeD (i := 12) (v := ?_) (some 103) rfl rfl (by kernel_rfl) (by kernel_rfl) (by kernel_rfl) (fun _ _ _ h => h) (yAll (by rfl) ?_) hA ?_
            rotate_left
            · intro w; go_simp; try with_reducible rfl
            (simp only [Act.put, List.setIfInBounds_toArray, List.set_cons_succ, List.set_cons_zero])
            refine takeD (i := 13) (v := ?_) (some 104) rfl rfl (by kernel_rfl) (by kernel_rfl) (by kernel_rfl) (fun _ _ _ h => h) (yAll (by rfl) ?_) hA ?_
            rotate_left
            · intro w; go_simp; try with_reducible rfl
            (simp only [Act.put, List.setIfInBounds_toArray, List.set_cons_succ, List.set_cons_zero])
            refine takeD (i := 14) (v := ?_) (some 105) rfl rfl (by kernel_rfl) (by kernel_rfl) (by kernel_rfl) (fun _ _ _ h => h) (yAll (by rfl) ?_) hA ?_
            rotate_left
            · intro w; go_simp; try with_reducible rfl
            (simp only [Act.put, List.setIfInBounds_toArray, List.set_cons_succ, List.set_cons_zero])
            refine takeD (i := 15) (v := ?_) (some 106) rfl rfl (by kernel_rfl) (by kernel_rfl) (by kernel_rfl) (fun _ _ _ h => h) (yAll (by rfl) ?_) hA ?_
            rotate_left
            · intro w; go_simp; try with_reducible rfl
            (simp only [Act.put, List.setIfInBounds_toArray, List.set_cons_succ, List.set_cons_zero])
            refine takeD (i := 16) (some 107) rfl rfl (by kernel_rfl) (by kernel_rfl) (by kernel_rfl) (fun _ _ _ h => h) (yLd _ rfl (by rfl) g rfl S (fun _ h => h)) hA ?_
            (simp only [Act.put, List.setIfInBounds_toArray, List.set_cons_succ, List.set_cons_zero])
            refine takeD (i := 17) (v := ?_) (some 108) rfl rfl (by kernel_rfl) (by kernel_rfl) (by kernel_rfl) (fun _ _ _ h => h) (yAll (by rfl) ?_) hA ?_
            rotate_left
            · intro w; go_simp; try with_reducible rfl
            (simp only [Act.put, List.setIfInBounds_toArray, List.set_cons_succ, List.set_cons_zero])
            refine wpAnyH_ready (rs := [18]) (by kernel_rfl) (by simp) ?_
            refine AllReadyH.cons rfl (fun K hK => ?_) ?_
            · go_simp
              refine (HH.out _).mono ?_
              rintro e w78 ⟨rfl, hb⟩
              replace hA := hA.on hb; replace hW := hW.trans (hb.mono hW.size)
              clear hb
              go_wp2_with fail
              refine hK.out _ _ hA (fun _ => ?_)
              clear hK K
              refine takeD (i := 19) (v := ?_) (some 110) rfl rfl (by kernel_rfl) (by kernel_rfl) (by kernel_rfl) (fun _ _ _ h => h) (yAll (by rfl) ?_) hA ?_
              rotate_left
              · intro w; go_simp; try with_reducible rfl
              (simp only [Act.put, List.setIfInBounds_toArray, List.set_cons_succ, List.set_cons_zero])
              refine takeD (i := 20) (v := ?_) (some 111) rfl rfl (by kernel_rfl) (by kernel_rfl) (by kernel_rfl) (fun _ _ _ h => h) (yAll (by rfl) ?_) hA ?_
              rotate_left
              · intro w; go_simp; try with_reducible rfl
              (simp only [Act.put, List.setIfInBounds_toArray, List.set_cons_succ, List.set_cons_zero])
              refine takeD (i := 21) (some 112) rfl rfl (by kernel_rfl) (by kernel_rfl) (by kernel_rfl) (fun _ _ _ h => h) (yLd _ rfl (by rfl) g rfl S (fun _ h => h)) hA ?_
              (simp only [Act.put, List.setIfInBounds_toArray, List.set_cons_succ, List.set_cons_zero])
              refine takeD (i := 22) (v := ?_) (some 113) rfl rfl (by kernel_rfl) (by kernel_rfl) (by kernel_rfl) (fun _ _ _ h => h) (yAll (by rfl) ?_) hA ?_
              rotate_left
              · intro w; go_simp; try with_reducible rfl
              (simp only [Act.put, List.setIfInBounds_toArray, List.set_cons_succ, List.set_cons_zero])
              refine takeD (i := 25) (v := ?_) (some 116) rfl rfl (by kernel_rfl) (by kernel_rfl) (by kernel_rfl) (fun _ _ _ h => h) (yAll (by rfl) ?_) hA ?_
              rotate_left
              · intro w; go_simp; try with_reducible rfl
              (simp only [Act.put, List.setIfInBounds_toArray, List.set_cons_succ, List.set_cons_zero])
              refine takeD (i := 28) (some 119) rfl rfl (by kernel_rfl) (by kernel_rfl) (by kernel_rfl) (fun _ _ _ h => h) (yBld rfl (by rfl)) hA ?_
              (simp only [Act.put, List.setIfInBounds_toArray, List.set_cons_succ, List.set_cons_zero])
              refine wpAnyH_ready (rs := [23]) (by kernel_rfl) (by simp) ?_
              refine AllReadyH.cons rfl (fun K hK => ?_) ?_
              · go_simp
                refine (HBm.out _).mono ?_
                rintro e w83 ⟨rfl, hb⟩
                replace hA := hA.on hb; replace hW := hW.trans (hb.mono hW.size)
                clear hb
                go_wp2_with fail
                refine hK.out _ _ hA (fun _ => ?_)
                clear hK K
                refine wpAnyH_ready (rs := [24]) (by kernel_rfl) (by simp) ?_
                refine AllReadyH.cons rfl (fun K hK => ?_) ?_
                · go_simp
                  refine (andSetC S (belowS (min m 1024)) wa (below_word _) _).mono ?_
                  rintro e w84 ⟨rfl, hb⟩
                  replace hA := hA.on hb; replace hW := hW.trans (hb.mono hW.size)
                  clear hb
                  go_wp2_with fail
                  refine hK.out _ _ hA (fun _ => ?_)
                  clear hK K
                  refine wpAnyH_ready (rs := [26]) (by kernel_rfl) (by simp) ?_
                  refine AllReadyH.cons rfl (fun K hK => ?_) ?_
                  · go_simp
                    refine (belowC from0 _).mono ?_
                    rintro e w86 ⟨rfl, hb⟩
                    replace hA := hA.on hb; replace hW := hW.trans (hb.mono hW.size)
                    clear hb
                    go_wp2_with fail
                    refine hK.out _ _ hA (fun _ => ?_)
                    clear hK K
                    refine wpAnyH_ready (rs := [27]) (by kernel_rfl) (by simp) ?_
                    refine AllReadyH.cons rfl (fun K hK => ?_) ?_
                    · go_simp
                      refine (lessSetC (andS S (belowS (min m 1024))) (belowS (min from0.toNat 1024)) (and_word wa) (below_word _) _).mono ?_
                      rintro e w87 ⟨rfl, hb⟩
                      replace hA := hA.on hb; replace hW := hW.trans (hb.mono hW.size)
                      clear hb
                      go_wp2_with fail
                      refine hK.out _ _ hA (fun _ => ?_)
                      clear hK K
                      refine takeD (i := 29) (some 120) rfl rfl (by kernel_rfl) (by kernel_rfl) (by kernel_rfl) (fun _ _ _ h => h) (yEq _ _ rfl (by rfl) (lessS (andS S (belowS (min m 1024))) (belowS (min from0.toNat 1024))) zeroS rfl rfl true HE.out) hA ?_
                      (simp only [Act.put, List.setIfInBounds_toArray, List.set_cons_succ, List.set_cons_zero])
                      refine takeD (i := 30) (v := ?_) (some 121) rfl rfl (by kernel_rfl) (by kernel_rfl) (by kernel_rfl) (fun _ _ _ h => h) (yAll (by rfl) ?_) hA ?_
                      rotate_left
                      · intro w; go_simp; try with_reducible rfl
                      (simp only [Act.put, List.setIfInBounds_toArray, List.set_cons_succ, List.set_cons_zero])
                      refine takeD (i := 31) (v := ?_) (some 122) rfl rfl (by kernel_rfl) (by kernel_rfl) (by kernel_rfl) (fun _ _ _ h => h) (yAll (by rfl) ?_) hA ?_
                      rotate_left
                      · intro w; go_simp; try with_reducible rfl
                      (simp only [Act.put, List.setIfInBounds_toArray, List.set_cons_succ, List.set_cons_zero])
                      refine takeD (i := 32) (v := ?_) (some 123) rfl rfl (by kernel_rfl) (by kernel_rfl) (by kernel_rfl) (fun _ _ _ h => h) (yAll (by rfl) ?_) hA ?_
                      rotate_left
                      · intro w; go_simp; try with_reducible rfl
                      (simp only [Act.put, List.setIfInBounds_toArray, List.set_cons_succ, List.set_cons_zero])
                      refine takeD (i := 33) (v := ?_) (some 4) rfl rfl (by kernel_rfl) (by kernel_rfl) (by kernel_rfl) (fun _ _ _ h => h) (yAll (by rfl) ?_) hA ?_
                      rotate_left
                      · intro w; go_simp; try with_reducible rfl
                      (simp only [Act.put, List.setIfInBounds_toArray, List.set_cons_succ, List.set_cons_zero])
                      refine wpAnyH_done (by kernel_rfl) ?_ _
                      (try go_simp)
                      go_wp2_with fail
                      go_ret
                      exact ⟨rfl, hW⟩
                    exact AllReadyH.nil
                  exact AllReadyH.nil
                exact AllReadyH.nil
              exact AllReadyH.nil
            exact AllReadyH.nil
          exact AllReadyH.nil
        exact AllReadyH.nil
theorem walk (v1 : Value) (from0 : Int) (W : World) (hT : Tab W) (w1 : IntsAt W .i64 v1) (wfrom0 : (Lit.int .i64 from0).wf = true) : Calls Tryd.prog 4 #[v1, .int .i64 from0] W fun e w' => e = .returned (.bool true) ∧ Below W.heap.size W w' := by
  obtain ⟨a1, n1, c1, rfl, r1⟩ := w1.parts
  by_cases h : 200 < n1
  · exact far a1 n1 c1 from0 h W hT
  · obtain ⟨la, va⟩ := r1 (by omega)
    exact near a1 n1 c1 from0 la (by omega) W hT va
end Go.Proofs.YtpgkikondihplaaDoor.LawBitsNext
