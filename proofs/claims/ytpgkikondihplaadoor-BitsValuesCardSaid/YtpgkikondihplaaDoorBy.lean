/- Package bits: the law's 'works' as a contract; helpers of the laws' walks. Condition: the table lies in its variable. -/
import Derived.Test.YtpgkikondihplaaDoorBx
namespace Go.Proofs.YtpgkikondihplaaDoor.By
open Go.RowKit Go.Proofs.YtpgkikondihplaaDoor.Ba Go.Proofs.YtpgkikondihplaaDoor.Bm Go.Proofs.YtpgkikondihplaaDoor.Bn Go.Proofs.YtpgkikondihplaaDoor.Bb Go.Proofs.YtpgkikondihplaaDoor.Bc Go.Proofs.YtpgkikondihplaaDoor.Bd Go.Proofs.YtpgkikondihplaaDoor.Bg Go.Proofs.YtpgkikondihplaaDoor.Bt Go.Proofs.YtpgkikondihplaaDoor.Be Go.Proofs.YtpgkikondihplaaDoor.Bf Go.Proofs.YtpgkikondihplaaDoor.Bu Go.Proofs.YtpgkikondihplaaDoor.Bv Go.Proofs.YtpgkikondihplaaDoor.Bw Go.Proofs.YtpgkikondihplaaDoor.Bx
set_option linter.unusedVariables false
set_option linter.unusedSimpArgs false
set_option maxRecDepth 100000
theorem rd_lit (l : List Int) (n : Nat) (hn : l.length = n) (hs : l.length ≤ 1099511627776) (c : Array Value) (hc : c = (l.map (Value.int .i64)).toArray) (w : World) : Rd (.slice (some ⟨w.heap.size, 0, none⟩) n n) l (w.alloc (.cells c 3)) := by
  subst hn hc
  refine ⟨some ⟨w.heap.size, 0, none⟩, l.length, rfl, hs, fun _ => ⟨w.heap.size, 0, rfl, fun i hi => ?_⟩⟩
  rw [Nat.zero_add, cell_of_row _ _ _ _ _ _ (heap_alloc_new w _)]
  simp [List.getD_eq_getElem?_getD, List.getElem?_eq_getElem hi]
theorem lenAt (s : Nat → Nat) (hs : Word s) (n : Int) (h : ((lst s).length : Int) = n) (w : World) : Calls Tryd.prog 14 #[.agg (row s)] w fun e w' => e = .returned (.int .i64 n) ∧ Below w.heap.size w w' := by
  subst h; exact lenC s hs w
theorem hasAt (s : Nat → Nat) (hs : Word s) (n : Int) (b : Bool) (h : hasI s n = b) (w : World) : Calls Tryd.prog 15 #[.agg (row s), .int .i64 n] w fun e w' => e = .returned (.bool b) ∧ Below w.heap.size w w' := by
  subst h; exact hasC s hs n w
theorem belowAt (n : Int) (t : Nat → Nat) (h : SameS (belowS (min n.toNat 1024)) t) (w : World) : Calls Tryd.prog 13 #[.int .i64 n] w fun e w' => e = .returned (.agg (row t)) ∧ Below w.heap.size w w' := by
  rw [← row_same h]; exact belowC n w
theorem withoutAt (s : Nat → Nat) (hs : Word s) (n : Int) (t : Nat → Nat) (h : SameS (withoutI s n) t) (w : World) : Calls Tryd.prog 17 #[.agg (row s), .int .i64 n] w fun e w' => e = .returned (.agg (row t)) ∧ Below w.heap.size w w' := by
  rw [← row_same h]; exact withoutC s hs n w
theorem ofAt (v : Value) (l : List Int) (t : Nat → Nat) (h : SameS (ofS l) t) (w : World) (hv : Rd v l w) : Calls Tryd.prog 11 #[v] w fun e w' => e = .returned (.agg (row t)) ∧ Below w.heap.size w w' := by
  rw [← row_same h]; exact ofC v l w hv
theorem nextAt (s : Nat → Nat) (hs : Word s) (n : Int) (o : Option Nat) (ho : nx (lst s) n.toNat = o) (m : Int) (b : Bool) (hm : nI o = m) (hb : nB o = b) (w : World) (hT : Tab w) : Calls Tryd.prog 12 #[.agg (row s), .int .i64 n] w fun e w' => e = .returned (.tuple #[.int .i64 m, .bool b]) ∧ Below w.heap.size w w' := by
  subst hm hb; exact nextP s hs n o ho w hT
theorem SameS.refl (s : Nat → Nat) : SameS s s := fun _ _ => rfl
theorem intsAt (v u : Value) (l m : List Int) (b : Bool) (hb : (l == m) = b) (w : World) (h : Rd v l w) (k : Rd u m w) : Calls Tryd.prog 19 #[v, u] w fun e w' => e = .returned (.bool b) ∧ Below w.heap.size w w' := by
  subst hb; exact intsC v u l m w h k
/-- All the numbers and the rest, of what All leaves: the slice reads so. -/
theorem all_rd {B : Nat} {s : Nat → Nat} {v : Value} {w : World} (h : Own B v (lstI s) w) : Rd v (lstI s) w := h.rd (by rw [lstI_len]; have := lst_len_le s; omega)
theorem tab_upd {g : Nat} {w w1 : World} (h : Tab w) (hu : Upd g w w1) (hg : 0 < g) : Tab w1 := h.below (hu.below (Below.refl _ _) (Nat.le_refl _)) hg
def exS : Nat → Nat := ofS [3, 64, 3]
theorem ex_word : Word exS := ofS_word _
theorem ex_lst : lst exS = [3, 64] := by decide +kernel
theorem ex_len : ((lst exS).length : Int) = 2 := by rw [ex_lst]; rfl
theorem ex_next : nx (lst exS) (4 : Int).toNat = some 64 := by rw [ex_lst]; rfl
def ex2 : Nat → Nat := withoutI exS 3
theorem ex2_word : Word ex2 := withoutI_word ex_word 3
theorem ex2_all : (lstI ex2 == [64]) = true := by
  have : lst ex2 = [64] := by decide +kernel
  unfold lstI; rw [this]; rfl
def b65 : Nat → Nat := belowS 65
theorem b65_word : Word b65 := below_word _
theorem b65_len : ((lst b65).length : Int) = 65 := by
  unfold b65; rw [lst_below 65 (by decide), List.length_range]; rfl
theorem b65_64 : hasI b65 64 = true := by decide +kernel
theorem b65_65 : hasI b65 65 = false := by decide +kernel
def exO : Nat → Nat := ofS [-1, 1024]
theorem exO_word : Word exO := ofS_word _
theorem exO_len : ((lst exO).length : Int) = 0 := by
  have : lst exO = [] := by decide +kernel
  rw [this]; rfl
set_option maxHeartbeats 2000000 in
theorem worksC (w : World) (hT : Tab w) : Calls Tryd.prog 10 #[] w fun e w' => e = .returned (.bool true) ∧ Below w.heap.size w w' := by
  have hB := Below.refl w.heap.size w
  have v1 := rd_lit [3, 64, 3] 3 rfl (by decide) _ rfl w
  have hB1 : Below w.heap.size w (w.alloc (.cells #[.int .i64 3, .int .i64 64, .int .i64 3] 3)) := by (repeat' (first | (with_reducible exact Below.refl _ _) | (with_reducible assumption) | (with_reducible refine Below.alloc ?_ ?_ _) | (with_reducible refine Below.drew ?_) | (with_reducible refine below_drewN ?_ _) | (with_reducible refine Below.setCell ?_ ?_ _) | (with_reducible refine Below.trans ?_ (Below.mono (by with_reducible assumption) ?_)) | (simp only [World.size_alloc, World.size_setCell, World.heap_drewN, World.size_drew]; omega) | omega | (simp; omega) | (simp; done)))
  have hT1 := hT.on hB1
  have hw0 := hT.pos
  go_enter Tryd.func10, Tryd.ntmps10
  go_wp2_with fail
  refine (ofAt _ _ exS (SameS.refl _) _ v1).mono ?_
  rintro e w1 ⟨rfl, hb⟩
  replace hB := hB1.trans (hb.mono hB1.size)
  replace hT := hT1.on hb
  clear hb v1 hB1 hT1
  go_wp2_with (first
    | (refine al rfl rfl ?_; intro g w2 hz hb hgz; replace hgz := Nat.le_trans hB.size hgz; replace hT := hT.on hb; replace hB := hB.trans (hb.mono hB.size); clear hb)
    | (refine st _ _ rfl rfl _ rfl _ rfl _ hz ?_; intro w3 r0 hu; replace hT := tab_upd hT hu (Nat.lt_of_lt_of_le hw0 hgz); replace hB := hu.below hB hgz; clear hz hu)
    | (refine ld _ rfl rfl _ rfl exS r0 ?_)
    | (go_at_call 12; refine (nextAt exS ex_word 4 _ ex_next 64 true rfl rfl _ hT).mono ?_; rintro e w4 ⟨rfl, hb⟩; replace hT := hT.on hb; replace r0 := r0.on hb; replace hB := hB.trans (hb.mono hB.size); clear hb)
    | (go_at_call 17; refine (withoutAt exS ex_word 3 ex2 (SameS.refl _) _).mono ?_; rintro e w4 ⟨rfl, hb⟩; replace hT := hT.on hb; replace r0 := r0.on hb; replace hB := hB.trans (hb.mono hB.size); clear hb)
    | (go_at_call 13; refine (belowAt 65 b65 (SameS.refl _) _).mono ?_; rintro e w4 ⟨rfl, hb⟩; replace hT := hT.on hb; replace r0 := r0.on hb; replace hB := hB.trans (hb.mono hB.size); clear hb)
    | (go_at_call_of 14 exS; refine (lenAt exS ex_word 2 ex_len _).mono ?_; rintro e w4 ⟨rfl, hb⟩; replace hT := hT.on hb; replace r0 := r0.on hb; replace hB := hB.trans (hb.mono hB.size); clear hb)
    | (go_at_call_of 14 b65; refine (lenAt b65 b65_word 65 b65_len _).mono ?_; rintro e w4 ⟨rfl, hb⟩; replace hT := hT.on hb; replace r0 := r0.on hb; replace hB := hB.trans (hb.mono hB.size); clear hb)
    | (go_at_call_of 14 exO; refine (lenAt exO exO_word 0 exO_len _).mono ?_; rintro e w4 ⟨rfl, hb⟩; replace hT := hT.on hb; replace r0 := r0.on hb; replace hB := hB.trans (hb.mono hB.size); clear hb)
    | (go_at_call 20; refine (allC ex2 ex2_word _ hT).mono ?_; rintro e w4 ⟨va, rfl, hown, hb⟩; have hva := all_rd hown; replace hT := hT.on hb; replace r0 := r0.on hb; replace hB := hB.trans (hb.mono hB.size); clear hb; clear hown)
    | (go_at_call 19; refine (intsAt _ _ (lstI ex2) [64] true ex2_all _ (hva.on ((Below.refl _ _).alloc (Nat.le_refl _) _)) (rd_lit [64] 1 rfl (by decide) _ rfl _)).mono ?_; rintro e w4 ⟨rfl, hb⟩; replace hT := (hT.alloc _).on hb; replace r0 := (r0.alloc _).on hb; replace hB := (hB.alloc hB.size _).trans (hb.mono (hB.alloc hB.size _).size); clear hb; clear hva)
    | (go_at_call 11; refine (ofAt _ [-1, 1024] exO (SameS.refl _) _ (rd_lit [-1, 1024] 2 rfl (by decide) _ rfl _)).mono ?_; rintro e w4 ⟨rfl, hb⟩; replace hT := (hT.alloc _).on hb; replace r0 := (r0.alloc _).on hb; replace hB := (hB.alloc hB.size _).trans (hb.mono (hB.alloc hB.size _).size); clear hb)
    | (go_at_call_of 15 (64 : Int); refine (hasAt b65 b65_word 64 true b65_64 _).mono ?_; rintro e w4 ⟨rfl, hb⟩; replace hT := hT.on hb; replace r0 := r0.on hb; replace hB := hB.trans (hb.mono hB.size); clear hb)
    | (go_at_call_of 15 (65 : Int); refine (hasAt b65 b65_word 65 false b65_65 _).mono ?_; rintro e w4 ⟨rfl, hb⟩; replace hT := hT.on hb; replace r0 := r0.on hb; replace hB := hB.trans (hb.mono hB.size); clear hb)
    )
  go_ret
  exact ⟨rfl, hB⟩
end Go.Proofs.YtpgkikondihplaaDoor.By
