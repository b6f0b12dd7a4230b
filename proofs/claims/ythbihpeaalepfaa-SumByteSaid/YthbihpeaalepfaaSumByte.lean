/- SumByte: the walk of the law from the contract of sum.Sum. Condition: the reach of a string. -/
import Derived.Test.YthbihpeaalepfaaSumCalls
import Derived.Lib.Hide
import Derived.BigRegion
import Derived.Deep.DeepCutAuto
import Derived.Deep.DrawnRows
namespace Go.Proofs.Ythbihpeaalepfaa.SumByte
open Go.RowKit Go.Proofs.Ythbihpeaalepfaa.SumMath Go.Proofs.Ythbihpeaalepfaa.SumCalls Go.Proofs.YthbihpeaalepfaaW.PrintWords
set_option linter.unusedVariables false
attribute [local go_sem ↓] Go.wp_at_zero Go.wp_at_succ

theorem u64_nonneg (x : Int) : 0 ≤ IntKind.u64.wrap x := by
  rw [IntKind.wrap_u64]; omega
theorem place (s : ByteArray) (x : Int) (h0' : (s.size : Int) ≠ 0) (h : (s.size : Int) ≤ 40000) : ∃ k : Nat, k < s.size ∧ wrap64 ((IntKind.u64.wrap x).tmod (↑s.size)) = (k : Int) := by
  have h0 := u64_nonneg x
  rw [Int.tmod_eq_emod_of_nonneg h0]
  generalize IntKind.u64.wrap x = y at *
  have h1 : 0 ≤ y % (s.size : Int) := Int.emod_nonneg _ (by omega)
  have h2 : y % (s.size : Int) < (s.size : Int) := Int.emod_lt_of_pos _ (by omega)
  generalize y % (s.size : Int) = z at *
  refine ⟨z.toNat, by omega, ?_⟩
  unfold wrap64
  omega
/-- A row of bytes at block g, in the world W, which is w0 and what came behind it. -/
structure Rd (w0 : World) (g n : Nat) (ys : List Int) (W : World) : Prop where
  reads : ReadsInt W .u8 (some ⟨g, 0, none⟩) n ys
  bel : Below w0.heap.size w0 W
theorem Rd.drewN {w0 W : World} {g n : Nat} {ys : List Int} (h : Rd w0 g n ys W) (k : Nat) : Rd w0 g n ys (W.drewN k) := ⟨h.reads, pw_below_drewN h.bel k⟩
theorem Rd.step {w0 W W' : World} {g n : Nat} {ys : List Int} (h : Rd w0 g n ys W) (hb : Below W.heap.size W W') : Rd w0 g n ys W' := ⟨h.reads.below hb, h.bel.trans (hb.mono h.bel.size)⟩
theorem Rd.conv {w0 W : World} {g n c : Nat} {ys : List Int} (h : Rd w0 g n ys W) : (convert 24 9 (.slice (some ⟨g, 0, none⟩) n c)).run Try.prog W = .ok (.string (strOfNums ys)) W :=
  string_of_reads Try.underlying24 Try.underlying5 Try.underlying9 h.reads
theorem bytes_frozen (W : World) (s : ByteArray) (k : Nat) (hk : k < s.size) : (Lib.bytesWorld W 5 s).frozen? ⟨W.heap.size, k, none⟩ = false := by
  have h : s.size ≤ (Lib.bytesCells W 5 s).size := by simp [Lib.bytesCells]
  simp [World.frozen?, Lib.bytesWorld_at_new]
  omega
theorem bytes_cell (W : World) (s : ByteArray) (hs : s.size ≤ 140737488351232) (k : Nat) (hk : k < s.size) : (Lib.bytesWorld W 5 s).cell? ⟨W.heap.size, k, none⟩ = some (.int .u8 ((bytesOf s).getD k 0)) := by
  have := (bytes_reads W 5 s (by omega)).2.2 (by omega)
  obtain ⟨ad, e, h⟩ := this
  obtain rfl := Option.some.inj e
  rw [← h k hk, add_plain]
theorem reads_set {W : World} {g n : Nat} {ys : List Int} (h : ReadsInt W .u8 (some ⟨g, 0, none⟩) n ys) (k : Nat) (hk : k < n) (x : Int) : ReadsInt (W.setCell ⟨g, k, none⟩ (.int .u8 x)) .u8 (some ⟨g, 0, none⟩) n (ys.set k x) := by
  refine ⟨by simp [h.1], h.2.1, fun _ => ⟨_, rfl, fun j hj => ?_⟩⟩
  obtain ⟨ad, e, hc⟩ := h.2.2 (by omega)
  obtain rfl := Option.some.inj e
  have hl : k < ys.length := by have := h.1; omega
  rw [add_plain]
  by_cases e : j = k
  · subst e
    have h1 := hc j hj
    rw [add_plain] at h1
    rw [World.cell?_setCell_same _ _ _ h1]
    simp [List.getD, hl]
  · rw [World.cell?_setCell_other W _ _ _ (by intro e2; injection e2 with _ e3 _; omega), ← add_plain, hc j hj]
    simp [List.getD, Ne.symm e]
theorem toList_inj {a b : ByteArray} (h : a.toList = b.toList) : a = b := by
  rw [ByteArray.toList_eq, ByteArray.toList_eq] at h
  apply ByteArray.ext
  exact Array.toList_inj.1 h
theorem bys_of (ys : List Int) (h : ∀ c ∈ ys, Byte c) : bys (strOfNums ys) = ys := by
  unfold bys
  rw [strOfNums_data, List.map_map]
  conv => rhs; rw [← List.map_id ys]
  apply List.map_congr_left
  intro c hc
  have := h c hc
  unfold Byte at this
  simp only [Function.comp, id]
  rw [UInt8.toNat_ofNat']
  omega
theorem in_of (s : ByteArray) : In (fld (1, 0) (bys s)) := fld_in (by unfold In; omega) _
theorem told (s t : ByteArray) (h : Sm t = Sm s → t = s) : ∃ b : Bool, (t.toList == s.toList) = b ∧ (Sm t == Sm s) = b := by
  by_cases e : t = s
  · subst e
    exact ⟨true, by simp, by simp⟩
  · refine ⟨false, ?_, ?_⟩
    · rw [beq_eq_false_iff_ne]
      exact fun h => e (toList_inj h)
    · rw [beq_eq_false_iff_ne]
      exact fun h2 => e (h h2)
theorem one_list (l1 : List Int) (a x : Int) (l2 : List Int) : (l1 ++ a :: l2).set l1.length x = l1 ++ x :: l2 := by simp
theorem two_list (l1 : List Int) (a b : Int) (l2 : List Int) : ((l1 ++ a :: b :: l2).set l1.length b).set (l1.length + 1) a = l1 ++ b :: a :: l2 := by
  simp
theorem one_set (s : ByteArray) (k : Nat) (hk : k < s.size) (x : Int) (hx : Byte x) (h : Sm (strOfNums ((bytesOf s).set k x)) = Sm s) : strOfNums ((bytesOf s).set k x) = s := by
  have hl : k < (bys s).length := by rw [bys_length]; exact hk
  have hb : bytesOf s = bys s := rfl
  rw [hb] at h ⊢
  obtain ⟨l1, a, l2, e1, e2⟩ : ∃ l1 a l2, l1.length = k ∧ bys s = l1 ++ a :: l2 :=
    ⟨(bys s).take k, (bys s)[k], (bys s).drop (k + 1), by simp; omega, by rw [List.getElem_cons_drop, List.take_append_drop]⟩
  have hall := bys_byte s
  rw [e2] at hall
  have hset : (bys s).set k x = l1 ++ x :: l2 := by rw [e2, ← e1, one_list]
  rw [hset] at h ⊢
  have hy : ∀ c ∈ l1 ++ x :: l2, Byte c := by
    intro c hc
    simp only [List.mem_append, List.mem_cons] at hc hall
    rcases hc with hc | rfl | hc
    · exact hall c (.inl hc)
    · exact hx
    · exact hall c (.inr (.inr hc))
  have e3 := pack_inj (in_of _) (in_of _) h
  rw [bys_of _ hy, e2] at e3
  have := byte_apart (p := (1, 0)) (by unfold In; omega) hx (hall a (by simp)) l1 l2 e3
  apply bys_inj
  rw [bys_of _ hy, e2, this]
theorem two_set (s : ByteArray) (k : Nat) (hk : k + 1 < s.size) (h : Sm (strOfNums (((bytesOf s).set k ((bytesOf s).getD (k + 1) 0)).set (k + 1) ((bytesOf s).getD k 0))) = Sm s) :
    strOfNums (((bytesOf s).set k ((bytesOf s).getD (k + 1) 0)).set (k + 1) ((bytesOf s).getD k 0)) = s := by
  have hl : k + 1 < (bys s).length := by rw [bys_length]; exact hk
  have hb : bytesOf s = bys s := rfl
  rw [hb] at h ⊢
  obtain ⟨l1, a, b, l2, e1, e2⟩ : ∃ l1 a b l2, l1.length = k ∧ bys s = l1 ++ a :: b :: l2 :=
    ⟨(bys s).take k, (bys s)[k], (bys s)[k + 1], (bys s).drop (k + 2), by simp; omega, by rw [List.getElem_cons_drop, List.getElem_cons_drop, List.take_append_drop]⟩
  have hall := bys_byte s
  have g0 : (bys s).getD k 0 = a := by rw [e2, ← e1]; simp [List.getD]
  have g1 : (bys s).getD (k + 1) 0 = b := by rw [e2, ← e1]; simp [List.getD]
  rw [g0, g1] at h ⊢
  rw [e2] at hall
  have hset : ((bys s).set k b).set (k + 1) a = l1 ++ b :: a :: l2 := by rw [e2, ← e1, two_list]
  rw [hset] at h ⊢
  have hy : ∀ c ∈ l1 ++ b :: a :: l2, Byte c := by
    intro c hc
    simp only [List.mem_append, List.mem_cons] at hc hall
    rcases hc with hc | hc | hc | hc
    · exact hall c (.inl hc)
    · exact hall c (.inr (.inr (.inl hc)))
    · exact hall c (.inr (.inl hc))
    · exact hall c (.inr (.inr (.inr hc)))
  have e3 := pack_inj (in_of _) (in_of _) h
  rw [bys_of _ hy, e2] at e3
  have := swap_apart (p := (1, 0)) (by unfold In; omega) (hall b (by simp)) (hall a (by simp)) l1 l2 e3
  apply bys_inj
  rw [bys_of _ hy, e2, this]
set_option maxHeartbeats 1000000 in
theorem walk (s : ByteArray) (at_ x : Int) (w : World) (ha : s.size ≤ 140737488351232) (hat : (Lit.int .i64 at_).wf = true) (hx : (Lit.int .u8 x).wf = true) :
    Calls Try.prog 3 #[.string s, .int .i64 at_, .int .u8 x] w fun e w' => e = .returned (.bool true) ∧ Below w.heap.size w w' := by
  by_cases hl : (40000 : Int) < (s.size : Int)
  · go_enter Try.func3, Try.ntmps3
    go_wp2_with fail
    refine (worksC _).mono ?_
    rintro e w1 ⟨rfl, hb1⟩
    go_wp2_with fail
    refine (worksC _).mono ?_
    rintro e w2 ⟨rfl, hb2⟩
    go_wp2_with fail
    go_ret
    exact ⟨rfl, hb1.trans (hb2.mono hb1.size)⟩
  by_cases hz : s.size = 0
  · have hz' : ((s.size : Int) == 0) = true := by rw [beq_iff_eq]; omega
    have hle : (s.size : Int) ≤ 40000 := by omega
    go_enter Try.func3, Try.ntmps3
    go_wp2_with fail
    refine (worksC _).mono ?_
    rintro e w1 ⟨rfl, hb1⟩
    go_wp2_with fail
    refine (worksC _).mono ?_
    rintro e w2 ⟨rfl, hb2⟩
    go_wp2_with fail
    go_ret
    exact ⟨rfl, hb1.trans (hb2.mono hb1.size)⟩
  · have hle : (s.size : Int) ≤ 40000 := by omega
    have hz' : ((s.size : Int) == 0) = false := by rw [beq_eq_false_iff_ne]; omega
    have hpos : (0 : Int) < (s.size : Int) := by omega
    obtain ⟨k, hk, ek⟩ := place s at_ (by omega) hle
    have hk2 : (k : Int) < (s.size : Int) := by omega
    have kb := fun W => print_bytes (P := Try.prog) 9 24 5 Try.underlying9 Try.underlying24 Try.underlying5 s W
    have kf := fun W => bytes_frozen W s k hk
    have kc := fun W => bytes_cell W s ha k hk
    go_enter Try.func3, Try.ntmps3
    go_wp2_with fail
    refine (worksC _).mono ?_
    rintro e w1 ⟨rfl, hb1⟩
    go_wp2_with fail
    rw [ek]
    clear ek
    have R5 : Rd w w1.heap.size s.size ((bytesOf s).set k x) ((Lib.bytesWorld w1 5 s).setCell ⟨w1.heap.size, k, none⟩ (.int .u8 x)) :=
      ⟨reads_set (bytes_reads w1 5 s (by omega)) k hk x, (bytes_below hb1 hb1.size 5 s).setCell hb1.size _⟩
    generalize (Lib.bytesWorld w1 5 s).setCell ⟨w1.heap.size, k, none⟩ (.int .u8 x) = W5 at *
    generalize grownCap w1 s.size 0 5 = c5
    have g5 : w1.heap.size = w1.heap.size := rfl
    generalize w1.heap.size = g at *
    clear kb kf kc hb1
    have cv : ∀ W, Rd w g s.size ((bytesOf s).set k x) W → (convert 24 9 (.slice (some ⟨g, 0, none⟩) s.size c5)).run Try.prog W = .ok (.string (strOfNums ((bytesOf s).set k x))) W := fun W h => h.conv
    have cd : ∀ W n, Rd w g s.size ((bytesOf s).set k x) W → Rd w g s.size ((bytesOf s).set k x) (W.drewN n) := fun W n h => h.drewN n
    have cd1 : Rd w g s.size ((bytesOf s).set k x) W5.drew := R5.drewN 1
    generalize hS : strOfNums ((bytesOf s).set k x) = S1 at *
    have hS1 : S1.size ≤ 140737488351232 := by rw [← hS, strOfNums_size]; simp [bytesOf_length]; omega
    obtain ⟨b, q1, q2⟩ := told s S1 (by rw [← hS]; exact one_set s k hk x (by rw [Byte]; simp only [Lit.wf, Bool.and_eq_true, decide_eq_true_eq] at hx; exact hx))
    go_cut [45] (fun t W' => t = .bool false ∧ Below w.heap.size w W')
    case first =>
      go_region_with (first | (go_at_call_of 9 (Value.string S1); refine (sumC S1 hS1 _).mono ?_; rintro e w7 ⟨rfl, hb7⟩; have r7 := Rd.step (by first | assumption | exact Rd.drewN (by assumption) _) hb7) | (go_at_call_of 9 (Value.string s); refine (sumC s ha _).mono ?_; rintro e w7 ⟨rfl, hb7⟩; have r7 := Rd.step (by first | assumption | exact Rd.drewN (by assumption) _) hb7))
      all_goals (go_wp2_with fail; (try go_simp); go_meet; exact ⟨by simp, by first | exact Rd.bel (by assumption) | exact Rd.bel (Rd.drewN (by assumption) _)⟩)
    case rest =>
      obtain ⟨rfl, hb6⟩ := hcut
      clear cd1 R5 cv cd q1 q2 hS g5
      by_cases hn : (s.size : Int) ≤ (k : Int) + 1
      · go_wp2_with fail
        go_ret
        exact ⟨rfl, hb6⟩
      · have hn2 : (k : Int) + 1 < (s.size : Int) := by omega
        clear hn
        have kb := fun W => print_bytes (P := Try.prog) 9 24 5 Try.underlying9 Try.underlying24 Try.underlying5 s W
        have kf0 := fun W => bytes_frozen W s k hk
        have kf1 := fun W => bytes_frozen W s (k + 1) (by omega)
        have kc0 := fun W => bytes_cell W s ha k hk
        have kc1 := fun W => bytes_cell W s ha (k + 1) (by omega)
        go_wp2_with fail
        obtain ⟨wo, rfl⟩ : ∃ wo : World, wo = wc := ⟨_, rfl⟩
        go_cut [8] (fun t W' => t = .slice (some ⟨wo.heap.size, 0, none⟩) s.size (grownCap wo s.size 0 5) ∧ Rd w wo.heap.size s.size (((bytesOf s).set k ((bytesOf s).getD (k + 1) 0)).set (k + 1) ((bytesOf s).getD k 0)) W')
        case first =>
          go_region
          all_goals (go_wp2_with fail; (try go_simp); go_meet)
          have hlen : ((bytesOf s).set k ((bytesOf s).getD (k + 1) 0)).length = s.size := by simp [bytesOf_length]
          refine ⟨rfl, ?_⟩
          refine Rd.drewN (n := s.size) ⟨reads_set (reads_set (bytes_reads wo 5 s (by omega)) k hk _) (k + 1) (by omega) _, ?_⟩ 1
          exact ((bytes_below hb6 hb6.size 5 s).setCell hb6.size _).setCell hb6.size _
        case rest =>
          obtain ⟨rfl, R7⟩ := hcut
          clear kb kf0 kf1 kc0 kc1 hb6
          generalize grownCap wo s.size 0 5 = c7
          generalize wo.heap.size = g7 at *
          have hS2 : (strOfNums (((bytesOf s).set k ((bytesOf s).getD (k + 1) 0)).set (k + 1) ((bytesOf s).getD k 0))).size ≤ 140737488351232 := by rw [strOfNums_size]; simp [bytesOf_length]; omega
          obtain ⟨b2, q3, q4⟩ := told s _ (two_set s k (by omega))
          generalize ((bytesOf s).set k ((bytesOf s).getD (k + 1) 0)).set (k + 1) ((bytesOf s).getD k 0) = ys at *
          have cv : ∀ W, Rd w g7 s.size ys W → (convert 24 9 (.slice (some ⟨g7, 0, none⟩) s.size c7)).run Try.prog W = .ok (.string (strOfNums ys)) W := fun W h => h.conv
          have cd : ∀ W n, Rd w g7 s.size ys W → Rd w g7 s.size ys (W.drewN n) := fun W n h => h.drewN n
          have cd1 : Rd w g7 s.size ys wc.drew := R7.drewN 1
          generalize strOfNums ys = S2 at *
          go_wp2_with fail
          go_region_with (first | (go_at_call_of 9 (Value.string S2); refine (sumC S2 hS2 _).mono ?_; rintro e w7 ⟨rfl, hb7⟩; have r7 := Rd.step (by first | assumption | exact Rd.drewN (by assumption) _) hb7) | (go_at_call_of 9 (Value.string s); refine (sumC s ha _).mono ?_; rintro e w7 ⟨rfl, hb7⟩; have r7 := Rd.step (by first | assumption | exact Rd.drewN (by assumption) _) hb7))
          all_goals (go_wp2_with fail; (try go_simp); go_ret; exact ⟨by first | rfl | simp, by first | exact Rd.bel (by assumption) | exact Rd.bel (Rd.drewN (by assumption) _)⟩)
end Go.Proofs.Ythbihpeaalepfaa.SumByte
