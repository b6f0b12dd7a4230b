/- WireReads: the walk of the law, from the contracts of the two readers. No condition but the text's length and how many calls there are. -/
import Derived.Test.YtijhdnpaeliaoaaWr
import Derived.Test.YtijhdnpaeliaoaaWt
import Derived.Test.YtijhdnpaeliaoaaWv
namespace Go.Proofs.Ytijhdnpaeliaoaa.LawWireReads
open Go.RowKit Go.Sort Go.Proofs.Ytijhdnpaeliaoaa.Wm Go.Proofs.Ytijhdnpaeliaoaa.Wa Go.Proofs.Ytijhdnpaeliaoaa.Wc Go.Proofs.Ytijhdnpaeliaoaa.Wd Go.Proofs.Ytijhdnpaeliaoaa.We Go.Proofs.Ytijhdnpaeliaoaa.Wf Go.Proofs.Ytijhdnpaeliaoaa.Wg Go.Proofs.Ytijhdnpaeliaoaa.Wh Go.Proofs.Ytijhdnpaeliaoaa.Wi Go.Proofs.Ytijhdnpaeliaoaa.Wj Go.Proofs.Ytijhdnpaeliaoaa.Wk Go.Proofs.Ytijhdnpaeliaoaa.Wl Go.Proofs.Ytijhdnpaeliaoaa.Wq Go.Proofs.Ytijhdnpaeliaoaa.Wp Go.Proofs.Ytijhdnpaeliaoaa.Wr Go.Proofs.Ytijhdnpaeliaoaa.Wt
set_option linter.unusedVariables false
set_option linter.unusedSimpArgs false
set_option maxRecDepth 100000
theorem rd_left (most : Nat) (st : St) : (rdNum most st).2.2.s.size ≤ st.s.size := by
  unfold rdNum
  split
  · split
    · exact takeR_left most st.s
    · exact Nat.zero_le _
  · exact Nat.le_refl _
theorem num_left (st : St) : (numS st).2.2.s.size ≤ st.s.size := rd_left _ st
theorem int_left (st : St) : (intS st).2.2.s.size ≤ st.s.size := rd_left _ st
theorem text_left (most : Int) (st : St) : (textS most st).2.2.s.size ≤ st.s.size := by
  have h := num_left st
  unfold textS
  split
  · split
    · exact Nat.zero_le _
    · split
      · exact Nat.zero_le _
      · show ((numS st).2.2.s.extract _ _).size ≤ _
        rw [ByteArray.size_extract]
        omega
  · exact h
theorem val_left (st : St) : (valS st).2.2.s.size ≤ st.s.size := by
  have h := num_left st
  have h1 := int_left (numS st).2.2
  have h2 := num_left (numS st).2.2
  have h3 := text_left 40 (numS st).2.2
  unfold valS
  split
  · split
    · exact Nat.zero_le _
    · split
      · split <;> exact Nat.le_trans h1 h
      · split
        · split
          · split
            · exact Nat.zero_le _
            · exact Nat.le_trans h2 h
          · exact Nat.le_trans h2 h
        · split
          · split <;> exact Nat.le_trans h3 h
          · exact h
  · exact h
theorem end_left (st : St) : (endS st).2.s.size ≤ st.s.size := by
  unfold endS
  split
  · split
    · exact Nat.le_refl _
    · exact Nat.zero_le _
  · exact Nat.le_refl _
theorem gr_bel {B g : Nat} {a b c : World} (h : Below B a b) (hg : b.grownBy c (some g)) (hB : B ≤ b.heap.size) (hr : B ≤ g) : Below B a c := h.grown hg hB (fun k hk => by cases hk; exact hr)
theorem leftB (g : Nat) (st : St) (w : World) (h : Rd g st.s st.e w) : Calls Try.prog 27 #[.pointer (some ⟨g, 0, none⟩)] w fun e w' => e = .returned (.int .i64 (st.s.size : Int)) ∧ Below w.heap.size w w' :=
  (leftC g st w h).mono fun e w' ⟨he, hw⟩ => ⟨he, hw ▸ Below.refl _ _⟩
theorem long (s : ByteArray) (a : Option Addr) (len cap : Nat) (most : Int) (W : World) (h : (2000 : Int) < s.size ∨ (300 : Int) < len) : Calls Try.prog 7 #[.string s, .slice a len cap, .int .i64 most] W fun e W' => e = .returned (.bool true) ∧ Below W.heap.size W W' := by
  by_cases h1 : (2000 : Int) < s.size
  · clear h
    go_enter Try.func7, Try.ntmps7
    go_wp2_with (go_at_call 10; refine (awakeC _).mono ?_; rintro e w1 ⟨rfl, hb1⟩; have zhb1 := hb1.size; (try simp only [World.size_alloc, World.size_setCell, World.heap_drewN, World.size_drew] at zhb1))
    go_ret
    exact ⟨rfl, by (repeat' (first | (with_reducible exact Below.refl _ _) | (with_reducible assumption) | (with_reducible refine Below.alloc ?_ ?_ _) | (with_reducible refine Below.drew ?_) | (with_reducible refine below_drewN ?_ _) | (with_reducible refine Below.setCell ?_ ?_ _) | (with_reducible refine Below.trans ?_ (Below.mono (by with_reducible assumption) ?_)) | (simp only [World.size_alloc, World.size_setCell, World.heap_drewN, World.size_drew]; omega) | omega | (simp; omega) | (simp; done)))⟩
  · have h2 : (300 : Int) < len := by omega
    clear h
    go_enter Try.func7, Try.ntmps7
    go_wp2_with (go_at_call 10; refine (awakeC _).mono ?_; rintro e w1 ⟨rfl, hb1⟩; have zhb1 := hb1.size; (try simp only [World.size_alloc, World.size_setCell, World.heap_drewN, World.size_drew] at zhb1))
    go_ret
    exact ⟨rfl, by (repeat' (first | (with_reducible exact Below.refl _ _) | (with_reducible assumption) | (with_reducible refine Below.alloc ?_ ?_ _) | (with_reducible refine Below.drew ?_) | (with_reducible refine below_drewN ?_ _) | (with_reducible refine Below.setCell ?_ ?_ _) | (with_reducible refine Below.trans ?_ (Below.mono (by with_reducible assumption) ?_)) | (simp only [World.size_alloc, World.size_setCell, World.heap_drewN, World.size_drew]; omega) | omega | (simp; omega) | (simp; done)))⟩
theorem none0 (s : ByteArray) (a : Option Addr) (len cap : Nat) (most : Int) (W : World) (h1 : ¬ (2000 : Int) < s.size) (h2 : ¬ (300 : Int) < len) (h0 : len = 0) : Calls Try.prog 7 #[.string s, .slice a len cap, .int .i64 most] W fun e W' => e = .returned (.bool true) ∧ Below W.heap.size W W' := by
  subst h0
  go_enter Try.func7, Try.ntmps7
  go_wp2_with fail
  refine (openC s _).mono ?_
  rintro e w1 ⟨rfl, qa, hb1⟩
  have zb1 := hb1.size
  have la := qa.lt
  have qb0 : Rd w1.heap.size s 0 (w1.alloc (.cells #[.string s, .int .i64 0] 53)) := ⟨by simp [go_sem], by simp [go_sem], fun j => by simp [go_sem]⟩
  have qa0 := qa.alloc (.cells #[.string s, .int .i64 0] 53)
  have hB0 : Below W.heap.size W (w1.alloc (.cells #[.string s, .int .i64 0] 53)) := by (repeat' (first | (with_reducible exact Below.refl _ _) | (with_reducible assumption) | (with_reducible refine Below.alloc ?_ ?_ _) | (with_reducible refine Below.drew ?_) | (with_reducible refine below_drewN ?_ _) | (with_reducible refine Below.setCell ?_ ?_ _) | (with_reducible refine Below.trans ?_ (Below.mono (by with_reducible assumption) ?_)) | (simp only [World.size_alloc, World.size_setCell, World.heap_drewN, World.size_drew]; omega) | omega | (simp; omega) | (simp; done)))
  go_wp2_with fail
  have nab : W.heap.size ≠ w1.heap.size := by omega
  have nb : W.heap.size ≤ w1.heap.size := by omega
  generalize (w1.alloc (.cells #[.string s, .int .i64 0] 53)) = W0 at *
  generalize w1.heap.size = gb at *
  clear qa hb1 zb1 la
  refine wp_loop_rounds 1 ?_
  rw [rounds_succ]
  go_wp2_with (go_at_call 10; refine (awakeC _).mono ?_; rintro e w9 ⟨rfl, hb9⟩; have zhb9 := hb9.size; (try simp only [World.size_alloc, World.size_setCell, World.heap_drewN, World.size_drew] at zhb9))
  go_ret
  exact ⟨rfl, hB0.trans (hb9.mono hB0.size)⟩
set_option maxHeartbeats 8000000 in
theorem some1 (s : ByteArray) (b off len cap : Nat) (most : Int) (zs : List Int) (W : World) (h1 : ¬ (2000 : Int) < s.size) (h2 : ¬ (300 : Int) < len) (hcell : ∀ i, i < len → W.cell? ⟨b, off + i, none⟩ = some (.int .u8 (zs.getD i 0))) (hz : ∀ i, 0 ≤ zs.getD i 0) (hz2 : ∀ i, zs.getD i 0 ≤ 255) : Calls Try.prog 7 #[.string s, .slice (some ⟨b, off, none⟩) len cap, .int .i64 most] W fun e W' => e = .returned (.bool true) ∧ Below W.heap.size W W' := by
  have HCELL := Lib.hid hcell
  have HZ := Lib.hid hz
  have HZ2 := Lib.hid hz2
  clear hcell hz hz2
  go_enter Try.func7, Try.ntmps7
  go_wp2_with fail
  refine (openC s _).mono ?_
  rintro e w1 ⟨rfl, qa, hb1⟩
  have zb1 := hb1.size
  have la := qa.lt
  have qb0 : Rd w1.heap.size s 0 (w1.alloc (.cells #[.string s, .int .i64 0] 53)) := ⟨by simp [go_sem], by simp [go_sem], fun j => by simp [go_sem]⟩
  have qa0 := qa.alloc (.cells #[.string s, .int .i64 0] 53)
  have hB0 : Below W.heap.size W (w1.alloc (.cells #[.string s, .int .i64 0] 53)) := by (repeat' (first | (with_reducible exact Below.refl _ _) | (with_reducible assumption) | (with_reducible refine Below.alloc ?_ ?_ _) | (with_reducible refine Below.drew ?_) | (with_reducible refine below_drewN ?_ _) | (with_reducible refine Below.setCell ?_ ?_ _) | (with_reducible refine Below.trans ?_ (Below.mono (by with_reducible assumption) ?_)) | (simp only [World.size_alloc, World.size_setCell, World.heap_drewN, World.size_drew]; omega) | omega | (simp; omega) | (simp; done)))
  go_wp2_with fail
  have nab : W.heap.size ≠ w1.heap.size := by omega
  have nb : W.heap.size ≤ w1.heap.size := by omega
  generalize (w1.alloc (.cells #[.string s, .int .i64 0] 53)) = W0 at *
  generalize w1.heap.size = gb at *
  clear qa hb1 zb1 la
  go_loopw [9] (fun iv wr => ∃ (i : Nat) (st : St), iv = .int .i64 (i : Int) ∧ i ≤ len ∧ st.s.size ≤ 2000 ∧ Rd W.heap.size st.s st.e wr ∧ Rd gb st.s st.e wr ∧ Below W.heap.size W wr) (fun iv _ => len - (intOf iv).toNat)
  case atStart => exact ⟨0, ⟨s, 0⟩, rfl, Nat.zero_le _, by show s.size ≤ 2000; omega, qa0, qb0, hB0⟩
  case round =>
    obtain ⟨i, st, rfl, hi, hst, qa, qb, hB⟩ := hrel
    have zB := hB.size
    have hs2 : st.s.size ≤ 1099511627776 := by omega
    by_cases hlt : i < len
    · have hcW := HCELL.out i hlt
      have hbl : b < W.heap.size := World.block_lt_of_cell? W ⟨b, off + i, none⟩ hcW
      have hc := (hB.cell (p := ⟨b, off + i, none⟩) hbl).trans hcW
      have c0 := HZ.out i
      have c1 := HZ2.out i
      generalize zs.getD i 0 = c at *
      have hlt1 : (i : Int) < (len : Int) := by omega
      have hlt2 : decide (i < len) = true := by simpa using hlt
      have h5 : c % 5 = 0 ∨ c % 5 = 1 ∨ c % 5 = 2 ∨ c % 5 = 3 ∨ c % 5 = 4 := by omega
      rcases h5 with h5 | h5 | h5 | h5 | h5
      · have hm : c % 5 = 0 := by omega
        have hleft := num_left st
        obtain ⟨⟨n, e1, st2⟩, hr⟩ : ∃ r, r = numS st := ⟨_, rfl⟩
        have HA := numRC W.heap.size st hs2
        have HB := rnumRC gb st hs2
        rw [← hr] at hleft HA HB
        dsimp only at hleft HA HB
        clear hr
        go_wp2_with fail
        refine (HA _ qa).mono ?_
        clear HA
        rintro e w2 ⟨rfl, qa1, hg1⟩
        have qb1 := qb.far hg1 (Ne.symm nab)
        have hB1 := gr_bel hB hg1 zB (Nat.le_refl _)
        have zB1 := hB1.size
        clear hg1
        go_wp2_with fail
        refine (HB _ qb1).mono ?_
        clear HB
        rintro e w3 ⟨rfl, qb2, hg2⟩
        have qa2 := qa1.far hg2 nab
        have hB2 := gr_bel hB1 hg2 zB1 nb
        clear hg2
        go_wp2_with fail
        have y0 := cell_regrown qb2.c0
        (try dsimp only [List.append])
        refine wp_region_quiet_below (by kernel_rfl) (by kernel_rfl) ?_
        repeat (go_big_quiet_step ((with_reducible exact Calls.regrown_of (leftB W.heap.size st2 _ (qa2.on (below_regrown _ _ _))))))
        refine wpQuiet_nil ?_
        intro _ hw'
        obtain ⟨⟨dq, osq⟩, hw''⟩ := hw'
        subst hw''
        have hq := below_regrown w3 dq osq
        clear y0
        go_wp2_with fail
        go_roundw
        case rel => exact ⟨i + 1, st2, by go_num, by omega, by omega, qa2.on hq, qb2.on hq, hB2.trans (hq.mono hB2.size)⟩
        case measure => simp [intOf]; omega
      · have hm : c % 5 = 1 := by omega
        have hleft := int_left st
        obtain ⟨⟨n, e1, st2⟩, hr⟩ : ∃ r, r = intS st := ⟨_, rfl⟩
        have HA := intRC W.heap.size st hs2
        have HB := rintRC gb st hs2
        rw [← hr] at hleft HA HB
        dsimp only at hleft HA HB
        clear hr
        go_wp2_with fail
        refine (HA _ qa).mono ?_
        clear HA
        rintro e w2 ⟨rfl, qa1, hg1⟩
        have qb1 := qb.far hg1 (Ne.symm nab)
        have hB1 := gr_bel hB hg1 zB (Nat.le_refl _)
        have zB1 := hB1.size
        clear hg1
        go_wp2_with fail
        refine (HB _ qb1).mono ?_
        clear HB
        rintro e w3 ⟨rfl, qb2, hg2⟩
        have qa2 := qa1.far hg2 nab
        have hB2 := gr_bel hB1 hg2 zB1 nb
        clear hg2
        go_wp2_with fail
        have y0 := cell_regrown qb2.c0
        (try dsimp only [List.append])
        refine wp_region_quiet_below (by kernel_rfl) (by kernel_rfl) ?_
        repeat (go_big_quiet_step ((with_reducible exact Calls.regrown_of (leftB W.heap.size st2 _ (qa2.on (below_regrown _ _ _))))))
        refine wpQuiet_nil ?_
        intro _ hw'
        obtain ⟨⟨dq, osq⟩, hw''⟩ := hw'
        subst hw''
        have hq := below_regrown w3 dq osq
        clear y0
        go_wp2_with fail
        go_roundw
        case rel => exact ⟨i + 1, st2, by go_num, by omega, by omega, qa2.on hq, qb2.on hq, hB2.trans (hq.mono hB2.size)⟩
        case measure => simp [intOf]; omega
      · have hm : c % 5 = 2 := by omega
        have hleft := text_left most st
        obtain ⟨⟨y, e1, st2⟩, hr⟩ : ∃ r, r = textS most st := ⟨_, rfl⟩
        have HA := textRC W.heap.size most st hs2
        have HB := rtextRC gb most st hs2
        rw [← hr] at hleft HA HB
        dsimp only at hleft HA HB
        clear hr
        go_wp2_with fail
        refine (HA _ qa).mono ?_
        clear HA
        rintro e w2 ⟨rfl, qa1, hg1⟩
        have qb1 := qb.far hg1 (Ne.symm nab)
        have hB1 := gr_bel hB hg1 zB (Nat.le_refl _)
        have zB1 := hB1.size
        clear hg1
        go_wp2_with fail
        refine (HB _ qb1).mono ?_
        clear HB
        rintro e w3 ⟨rfl, qb2, hg2⟩
        have qa2 := qa1.far hg2 nab
        have hB2 := gr_bel hB1 hg2 zB1 nb
        clear hg2
        go_wp2_with fail
        have y0 := cell_regrown qb2.c0
        (try dsimp only [List.append])
        refine wp_region_quiet_below (by kernel_rfl) (by kernel_rfl) ?_
        repeat (go_big_quiet_step ((with_reducible exact Calls.regrown_of (leftB W.heap.size st2 _ (qa2.on (below_regrown _ _ _))))))
        refine wpQuiet_nil ?_
        intro _ hw'
        obtain ⟨⟨dq, osq⟩, hw''⟩ := hw'
        subst hw''
        have hq := below_regrown w3 dq osq
        clear y0
        go_wp2_with fail
        go_roundw
        case rel => exact ⟨i + 1, st2, by go_num, by omega, by omega, qa2.on hq, qb2.on hq, hB2.trans (hq.mono hB2.size)⟩
        case measure => simp [intOf]; omega
      · have hm : c % 5 = 3 := by omega
        have hleft := val_left st
        obtain ⟨⟨⟨vk, vn, vt⟩, e1, st2⟩, hr⟩ : ∃ r, r = valS st := ⟨_, rfl⟩
        have HA := valRC W.heap.size st hs2
        have HB := rvalRC gb st hs2
        rw [← hr] at hleft HA HB
        dsimp only at hleft HA HB
        clear hr
        go_wp2_with fail
        refine (HA _ qa).mono ?_
        clear HA
        rintro e w2 ⟨rfl, qa1, hg1⟩
        have qb1 := qb.far hg1 (Ne.symm nab)
        have hB1 := gr_bel hB hg1 zB (Nat.le_refl _)
        have zB1 := hB1.size
        clear hg1
        have v1 : Bv w2.heap.size ⟨vk, vn, vt⟩ (w2.alloc (.cells #[.int .u8 vk, .int .i64 vn, .string vt] 23)) := Bv.new
        have ngv : w2.heap.size ≠ gb := by have := qb1.lt; omega
        go_wp2_with fail
        refine (HB _ (qb1.alloc _)).mono ?_
        clear HB
        rintro e w3 ⟨rfl, qb2', hg2⟩
        have qa2' := (qa1.alloc (.cells #[.int .u8 vk, .int .i64 vn, .string vt] 23)).far hg2 nab
        have hB2' := gr_bel (hB1.alloc zB1 (.cells #[.int .u8 vk, .int .i64 vn, .string vt] 23)) hg2 (by simp; omega) nb
        have v2 := v1.far hg2 ngv
        have zv2 := v2.lt
        have v3 := v2.alloc (.cells #[.int .u8 vk, .int .i64 vn, .string vt] 23)
        have k0 := v2.c0
        have k1 := v2.c1
        have k2 := v2.c2
        dsimp only at k0 k1 k2
        have qa2 := qa2'.alloc (.cells #[.int .u8 vk, .int .i64 vn, .string vt] 23)
        have qb2 := qb2'.alloc (.cells #[.int .u8 vk, .int .i64 vn, .string vt] 23)
        have hB2 := hB2'.alloc (by have := hB2'.size; omega) (.cells #[.int .u8 vk, .int .i64 vn, .string vt] 23)
        clear hg2 v1 v2 v3 qa2' qb2' hB2'
        go_wp2_with fail
        have y0 := cell_regrown qb2.c0
        (try dsimp only [List.append])
        refine wp_region_quiet_below (by kernel_rfl) (by kernel_rfl) ?_
        repeat (go_big_quiet_step ((with_reducible exact Calls.regrown_of (leftB W.heap.size st2 _ (qa2.on (below_regrown _ _ _))))))
        refine wpQuiet_nil ?_
        intro _ hw'
        obtain ⟨⟨dq, osq⟩, hw''⟩ := hw'
        subst hw''
        have hq := below_regrown (w3.alloc (.cells #[.int .u8 vk, .int .i64 vn, .string vt] 23)) dq osq
        clear y0
        go_wp2_with fail
        go_roundw
        case rel => exact ⟨i + 1, st2, by go_num, by omega, by omega, qa2.on hq, qb2.on hq, hB2.trans (hq.mono hB2.size)⟩
        case measure => simp [intOf]; omega
      · have hm : c % 5 = 4 := by omega
        have hleft := end_left st
        obtain ⟨⟨e1, st2⟩, hr⟩ : ∃ r, r = endS st := ⟨_, rfl⟩
        have HA := endRC W.heap.size st
        have HB := rendRC gb st
        rw [← hr] at hleft HA HB
        dsimp only at hleft HA HB
        clear hr
        go_wp2_with fail
        refine (HA _ qa).mono ?_
        clear HA
        rintro e w2 ⟨rfl, qa1, hg1⟩
        have qb1 := qb.far hg1 (Ne.symm nab)
        have hB1 := gr_bel hB hg1 zB (Nat.le_refl _)
        have zB1 := hB1.size
        clear hg1
        go_wp2_with fail
        refine (HB _ qb1).mono ?_
        clear HB
        rintro e w3 ⟨rfl, qb2, hg2⟩
        have qa2 := qa1.far hg2 nab
        have hB2 := gr_bel hB1 hg2 zB1 nb
        clear hg2
        go_wp2_with fail
        have y0 := cell_regrown qb2.c0
        (try dsimp only [List.append])
        refine wp_region_quiet_below (by kernel_rfl) (by kernel_rfl) ?_
        repeat (go_big_quiet_step ((with_reducible exact Calls.regrown_of (leftB W.heap.size st2 _ (qa2.on (below_regrown _ _ _))))))
        refine wpQuiet_nil ?_
        intro _ hw'
        obtain ⟨⟨dq, osq⟩, hw''⟩ := hw'
        subst hw''
        have hq := below_regrown w3 dq osq
        clear y0
        go_wp2_with fail
        go_roundw
        case rel => exact ⟨i + 1, st2, by go_num, by omega, by omega, qa2.on hq, qb2.on hq, hB2.trans (hq.mono hB2.size)⟩
        case measure => simp [intOf]; omega
    · have hie : ¬ (i : Int) < (len : Int) := by omega
      have hie2 : decide (i < len) = false := by simp; omega
      go_wp2_with (go_at_call 10; refine (awakeC _).mono ?_; rintro e w9 ⟨rfl, hb9⟩; have zhb9 := hb9.size; (try simp only [World.size_alloc, World.size_setCell, World.heap_drewN, World.size_drew] at zhb9))
      go_ret
      exact ⟨rfl, hB.trans (hb9.mono hB.size)⟩
theorem walkR (s : ByteArray) (v : Value) (most : Int) (W : World) (w0 : s.size ≤ 140737488351232) (w1 : Wv.IntsAt W .u8 v) (w2 : (Lit.int .i64 most).wf = true) : Calls Try.prog 7 #[.string s, v, .int .i64 most] W fun e W' => e = .returned (.bool true) ∧ Below W.heap.size W W' := by
  obtain ⟨a, len, cap, zs, rfl, hl, hc, hm, hcell, hwf⟩ := w1
  by_cases h : (2000 : Int) < s.size ∨ (300 : Int) < len
  · exact long s a len cap most W h
  by_cases h0 : len = 0
  · exact none0 s a len cap most W (by omega) (by omega) h0
  · obtain ⟨b, off, rfl, hcc⟩ := hcell (by omega)
    have hz : ∀ i, 0 ≤ zs.getD i 0 ∧ zs.getD i 0 ≤ 255 := by
      intro i
      rw [List.getD_eq_getElem?_getD]
      by_cases hi : i < zs.length
      · rw [List.getElem?_eq_getElem hi, Option.getD_some]
        exact bndK (hwf _ (List.getElem_mem hi))
      · rw [List.getElem?_eq_none (by omega), Option.getD_none]
        omega
    exact some1 s b off len cap most zs W (by omega) (by omega) hcc (fun i => (hz i).1) (fun i => (hz i).2)
end Go.Proofs.Ytijhdnpaeliaoaa.LawWireReads
