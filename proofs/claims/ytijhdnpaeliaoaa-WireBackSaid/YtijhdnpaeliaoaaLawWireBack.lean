/- WireBack: the walk of the law, from the contracts of the writers and the reader. Conditions: what the opened arguments tell. -/
import Derived.Test.YtijhdnpaeliaoaaWr
import Derived.Test.YtijhdnpaeliaoaaWy
import Derived.BigQuiet
namespace Go.Proofs.Ytijhdnpaeliaoaa.LawWireBack
open Go.RowKit Go.Sort Go.Proofs.Ytijhdnpaeliaoaa.Wm Go.Proofs.Ytijhdnpaeliaoaa.Wa Go.Proofs.Ytijhdnpaeliaoaa.Wc Go.Proofs.Ytijhdnpaeliaoaa.Wd Go.Proofs.Ytijhdnpaeliaoaa.We Go.Proofs.Ytijhdnpaeliaoaa.Wf Go.Proofs.Ytijhdnpaeliaoaa.Wg Go.Proofs.Ytijhdnpaeliaoaa.Wh Go.Proofs.Ytijhdnpaeliaoaa.Wi Go.Proofs.Ytijhdnpaeliaoaa.Wj Go.Proofs.Ytijhdnpaeliaoaa.Wp Go.Proofs.Ytijhdnpaeliaoaa.Wr Go.Proofs.Ytijhdnpaeliaoaa.Wv Go.Proofs.Ytijhdnpaeliaoaa.Wy
set_option linter.unusedVariables false
set_option linter.unusedSimpArgs false
set_option maxRecDepth 100000
theorem long (a0 a1 a2 a3 : Option Addr) (n0 c0 n1 c1 n2 c2 n3 c3 : Nat) (tl : ByteArray) (W : World) (h : (50 : Int) < n0 ∨ (50 : Int) < n1 ∨ (50 : Int) < n2 ∨ (50 : Int) < n3 ∨ (1000 : Int) < tl.size) : Calls Try.prog 9 #[.slice a0 n0 c0, .slice a1 n1 c1, .slice a2 n2 c2, .slice a3 n3 c3, .string tl] W fun e W' => e = .returned (.bool true) ∧ Below W.heap.size W W' := by
  by_cases h0 : (50 : Int) < n0
  · clear h
    go_enter Try.func9, Try.ntmps9
    go_wp2_with (go_at_call 10; refine (awakeC _).mono ?_; rintro e w1 ⟨rfl, hb1⟩; have zhb1 := hb1.size; (try simp only [World.size_alloc, World.size_setCell, World.heap_drewN, World.size_drew] at zhb1))
    go_ret
    exact ⟨rfl, by (repeat' (first | (with_reducible exact Below.refl _ _) | (with_reducible assumption) | (with_reducible refine Below.alloc ?_ ?_ _) | (with_reducible refine Below.drew ?_) | (with_reducible refine below_drewN ?_ _) | (with_reducible refine Below.setCell ?_ ?_ _) | (with_reducible refine Below.trans ?_ (Below.mono (by with_reducible assumption) ?_)) | (simp only [World.size_alloc, World.size_setCell, World.heap_drewN, World.size_drew]; omega) | omega | (simp; omega) | (simp; done)))⟩
  by_cases h1 : (50 : Int) < n1
  · clear h
    go_enter Try.func9, Try.ntmps9
    go_wp2_with (go_at_call 10; refine (awakeC _).mono ?_; rintro e w1 ⟨rfl, hb1⟩; have zhb1 := hb1.size; (try simp only [World.size_alloc, World.size_setCell, World.heap_drewN, World.size_drew] at zhb1))
    go_ret
    exact ⟨rfl, by (repeat' (first | (with_reducible exact Below.refl _ _) | (with_reducible assumption) | (with_reducible refine Below.alloc ?_ ?_ _) | (with_reducible refine Below.drew ?_) | (with_reducible refine below_drewN ?_ _) | (with_reducible refine Below.setCell ?_ ?_ _) | (with_reducible refine Below.trans ?_ (Below.mono (by with_reducible assumption) ?_)) | (simp only [World.size_alloc, World.size_setCell, World.heap_drewN, World.size_drew]; omega) | omega | (simp; omega) | (simp; done)))⟩
  by_cases h2 : (50 : Int) < n2
  · clear h
    go_enter Try.func9, Try.ntmps9
    go_wp2_with (go_at_call 10; refine (awakeC _).mono ?_; rintro e w1 ⟨rfl, hb1⟩; have zhb1 := hb1.size; (try simp only [World.size_alloc, World.size_setCell, World.heap_drewN, World.size_drew] at zhb1))
    go_ret
    exact ⟨rfl, by (repeat' (first | (with_reducible exact Below.refl _ _) | (with_reducible assumption) | (with_reducible refine Below.alloc ?_ ?_ _) | (with_reducible refine Below.drew ?_) | (with_reducible refine below_drewN ?_ _) | (with_reducible refine Below.setCell ?_ ?_ _) | (with_reducible refine Below.trans ?_ (Below.mono (by with_reducible assumption) ?_)) | (simp only [World.size_alloc, World.size_setCell, World.heap_drewN, World.size_drew]; omega) | omega | (simp; omega) | (simp; done)))⟩
  by_cases h3 : (50 : Int) < n3
  · clear h
    go_enter Try.func9, Try.ntmps9
    go_wp2_with (go_at_call 10; refine (awakeC _).mono ?_; rintro e w1 ⟨rfl, hb1⟩; have zhb1 := hb1.size; (try simp only [World.size_alloc, World.size_setCell, World.heap_drewN, World.size_drew] at zhb1))
    go_ret
    exact ⟨rfl, by (repeat' (first | (with_reducible exact Below.refl _ _) | (with_reducible assumption) | (with_reducible refine Below.alloc ?_ ?_ _) | (with_reducible refine Below.drew ?_) | (with_reducible refine below_drewN ?_ _) | (with_reducible refine Below.setCell ?_ ?_ _) | (with_reducible refine Below.trans ?_ (Below.mono (by with_reducible assumption) ?_)) | (simp only [World.size_alloc, World.size_setCell, World.heap_drewN, World.size_drew]; omega) | omega | (simp; omega) | (simp; done)))⟩
  have h4 : (1000 : Int) < tl.size := by omega
  clear h
  go_enter Try.func9, Try.ntmps9
  go_wp2_with (go_at_call 10; refine (awakeC _).mono ?_; rintro e w1 ⟨rfl, hb1⟩; have zhb1 := hb1.size; (try simp only [World.size_alloc, World.size_setCell, World.heap_drewN, World.size_drew] at zhb1))
  go_ret
  exact ⟨rfl, by (repeat' (first | (with_reducible exact Below.refl _ _) | (with_reducible assumption) | (with_reducible refine Below.alloc ?_ ?_ _) | (with_reducible refine Below.drew ?_) | (with_reducible refine below_drewN ?_ _) | (with_reducible refine Below.setCell ?_ ?_ _) | (with_reducible refine Below.trans ?_ (Below.mono (by with_reducible assumption) ?_)) | (simp only [World.size_alloc, World.size_setCell, World.heap_drewN, World.size_drew]; omega) | omega | (simp; omega) | (simp; done)))⟩
theorem mkT (n : Nat) (h : n ≤ 50) (w : World) : (Instr.makeSlice 60 (.int .i64 (n : Int)) (.int .i64 (n : Int))).run Try.prog w = .ok (.slice (some ⟨w.heap.size, 0, none⟩) n n) (w.alloc (.cells (madeCells #[.bool false] n) 4)) := by
  have hz : (Try.prog.info? 4).map (fun i => (i.zero, i.size, i.bytes)) = some (some (.bool false), 1, 1) := by kernel_rfl
  obtain ⟨i0, hi, hz3⟩ := Option.map_eq_some_iff.1 hz
  simp only [Prod.mk.injEq] at hz3
  obtain ⟨hz0, hz1, hz2⟩ := hz3
  have h := run_make (P := Try.prog) w 60 4 i0 (.bool false) Try.underlying60 hi hz0 .i64 .i64 n n (by omega) (by omega) (by rw [hz2]; omega) (by omega)
  simpa [hz1, Value.cells] using h
theorem told0 (n : Nat) (f : Nat → Bool) (w : World) : Flags w.heap.size n f 0 (w.alloc (.cells (madeCells #[.bool false] n) 4)) := by
  refine ⟨by simp, fun i hi => ⟨false, ?_, fun h => absurd h (by omega)⟩, fun j => by simp [go_sem]⟩
  have h1 : (madeCells #[.bool false] n)[i]? = some (.bool false) := by
    unfold madeCells
    simp [hi, Nat.mod_one]
  simp [go_sem, h1]
theorem valCc (s : ByteArray) (v : V) (c : Int) (t : ByteArray) (hc : valE v = c) (ht : B (s.data.toList ++ valX v) = t) (hs : s.size ≤ 1099511627) (h0 : 0 ≤ v.k) (h1 : -9223372036854775808 ≤ v.n) (h2 : v.n ≤ 9223372036854775807) (w : World) : Calls Try.prog 13 #[.string s, .agg #[.int .u8 v.k, .int .i64 v.n, .string v.t]] w fun e w' => e = .returned (.tuple #[.string t, .int .i64 c]) ∧ Below w.heap.size w w' := by
  refine (valC s v hs h0 h1 h2 w).mono ?_
  rintro e w1 ⟨rfl, hb⟩
  rw [valR_s, hc, ht]
  exact ⟨rfl, hb⟩
theorem gr_bel {B g : Nat} {a b c : World} (h : Below B a b) (hg : b.grownBy c (some g)) (hB : B ≤ b.heap.size) (hr : B ≤ g) : Below B a c := h.grown hg hB (fun k hk => by cases hk; exact hr)
set_option maxHeartbeats 16000000 in
theorem short (a0 a1 a2 a3 : Option Addr) (n0 c0 n1 c1 n2 c2 n3 c3 : Nat) (tl : ByteArray) (W : World) (z0 z1 : Nat → Int) (t2 : Nat → ByteArray) (x3 : Nat → V)
    (g0 : ¬ (50 : Int) < n0) (g1 : ¬ (50 : Int) < n1) (g2 : ¬ (50 : Int) < n2) (g3 : ¬ (50 : Int) < n3) (g4 : ¬ (1000 : Int) < tl.size)
    (H0 : 0 < n0 → ∃ b off, a0 = some ⟨b, off, none⟩ ∧ ∀ i, i < n0 → W.cell? ⟨b, off + i, none⟩ = some (.int .i64 (z0 i)))
    (H1 : 0 < n1 → ∃ b off, a1 = some ⟨b, off, none⟩ ∧ ∀ i, i < n1 → W.cell? ⟨b, off + i, none⟩ = some (.int .i64 (z1 i)))
    (H2 : 0 < n2 → ∃ b off, a2 = some ⟨b, off, none⟩ ∧ ∀ i, i < n2 → W.cell? ⟨b, off + i, none⟩ = some (.string (t2 i)))
    (H3 : 0 < n3 → ∃ b off, a3 = some ⟨b, off, none⟩ ∧ ∀ i, i < n3 → W.cell? ⟨b, off + i * 3, none⟩ = some (.int .u8 (x3 i).k) ∧ W.cell? ⟨b, off + i * 3 + 1, none⟩ = some (.int .i64 (x3 i).n) ∧ W.cell? ⟨b, off + i * 3 + 2, none⟩ = some (.string (x3 i).t))
    (b1 : ∀ i, i < n1 → -9223372036854775808 ≤ z1 i ∧ z1 i ≤ 9223372036854775807)
    (b3 : ∀ i, i < n3 → 0 ≤ (x3 i).k ∧ -9223372036854775808 ≤ (x3 i).n ∧ (x3 i).n ≤ 9223372036854775807) :
    Calls Try.prog 9 #[.slice a0 n0 c0, .slice a1 n1 c1, .slice a2 n2 c2, .slice a3 n3 c3, .string tl] W fun e W' => e = .returned (.bool true) ∧ Below W.heap.size W W' := by
  have G0 := Lib.hid H0
  have G1 := Lib.hid H1
  have G2 := Lib.hid H2
  have G3 := Lib.hid H3
  have D1 := Lib.hid b1
  have D3 := Lib.hid b3
  clear H0 H1 H2 H3 b1 b3
  go_enter Try.func9, Try.ntmps9
  go_wp2_with fail
  refine (awakeC _).mono ?_
  rintro e w1 ⟨rfl, hB⟩
  go_wp2_with fail
  go_loopw [13, 11] (fun iv sv wr => ∃ i : Nat, iv = .int .i64 (i : Int) ∧ i ≤ n0 ∧ sv = .string (B (fw (fun j => numL (z0 j)) 0 i)) ∧ Below W.heap.size W wr) (fun iv _ _ => n0 - (intOf iv).toNat)
  case atStart => exact ⟨0, rfl, Nat.zero_le _, rfl, hB⟩
  case round =>
    clear hB
    obtain ⟨i, rfl, hi, rfl, hB⟩ := hrel
    have zB := hB.size
    by_cases hlt : i < n0
    · have hltI : (i : Int) < (n0 : Int) := by omega
      obtain ⟨b, off, rfl, hc⟩ := G0.out (by omega)
      have q := (hB.cell (p := ⟨b, off + i, none⟩) (World.block_lt_of_cell? W ⟨b, off + i, none⟩ (hc i hlt))).trans (hc i hlt)
      have hll := World.block_lt_of_cell? wr ⟨b, off + i, none⟩ q
      have hsz : (B (fw (fun j => numL (z0 j)) 0 i)).size ≤ 1099511627776 := by
        have := fw_len (fun j => numL (z0 j)) 10 n0 (fun j _ => numL_len _) i 0 (by omega)
        rw [B_size]; omega
      have hnext : B ((B (fw (fun j => numL (z0 j)) 0 i)).data.toList ++ numL (z0 i)) = B (fw (fun j => numL (z0 j)) 0 (i + 1)) := by rw [B_list, fw_snoc, Nat.zero_add]
      have HN := Lib.hid hnext
      clear hnext hc G0
      have hE : numE (z0 i) = if z0 i < 0 ∨ 1099511627776 < z0 i then 1 else 0 := rfl
      generalize (B (fw (fun j => numL (z0 j)) 0 i)) = s at *
      generalize hx : z0 i = x at *
      clear hx G1 G2 G3 D1 D3
      by_cases hneg : x < 0
      · rw [if_pos (Or.inl hneg)] at hE
        have t1 : ¬ 0 ≤ x := by omega
        have t1b : decide (0 ≤ x) = false := by simpa using hneg
        go_wp2_with fail
        refine (numC s x hsz _).mono ?_
        rw [numR_s]
        dsimp only
        rw [hE, HN.out]
        rintro e w2 ⟨rfl, hb2⟩
        have q2 := (hb2.cell (p := ⟨b, off + i, none⟩) hll).trans q
        go_wp2_with fail
        go_roundw
        case rel => exact ⟨i + 1, by go_num, by omega, rfl, hB.trans (hb2.mono zB)⟩
        case measure => simp [intOf]; omega
      by_cases hbig : 1099511627776 < x
      · rw [if_pos (Or.inr hbig)] at hE
        have t1 : 0 ≤ x := by omega
        have t2b : ¬ x ≤ 1099511627776 := by omega
        have t3b : decide (x ≤ 1099511627776) = false := by simpa using hbig
        go_wp2_with fail
        refine (numC s x hsz _).mono ?_
        rw [numR_s]
        dsimp only
        rw [hE, HN.out]
        rintro e w2 ⟨rfl, hb2⟩
        have q2 := (hb2.cell (p := ⟨b, off + i, none⟩) hll).trans q
        go_wp2_with fail
        go_roundw
        case rel => exact ⟨i + 1, by go_num, by omega, rfl, hB.trans (hb2.mono zB)⟩
        case measure => simp [intOf]; omega
      · rw [if_neg (by omega)] at hE
        have t1 : 0 ≤ x := by omega
        have t2b : x ≤ 1099511627776 := by omega
        go_wp2_with fail
        refine (numC s x hsz _).mono ?_
        rw [numR_s]
        dsimp only
        rw [hE, HN.out]
        rintro e w2 ⟨rfl, hb2⟩
        have q2 := (hb2.cell (p := ⟨b, off + i, none⟩) hll).trans q
        go_wp2_with fail
        go_roundw
        case rel => exact ⟨i + 1, by go_num, by omega, rfl, hB.trans (hb2.mono zB)⟩
        case measure => simp [intOf]; omega
    · have hie : ¬ (i : Int) < (n0 : Int) := by omega
      have hin : n0 = i := by omega
      subst hin
      clear hlt hi
      have l0 : (fw (fun j => numL (z0 j)) 0 n0).length ≤ 10 * n0 := fw_len _ 10 n0 (fun j _ => numL_len _) n0 0 (by omega)
      obtain ⟨P0, hP0⟩ : ∃ l, l = fw (fun j => numL (z0 j)) 0 n0 := ⟨_, rfl⟩
      have m0 : P0.length ≤ 500 := by rw [hP0]; omega
      rw [← hP0]
      have E0 := Lib.hid hP0
      clear hP0 l0
      go_wp2_with fail
      go_loopw [14, 11] (fun iv sv wr => ∃ i : Nat, iv = .int .i64 (i : Int) ∧ i ≤ n1 ∧ sv = .string (B (P0 ++ fw (fun j => enc (zz (z1 j))) 0 i)) ∧ Below W.heap.size W wr) (fun iv _ _ => n1 - (intOf iv).toNat)
      case atStart => exact ⟨0, rfl, Nat.zero_le _, by rw [fw_zero, List.append_nil], hB⟩
      case round =>
        clear hB zB
        obtain ⟨i, rfl, hi, rfl, hB⟩ := hrel
        have zB := hB.size
        by_cases hlt : i < n1
        · have hltI : (i : Int) < (n1 : Int) := by omega
          obtain ⟨b, off, rfl, hc⟩ := G1.out (by omega)
          have q := (hB.cell (p := ⟨b, off + i, none⟩) (World.block_lt_of_cell? W ⟨b, off + i, none⟩ (hc i hlt))).trans (hc i hlt)
          have hll := World.block_lt_of_cell? wr ⟨b, off + i, none⟩ q
          have hbd := D1.out i hlt
          have hfl : (fw (fun j => enc (zz (z1 j))) 0 i).length ≤ 10 * i := fw_len _ 10 n1 (fun j hj => intL_len _ (D1.out j hj).1 (D1.out j hj).2) i 0 (by omega)
          have hsz : (B (P0 ++ fw (fun j => enc (zz (z1 j))) 0 i)).size ≤ 1099511627 := by
            rw [B_size, List.length_append]; omega
          have hnext : B ((B (P0 ++ fw (fun j => enc (zz (z1 j))) 0 i)).data.toList ++ enc (zz (z1 i))) = B (P0 ++ fw (fun j => enc (zz (z1 j))) 0 (i + 1)) := by rw [B_list, fw_snoc, Nat.zero_add, List.append_assoc]
          have HN := Lib.hid hnext
          clear hnext hfl
          generalize (B (P0 ++ fw (fun j => enc (zz (z1 j))) 0 i)) = s at *
          generalize hx : z1 i = x at *
          clear hx hc G0 G1 G2 G3 D1 D3
          go_wp2_with fail
          refine (intC s x (by omega) hbd.1 hbd.2 _).mono ?_
          rw [intW_s, HN.out]
          rintro e w2 ⟨rfl, hb2⟩
          go_wp2_with fail
          go_roundw
          case rel => exact ⟨i + 1, by go_num, by omega, rfl, hB.trans (hb2.mono zB)⟩
          case measure => simp [intOf]; omega
        · have hie : ¬ (i : Int) < (n1 : Int) := by omega
          have hin : n1 = i := by omega
          subst hin
          clear hlt hi
          have l1 : (fw (fun j => enc (zz (z1 j))) 0 n1).length ≤ 10 * n1 := fw_len _ 10 n1 (fun j hj => intL_len _ (D1.out j hj).1 (D1.out j hj).2) n1 0 (by omega)
          obtain ⟨P1, hP1⟩ : ∃ l, l = P0 ++ fw (fun j => enc (zz (z1 j))) 0 n1 := ⟨_, rfl⟩
          have m1 : P1.length ≤ 1000 := by rw [hP1]; rw [List.length_append]; omega
          rw [← hP1]
          have E1 := Lib.hid hP1
          clear hP1 l1
          go_wp2_with fail
          go_loopw [15, 11] (fun iv sv wr => ∃ i : Nat, iv = .int .i64 (i : Int) ∧ i ≤ n2 ∧ sv = .string (B (P1 ++ fw (fun j => textL (t2 j)) 0 i)) ∧ (∀ j, j < i → (t2 j).size ≤ 500) ∧ Below W.heap.size W wr) (fun iv _ _ => n2 - (intOf iv).toNat)
          case atStart => exact ⟨0, rfl, Nat.zero_le _, by rw [fw_zero, List.append_nil], fun j h => absurd h (by omega), hB⟩
          case round =>
            clear hB zB
            obtain ⟨i, rfl, hi, rfl, hT2, hB⟩ := hrel
            have zB := hB.size
            by_cases hlt : i < n2
            · have hltI : (i : Int) < (n2 : Int) := by omega
              obtain ⟨b, off, rfl, hc⟩ := G2.out (by omega)
              have q := (hB.cell (p := ⟨b, off + i, none⟩) (World.block_lt_of_cell? W ⟨b, off + i, none⟩ (hc i hlt))).trans (hc i hlt)
              have hll := World.block_lt_of_cell? wr ⟨b, off + i, none⟩ q
              by_cases hbig : (500 : Int) < ((t2 i).size : Int)
              · clear hc G0 G1 G2 G3 D1 D3 hT2
                generalize t2 i = y at *
                go_wp2_with fail
                go_ret
                exact ⟨rfl, hB⟩
              · have hys : (t2 i).size ≤ 500 := by omega
                have hT2n : ∀ j, j < i + 1 → (t2 j).size ≤ 500 := fun j hj => by
                  by_cases h : j < i
                  · exact hT2 j h
                  · have : j = i := by omega
                    rw [this]; exact hys
                have HT2n := Lib.hid hT2n
                clear hT2n
                have hfl : (fw (fun j => textL (t2 j)) 0 i).length ≤ 600 * i := fw_len _ 600 i (fun j hj => textL_len _ (hT2 j hj)) i 0 (by omega)
                have hsz : (B (P1 ++ fw (fun j => textL (t2 j)) 0 i)).size ≤ 1099511627 := by
                  rw [B_size, List.length_append]; omega
                have hnext : B ((B (P1 ++ fw (fun j => textL (t2 j)) 0 i)).data.toList ++ (enc (t2 i).size ++ (t2 i).data.toList)) = B (P1 ++ fw (fun j => textL (t2 j)) 0 (i + 1)) := by rw [B_list, fw_snoc, Nat.zero_add, List.append_assoc]; rfl
                have HN := Lib.hid hnext
                clear hnext hfl
                generalize (B (P1 ++ fw (fun j => textL (t2 j)) 0 i)) = s at *
                clear hT2
                generalize hx : t2 i = y at *
                clear hx hc G0 G1 G2 G3 D1 D3
                go_wp2_with fail
                refine (textC s y (by omega) (by omega) _).mono ?_
                rw [textW_s, HN.out]
                rintro e w2 ⟨rfl, hb2⟩
                go_wp2_with fail
                go_roundw
                case rel => exact ⟨i + 1, by go_num, by omega, rfl, HT2n.out, hB.trans (hb2.mono zB)⟩
                case measure => simp [intOf]; omega
            · have hie : ¬ (i : Int) < (n2 : Int) := by omega
              have hin : n2 = i := by omega
              subst hin
              clear hlt hi
              have l2 : (fw (fun j => textL (t2 j)) 0 n2).length ≤ 600 * n2 := fw_len _ 600 n2 (fun j hj => textL_len _ (hT2 j hj)) n2 0 (by omega)
              obtain ⟨P2, hP2⟩ : ∃ l, l = P1 ++ fw (fun j => textL (t2 j)) 0 n2 := ⟨_, rfl⟩
              have m2 : P2.length ≤ 31000 := by rw [hP2]; rw [List.length_append]; omega
              rw [← hP2]
              have E2 := Lib.hid hP2
              clear hP2 l2
              have HT2 := Lib.hid hT2
              clear hT2
              have hmk := mkT n3 (by omega)
              have hto := told0 n3 (fun j => mayK (x3 j)) wr
              have hB4 : Below W.heap.size W (wr.alloc (.cells (madeCells #[.bool false] n3) 4)) := hB.alloc zB _
              go_wp2_with fail
              clear hmk
              generalize (wr.alloc (.cells (madeCells #[.bool false] n3) 4)) = w4 at *
              generalize wr.heap.size = gt at *
              clear hB
              go_loopw [17, 11] (fun iv sv wr => ∃ i : Nat, iv = .int .i64 (i : Int) ∧ i ≤ n3 ∧ sv = .string (B (P2 ++ fw (fun j => valX (x3 j)) 0 i)) ∧ (∀ j, j < i → (x3 j).t.size ≤ 500) ∧ Flags gt n3 (fun j => mayK (x3 j)) i wr ∧ Below W.heap.size W wr) (fun iv _ _ => n3 - (intOf iv).toNat)
              case atStart => exact ⟨0, rfl, Nat.zero_le _, by rw [fw_zero, List.append_nil], fun j h => absurd h (by omega), hto, hB4⟩
              case round =>
                clear hB4 hto
                obtain ⟨i, rfl, hi, rfl, hT3, hto, hB⟩ := hrel
                have zg := zB
                clear zB
                have zB := hB.size
                by_cases hlt : i < n3
                · have hltI : (i : Int) < (n3 : Int) := by omega
                  obtain ⟨b, off, rfl, hc⟩ := G3.out (by omega)
                  have q0 := (hB.cell (p := ⟨b, off + i * 3, none⟩) (World.block_lt_of_cell? W ⟨b, off + i * 3, none⟩ (hc i hlt).1)).trans (hc i hlt).1
                  have q1 := (hB.cell (p := ⟨b, off + i * 3 + 1, none⟩) (World.block_lt_of_cell? W ⟨b, off + i * 3 + 1, none⟩ (hc i hlt).2.1)).trans (hc i hlt).2.1
                  have q2 := (hB.cell (p := ⟨b, off + i * 3 + 2, none⟩) (World.block_lt_of_cell? W ⟨b, off + i * 3 + 2, none⟩ (hc i hlt).2.2)).trans (hc i hlt).2.2
                  have hll := World.block_lt_of_cell? wr ⟨b, off + i * 3, none⟩ q0
                  by_cases hbig : (500 : Int) < ((x3 i).t.size : Int)
                  · clear hc G0 G1 G2 G3 D1 D3 hT3 hto
                    go_wp2_with fail
                    go_ret
                    exact ⟨rfl, hB⟩
                  · have hys : (x3 i).t.size ≤ 500 := by omega
                    have hT3n : ∀ j, j < i + 1 → (x3 j).t.size ≤ 500 := fun j hj => by
                      by_cases h : j < i
                      · exact hT3 j h
                      · have : j = i := by omega
                        rw [this]; exact hys
                    have HT3n := Lib.hid hT3n
                    clear hT3n
                    have hbd := D3.out i hlt
                    have hfl : (fw (fun j => valX (x3 j)) 0 i).length ≤ 600 * i := fw_len _ 600 i (fun j hj => valX_len _ (D3.out j (by omega)).2.1 (D3.out j (by omega)).2.2 (hT3 j hj)) i 0 (by omega)
                    have hsz : (B (P2 ++ fw (fun j => valX (x3 j)) 0 i)).size ≤ 1099511627 := by
                      rw [B_size, List.length_append]; omega
                    have hnext : B ((B (P2 ++ fw (fun j => valX (x3 j)) 0 i)).data.toList ++ valX (x3 i)) = B (P2 ++ fw (fun j => valX (x3 j)) 0 (i + 1)) := by rw [B_list, fw_snoc, Nat.zero_add, List.append_assoc]
                    have HN := Lib.hid hnext
                    clear hnext hfl
                    generalize (B (P2 ++ fw (fun j => valX (x3 j)) 0 i)) = s at *
                    clear hT3
                    have hpt := fun b hb (w : World) (h : Flags gt n3 (fun j => mayK (x3 j)) i w) => h.put hlt b hb
                    have HPT := Lib.hid hpt
                    clear hpt
                    clear hc G0 G1 G2 G3 D1 D3
                    cases hm : mayK (x3 i)
                    · have hE : valE (x3 i) = 4 := by unfold valE; rw [hm]; rfl
                      have HM := Lib.hid hm
                      clear hm
                      go_wp2_with fail
                      refine (valCc s (x3 i) 4 _ hE HN.out hsz hbd.1 hbd.2.1 hbd.2.2 _).mono ?_
                      rintro e w2 ⟨rfl, hb2⟩
                      have hto2 := hto.on hb2
                      obtain ⟨tb, tc, _⟩ := hto2.c i hlt
                      have tf := hto2.fz i
                      have hB2 := hB.trans (hb2.mono zB)
                      have zB2 := hB2.size
                      go_wp2_with fail
                      go_roundw
                      case rel => exact ⟨i + 1, by go_num, by omega, rfl, HT3n.out, HPT.out false HM.out.symm _ hto2, hB2.setCell zg _⟩
                      case measure => simp [intOf]; omega
                    · have hE : valE (x3 i) = 0 := by unfold valE; rw [hm]; rfl
                      have HM := Lib.hid hm
                      clear hm
                      go_wp2_with fail
                      refine (valCc s (x3 i) 0 _ hE HN.out hsz hbd.1 hbd.2.1 hbd.2.2 _).mono ?_
                      rintro e w2 ⟨rfl, hb2⟩
                      have hto2 := hto.on hb2
                      obtain ⟨tb, tc, _⟩ := hto2.c i hlt
                      have tf := hto2.fz i
                      have hB2 := hB.trans (hb2.mono zB)
                      have zB2 := hB2.size
                      go_wp2_with fail
                      go_roundw
                      case rel => exact ⟨i + 1, by go_num, by omega, rfl, HT3n.out, HPT.out true HM.out.symm _ hto2, hB2.setCell zg _⟩
                      case measure => simp [intOf]; omega
                · have hie : ¬ (i : Int) < (n3 : Int) := by omega
                  have hin : n3 = i := by omega
                  subst hin
                  clear hlt hi
                  have l3 : (fw (fun j => valX (x3 j)) 0 n3).length ≤ 600 * n3 := fw_len _ 600 n3 (fun j hj => valX_len _ (D3.out j hj).2.1 (D3.out j hj).2.2 (hT3 j hj)) n3 0 (by omega)
                  obtain ⟨P3, hP3⟩ : ∃ l, l = P2 ++ fw (fun j => valX (x3 j)) 0 n3 := ⟨_, rfl⟩
                  have m3 : P3.length ≤ 61000 := by rw [hP3]; rw [List.length_append]; omega
                  rw [← hP3]
                  have E3 := Lib.hid hP3
                  clear hP3 l3
                  have HT3 := Lib.hid hT3
                  clear hT3
                  have hts : tl.data.toList.length = tl.size := Array.length_toList
                  have l3 : (fw (fun j => valX (x3 j)) 0 n3).length ≤ 600 * n3 := fw_len _ 600 n3 (fun j hj => valX_len _ (D3.out j hj).2.1 (D3.out j hj).2.2 (HT3.out j hj)) n3 0 (by omega)
                  obtain ⟨R3, hR3⟩ : ∃ l, l = fw (fun j => valX (x3 j)) 0 n3 ++ tl.data.toList := ⟨_, rfl⟩
                  have r3 : R3.length ≤ 31000 := by rw [hR3, List.length_append]; omega
                  clear l3
                  have l2 : (fw (fun j => textL (t2 j)) 0 n2).length ≤ 600 * n2 := fw_len _ 600 n2 (fun j hj => textL_len _ (HT2.out j hj)) n2 0 (by omega)
                  obtain ⟨R2, hR2⟩ : ∃ l, l = fw (fun j => textL (t2 j)) 0 n2 ++ R3 := ⟨_, rfl⟩
                  have r2 : R2.length ≤ 61000 := by rw [hR2, List.length_append]; omega
                  clear l2
                  have l1 : (fw (fun j => enc (zz (z1 j))) 0 n1).length ≤ 10 * n1 := fw_len _ 10 n1 (fun j hj => intL_len _ (D1.out j hj).1 (D1.out j hj).2) n1 0 (by omega)
                  obtain ⟨R1, hR1⟩ : ∃ l, l = fw (fun j => enc (zz (z1 j))) 0 n1 ++ R2 := ⟨_, rfl⟩
                  have r1 : R1.length ≤ 61500 := by rw [hR1, List.length_append]; omega
                  clear l1
                  have l0 : (fw (fun j => numL (z0 j)) 0 n0).length ≤ 10 * n0 := fw_len _ 10 n0 (fun j _ => numL_len _) n0 0 (by omega)
                  obtain ⟨R0, hR0⟩ : ∃ l, l = fw (fun j => numL (z0 j)) 0 n0 ++ R1 := ⟨_, rfl⟩
                  have r0 : R0.length ≤ 62000 := by rw [hR0, List.length_append]; omega
                  clear l0
                  have hjoin : B P3 ++ tl = B R0 := by
                    have h1 : B P3 ++ tl = B (P3 ++ tl.data.toList) := by rw [← B_append, B_of]
                    rw [h1, hR0, hR1, hR2, hR3, E3.out, E2.out, E1.out, E0.out]
                    simp only [List.append_assoc]
                  have e0 := Lib.hid hR0
                  have e1 := Lib.hid hR1
                  have e2 := Lib.hid hR2
                  have e3 := Lib.hid hR3
                  clear hR0 hR1 hR2 hR3 E0 E1 E2 E3
                  have HJ := Lib.hid hjoin
                  clear hjoin
                  have hj : (B P3).size + tl.size ≤ 9223372036854775807 := by rw [B_size]; omega
                  go_wp2_with fail
                  refine (openC _ _).mono ?_
                  rw [HJ.out]
                  rintro e w5 ⟨rfl, hr, hb5⟩
                  clear HJ hj
                  have ngr : gt ≠ wr.heap.size := by have := hto.lt; omega
                  have zgr : W.heap.size ≤ wr.heap.size := zB
                  have hto5 := hto.on hb5
                  have hB5 := hB.trans (hb5.mono zB)
                  have zB5 := hB5.size
                  clear hb5 hB hto m0 m1 m2 m3
                  generalize hgr : wr.heap.size = gr at *
                  clear hgr
                  rw [e0.out] at hr
                  go_wp2_with fail
                  go_loopw [19] (fun iv wr => ∃ i : Nat, iv = .int .i64 (i : Int) ∧ i ≤ n0 ∧ Rd gr (B (fw (fun j => numL (z0 j)) i (n0 - i) ++ R1)) 0 wr ∧ Flags gt n3 (fun j => mayK (x3 j)) n3 wr ∧ Below W.heap.size W wr) (fun iv _ => n0 - (intOf iv).toNat)
                  case atStart => exact ⟨0, rfl, Nat.zero_le _, hr, hto5, hB5⟩
                  case round =>
                    clear hr hto5 hB5 zB5
                    obtain ⟨i, rfl, hi, hr, hto, hB⟩ := hrel
                    have hgl := hr.lt
                    have zB5 := hB.size
                    by_cases hlt : i < n0
                    · have hltI : (i : Int) < (n0 : Int) := by omega
                      obtain ⟨b, off, rfl, hc⟩ := G0.out (by omega)
                      have q := (hB.cell (p := ⟨b, off + i, none⟩) (World.block_lt_of_cell? W ⟨b, off + i, none⟩ (hc i hlt))).trans (hc i hlt)
                      have hll := World.block_lt_of_cell? wr ⟨b, off + i, none⟩ q
                      have hbW := World.block_lt_of_cell? W ⟨b, off + i, none⟩ (hc i hlt)
                      have hcons := fw_cons (fun j => numL (z0 j)) hlt
                      have hlen : (fw (fun j => numL (z0 j)) (i + 1) (n0 - (i + 1))).length ≤ 10 * (n0 - (i + 1)) := fw_len _ 10 n0 (fun j _ => numL_len _) _ _ (by omega)
                      rw [hcons, List.append_assoc] at hr
                      obtain ⟨T, hT⟩ : ∃ l, l = fw (fun j => numL (z0 j)) (i + 1) (n0 - (i + 1)) ++ R1 := ⟨_, rfl⟩
                      have hTl : T.length ≤ 62000 := by rw [hT, List.length_append]; omega
                      rw [← hT] at hr
                      have HT := Lib.hid hT
                      clear hT hcons hlen
                      (try dsimp only at hr)
                      generalize hx : z0 i = x at *
                      clear hc hx G0 G1 G2 G3 D1 D3 HT2 HT3 e0 e1 e2 e3
                      by_cases hneg : x < 0
                      · have hnl : numL x = [] := by unfold numL; rw [if_pos (Or.inl hneg)]
                        rw [hnl, List.nil_append] at hr
                        go_wp2_with fail
                        go_roundw
                        case rel => exact ⟨i + 1, by go_num, by omega, by rw [← HT.out]; exact hr, hto, hB⟩
                        case measure => simp [intOf]; omega
                      by_cases hbig : 1099511627776 < x
                      · have hnl : numL x = [] := by unfold numL; rw [if_pos (Or.inr hbig)]
                        rw [hnl, List.nil_append] at hr
                        go_wp2_with fail
                        go_roundw
                        case rel => exact ⟨i + 1, by go_num, by omega, by rw [← HT.out]; exact hr, hto, hB⟩
                        case measure => simp [intOf]; omega
                      · have hnl : numL x = enc x.toNat := by unfold numL; rw [if_neg (by omega)]
                        have hxn : ((x.toNat : Nat) : Int) = x := by omega
                        have hx64 : x.toNat ≤ 1099511627776 := by omega
                        rw [hnl] at hr
                        have hl10 := enc_len10 (n := x.toNat) (by omega)
                        have hfact := num_ok (t := T) hx64
                        have hsz : (S (enc x.toNat ++ T)).s.size ≤ 1099511627776 := by show (B _).size ≤ _; rw [B_size, List.length_append]; omega
                        go_wp2_with fail
                        refine (numRC gr (S (enc x.toNat ++ T)) hsz _ hr).mono ?_
                        rw [hfact]
                        dsimp only
                        rw [hxn]
                        rintro e w6 ⟨rfl, hr6, hg6⟩
                        replace hr6 : Rd gr (B T) 0 w6 := hr6
                        have hto6 := hto.far hg6 ngr
                        have hB6 := gr_bel hB hg6 zB5 zgr
                        have zB6 := hB6.size
                        have q6 := cell_far hg6 q (by omega)
                        go_wp2_with fail
                        go_roundw
                        case rel => exact ⟨i + 1, by go_num, by omega, by rw [← HT.out]; exact hr6, hto6, hB6⟩
                        case measure => simp [intOf]; omega
                    · have hie : ¬ (i : Int) < (n0 : Int) := by omega
                      have hin : n0 = i := by omega
                      subst hin
                      clear hlt hi
                      rw [Nat.sub_self, fw_zero, List.nil_append] at hr
                      rw [e1.out] at hr
                      have hto5 := hto
                      have hB5 := hB
                      clear hto hB hgl
                      go_wp2_with fail
                      go_loopw [22] (fun iv wr => ∃ i : Nat, iv = .int .i64 (i : Int) ∧ i ≤ n1 ∧ Rd gr (B (fw (fun j => enc (zz (z1 j))) i (n1 - i) ++ R2)) 0 wr ∧ Flags gt n3 (fun j => mayK (x3 j)) n3 wr ∧ Below W.heap.size W wr) (fun iv _ => n1 - (intOf iv).toNat)
                      case atStart => exact ⟨0, rfl, Nat.zero_le _, hr, hto5, hB5⟩
                      case round =>
                        clear hr hto5 hB5 zB5
                        obtain ⟨i, rfl, hi, hr, hto, hB⟩ := hrel
                        have hgl := hr.lt
                        have zB5 := hB.size
                        by_cases hlt : i < n1
                        · have hltI : (i : Int) < (n1 : Int) := by omega
                          obtain ⟨b, off, rfl, hc⟩ := G1.out (by omega)
                          have q := (hB.cell (p := ⟨b, off + i, none⟩) (World.block_lt_of_cell? W ⟨b, off + i, none⟩ (hc i hlt))).trans (hc i hlt)
                          have hll := World.block_lt_of_cell? wr ⟨b, off + i, none⟩ q
                          have hbW := World.block_lt_of_cell? W ⟨b, off + i, none⟩ (hc i hlt)
                          have hbd := D1.out i hlt
                          have hcons := fw_cons (fun j => enc (zz (z1 j))) hlt
                          have hlen : (fw (fun j => enc (zz (z1 j))) (i + 1) (n1 - (i + 1))).length ≤ 10 * (n1 - (i + 1)) := fw_len _ 10 n1 (fun j hj => intL_len _ (D1.out j hj).1 (D1.out j hj).2) _ _ (by omega)
                          rw [hcons, List.append_assoc] at hr
                          obtain ⟨T, hT⟩ : ∃ l, l = fw (fun j => enc (zz (z1 j))) (i + 1) (n1 - (i + 1)) ++ R2 := ⟨_, rfl⟩
                          have hTl : T.length ≤ 62000 := by rw [hT, List.length_append]; omega
                          rw [← hT] at hr
                          have HT := Lib.hid hT
                          clear hT hcons hlen
                          (try dsimp only at hr)
                          generalize hx : z1 i = x at *
                          clear hc hx G0 G1 G2 G3 D1 D3 HT2 HT3 e0 e1 e2 e3
                          have hl10 := intL_len x hbd.1 hbd.2
                          have hfact := int_ok (t := T) hbd.1 hbd.2
                          have hsz : (S (enc (zz x) ++ T)).s.size ≤ 1099511627776 := by show (B _).size ≤ _; rw [B_size, List.length_append]; omega
                          go_wp2_with fail
                          refine (intRC gr (S (enc (zz x) ++ T)) hsz _ hr).mono ?_
                          rw [hfact]
                          dsimp only
                          rintro e w6 ⟨rfl, hr6, hg6⟩
                          replace hr6 : Rd gr (B T) 0 w6 := hr6
                          have hto6 := hto.far hg6 ngr
                          have hB6 := gr_bel hB hg6 zB5 zgr
                          have zB6 := hB6.size
                          have q6 := cell_far hg6 q (by omega)
                          go_wp2_with fail
                          go_roundw
                          case rel => exact ⟨i + 1, by go_num, by omega, by rw [← HT.out]; exact hr6, hto6, hB6⟩
                          case measure => simp [intOf]; omega
                        · have hie : ¬ (i : Int) < (n1 : Int) := by omega
                          have hin : n1 = i := by omega
                          subst hin
                          clear hlt hi
                          rw [Nat.sub_self, fw_zero, List.nil_append] at hr
                          rw [e2.out] at hr
                          have hto5 := hto
                          have hB5 := hB
                          clear hto hB hgl
                          go_wp2_with fail
                          go_loopw [25] (fun iv wr => ∃ i : Nat, iv = .int .i64 (i : Int) ∧ i ≤ n2 ∧ Rd gr (B (fw (fun j => textL (t2 j)) i (n2 - i) ++ R3)) 0 wr ∧ Flags gt n3 (fun j => mayK (x3 j)) n3 wr ∧ Below W.heap.size W wr) (fun iv _ => n2 - (intOf iv).toNat)
                          case atStart => exact ⟨0, rfl, Nat.zero_le _, hr, hto5, hB5⟩
                          case round =>
                            clear hr hto5 hB5 zB5
                            obtain ⟨i, rfl, hi, hr, hto, hB⟩ := hrel
                            have hgl := hr.lt
                            have zB5 := hB.size
                            by_cases hlt : i < n2
                            · have hltI : (i : Int) < (n2 : Int) := by omega
                              obtain ⟨b, off, rfl, hc⟩ := G2.out (by omega)
                              have q := (hB.cell (p := ⟨b, off + i, none⟩) (World.block_lt_of_cell? W ⟨b, off + i, none⟩ (hc i hlt))).trans (hc i hlt)
                              have hll := World.block_lt_of_cell? wr ⟨b, off + i, none⟩ q
                              have hbW := World.block_lt_of_cell? W ⟨b, off + i, none⟩ (hc i hlt)
                              have hbd := HT2.out i hlt
                              have hcons := fw_cons (fun j => textL (t2 j)) hlt
                              have hlen : (fw (fun j => textL (t2 j)) (i + 1) (n2 - (i + 1))).length ≤ 600 * (n2 - (i + 1)) := fw_len _ 600 n2 (fun j hj => textL_len _ (HT2.out j hj)) _ _ (by omega)
                              rw [hcons, List.append_assoc] at hr
                              obtain ⟨T, hT⟩ : ∃ l, l = fw (fun j => textL (t2 j)) (i + 1) (n2 - (i + 1)) ++ R3 := ⟨_, rfl⟩
                              have hTl : T.length ≤ 62000 := by rw [hT, List.length_append]; omega
                              rw [← hT] at hr
                              have HT := Lib.hid hT
                              clear hT hcons hlen
                              (try dsimp only at hr)
                              generalize hx : t2 i = y at *
                              clear hc hx G0 G1 G2 G3 D1 D3 HT2 HT3 e0 e1 e2 e3
                              have hl10 := textL_len y hbd
                              have hyl : y.size = y.data.toList.length := by rw [Array.length_toList]; rfl
                              have htl : textL y = enc y.data.toList.length ++ y.data.toList := by unfold textL; rw [← hyl]
                              have hfact := text_ok (t := T) (y := y.data.toList) (most := 500) (by omega) (by omega)
                              rw [B_of] at hfact
                              rw [htl] at hl10
                              rw [htl, List.append_assoc] at hr
                              rw [List.length_append] at hl10
                              have hsz : (S (enc y.data.toList.length ++ (y.data.toList ++ T))).s.size ≤ 1099511627776 := by show (B _).size ≤ _; rw [B_size, List.length_append, List.length_append]; omega
                              go_wp2_with fail
                              refine (textRC gr 500 (S (enc y.data.toList.length ++ (y.data.toList ++ T))) hsz _ hr).mono ?_
                              rw [hfact]
                              dsimp only
                              rintro e w6 ⟨rfl, hr6, hg6⟩
                              replace hr6 : Rd gr (B T) 0 w6 := hr6
                              have hto6 := hto.far hg6 ngr
                              have hB6 := gr_bel hB hg6 zB5 zgr
                              have zB6 := hB6.size
                              have q6 := cell_far hg6 q (by omega)
                              have hyy : (y.toList == y.toList) = true := by simp
                              have hyz : (y.toList != y.toList) = false := by simp
                              go_wp2_with fail
                              go_roundw
                              case rel => exact ⟨i + 1, by go_num, by omega, by rw [← HT.out]; exact hr6, hto6, hB6⟩
                              case measure => simp [intOf]; omega
                            · have hie : ¬ (i : Int) < (n2 : Int) := by omega
                              have hin : n2 = i := by omega
                              subst hin
                              clear hlt hi
                              rw [Nat.sub_self, fw_zero, List.nil_append] at hr
                              rw [e3.out] at hr
                              have hto5 := hto
                              have hB5 := hB
                              clear hto hB hgl
                              go_wp2_with fail
                              go_loopw [28] (fun iv wr => ∃ i : Nat, iv = .int .i64 (i : Int) ∧ i ≤ n3 ∧ Rd gr (B (fw (fun j => valX (x3 j)) i (n3 - i) ++ tl.data.toList)) 0 wr ∧ Flags gt n3 (fun j => mayK (x3 j)) n3 wr ∧ Below W.heap.size W wr) (fun iv _ => n3 - (intOf iv).toNat)
                              case atStart => exact ⟨0, rfl, Nat.zero_le _, hr, hto5, hB5⟩
                              case round =>
                                clear hr hto5 hB5 zB5
                                obtain ⟨i, rfl, hi, hr, hto, hB⟩ := hrel
                                have hgl := hr.lt
                                have zB5 := hB.size
                                by_cases hlt : i < n3
                                · have hltI : (i : Int) < (n3 : Int) := by omega
                                  obtain ⟨b, off, rfl, hc⟩ := G3.out (by omega)
                                  have q0 := (hB.cell (p := ⟨b, off + i * 3, none⟩) (World.block_lt_of_cell? W ⟨b, off + i * 3, none⟩ (hc i hlt).1)).trans (hc i hlt).1
                                  have q1 := (hB.cell (p := ⟨b, off + i * 3 + 1, none⟩) (World.block_lt_of_cell? W ⟨b, off + i * 3 + 1, none⟩ (hc i hlt).2.1)).trans (hc i hlt).2.1
                                  have q2 := (hB.cell (p := ⟨b, off + i * 3 + 2, none⟩) (World.block_lt_of_cell? W ⟨b, off + i * 3 + 2, none⟩ (hc i hlt).2.2)).trans (hc i hlt).2.2
                                  have hll := World.block_lt_of_cell? wr ⟨b, off + i * 3, none⟩ q0
                                  have hbW := World.block_lt_of_cell? W ⟨b, off + i * 3, none⟩ (hc i hlt).1
                                  have hbd := D3.out i hlt
                                  have HTS := HT3.out i hlt
                                  obtain ⟨tb, tc, htb⟩ := hto.c i hlt
                                  obtain rfl := htb hlt
                                  have hcons := fw_cons (fun j => valX (x3 j)) hlt
                                  have hlen : (fw (fun j => valX (x3 j)) (i + 1) (n3 - (i + 1))).length ≤ 600 * (n3 - (i + 1)) := fw_len _ 600 n3 (fun j hj => valX_len _ (D3.out j hj).2.1 (D3.out j hj).2.2 (HT3.out j hj)) _ _ (by omega)
                                  rw [hcons, List.append_assoc] at hr
                                  obtain ⟨T, hT⟩ : ∃ l, l = fw (fun j => valX (x3 j)) (i + 1) (n3 - (i + 1)) ++ tl.data.toList := ⟨_, rfl⟩
                                  have hTl : T.length ≤ 62000 := by rw [hT, List.length_append]; omega
                                  rw [← hT] at hr
                                  have HT := Lib.hid hT
                                  clear hT hcons hlen
                                  (try dsimp only at hr)
                                  clear hc G0 G1 G2 G3 D1 D3 HT2 HT3 e0 e1 e2 e3
                                  cases hm : mayK (x3 i)
                                  · have hnl : valX (x3 i) = [] := by unfold valX; rw [hm]; rfl
                                    rw [hnl, List.nil_append] at hr
                                    rw [hm] at tc
                                    have HM := Lib.hid hm
                                    clear hm
                                    go_wp2_with fail
                                    go_roundw
                                    case rel => exact ⟨i + 1, by go_num, by omega, by rw [← HT.out]; exact hr, hto, hB⟩
                                    case measure => simp [intOf]; omega
                                  · have hnl : valX (x3 i) = valL (x3 i) := by unfold valX; rw [hm]; rfl
                                    have hvl : (valL (x3 i)).length ≤ 600 := by rw [← hnl]; exact valX_len _ hbd.2.1 hbd.2.2 HTS
                                    rw [hnl] at hr
                                    have hfact := val_ok (t := T) hm hbd.2.1 hbd.2.2
                                    rw [hm] at tc
                                    have HM := Lib.hid hm
                                    clear hm
                                    have hsz : (S (valL (x3 i) ++ T)).s.size ≤ 1099511627776 := by show (B _).size ≤ _; rw [B_size, List.length_append]; omega
                                    go_wp2_with fail
                                    go_wp2_with fail
                                    refine (valRC gr (S (valL (x3 i) ++ T)) hsz _ hr).mono ?_
                                    rw [hfact]
                                    dsimp only
                                    rintro e w6 ⟨rfl, hr6, hg6⟩
                                    replace hr6 : Rd gr (B T) 0 w6 := hr6
                                    have hto6 := hto.far hg6 ngr
                                    have hB6 := gr_bel hB hg6 zB5 zgr
                                    have zB6 := hB6.size
                                    have q60 := cell_far hg6 q0 (by omega)
                                    have q61 := cell_far hg6 q1 (by omega)
                                    have q62 := cell_far hg6 q2 (by omega)
                                    go_wp2_with fail
                                    have n60 : (w6.alloc (.cells #[.int .u8 (x3 i).k, .int .i64 (x3 i).n, .string (x3 i).t] 23)).cell? ⟨w6.heap.size, 0, none⟩ = some (.int .u8 (x3 i).k) := by simp [go_sem]
                                    have q70 := cell_alloc q60 (.cells #[.int .u8 (x3 i).k, .int .i64 (x3 i).n, .string (x3 i).t] 23)
                                    have n61 : (w6.alloc (.cells #[.int .u8 (x3 i).k, .int .i64 (x3 i).n, .string (x3 i).t] 23)).cell? ⟨w6.heap.size, 1, none⟩ = some (.int .i64 (x3 i).n) := by simp [go_sem]
                                    have q71 := cell_alloc q61 (.cells #[.int .u8 (x3 i).k, .int .i64 (x3 i).n, .string (x3 i).t] 23)
                                    have n62 : (w6.alloc (.cells #[.int .u8 (x3 i).k, .int .i64 (x3 i).n, .string (x3 i).t] 23)).cell? ⟨w6.heap.size, 2, none⟩ = some (.string (x3 i).t) := by simp [go_sem]
                                    have q72 := cell_alloc q62 (.cells #[.int .u8 (x3 i).k, .int .i64 (x3 i).n, .string (x3 i).t] 23)
                                    have hr7 := hr6.alloc (.cells #[.int .u8 (x3 i).k, .int .i64 (x3 i).n, .string (x3 i).t] 23)
                                    have hto7 := hto6.on ((Below.refl w6.heap.size w6).alloc (Nat.le_refl _) (.cells #[.int .u8 (x3 i).k, .int .i64 (x3 i).n, .string (x3 i).t] 23))
                                    have hB7 := hB6.alloc zB6 (.cells #[.int .u8 (x3 i).k, .int .i64 (x3 i).n, .string (x3 i).t] 23)
                                    clear hr6 hto6 hB6 hr hto hB q0 q1 q2 q60 q61 q62 tc htb hfact hsz hvl hnl hbd HTS HM
                                    generalize (w6.alloc (.cells #[.int .u8 (x3 i).k, .int .i64 (x3 i).n, .string (x3 i).t] 23)) = w7 at *
                                    generalize hgn : w6.heap.size = gn at *
                                    clear hgn
                                    generalize (x3 i).k = vk at *
                                    generalize (x3 i).n = vn at *
                                    generalize (x3 i).t = vt at *
                                    have hyy : (vt.toList == vt.toList) = true := by simp
                                    have hyz : (vt.toList != vt.toList) = false := by simp
                                    go_quiet (fail)
                                    go_wp2_with fail
                                    go_roundw
                                    case rel => exact ⟨i + 1, by go_num, by omega, by rw [← HT.out]; exact hr7.drewN nq, hto7.on (below_drewN (Below.refl _ _) nq), below_drewN hB7 nq⟩
                                    case measure => simp [intOf]; omega
                                · have hie : ¬ (i : Int) < (n3 : Int) := by omega
                                  have hin : n3 = i := by omega
                                  subst hin
                                  clear hlt hi
                                  rw [Nat.sub_self, fw_zero, List.nil_append] at hr
                                  have hto5 := hto
                                  have hB5 := hB
                                  clear hto hB hgl
                                  rw [B_of] at hr
                                  clear G0 G1 G2 G3 D1 D3 HT2 HT3 e0 e1 e2 e3
                                  by_cases h0 : tl.size = 0
                                  · have hfact : endS ⟨tl, 0⟩ = (0, ⟨tl, 0⟩) := by unfold endS; rw [if_pos rfl, if_pos h0]
                                    have h5 : tl.data.toList = [] := List.eq_nil_of_length_eq_zero (by rw [hts]; exact h0)
                                    have hem : tl.toList.isEmpty = true := by rw [Lib.toList_data, h5]; rfl
                                    have hem2 : tl.toList = [] := by rw [Lib.toList_data, h5]
                                    go_wp2_with fail
                                    refine (leftC gr ⟨tl, 0⟩ _ hr).mono ?_
                                    rintro e w8 ⟨rfl, rfl⟩
                                    dsimp only
                                    go_wp2_with fail
                                    refine (endRC gr ⟨tl, 0⟩ _ hr).mono ?_
                                    rw [hfact]
                                    rintro e w9 ⟨rfl, hr9, hg9⟩
                                    have hB9 := gr_bel hB5 hg9 zB5 zgr
                                    go_wp2_with fail
                                    go_ret
                                    exact ⟨by simp [hem], hB9⟩
                                  · have hfact : endS ⟨tl, 0⟩ = (4, St.bad 4) := by unfold endS; rw [if_pos rfl, if_neg h0]
                                    have h5 : ¬ tl.data.toList = [] := fun he => h0 (by rw [← hts, he]; rfl)
                                    have hem2 : ¬ tl.toList = [] := by rw [Lib.toList_data]; exact h5
                                    have hem : tl.toList.isEmpty = false := by simpa using hem2
                                    go_wp2_with fail
                                    refine (leftC gr ⟨tl, 0⟩ _ hr).mono ?_
                                    rintro e w8 ⟨rfl, rfl⟩
                                    dsimp only
                                    go_wp2_with fail
                                    refine (endRC gr ⟨tl, 0⟩ _ hr).mono ?_
                                    rw [hfact]
                                    rintro e w9 ⟨rfl, hr9, hg9⟩
                                    have hB9 := gr_bel hB5 hg9 zB5 zgr
                                    go_wp2_with fail
                                    go_ret
                                    exact ⟨by simp [hem], hB9⟩
theorem bnd (n : Nat → Int) (k : Nat) (h : ∀ i, i < k → (Lit.int .i64 (n i)).wf = true) : ∀ i, i < k → -9223372036854775808 ≤ n i ∧ n i ≤ 9223372036854775807 := fun i hi => bndI (h i hi)
theorem walkR (v0 v1 v2 v3 : Value) (tl : ByteArray) (W : World) (h0 : IntsAt W .i64 v0) (h1 : IntsAt W .i64 v1) (h2 : StrsAt W v2) (h3 : ValsAt W v3) (h4 : tl.size ≤ 140737488351232) :
    Calls Try.prog 9 #[v0, v1, v2, v3, .string tl] W fun e W' => e = .returned (.bool true) ∧ Below W.heap.size W W' := by
  obtain ⟨a0, n0, c0, l0, rfl, p0, _, _, H0, w0⟩ := h0
  obtain ⟨a1, n1, c1, l1, rfl, p1, _, _, H1, w1⟩ := h1
  obtain ⟨a2, n2, c2, t2, rfl, H2⟩ := h2
  obtain ⟨a3, n3, c3, x3, rfl, H3, w3⟩ := h3
  by_cases g0 : (50 : Int) < n0
  · exact long a0 a1 a2 a3 n0 c0 n1 c1 n2 c2 n3 c3 tl W (by omega)
  by_cases g1 : (50 : Int) < n1
  · exact long a0 a1 a2 a3 n0 c0 n1 c1 n2 c2 n3 c3 tl W (by omega)
  by_cases g2 : (50 : Int) < n2
  · exact long a0 a1 a2 a3 n0 c0 n1 c1 n2 c2 n3 c3 tl W (by omega)
  by_cases g3 : (50 : Int) < n3
  · exact long a0 a1 a2 a3 n0 c0 n1 c1 n2 c2 n3 c3 tl W (by omega)
  by_cases g4 : (1000 : Int) < tl.size
  · exact long a0 a1 a2 a3 n0 c0 n1 c1 n2 c2 n3 c3 tl W (by omega)
  have mem : ∀ i, i < n1 → l1.getD i 0 ∈ l1 := fun i hi => by
    rw [List.getD_eq_getElem?_getD, List.getElem?_eq_getElem (by omega)]
    exact List.getElem_mem _
  exact short a0 a1 a2 a3 n0 c0 n1 c1 n2 c2 n3 c3 tl W (fun i => l0.getD i 0) (fun i => l1.getD i 0) t2 x3 g0 g1 g2 g3 g4 H0 H1 H2 H3 (fun i hi => bndI (w1 _ (mem i hi))) (fun i hi => ⟨(bndK (w3 i hi).1).1, (bndI (w3 i hi).2).1, (bndI (w3 i hi).2).2⟩)
end Go.Proofs.Ytijhdnpaeliaoaa.LawWireBack
