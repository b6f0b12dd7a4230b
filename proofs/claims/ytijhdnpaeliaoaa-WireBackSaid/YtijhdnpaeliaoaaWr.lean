/- The law's own examples ('awake'), as a contract: they are as they are told. No condition. -/
import Derived.Test.YtijhdnpaeliaoaaWq
import Derived.Lib.QuietBelow
import Derived.LoopN
namespace Go.Proofs.Ytijhdnpaeliaoaa.Wr
open Go.RowKit Go.Sort Go.Proofs.Ytijhdnpaeliaoaa.Wm Go.Proofs.Ytijhdnpaeliaoaa.Wb Go.Proofs.Ytijhdnpaeliaoaa.Wa Go.Proofs.Ytijhdnpaeliaoaa.Wc Go.Proofs.Ytijhdnpaeliaoaa.Wd Go.Proofs.Ytijhdnpaeliaoaa.We Go.Proofs.Ytijhdnpaeliaoaa.Wf Go.Proofs.Ytijhdnpaeliaoaa.Wg Go.Proofs.Ytijhdnpaeliaoaa.Wh Go.Proofs.Ytijhdnpaeliaoaa.Wi Go.Proofs.Ytijhdnpaeliaoaa.Wj
set_option linter.unusedVariables false
set_option linter.unusedSimpArgs false
set_option maxRecDepth 100000
theorem bndI {n : Int} (h : (Lit.int .i64 n).wf = true) : -9223372036854775808 ≤ n ∧ n ≤ 9223372036854775807 := by
  simp [Lit.wf, IntKind.min, IntKind.max, IntKind.bits, IntKind.signed] at h
  omega
theorem bndK {n : Int} (h : (Lit.int .u8 n).wf = true) : 0 ≤ n ∧ n ≤ 255 := by
  simp [Lit.wf, IntKind.min, IntKind.max, IntKind.bits, IntKind.signed] at h
  omega
theorem put_of {n : Nat} {l : List UInt8} (h : enc n = l) : put ⟨#[]⟩ n = ⟨l.toArray⟩ := by unfold put; rw [h]; rfl
theorem enc1 {n : Nat} {b : UInt8} (h : n < 128) (hb : UInt8.ofNat n = b) : enc n = [b] := by rw [enc_small h, hb]
theorem enc2 {n : Nat} {a b : UInt8} (h : ¬ n < 128) (h2 : n / 128 < 128) (ha : UInt8.ofNat (n % 128 + 128) = a) (hb : UInt8.ofNat (n / 128) = b) : enc n = [a, b] := by rw [enc_big h, enc_small h2, ha, hb]
theorem int_0 (w : World) : Calls Try.prog 15 #[.string ⟨#[]⟩, .int .i64 0] w fun e w' => e = .returned (.string ⟨#[0]⟩) ∧ Below w.heap.size w w' := by
  have h := intC ⟨#[]⟩ 0 (by decide) (by decide) (by decide) w
  have e : intW ⟨#[]⟩ 0 = ⟨#[0]⟩ := put_of (n := zz 0) (show enc 0 = _ from (enc1 (by decide) (by decide)))
  rw [e] at h
  exact h
theorem int_1 (w : World) : Calls Try.prog 15 #[.string ⟨#[]⟩, .int .i64 (-1)] w fun e w' => e = .returned (.string ⟨#[1]⟩) ∧ Below w.heap.size w w' := by
  have h := intC ⟨#[]⟩ (-1) (by decide) (by decide) (by decide) w
  have e : intW ⟨#[]⟩ (-1) = ⟨#[1]⟩ := put_of (n := zz (-1)) (show enc 1 = _ from (enc1 (by decide) (by decide)))
  rw [e] at h
  exact h
theorem int_2 (w : World) : Calls Try.prog 15 #[.string ⟨#[]⟩, .int .i64 1] w fun e w' => e = .returned (.string ⟨#[2]⟩) ∧ Below w.heap.size w w' := by
  have h := intC ⟨#[]⟩ 1 (by decide) (by decide) (by decide) w
  have e : intW ⟨#[]⟩ 1 = ⟨#[2]⟩ := put_of (n := zz 1) (show enc 2 = _ from (enc1 (by decide) (by decide)))
  rw [e] at h
  exact h
theorem int_3 (w : World) : Calls Try.prog 15 #[.string ⟨#[]⟩, .int .i64 (-64)] w fun e w' => e = .returned (.string ⟨#[127]⟩) ∧ Below w.heap.size w w' := by
  have h := intC ⟨#[]⟩ (-64) (by decide) (by decide) (by decide) w
  have e : intW ⟨#[]⟩ (-64) = ⟨#[127]⟩ := put_of (n := zz (-64)) (show enc 127 = _ from (enc1 (by decide) (by decide)))
  rw [e] at h
  exact h
theorem int_4 (w : World) : Calls Try.prog 15 #[.string ⟨#[]⟩, .int .i64 64] w fun e w' => e = .returned (.string ⟨#[128, 1]⟩) ∧ Below w.heap.size w w' := by
  have h := intC ⟨#[]⟩ 64 (by decide) (by decide) (by decide) w
  have e : intW ⟨#[]⟩ 64 = ⟨#[128, 1]⟩ := put_of (n := zz 64) (show enc 128 = _ from (enc2 (by decide) (by decide) (by decide) (by decide)))
  rw [e] at h
  exact h
theorem num300 (w : World) : Calls Try.prog 11 #[.string ⟨#[]⟩, .int .i64 300] w fun e w' => e = .returned (.tuple #[.string ⟨#[172, 2]⟩, .int .i64 0]) ∧ Below w.heap.size w w' := by
  have h := numC ⟨#[]⟩ 300 (by decide) w
  have e : numR ⟨#[]⟩ 300 = (⟨#[172, 2]⟩, 0) := by
    unfold numR
    rw [if_neg (by decide), show (300 : Int).toNat = 300 from rfl, put_of (enc2 (n := 300) (a := 172) (b := 2) (by decide) (by decide) (by decide) (by decide))]
  rw [e] at h
  exact h
theorem valT (v : V) (s : ByteArray) (hv : valR ⟨#[]⟩ v = (s, 0)) (h0 : 0 ≤ v.k) (h1 : -9223372036854775808 ≤ v.n) (h2 : v.n ≤ 9223372036854775807) (w : World) : Calls Try.prog 13 #[.string ⟨#[]⟩, .agg #[.int .u8 v.k, .int .i64 v.n, .string v.t]] w fun e w' => e = .returned (.tuple #[.string s, .int .i64 0]) ∧ Below w.heap.size w w' := by
  have h := valC ⟨#[]⟩ v (by decide) h0 h1 h2 w
  unfold ValPost at h
  rw [hv] at h
  exact h
theorem put_at {s : ByteArray} {n : Nat} {l r : List UInt8} (h : enc n = l) (hs : s.data.toList ++ l = r) : put s n = ⟨r.toArray⟩ := by unfold put; rw [h, hs]
theorem val_bool : valR ⟨#[]⟩ ⟨2, 1, ⟨#[]⟩⟩ = (⟨#[2, 1]⟩, 0) := by
  rw [valR_ok (by decide +kernel)]
  show (put (put ⟨#[]⟩ 2) 1, (0 : Int)) = _
  rw [put_of (enc1 (n := 2) (b := 2) (by decide) (by decide)), put_at (enc1 (n := 1) (b := 1) (by decide) (by decide)) (r := [2, 1]) rfl]
theorem val_text : valR ⟨#[]⟩ ⟨3, 0, ⟨#[97]⟩⟩ = (⟨#[3, 1, 97]⟩, 0) := by
  rw [valR_ok (by decide +kernel)]
  show (put (put ⟨#[]⟩ 3) 1 ++ (⟨#[97]⟩ : ByteArray), (0 : Int)) = _
  rw [put_of (enc1 (n := 3) (b := 3) (by decide) (by decide)), put_at (enc1 (n := 1) (b := 1) (by decide) (by decide)) (r := [3, 1]) rfl]
  rfl
theorem text_hi (w : World) : Calls Try.prog 17 #[.string ⟨#[]⟩, .string ⟨#[104, 105]⟩] w fun e w' => e = .returned (.string ⟨#[2, 104, 105]⟩) ∧ Below w.heap.size w w' := by
  have h := textC ⟨#[]⟩ ⟨#[104, 105]⟩ (by decide) (by decide) w
  have e : textW ⟨#[]⟩ ⟨#[104, 105]⟩ = ⟨#[2, 104, 105]⟩ := by
    show put ⟨#[]⟩ 2 ++ (⟨#[104, 105]⟩ : ByteArray) = _
    rw [put_of (enc1 (n := 2) (b := 2) (by decide) (by decide))]
    rfl
  rw [e] at h
  exact h
theorem num_a : numS ⟨⟨#[128, 0]⟩, 0⟩ = (0, 4, St.bad 4) := rd_no (n := 0) (t := ⟨#[128, 0]⟩) (by decide +kernel) (by decide)
theorem num_b : numS ⟨⟨#[128]⟩, 0⟩ = (0, 8, St.bad 8) := rd_no (n := 0) (t := ⟨#[128]⟩) (by decide +kernel) (by decide)
theorem gr_new_below {a b c : World} (h : Below a.heap.size a b) (hg : b.grownBy c (some a.heap.size)) : Below a.heap.size a c :=
  h.trans ⟨hg.os, hg.tape, hg.output, hg.size, fun k hk => hg.block k (Nat.lt_of_lt_of_le hk h.size) (by simp; omega)⟩
theorem row_on {g : Nat} {C : Array Value} {T : TypeId} {z : Nat × Nat} {W w1 : World} (h : W.heap[g]? = some (.cells C T z)) (hb : Below W.heap.size W w1) : w1.heap[g]? = some (.cells C T z) :=
  (hb.block g (Array.getElem?_eq_some_iff.1 h).1).trans h
theorem row_lt {g : Nat} {C : Array Value} {T : TypeId} {z : Nat × Nat} {W : World} (h : W.heap[g]? = some (.cells C T z)) : g < W.heap.size := (Array.getElem?_eq_some_iff.1 h).1
set_option maxHeartbeats 4000000 in
theorem awakeC (w : World) : Calls Try.prog 10 #[] w fun e w' => e = .returned (.bool true) ∧ Below w.heap.size w w' := by
  have e172 : ((⟨#[172, 2]⟩ : ByteArray).toList == (⟨#[172, 2]⟩ : ByteArray).toList) = true := by simp
  go_enter Try.func10, Try.ntmps10
  go_wp2_with fail
  have hrow : (w.alloc (.cells #[.int .i64 0, .string ⟨#[0]⟩, .int .i64 (-1), .string ⟨#[1]⟩, .int .i64 1, .string ⟨#[2]⟩, .int .i64 (-64), .string ⟨#[127]⟩, .int .i64 64, .string ⟨#[128, 1]⟩] 62)).heap[w.heap.size]? = some (.cells #[.int .i64 0, .string ⟨#[0]⟩, .int .i64 (-1), .string ⟨#[1]⟩, .int .i64 1, .string ⟨#[2]⟩, .int .i64 (-64), .string ⟨#[127]⟩, .int .i64 64, .string ⟨#[128, 1]⟩] 62) := heap_alloc_new w _
  have hB : Below w.heap.size w (w.alloc (.cells #[.int .i64 0, .string ⟨#[0]⟩, .int .i64 (-1), .string ⟨#[1]⟩, .int .i64 1, .string ⟨#[2]⟩, .int .i64 (-64), .string ⟨#[127]⟩, .int .i64 64, .string ⟨#[128, 1]⟩] 62)) := by (repeat' (first | (with_reducible exact Below.refl _ _) | (with_reducible assumption) | (with_reducible refine Below.alloc ?_ ?_ _) | (with_reducible refine Below.drew ?_) | (with_reducible refine below_drewN ?_ _) | (with_reducible refine Below.setCell ?_ ?_ _) | (with_reducible refine Below.trans ?_ (Below.mono (by with_reducible assumption) ?_)) | (simp only [World.size_alloc, World.size_setCell, World.heap_drewN, World.size_drew]; omega) | omega | (simp; omega) | (simp; done)))
  generalize hW0 : (w.alloc (.cells #[.int .i64 0, .string ⟨#[0]⟩, .int .i64 (-1), .string ⟨#[1]⟩, .int .i64 1, .string ⟨#[2]⟩, .int .i64 (-64), .string ⟨#[127]⟩, .int .i64 64, .string ⟨#[128, 1]⟩] 62)) = W0 at *
  clear hW0
  generalize hg0 : w.heap.size = g0 at *
  refine wp_loop_rounds 6 ?_
  rw [rounds_succ]
  have q0a : W0.cell? ⟨g0, 0, none⟩ = some (.int .i64 0) := cell_mark hrow 0
  have q0b : W0.cell? ⟨g0, 1, none⟩ = some (.string ⟨#[0]⟩) := cell_mark hrow 1
  have hl0 := row_lt hrow
  go_wp2_with fail
  have y0a := cell_regrown (w := (W0.alloc (.cells #[.int .i64 0, .string ⟨#[0]⟩] 62))) (a := ⟨W0.heap.size, 0, none⟩) (v := .int .i64 0) (by simp [go_sem])
  have y0b := cell_regrown (w := (W0.alloc (.cells #[.int .i64 0, .string ⟨#[0]⟩] 62))) (a := ⟨W0.heap.size, 1, none⟩) (v := .string ⟨#[0]⟩) (by simp [go_sem])
  (try dsimp only [List.append])
  refine wp_region_quiet_below (by kernel_rfl) (by kernel_rfl) ?_
  repeat (go_big_quiet_step ((with_reducible exact Calls.regrown_of (int_0 _))))
  refine wpQuiet_nil ?_
  intro _ hw'
  obtain ⟨⟨dq, osq⟩, hw''⟩ := hw'
  subst hw''
  have hq := below_regrown (W0.alloc (.cells #[.int .i64 0, .string ⟨#[0]⟩] 62)) dq osq
  clear y0a y0b q0a q0b hl0
  generalize (grow (redrawn (W0.alloc (.cells #[.int .i64 0, .string ⟨#[0]⟩] 62)) dq) osq) = W1 at *
  have hq2 : Below W0.heap.size W0 W1 := ((Below.refl _ _).alloc (Nat.le_refl _) _).trans (hq.mono (by simp))
  replace hrow := row_on hrow hq2
  replace hB : Below g0 w W1 := hB.trans (hq2.mono (by rw [← hg0]; have := hB.size; omega))
  clear hq hq2
  go_wp2_with fail
  rw [rounds_succ]
  have q1a : W1.cell? ⟨g0, 2, none⟩ = some (.int .i64 (-1)) := cell_mark hrow 2
  have q1b : W1.cell? ⟨g0, 3, none⟩ = some (.string ⟨#[1]⟩) := cell_mark hrow 3
  have hl1 := row_lt hrow
  go_wp2_with fail
  have y1a := cell_regrown (w := (W1.alloc (.cells #[.int .i64 (-1), .string ⟨#[1]⟩] 62))) (a := ⟨W1.heap.size, 0, none⟩) (v := .int .i64 (-1)) (by simp [go_sem])
  have y1b := cell_regrown (w := (W1.alloc (.cells #[.int .i64 (-1), .string ⟨#[1]⟩] 62))) (a := ⟨W1.heap.size, 1, none⟩) (v := .string ⟨#[1]⟩) (by simp [go_sem])
  (try dsimp only [List.append])
  refine wp_region_quiet_below (by kernel_rfl) (by kernel_rfl) ?_
  repeat (go_big_quiet_step ((with_reducible exact Calls.regrown_of (int_1 _))))
  refine wpQuiet_nil ?_
  intro _ hw'
  obtain ⟨⟨dq, osq⟩, hw''⟩ := hw'
  subst hw''
  have hq := below_regrown (W1.alloc (.cells #[.int .i64 (-1), .string ⟨#[1]⟩] 62)) dq osq
  clear y1a y1b q1a q1b hl1
  generalize (grow (redrawn (W1.alloc (.cells #[.int .i64 (-1), .string ⟨#[1]⟩] 62)) dq) osq) = W2 at *
  have hq2 : Below W1.heap.size W1 W2 := ((Below.refl _ _).alloc (Nat.le_refl _) _).trans (hq.mono (by simp))
  replace hrow := row_on hrow hq2
  replace hB : Below g0 w W2 := hB.trans (hq2.mono (by rw [← hg0]; have := hB.size; omega))
  clear hq hq2
  go_wp2_with fail
  rw [rounds_succ]
  have q2a : W2.cell? ⟨g0, 4, none⟩ = some (.int .i64 1) := cell_mark hrow 4
  have q2b : W2.cell? ⟨g0, 5, none⟩ = some (.string ⟨#[2]⟩) := cell_mark hrow 5
  have hl2 := row_lt hrow
  go_wp2_with fail
  have y2a := cell_regrown (w := (W2.alloc (.cells #[.int .i64 1, .string ⟨#[2]⟩] 62))) (a := ⟨W2.heap.size, 0, none⟩) (v := .int .i64 1) (by simp [go_sem])
  have y2b := cell_regrown (w := (W2.alloc (.cells #[.int .i64 1, .string ⟨#[2]⟩] 62))) (a := ⟨W2.heap.size, 1, none⟩) (v := .string ⟨#[2]⟩) (by simp [go_sem])
  (try dsimp only [List.append])
  refine wp_region_quiet_below (by kernel_rfl) (by kernel_rfl) ?_
  repeat (go_big_quiet_step ((with_reducible exact Calls.regrown_of (int_2 _))))
  refine wpQuiet_nil ?_
  intro _ hw'
  obtain ⟨⟨dq, osq⟩, hw''⟩ := hw'
  subst hw''
  have hq := below_regrown (W2.alloc (.cells #[.int .i64 1, .string ⟨#[2]⟩] 62)) dq osq
  clear y2a y2b q2a q2b hl2
  generalize (grow (redrawn (W2.alloc (.cells #[.int .i64 1, .string ⟨#[2]⟩] 62)) dq) osq) = W3 at *
  have hq2 : Below W2.heap.size W2 W3 := ((Below.refl _ _).alloc (Nat.le_refl _) _).trans (hq.mono (by simp))
  replace hrow := row_on hrow hq2
  replace hB : Below g0 w W3 := hB.trans (hq2.mono (by rw [← hg0]; have := hB.size; omega))
  clear hq hq2
  go_wp2_with fail
  rw [rounds_succ]
  have q3a : W3.cell? ⟨g0, 6, none⟩ = some (.int .i64 (-64)) := cell_mark hrow 6
  have q3b : W3.cell? ⟨g0, 7, none⟩ = some (.string ⟨#[127]⟩) := cell_mark hrow 7
  have hl3 := row_lt hrow
  go_wp2_with fail
  have y3a := cell_regrown (w := (W3.alloc (.cells #[.int .i64 (-64), .string ⟨#[127]⟩] 62))) (a := ⟨W3.heap.size, 0, none⟩) (v := .int .i64 (-64)) (by simp [go_sem])
  have y3b := cell_regrown (w := (W3.alloc (.cells #[.int .i64 (-64), .string ⟨#[127]⟩] 62))) (a := ⟨W3.heap.size, 1, none⟩) (v := .string ⟨#[127]⟩) (by simp [go_sem])
  (try dsimp only [List.append])
  refine wp_region_quiet_below (by kernel_rfl) (by kernel_rfl) ?_
  repeat (go_big_quiet_step ((with_reducible exact Calls.regrown_of (int_3 _))))
  refine wpQuiet_nil ?_
  intro _ hw'
  obtain ⟨⟨dq, osq⟩, hw''⟩ := hw'
  subst hw''
  have hq := below_regrown (W3.alloc (.cells #[.int .i64 (-64), .string ⟨#[127]⟩] 62)) dq osq
  clear y3a y3b q3a q3b hl3
  generalize (grow (redrawn (W3.alloc (.cells #[.int .i64 (-64), .string ⟨#[127]⟩] 62)) dq) osq) = W4 at *
  have hq2 : Below W3.heap.size W3 W4 := ((Below.refl _ _).alloc (Nat.le_refl _) _).trans (hq.mono (by simp))
  replace hrow := row_on hrow hq2
  replace hB : Below g0 w W4 := hB.trans (hq2.mono (by rw [← hg0]; have := hB.size; omega))
  clear hq hq2
  go_wp2_with fail
  rw [rounds_succ]
  have q4a : W4.cell? ⟨g0, 8, none⟩ = some (.int .i64 64) := cell_mark hrow 8
  have q4b : W4.cell? ⟨g0, 9, none⟩ = some (.string ⟨#[128, 1]⟩) := cell_mark hrow 9
  have hl4 := row_lt hrow
  go_wp2_with fail
  have y4a := cell_regrown (w := (W4.alloc (.cells #[.int .i64 64, .string ⟨#[128, 1]⟩] 62))) (a := ⟨W4.heap.size, 0, none⟩) (v := .int .i64 64) (by simp [go_sem])
  have y4b := cell_regrown (w := (W4.alloc (.cells #[.int .i64 64, .string ⟨#[128, 1]⟩] 62))) (a := ⟨W4.heap.size, 1, none⟩) (v := .string ⟨#[128, 1]⟩) (by simp [go_sem])
  (try dsimp only [List.append])
  refine wp_region_quiet_below (by kernel_rfl) (by kernel_rfl) ?_
  repeat (go_big_quiet_step ((with_reducible exact Calls.regrown_of (int_4 _))))
  refine wpQuiet_nil ?_
  intro _ hw'
  obtain ⟨⟨dq, osq⟩, hw''⟩ := hw'
  subst hw''
  have hq := below_regrown (W4.alloc (.cells #[.int .i64 64, .string ⟨#[128, 1]⟩] 62)) dq osq
  clear y4a y4b q4a q4b hl4
  generalize (grow (redrawn (W4.alloc (.cells #[.int .i64 64, .string ⟨#[128, 1]⟩] 62)) dq) osq) = W5 at *
  have hq2 : Below W4.heap.size W4 W5 := ((Below.refl _ _).alloc (Nat.le_refl _) _).trans (hq.mono (by simp))
  replace hrow := row_on hrow hq2
  replace hB : Below g0 w W5 := hB.trans (hq2.mono (by rw [← hg0]; have := hB.size; omega))
  clear hq hq2
  go_wp2_with fail
  rw [rounds_succ]
  go_wp2_with fail
  refine (num300 _).mono ?_
  rintro e w1 ⟨rfl, hb1⟩; have zhb1 := hb1.size; (try simp only [World.size_alloc, World.size_setCell, World.heap_drewN, World.size_drew] at zhb1)
  go_wp2_with fail
  refine (valT ⟨2, 1, ⟨#[]⟩⟩ _ val_bool (by decide) (by decide) (by decide) _).mono ?_
  rintro e w2 ⟨rfl, hb2⟩; have zhb2 := hb2.size; (try simp only [World.size_alloc, World.size_setCell, World.heap_drewN, World.size_drew] at zhb2)
  go_wp2_with fail
  refine (valT ⟨3, 0, ⟨#[97]⟩⟩ _ val_text (by decide) (by decide) (by decide) _).mono ?_
  rintro e w3 ⟨rfl, hb3⟩; have zhb3 := hb3.size; (try simp only [World.size_alloc, World.size_setCell, World.heap_drewN, World.size_drew] at zhb3)
  go_wp2_with fail
  refine (openC _ _).mono ?_
  rintro e w4 ⟨rfl, hr4, hb4⟩
  have zhb4 := hb4.size
  go_wp2_with fail
  refine (numRC _ ⟨_, 0⟩ (by decide) _ hr4).mono ?_
  rw [num_a]
  rintro e w5 ⟨rfl, hr5, hg5⟩
  have hb5 := gr_new_below hb4 hg5
  have zhb5 := hb5.size
  go_wp2_with fail
  refine (openC _ _).mono ?_
  rintro e w6 ⟨rfl, hr6, hb6⟩
  have zhb6 := hb6.size
  go_wp2_with fail
  refine (numRC _ ⟨_, 0⟩ (by decide) _ hr6).mono ?_
  rw [num_b]
  rintro e w7 ⟨rfl, hr7, hg7⟩
  have hb7 := gr_new_below hb6 hg7
  have zhb7 := hb7.size
  clear hr4 hg5 hr5 hr6 hg7 hr7 hb4 hb6
  go_wp2_with fail
  refine (text_hi _).mono ?_
  rintro e w8 ⟨rfl, hb8⟩; have zhb8 := hb8.size; (try simp only [World.size_alloc, World.size_setCell, World.heap_drewN, World.size_drew] at zhb8)
  go_wp2_with fail
  go_ret
  exact ⟨rfl, by subst hg0; have zB := hB.size; (repeat' (first | (with_reducible exact Below.refl _ _) | (with_reducible assumption) | (with_reducible refine Below.alloc ?_ ?_ _) | (with_reducible refine Below.drew ?_) | (with_reducible refine below_drewN ?_ _) | (with_reducible refine Below.setCell ?_ ?_ _) | (with_reducible refine Below.trans ?_ (Below.mono (by with_reducible assumption) ?_)) | (simp only [World.size_alloc, World.size_setCell, World.heap_drewN, World.size_drew]; omega) | omega | (simp; omega) | (simp; done)))⟩
end Go.Proofs.Ytijhdnpaeliaoaa.Wr
