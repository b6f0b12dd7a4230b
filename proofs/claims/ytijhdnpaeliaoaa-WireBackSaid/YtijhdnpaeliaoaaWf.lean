/- 'take' of package wire's reader, as a contract. Condition: the text is no longer than 2^40 bytes. -/
import Derived.Test.YtijhdnpaeliaoaaWd
import Derived.Test.YtijhdnpaeliaoaaWe
import Derived.Laws.Shifts
namespace Go.Proofs.Ytijhdnpaeliaoaa.Wf
open Go.RowKit Go.Proofs.Ytijhdnpaeliaoaa.Wm Go.Proofs.Ytijhdnpaeliaoaa.Wb Go.Proofs.Ytijhdnpaeliaoaa.Wa Go.Proofs.Ytijhdnpaeliaoaa.We
set_option linter.unusedVariables false
set_option linter.unusedSimpArgs false
set_option maxRecDepth 100000
/-- Block g is a reader: what is left, what was wrong. -/
structure Rd (g : Nat) (s : ByteArray) (e : Int) (W : World) : Prop where
  c0 : W.cell? ⟨g, 0, none⟩ = some (.string s)
  c1 : W.cell? ⟨g, 1, none⟩ = some (.int .i64 e)
  fz : ∀ j, W.frozen? ⟨g, j, none⟩ = false
theorem Rd.lt {g : Nat} {s : ByteArray} {e : Int} {W : World} (h : Rd g s e W) : g < W.heap.size := World.block_lt_of_cell? W ⟨g, 0, none⟩ h.c0
theorem Rd.on {g : Nat} {s : ByteArray} {e : Int} {W w1 : World} (h : Rd g s e W) (hb : Below W.heap.size W w1) : Rd g s e w1 :=
  ⟨(hb.cell (p := ⟨g, 0, none⟩) h.lt).trans h.c0, (hb.cell (p := ⟨g, 1, none⟩) h.lt).trans h.c1, fun j => (hb.frozen (p := ⟨g, j, none⟩) h.lt).trans (h.fz j)⟩
theorem Rd.far {g k : Nat} {s : ByteArray} {e : Int} {W w1 : World} (h : Rd g s e W) (hg : W.grownBy w1 (some k)) (hne : g ≠ k) : Rd g s e w1 :=
  have hb := hg.block g h.lt (by simpa using hne)
  ⟨(World.cell?_of_block (a := ⟨g, 0, none⟩) hb).trans h.c0, (World.cell?_of_block (a := ⟨g, 1, none⟩) hb).trans h.c1, fun j => (World.frozen?_of_block (a := ⟨g, j, none⟩) hb).trans (h.fz j)⟩
theorem Rd.set0 {g : Nat} {s s' : ByteArray} {e : Int} {W : World} (h : Rd g s e W) : Rd g s' e (W.setCell ⟨g, 0, none⟩ (.string s')) :=
  ⟨World.cell?_setCell_same _ _ _ h.c0, (World.cell?_setCell_other _ _ _ _ (by simp)).trans h.c1, fun j => by rw [World.frozen?_setCell]; exact h.fz j⟩
theorem Rd.set1 {g : Nat} {s : ByteArray} {e e' : Int} {W : World} (h : Rd g s e W) : Rd g s e' (W.setCell ⟨g, 1, none⟩ (.int .i64 e')) :=
  ⟨(World.cell?_setCell_other _ _ _ _ (by simp)).trans h.c0, World.cell?_setCell_same _ _ _ h.c1, fun j => by rw [World.frozen?_setCell]; exact h.fz j⟩
theorem gr_refl (w : World) (r : Option Nat) : w.grownBy w r := ⟨rfl, rfl, rfl, Nat.le_refl _, fun _ _ _ => rfl⟩
theorem gr_trans {a b c : World} {r : Option Nat} (h : a.grownBy b r) (k : b.grownBy c r) : a.grownBy c r :=
  ⟨k.os.trans h.os, k.tape.trans h.tape, k.output.trans h.output, Nat.le_trans h.size k.size, fun i hi hr => (k.block i (Nat.lt_of_lt_of_le hi h.size) hr).trans (h.block i hi hr)⟩
theorem gr_set (w : World) (g j : Nat) (v : Value) : w.grownBy (w.setCell ⟨g, j, none⟩ v) (some g) :=
  ⟨rfl, rfl, rfl, by simp, fun k _ hk => heap_setCell_other w ⟨g, j, none⟩ k v (fun e => hk (by simp [e]))⟩
theorem gr_below {a b : World} (h : Below a.heap.size a b) (r : Option Nat) : a.grownBy b r := ⟨h.os, h.tape, h.output, h.size, fun k hk _ => h.block k hk⟩
theorem Rd.alloc {g : Nat} {s : ByteArray} {e : Int} {W : World} (h : Rd g s e W) (o : Obj) : Rd g s e (W.alloc o) := h.on ((Below.refl _ _).alloc (Nat.le_refl _) o)
theorem Rd.drewN {g : Nat} {s : ByteArray} {e : Int} {W : World} (h : Rd g s e W) (n : Nat) : Rd g s e (W.drewN n) :=
  ⟨by simpa [World.cell?] using h.c0, by simpa [World.cell?] using h.c1, fun j => by have := h.fz j; simpa [World.frozen?] using this⟩
theorem gr_drewN (w : World) (n : Nat) (r : Option Nat) : w.grownBy (w.drewN n) r := gr_below (below_drewN (Below.refl _ _) n) r
theorem gr_alloc (w : World) (o : Obj) (r : Option Nat) : w.grownBy (w.alloc o) r := World.grownBy_alloc w o r
/-- Behind 'take': the number and what was wrong; what is left. -/
def TakePost (g : Nat) (s : ByteArray) (er : Int) (most : Nat) (w : World) (e : Ending) (w' : World) : Prop :=
  e = .returned (.tuple #[.int .u64 ((takeR most s).1 : Int), .int .i64 (takeR most s).2.1]) ∧ Rd g (takeR most s).2.2 er w' ∧ w.grownBy w' (some g)
theorem TakePost.mk {g : Nat} {s t : ByteArray} {er c : Int} {most n : Nat} {w w' : World} {e : Ending} (h : takeR most s = (n, c, t)) (he : e = .returned (.tuple #[.int .u64 (n : Int), .int .i64 c])) (hr : Rd g t er w') (hg : w.grownBy w' (some g)) : TakePost g s er most w e w' := by
  unfold TakePost
  rw [h]
  exact ⟨he, hr, hg⟩
set_option maxHeartbeats 2000000 in
theorem takeC (g : Nat) (s : ByteArray) (er : Int) (most : Nat) (hs : s.size ≤ 1099511627776) (hm : most < 18446744073709551616) (w : World) (h : Rd g s er w) : Calls Try.prog 40 #[.pointer (some ⟨g, 0, none⟩), .int .u64 most] w (TakePost g s er most w) := by
  have c0 := h.c0
  have f0 := h.fz 0
  go_enter Try.func40, Try.ntmps40
  go_wp2_with fail
  go_loop [6, 7] (fun nv iv => ∃ (n i : Nat), nv = .int .u64 (n : Int) ∧ iv = .int .i64 (i : Int) ∧ i ≤ s.size ∧ n ≤ most ∧ n < 128 ^ i ∧ pz most 0 0 s.data.toList = pz most i n (s.data.toList.drop i)) (fun _ iv => s.size - (intOf iv).toNat)
  case atStart => exact ⟨0, 0, rfl, rfl, Nat.zero_le _, Nat.zero_le _, by simp, by simp⟩
  case round =>
    obtain ⟨n, i, rfl, rfl, hi, hn, hni, hpz⟩ := hrel
    by_cases hlt : i < s.size
    · rw [drop_cons s i hlt] at hpz
      have hb := s[i].toNat_lt
      obtain ⟨c, hc⟩ : ∃ c : UInt8, c = s[i] := ⟨_, rfl⟩
      rw [← hc] at hb hpz
      obtain ⟨b, hbe⟩ : ∃ b : Nat, b = c.toNat := ⟨_, rfl⟩
      have ec : (s[i]).toNat = b := by rw [← hc]; exact hbe.symm
      have hb256 : b < 256 := by omega
      have HP := Lib.hid hpz
      have HBE := Lib.hid hbe
      have HNI := Lib.hid hni
      have HC := Lib.hid hc
      have e2 := and_127 b hb256
      obtain ⟨q, hqe⟩ : ∃ q : Nat, q = b % 128 := ⟨_, rfl⟩
      have hq : q < 128 := by omega
      rw [← hqe] at e2
      have HQ := Lib.hid hqe
      clear hpz hbe hni hc hb hqe
      by_cases h9 : i ≤ 9
      · by_cases hp : 18446744073709551616 ≤ q * 128 ^ i
        · have e3 := wrap_over hq h9 hp
          have e3' : (IntKind.u64.wrap ((q : Int) * 2 ^ (7 * i)) / 2 ^ (7 * i) != (q : Int)) = true := by unfold bne; rw [e3]; rfl
          have hr := takeR_no (most := most) (s := s) (c := 4) (HP.out.trans (pz_bad (.inr (.inl (by rw [← HBE.out, ← HQ.out]; exact hp))))) (by decide)
          have HR := Lib.hid hr
          have HPP := Lib.hid hp
          clear hr hp
          go_wp2_with fail
          go_ret2
          exact TakePost.mk HR.out rfl h (gr_refl _ _)
        · have hp : q * 128 ^ i < 18446744073709551616 := by omega
          have e3 := wrap_fit hp
          have e4 := div_fit q i
          have e5 := or_fit HNI.out hp (by omega)
          have hlow := below128 (b := b) HNI.out
          rw [← HQ.out] at hlow
          have HLOW := Lib.hid hlow
          clear hlow
          obtain ⟨p, hpe⟩ : ∃ p : Nat, p = q * 128 ^ i := ⟨_, rfl⟩
          rw [← hpe] at e3 e4 e5 hp
          have HPE := Lib.hid hpe
          clear hpe
          by_cases hmost : most < n + p
          · have hr := takeR_no (most := most) (s := s) (c := 4) (HP.out.trans (pz_bad (.inr (.inr (by rw [← HBE.out, ← HQ.out, ← HPE.out]; exact hmost))))) (by decide)
            have HR := Lib.hid hr
            have t1 : decide ((most : Int) < (n : Int) + (p : Int)) = true := by simp; omega
            have t2 : decide (most < n + p) = true := by simpa using hmost
            clear hr
            go_wp2_with fail
            go_ret2
            exact TakePost.mk HR.out rfl h (gr_refl _ _)
          · have hno : ¬ (9 < i ∨ 18446744073709551616 ≤ c.toNat % 128 * 128 ^ i ∨ most < n + c.toNat % 128 * 128 ^ i) := by rw [← HBE.out, ← HQ.out, ← HPE.out]; omega
            have HNO := Lib.hid hno
            have t1 : decide ((most : Int) < (n : Int) + (p : Int)) = false := by simp; omega
            have t2 : decide (most < n + p) = false := by simpa using hmost
            clear hno
            by_cases h128 : 128 ≤ b
            · go_wp2_with fail
              go_round
              case rel => exact ⟨n + p, i + 1, rfl, by go_num, by omega, by omega, by rw [HPE.out]; exact HLOW.out, by rw [HP.out, pz_on HNO.out (by rw [← HBE.out]; exact h128), ← HBE.out, ← HQ.out, ← HPE.out]⟩
              case measure => simp [intOf]; omega
            · by_cases hz : b = 0 ∧ 0 < i
              · obtain ⟨hz1, hz2⟩ := hz
                have hr := takeR_no (most := most) (s := s) (c := 4) (HP.out.trans (pz_zero HNO.out (by rw [← HBE.out]; exact hz1) hz2)) (by decide)
                have HR := Lib.hid hr
                clear hr
                have q1 : ((b : Int) == 0) = true := by simp [hz1]
                have q2 : decide (0 < i) = true := by simpa using hz2
                have q3 : ¬ (128 : Int) ≤ (b : Int) := by omega
                have HZ := Lib.hid hz1
                clear hz1
                go_wp2_with fail
                go_ret2
                exact TakePost.mk HR.out rfl h (gr_refl _ _)
              · have hr := takeR_ok (most := most) (s := s) (HP.out.trans (pz_last HNO.out (by rw [← HBE.out]; omega) (by rw [← HBE.out]; exact hz)))
                rw [← HBE.out, ← HQ.out, ← HPE.out, rest_of] at hr
                have HR := Lib.hid hr
                have q3 : ¬ (128 : Int) ≤ (b : Int) := by omega
                clear hr
                by_cases hb0 : b = 0
                · have q1 : ((b : Int) == 0) = true := by simp [hb0]
                  have q2 : decide (0 < i) = false := by simp; omega
                  have HZ := Lib.hid hz
                  have HB0 := Lib.hid hb0
                  clear hz hb0
                  go_wp2_with fail
                  go_ret2
                  exact TakePost.mk HR.out rfl h.set0 (gr_set _ _ _ _)
                · have q1 : ((b : Int) == 0) = false := by simp; omega
                  have HZ := Lib.hid hz
                  clear hz
                  go_wp2_with fail
                  go_ret2
                  exact TakePost.mk HR.out rfl h.set0 (gr_set _ _ _ _)
      · have hr := takeR_no (most := most) (s := s) (c := 4) (HP.out.trans (pz_bad (.inl (by omega)))) (by decide)
        have HR := Lib.hid hr
        have q1 : decide ((9 : Int) < (i : Int)) = true := by simp; omega
        have q2 : (0 : Int) ≤ 7 * (i : Int) := by omega
        have q3 : ∀ w : World, (Op.shift .shl .u64 (q : Int) .i64 (7 * (i : Int))).run Try.prog w = .ok (.int .u64 (IntKind.u64.wrap ((q : Int) * 2 ^ min (7 * (i : Int)).toNat 64))) w := fun w => by rw [shift_shl_any _ _ _ _ q2]; rfl
        clear hr
        go_wp2_with fail
        go_ret2
        exact TakePost.mk HR.out rfl h (gr_refl _ _)
    · have hie : i = s.size := by omega
      have hr := takeR_no (most := most) (s := s) (c := 8) (hpz.trans (by rw [hie, List.drop_of_length_le (by rw [Array.length_toList]; exact Nat.le_refl _)]; rfl)) (by decide)
      have HR := Lib.hid hr
      have HI := Lib.hid hie
      have HP := Lib.hid hpz
      clear hr hie hpz
      go_wp2_with fail
      go_ret2
      exact TakePost.mk HR.out rfl h (gr_refl _ _)
end Go.Proofs.Ytijhdnpaeliaoaa.Wf
