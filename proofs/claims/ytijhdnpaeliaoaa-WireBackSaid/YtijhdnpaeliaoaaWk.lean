/- The document's reader: wrong, number, as contracts. Condition: the text is no longer than 2^40 bytes. -/
import Derived.Test.YtijhdnpaeliaoaaWj
namespace Go.Proofs.Ytijhdnpaeliaoaa.Wk
open Go.RowKit Go.Proofs.Ytijhdnpaeliaoaa.Wm Go.Proofs.Ytijhdnpaeliaoaa.Wb Go.Proofs.Ytijhdnpaeliaoaa.Wa Go.Proofs.Ytijhdnpaeliaoaa.We Go.Proofs.Ytijhdnpaeliaoaa.Wf Go.Proofs.Ytijhdnpaeliaoaa.Wg Go.Proofs.Ytijhdnpaeliaoaa.Wh Go.Proofs.Ytijhdnpaeliaoaa.Wi Go.Proofs.Ytijhdnpaeliaoaa.Wj
set_option linter.unusedVariables false
set_option linter.unusedSimpArgs false
set_option maxRecDepth 100000
theorem wrongC (g : Nat) (st : St) (c : Int) (w : World) (h : Rd g st.s st.e w) : Calls Try.prog 48 #[.pointer (some ⟨g, 0, none⟩), .int .i64 c] w (RPost g w (.int .i64 c) (St.bad c)) := by
  have c0 := h.c0
  have c1 := h.c1
  have f0 := h.fz 0
  have f1 := h.fz 1
  go_enter Try.func48, Try.ntmps48
  go_wp2_with fail
  go_ret
  exact ⟨rfl, h.set1.set0, gr_trans (gr_set _ _ _ _) (gr_set _ _ _ _)⟩
def NumPost (g : Nat) (most : Nat) (st : St) (w : World) (e : Ending) (w' : World) : Prop := RPost g w (.tuple #[.int .u64 ((rdNum most st).1 : Int), .int .i64 (rdNum most st).2.1]) (rdNum most st).2.2 e w'
theorem NumPost.mk {g most n : Nat} {st t : St} {c : Int} {w w' : World} {e : Ending} (h : rdNum most st = (n, c, t)) (he : e = .returned (.tuple #[.int .u64 (n : Int), .int .i64 c])) (hr : Rd g t.s t.e w') (hg : w.grownBy w' (some g)) : NumPost g most st w e w' := by
  unfold NumPost
  rw [h]
  exact ⟨he, hr, hg⟩
theorem pow_up {q k i : Nat} (h : 144115188075855871 < q * 128 ^ k) (hk : k < i) : 18446744073709551616 ≤ q * 128 ^ i := by
  have h1 : q * 128 ^ (k + 1) ≤ q * 128 ^ i := Nat.mul_le_mul_left _ (Nat.pow_le_pow_right (by decide) hk)
  rw [Nat.pow_succ, ← Nat.mul_assoc] at h1
  omega
set_option maxHeartbeats 2000000 in
theorem numberC (g : Nat) (s : ByteArray) (most : Nat) (hs : s.size ≤ 1099511627776) (hm : most < 18446744073709551616) (w : World) (h : Rd g s 0 w) : Calls Try.prog 47 #[.pointer (some ⟨g, 0, none⟩), .int .u64 most] w (NumPost g most ⟨s, 0⟩ w) := by
  have c0 := h.c0
  have c1 := h.c1
  have f0 := h.fz 0
  go_enter Try.func47, Try.ntmps47
  go_wp2_with fail
  go_loop [6, 7] (fun nv iv => ∃ (n i : Nat), nv = .int .u64 (n : Int) ∧ iv = .int .i64 (i : Int) ∧ i ≤ s.size ∧ n ≤ most ∧ n < 128 ^ i ∧ pz most 0 0 s.data.toList = pz most i n (s.data.toList.drop i)) (fun _ iv => s.size - (intOf iv).toNat)
  case atStart => exact ⟨0, 0, rfl, rfl, Nat.zero_le _, Nat.zero_le _, by simp, by simp⟩
  case round =>
    obtain ⟨n, i, rfl, rfl, hi, hn, hni, hpz⟩ := hrel
    by_cases hlt : i < s.size
    · rw [drop_cons s i hlt] at hpz
      have hb := s[i].toNat_lt
      obtain ⟨c, hc⟩ : ∃ c : UInt8, c = s[i] := ⟨_, rfl⟩
      rw [← hc] at hb hpz
      obtain ⟨b, hbe⟩ : ∃ b : Nat, b = c.toNat := ⟨_, rfl⟩
      have ec : (s[i]).toNat = b := by rw [← hc]; exact hbe.symm
      have hb256 : b < 256 := by omega
      have HP := Lib.hid hpz
      have HBE := Lib.hid hbe
      have HNI := Lib.hid hni
      have HC := Lib.hid hc
      obtain ⟨q, hqe⟩ : ∃ q : Nat, q = b % 128 := ⟨_, rfl⟩
      have e2 : (b : Int) % 128 = (q : Int) := by omega
      have hq : q < 128 := by omega
      have HQ := Lib.hid hqe
      clear hpz hbe hni hc hb hqe
      go_wp2_with fail
      clear e2
      go_loop [9, 10] (fun pv kv => ∃ (p k : Nat), pv = .int .u64 (p : Int) ∧ kv = .int .i64 (k : Int) ∧ k ≤ i ∧ p < 18446744073709551616 ∧ p = q * 128 ^ k) (fun _ kv => i - (intOf kv).toNat)
      case atStart => exact ⟨q, 0, rfl, rfl, Nat.zero_le _, by omega, by simp⟩
      case round =>
        obtain ⟨p, k, rfl, rfl, hki, hp64, hpk⟩ := hrel
        have HPK := Lib.hid hpk
        clear hpk
        by_cases hk : k < i
        · by_cases h57 : 144115188075855871 < p
          · have hbad := takeR_no (most := most) (s := s) (c := 4) (HP.out.trans (pz_bad (.inr (.inl (by rw [← HBE.out, ← HQ.out]; exact pow_up (k := k) (by rw [← HPK.out]; exact h57) hk))))) (by decide)
            have HR := Lib.hid (rd_no hbad (by decide))
            clear hbad
            have t1 : decide ((144115188075855871 : Int) < (p : Int)) = true := by simp; omega
            go_wp2_with (go_at_call 48; refine (wrongC g ⟨s, 0⟩ 4 _ h).mono ?_; rintro e w1 ⟨rfl, hr1, hg1⟩)
            go_ret2
            exact NumPost.mk HR.out rfl hr1 hg1
          · have t1 : decide ((144115188075855871 : Int) < (p : Int)) = false := by simp; omega
            go_wp2_with fail
            go_round
            case rel => exact ⟨p * 128, k + 1, by simp, by go_num, by omega, by omega, by rw [HPK.out, Nat.pow_succ, Nat.mul_assoc]⟩
            case measure => simp [intOf]; omega
        · have hke : k = i := by omega
          subst hke
          by_cases h9 : 9 < k
          · have hbad := takeR_no (most := most) (s := s) (c := 4) (HP.out.trans (pz_bad (.inl h9))) (by decide)
            have HR := Lib.hid (rd_no hbad (by decide))
            clear hbad
            have t1 : decide ((9 : Int) < (k : Int)) = true := by simp; omega
            go_wp2_with (go_at_call 48; refine (wrongC g ⟨s, 0⟩ 4 _ h).mono ?_; rintro e w1 ⟨rfl, hr1, hg1⟩)
            go_ret2
            exact NumPost.mk HR.out rfl hr1 hg1
          · have t9 : decide ((9 : Int) < (k : Int)) = false := by simp; omega
            have hlow := below128 (b := b) HNI.out
            rw [← HQ.out, ← HPK.out] at hlow
            have HLOW := Lib.hid hlow
            clear hlow
            by_cases hmost : most < n + p
            · have hbad := takeR_no (most := most) (s := s) (c := 4) (HP.out.trans (pz_bad (.inr (.inr (by rw [← HBE.out, ← HQ.out, ← HPK.out]; exact hmost))))) (by decide)
              have HR := Lib.hid (rd_no hbad (by decide))
              clear hbad
              by_cases hpm : most < p
              · have t1 : decide ((most : Int) < (p : Int)) = true := by simpa using hpm
                have t2 : decide (most < p) = true := by simpa using hpm
                go_wp2_with (go_at_call 48; refine (wrongC g ⟨s, 0⟩ 4 _ h).mono ?_; rintro e w1 ⟨rfl, hr1, hg1⟩)
                go_ret2
                exact NumPost.mk HR.out rfl hr1 hg1
              · have t1 : decide ((most : Int) < (p : Int)) = false := by simpa using hpm
                have t2 : decide (most < p) = false := by simpa using hpm
                have t3 : decide ((most : Int) - (p : Int) < (n : Int)) = true := by simp; omega
                go_wp2_with (go_at_call 48; refine (wrongC g ⟨s, 0⟩ 4 _ h).mono ?_; rintro e w1 ⟨rfl, hr1, hg1⟩)
                go_ret2
                exact NumPost.mk HR.out rfl hr1 hg1
            · have hno : ¬ (9 < k ∨ 18446744073709551616 ≤ c.toNat % 128 * 128 ^ k ∨ most < n + c.toNat % 128 * 128 ^ k) := by rw [← HBE.out, ← HQ.out, ← HPK.out]; omega
              have HNO := Lib.hid hno
              clear hno
              have t1 : decide ((most : Int) < (p : Int)) = false := by simp; omega
              have t2 : decide (most < p) = false := by simp; omega
              have t3 : decide ((most : Int) - (p : Int) < (n : Int)) = false := by simp; omega
              by_cases h128 : 128 ≤ b
              · have t4 : decide ((b : Int) < 128) = false := by simp; omega
                go_wp2_with fail
                go_round
                case rel => exact ⟨n + p, k + 1, by simp, by go_num, by omega, by omega, HLOW.out, by rw [HP.out, pz_on HNO.out (by rw [← HBE.out]; exact h128), ← HBE.out, ← HQ.out, ← HPK.out]⟩
                case measure => simp [intOf]; omega
              · have t4 : decide ((b : Int) < 128) = true := by simp; omega
                by_cases hz : b = 0 ∧ 0 < k
                · obtain ⟨hz1, hz2⟩ := hz
                  have hbad := takeR_no (most := most) (s := s) (c := 4) (HP.out.trans (pz_zero HNO.out (by rw [← HBE.out]; exact hz1) hz2)) (by decide)
                  have HR := Lib.hid (rd_no hbad (by decide))
                  have q1 : ((b : Int) == 0) = true := by simp [hz1]
                  have q2 : decide (0 < k) = true := by simpa using hz2
                  have HZ := Lib.hid hz1
                  clear hbad hz1
                  go_wp2_with (go_at_call 48; refine (wrongC g ⟨s, 0⟩ 4 _ h).mono ?_; rintro e w1 ⟨rfl, hr1, hg1⟩)
                  go_ret2
                  exact NumPost.mk HR.out rfl hr1 hg1
                · have hr := takeR_ok (most := most) (s := s) (HP.out.trans (pz_last HNO.out (by rw [← HBE.out]; omega) (by rw [← HBE.out]; exact hz)))
                  rw [← HBE.out, ← HQ.out, ← HPK.out, rest_of] at hr
                  have HR := Lib.hid (rd_ok hr)
                  clear hr
                  by_cases hb0 : b = 0
                  · have q1 : ((b : Int) == 0) = true := by simp [hb0]
                    have q2 : decide (0 < k) = false := by simp; omega
                    have HZ := Lib.hid hz
                    have HB0 := Lib.hid hb0
                    clear hz hb0
                    go_wp2_with fail
                    go_ret2
                    exact NumPost.mk HR.out rfl h.set0 (gr_set _ _ _ _)
                  · have q1 : ((b : Int) == 0) = false := by simp; omega
                    have HZ := Lib.hid hz
                    clear hz
                    go_wp2_with fail
                    go_ret2
                    exact NumPost.mk HR.out rfl h.set0 (gr_set _ _ _ _)
    · have hie : i = s.size := by omega
      have hr := takeR_no (most := most) (s := s) (c := 8) (hpz.trans (by rw [hie, List.drop_of_length_le (by rw [Array.length_toList]; exact Nat.le_refl _)]; rfl)) (by decide)
      have HR := Lib.hid (rd_no hr (by decide))
      have HI := Lib.hid hie
      have HP := Lib.hid hpz
      clear hr hie hpz
      go_wp2_with (go_at_call 48; refine (wrongC g ⟨s, 0⟩ 8 _ h).mono ?_; rintro e w1 ⟨rfl, hr1, hg1⟩)
      go_ret2
      exact NumPost.mk HR.out rfl hr1 hg1
end Go.Proofs.Ytijhdnpaeliaoaa.Wk
