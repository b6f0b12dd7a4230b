/- Package bits: Next as a contract. Conditions: each word is a word; the table lies in its variable. -/
import Derived.Test.YtpgkikondihplaaDoorBf
import Derived.Test.YtpgkikondihplaaDoorBn
import Derived.Deep.DeepCutAuto
import Derived.Deep.CutBlock
namespace Go.Proofs.YtpgkikondihplaaDoor.Bu
open Go.RowKit Go.Proofs.YtpgkikondihplaaDoor.Ba Go.Proofs.YtpgkikondihplaaDoor.Bm Go.Proofs.YtpgkikondihplaaDoor.Bn Go.Proofs.YtpgkikondihplaaDoor.Bb Go.Proofs.YtpgkikondihplaaDoor.Bg Go.Proofs.YtpgkikondihplaaDoor.Bt Go.Proofs.YtpgkikondihplaaDoor.Be Go.Proofs.YtpgkikondihplaaDoor.Bf
set_option linter.unusedVariables false
set_option linter.unusedSimpArgs false
set_option maxRecDepth 100000
attribute [local go_sem ↓] Go.wp_at_zero Go.wp_at_succ
/-- What Next answers. -/
def nxV : Option Nat → Value
  | none => .tuple #[.int .i64 0, .bool false]
  | some m => .tuple #[.int .i64 (m : Int), .bool true]
theorem ctz_spec {x : Nat} (h0 : x ≠ 0) (hx : x < 18446744073709551616) : ∃ m, x = 2 ^ Lib.ctz 64 x * (2 * m + 1) ∧ Lib.ctz 64 x < 64 := by
  unfold Lib.ctz
  rw [if_neg h0]
  exact Lib.ctzFrom_spec 64 x (by omega) hx
theorem below_at (m : Nat) (h : m < 1024) (w : World) : Calls Tryd.prog 13 #[.int .i64 (m : Int)] w fun e w' => e = .returned (.agg (row (belowS m))) ∧ Below w.heap.size w w' := by
  have := belowC (m : Int) w
  rw [show min (m : Int).toNat 1024 = m by omega] at this
  exact this
theorem below_zero (w : World) : Calls Tryd.prog 13 #[.int .i64 0] w fun e w' => e = .returned (.agg (row (belowS 0))) ∧ Below w.heap.size w w' := belowC 0 w
/-- The words below k of what is left are 0. -/
def NoneTo (r : Nat → Nat) (k : Nat) : Prop := ∀ j, j < k → r j = 0
theorem NoneTo.next {r : Nat → Nat} {k : Nat} (h : NoneTo r k) (h0 : r k = 0) : NoneTo r (k + 1) := fun j hj => by
  by_cases e : j = k
  · subst e; exact h0
  · exact h j (by omega)
theorem found {s : Nat → Nat} (hs : Word s) {m k : Nat} (hk : k < 16) (h : NoneTo (lessS s (belowS m)) k) (hne : lessS s (belowS m) k ≠ 0) : nxV (nx (lst s) m) = .tuple #[.int .i64 ((k : Int) * 64 + (Lib.ctz 64 (lessS s (belowS m) k) : Int)), .bool true] := by
  obtain ⟨q, hq, hc⟩ := ctz_spec hne (less_word hs k)
  rw [next_word hs hk hc h hq]
  show Value.tuple #[.int .i64 ((64 * k + Lib.ctz 64 (lessS s (belowS m) k) : Nat) : Int), .bool true] = _
  congr 3
  rw [show ((64 * k + Lib.ctz 64 (lessS s (belowS m) k) : Nat) : Int) = (k : Int) * 64 + (Lib.ctz 64 (lessS s (belowS m) k) : Int) by omega]
theorem nextFar (s : Nat → Nat) (n : Int) (h : 1024 ≤ n) (w : World) : Calls Tryd.prog 12 #[.agg (row s), .int .i64 n] w fun e w' => e = .returned (nxV (nx (lst s) n.toNat)) ∧ Below w.heap.size w w' := by
  rw [next_far (by omega)]
  have h1 : ¬ n < 0 := by omega
  have hB0 : Below w.heap.size w (w.alloc (.cells (row s) 25)) := by (repeat' (first | (with_reducible exact Below.refl _ _) | (with_reducible assumption) | (with_reducible refine Below.alloc ?_ ?_ _) | (with_reducible refine Below.drew ?_) | (with_reducible refine below_drewN ?_ _) | (with_reducible refine Below.setCell ?_ ?_ _) | (with_reducible refine Below.trans ?_ (Below.mono (by with_reducible assumption) ?_)) | (simp only [World.size_alloc, World.size_setCell, World.heap_drewN, World.size_drew]; omega) | omega | (simp; omega) | (simp; done)))
  go_enter Tryd.func12, Tryd.ntmps12
  go_wp2_with fail
  go_ret2
  exact ⟨rfl, hB0⟩
set_option maxHeartbeats 1000000 in
theorem nextNat (s : Nat → Nat) (hs : Word s) (m : Nat) (h : m < 1024) (w : World) (hT : Tab w) : Calls Tryd.prog 12 #[.agg (row s), .int .i64 (m : Int)] w fun e w' => e = .returned (nxV (nx (lst s) m)) ∧ Below w.heap.size w w' := by
  have h0 := Row.new s w
  have hB : Below w.heap.size w (w.alloc (.cells (row s) 25)) := by (repeat' (first | (with_reducible exact Below.refl _ _) | (with_reducible assumption) | (with_reducible refine Below.alloc ?_ ?_ _) | (with_reducible refine Below.drew ?_) | (with_reducible refine below_drewN ?_ _) | (with_reducible refine Below.setCell ?_ ?_ _) | (with_reducible refine Below.trans ?_ (Below.mono (by with_reducible assumption) ?_)) | (simp only [World.size_alloc, World.size_setCell, World.heap_drewN, World.size_drew]; omega) | omega | (simp; omega) | (simp; done)))
  have hw0 := hT.pos
  replace hT := hT.on hB
  have h1 : ¬ (m : Int) < 0 := by omega
  have h2 : ¬ (1024 : Int) ≤ (m : Int) := by omega
  obtain ⟨wa, hwa⟩ : ∃ wa, wa = w.alloc (.cells (row s) 25) := ⟨_, rfl⟩
  rw [← hwa] at h0 hB hT
  have HW := Lib.hid hwa
  clear hwa
  go_enter Tryd.func12, Tryd.ntmps12
  go_upto_region 4 with fail
  rw [← HW.out]
  go_cut [6] (fun p wr => ∃ g : Nat, p = .pointer (some ⟨g, 0, none⟩) ∧ Row g (lessS s (belowS m)) wr ∧ Tab wr ∧ Below w.heap.size w wr)
  case first =>
    refine wp_region_any (by kernel_rfl) ?_
    change wpAny _ _ _ _ _ _ _ (World.drew _)
    replace h0 : Row w.heap.size s wa.drew := h0
    replace hB : Below w.heap.size w wa.drew := hB.drew
    replace hT : Tab wa.drew := hT.on ((Below.refl _ _).drew)
    generalize wa.drew = wb at *
    refine wpAny_take (i := 1) (v := ?_) rfl (by kernel_rfl) (by kernel_rfl) (by kernel_rfl) (fun _ _ _ h => h) (Or.inl ⟨by rfl, ?_⟩) ?_
    rotate_left
    · intro w; go_simp; try with_reducible rfl
    refine wpAny_ready (rs := [0, 2, 4]) (by kernel_rfl) (by simp) ?_
    refine AllReady.cons rfl (fun K hK => ?_) ?_
    · refine ldR _ rfl rfl _ rfl s h0 ?_
      go_simp
      first | (refine hK _ _ ?_; clear hK K) | skip
      refine wpAny_ready (rs := [2, 4]) (by kernel_rfl) (by simp) ?_
      refine AllReady.cons rfl (fun K hK => ?_) ?_
      · go_simp
        refine (below_at m h _).mono ?_
        rintro e w2 ⟨rfl, hb⟩
        replace hB := hB.trans (hb.mono hB.size)
        replace h0 := h0.on hb
        replace hT := hT.on hb
        clear hb
        go_wp2_with fail
        first | (refine hK _ _ ?_; clear hK K) | skip
        refine wpAny_ready (rs := [3, 4]) (by kernel_rfl) (by simp) ?_
        refine AllReady.cons rfl (fun K hK => ?_) ?_
        · go_simp
          refine (lessSetC s (belowS m) hs (below_word _) _).mono ?_
          rintro e w3 ⟨rfl, hb⟩
          replace hB := hB.trans (hb.mono hB.size)
          replace h0 := h0.on hb
          replace hT := hT.on hb
          clear hb
          go_wp2_with fail
          first | (refine hK _ _ ?_; clear hK K) | skip
          refine wpAny_ready (rs := [4]) (by kernel_rfl) (by simp) ?_
          refine AllReady.cons rfl (fun K hK => ?_) ?_
          · refine alR rfl rfl ?_
            intro gz w4 hz hb hgz
            replace hgz := Nat.le_trans hB.size hgz
            replace hB := hB.trans (hb.mono hB.size)
            replace h0 := h0.on hb
            replace hT := hT.on hb
            clear hb
            go_simp
            first | (refine hK _ _ ?_; clear hK K) | skip
            refine wpAny_ready (rs := [5]) (by kernel_rfl) (by simp) ?_
            refine AllReady.cons rfl (fun K hK => ?_) ?_
            · refine stR _ _ rfl rfl _ rfl (lessS s (belowS m)) rfl _ hz ?_
              intro w9 hr hu
              replace hB := hu.below hB hgz
              replace hT := hT.below (hu.below (Below.refl _ _) (Nat.le_refl _)) (Nat.lt_of_lt_of_le hw0 hgz)
              go_simp
              first | (refine hK _ _ ?_; clear hK K) | skip
              refine wpAny_done (by kernel_rfl) ?_ _
              go_wp2_with fail
              go_meet
              exact ⟨_, rfl, hr, hT, hB⟩
            exact AllReady.nil
          exact AllReady.nil
        refine AllReady.cons rfl (fun K hK => ?_) ?_
        · refine alR rfl rfl ?_
          intro gz w4 hz hb hgz
          replace hgz := Nat.le_trans hB.size hgz
          replace hB := hB.trans (hb.mono hB.size)
          replace h0 := h0.on hb
          replace hT := hT.on hb
          clear hb
          go_simp
          first | (refine hK _ _ ?_; clear hK K) | skip
          refine wpAny_ready (rs := [3]) (by kernel_rfl) (by simp) ?_
          refine AllReady.cons rfl (fun K hK => ?_) ?_
          · go_simp
            refine (lessSetC s (belowS m) hs (below_word _) _).mono ?_
            rintro e w3 ⟨rfl, hb⟩
            replace hB := hB.trans (hb.mono hB.size)
            replace h0 := h0.on hb
            replace hT := hT.on hb
            replace hz := hz.on hb
            clear hb
            go_wp2_with fail
            first | (refine hK _ _ ?_; clear hK K) | skip
            refine wpAny_ready (rs := [5]) (by kernel_rfl) (by simp) ?_
            refine AllReady.cons rfl (fun K hK => ?_) ?_
            · refine stR _ _ rfl rfl _ rfl (lessS s (belowS m)) rfl _ hz ?_
              intro w9 hr hu
              replace hB := hu.below hB hgz
              replace hT := hT.below (hu.below (Below.refl _ _) (Nat.le_refl _)) (Nat.lt_of_lt_of_le hw0 hgz)
              go_simp
              first | (refine hK _ _ ?_; clear hK K) | skip
              refine wpAny_done (by kernel_rfl) ?_ _
              go_wp2_with fail
              go_meet
              exact ⟨_, rfl, hr, hT, hB⟩
            exact AllReady.nil
          exact AllReady.nil
        exact AllReady.nil
      refine AllReady.cons rfl (fun K hK => ?_) ?_
      · refine alR rfl rfl ?_
        intro gz w4 hz hb hgz
        replace hgz := Nat.le_trans hB.size hgz
        replace hB := hB.trans (hb.mono hB.size)
        replace h0 := h0.on hb
        replace hT := hT.on hb
        clear hb
        go_simp
        first | (refine hK _ _ ?_; clear hK K) | skip
        refine wpAny_ready (rs := [2]) (by kernel_rfl) (by simp) ?_
        refine AllReady.cons rfl (fun K hK => ?_) ?_
        · go_simp
          refine (below_at m h _).mono ?_
          rintro e w2 ⟨rfl, hb⟩
          replace hB := hB.trans (hb.mono hB.size)
          replace h0 := h0.on hb
          replace hT := hT.on hb
          replace hz := hz.on hb
          clear hb
          go_wp2_with fail
          first | (refine hK _ _ ?_; clear hK K) | skip
          refine wpAny_ready (rs := [3]) (by kernel_rfl) (by simp) ?_
          refine AllReady.cons rfl (fun K hK => ?_) ?_
          · go_simp
            refine (lessSetC s (belowS m) hs (below_word _) _).mono ?_
            rintro e w3 ⟨rfl, hb⟩
            replace hB := hB.trans (hb.mono hB.size)
            replace h0 := h0.on hb
            replace hT := hT.on hb
            replace hz := hz.on hb
            clear hb
            go_wp2_with fail
            first | (refine hK _ _ ?_; clear hK K) | skip
            refine wpAny_ready (rs := [5]) (by kernel_rfl) (by simp) ?_
            refine AllReady.cons rfl (fun K hK => ?_) ?_
            · refine stR _ _ rfl rfl _ rfl (lessS s (belowS m)) rfl _ hz ?_
              intro w9 hr hu
              replace hB := hu.below hB hgz
              replace hT := hT.below (hu.below (Below.refl _ _) (Nat.le_refl _)) (Nat.lt_of_lt_of_le hw0 hgz)
              go_simp
              first | (refine hK _ _ ?_; clear hK K) | skip
              refine wpAny_done (by kernel_rfl) ?_ _
              go_wp2_with fail
              go_meet
              exact ⟨_, rfl, hr, hT, hB⟩
            exact AllReady.nil
          exact AllReady.nil
        exact AllReady.nil
      exact AllReady.nil
    refine AllReady.cons rfl (fun K hK => ?_) ?_
    · go_simp
      refine (below_at m h _).mono ?_
      rintro e w2 ⟨rfl, hb⟩
      replace hB := hB.trans (hb.mono hB.size)
      replace h0 := h0.on hb
      replace hT := hT.on hb
      clear hb
      go_wp2_with fail
      first | (refine hK _ _ ?_; clear hK K) | skip
      refine wpAny_ready (rs := [0, 4]) (by kernel_rfl) (by simp) ?_
      refine AllReady.cons rfl (fun K hK => ?_) ?_
      · refine ldR _ rfl rfl _ rfl s h0 ?_
        go_simp
        first | (refine hK _ _ ?_; clear hK K) | skip
        refine wpAny_ready (rs := [3, 4]) (by kernel_rfl) (by simp) ?_
        refine AllReady.cons rfl (fun K hK => ?_) ?_
        · go_simp
          refine (lessSetC s (belowS m) hs (below_word _) _).mono ?_
          rintro e w3 ⟨rfl, hb⟩
          replace hB := hB.trans (hb.mono hB.size)
          replace h0 := h0.on hb
          replace hT := hT.on hb
          clear hb
          go_wp2_with fail
          first | (refine hK _ _ ?_; clear hK K) | skip
          refine wpAny_ready (rs := [4]) (by kernel_rfl) (by simp) ?_
          refine AllReady.cons rfl (fun K hK => ?_) ?_
          · refine alR rfl rfl ?_
            intro gz w4 hz hb hgz
            replace hgz := Nat.le_trans hB.size hgz
            replace hB := hB.trans (hb.mono hB.size)
            replace h0 := h0.on hb
            replace hT := hT.on hb
            clear hb
            go_simp
            first | (refine hK _ _ ?_; clear hK K) | skip
            refine wpAny_ready (rs := [5]) (by kernel_rfl) (by simp) ?_
            refine AllReady.cons rfl (fun K hK => ?_) ?_
            · refine stR _ _ rfl rfl _ rfl (lessS s (belowS m)) rfl _ hz ?_
              intro w9 hr hu
              replace hB := hu.below hB hgz
              replace hT := hT.below (hu.below (Below.refl _ _) (Nat.le_refl _)) (Nat.lt_of_lt_of_le hw0 hgz)
              go_simp
              first | (refine hK _ _ ?_; clear hK K) | skip
              refine wpAny_done (by kernel_rfl) ?_ _
              go_wp2_with fail
              go_meet
              exact ⟨_, rfl, hr, hT, hB⟩
            exact AllReady.nil
          exact AllReady.nil
        refine AllReady.cons rfl (fun K hK => ?_) ?_
        · refine alR rfl rfl ?_
          intro gz w4 hz hb hgz
          replace hgz := Nat.le_trans hB.size hgz
          replace hB := hB.trans (hb.mono hB.size)
          replace h0 := h0.on hb
          replace hT := hT.on hb
          clear hb
          go_simp
          first | (refine hK _ _ ?_; clear hK K) | skip
          refine wpAny_ready (rs := [3]) (by kernel_rfl) (by simp) ?_
          refine AllReady.cons rfl (fun K hK => ?_) ?_
          · go_simp
            refine (lessSetC s (belowS m) hs (below_word _) _).mono ?_
            rintro e w3 ⟨rfl, hb⟩
            replace hB := hB.trans (hb.mono hB.size)
            replace h0 := h0.on hb
            replace hT := hT.on hb
            replace hz := hz.on hb
            clear hb
            go_wp2_with fail
            first | (refine hK _ _ ?_; clear hK K) | skip
            refine wpAny_ready (rs := [5]) (by kernel_rfl) (by simp) ?_
            refine AllReady.cons rfl (fun K hK => ?_) ?_
            · refine stR _ _ rfl rfl _ rfl (lessS s (belowS m)) rfl _ hz ?_
              intro w9 hr hu
              replace hB := hu.below hB hgz
              replace hT := hT.below (hu.below (Below.refl _ _) (Nat.le_refl _)) (Nat.lt_of_lt_of_le hw0 hgz)
              go_simp
              first | (refine hK _ _ ?_; clear hK K) | skip
              refine wpAny_done (by kernel_rfl) ?_ _
              go_wp2_with fail
              go_meet
              exact ⟨_, rfl, hr, hT, hB⟩
            exact AllReady.nil
          exact AllReady.nil
        exact AllReady.nil
      refine AllReady.cons rfl (fun K hK => ?_) ?_
      · refine alR rfl rfl ?_
        intro gz w4 hz hb hgz
        replace hgz := Nat.le_trans hB.size hgz
        replace hB := hB.trans (hb.mono hB.size)
        replace h0 := h0.on hb
        replace hT := hT.on hb
        clear hb
        go_simp
        first | (refine hK _ _ ?_; clear hK K) | skip
        refine wpAny_ready (rs := [0]) (by kernel_rfl) (by simp) ?_
        refine AllReady.cons rfl (fun K hK => ?_) ?_
        · refine ldR _ rfl rfl _ rfl s h0 ?_
          go_simp
          first | (refine hK _ _ ?_; clear hK K) | skip
          refine wpAny_ready (rs := [3]) (by kernel_rfl) (by simp) ?_
          refine AllReady.cons rfl (fun K hK => ?_) ?_
          · go_simp
            refine (lessSetC s (belowS m) hs (below_word _) _).mono ?_
            rintro e w3 ⟨rfl, hb⟩
            replace hB := hB.trans (hb.mono hB.size)
            replace h0 := h0.on hb
            replace hT := hT.on hb
            replace hz := hz.on hb
            clear hb
            go_wp2_with fail
            first | (refine hK _ _ ?_; clear hK K) | skip
            refine wpAny_ready (rs := [5]) (by kernel_rfl) (by simp) ?_
            refine AllReady.cons rfl (fun K hK => ?_) ?_
            · refine stR _ _ rfl rfl _ rfl (lessS s (belowS m)) rfl _ hz ?_
              intro w9 hr hu
              replace hB := hu.below hB hgz
              replace hT := hT.below (hu.below (Below.refl _ _) (Nat.le_refl _)) (Nat.lt_of_lt_of_le hw0 hgz)
              go_simp
              first | (refine hK _ _ ?_; clear hK K) | skip
              refine wpAny_done (by kernel_rfl) ?_ _
              go_wp2_with fail
              go_meet
              exact ⟨_, rfl, hr, hT, hB⟩
            exact AllReady.nil
          exact AllReady.nil
        exact AllReady.nil
      exact AllReady.nil
    refine AllReady.cons rfl (fun K hK => ?_) ?_
    · refine alR rfl rfl ?_
      intro gz w4 hz hb hgz
      replace hgz := Nat.le_trans hB.size hgz
      replace hB := hB.trans (hb.mono hB.size)
      replace h0 := h0.on hb
      replace hT := hT.on hb
      clear hb
      go_simp
      first | (refine hK _ _ ?_; clear hK K) | skip
      refine wpAny_ready (rs := [0, 2]) (by kernel_rfl) (by simp) ?_
      refine AllReady.cons rfl (fun K hK => ?_) ?_
      · refine ldR _ rfl rfl _ rfl s h0 ?_
        go_simp
        first | (refine hK _ _ ?_; clear hK K) | skip
        refine wpAny_ready (rs := [2]) (by kernel_rfl) (by simp) ?_
        refine AllReady.cons rfl (fun K hK => ?_) ?_
        · go_simp
          refine (below_at m h _).mono ?_
          rintro e w2 ⟨rfl, hb⟩
          replace hB := hB.trans (hb.mono hB.size)
          replace h0 := h0.on hb
          replace hT := hT.on hb
          replace hz := hz.on hb
          clear hb
          go_wp2_with fail
          first | (refine hK _ _ ?_; clear hK K) | skip
          refine wpAny_ready (rs := [3]) (by kernel_rfl) (by simp) ?_
          refine AllReady.cons rfl (fun K hK => ?_) ?_
          · go_simp
            refine (lessSetC s (belowS m) hs (below_word _) _).mono ?_
            rintro e w3 ⟨rfl, hb⟩
            replace hB := hB.trans (hb.mono hB.size)
            replace h0 := h0.on hb
            replace hT := hT.on hb
            replace hz := hz.on hb
            clear hb
            go_wp2_with fail
            first | (refine hK _ _ ?_; clear hK K) | skip
            refine wpAny_ready (rs := [5]) (by kernel_rfl) (by simp) ?_
            refine AllReady.cons rfl (fun K hK => ?_) ?_
            · refine stR _ _ rfl rfl _ rfl (lessS s (belowS m)) rfl _ hz ?_
              intro w9 hr hu
              replace hB := hu.below hB hgz
              replace hT := hT.below (hu.below (Below.refl _ _) (Nat.le_refl _)) (Nat.lt_of_lt_of_le hw0 hgz)
              go_simp
              first | (refine hK _ _ ?_; clear hK K) | skip
              refine wpAny_done (by kernel_rfl) ?_ _
              go_wp2_with fail
              go_meet
              exact ⟨_, rfl, hr, hT, hB⟩
            exact AllReady.nil
          exact AllReady.nil
        exact AllReady.nil
      refine AllReady.cons rfl (fun K hK => ?_) ?_
      · go_simp
        refine (below_at m h _).mono ?_
        rintro e w2 ⟨rfl, hb⟩
        replace hB := hB.trans (hb.mono hB.size)
        replace h0 := h0.on hb
        replace hT := hT.on hb
        replace hz := hz.on hb
        clear hb
        go_wp2_with fail
        first | (refine hK _ _ ?_; clear hK K) | skip
        refine wpAny_ready (rs := [0]) (by kernel_rfl) (by simp) ?_
        refine AllReady.cons rfl (fun K hK => ?_) ?_
        · refine ldR _ rfl rfl _ rfl s h0 ?_
          go_simp
          first | (refine hK _ _ ?_; clear hK K) | skip
          refine wpAny_ready (rs := [3]) (by kernel_rfl) (by simp) ?_
          refine AllReady.cons rfl (fun K hK => ?_) ?_
          · go_simp
            refine (lessSetC s (belowS m) hs (below_word _) _).mono ?_
            rintro e w3 ⟨rfl, hb⟩
            replace hB := hB.trans (hb.mono hB.size)
            replace h0 := h0.on hb
            replace hT := hT.on hb
            replace hz := hz.on hb
            clear hb
            go_wp2_with fail
            first | (refine hK _ _ ?_; clear hK K) | skip
            refine wpAny_ready (rs := [5]) (by kernel_rfl) (by simp) ?_
            refine AllReady.cons rfl (fun K hK => ?_) ?_
            · refine stR _ _ rfl rfl _ rfl (lessS s (belowS m)) rfl _ hz ?_
              intro w9 hr hu
              replace hB := hu.below hB hgz
              replace hT := hT.below (hu.below (Below.refl _ _) (Nat.le_refl _)) (Nat.lt_of_lt_of_le hw0 hgz)
              go_simp
              first | (refine hK _ _ ?_; clear hK K) | skip
              refine wpAny_done (by kernel_rfl) ?_ _
              go_wp2_with fail
              go_meet
              exact ⟨_, rfl, hr, hT, hB⟩
            exact AllReady.nil
          exact AllReady.nil
        exact AllReady.nil
      exact AllReady.nil
    exact AllReady.nil
  case rest =>
    clear h0 hB
    obtain ⟨g, rfl, hr, hT2, hB⟩ := hcut
    have hlw := less_word (t := belowS m) hs
    have hfound := fun k hk h => found (m := m) (k := k) hs hk h
    have hnone := fun h0 => next_none (n := m) hs h0
    have HF := Lib.hid hfound
    have HN := Lib.hid hnone
    clear hfound hnone hT
    generalize lessS s (belowS m) = r at *
    go_wp2_with (refine ld _ rfl rfl _ rfl r hr ?_)
    have HBB := Lib.hid hB
    have HTT := Lib.hid hT2
    clear hr hB hT2
    go_loop [18] (fun v => ∃ k : Nat, k ≤ 16 ∧ v = .int .i64 k ∧ NoneTo r k) (fun v => 16 - (intOf v).toNat)
    case atStart => exact ⟨0, by omega, rfl, fun j hj => absurd hj (by omega)⟩
    case round =>
      obtain ⟨k, hk, rfl, hno⟩ := hrel
      by_cases hlt : k < 16
      · have hz16 : (k : Int) < 16 := by omega
        have hrk := hlw k
        by_cases h00 : r k = 0
        · have hbz : ((r k : Int) != 0) = false := by rw [h00]; rfl
          have hno' := hno.next h00
          clear h00 hrk hno
          go_wp2_with (refine ix _ _ rfl rfl r rfl k rfl hlt ?_)
          go_round
          case rel => exact ⟨k + 1, by omega, by go_num, hno'⟩
          case measure => simp [intOf]; omega
        · have hbz : ((r k : Int) != 0) = true := by simp; omega
          have hans := HF.out k hlt hno h00
          have HA := Lib.hid hans
          have hc64 : Lib.ctz 64 (r k) < 64 := (ctz_spec h00 hrk).choose_spec.2
          clear hno h00 hans
          go_wp2_with (first | (refine ix _ _ rfl rfl r rfl k rfl hlt ?_) | (go_at_call 34; refine (tzC _ hrk _ HTT.out).mono ?_; rintro e w1 ⟨rfl, rfl⟩))
          go_ret2
          exact ⟨congrArg Ending.returned HA.out.symm, HBB.out⟩
      · obtain rfl : k = 16 := by omega
        have hans := HN.out hno
        have HA := Lib.hid hans
        clear hans hno
        go_wp2_with fail
        go_ret2
        exact ⟨congrArg (fun q => Ending.returned (nxV q)) HA.out.symm, HBB.out⟩
set_option maxHeartbeats 1000000 in
theorem nextNeg (s : Nat → Nat) (hs : Word s) (n : Int) (h : n < 0) (w : World) (hT : Tab w) : Calls Tryd.prog 12 #[.agg (row s), .int .i64 n] w fun e w' => e = .returned (nxV (nx (lst s) 0)) ∧ Below w.heap.size w w' := by
  have h0 := Row.new s w
  have hB : Below w.heap.size w (w.alloc (.cells (row s) 25)) := by (repeat' (first | (with_reducible exact Below.refl _ _) | (with_reducible assumption) | (with_reducible refine Below.alloc ?_ ?_ _) | (with_reducible refine Below.drew ?_) | (with_reducible refine below_drewN ?_ _) | (with_reducible refine Below.setCell ?_ ?_ _) | (with_reducible refine Below.trans ?_ (Below.mono (by with_reducible assumption) ?_)) | (simp only [World.size_alloc, World.size_setCell, World.heap_drewN, World.size_drew]; omega) | omega | (simp; omega) | (simp; done)))
  have hw0 := hT.pos
  replace hT := hT.on hB
  obtain ⟨wa, hwa⟩ : ∃ wa, wa = w.alloc (.cells (row s) 25) := ⟨_, rfl⟩
  rw [← hwa] at h0 hB hT
  have HW := Lib.hid hwa
  clear hwa
  go_enter Tryd.func12, Tryd.ntmps12
  go_upto_region 4 with fail
  rw [← HW.out]
  go_cut [6] (fun p wr => ∃ g : Nat, p = .pointer (some ⟨g, 0, none⟩) ∧ Row g (lessS s (belowS 0)) wr ∧ Tab wr ∧ Below w.heap.size w wr)
  case first =>
    refine wp_region_any (by kernel_rfl) ?_
    change wpAny _ _ _ _ _ _ _ (World.drew _)
    replace h0 : Row w.heap.size s wa.drew := h0
    replace hB : Below w.heap.size w wa.drew := hB.drew
    replace hT : Tab wa.drew := hT.on ((Below.refl _ _).drew)
    generalize wa.drew = wb at *
    refine wpAny_take (i := 1) (v := ?_) rfl (by kernel_rfl) (by kernel_rfl) (by kernel_rfl) (fun _ _ _ h => h) (Or.inl ⟨by rfl, ?_⟩) ?_
    rotate_left
    · intro w; go_simp; try with_reducible rfl
    refine wpAny_ready (rs := [0, 2, 4]) (by kernel_rfl) (by simp) ?_
    refine AllReady.cons rfl (fun K hK => ?_) ?_
    · refine ldR _ rfl rfl _ rfl s h0 ?_
      go_simp
      first | (refine hK _ _ ?_; clear hK K) | skip
      refine wpAny_ready (rs := [2, 4]) (by kernel_rfl) (by simp) ?_
      refine AllReady.cons rfl (fun K hK => ?_) ?_
      · go_simp
        refine (below_zero _).mono ?_
        rintro e w2 ⟨rfl, hb⟩
        replace hB := hB.trans (hb.mono hB.size)
        replace h0 := h0.on hb
        replace hT := hT.on hb
        clear hb
        go_wp2_with fail
        first | (refine hK _ _ ?_; clear hK K) | skip
        refine wpAny_ready (rs := [3, 4]) (by kernel_rfl) (by simp) ?_
        refine AllReady.cons rfl (fun K hK => ?_) ?_
        · go_simp
          refine (lessSetC s (belowS 0) hs (below_word _) _).mono ?_
          rintro e w3 ⟨rfl, hb⟩
          replace hB := hB.trans (hb.mono hB.size)
          replace h0 := h0.on hb
          replace hT := hT.on hb
          clear hb
          go_wp2_with fail
          first | (refine hK _ _ ?_; clear hK K) | skip
          refine wpAny_ready (rs := [4]) (by kernel_rfl) (by simp) ?_
          refine AllReady.cons rfl (fun K hK => ?_) ?_
          · refine alR rfl rfl ?_
            intro gz w4 hz hb hgz
            replace hgz := Nat.le_trans hB.size hgz
            replace hB := hB.trans (hb.mono hB.size)
            replace h0 := h0.on hb
            replace hT := hT.on hb
            clear hb
            go_simp
            first | (refine hK _ _ ?_; clear hK K) | skip
            refine wpAny_ready (rs := [5]) (by kernel_rfl) (by simp) ?_
            refine AllReady.cons rfl (fun K hK => ?_) ?_
            · refine stR _ _ rfl rfl _ rfl (lessS s (belowS 0)) rfl _ hz ?_
              intro w9 hr hu
              replace hB := hu.below hB hgz
              replace hT := hT.below (hu.below (Below.refl _ _) (Nat.le_refl _)) (Nat.lt_of_lt_of_le hw0 hgz)
              go_simp
              first | (refine hK _ _ ?_; clear hK K) | skip
              refine wpAny_done (by kernel_rfl) ?_ _
              go_wp2_with fail
              go_meet
              exact ⟨_, rfl, hr, hT, hB⟩
            exact AllReady.nil
          exact AllReady.nil
        refine AllReady.cons rfl (fun K hK => ?_) ?_
        · refine alR rfl rfl ?_
          intro gz w4 hz hb hgz
          replace hgz := Nat.le_trans hB.size hgz
          replace hB := hB.trans (hb.mono hB.size)
          replace h0 := h0.on hb
          replace hT := hT.on hb
          clear hb
          go_simp
          first | (refine hK _ _ ?_; clear hK K) | skip
          refine wpAny_ready (rs := [3]) (by kernel_rfl) (by simp) ?_
          refine AllReady.cons rfl (fun K hK => ?_) ?_
          · go_simp
            refine (lessSetC s (belowS 0) hs (below_word _) _).mono ?_
            rintro e w3 ⟨rfl, hb⟩
            replace hB := hB.trans (hb.mono hB.size)
            replace h0 := h0.on hb
            replace hT := hT.on hb
            replace hz := hz.on hb
            clear hb
            go_wp2_with fail
            first | (refine hK _ _ ?_; clear hK K) | skip
            refine wpAny_ready (rs := [5]) (by kernel_rfl) (by simp) ?_
            refine AllReady.cons rfl (fun K hK => ?_) ?_
            · refine stR _ _ rfl rfl _ rfl (lessS s (belowS 0)) rfl _ hz ?_
              intro w9 hr hu
              replace hB := hu.below hB hgz
              replace hT := hT.below (hu.below (Below.refl _ _) (Nat.le_refl _)) (Nat.lt_of_lt_of_le hw0 hgz)
              go_simp
              first | (refine hK _ _ ?_; clear hK K) | skip
              refine wpAny_done (by kernel_rfl) ?_ _
              go_wp2_with fail
              go_meet
              exact ⟨_, rfl, hr, hT, hB⟩
            exact AllReady.nil
          exact AllReady.nil
        exact AllReady.nil
      refine AllReady.cons rfl (fun K hK => ?_) ?_
      · refine alR rfl rfl ?_
        intro gz w4 hz hb hgz
        replace hgz := Nat.le_trans hB.size hgz
        replace hB := hB.trans (hb.mono hB.size)
        replace h0 := h0.on hb
        replace hT := hT.on hb
        clear hb
        go_simp
        first | (refine hK _ _ ?_; clear hK K) | skip
        refine wpAny_ready (rs := [2]) (by kernel_rfl) (by simp) ?_
        refine AllReady.cons rfl (fun K hK => ?_) ?_
        · go_simp
          refine (below_zero _).mono ?_
          rintro e w2 ⟨rfl, hb⟩
          replace hB := hB.trans (hb.mono hB.size)
          replace h0 := h0.on hb
          replace hT := hT.on hb
          replace hz := hz.on hb
          clear hb
          go_wp2_with fail
          first | (refine hK _ _ ?_; clear hK K) | skip
          refine wpAny_ready (rs := [3]) (by kernel_rfl) (by simp) ?_
          refine AllReady.cons rfl (fun K hK => ?_) ?_
          · go_simp
            refine (lessSetC s (belowS 0) hs (below_word _) _).mono ?_
            rintro e w3 ⟨rfl, hb⟩
            replace hB := hB.trans (hb.mono hB.size)
            replace h0 := h0.on hb
            replace hT := hT.on hb
            replace hz := hz.on hb
            clear hb
            go_wp2_with fail
            first | (refine hK _ _ ?_; clear hK K) | skip
            refine wpAny_ready (rs := [5]) (by kernel_rfl) (by simp) ?_
            refine AllReady.cons rfl (fun K hK => ?_) ?_
            · refine stR _ _ rfl rfl _ rfl (lessS s (belowS 0)) rfl _ hz ?_
              intro w9 hr hu
              replace hB := hu.below hB hgz
              replace hT := hT.below (hu.below (Below.refl _ _) (Nat.le_refl _)) (Nat.lt_of_lt_of_le hw0 hgz)
              go_simp
              first | (refine hK _ _ ?_; clear hK K) | skip
              refine wpAny_done (by kernel_rfl) ?_ _
              go_wp2_with fail
              go_meet
              exact ⟨_, rfl, hr, hT, hB⟩
            exact AllReady.nil
          exact AllReady.nil
        exact AllReady.nil
      exact AllReady.nil
    refine AllReady.cons rfl (fun K hK => ?_) ?_
    · go_simp
      refine (below_zero _).mono ?_
      rintro e w2 ⟨rfl, hb⟩
      replace hB := hB.trans (hb.mono hB.size)
      replace h0 := h0.on hb
      replace hT := hT.on hb
      clear hb
      go_wp2_with fail
      first | (refine hK _ _ ?_; clear hK K) | skip
      refine wpAny_ready (rs := [0, 4]) (by kernel_rfl) (by simp) ?_
      refine AllReady.cons rfl (fun K hK => ?_) ?_
      · refine ldR _ rfl rfl _ rfl s h0 ?_
        go_simp
        first | (refine hK _ _ ?_; clear hK K) | skip
        refine wpAny_ready (rs := [3, 4]) (by kernel_rfl) (by simp) ?_
        refine AllReady.cons rfl (fun K hK => ?_) ?_
        · go_simp
          refine (lessSetC s (belowS 0) hs (below_word _) _).mono ?_
          rintro e w3 ⟨rfl, hb⟩
          replace hB := hB.trans (hb.mono hB.size)
          replace h0 := h0.on hb
          replace hT := hT.on hb
          clear hb
          go_wp2_with fail
          first | (refine hK _ _ ?_; clear hK K) | skip
          refine wpAny_ready (rs := [4]) (by kernel_rfl) (by simp) ?_
          refine AllReady.cons rfl (fun K hK => ?_) ?_
          · refine alR rfl rfl ?_
            intro gz w4 hz hb hgz
            replace hgz := Nat.le_trans hB.size hgz
            replace hB := hB.trans (hb.mono hB.size)
            replace h0 := h0.on hb
            replace hT := hT.on hb
            clear hb
            go_simp
            first | (refine hK _ _ ?_; clear hK K) | skip
            refine wpAny_ready (rs := [5]) (by kernel_rfl) (by simp) ?_
            refine AllReady.cons rfl (fun K hK => ?_) ?_
            · refine stR _ _ rfl rfl _ rfl (lessS s (belowS 0)) rfl _ hz ?_
              intro w9 hr hu
              replace hB := hu.below hB hgz
              replace hT := hT.below (hu.below (Below.refl _ _) (Nat.le_refl _)) (Nat.lt_of_lt_of_le hw0 hgz)
              go_simp
              first | (refine hK _ _ ?_; clear hK K) | skip
              refine wpAny_done (by kernel_rfl) ?_ _
              go_wp2_with fail
              go_meet
              exact ⟨_, rfl, hr, hT, hB⟩
            exact AllReady.nil
          exact AllReady.nil
        refine AllReady.cons rfl (fun K hK => ?_) ?_
        · refine alR rfl rfl ?_
          intro gz w4 hz hb hgz
          replace hgz := Nat.le_trans hB.size hgz
          replace hB := hB.trans (hb.mono hB.size)
          replace h0 := h0.on hb
          replace hT := hT.on hb
          clear hb
          go_simp
          first | (refine hK _ _ ?_; clear hK K) | skip
          refine wpAny_ready (rs := [3]) (by kernel_rfl) (by simp) ?_
          refine AllReady.cons rfl (fun K hK => ?_) ?_
          · go_simp
            refine (lessSetC s (belowS 0) hs (below_word _) _).mono ?_
            rintro e w3 ⟨rfl, hb⟩
            replace hB := hB.trans (hb.mono hB.size)
            replace h0 := h0.on hb
            replace hT := hT.on hb
            replace hz := hz.on hb
            clear hb
            go_wp2_with fail
            first | (refine hK _ _ ?_; clear hK K) | skip
            refine wpAny_ready (rs := [5]) (by kernel_rfl) (by simp) ?_
            refine AllReady.cons rfl (fun K hK => ?_) ?_
            · refine stR _ _ rfl rfl _ rfl (lessS s (belowS 0)) rfl _ hz ?_
              intro w9 hr hu
              replace hB := hu.below hB hgz
              replace hT := hT.below (hu.below (Below.refl _ _) (Nat.le_refl _)) (Nat.lt_of_lt_of_le hw0 hgz)
              go_simp
              first | (refine hK _ _ ?_; clear hK K) | skip
              refine wpAny_done (by kernel_rfl) ?_ _
              go_wp2_with fail
              go_meet
              exact ⟨_, rfl, hr, hT, hB⟩
            exact AllReady.nil
          exact AllReady.nil
        exact AllReady.nil
      refine AllReady.cons rfl (fun K hK => ?_) ?_
      · refine alR rfl rfl ?_
        intro gz w4 hz hb hgz
        replace hgz := Nat.le_trans hB.size hgz
        replace hB := hB.trans (hb.mono hB.size)
        replace h0 := h0.on hb
        replace hT := hT.on hb
        clear hb
        go_simp
        first | (refine hK _ _ ?_; clear hK K) | skip
        refine wpAny_ready (rs := [0]) (by kernel_rfl) (by simp) ?_
        refine AllReady.cons rfl (fun K hK => ?_) ?_
        · refine ldR _ rfl rfl _ rfl s h0 ?_
          go_simp
          first | (refine hK _ _ ?_; clear hK K) | skip
          refine wpAny_ready (rs := [3]) (by kernel_rfl) (by simp) ?_
          refine AllReady.cons rfl (fun K hK => ?_) ?_
          · go_simp
            refine (lessSetC s (belowS 0) hs (below_word _) _).mono ?_
            rintro e w3 ⟨rfl, hb⟩
            replace hB := hB.trans (hb.mono hB.size)
            replace h0 := h0.on hb
            replace hT := hT.on hb
            replace hz := hz.on hb
            clear hb
            go_wp2_with fail
            first | (refine hK _ _ ?_; clear hK K) | skip
            refine wpAny_ready (rs := [5]) (by kernel_rfl) (by simp) ?_
            refine AllReady.cons rfl (fun K hK => ?_) ?_
            · refine stR _ _ rfl rfl _ rfl (lessS s (belowS 0)) rfl _ hz ?_
              intro w9 hr hu
              replace hB := hu.below hB hgz
              replace hT := hT.below (hu.below (Below.refl _ _) (Nat.le_refl _)) (Nat.lt_of_lt_of_le hw0 hgz)
              go_simp
              first | (refine hK _ _ ?_; clear hK K) | skip
              refine wpAny_done (by kernel_rfl) ?_ _
              go_wp2_with fail
              go_meet
              exact ⟨_, rfl, hr, hT, hB⟩
            exact AllReady.nil
          exact AllReady.nil
        exact AllReady.nil
      exact AllReady.nil
    refine AllReady.cons rfl (fun K hK => ?_) ?_
    · refine alR rfl rfl ?_
      intro gz w4 hz hb hgz
      replace hgz := Nat.le_trans hB.size hgz
      replace hB := hB.trans (hb.mono hB.size)
      replace h0 := h0.on hb
      replace hT := hT.on hb
      clear hb
      go_simp
      first | (refine hK _ _ ?_; clear hK K) | skip
      refine wpAny_ready (rs := [0, 2]) (by kernel_rfl) (by simp) ?_
      refine AllReady.cons rfl (fun K hK => ?_) ?_
      · refine ldR _ rfl rfl _ rfl s h0 ?_
        go_simp
        first | (refine hK _ _ ?_; clear hK K) | skip
        refine wpAny_ready (rs := [2]) (by kernel_rfl) (by simp) ?_
        refine AllReady.cons rfl (fun K hK => ?_) ?_
        · go_simp
          refine (below_zero _).mono ?_
          rintro e w2 ⟨rfl, hb⟩
          replace hB := hB.trans (hb.mono hB.size)
          replace h0 := h0.on hb
          replace hT := hT.on hb
          replace hz := hz.on hb
          clear hb
          go_wp2_with fail
          first | (refine hK _ _ ?_; clear hK K) | skip
          refine wpAny_ready (rs := [3]) (by kernel_rfl) (by simp) ?_
          refine AllReady.cons rfl (fun K hK => ?_) ?_
          · go_simp
            refine (lessSetC s (belowS 0) hs (below_word _) _).mono ?_
            rintro e w3 ⟨rfl, hb⟩
            replace hB := hB.trans (hb.mono hB.size)
            replace h0 := h0.on hb
            replace hT := hT.on hb
            replace hz := hz.on hb
            clear hb
            go_wp2_with fail
            first | (refine hK _ _ ?_; clear hK K) | skip
            refine wpAny_ready (rs := [5]) (by kernel_rfl) (by simp) ?_
            refine AllReady.cons rfl (fun K hK => ?_) ?_
            · refine stR _ _ rfl rfl _ rfl (lessS s (belowS 0)) rfl _ hz ?_
              intro w9 hr hu
              replace hB := hu.below hB hgz
              replace hT := hT.below (hu.below (Below.refl _ _) (Nat.le_refl _)) (Nat.lt_of_lt_of_le hw0 hgz)
              go_simp
              first | (refine hK _ _ ?_; clear hK K) | skip
              refine wpAny_done (by kernel_rfl) ?_ _
              go_wp2_with fail
              go_meet
              exact ⟨_, rfl, hr, hT, hB⟩
            exact AllReady.nil
          exact AllReady.nil
        exact AllReady.nil
      refine AllReady.cons rfl (fun K hK => ?_) ?_
      · go_simp
        refine (below_zero _).mono ?_
        rintro e w2 ⟨rfl, hb⟩
        replace hB := hB.trans (hb.mono hB.size)
        replace h0 := h0.on hb
        replace hT := hT.on hb
        replace hz := hz.on hb
        clear hb
        go_wp2_with fail
        first | (refine hK _ _ ?_; clear hK K) | skip
        refine wpAny_ready (rs := [0]) (by kernel_rfl) (by simp) ?_
        refine AllReady.cons rfl (fun K hK => ?_) ?_
        · refine ldR _ rfl rfl _ rfl s h0 ?_
          go_simp
          first | (refine hK _ _ ?_; clear hK K) | skip
          refine wpAny_ready (rs := [3]) (by kernel_rfl) (by simp) ?_
          refine AllReady.cons rfl (fun K hK => ?_) ?_
          · go_simp
            refine (lessSetC s (belowS 0) hs (below_word _) _).mono ?_
            rintro e w3 ⟨rfl, hb⟩
            replace hB := hB.trans (hb.mono hB.size)
            replace h0 := h0.on hb
            replace hT := hT.on hb
            replace hz := hz.on hb
            clear hb
            go_wp2_with fail
            first | (refine hK _ _ ?_; clear hK K) | skip
            refine wpAny_ready (rs := [5]) (by kernel_rfl) (by simp) ?_
            refine AllReady.cons rfl (fun K hK => ?_) ?_
            · refine stR _ _ rfl rfl _ rfl (lessS s (belowS 0)) rfl _ hz ?_
              intro w9 hr hu
              replace hB := hu.below hB hgz
              replace hT := hT.below (hu.below (Below.refl _ _) (Nat.le_refl _)) (Nat.lt_of_lt_of_le hw0 hgz)
              go_simp
              first | (refine hK _ _ ?_; clear hK K) | skip
              refine wpAny_done (by kernel_rfl) ?_ _
              go_wp2_with fail
              go_meet
              exact ⟨_, rfl, hr, hT, hB⟩
            exact AllReady.nil
          exact AllReady.nil
        exact AllReady.nil
      exact AllReady.nil
    exact AllReady.nil
  case rest =>
    clear h0 hB
    obtain ⟨g, rfl, hr, hT2, hB⟩ := hcut
    have hlw := less_word (t := belowS 0) hs
    have hfound := fun k hk h => found (m := 0) (k := k) hs hk h
    have hnone := fun h0 => next_none (n := 0) hs h0
    have HF := Lib.hid hfound
    have HN := Lib.hid hnone
    clear hfound hnone hT
    generalize lessS s (belowS 0) = r at *
    go_wp2_with (refine ld _ rfl rfl _ rfl r hr ?_)
    have HBB := Lib.hid hB
    have HTT := Lib.hid hT2
    clear hr hB hT2
    go_loop [18] (fun v => ∃ k : Nat, k ≤ 16 ∧ v = .int .i64 k ∧ NoneTo r k) (fun v => 16 - (intOf v).toNat)
    case atStart => exact ⟨0, by omega, rfl, fun j hj => absurd hj (by omega)⟩
    case round =>
      obtain ⟨k, hk, rfl, hno⟩ := hrel
      by_cases hlt : k < 16
      · have hz16 : (k : Int) < 16 := by omega
        have hrk := hlw k
        by_cases h00 : r k = 0
        · have hbz : ((r k : Int) != 0) = false := by rw [h00]; rfl
          have hno' := hno.next h00
          clear h00 hrk hno
          go_wp2_with (refine ix _ _ rfl rfl r rfl k rfl hlt ?_)
          go_round
          case rel => exact ⟨k + 1, by omega, by go_num, hno'⟩
          case measure => simp [intOf]; omega
        · have hbz : ((r k : Int) != 0) = true := by simp; omega
          have hans := HF.out k hlt hno h00
          have HA := Lib.hid hans
          have hc64 : Lib.ctz 64 (r k) < 64 := (ctz_spec h00 hrk).choose_spec.2
          clear hno h00 hans
          go_wp2_with (first | (refine ix _ _ rfl rfl r rfl k rfl hlt ?_) | (go_at_call 34; refine (tzC _ hrk _ HTT.out).mono ?_; rintro e w1 ⟨rfl, rfl⟩))
          go_ret2
          exact ⟨congrArg Ending.returned HA.out.symm, HBB.out⟩
      · obtain rfl : k = 16 := by omega
        have hans := HN.out hno
        have HA := Lib.hid hans
        clear hans hno
        go_wp2_with fail
        go_ret2
        exact ⟨congrArg (fun q => Ending.returned (nxV q)) HA.out.symm, HBB.out⟩
/-- Next, at whatever number. -/
theorem nextC (s : Nat → Nat) (hs : Word s) (n : Int) (w : World) (hT : Tab w) : Calls Tryd.prog 12 #[.agg (row s), .int .i64 n] w fun e w' => e = .returned (nxV (nx (lst s) n.toNat)) ∧ Below w.heap.size w w' := by
  by_cases h : n < 0
  · rw [show n.toNat = 0 by omega]
    exact nextNeg s hs n h w hT
  · by_cases h2 : 1024 ≤ n
    · exact nextFar s n h2 w
    · obtain ⟨m, rfl⟩ : ∃ m : Nat, n = m := ⟨n.toNat, by omega⟩
      exact nextNat s hs m (by omega) w hT
end Go.Proofs.YtpgkikondihplaaDoor.Bu
