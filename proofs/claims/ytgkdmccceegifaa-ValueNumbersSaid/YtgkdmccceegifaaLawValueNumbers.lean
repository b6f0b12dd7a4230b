/- ValueNumbers: the walk of the law, from value.Two's contract and the plain law. Conditions: the numbers' own range. -/
import Derived.Test.YtgkdmccceegifaaVy
import Derived.Test.YtgkdmccceegifaaVnb
namespace Go.Proofs.Ytgkdmccceegifaa.LawValueNumbers
open Go.RowKit Go.Sort Go.Proofs.Ytgkdmccceegifaa.Vm Go.Proofs.Ytgkdmccceegifaa.Va Go.Proofs.Ytgkdmccceegifaa.Vc Go.Proofs.Ytgkdmccceegifaa.Vt Go.Proofs.Ytgkdmccceegifaa.Vz Go.Proofs.Ytgkdmccceegifaa.Vo Go.Proofs.Ytgkdmccceegifaa.Vq Go.Proofs.Ytgkdmccceegifaa.Vx Go.Proofs.Ytgkdmccceegifaa.Vy Go.Proofs.Ytgkdmccceegifaa.Vnb
set_option linter.unusedVariables false
set_option linter.unusedSimpArgs false
set_option maxRecDepth 100000
theorem knum {g : Nat} {n : Int} {w : World} (h : Kv g (num n) w) : w.cell? ⟨g, 0, none⟩ = some (.int .u8 1) ∧ w.cell? ⟨g, 1, none⟩ = some (.int .i64 n) ∧ w.cell? ⟨g, 2, none⟩ = some (.string ⟨#[]⟩) := ⟨h.c0, h.c1, h.c2⟩
theorem twoN (op n m : Int) (v : V) (c : Int) (h : two op (num n) (num m) = (v, c)) (w : World) : Calls Try.prog 8 #[.int .u8 op, .agg #[.int .u8 1, .int .i64 n, .string ⟨#[]⟩], .agg #[.int .u8 1, .int .i64 m, .string ⟨#[]⟩]] w fun e w' => e = .returned (.tuple #[.agg #[.int .u8 v.k, .int .i64 v.n, .string v.t], .int .i64 c]) ∧ Below w.heap.size w w' := twoR op (num n) (num m) (v, c) h w
set_option maxHeartbeats 16000000 in
theorem walkN (n m : Int) (hn : R n) (hm : R m) (W : World) : Calls Try.prog 4 #[.int .i64 n, .int .i64 m] W fun e W' => e = .returned (.bool true) ∧ Below W.heap.size W W' := by
  obtain ⟨va, ca, ha⟩ : ∃ v c, two 8 (num n) (num m) = (v, c) := ⟨_, _, rfl⟩
  have Ha := Lib.hid ha
  clear ha
  obtain ⟨vd, cd, hd⟩ : ∃ v c, two 15 (num n) (num m) = (v, c) := ⟨_, _, rfl⟩
  have Hd := Lib.hid hd
  clear hd
  obtain ⟨vp, cp, hp⟩ : ∃ v c, two 5 (num n) (num m) = (v, c) := ⟨_, _, rfl⟩
  have Hp := Lib.hid hp
  clear hp
  obtain ⟨vq, cq, hq⟩ : ∃ v c, two 6 (num n) (num m) = (v, c) := ⟨_, _, rfl⟩
  have Hq := Lib.hid hq
  clear hq
  obtain ⟨vr, cr, hr⟩ : ∃ v c, two 7 (num n) (num m) = (v, c) := ⟨_, _, rfl⟩
  have Hr := Lib.hid hr
  clear hr
  have RN := Lib.hid hn
  have RM := Lib.hid hm
  clear hn hm
  go_enter Try.func4, Try.ntmps4
  go_upto_region 4 with (first | (go_at_call 10; refine (worksC _).mono ?_; rintro e w1 ⟨rfl, hb1⟩; have zhb1 := hb1.size; (try simp only [World.size_alloc, World.size_setCell, World.heap_drewN, World.size_drew] at zhb1)) | (go_at_call_of 11 (Value.int IntKind.i64 n); refine (lnumC _ _).mono ?_; rintro e w1 ⟨rfl, hb1⟩; have zhb1 := hb1.size; (try simp only [World.size_alloc, World.size_setCell, World.heap_drewN, World.size_drew] at zhb1)) | (go_at_call 11; refine (lnumC _ _).mono ?_; rintro e w1 ⟨rfl, hb1⟩; have zhb1 := hb1.size; (try simp only [World.size_alloc, World.size_setCell, World.heap_drewN, World.size_drew] at zhb1)))
  have kA : Kv w1.heap.size (num n) ((w1.alloc (.cells #[.int .u8 1, .int .i64 n, .string ⟨#[]⟩] 23)).alloc (.cells #[.int .u8 1, .int .i64 m, .string ⟨#[]⟩] 23)) := ⟨by simp [go_sem, num], by simp [go_sem, num], by simp [go_sem, num]⟩
  have kB : Kv (w1.heap.size + 1) (num m) ((w1.alloc (.cells #[.int .u8 1, .int .i64 n, .string ⟨#[]⟩] 23)).alloc (.cells #[.int .u8 1, .int .i64 m, .string ⟨#[]⟩] 23)) := ⟨by simp [go_sem, num], by simp [go_sem, num], by simp [go_sem, num]⟩
  have hB : Below W.heap.size W ((w1.alloc (.cells #[.int .u8 1, .int .i64 n, .string ⟨#[]⟩] 23)).alloc (.cells #[.int .u8 1, .int .i64 m, .string ⟨#[]⟩] 23)) := by (repeat' (first | (with_reducible exact Below.refl _ _) | (with_reducible assumption) | (with_reducible refine Below.alloc ?_ ?_ _) | (with_reducible refine Below.drew ?_) | (with_reducible refine below_drewN ?_ _) | (with_reducible refine Below.setCell ?_ ?_ _) | (with_reducible refine Below.trans ?_ (Below.mono (by with_reducible assumption) ?_)) | (simp only [World.size_alloc, World.size_setCell, World.heap_drewN, World.size_drew]; omega) | omega | (simp; omega) | (simp; done)))
  generalize ((w1.alloc (.cells #[.int .u8 1, .int .i64 n, .string ⟨#[]⟩] 23)).alloc (.cells #[.int .u8 1, .int .i64 m, .string ⟨#[]⟩] 23)) = W0 at *
  generalize w1.heap.size + 1 = gB at *
  generalize w1.heap.size = gA at *
  obtain ⟨faa, fab, fac⟩ := knum kA
  obtain ⟨fba, fbb, fbc⟩ := knum kB
  go_wp2_with fail
  refine (twoN 8 n m va ca Ha.out _).mono ?_
  rintro e x1 ⟨rfl, hx⟩
  clear faa fab fac fba fbb fbc
  go_upto_region 5 with fail
  replace kA := (kA.on hx).alloc (.cells #[.int .u8 va.k, .int .i64 va.n, .string va.t] 23)
  replace kB := (kB.on hx).alloc (.cells #[.int .u8 va.k, .int .i64 va.n, .string va.t] 23)
  have ka : Kv x1.heap.size va (x1.alloc (.cells #[.int .u8 va.k, .int .i64 va.n, .string va.t] 23)) := Kv.new
  replace hB := (on2 hB hx).alloc (on2 hB hx).size (.cells #[.int .u8 va.k, .int .i64 va.n, .string va.t] 23)
  clear hx
  generalize (x1.alloc (.cells #[.int .u8 va.k, .int .i64 va.n, .string va.t] 23)) = W1 at *
  generalize x1.heap.size = ga at *
  obtain ⟨faa, fab, fac⟩ := knum kA
  obtain ⟨fba, fbb, fbc⟩ := knum kB
  go_wp2_with fail
  refine (twoN 15 n m vd cd Hd.out _).mono ?_
  rintro e x2 ⟨rfl, hx⟩
  clear faa fab fac fba fbb fbc
  go_upto_region 6 with fail
  replace kA := (kA.on hx).alloc (.cells #[.int .u8 vd.k, .int .i64 vd.n, .string vd.t] 23)
  replace kB := (kB.on hx).alloc (.cells #[.int .u8 vd.k, .int .i64 vd.n, .string vd.t] 23)
  replace ka := (ka.on hx).alloc (.cells #[.int .u8 vd.k, .int .i64 vd.n, .string vd.t] 23)
  have kd : Kv x2.heap.size vd (x2.alloc (.cells #[.int .u8 vd.k, .int .i64 vd.n, .string vd.t] 23)) := Kv.new
  replace hB := (on2 hB hx).alloc (on2 hB hx).size (.cells #[.int .u8 vd.k, .int .i64 vd.n, .string vd.t] 23)
  clear hx
  generalize (x2.alloc (.cells #[.int .u8 vd.k, .int .i64 vd.n, .string vd.t] 23)) = W2 at *
  generalize x2.heap.size = gd at *
  obtain ⟨faa, fab, fac⟩ := knum kA
  obtain ⟨fba, fbb, fbc⟩ := knum kB
  go_wp2_with fail
  refine (twoN 5 n m vp cp Hp.out _).mono ?_
  rintro e x3 ⟨rfl, hx⟩
  clear faa fab fac fba fbb fbc
  go_upto_region 7 with fail
  replace kA := (kA.on hx).alloc (.cells #[.int .u8 vp.k, .int .i64 vp.n, .string vp.t] 23)
  replace kB := (kB.on hx).alloc (.cells #[.int .u8 vp.k, .int .i64 vp.n, .string vp.t] 23)
  replace ka := (ka.on hx).alloc (.cells #[.int .u8 vp.k, .int .i64 vp.n, .string vp.t] 23)
  replace kd := (kd.on hx).alloc (.cells #[.int .u8 vp.k, .int .i64 vp.n, .string vp.t] 23)
  have kp : Kv x3.heap.size vp (x3.alloc (.cells #[.int .u8 vp.k, .int .i64 vp.n, .string vp.t] 23)) := Kv.new
  replace hB := (on2 hB hx).alloc (on2 hB hx).size (.cells #[.int .u8 vp.k, .int .i64 vp.n, .string vp.t] 23)
  clear hx
  generalize (x3.alloc (.cells #[.int .u8 vp.k, .int .i64 vp.n, .string vp.t] 23)) = W3 at *
  generalize x3.heap.size = gp at *
  go_cut [70] (fun t Wn => t = .bool false ∧ Kv gA (num n) Wn ∧ Kv gB (num m) Wn ∧ Kv gd vd Wn ∧ Kv gp vp Wn ∧ Below W.heap.size W Wn)
  case first =>
    obtain ⟨s, hw, hway⟩ := sum_ways RN.out RM.out
    rcases hway with ⟨he, hway⟩ | ⟨he, hway⟩
    · have e := Ha.out.symm.trans he
      simp only [Prod.mk.injEq] at e
      obtain ⟨rfl, rfl⟩ := e
      clear he
      clear Ha Hd Hp Hq Hr RN RM
      obtain ⟨fa, fb, fc⟩ := knum ka
      rcases hway with ⟨t1, t2⟩ | ⟨t1, t2⟩ | ⟨t1, t2, t3⟩ | ⟨t1, t2, t3⟩
      · skip
        have Dn : n < 0 := by omega
        have dn : decide (n < 0) = true := by simpa using Dn
        have Dm : ¬ m < 0 := by omega
        have dm : decide (m < 0) = false := by simpa using Dm
        as_aux_lemma =>
          have yfa := cell_regrown fa
          have yfb := cell_regrown fb
          have yfc := cell_regrown fc
          clear fa fb fc
          (try dsimp only [List.append])
          refine wp_region_quiet_below (by kernel_rfl) (by kernel_rfl) ?_
          repeat (go_big_quiet_step ((with_reducible exact Calls.regrown_of (lnumC _ _))))
          refine wpQuiet_nil ?_
          intro _ hw'
          obtain ⟨⟨dq, osq⟩, hw''⟩ := hw'
          subst hw''
          have hq := below_regrown W3 dq osq
          go_wp2_with fail
          go_meet
          exact ⟨by simp, kA.on hq, kB.on hq, kd.on hq, kp.on hq, on2 hB hq⟩
      · skip
        have Dn : ¬ n < 0 := by omega
        have dn : decide (n < 0) = false := by simpa using Dn
        have Dm : m < 0 := by omega
        have dm : decide (m < 0) = true := by simpa using Dm
        as_aux_lemma =>
          have yfa := cell_regrown fa
          have yfb := cell_regrown fb
          have yfc := cell_regrown fc
          clear fa fb fc
          (try dsimp only [List.append])
          refine wp_region_quiet_below (by kernel_rfl) (by kernel_rfl) ?_
          repeat (go_big_quiet_step ((with_reducible exact Calls.regrown_of (lnumC _ _))))
          refine wpQuiet_nil ?_
          intro _ hw'
          obtain ⟨⟨dq, osq⟩, hw''⟩ := hw'
          subst hw''
          have hq := below_regrown W3 dq osq
          go_wp2_with fail
          go_meet
          exact ⟨by simp, kA.on hq, kB.on hq, kd.on hq, kp.on hq, on2 hB hq⟩
      · skip
        have Dn : n < 0 := by omega
        have dn : decide (n < 0) = true := by simpa using Dn
        have Dm : m < 0 := by omega
        have dm : decide (m < 0) = true := by simpa using Dm
        have Ds : s < 0 := by omega
        have ds : decide (s < 0) = true := by simpa using Ds
        as_aux_lemma =>
          have yfa := cell_regrown fa
          have yfb := cell_regrown fb
          have yfc := cell_regrown fc
          clear fa fb fc
          (try dsimp only [List.append])
          refine wp_region_quiet_below (by kernel_rfl) (by kernel_rfl) ?_
          repeat (go_big_quiet_step ((with_reducible exact Calls.regrown_of (lnumC _ _))))
          refine wpQuiet_nil ?_
          intro _ hw'
          obtain ⟨⟨dq, osq⟩, hw''⟩ := hw'
          subst hw''
          have hq := below_regrown W3 dq osq
          go_wp2_with fail
          go_meet
          exact ⟨by simp, kA.on hq, kB.on hq, kd.on hq, kp.on hq, on2 hB hq⟩
      · skip
        have Dn : ¬ n < 0 := by omega
        have dn : decide (n < 0) = false := by simpa using Dn
        have Dm : ¬ m < 0 := by omega
        have dm : decide (m < 0) = false := by simpa using Dm
        have Ds : ¬ s < 0 := by omega
        have ds : decide (s < 0) = false := by simpa using Ds
        as_aux_lemma =>
          have yfa := cell_regrown fa
          have yfb := cell_regrown fb
          have yfc := cell_regrown fc
          clear fa fb fc
          (try dsimp only [List.append])
          refine wp_region_quiet_below (by kernel_rfl) (by kernel_rfl) ?_
          repeat (go_big_quiet_step ((with_reducible exact Calls.regrown_of (lnumC _ _))))
          refine wpQuiet_nil ?_
          intro _ hw'
          obtain ⟨⟨dq, osq⟩, hw''⟩ := hw'
          subst hw''
          have hq := below_regrown W3 dq osq
          go_wp2_with fail
          go_meet
          exact ⟨by simp, kA.on hq, kB.on hq, kd.on hq, kp.on hq, on2 hB hq⟩
    · have e := Ha.out.symm.trans he
      simp only [Prod.mk.injEq] at e
      obtain ⟨rfl, rfl⟩ := e
      clear he
      clear Ha Hd Hp Hq Hr RN RM
      rcases hway with ⟨t1, t2, t3⟩ | ⟨t1, t2, t3⟩
      · skip
        have Dn : n < 0 := by omega
        have dn : decide (n < 0) = true := by simpa using Dn
        have Dm : m < 0 := by omega
        have dm : decide (m < 0) = true := by simpa using Dm
        have Ds : ¬ s < 0 := by omega
        have ds : decide (s < 0) = false := by simpa using Ds
        as_aux_lemma =>
          (try dsimp only [List.append])
          refine wp_region_quiet_below (by kernel_rfl) (by kernel_rfl) ?_
          repeat (go_big_quiet_step ((with_reducible exact Calls.regrown_of (lnumC _ _))))
          refine wpQuiet_nil ?_
          intro _ hw'
          obtain ⟨⟨dq, osq⟩, hw''⟩ := hw'
          subst hw''
          have hq := below_regrown W3 dq osq
          go_wp2_with fail
          go_meet
          exact ⟨by simp, kA.on hq, kB.on hq, kd.on hq, kp.on hq, on2 hB hq⟩
      · skip
        have Dn : ¬ n < 0 := by omega
        have dn : decide (n < 0) = false := by simpa using Dn
        have Dm : ¬ m < 0 := by omega
        have dm : decide (m < 0) = false := by simpa using Dm
        have Ds : s < 0 := by omega
        have ds : decide (s < 0) = true := by simpa using Ds
        as_aux_lemma =>
          (try dsimp only [List.append])
          refine wp_region_quiet_below (by kernel_rfl) (by kernel_rfl) ?_
          repeat (go_big_quiet_step ((with_reducible exact Calls.regrown_of (lnumC _ _))))
          refine wpQuiet_nil ?_
          intro _ hw'
          obtain ⟨⟨dq, osq⟩, hw''⟩ := hw'
          subst hw''
          have hq := below_regrown W3 dq osq
          go_wp2_with fail
          go_meet
          exact ⟨by simp, kA.on hq, kB.on hq, kd.on hq, kp.on hq, on2 hB hq⟩
  case rest =>
  clear kA kB ka kd kp hB
  obtain ⟨rfl, kA, kB, kd, kp, hB⟩ := hcut
  go_upto_region 9 with fail
  go_cut [99] (fun t Wn => t = .bool false ∧ Kv gA (num n) Wn ∧ Kv gB (num m) Wn ∧ Kv gp vp Wn ∧ Below W.heap.size W Wn)
  case first =>
    obtain ⟨s, hw, hway⟩ := dif_ways RN.out RM.out
    rcases hway with ⟨he, hway⟩ | ⟨he, hway⟩
    · have e := Hd.out.symm.trans he
      simp only [Prod.mk.injEq] at e
      obtain ⟨rfl, rfl⟩ := e
      clear he
      clear Ha Hd Hp Hq Hr RN RM
      obtain ⟨fa, fb, fc⟩ := knum kd
      rcases hway with ⟨t1, t2⟩ | ⟨t1, t2⟩ | ⟨t1, t2, t3⟩ | ⟨t1, t2, t3⟩
      · skip
        have Dn : n < 0 := by omega
        have dn : decide (n < 0) = true := by simpa using Dn
        have Dm : m < 0 := by omega
        have dm : decide (m < 0) = true := by simpa using Dm
        as_aux_lemma =>
          have yfa := cell_regrown fa
          have yfb := cell_regrown fb
          have yfc := cell_regrown fc
          clear fa fb fc
          (try dsimp only [List.append])
          refine wp_region_quiet_below (by kernel_rfl) (by kernel_rfl) ?_
          repeat (go_big_quiet_step ((with_reducible exact Calls.regrown_of (lnumC _ _))))
          refine wpQuiet_nil ?_
          intro _ hw'
          obtain ⟨⟨dq, osq⟩, hw''⟩ := hw'
          subst hw''
          have hq := below_regrown wc dq osq
          go_wp2_with fail
          go_meet
          exact ⟨by simp, kA.on hq, kB.on hq, kp.on hq, on2 hB hq⟩
      · skip
        have Dn : ¬ n < 0 := by omega
        have dn : decide (n < 0) = false := by simpa using Dn
        have Dm : ¬ m < 0 := by omega
        have dm : decide (m < 0) = false := by simpa using Dm
        as_aux_lemma =>
          have yfa := cell_regrown fa
          have yfb := cell_regrown fb
          have yfc := cell_regrown fc
          clear fa fb fc
          (try dsimp only [List.append])
          refine wp_region_quiet_below (by kernel_rfl) (by kernel_rfl) ?_
          repeat (go_big_quiet_step ((with_reducible exact Calls.regrown_of (lnumC _ _))))
          refine wpQuiet_nil ?_
          intro _ hw'
          obtain ⟨⟨dq, osq⟩, hw''⟩ := hw'
          subst hw''
          have hq := below_regrown wc dq osq
          go_wp2_with fail
          go_meet
          exact ⟨by simp, kA.on hq, kB.on hq, kp.on hq, on2 hB hq⟩
      · skip
        have Dn : n < 0 := by omega
        have dn : decide (n < 0) = true := by simpa using Dn
        have Dm : ¬ m < 0 := by omega
        have dm : decide (m < 0) = false := by simpa using Dm
        have Ds : s < 0 := by omega
        have ds : decide (s < 0) = true := by simpa using Ds
        as_aux_lemma =>
          have yfa := cell_regrown fa
          have yfb := cell_regrown fb
          have yfc := cell_regrown fc
          clear fa fb fc
          (try dsimp only [List.append])
          refine wp_region_quiet_below (by kernel_rfl) (by kernel_rfl) ?_
          repeat (go_big_quiet_step ((with_reducible exact Calls.regrown_of (lnumC _ _))))
          refine wpQuiet_nil ?_
          intro _ hw'
          obtain ⟨⟨dq, osq⟩, hw''⟩ := hw'
          subst hw''
          have hq := below_regrown wc dq osq
          go_wp2_with fail
          go_meet
          exact ⟨by simp, kA.on hq, kB.on hq, kp.on hq, on2 hB hq⟩
      · skip
        have Dn : ¬ n < 0 := by omega
        have dn : decide (n < 0) = false := by simpa using Dn
        have Dm : m < 0 := by omega
        have dm : decide (m < 0) = true := by simpa using Dm
        have Ds : ¬ s < 0 := by omega
        have ds : decide (s < 0) = false := by simpa using Ds
        as_aux_lemma =>
          have yfa := cell_regrown fa
          have yfb := cell_regrown fb
          have yfc := cell_regrown fc
          clear fa fb fc
          (try dsimp only [List.append])
          refine wp_region_quiet_below (by kernel_rfl) (by kernel_rfl) ?_
          repeat (go_big_quiet_step ((with_reducible exact Calls.regrown_of (lnumC _ _))))
          refine wpQuiet_nil ?_
          intro _ hw'
          obtain ⟨⟨dq, osq⟩, hw''⟩ := hw'
          subst hw''
          have hq := below_regrown wc dq osq
          go_wp2_with fail
          go_meet
          exact ⟨by simp, kA.on hq, kB.on hq, kp.on hq, on2 hB hq⟩
    · have e := Hd.out.symm.trans he
      simp only [Prod.mk.injEq] at e
      obtain ⟨rfl, rfl⟩ := e
      clear he
      clear Ha Hd Hp Hq Hr RN RM
      rcases hway with ⟨t1, t2, t3⟩ | ⟨t1, t2, t3⟩
      · skip
        have Dn : n < 0 := by omega
        have dn : decide (n < 0) = true := by simpa using Dn
        have Dm : ¬ m < 0 := by omega
        have dm : decide (m < 0) = false := by simpa using Dm
        have Ds : ¬ s < 0 := by omega
        have ds : decide (s < 0) = false := by simpa using Ds
        as_aux_lemma =>
          (try dsimp only [List.append])
          refine wp_region_quiet_below (by kernel_rfl) (by kernel_rfl) ?_
          repeat (go_big_quiet_step ((with_reducible exact Calls.regrown_of (lnumC _ _))))
          refine wpQuiet_nil ?_
          intro _ hw'
          obtain ⟨⟨dq, osq⟩, hw''⟩ := hw'
          subst hw''
          have hq := below_regrown wc dq osq
          go_wp2_with fail
          go_meet
          exact ⟨by simp, kA.on hq, kB.on hq, kp.on hq, on2 hB hq⟩
      · skip
        have Dn : ¬ n < 0 := by omega
        have dn : decide (n < 0) = false := by simpa using Dn
        have Dm : m < 0 := by omega
        have dm : decide (m < 0) = true := by simpa using Dm
        have Ds : s < 0 := by omega
        have ds : decide (s < 0) = true := by simpa using Ds
        as_aux_lemma =>
          (try dsimp only [List.append])
          refine wp_region_quiet_below (by kernel_rfl) (by kernel_rfl) ?_
          repeat (go_big_quiet_step ((with_reducible exact Calls.regrown_of (lnumC _ _))))
          refine wpQuiet_nil ?_
          intro _ hw'
          obtain ⟨⟨dq, osq⟩, hw''⟩ := hw'
          subst hw''
          have hq := below_regrown wc dq osq
          go_wp2_with fail
          go_meet
          exact ⟨by simp, kA.on hq, kB.on hq, kp.on hq, on2 hB hq⟩
  case rest =>
  clear kA kB kd kp hB
  obtain ⟨rfl, kA, kB, kp, hB⟩ := hcut
  go_upto_region 11 with fail
  go_cut [154] (fun t Wn => t = .bool false ∧ Kv gA (num n) Wn ∧ Kv gB (num m) Wn ∧ Below W.heap.size W Wn)
  case first =>
    have hmR := RM.out
    have hnR := RN.out
    rcases pro_ways RN.out RM.out with ⟨p, hp, hpR, he, hdiv⟩ | ⟨he, t1, t2, t3, t4, _⟩
    · have e := Hp.out.symm.trans he
      simp only [Prod.mk.injEq] at e
      obtain ⟨rfl, rfl⟩ := e
      have wp : IntKind.i64.wrap p = p := (w64 p).trans (wrap_of hpR)
      have wn : IntKind.i64.wrap n = n := (w64 n).trans (wrap_of hnR)
      clear he Ha Hd Hp Hq Hr RN RM hmR hnR hpR
      obtain ⟨fa, fb, fc⟩ := knum kp
      by_cases m0 : m = 0
      · subst m0
        clear hdiv
        as_aux_lemma =>
          have yfa := cell_regrown fa
          have yfb := cell_regrown fb
          have yfc := cell_regrown fc
          clear fa fb fc
          (try dsimp only [List.append])
          refine wp_region_quiet_below (by kernel_rfl) (by kernel_rfl) ?_
          repeat (go_big_quiet_step ((with_reducible exact Calls.regrown_of (lnumC _ _))))
          refine wpQuiet_nil ?_
          intro _ hw'
          obtain ⟨⟨dq, osq⟩, hw''⟩ := hw'
          subst hw''
          have hq := below_regrown wc dq osq
          go_wp2_with fail
          go_meet
          exact ⟨by simp, kA.on hq, kB.on hq, on2 hB hq⟩
      obtain ⟨q1, q2⟩ := hdiv m0
      clear hdiv
      have m0b : (m == 0) = false := by simpa using m0
      have m0c : (m != 0) = true := by simpa using m0
      by_cases m1 : m = -1
      · subst m1
        as_aux_lemma =>
          have yfa := cell_regrown fa
          have yfb := cell_regrown fb
          have yfc := cell_regrown fc
          clear fa fb fc
          (try dsimp only [List.append])
          refine wp_region_quiet_below (by kernel_rfl) (by kernel_rfl) ?_
          repeat (go_big_quiet_step ((with_reducible exact Calls.regrown_of (lnumC _ _))))
          refine wpQuiet_nil ?_
          intro _ hw'
          obtain ⟨⟨dq, osq⟩, hw''⟩ := hw'
          subst hw''
          have hq := below_regrown wc dq osq
          go_wp2_with fail
          go_meet
          exact ⟨by simp, kA.on hq, kB.on hq, on2 hB hq⟩
      · have m1c : (m != -1) = true := by simpa using m1
        as_aux_lemma =>
          have yfa := cell_regrown fa
          have yfb := cell_regrown fb
          have yfc := cell_regrown fc
          clear fa fb fc
          (try dsimp only [List.append])
          refine wp_region_quiet_below (by kernel_rfl) (by kernel_rfl) ?_
          repeat (go_big_quiet_step ((with_reducible exact Calls.regrown_of (lnumC _ _))))
          refine wpQuiet_nil ?_
          intro _ hw'
          obtain ⟨⟨dq, osq⟩, hw''⟩ := hw'
          subst hw''
          have hq := below_regrown wc dq osq
          go_wp2_with fail
          go_meet
          exact ⟨by simp, kA.on hq, kB.on hq, on2 hB hq⟩
    · have e := Hp.out.symm.trans he
      simp only [Prod.mk.injEq] at e
      obtain ⟨rfl, rfl⟩ := e
      clear he Ha Hd Hp Hq Hr RN RM hmR hnR
      have t1b : (n == 0) = false := by simpa using t1
      have t2b : (m == 0) = false := by simpa using t2
      have t3b : (n == 1) = false := by simpa using t3
      have t4b : (m == 1) = false := by simpa using t4
      as_aux_lemma =>
        (try dsimp only [List.append])
        refine wp_region_quiet_below (by kernel_rfl) (by kernel_rfl) ?_
        repeat (go_big_quiet_step ((with_reducible exact Calls.regrown_of (lnumC _ _))))
        refine wpQuiet_nil ?_
        intro _ hw'
        obtain ⟨⟨dq, osq⟩, hw''⟩ := hw'
        subst hw''
        have hq := below_regrown wc dq osq
        go_wp2_with fail
        go_meet
        exact ⟨by simp, kA.on hq, kB.on hq, on2 hB hq⟩
  case rest =>
  clear kA kB kp hB
  obtain ⟨rfl, kA, kB, hB⟩ := hcut
  go_upto_region 13 with fail
  go_cut [172] (fun t Wn => t = .bool false ∧ Kv gA (num n) Wn ∧ Kv gB (num m) Wn ∧ Below W.heap.size W Wn)
  case first =>
    as_aux_lemma =>
      rcases pro_ways RN.out RM.out with ⟨p, hp, hpR, he, hdiv⟩ | ⟨he, t1, t2, t3, t4, t5⟩
      · have e := Hp.out.symm.trans he
        simp only [Prod.mk.injEq] at e
        obtain ⟨rfl, rfl⟩ := e
        go_wp2_with fail
        go_meet
        exact ⟨by simp, kA, kB, hB⟩
      · have e := Hp.out.symm.trans he
        simp only [Prod.mk.injEq] at e
        obtain ⟨rfl, rfl⟩ := e
        clear he Ha Hd Hp Hq Hr RN RM t1 t2 t3 t4
        by_cases a1 : n ≤ -2147483648
        · skip
          have p1 : ¬ -2147483648 < n := by omega
          have p1d : decide (-2147483648 < n) = false := by simpa using p1
          go_wp2_with fail
          go_meet
          exact ⟨by simp, kA, kB, hB⟩
        by_cases a2 : 2147483648 ≤ n
        · skip
          have p1 : -2147483648 < n := by omega
          have p1d : decide (-2147483648 < n) = true := by simpa using p1
          have p2 : ¬ n < 2147483648 := by omega
          have p2d : decide (n < 2147483648) = false := by simpa using p2
          go_wp2_with fail
          go_meet
          exact ⟨by simp, kA, kB, hB⟩
        by_cases a3 : m ≤ -2147483648
        · skip
          have p1 : -2147483648 < n := by omega
          have p1d : decide (-2147483648 < n) = true := by simpa using p1
          have p2 : n < 2147483648 := by omega
          have p2d : decide (n < 2147483648) = true := by simpa using p2
          have p3 : ¬ -2147483648 < m := by omega
          have p3d : decide (-2147483648 < m) = false := by simpa using p3
          go_wp2_with fail
          go_meet
          exact ⟨by simp, kA, kB, hB⟩
        · skip
          have p1 : -2147483648 < n := by omega
          have p1d : decide (-2147483648 < n) = true := by simpa using p1
          have p2 : n < 2147483648 := by omega
          have p2d : decide (n < 2147483648) = true := by simpa using p2
          have p3 : -2147483648 < m := by omega
          have p3d : decide (-2147483648 < m) = true := by simpa using p3
          have p4 : ¬ m < 2147483648 := by omega
          have p4d : decide (m < 2147483648) = false := by simpa using p4
          go_wp2_with fail
          go_meet
          exact ⟨by simp, kA, kB, hB⟩
  case rest =>
  clear kA kB hB
  obtain ⟨rfl, kA, kB, hB⟩ := hcut
  go_upto_region 15 with fail
  obtain ⟨faa, fab, fac⟩ := knum kA
  obtain ⟨fba, fbb, fbc⟩ := knum kB
  go_wp2_with fail
  refine (twoN 6 n m vq cq Hq.out _).mono ?_
  rintro e x4 ⟨rfl, hx⟩
  clear faa fab fac fba fbb fbc
  go_upto_region 16 with fail
  replace kA := (kA.on hx).alloc (.cells #[.int .u8 vq.k, .int .i64 vq.n, .string vq.t] 23)
  replace kB := (kB.on hx).alloc (.cells #[.int .u8 vq.k, .int .i64 vq.n, .string vq.t] 23)
  have kq : Kv x4.heap.size vq (x4.alloc (.cells #[.int .u8 vq.k, .int .i64 vq.n, .string vq.t] 23)) := Kv.new
  replace hB := (on2 hB hx).alloc (on2 hB hx).size (.cells #[.int .u8 vq.k, .int .i64 vq.n, .string vq.t] 23)
  clear hx
  generalize (x4.alloc (.cells #[.int .u8 vq.k, .int .i64 vq.n, .string vq.t] 23)) = W4 at *
  generalize x4.heap.size = gq at *
  obtain ⟨faa, fab, fac⟩ := knum kA
  obtain ⟨fba, fbb, fbc⟩ := knum kB
  go_wp2_with fail
  refine (twoN 7 n m vr cr Hr.out _).mono ?_
  rintro e x5 ⟨rfl, hx⟩
  clear faa fab fac fba fbb fbc
  go_upto_region 17 with fail
  replace kA := (kA.on hx).alloc (.cells #[.int .u8 vr.k, .int .i64 vr.n, .string vr.t] 23)
  replace kB := (kB.on hx).alloc (.cells #[.int .u8 vr.k, .int .i64 vr.n, .string vr.t] 23)
  replace kq := (kq.on hx).alloc (.cells #[.int .u8 vr.k, .int .i64 vr.n, .string vr.t] 23)
  have kr : Kv x5.heap.size vr (x5.alloc (.cells #[.int .u8 vr.k, .int .i64 vr.n, .string vr.t] 23)) := Kv.new
  replace hB := (on2 hB hx).alloc (on2 hB hx).size (.cells #[.int .u8 vr.k, .int .i64 vr.n, .string vr.t] 23)
  clear hx
  generalize (x5.alloc (.cells #[.int .u8 vr.k, .int .i64 vr.n, .string vr.t] 23)) = W5 at *
  generalize x5.heap.size = gr at *
  have hnR := RN.out
  have hmR := RM.out
  rcases quo_ways RN.out RM.out with ⟨rfl, e6, e7⟩ | ⟨rfl, rfl, e6, e7⟩ | ⟨m0, nl, q, r, p, e6, e7, hqm, hpr, hpR, s1, s2, s3, s4⟩
  · skip
    have e := Hq.out.symm.trans e6
    simp only [Prod.mk.injEq] at e
    obtain ⟨rfl, rfl⟩ := e
    have e := Hr.out.symm.trans e7
    simp only [Prod.mk.injEq] at e
    obtain ⟨rfl, rfl⟩ := e
    clear e6 e7 Ha Hd Hp Hq Hr RN RM hnR hmR
    as_aux_lemma =>
      by_cases hl : n = -9223372036854775808
      · subst hl
        go_wp2_with fail
        go_ret
        exact ⟨by simp, hB⟩
      · have hlb : (n == -9223372036854775808) = false := by simpa using hl
        go_wp2_with fail
        go_ret
        exact ⟨by simp, hB⟩
  · skip
    have e := Hq.out.symm.trans e6
    simp only [Prod.mk.injEq] at e
    obtain ⟨rfl, rfl⟩ := e
    have e := Hr.out.symm.trans e7
    simp only [Prod.mk.injEq] at e
    obtain ⟨rfl, rfl⟩ := e
    clear e6 e7 Ha Hd Hp Hq Hr RN RM hnR hmR
    go_wp2_with fail
    go_ret
    exact ⟨by simp, hB⟩
  · skip
    have e := Hq.out.symm.trans e6
    simp only [Prod.mk.injEq] at e
    obtain ⟨rfl, rfl⟩ := e
    have e := Hr.out.symm.trans e7
    simp only [Prod.mk.injEq] at e
    obtain ⟨rfl, rfl⟩ := e
    clear e6 e7 Ha Hd Hp Hq Hr RN RM
    have m0b : (m == 0) = false := by simpa using m0
    go_cut [205] (fun t Wn => t = .bool false ∧ Kv gq (num q) Wn ∧ Kv gr (num r) Wn ∧ Below W.heap.size W Wn)
    case first =>
      as_aux_lemma =>
        by_cases hl : n = -9223372036854775808
        · have m1 := nl hl
          subst hl
          have m1b : (m == -1) = false := by simpa using m1
          clear s1 s2 s3 s4 hpr hqm hpR hmR hnR nl
          go_wp2_with fail
          go_meet
          exact ⟨by simp, kq, kr, hB⟩
        · have hlb : (n == -9223372036854775808) = false := by simpa using hl
          clear s1 s2 s3 s4 hpr hqm hpR hmR hnR nl
          go_wp2_with fail
          go_meet
          exact ⟨by simp, kq, kr, hB⟩
    case rest =>
    clear kA kB kq kr hB
    obtain ⟨rfl, kq, kr, hB⟩ := hcut
    have wp : IntKind.i64.wrap p = p := (w64 p).trans (wrap_of hpR)
    have wn : IntKind.i64.wrap n = n := (w64 n).trans (wrap_of hnR)
    obtain ⟨qa, qb, qc⟩ := knum kq
    obtain ⟨ra, rb, rc⟩ := knum kr
    clear kq kr m0b nl
    unfold R at hnR hmR
    by_cases ml : m = -9223372036854775808
    · subst ml
      as_aux_lemma =>
        by_cases rn : r < 0
        · skip
          have r0 : r < 0 := by omega
          have r0d : decide (r < 0) = true := by simpa using r0
          have n0 : n < 0 := by omega
          have n0d : decide (n < 0) = true := by simpa using n0
          have r1 : (r != 0) = true := by simp; omega
          have r2 : ¬ 0 ≤ r := by omega
          have r2d : decide (0 ≤ r) = false := by simpa using r2
          clear s1 s2 s3 s4 hnR hmR hpR
          go_wp2_with fail
          go_ret
          exact ⟨by simp, hB⟩
        by_cases rz : r = 0
        · subst rz
          clear s1 s2 s3 s4 hnR hmR hpR
          go_wp2_with fail
          go_ret
          exact ⟨by simp, hB⟩
        · skip
          have r0 : ¬ r < 0 := by omega
          have r0d : decide (r < 0) = false := by simpa using r0
          have n0 : ¬ n < 0 := by omega
          have n0d : decide (n < 0) = false := by simpa using n0
          have r1 : (r != 0) = true := by simp; omega
          have r2 : 0 ≤ r := by omega
          have r2d : decide (0 ≤ r) = true := by simpa using r2
          clear s1 s2 s3 s4 hnR hmR hpR
          go_wp2_with fail
          go_ret
          exact ⟨by simp, hB⟩
    have mlb : (m == -9223372036854775808) = false := by simpa using ml
    by_cases mn : m < 0
    · have mnd : decide (m < 0) = true := by simpa using mn
      as_aux_lemma =>
        by_cases rn : r < 0
        · skip
          have r0 : r < 0 := by omega
          have r0d : decide (r < 0) = true := by simpa using r0
          have n0 : n < 0 := by omega
          have n0d : decide (n < 0) = true := by simpa using n0
          have r1 : (r != 0) = true := by simp; omega
          have r2 : ¬ 0 ≤ r := by omega
          have r2d : decide (0 ≤ r) = false := by simpa using r2
          have f1 : m < r := by omega
          have f1d : decide (m < r) = true := by simpa using f1
          clear s1 s2 s3 s4 hnR hmR hpR
          go_wp2_with fail
          go_ret
          exact ⟨by simp, hB⟩
        by_cases rz : r = 0
        · subst rz
          clear s1 s2 s3 s4 hnR hmR hpR
          go_wp2_with fail
          go_ret
          exact ⟨by simp, hB⟩
        · skip
          have r0 : ¬ r < 0 := by omega
          have r0d : decide (r < 0) = false := by simpa using r0
          have n0 : ¬ n < 0 := by omega
          have n0d : decide (n < 0) = false := by simpa using n0
          have r1 : (r != 0) = true := by simp; omega
          have r2 : 0 ≤ r := by omega
          have r2d : decide (0 ≤ r) = true := by simpa using r2
          have wm : IntKind.i64.wrap (-r) = -r := (w64 _).trans (wrap_of (by unfold R; omega))
          have f1 : m < -r := by omega
          have f1d : decide (m < -r) = true := by simpa using f1
          clear s1 s2 s3 s4 hnR hmR hpR
          go_wp2_with fail
          go_ret
          exact ⟨by simp, hB⟩
    · have mp : 0 < m := by omega
      have mnd : decide (m < 0) = false := by simpa using mn
      have mpd : decide (0 < m) = true := by simpa using mp
      as_aux_lemma =>
        by_cases rn : r < 0
        · skip
          have r0 : r < 0 := by omega
          have r0d : decide (r < 0) = true := by simpa using r0
          have n0 : n < 0 := by omega
          have n0d : decide (n < 0) = true := by simpa using n0
          have r1 : (r != 0) = true := by simp; omega
          have r2 : ¬ 0 ≤ r := by omega
          have r2d : decide (0 ≤ r) = false := by simpa using r2
          have wm : IntKind.i64.wrap (-m) = -m := (w64 _).trans (wrap_of (by unfold R; omega))
          have f1 : -m < r := by omega
          have f1d : decide (-m < r) = true := by simpa using f1
          clear s1 s2 s3 s4 hnR hmR hpR
          go_wp2_with fail
          go_ret
          exact ⟨by simp, hB⟩
        by_cases rz : r = 0
        · subst rz
          clear s1 s2 s3 s4 hnR hmR hpR
          go_wp2_with fail
          go_ret
          exact ⟨by simp, hB⟩
        · skip
          have r0 : ¬ r < 0 := by omega
          have r0d : decide (r < 0) = false := by simpa using r0
          have n0 : ¬ n < 0 := by omega
          have n0d : decide (n < 0) = false := by simpa using n0
          have r1 : (r != 0) = true := by simp; omega
          have r2 : 0 ≤ r := by omega
          have r2d : decide (0 ≤ r) = true := by simpa using r2
          have f1 : r < m := by omega
          have f1d : decide (r < m) = true := by simpa using f1
          clear s1 s2 s3 s4 hnR hmR hpR
          go_wp2_with fail
          go_ret
          exact ⟨by simp, hB⟩
theorem walk (n m : Int) (W : World) (wn : (Lit.int .i64 n).wf = true) (wm : (Lit.int .i64 m).wf = true) : Calls Try.prog 4 #[.int .i64 n, .int .i64 m] W fun e W' => e = .returned (.bool true) ∧ Below W.heap.size W W' := by
  have b : ∀ {x : Int}, (Lit.int .i64 x).wf = true → R x := by
    intro x h
    simp [Lit.wf, IntKind.min, IntKind.max, IntKind.bits, IntKind.signed] at h
    unfold R
    omega
  exact walkN n m (b wn) (b wm) W
end Go.Proofs.Ytgkdmccceegifaa.LawValueNumbers
