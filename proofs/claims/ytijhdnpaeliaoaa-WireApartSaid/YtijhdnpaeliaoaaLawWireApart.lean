/- WireApart: the walk of the law, from the contracts of the writers. No condition but the numbers' own range. -/
import Derived.Test.YtijhdnpaeliaoaaWr
import Derived.Test.YtijhdnpaeliaoaaWs
namespace Go.Proofs.Ytijhdnpaeliaoaa.LawWireApart
open Go.RowKit Go.Sort Go.Proofs.Ytijhdnpaeliaoaa.Wm Go.Proofs.Ytijhdnpaeliaoaa.Wa Go.Proofs.Ytijhdnpaeliaoaa.Wc Go.Proofs.Ytijhdnpaeliaoaa.Wd Go.Proofs.Ytijhdnpaeliaoaa.Wj Go.Proofs.Ytijhdnpaeliaoaa.Wp Go.Proofs.Ytijhdnpaeliaoaa.Wr Go.Proofs.Ytijhdnpaeliaoaa.Ws
set_option linter.unusedVariables false
set_option linter.unusedSimpArgs false
set_option maxRecDepth 100000
theorem beginsC (a b : ByteArray) (r : Bool) (hr : pre a b = r) (w : World) : Calls Try.prog 19 #[.string a, .string b] w fun e w' => e = .returned (.bool r) ∧ Below w.heap.size w w' := by
  subst hr
  unfold pre
  by_cases h : a.size ≤ b.size
  · have t1 : (a.size : Int) ≤ (b.size : Int) := by omega
    have t2 : decide (a.size ≤ b.size) = true := by simpa using h
    have t3 : decide ((a.size : Int) ≤ (b.size : Int)) = true := by simpa using h
    have t4 : ¬ (b.size : Int) < (a.size : Int) := by omega
    rw [t2, Bool.true_and]
    go_enter Try.func19, Try.ntmps19
    go_wp2_with fail
    all_goals
      go_ret
      exact ⟨by first | rfl | (simp [*]; done), by (repeat' (first | (with_reducible exact Below.refl _ _) | (with_reducible assumption) | (with_reducible refine Below.alloc ?_ ?_ _) | (with_reducible refine Below.drew ?_) | (with_reducible refine below_drewN ?_ _) | (with_reducible refine Below.setCell ?_ ?_ _) | (with_reducible refine Below.trans ?_ (Below.mono (by with_reducible assumption) ?_)) | (simp only [World.size_alloc, World.size_setCell, World.heap_drewN, World.size_drew]; omega) | omega | (simp; omega) | (simp; done)))⟩
  · have t1 : ¬ (a.size : Int) ≤ (b.size : Int) := by omega
    have t2 : decide (a.size ≤ b.size) = false := by simpa using h
    have t3 : decide ((a.size : Int) ≤ (b.size : Int)) = false := by simpa using h
    rw [t2, Bool.false_and]
    go_enter Try.func19, Try.ntmps19
    go_wp2_with fail
    go_ret
    exact ⟨rfl, by (repeat' (first | (with_reducible exact Below.refl _ _) | (with_reducible assumption) | (with_reducible refine Below.alloc ?_ ?_ _) | (with_reducible refine Below.drew ?_) | (with_reducible refine below_drewN ?_ _) | (with_reducible refine Below.setCell ?_ ?_ _) | (with_reducible refine Below.trans ?_ (Below.mono (by with_reducible assumption) ?_)) | (simp only [World.size_alloc, World.size_setCell, World.heap_drewN, World.size_drew]; omega) | omega | (simp; omega) | (simp; done)))⟩
theorem farC (x : Int) (h1 : -9223372036854775808 ≤ x) (h2 : x ≤ 9223372036854775807) (w : World) : Calls Try.prog 20 #[.int .i64 x] w fun e w' => e = .returned (.int .u64 (x.natAbs : Int)) ∧ Below w.heap.size w w' := by
  by_cases hx : x < 0
  · have e : (x.natAbs : Int) = -x := by omega
    rw [e]
    clear e
    go_enter Try.func20, Try.ntmps20
    go_wp2_with fail
    go_ret
    exact ⟨by congr 1; simp; omega, by (repeat' (first | (with_reducible exact Below.refl _ _) | (with_reducible assumption) | (with_reducible refine Below.alloc ?_ ?_ _) | (with_reducible refine Below.drew ?_) | (with_reducible refine below_drewN ?_ _) | (with_reducible refine Below.setCell ?_ ?_ _) | (with_reducible refine Below.trans ?_ (Below.mono (by with_reducible assumption) ?_)) | (simp only [World.size_alloc, World.size_setCell, World.heap_drewN, World.size_drew]; omega) | omega | (simp; omega) | (simp; done)))⟩
  · have e : (x.natAbs : Int) = x := by omega
    rw [e]
    clear e
    go_enter Try.func20, Try.ntmps20
    go_wp2_with fail
    go_ret
    exact ⟨rfl, by (repeat' (first | (with_reducible exact Below.refl _ _) | (with_reducible assumption) | (with_reducible refine Below.alloc ?_ ?_ _) | (with_reducible refine Below.drew ?_) | (with_reducible refine below_drewN ?_ _) | (with_reducible refine Below.setCell ?_ ?_ _) | (with_reducible refine Below.trans ?_ (Below.mono (by with_reducible assumption) ?_)) | (simp only [World.size_alloc, World.size_setCell, World.heap_drewN, World.size_drew]; omega) | omega | (simp; omega) | (simp; done)))⟩
theorem long (x y : Int) (t u : ByteArray) (v z : V) (W : World) (h : (500 : Int) < t.size ∨ (500 : Int) < u.size ∨ (500 : Int) < v.t.size ∨ (500 : Int) < z.t.size) : Calls Try.prog 4 #[.int .i64 x, .int .i64 y, .string t, .string u, .agg #[.int .u8 v.k, .int .i64 v.n, .string v.t], .agg #[.int .u8 z.k, .int .i64 z.n, .string z.t]] W fun e W' => e = .returned (.bool true) ∧ Below W.heap.size W W' := by
  by_cases h1 : (500 : Int) < t.size
  · clear h
    go_enter Try.func4, Try.ntmps4
    go_wp2_with (go_at_call 10; refine (awakeC _).mono ?_; rintro e w1 ⟨rfl, hb1⟩; have zhb1 := hb1.size; (try simp only [World.size_alloc, World.size_setCell, World.heap_drewN, World.size_drew] at zhb1))
    go_ret
    exact ⟨rfl, by (repeat' (first | (with_reducible exact Below.refl _ _) | (with_reducible assumption) | (with_reducible refine Below.alloc ?_ ?_ _) | (with_reducible refine Below.drew ?_) | (with_reducible refine below_drewN ?_ _) | (with_reducible refine Below.setCell ?_ ?_ _) | (with_reducible refine Below.trans ?_ (Below.mono (by with_reducible assumption) ?_)) | (simp only [World.size_alloc, World.size_setCell, World.heap_drewN, World.size_drew]; omega) | omega | (simp; omega) | (simp; done)))⟩
  by_cases h2 : (500 : Int) < u.size
  · clear h
    go_enter Try.func4, Try.ntmps4
    go_wp2_with (go_at_call 10; refine (awakeC _).mono ?_; rintro e w1 ⟨rfl, hb1⟩; have zhb1 := hb1.size; (try simp only [World.size_alloc, World.size_setCell, World.heap_drewN, World.size_drew] at zhb1))
    go_ret
    exact ⟨rfl, by (repeat' (first | (with_reducible exact Below.refl _ _) | (with_reducible assumption) | (with_reducible refine Below.alloc ?_ ?_ _) | (with_reducible refine Below.drew ?_) | (with_reducible refine below_drewN ?_ _) | (with_reducible refine Below.setCell ?_ ?_ _) | (with_reducible refine Below.trans ?_ (Below.mono (by with_reducible assumption) ?_)) | (simp only [World.size_alloc, World.size_setCell, World.heap_drewN, World.size_drew]; omega) | omega | (simp; omega) | (simp; done)))⟩
  by_cases h3 : (500 : Int) < v.t.size
  · clear h
    go_enter Try.func4, Try.ntmps4
    go_wp2_with (go_at_call 10; refine (awakeC _).mono ?_; rintro e w1 ⟨rfl, hb1⟩; have zhb1 := hb1.size; (try simp only [World.size_alloc, World.size_setCell, World.heap_drewN, World.size_drew] at zhb1))
    go_ret
    exact ⟨rfl, by (repeat' (first | (with_reducible exact Below.refl _ _) | (with_reducible assumption) | (with_reducible refine Below.alloc ?_ ?_ _) | (with_reducible refine Below.drew ?_) | (with_reducible refine below_drewN ?_ _) | (with_reducible refine Below.setCell ?_ ?_ _) | (with_reducible refine Below.trans ?_ (Below.mono (by with_reducible assumption) ?_)) | (simp only [World.size_alloc, World.size_setCell, World.heap_drewN, World.size_drew]; omega) | omega | (simp; omega) | (simp; done)))⟩
  · have h4 : (500 : Int) < z.t.size := by omega
    clear h
    go_enter Try.func4, Try.ntmps4
    go_wp2_with (go_at_call 10; refine (awakeC _).mono ?_; rintro e w1 ⟨rfl, hb1⟩; have zhb1 := hb1.size; (try simp only [World.size_alloc, World.size_setCell, World.heap_drewN, World.size_drew] at zhb1))
    go_ret
    exact ⟨rfl, by (repeat' (first | (with_reducible exact Below.refl _ _) | (with_reducible assumption) | (with_reducible refine Below.alloc ?_ ?_ _) | (with_reducible refine Below.drew ?_) | (with_reducible refine below_drewN ?_ _) | (with_reducible refine Below.setCell ?_ ?_ _) | (with_reducible refine Below.trans ?_ (Below.mono (by with_reducible assumption) ?_)) | (simp only [World.size_alloc, World.size_setCell, World.heap_drewN, World.size_drew]; omega) | omega | (simp; omega) | (simp; done)))⟩
theorem eq_ways (v z : V) : (v.k = z.k ∧ v.n = z.n ∧ v.t.toList = z.t.toList ∧ (v.k == z.k && (v.n == z.n && v.t.toList == z.t.toList)) = true) ∨ (¬ v.k = z.k ∧ (v.k == z.k && (v.n == z.n && v.t.toList == z.t.toList)) = false) ∨ (v.k = z.k ∧ ¬ v.n = z.n ∧ (v.k == z.k && (v.n == z.n && v.t.toList == z.t.toList)) = false) ∨ (v.k = z.k ∧ v.n = z.n ∧ ¬ v.t.toList = z.t.toList ∧ (v.k == z.k && (v.n == z.n && v.t.toList == z.t.toList)) = false) := by
  by_cases h1 : v.k = z.k
  · by_cases h2 : v.n = z.n
    · by_cases h3 : v.t.toList = z.t.toList
      · exact .inl ⟨h1, h2, h3, by simp [h1, h2, h3]⟩
      · exact .inr (.inr (.inr ⟨h1, h2, h3, by simp [h1, h2, h3]⟩))
    · exact .inr (.inr (.inl ⟨h1, h2, by simp [h1, h2]⟩))
  · exact .inr (.inl ⟨h1, by simp [h1]⟩)
/-- Up to the values' bytes. -/
def Mid (v z : V) (W : World) (x y : Int) (W' : World) : Prop := Bv W.heap.size v W' ∧ Bv (W.heap.size + 1) z W' ∧ Below W.heap.size W W'
set_option maxHeartbeats 4000000 in
theorem short (x y : Int) (t u : ByteArray) (v z : V) (W : World) (h1 : ¬ (500 : Int) < t.size) (h2 : ¬ (500 : Int) < u.size) (h3 : ¬ (500 : Int) < v.t.size) (h4 : ¬ (500 : Int) < z.t.size) (x1 : -9223372036854775808 ≤ x) (x2 : x ≤ 9223372036854775807) (y1 : -9223372036854775808 ≤ y) (y2 : y ≤ 9223372036854775807) (vk : 0 ≤ v.k) (v1 : -9223372036854775808 ≤ v.n) (v2 : v.n ≤ 9223372036854775807) (zk : 0 ≤ z.k) (z1 : -9223372036854775808 ≤ z.n) (z2 : z.n ≤ 9223372036854775807) : Calls Try.prog 4 #[.int .i64 x, .int .i64 y, .string t, .string u, .agg #[.int .u8 v.k, .int .i64 v.n, .string v.t], .agg #[.int .u8 z.k, .int .i64 z.n, .string z.t]] W fun e W' => e = .returned (.bool true) ∧ Below W.heap.size W W' := by
  have pi := pre_int x1 x2 y1 y2
  have pt := pre_text (t := t) (u := u) (by omega) (by omega)
  have PI := Lib.hid pi
  have PT := Lib.hid pt
  clear pi pt
  have ht : t.size ≤ 1099511627776 := by omega
  have hu : u.size ≤ 1099511627776 := by omega
  have HV := valC ⟨#[]⟩ v (by decide) vk v1 v2
  have HZ := valC ⟨#[]⟩ z (by decide) zk z1 z2
  unfold ValPost at HV HZ
  obtain ⟨⟨c, e1⟩, hr1⟩ : ∃ r, r = valR ⟨#[]⟩ v := ⟨_, rfl⟩
  obtain ⟨⟨d, e2⟩, hr2⟩ : ∃ r, r = valR ⟨#[]⟩ z := ⟨_, rfl⟩
  rw [← hr1] at HV
  rw [← hr2] at HZ
  dsimp only at HV HZ
  have R1 := Lib.hid hr1
  have R2 := Lib.hid hr2
  clear hr1 hr2
  have b0 : Bv W.heap.size ⟨v.k, v.n, v.t⟩ (W.alloc (.cells #[.int .u8 v.k, .int .i64 v.n, .string v.t] 23)) := Bv.new
  have b1 : Bv (W.heap.size + 1) ⟨z.k, z.n, z.t⟩ ((W.alloc (.cells #[.int .u8 v.k, .int .i64 v.n, .string v.t] 23)).alloc (.cells #[.int .u8 z.k, .int .i64 z.n, .string z.t] 23)) := by
    have := Bv.new (W := W.alloc (.cells #[.int .u8 v.k, .int .i64 v.n, .string v.t] 23)) (k := z.k) (n := z.n) (t := z.t) (T := 23)
    simpa using this
  replace b0 := b0.alloc (.cells #[.int .u8 z.k, .int .i64 z.n, .string z.t] 23)
  have hlen : x.natAbs < y.natAbs → (intW ⟨#[]⟩ x).size ≤ (intW ⟨#[]⟩ y).size := far_len
  have HLEN := Lib.hid hlen
  clear hlen
  go_enter Try.func4, Try.ntmps4
  go_wp2_with fail
  refine (awakeC _).mono ?_
  rintro e w1 ⟨rfl, hb1⟩; have zhb1 := hb1.size; (try simp only [World.size_alloc, World.size_setCell, World.heap_drewN, World.size_drew] at zhb1)
  replace b0 := b0.on hb1
  replace b1 := b1.on hb1
  go_wp2_with fail
  refine (intC ⟨#[]⟩ x (by decide) x1 x2 _).mono ?_
  rintro e w2 ⟨rfl, hb2⟩; have zhb2 := hb2.size; (try simp only [World.size_alloc, World.size_setCell, World.heap_drewN, World.size_drew] at zhb2)
  replace b0 := b0.on hb2
  replace b1 := b1.on hb2
  go_wp2_with fail
  refine (intC ⟨#[]⟩ y (by decide) y1 y2 _).mono ?_
  rintro e w3 ⟨rfl, hb3⟩; have zhb3 := hb3.size; (try simp only [World.size_alloc, World.size_setCell, World.heap_drewN, World.size_drew] at zhb3)
  replace b0 := b0.on hb3
  replace b1 := b1.on hb3
  go_wp2_with fail
  refine (beginsC _ _ _ PI.out _).mono ?_
  rintro e w4 ⟨rfl, hb4⟩; have zhb4 := hb4.size; (try simp only [World.size_alloc, World.size_setCell, World.heap_drewN, World.size_drew] at zhb4)
  replace b0 := b0.on hb4
  replace b1 := b1.on hb4
  go_wp2_with fail
  refine (textC ⟨#[]⟩ t (by decide) ht _).mono ?_
  rintro e w5 ⟨rfl, hb5⟩; have zhb5 := hb5.size; (try simp only [World.size_alloc, World.size_setCell, World.heap_drewN, World.size_drew] at zhb5)
  replace b0 := b0.on hb5
  replace b1 := b1.on hb5
  go_wp2_with fail
  refine (textC ⟨#[]⟩ u (by decide) hu _).mono ?_
  rintro e w6 ⟨rfl, hb6⟩; have zhb6 := hb6.size; (try simp only [World.size_alloc, World.size_setCell, World.heap_drewN, World.size_drew] at zhb6)
  replace b0 := b0.on hb6
  replace b1 := b1.on hb6
  go_wp2_with fail
  refine (beginsC _ _ _ PT.out _).mono ?_
  rintro e w7 ⟨rfl, hb7⟩; have zhb7 := hb7.size; (try simp only [World.size_alloc, World.size_setCell, World.heap_drewN, World.size_drew] at zhb7)
  replace b0 := b0.on hb7
  replace b1 := b1.on hb7
  go_wp2_with fail
  refine (farC x x1 x2 _).mono ?_
  rintro e w8 ⟨rfl, hb8⟩; have zhb8 := hb8.size; (try simp only [World.size_alloc, World.size_setCell, World.heap_drewN, World.size_drew] at zhb8)
  replace b0 := b0.on hb8
  replace b1 := b1.on hb8
  go_wp2_with fail
  refine (farC y y1 y2 _).mono ?_
  rintro e w9 ⟨rfl, hb9⟩; have zhb9 := hb9.size; (try simp only [World.size_alloc, World.size_setCell, World.heap_drewN, World.size_drew] at zhb9)
  replace b0 := b0.on hb9
  replace b1 := b1.on hb9
  have hB : Below W.heap.size W w9 := by (repeat' (first | (with_reducible exact Below.refl _ _) | (with_reducible assumption) | (with_reducible refine Below.alloc ?_ ?_ _) | (with_reducible refine Below.drew ?_) | (with_reducible refine below_drewN ?_ _) | (with_reducible refine Below.setCell ?_ ?_ _) | (with_reducible refine Below.trans ?_ (Below.mono (by with_reducible assumption) ?_)) | (simp only [World.size_alloc, World.size_setCell, World.heap_drewN, World.size_drew]; omega) | omega | (simp; omega) | (simp; done)))
  clear hb1 hb2 hb3 hb4 hb5 hb6 hb7 hb8 hb9 zhb1 zhb2 zhb3 zhb4 zhb5 zhb6 zhb7 zhb8 zhb9 PI PT
  have zB := hB.size
  have a0 := b0.c0
  have a1 := b0.c1
  have a2 := b0.c2
  have al := b0.lt
  have bl := b1.lt
  by_cases hf : x.natAbs < y.natAbs
  · have f1 : decide ((x.natAbs : Int) < (y.natAbs : Int)) = true := by simp; omega
    have f2 : decide (x.natAbs < y.natAbs) = true := by simpa using hf
    have hl := HLEN.out hf
    have f3 : decide (((intW ⟨#[]⟩ y).size : Int) < ((intW ⟨#[]⟩ x).size : Int)) = false := by simp; omega
    have f4 : decide ((intW ⟨#[]⟩ y).size < (intW ⟨#[]⟩ x).size) = false := by simp; omega
    have f5 : ¬ (intW ⟨#[]⟩ y).size < (intW ⟨#[]⟩ x).size := by omega
    clear hl
    go_wp2_with fail
    refine (HV _).mono ?_
    rintro e w10 ⟨rfl, hb10⟩; have zhb10 := hb10.size; (try simp only [World.size_alloc, World.size_setCell, World.heap_drewN, World.size_drew] at zhb10)
    replace b0 := b0.on hb10
    replace b1 := b1.on hb10
    have d0 := b1.c0
    have d1 := b1.c1
    have d2 := b1.c2
    go_wp2_with fail
    refine (HZ _).mono ?_
    rintro e w11 ⟨rfl, hb11⟩; have zhb11 := hb11.size; (try simp only [World.size_alloc, World.size_setCell, World.heap_drewN, World.size_drew] at zhb11)
    replace b0 := b0.on hb11
    replace b1 := b1.on hb11
    have hB2 : Below W.heap.size W w11 := by (repeat' (first | (with_reducible exact Below.refl _ _) | (with_reducible assumption) | (with_reducible refine Below.alloc ?_ ?_ _) | (with_reducible refine Below.drew ?_) | (with_reducible refine below_drewN ?_ _) | (with_reducible refine Below.setCell ?_ ?_ _) | (with_reducible refine Below.trans ?_ (Below.mono (by with_reducible assumption) ?_)) | (simp only [World.size_alloc, World.size_setCell, World.heap_drewN, World.size_drew]; omega) | omega | (simp; omega) | (simp; done)))
    clear hb10 hb11 zhb10 zhb11 hB zB
    by_cases mv : mayK v = true
    · have r1 := R1.out.trans (valR_ok mv)
      simp only [Prod.mk.injEq] at r1
      obtain ⟨rfl, rfl⟩ := r1
      by_cases mz : mayK z = true
      · have r2 := R2.out.trans (valR_ok mz)
        simp only [Prod.mk.injEq] at r2
        obtain ⟨rfl, rfl⟩ := r2
        have PV0 : pre (valW ⟨#[]⟩ v) (valW ⟨#[]⟩ z) = (v.k == z.k && (v.n == z.n && v.t.toList == z.t.toList)) := pre_val mv mz v1 v2 z1 z2
        rcases eq_ways v z with ⟨e1, e2, e3, er⟩ | ⟨e1, er⟩ | ⟨e1, e2, er⟩ | ⟨e1, e2, e3, er⟩
        · rw [er] at PV0
          have PV := Lib.hid PV0
          clear PV0 er
          have y0 := cell_regrown b0.c0
          have y1 := cell_regrown b0.c1
          have y2 := cell_regrown b0.c2
          have y3 := cell_regrown b1.c0
          have y4 := cell_regrown b1.c1
          have y5 := cell_regrown b1.c2
          clear R1 R2 HV HZ mv mz
          go_wp2_with fail
          (try dsimp only [List.append])
          refine wp_region_quiet_below (by kernel_rfl) (by kernel_rfl) ?_
          repeat (go_big_quiet_step ((with_reducible exact Calls.regrown_of (beginsC _ _ _ PV.out _))))
          refine wpQuiet_nil ?_
          intro _ hw'
          obtain ⟨⟨dq, osq⟩, hw''⟩ := hw'
          subst hw''
          have hq := below_regrown w11 dq osq
          clear y0 y1 y2 y3 y4 y5
          go_wp2_with fail
          go_ret
          exact ⟨by simp, hB2.trans (hq.mono hB2.size)⟩
        · rw [er] at PV0
          have PV := Lib.hid PV0
          clear PV0 er
          have y0 := cell_regrown b0.c0
          have y1 := cell_regrown b0.c1
          have y2 := cell_regrown b0.c2
          have y3 := cell_regrown b1.c0
          have y4 := cell_regrown b1.c1
          have y5 := cell_regrown b1.c2
          clear R1 R2 HV HZ mv mz
          go_wp2_with fail
          (try dsimp only [List.append])
          refine wp_region_quiet_below (by kernel_rfl) (by kernel_rfl) ?_
          repeat (go_big_quiet_step ((with_reducible exact Calls.regrown_of (beginsC _ _ _ PV.out _))))
          refine wpQuiet_nil ?_
          intro _ hw'
          obtain ⟨⟨dq, osq⟩, hw''⟩ := hw'
          subst hw''
          have hq := below_regrown w11 dq osq
          clear y0 y1 y2 y3 y4 y5
          go_wp2_with fail
          go_ret
          exact ⟨by simp, hB2.trans (hq.mono hB2.size)⟩
        · rw [er] at PV0
          have PV := Lib.hid PV0
          clear PV0 er
          have y0 := cell_regrown b0.c0
          have y1 := cell_regrown b0.c1
          have y2 := cell_regrown b0.c2
          have y3 := cell_regrown b1.c0
          have y4 := cell_regrown b1.c1
          have y5 := cell_regrown b1.c2
          clear R1 R2 HV HZ mv mz
          go_wp2_with fail
          (try dsimp only [List.append])
          refine wp_region_quiet_below (by kernel_rfl) (by kernel_rfl) ?_
          repeat (go_big_quiet_step ((with_reducible exact Calls.regrown_of (beginsC _ _ _ PV.out _))))
          refine wpQuiet_nil ?_
          intro _ hw'
          obtain ⟨⟨dq, osq⟩, hw''⟩ := hw'
          subst hw''
          have hq := below_regrown w11 dq osq
          clear y0 y1 y2 y3 y4 y5
          go_wp2_with fail
          go_ret
          exact ⟨by simp, hB2.trans (hq.mono hB2.size)⟩
        · rw [er] at PV0
          have PV := Lib.hid PV0
          clear PV0 er
          have y0 := cell_regrown b0.c0
          have y1 := cell_regrown b0.c1
          have y2 := cell_regrown b0.c2
          have y3 := cell_regrown b1.c0
          have y4 := cell_regrown b1.c1
          have y5 := cell_regrown b1.c2
          clear R1 R2 HV HZ mv mz
          go_wp2_with fail
          (try dsimp only [List.append])
          refine wp_region_quiet_below (by kernel_rfl) (by kernel_rfl) ?_
          repeat (go_big_quiet_step ((with_reducible exact Calls.regrown_of (beginsC _ _ _ PV.out _))))
          refine wpQuiet_nil ?_
          intro _ hw'
          obtain ⟨⟨dq, osq⟩, hw''⟩ := hw'
          subst hw''
          have hq := below_regrown w11 dq osq
          clear y0 y1 y2 y3 y4 y5
          go_wp2_with fail
          go_ret
          exact ⟨by simp, hB2.trans (hq.mono hB2.size)⟩
      · have r2 := R2.out.trans (valR_no (by simpa using mz))
        simp only [Prod.mk.injEq] at r2
        obtain ⟨rfl, rfl⟩ := r2
        clear R1 R2 HV HZ mv mz
        go_wp2_with fail
        (try dsimp only [List.append])
        refine wp_region_quiet_below (by kernel_rfl) (by kernel_rfl) ?_
        repeat (go_big_quiet_step (fail))
        refine wpQuiet_nil ?_
        intro _ hw'
        obtain ⟨⟨dq, osq⟩, hw''⟩ := hw'
        subst hw''
        have hq := below_regrown w11 dq osq
        go_wp2_with fail
        go_ret
        exact ⟨rfl, hB2.trans (hq.mono hB2.size)⟩
    · have r1 := R1.out.trans (valR_no (by simpa using mv))
      simp only [Prod.mk.injEq] at r1
      obtain ⟨rfl, rfl⟩ := r1
      clear R1 R2 HV HZ mv
      go_wp2_with fail
      (try dsimp only [List.append])
      refine wp_region_quiet_below (by kernel_rfl) (by kernel_rfl) ?_
      repeat (go_big_quiet_step (fail))
      refine wpQuiet_nil ?_
      intro _ hw'
      obtain ⟨⟨dq, osq⟩, hw''⟩ := hw'
      subst hw''
      have hq := below_regrown w11 dq osq
      go_wp2_with fail
      go_ret
      exact ⟨rfl, hB2.trans (hq.mono hB2.size)⟩
  · have f1 : decide ((x.natAbs : Int) < (y.natAbs : Int)) = false := by simp; omega
    have f2 : decide (x.natAbs < y.natAbs) = false := by simpa using hf
    go_wp2_with fail
    refine (HV _).mono ?_
    rintro e w10 ⟨rfl, hb10⟩; have zhb10 := hb10.size; (try simp only [World.size_alloc, World.size_setCell, World.heap_drewN, World.size_drew] at zhb10)
    replace b0 := b0.on hb10
    replace b1 := b1.on hb10
    have d0 := b1.c0
    have d1 := b1.c1
    have d2 := b1.c2
    go_wp2_with fail
    refine (HZ _).mono ?_
    rintro e w11 ⟨rfl, hb11⟩; have zhb11 := hb11.size; (try simp only [World.size_alloc, World.size_setCell, World.heap_drewN, World.size_drew] at zhb11)
    replace b0 := b0.on hb11
    replace b1 := b1.on hb11
    have hB2 : Below W.heap.size W w11 := by (repeat' (first | (with_reducible exact Below.refl _ _) | (with_reducible assumption) | (with_reducible refine Below.alloc ?_ ?_ _) | (with_reducible refine Below.drew ?_) | (with_reducible refine below_drewN ?_ _) | (with_reducible refine Below.setCell ?_ ?_ _) | (with_reducible refine Below.trans ?_ (Below.mono (by with_reducible assumption) ?_)) | (simp only [World.size_alloc, World.size_setCell, World.heap_drewN, World.size_drew]; omega) | omega | (simp; omega) | (simp; done)))
    clear hb10 hb11 zhb10 zhb11 hB zB
    by_cases mv : mayK v = true
    · have r1 := R1.out.trans (valR_ok mv)
      simp only [Prod.mk.injEq] at r1
      obtain ⟨rfl, rfl⟩ := r1
      by_cases mz : mayK z = true
      · have r2 := R2.out.trans (valR_ok mz)
        simp only [Prod.mk.injEq] at r2
        obtain ⟨rfl, rfl⟩ := r2
        have PV0 : pre (valW ⟨#[]⟩ v) (valW ⟨#[]⟩ z) = (v.k == z.k && (v.n == z.n && v.t.toList == z.t.toList)) := pre_val mv mz v1 v2 z1 z2
        rcases eq_ways v z with ⟨e1, e2, e3, er⟩ | ⟨e1, er⟩ | ⟨e1, e2, er⟩ | ⟨e1, e2, e3, er⟩
        · rw [er] at PV0
          have PV := Lib.hid PV0
          clear PV0 er
          have y0 := cell_regrown b0.c0
          have y1 := cell_regrown b0.c1
          have y2 := cell_regrown b0.c2
          have y3 := cell_regrown b1.c0
          have y4 := cell_regrown b1.c1
          have y5 := cell_regrown b1.c2
          clear R1 R2 HV HZ mv mz
          go_wp2_with fail
          (try dsimp only [List.append])
          refine wp_region_quiet_below (by kernel_rfl) (by kernel_rfl) ?_
          repeat (go_big_quiet_step ((with_reducible exact Calls.regrown_of (beginsC _ _ _ PV.out _))))
          refine wpQuiet_nil ?_
          intro _ hw'
          obtain ⟨⟨dq, osq⟩, hw''⟩ := hw'
          subst hw''
          have hq := below_regrown w11 dq osq
          clear y0 y1 y2 y3 y4 y5
          go_wp2_with fail
          go_ret
          exact ⟨by simp, hB2.trans (hq.mono hB2.size)⟩
        · rw [er] at PV0
          have PV := Lib.hid PV0
          clear PV0 er
          have y0 := cell_regrown b0.c0
          have y1 := cell_regrown b0.c1
          have y2 := cell_regrown b0.c2
          have y3 := cell_regrown b1.c0
          have y4 := cell_regrown b1.c1
          have y5 := cell_regrown b1.c2
          clear R1 R2 HV HZ mv mz
          go_wp2_with fail
          (try dsimp only [List.append])
          refine wp_region_quiet_below (by kernel_rfl) (by kernel_rfl) ?_
          repeat (go_big_quiet_step ((with_reducible exact Calls.regrown_of (beginsC _ _ _ PV.out _))))
          refine wpQuiet_nil ?_
          intro _ hw'
          obtain ⟨⟨dq, osq⟩, hw''⟩ := hw'
          subst hw''
          have hq := below_regrown w11 dq osq
          clear y0 y1 y2 y3 y4 y5
          go_wp2_with fail
          go_ret
          exact ⟨by simp, hB2.trans (hq.mono hB2.size)⟩
        · rw [er] at PV0
          have PV := Lib.hid PV0
          clear PV0 er
          have y0 := cell_regrown b0.c0
          have y1 := cell_regrown b0.c1
          have y2 := cell_regrown b0.c2
          have y3 := cell_regrown b1.c0
          have y4 := cell_regrown b1.c1
          have y5 := cell_regrown b1.c2
          clear R1 R2 HV HZ mv mz
          go_wp2_with fail
          (try dsimp only [List.append])
          refine wp_region_quiet_below (by kernel_rfl) (by kernel_rfl) ?_
          repeat (go_big_quiet_step ((with_reducible exact Calls.regrown_of (beginsC _ _ _ PV.out _))))
          refine wpQuiet_nil ?_
          intro _ hw'
          obtain ⟨⟨dq, osq⟩, hw''⟩ := hw'
          subst hw''
          have hq := below_regrown w11 dq osq
          clear y0 y1 y2 y3 y4 y5
          go_wp2_with fail
          go_ret
          exact ⟨by simp, hB2.trans (hq.mono hB2.size)⟩
        · rw [er] at PV0
          have PV := Lib.hid PV0
          clear PV0 er
          have y0 := cell_regrown b0.c0
          have y1 := cell_regrown b0.c1
          have y2 := cell_regrown b0.c2
          have y3 := cell_regrown b1.c0
          have y4 := cell_regrown b1.c1
          have y5 := cell_regrown b1.c2
          clear R1 R2 HV HZ mv mz
          go_wp2_with fail
          (try dsimp only [List.append])
          refine wp_region_quiet_below (by kernel_rfl) (by kernel_rfl) ?_
          repeat (go_big_quiet_step ((with_reducible exact Calls.regrown_of (beginsC _ _ _ PV.out _))))
          refine wpQuiet_nil ?_
          intro _ hw'
          obtain ⟨⟨dq, osq⟩, hw''⟩ := hw'
          subst hw''
          have hq := below_regrown w11 dq osq
          clear y0 y1 y2 y3 y4 y5
          go_wp2_with fail
          go_ret
          exact ⟨by simp, hB2.trans (hq.mono hB2.size)⟩
      · have r2 := R2.out.trans (valR_no (by simpa using mz))
        simp only [Prod.mk.injEq] at r2
        obtain ⟨rfl, rfl⟩ := r2
        clear R1 R2 HV HZ mv mz
        go_wp2_with fail
        (try dsimp only [List.append])
        refine wp_region_quiet_below (by kernel_rfl) (by kernel_rfl) ?_
        repeat (go_big_quiet_step (fail))
        refine wpQuiet_nil ?_
        intro _ hw'
        obtain ⟨⟨dq, osq⟩, hw''⟩ := hw'
        subst hw''
        have hq := below_regrown w11 dq osq
        go_wp2_with fail
        go_ret
        exact ⟨rfl, hB2.trans (hq.mono hB2.size)⟩
    · have r1 := R1.out.trans (valR_no (by simpa using mv))
      simp only [Prod.mk.injEq] at r1
      obtain ⟨rfl, rfl⟩ := r1
      clear R1 R2 HV HZ mv
      go_wp2_with fail
      (try dsimp only [List.append])
      refine wp_region_quiet_below (by kernel_rfl) (by kernel_rfl) ?_
      repeat (go_big_quiet_step (fail))
      refine wpQuiet_nil ?_
      intro _ hw'
      obtain ⟨⟨dq, osq⟩, hw''⟩ := hw'
      subst hw''
      have hq := below_regrown w11 dq osq
      go_wp2_with fail
      go_ret
      exact ⟨rfl, hB2.trans (hq.mono hB2.size)⟩
theorem walkR (x y : Int) (t u : ByteArray) (v z : V) (W : World) (w0 : (Lit.int .i64 x).wf = true) (w1 : (Lit.int .i64 y).wf = true) (w2 : t.size ≤ 140737488351232) (w3 : u.size ≤ 140737488351232) (w4 : (Lit.int .u8 v.k).wf = true) (w5 : (Lit.int .i64 v.n).wf = true) (w6 : (Lit.int .u8 z.k).wf = true) (w7 : (Lit.int .i64 z.n).wf = true) : Calls Try.prog 4 #[.int .i64 x, .int .i64 y, .string t, .string u, .agg #[.int .u8 v.k, .int .i64 v.n, .string v.t], .agg #[.int .u8 z.k, .int .i64 z.n, .string z.t]] W fun e W' => e = .returned (.bool true) ∧ Below W.heap.size W W' := by
  by_cases h : (500 : Int) < t.size ∨ (500 : Int) < u.size ∨ (500 : Int) < v.t.size ∨ (500 : Int) < z.t.size
  · exact long x y t u v z W h
  · exact short x y t u v z W (by omega) (by omega) (by omega) (by omega) (bndI w0).1 (bndI w0).2 (bndI w1).1 (bndI w1).2 (bndK w4).1 (bndI w5).1 (bndI w5).2 (bndK w6).1 (bndI w7).1 (bndI w7).2
end Go.Proofs.Ytijhdnpaeliaoaa.LawWireApart
