/- WireAnew: the walk of the law, from the contracts of the writers and the reader. No condition but the text's length. -/
import Derived.Test.YtijhdnpaeliaoaaWr
import Derived.Test.YtijhdnpaeliaoaaWt
import Derived.Deep.DeepCutAuto
namespace Go.Proofs.Ytijhdnpaeliaoaa.LawWireAnew
open Go.RowKit Go.Sort Go.Proofs.Ytijhdnpaeliaoaa.Wm Go.Proofs.Ytijhdnpaeliaoaa.Wa Go.Proofs.Ytijhdnpaeliaoaa.Wc Go.Proofs.Ytijhdnpaeliaoaa.Wd Go.Proofs.Ytijhdnpaeliaoaa.We Go.Proofs.Ytijhdnpaeliaoaa.Wf Go.Proofs.Ytijhdnpaeliaoaa.Wg Go.Proofs.Ytijhdnpaeliaoaa.Wh Go.Proofs.Ytijhdnpaeliaoaa.Wi Go.Proofs.Ytijhdnpaeliaoaa.Wj Go.Proofs.Ytijhdnpaeliaoaa.Wp Go.Proofs.Ytijhdnpaeliaoaa.Wr Go.Proofs.Ytijhdnpaeliaoaa.Wt
set_option linter.unusedVariables false
set_option linter.unusedSimpArgs false
set_option maxRecDepth 100000
theorem lostC (g : Nat) (st : St) (s : ByteArray) (hs : st.s.size ≤ s.size) (w : World) (h : Rd g st.s st.e w) : Calls Try.prog 26 #[.string s, .pointer (some ⟨g, 0, none⟩)] w fun e w' => e = .returned (.bool false) ∧ w = w' := by
  have t1 : ¬ (st.s.size : Int) < 0 := by omega
  have t2 : ¬ (s.size : Int) < (st.s.size : Int) := by omega
  go_enter Try.func26, Try.ntmps26
  go_wp2_with (go_at_call 27; refine (leftC g st _ h).mono ?_; rintro e w1 ⟨rfl, rfl⟩)
  go_ret
  exact ⟨by simp [*], rfl⟩
theorem long (s : ByteArray) (W : World) (h : (2000 : Int) < s.size) : Calls Try.prog 6 #[.string s] W fun e W' => e = .returned (.bool true) ∧ Below W.heap.size W W' := by
  go_enter Try.func6, Try.ntmps6
  go_wp2_with (go_at_call 10; refine (awakeC _).mono ?_; rintro e w1 ⟨rfl, hb1⟩; have zhb1 := hb1.size; (try simp only [World.size_alloc, World.size_setCell, World.heap_drewN, World.size_drew] at zhb1))
  go_ret
  exact ⟨rfl, by (repeat' (first | (with_reducible exact Below.refl _ _) | (with_reducible assumption) | (with_reducible refine Below.alloc ?_ ?_ _) | (with_reducible refine Below.drew ?_) | (with_reducible refine below_drewN ?_ _) | (with_reducible refine Below.setCell ?_ ?_ _) | (with_reducible refine Below.trans ?_ (Below.mono (by with_reducible assumption) ?_)) | (simp only [World.size_alloc, World.size_setCell, World.heap_drewN, World.size_drew]; omega) | omega | (simp; omega) | (simp; done)))⟩
theorem valT' (v : V) (s : ByteArray) (hv : valR ⟨#[]⟩ v = (s, 0)) (h0 : 0 ≤ v.k) (h1 : -9223372036854775808 ≤ v.n) (h2 : v.n ≤ 9223372036854775807) (w : World) : Calls Try.prog 13 #[.string ⟨#[]⟩, .agg #[.int .u8 v.k, .int .i64 v.n, .string v.t]] w fun e w' => e = .returned (.tuple #[.string s, .int .i64 0]) ∧ Below w.heap.size w w' := valT v s hv h0 h1 h2 w
/-- Above the base all that was made may have turned. -/
theorem gr_bel {B g : Nat} {a b c : World} (h : Below B a b) (hg : b.grownBy c (some g)) (hB : B ≤ b.heap.size) (hr : B ≤ g) : Below B a c := h.grown hg hB (fun k hk => by cases hk; exact hr)
set_option maxHeartbeats 8000000 in
theorem short (s : ByteArray) (W : World) (h : ¬ (2000 : Int) < s.size) (ea eb ec ed : Int) (n : Nat) (x : Int) (y : ByteArray) (v : V) (sa sb sc sd : St)
    (ra : numS ⟨s, 0⟩ = (n, ea, sa)) (rb : intS ⟨s, 0⟩ = (x, eb, sb)) (rc : textS (s.size : Int) ⟨s, 0⟩ = (y, ec, sc)) (rd : valS ⟨s, 0⟩ = (v, ed, sd))
    (za : sa.s.size ≤ s.size) (zb : sb.s.size ≤ s.size) (zc : sc.s.size ≤ s.size) (zd : sd.s.size ≤ s.size)
    (ha : ea ≠ 0 ∨ ea = 0 ∧ numR ⟨#[]⟩ (n : Int) = (gone s sa.s, 0)) (hb : eb ≠ 0 ∨ eb = 0 ∧ intW ⟨#[]⟩ x = gone s sb.s ∧ -9223372036854775808 ≤ x ∧ x ≤ 9223372036854775807)
    (hc : ec ≠ 0 ∨ ec = 0 ∧ y.size ≤ s.size ∧ textW ⟨#[]⟩ y = gone s sc.s) (hd : (ed ≠ 0 ∧ v = V.zero ∧ sd.s.size = 0) ∨ ed = 0 ∧ valR ⟨#[]⟩ v = (gone s sd.s, 0) ∧ 0 ≤ v.k ∧ -9223372036854775808 ≤ v.n ∧ v.n ≤ 9223372036854775807) :
    Calls Try.prog 6 #[.string s] W fun e W' => e = .returned (.bool true) ∧ Below W.heap.size W W' := by
  have hs : s.size ≤ 1099511627776 := by omega
  have RA := Lib.hid ra
  have RB := Lib.hid rb
  have RC := Lib.hid rc
  have RD := Lib.hid rd
  have HA := Lib.hid ha
  have HB := Lib.hid hb
  have HC := Lib.hid hc
  have HD := Lib.hid hd
  clear ra rb rc rd ha hb hc hd
  go_enter Try.func6, Try.ntmps6
  go_wp2_with fail
  refine (awakeC _).mono ?_
  rintro e w1 ⟨rfl, hb1⟩; have zhb1 := hb1.size; (try simp only [World.size_alloc, World.size_setCell, World.heap_drewN, World.size_drew] at zhb1)
  go_wp2_with fail
  refine (openC s _).mono ?_
  rintro e w2 ⟨rfl, qa, hb2⟩
  have zb2 := hb2.size
  have la := qa.lt
  go_wp2_with fail
  refine (openC s _).mono ?_
  rintro e w3 ⟨rfl, qb, hb3⟩
  have zb3 := hb3.size
  have lb := qb.lt
  replace qa := qa.on hb3
  go_wp2_with fail
  refine (openC s _).mono ?_
  rintro e w4 ⟨rfl, qc, hb4⟩
  have zb4 := hb4.size
  have lc := qc.lt
  replace qa := qa.on hb4
  replace qb := qb.on hb4
  go_wp2_with fail
  refine (openC s _).mono ?_
  rintro e w5 ⟨rfl, qd, hb5⟩
  have zb5 := hb5.size
  have ld := qd.lt
  replace qa := qa.on hb5
  replace qb := qb.on hb5
  replace qc := qc.on hb5
  have hB : Below W.heap.size W w5 := by (repeat' (first | (with_reducible exact Below.refl _ _) | (with_reducible assumption) | (with_reducible refine Below.alloc ?_ ?_ _) | (with_reducible refine Below.drew ?_) | (with_reducible refine below_drewN ?_ _) | (with_reducible refine Below.setCell ?_ ?_ _) | (with_reducible refine Below.trans ?_ (Below.mono (by with_reducible assumption) ?_)) | (simp only [World.size_alloc, World.size_setCell, World.heap_drewN, World.size_drew]; omega) | omega | (simp; omega) | (simp; done)))
  have na : W.heap.size ≤ w1.heap.size := by omega
  have nab : w1.heap.size ≠ w2.heap.size := by omega
  have nac : w1.heap.size ≠ w3.heap.size := by omega
  have nad : w1.heap.size ≠ w4.heap.size := by omega
  have nbc : w2.heap.size ≠ w3.heap.size := by omega
  have nbd : w2.heap.size ≠ w4.heap.size := by omega
  have ncd : w3.heap.size ≠ w4.heap.size := by omega
  have nb : W.heap.size ≤ w2.heap.size := by omega
  have nc : W.heap.size ≤ w3.heap.size := by omega
  have nd : W.heap.size ≤ w4.heap.size := by omega
  generalize w1.heap.size = ga at *
  generalize w2.heap.size = gb at *
  generalize w3.heap.size = gc at *
  generalize w4.heap.size = gd at *
  clear hb1 zhb1 hb2 zb2 hb3 zb3 hb4 zb4 hb5 zb5 la lb lc ld
  have zB := hB.size
  go_wp2_with fail
  refine (numRC ga ⟨s, 0⟩ hs _ qa).mono ?_
  rw [RA.out]
  rintro e w6 ⟨rfl, qa, hg6⟩
  replace qb := qb.far hg6 (Ne.symm nab)
  replace qc := qc.far hg6 (Ne.symm nac)
  replace qd := qd.far hg6 (Ne.symm nad)
  replace hB := gr_bel hB hg6 zB na
  replace zB := hB.size
  clear hg6
  go_wp2_with fail
  refine (intRC gb ⟨s, 0⟩ hs _ qb).mono ?_
  rw [RB.out]
  rintro e w7 ⟨rfl, qb, hg7⟩
  replace qa := qa.far hg7 nab
  replace qc := qc.far hg7 (Ne.symm nbc)
  replace qd := qd.far hg7 (Ne.symm nbd)
  replace hB := gr_bel hB hg7 zB nb
  replace zB := hB.size
  clear hg7
  go_wp2_with fail
  refine (textRC gc (s.size : Int) ⟨s, 0⟩ hs _ qc).mono ?_
  rw [RC.out]
  rintro e w8 ⟨rfl, qc, hg8⟩
  replace qa := qa.far hg8 nac
  replace qb := qb.far hg8 nbc
  replace qd := qd.far hg8 (Ne.symm ncd)
  replace hB := gr_bel hB hg8 zB nc
  replace zB := hB.size
  clear hg8
  go_wp2_with fail
  refine (valRC gd ⟨s, 0⟩ hs _ qd).mono ?_
  rw [RD.out]
  rintro e w9 ⟨rfl, qd, hg9⟩
  replace qa := qa.far hg9 nad
  replace qb := qb.far hg9 nbd
  replace qc := qc.far hg9 ncd
  replace hB := gr_bel hB hg9 zB nd
  replace zB := hB.size
  clear hg9
  have qv : Bv w9.heap.size ⟨v.k, v.n, v.t⟩ (w9.alloc (.cells #[.int .u8 v.k, .int .i64 v.n, .string v.t] 23)) := Bv.new
  have qa' := qa.alloc (.cells #[.int .u8 v.k, .int .i64 v.n, .string v.t] 23)
  have qb' := qb.alloc (.cells #[.int .u8 v.k, .int .i64 v.n, .string v.t] 23)
  have qc' := qc.alloc (.cells #[.int .u8 v.k, .int .i64 v.n, .string v.t] 23)
  have qd' := qd.alloc (.cells #[.int .u8 v.k, .int .i64 v.n, .string v.t] 23)
  have hB' : Below W.heap.size W (w9.alloc (.cells #[.int .u8 v.k, .int .i64 v.n, .string v.t] 23)) := hB.alloc zB _
  go_upto_if 76 with (first | (go_at_call_of 26 (Value.pointer (some ⟨ga, 0, none⟩)); refine (lostC ga sa s za _ qa').mono ?_; rintro e w1 ⟨rfl, rfl⟩) | (go_at_call_of 26 (Value.pointer (some ⟨gb, 0, none⟩)); refine (lostC gb sb s zb _ qb').mono ?_; rintro e w1 ⟨rfl, rfl⟩) | (go_at_call_of 26 (Value.pointer (some ⟨gc, 0, none⟩)); refine (lostC gc sc s zc _ qc').mono ?_; rintro e w1 ⟨rfl, rfl⟩) | (go_at_call_of 26 (Value.pointer (some ⟨gd, 0, none⟩)); refine (lostC gd sd s zd _ qd').mono ?_; rintro e w1 ⟨rfl, rfl⟩))
  clear qa qb qc qd hB zB
  generalize (w9.alloc (.cells #[.int .u8 v.k, .int .i64 v.n, .string v.t] 23)) = W1 at *
  generalize w9.heap.size = gv at *
  have zB' := hB'.size
  go_cut [] (fun Wn => Rd gb sb.s sb.e Wn ∧ Rd gc sc.s sc.e Wn ∧ Rd gd sd.s sd.e Wn ∧ Bv gv v Wn ∧ Below W.heap.size W Wn)
  case first =>
    rcases HA.out with ha | ⟨rfl, ha⟩
    · have t1 : (ea == 0) = false := by simpa using ha
      clear ha
      go_wp2_with fail
      go_meet
      exact ⟨qb', qc', qd', qv, hB'⟩
    · unfold gone at ha
      have HA2 := Lib.hid ha
      have b1 : (sa.s.size : Int) ≤ (s.size : Int) := by omega
      have b2 : (0 : Int) ≤ (s.size : Int) - (sa.s.size : Int) := by omega
      clear ha
      go_wp2_with fail
      refine (numC ⟨#[]⟩ (n : Int) (by decide) _).mono ?_
      rw [HA2.out]
      rintro e w2 ⟨rfl, hb2⟩; have zhb2 := hb2.size; (try simp only [World.size_alloc, World.size_setCell, World.heap_drewN, World.size_drew] at zhb2)
      go_wp2_with fail
      refine (leftC ga sa _ (qa'.on hb2)).mono ?_
      rintro e w3 ⟨rfl, rfl⟩
      go_wp2_with fail
      go_meet
      exact ⟨qb'.on hb2, qc'.on hb2, qd'.on hb2, qv.on hb2, hB'.trans (hb2.mono zB')⟩
  case rest =>
  clear qa' qb' qc' qd' qv hB' zB' HA
  obtain ⟨qb, qc, qd, qv, hB⟩ := hcut
  have zB := hB.size
  have t3b : (sb.s.size : Int) ≤ (s.size : Int) := by omega
  have t3c : (sc.s.size : Int) ≤ (s.size : Int) := by omega
  have t3d : (sd.s.size : Int) ≤ (s.size : Int) := by omega
  have t4b : (0 : Int) ≤ (s.size : Int) - (sb.s.size : Int) := by omega
  have t4c : (0 : Int) ≤ (s.size : Int) - (sc.s.size : Int) := by omega
  have t4d : (0 : Int) ≤ (s.size : Int) - (sd.s.size : Int) := by omega
  go_upto_region 14 with fail
  go_cut [124] (fun t Wn => t = .bool false ∧ Rd gd sd.s sd.e Wn ∧ Bv gv v Wn ∧ Below W.heap.size W Wn)
  case first =>
    rcases HB.out with hb | ⟨rfl, hb, x1, x2⟩
    · have t1 : (eb == 0) = false := by simpa using hb
      clear hb HB
      rcases HC.out with hc | ⟨rfl, yz, hc⟩
      · have t2 : (ec == 0) = false := by simpa using hc
        clear hc HC
        go_wp2_with fail
        go_meet
        exact ⟨rfl, qd, qv, hB⟩
      · unfold gone at hc
        have HC2 := Lib.hid hc
        clear hc HC
        go_wp2_with fail
        refine (textC ⟨#[]⟩ y (by decide) (by omega) _).mono ?_
        rw [HC2.out]
        rintro e w4 ⟨rfl, hb4⟩; have zhb4 := hb4.size; (try simp only [World.size_alloc, World.size_setCell, World.heap_drewN, World.size_drew] at zhb4)
        go_wp2_with fail
        refine (leftC gc sc _ (qc.on hb4)).mono ?_
        rintro e w5 ⟨rfl, rfl⟩
        go_wp2_with fail
        go_meet
        exact ⟨by simp, qd.on hb4, qv.on hb4, hB.trans (hb4.mono zB)⟩
    · unfold gone at hb
      have HB2 := Lib.hid hb
      clear hb HB
      rcases HC.out with hc | ⟨rfl, yz, hc⟩
      · have t2 : (ec == 0) = false := by simpa using hc
        clear hc HC
        go_wp2_with fail
        refine (intC ⟨#[]⟩ x (by decide) x1 x2 _).mono ?_
        rw [HB2.out]
        rintro e w2 ⟨rfl, hb2⟩; have zhb2 := hb2.size; (try simp only [World.size_alloc, World.size_setCell, World.heap_drewN, World.size_drew] at zhb2)
        go_wp2_with fail
        refine (leftC gb sb _ (qb.on hb2)).mono ?_
        rintro e w3 ⟨rfl, rfl⟩
        go_wp2_with fail
        go_meet
        exact ⟨by simp, qd.on hb2, qv.on hb2, hB.trans (hb2.mono zB)⟩
      · unfold gone at hc
        have HC2 := Lib.hid hc
        clear hc HC
        go_wp2_with fail
        refine (intC ⟨#[]⟩ x (by decide) x1 x2 _).mono ?_
        rw [HB2.out]
        rintro e w2 ⟨rfl, hb2⟩; have zhb2 := hb2.size; (try simp only [World.size_alloc, World.size_setCell, World.heap_drewN, World.size_drew] at zhb2)
        go_wp2_with fail
        refine (leftC gb sb _ (qb.on hb2)).mono ?_
        rintro e w3 ⟨rfl, rfl⟩
        go_wp2_with fail
        refine (textC ⟨#[]⟩ y (by decide) (by omega) _).mono ?_
        rw [HC2.out]
        rintro e w4 ⟨rfl, hb4⟩; have zhb4 := hb4.size; (try simp only [World.size_alloc, World.size_setCell, World.heap_drewN, World.size_drew] at zhb4)
        go_wp2_with fail
        refine (leftC gc sc _ ((qc.on hb2).on hb4)).mono ?_
        rintro e w5 ⟨rfl, rfl⟩
        go_wp2_with fail
        go_meet
        exact ⟨by simp, (qd.on hb2).on hb4, (qv.on hb2).on hb4, (hB.trans (hb2.mono zB)).trans (hb4.mono (by omega))⟩
  case rest =>
  clear qb qc qd qv hB zB HB HC
  obtain ⟨rfl, qd, qv, hB⟩ := hcut
  have zB := hB.size
  have k0 := qv.c0
  have k1 := qv.c1
  have k2 := qv.c2
  rcases HD.out with ⟨hd, rfl, hz⟩ | ⟨rfl, hd, v0, v1, v2⟩
  · have t1 : (ed != 0) = true := by simpa using hd
    have e0 : ((sd.s.size : Int) == 0) = true := by simp [hz]
    have E0 := Lib.hid hz
    clear hd HD hz t3d t4d k0 k1 k2
    have k0 : wc.cell? ⟨gv, 0, none⟩ = some (.int .u8 0) := qv.c0
    have k1 : wc.cell? ⟨gv, 1, none⟩ = some (.int .i64 0) := qv.c1
    have k2 : wc.cell? ⟨gv, 2, none⟩ = some (.string ⟨#[]⟩) := qv.c2
    go_wp2_with fail
    refine (leftC gd sd _ qd).mono ?_
    rintro e w3 ⟨rfl, rfl⟩
    go_wp2_with fail
    go_ret
    exact ⟨rfl, hB⟩
  · unfold gone at hd
    have HD2 := Lib.hid hd
    clear hd HD
    go_wp2_with fail
    refine (valT' v _ HD2.out v0 v1 v2 _).mono ?_
    rintro e w2 ⟨rfl, hb2⟩; have zhb2 := hb2.size; (try simp only [World.size_alloc, World.size_setCell, World.heap_drewN, World.size_drew] at zhb2)
    go_wp2_with fail
    refine (leftC gd sd _ (qd.on hb2)).mono ?_
    rintro e w3 ⟨rfl, rfl⟩
    go_wp2_with fail
    go_ret
    exact ⟨by simp, hB.trans (hb2.mono zB)⟩
theorem walkR (s : ByteArray) (W : World) (w0 : s.size ≤ 140737488351232) : Calls Try.prog 6 #[.string s] W fun e W' => e = .returned (.bool true) ∧ Below W.heap.size W W' := by
  by_cases h : (2000 : Int) < s.size
  · exact long s W h
  have a : ∃ (n : Nat) (e : Int) (st : St), numS ⟨s, 0⟩ = (n, e, st) ∧ st.s.size ≤ s.size ∧ (e ≠ 0 ∨ e = 0 ∧ numR ⟨#[]⟩ (n : Int) = (gone s st.s, 0)) := by
    rcases anew_num s with ⟨n, t, h1, h2, h3⟩ | ⟨c, h1, h2⟩
    · exact ⟨n, 0, _, h1, h2, .inr ⟨rfl, h3⟩⟩
    · exact ⟨0, c, _, h1, Nat.zero_le _, .inl h2⟩
  have b : ∃ (x e : Int) (st : St), intS ⟨s, 0⟩ = (x, e, st) ∧ st.s.size ≤ s.size ∧ (e ≠ 0 ∨ e = 0 ∧ intW ⟨#[]⟩ x = gone s st.s ∧ -9223372036854775808 ≤ x ∧ x ≤ 9223372036854775807) := by
    rcases anew_int s with ⟨n, t, h1, h2, h3⟩ | ⟨c, h1, h2⟩
    · exact ⟨n, 0, _, h1, h2, .inr ⟨rfl, h3⟩⟩
    · exact ⟨0, c, _, h1, Nat.zero_le _, .inl h2⟩
  have c : ∃ (y : ByteArray) (e : Int) (st : St), textS (s.size : Int) ⟨s, 0⟩ = (y, e, st) ∧ st.s.size ≤ s.size ∧ (e ≠ 0 ∨ e = 0 ∧ y.size ≤ s.size ∧ textW ⟨#[]⟩ y = gone s st.s) := by
    rcases anew_text s with ⟨n, t, h1, h2, h3⟩ | ⟨c, h1, h2⟩
    · exact ⟨n, 0, _, h1, h2, .inr ⟨rfl, h3⟩⟩
    · exact ⟨_, c, _, h1, Nat.zero_le _, .inl h2⟩
  have d : ∃ (v : V) (e : Int) (st : St), valS ⟨s, 0⟩ = (v, e, st) ∧ st.s.size ≤ s.size ∧ ((e ≠ 0 ∧ v = V.zero ∧ st.s.size = 0) ∨ e = 0 ∧ valR ⟨#[]⟩ v = (gone s st.s, 0) ∧ 0 ≤ v.k ∧ -9223372036854775808 ≤ v.n ∧ v.n ≤ 9223372036854775807) := by
    rcases anew_val s with ⟨n, t, h1, h2, h3⟩ | ⟨c, h1, h2⟩
    · exact ⟨n, 0, _, h1, h2, .inr ⟨rfl, h3⟩⟩
    · exact ⟨_, c, _, h1, Nat.zero_le _, .inl ⟨h2, rfl, rfl⟩⟩
  obtain ⟨n, ea, sa, ra, za, ha⟩ := a
  obtain ⟨x, eb, sb, rb, zb, hb⟩ := b
  obtain ⟨y, ec, sc, rc, zc, hc⟩ := c
  obtain ⟨v, ed, sd, rd, zd, hd⟩ := d
  exact short s W h ea eb ec ed n x y v sa sb sc sd ra rb rc rd za zb zc zd ha hb hc hd
end Go.Proofs.Ytijhdnpaeliaoaa.LawWireAnew
