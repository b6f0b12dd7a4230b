/- WireShort: the walk of the law, from the contracts of the writers and the reader. No condition but the numbers' own range. -/
import Derived.Test.YtijhdnpaeliaoaaWr
import Derived.Test.YtijhdnpaeliaoaaWu
namespace Go.Proofs.Ytijhdnpaeliaoaa.LawWireShort
open Go.RowKit Go.Sort Go.Proofs.Ytijhdnpaeliaoaa.Wm Go.Proofs.Ytijhdnpaeliaoaa.Wa Go.Proofs.Ytijhdnpaeliaoaa.Wc Go.Proofs.Ytijhdnpaeliaoaa.Wd Go.Proofs.Ytijhdnpaeliaoaa.We Go.Proofs.Ytijhdnpaeliaoaa.Wf Go.Proofs.Ytijhdnpaeliaoaa.Wg Go.Proofs.Ytijhdnpaeliaoaa.Wh Go.Proofs.Ytijhdnpaeliaoaa.Wi Go.Proofs.Ytijhdnpaeliaoaa.Wj Go.Proofs.Ytijhdnpaeliaoaa.Wp Go.Proofs.Ytijhdnpaeliaoaa.Wr Go.Proofs.Ytijhdnpaeliaoaa.Wt Go.Proofs.Ytijhdnpaeliaoaa.Wu
set_option linter.unusedVariables false
set_option linter.unusedSimpArgs false
set_option maxRecDepth 100000
theorem long (x : Int) (t : ByteArray) (v : V) (less : Int) (W : World) (h : (500 : Int) < t.size ∨ (500 : Int) < v.t.size) : Calls Try.prog 5 #[.int .i64 x, .string t, .agg #[.int .u8 v.k, .int .i64 v.n, .string v.t], .int .i64 less] W fun e W' => e = .returned (.bool true) ∧ Below W.heap.size W W' := by
  by_cases h1 : (500 : Int) < t.size
  · clear h
    go_enter Try.func5, Try.ntmps5
    go_wp2_with (go_at_call 10; refine (awakeC _).mono ?_; rintro e w1 ⟨rfl, hb1⟩; have zhb1 := hb1.size; (try simp only [World.size_alloc, World.size_setCell, World.heap_drewN, World.size_drew] at zhb1))
    go_ret
    exact ⟨rfl, by (repeat' (first | (with_reducible exact Below.refl _ _) | (with_reducible assumption) | (with_reducible refine Below.alloc ?_ ?_ _) | (with_reducible refine Below.drew ?_) | (with_reducible refine below_drewN ?_ _) | (with_reducible refine Below.setCell ?_ ?_ _) | (with_reducible refine Below.trans ?_ (Below.mono (by with_reducible assumption) ?_)) | (simp only [World.size_alloc, World.size_setCell, World.heap_drewN, World.size_drew]; omega) | omega | (simp; omega) | (simp; done)))⟩
  · have h2 : (500 : Int) < v.t.size := by omega
    clear h
    go_enter Try.func5, Try.ntmps5
    go_wp2_with (go_at_call 10; refine (awakeC _).mono ?_; rintro e w1 ⟨rfl, hb1⟩; have zhb1 := hb1.size; (try simp only [World.size_alloc, World.size_setCell, World.heap_drewN, World.size_drew] at zhb1))
    go_ret
    exact ⟨rfl, by (repeat' (first | (with_reducible exact Below.refl _ _) | (with_reducible assumption) | (with_reducible refine Below.alloc ?_ ?_ _) | (with_reducible refine Below.drew ?_) | (with_reducible refine below_drewN ?_ _) | (with_reducible refine Below.setCell ?_ ?_ _) | (with_reducible refine Below.trans ?_ (Below.mono (by with_reducible assumption) ?_)) | (simp only [World.size_alloc, World.size_setCell, World.heap_drewN, World.size_drew]; omega) | omega | (simp; omega) | (simp; done)))⟩
theorem rem_form (less : Int) (n : Nat) (hn : 0 < n) : ∃ c : Nat, c < n ∧ (IntKind.u64.wrap less).tmod (n : Int) = (c : Int) := by
  have h0 : 0 ≤ IntKind.u64.wrap less := by simp [IntKind.wrap, IntKind.bits, IntKind.signed]; omega
  rw [Int.tmod_eq_emod_of_nonneg h0]
  have h1 : 0 ≤ IntKind.u64.wrap less % (n : Int) := Int.emod_nonneg _ (by omega)
  have h2 : IntKind.u64.wrap less % (n : Int) < n := Int.emod_lt_of_pos _ (by omega)
  exact ⟨(IntKind.u64.wrap less % (n : Int)).toNat, by omega, by omega⟩
theorem gr_bel {B g : Nat} {a b c : World} (h : Below B a b) (hg : b.grownBy c (some g)) (hB : B ≤ b.heap.size) (hr : B ≤ g) : Below B a c := h.grown hg hB (fun k hk => by cases hk; exact hr)
set_option maxHeartbeats 4000000 in
theorem short (x : Int) (t : ByteArray) (v : V) (less : Int) (W : World) (h1 : ¬ (500 : Int) < t.size) (h2 : ¬ (500 : Int) < v.t.size) (x1 : -9223372036854775808 ≤ x) (x2 : x ≤ 9223372036854775807) (vk : 0 ≤ v.k) (v1 : -9223372036854775808 ≤ v.n) (v2 : v.n ≤ 9223372036854775807)
    (a b c : ByteArray) (ec : Int) (ka kb kc : Nat) (ra : intW ⟨#[]⟩ x = a) (rb : textW ⟨#[]⟩ t = b) (rc : valR ⟨#[]⟩ v = (c, ec))
    (a0 : 0 < a.size) (a1 : a.size ≤ 1000000) (b00 : 0 < b.size) (b1 : b.size ≤ 1000000) (ma : (IntKind.u64.wrap less).tmod (a.size : Int) = (ka : Int)) (la : ka < a.size) (mb : (IntKind.u64.wrap less).tmod (b.size : Int) = (kb : Int)) (lb : kb < b.size)
    (qa : intS ⟨a.extract 0 ka, 0⟩ = (0, 8, St.bad 8)) (qb : textS 500 ⟨b.extract 0 kb, 0⟩ = (⟨#[]⟩, 8, St.bad 8))
    (hc : (ec ≠ 0 ∧ c = ⟨#[]⟩) ∨ (ec = 0 ∧ 0 < c.size ∧ c.size ≤ 1000000 ∧ (IntKind.u64.wrap less).tmod (c.size : Int) = (kc : Int) ∧ kc < c.size ∧ valS ⟨c.extract 0 kc, 0⟩ = (V.zero, 8, St.bad 8))) : Calls Try.prog 5 #[.int .i64 x, .string t, .agg #[.int .u8 v.k, .int .i64 v.n, .string v.t], .int .i64 less] W fun e W' => e = .returned (.bool true) ∧ Below W.heap.size W W' := by
  have RA := Lib.hid ra
  have RB := Lib.hid rb
  have RC := Lib.hid rc
  have QA := Lib.hid qa
  have QB := Lib.hid qb
  have HC := Lib.hid hc
  have HV := valC ⟨#[]⟩ v (by decide) vk v1 v2
  unfold ValPost at HV
  rw [rc] at HV
  clear ra rb rc qa qb hc
  have b0 : Bv W.heap.size ⟨v.k, v.n, v.t⟩ (W.alloc (.cells #[.int .u8 v.k, .int .i64 v.n, .string v.t] 23)) := Bv.new
  have sa : (a.size : Int) ≤ 1000000 := by omega
  have sb : (b.size : Int) ≤ 1000000 := by omega
  have pa : ((a.size : Int) == 0) = false := by rw [beq_eq_false_iff_ne]; omega
  have pb : ((b.size : Int) == 0) = false := by rw [beq_eq_false_iff_ne]; omega
  have na : ¬ (a.size : Int) = 0 := by omega
  have nb : ¬ (b.size : Int) = 0 := by omega
  have la1 : (ka : Int) ≤ (a.size : Int) := by omega
  have lb1 : (kb : Int) ≤ (b.size : Int) := by omega
  have la2 : ka ≤ a.size := by omega
  have lb2 : kb ≤ b.size := by omega
  have hsa : (a.extract 0 ka).size ≤ 1099511627776 := by rw [ByteArray.size_extract]; omega
  have hsb : (b.extract 0 kb).size ≤ 1099511627776 := by rw [ByteArray.size_extract]; omega
  go_enter Try.func5, Try.ntmps5
  go_wp2_with fail
  refine (awakeC _).mono ?_
  rintro e w1 ⟨rfl, hb1⟩; have zhb1 := hb1.size; (try simp only [World.size_alloc, World.size_setCell, World.heap_drewN, World.size_drew] at zhb1)
  replace b0 := b0.on hb1
  go_wp2_with fail
  refine (intC ⟨#[]⟩ x (by decide) x1 x2 _).mono ?_
  rw [RA.out]
  rintro e w2 ⟨rfl, hb2⟩; have zhb2 := hb2.size; (try simp only [World.size_alloc, World.size_setCell, World.heap_drewN, World.size_drew] at zhb2)
  replace b0 := b0.on hb2
  go_wp2_with fail
  refine (textC ⟨#[]⟩ t (by decide) (by omega) _).mono ?_
  rw [RB.out]
  rintro e w3 ⟨rfl, hb3⟩; have zhb3 := hb3.size; (try simp only [World.size_alloc, World.size_setCell, World.heap_drewN, World.size_drew] at zhb3)
  replace b0 := b0.on hb3
  have k0 := b0.c0
  have k1 := b0.c1
  have k2 := b0.c2
  go_wp2_with fail
  refine (HV _).mono ?_
  clear HV
  rintro e w4 ⟨rfl, hb4⟩; have zhb4 := hb4.size; (try simp only [World.size_alloc, World.size_setCell, World.heap_drewN, World.size_drew] at zhb4)
  have hB : Below W.heap.size W w4 := by (repeat' (first | (with_reducible exact Below.refl _ _) | (with_reducible assumption) | (with_reducible refine Below.alloc ?_ ?_ _) | (with_reducible refine Below.drew ?_) | (with_reducible refine below_drewN ?_ _) | (with_reducible refine Below.setCell ?_ ?_ _) | (with_reducible refine Below.trans ?_ (Below.mono (by with_reducible assumption) ?_)) | (simp only [World.size_alloc, World.size_setCell, World.heap_drewN, World.size_drew]; omega) | omega | (simp; omega) | (simp; done)))
  have zB := hB.size
  clear hb1 hb2 hb3 hb4 zhb1 zhb2 zhb3 zhb4 k0 k1 k2 b0
  rcases HC.out with ⟨hc, hc2⟩ | ⟨rfl, c0, c1, mc, lc, qc⟩
  · have t1 : (ec == 0) = false := by simpa using hc
    have t2 : (ec != 0) = true := by simpa using hc
    clear hc HC
    subst hc2
    go_wp2_with fail
    refine (openC (a.extract 0 ka) _).mono ?_
    rintro e w5 ⟨rfl, r5, hb5⟩
    have zb5 := hb5.size
    go_wp2_with fail
    refine (intRC _ ⟨a.extract 0 ka, 0⟩ hsa _ r5).mono ?_
    rw [QA.out]
    rintro e w6 ⟨rfl, _, hg6⟩
    have hB6 := gr_bel (hB.trans (hb5.mono zB)) hg6 (by omega) zB
    clear r5 hb5 hg6 hB
    have zB6 := hB6.size
    go_wp2_with fail
    refine (openC (b.extract 0 kb) _).mono ?_
    rintro e w7 ⟨rfl, r7, hb7⟩
    have zb7 := hb7.size
    go_wp2_with fail
    refine (textRC _ 500 ⟨b.extract 0 kb, 0⟩ hsb _ r7).mono ?_
    rw [QB.out]
    rintro e w8 ⟨rfl, _, hg8⟩
    have hB8 := gr_bel (hB6.trans (hb7.mono zB6)) hg8 (by omega) zB6
    clear r7 hb7 hg8 hB6
    have zB8 := hB8.size
    go_wp2_with fail
    go_ret
    exact ⟨by simp, hB8⟩
  · have HQ := Lib.hid qc
    have pc : ((c.size : Int) == 0) = false := by rw [beq_eq_false_iff_ne]; omega
    have nc : ¬ (c.size : Int) = 0 := by omega
    have sc : (c.size : Int) ≤ 1000000 := by omega
    have lc1 : (kc : Int) ≤ (c.size : Int) := by omega
    have lc2 : kc ≤ c.size := by omega
    have hsc : (c.extract 0 kc).size ≤ 1099511627776 := by rw [ByteArray.size_extract]; omega
    clear qc HC
    go_wp2_with fail
    refine (openC (a.extract 0 ka) _).mono ?_
    rintro e w5 ⟨rfl, r5, hb5⟩
    have zb5 := hb5.size
    go_wp2_with fail
    refine (intRC _ ⟨a.extract 0 ka, 0⟩ hsa _ r5).mono ?_
    rw [QA.out]
    rintro e w6 ⟨rfl, _, hg6⟩
    have hB6 := gr_bel (hB.trans (hb5.mono zB)) hg6 (by omega) zB
    clear r5 hb5 hg6 hB
    have zB6 := hB6.size
    go_wp2_with fail
    refine (openC (b.extract 0 kb) _).mono ?_
    rintro e w7 ⟨rfl, r7, hb7⟩
    have zb7 := hb7.size
    go_wp2_with fail
    refine (textRC _ 500 ⟨b.extract 0 kb, 0⟩ hsb _ r7).mono ?_
    rw [QB.out]
    rintro e w8 ⟨rfl, _, hg8⟩
    have hB8 := gr_bel (hB6.trans (hb7.mono zB6)) hg8 (by omega) zB6
    clear r7 hb7 hg8 hB6
    have zB8 := hB8.size
    go_wp2_with fail
    refine (openC (c.extract 0 kc) _).mono ?_
    rintro e w9 ⟨rfl, r9, hb9⟩
    have zb9 := hb9.size
    go_wp2_with fail
    refine (valRC _ ⟨c.extract 0 kc, 0⟩ hsc _ r9).mono ?_
    rw [HQ.out]
    rintro e w10 ⟨rfl, _, hg10⟩
    have hB10 := gr_bel (hB8.trans (hb9.mono zB8)) hg10 (by omega) zB8
    have zB10 := hB10.size
    go_wp2_with fail
    go_ret
    exact ⟨by simp, hB10.alloc zB10 _⟩
theorem walkR (x : Int) (t : ByteArray) (v : V) (less : Int) (W : World) (w0 : (Lit.int .i64 x).wf = true) (w1 : t.size ≤ 140737488351232) (w2 : (Lit.int .u8 v.k).wf = true) (w3 : (Lit.int .i64 v.n).wf = true) (w4 : (Lit.int .i64 less).wf = true) : Calls Try.prog 5 #[.int .i64 x, .string t, .agg #[.int .u8 v.k, .int .i64 v.n, .string v.t], .int .i64 less] W fun e W' => e = .returned (.bool true) ∧ Below W.heap.size W W' := by
  by_cases h : (500 : Int) < t.size ∨ (500 : Int) < v.t.size
  · exact long x t v less W h
  obtain ⟨a0, a1, a2⟩ := ask_int (bndI w0).1 (bndI w0).2
  obtain ⟨b0, b1, b2⟩ := ask_text (t := t) (by omega)
  obtain ⟨ka, la, ma⟩ := rem_form less _ a0
  obtain ⟨kb, lb, mb⟩ := rem_form less _ b0
  by_cases hm : mayK v = true
  · obtain ⟨c0, c1, c2⟩ := ask_val hm (by omega) (bndI w3).1 (bndI w3).2
    obtain ⟨kc, lc, mc⟩ := rem_form less _ c0
    exact short x t v less W (by omega) (by omega) (bndI w0).1 (bndI w0).2 (bndK w2).1 (bndI w3).1 (bndI w3).2 _ _ _ 0 ka kb kc rfl rfl (valR_ok hm) a0 a1 b0 b1 ma la mb lb (a2 ka la) (b2 kb lb) (.inr ⟨rfl, c0, c1, mc, lc, c2 kc lc⟩)
  · exact short x t v less W (by omega) (by omega) (bndI w0).1 (bndI w0).2 (bndK w2).1 (bndI w3).1 (bndI w3).2 _ _ _ 4 ka kb 0 rfl rfl (valR_no (by simpa using hm)) a0 a1 b0 b1 ma la mb lb (a2 ka la) (b2 kb lb) (.inl ⟨by decide, rfl⟩)
end Go.Proofs.Ytijhdnpaeliaoaa.LawWireShort
