/- WireWrites: the walk of the law, from the contracts of the writers. No condition but the texts' lengths. -/
import Derived.Test.YtijhdnpaeliaoaaWr
namespace Go.Proofs.Ytijhdnpaeliaoaa.LawWireWrites
open Go.RowKit Go.Proofs.Ytijhdnpaeliaoaa.Wm Go.Proofs.Ytijhdnpaeliaoaa.Wa Go.Proofs.Ytijhdnpaeliaoaa.Wc Go.Proofs.Ytijhdnpaeliaoaa.Wd Go.Proofs.Ytijhdnpaeliaoaa.Wj Go.Proofs.Ytijhdnpaeliaoaa.Wr
set_option linter.unusedVariables false
set_option linter.unusedSimpArgs false
set_option maxRecDepth 100000
theorem long (s : ByteArray) (n x : Int) (t : ByteArray) (v : V) (W : World) (h : (2000 : Int) < s.size ∨ (2000 : Int) < t.size ∨ (2000 : Int) < v.t.size) : Calls Try.prog 3 #[.string s, .int .i64 n, .int .i64 x, .string t, .agg #[.int .u8 v.k, .int .i64 v.n, .string v.t]] W fun e W' => e = .returned (.bool true) ∧ Below W.heap.size W W' := by
  by_cases h1 : (2000 : Int) < s.size
  · clear h
    go_enter Try.func3, Try.ntmps3
    go_wp2_with (go_at_call 10; refine (awakeC _).mono ?_; rintro e w1 ⟨rfl, hb1⟩; have zhb1 := hb1.size; (try simp only [World.size_alloc, World.size_setCell, World.heap_drewN, World.size_drew] at zhb1))
    go_ret
    exact ⟨rfl, by (repeat' (first | (with_reducible exact Below.refl _ _) | (with_reducible assumption) | (with_reducible refine Below.alloc ?_ ?_ _) | (with_reducible refine Below.drew ?_) | (with_reducible refine below_drewN ?_ _) | (with_reducible refine Below.setCell ?_ ?_ _) | (with_reducible refine Below.trans ?_ (Below.mono (by with_reducible assumption) ?_)) | (simp only [World.size_alloc, World.size_setCell, World.heap_drewN, World.size_drew]; omega) | omega | (simp; omega) | (simp; done)))⟩
  by_cases h2 : (2000 : Int) < t.size
  · clear h
    go_enter Try.func3, Try.ntmps3
    go_wp2_with (go_at_call 10; refine (awakeC _).mono ?_; rintro e w1 ⟨rfl, hb1⟩; have zhb1 := hb1.size; (try simp only [World.size_alloc, World.size_setCell, World.heap_drewN, World.size_drew] at zhb1))
    go_ret
    exact ⟨rfl, by (repeat' (first | (with_reducible exact Below.refl _ _) | (with_reducible assumption) | (with_reducible refine Below.alloc ?_ ?_ _) | (with_reducible refine Below.drew ?_) | (with_reducible refine below_drewN ?_ _) | (with_reducible refine Below.setCell ?_ ?_ _) | (with_reducible refine Below.trans ?_ (Below.mono (by with_reducible assumption) ?_)) | (simp only [World.size_alloc, World.size_setCell, World.heap_drewN, World.size_drew]; omega) | omega | (simp; omega) | (simp; done)))⟩
  · have h3 : (2000 : Int) < v.t.size := by omega
    clear h
    go_enter Try.func3, Try.ntmps3
    go_wp2_with (go_at_call 10; refine (awakeC _).mono ?_; rintro e w1 ⟨rfl, hb1⟩; have zhb1 := hb1.size; (try simp only [World.size_alloc, World.size_setCell, World.heap_drewN, World.size_drew] at zhb1))
    go_ret
    exact ⟨rfl, by (repeat' (first | (with_reducible exact Below.refl _ _) | (with_reducible assumption) | (with_reducible refine Below.alloc ?_ ?_ _) | (with_reducible refine Below.drew ?_) | (with_reducible refine below_drewN ?_ _) | (with_reducible refine Below.setCell ?_ ?_ _) | (with_reducible refine Below.trans ?_ (Below.mono (by with_reducible assumption) ?_)) | (simp only [World.size_alloc, World.size_setCell, World.heap_drewN, World.size_drew]; omega) | omega | (simp; omega) | (simp; done)))⟩
set_option maxHeartbeats 2000000 in
theorem short (s : ByteArray) (n x : Int) (t : ByteArray) (v : V) (W : World) (h1 : ¬ (2000 : Int) < s.size) (h2 : ¬ (2000 : Int) < t.size) (h3 : ¬ (2000 : Int) < v.t.size) (x1 : -9223372036854775808 ≤ x) (x2 : x ≤ 9223372036854775807) (k0 : 0 ≤ v.k) (n1 : -9223372036854775808 ≤ v.n) (n2 : v.n ≤ 9223372036854775807) : Calls Try.prog 3 #[.string s, .int .i64 n, .int .i64 x, .string t, .agg #[.int .u8 v.k, .int .i64 v.n, .string v.t]] W fun e W' => e = .returned (.bool true) ∧ Below W.heap.size W W' := by
  have hs : s.size ≤ 1099511627 := by omega
  have hs2 : s.size ≤ 1099511627776 := by omega
  have ht : t.size ≤ 1099511627776 := by omega
  have v0 : Bv W.heap.size ⟨v.k, v.n, v.t⟩ (W.alloc (.cells #[.int .u8 v.k, .int .i64 v.n, .string v.t] 23)) := Bv.new
  have HN := numC s n hs2
  have HRN := rnumC s n hs2
  have HV := valC s v hs k0 n1 n2
  have HRV := rvalC s v hs k0 n1 n2
  unfold ValPost at HV HRV
  obtain ⟨⟨a, e⟩, hr⟩ : ∃ r, r = numR s n := ⟨_, rfl⟩
  rw [← hr] at HN HRN
  obtain ⟨⟨c, g⟩, hr2⟩ : ∃ r, r = valR s v := ⟨_, rfl⟩
  rw [← hr2] at HV HRV
  clear hr hr2
  go_enter Try.func3, Try.ntmps3
  go_wp2_with fail
  refine (HN _).mono ?_
  rintro e w1 ⟨rfl, hb1⟩; have zhb1 := hb1.size; (try simp only [World.size_alloc, World.size_setCell, World.heap_drewN, World.size_drew] at zhb1)
  have v1 := v0.on hb1
  go_wp2_with fail
  refine (HRN _).mono ?_
  rintro e w2 ⟨rfl, hb2⟩; have zhb2 := hb2.size; (try simp only [World.size_alloc, World.size_setCell, World.heap_drewN, World.size_drew] at zhb2)
  have v2 := v1.on hb2
  have k20 := v2.c0
  have k21 := v2.c1
  have k22 := v2.c2
  go_wp2_with fail
  refine (HV _).mono ?_
  rintro e w3 ⟨rfl, hb3⟩; have zhb3 := hb3.size; (try simp only [World.size_alloc, World.size_setCell, World.heap_drewN, World.size_drew] at zhb3)
  have v3 := v2.on hb3
  have k30 := v3.c0
  have k31 := v3.c1
  have k32 := v3.c2
  go_wp2_with fail
  refine (HRV _).mono ?_
  rintro e w4 ⟨rfl, hb4⟩; have zhb4 := hb4.size; (try simp only [World.size_alloc, World.size_setCell, World.heap_drewN, World.size_drew] at zhb4)
  go_wp2_with fail
  refine (intC s x hs2 x1 x2 _).mono ?_
  rintro e w5 ⟨rfl, hb5⟩; have zhb5 := hb5.size; (try simp only [World.size_alloc, World.size_setCell, World.heap_drewN, World.size_drew] at zhb5)
  go_wp2_with fail
  refine (rintC s x hs2 x1 x2 _).mono ?_
  rintro e w6 ⟨rfl, hb6⟩; have zhb6 := hb6.size; (try simp only [World.size_alloc, World.size_setCell, World.heap_drewN, World.size_drew] at zhb6)
  go_wp2_with fail
  refine (textC s t hs2 ht _).mono ?_
  rintro e w7 ⟨rfl, hb7⟩; have zhb7 := hb7.size; (try simp only [World.size_alloc, World.size_setCell, World.heap_drewN, World.size_drew] at zhb7)
  go_wp2_with fail
  refine (rtextC s t hs2 ht _).mono ?_
  rintro e w8 ⟨rfl, hb8⟩; have zhb8 := hb8.size; (try simp only [World.size_alloc, World.size_setCell, World.heap_drewN, World.size_drew] at zhb8)
  go_wp2_with fail
  refine (awakeC _).mono ?_
  rintro e w9 ⟨rfl, hb9⟩; have zhb9 := hb9.size; (try simp only [World.size_alloc, World.size_setCell, World.heap_drewN, World.size_drew] at zhb9)
  go_wp2_with fail
  go_ret
  exact ⟨rfl, by (repeat' (first | (with_reducible exact Below.refl _ _) | (with_reducible assumption) | (with_reducible refine Below.alloc ?_ ?_ _) | (with_reducible refine Below.drew ?_) | (with_reducible refine below_drewN ?_ _) | (with_reducible refine Below.setCell ?_ ?_ _) | (with_reducible refine Below.trans ?_ (Below.mono (by with_reducible assumption) ?_)) | (simp only [World.size_alloc, World.size_setCell, World.heap_drewN, World.size_drew]; omega) | omega | (simp; omega) | (simp; done)))⟩
theorem walk (s : ByteArray) (n x : Int) (t : ByteArray) (v : V) (W : World) (x1 : -9223372036854775808 ≤ x) (x2 : x ≤ 9223372036854775807) (k0 : 0 ≤ v.k) (n1 : -9223372036854775808 ≤ v.n) (n2 : v.n ≤ 9223372036854775807) : Calls Try.prog 3 #[.string s, .int .i64 n, .int .i64 x, .string t, .agg #[.int .u8 v.k, .int .i64 v.n, .string v.t]] W fun e W' => e = .returned (.bool true) ∧ Below W.heap.size W W' := by
  by_cases h : (2000 : Int) < s.size ∨ (2000 : Int) < t.size ∨ (2000 : Int) < v.t.size
  · exact long s n x t v W h
  · exact short s n x t v W (by omega) (by omega) (by omega) x1 x2 k0 n1 n2
theorem walkR (s : ByteArray) (n x : Int) (t : ByteArray) (v : V) (W : World) (w0 : s.size ≤ 140737488351232) (w1 : (Lit.int .i64 n).wf = true) (w2 : (Lit.int .i64 x).wf = true) (w3 : t.size ≤ 140737488351232) (w4 : (Lit.int .u8 v.k).wf = true) (w5 : (Lit.int .i64 v.n).wf = true) : Calls Try.prog 3 #[.string s, .int .i64 n, .int .i64 x, .string t, .agg #[.int .u8 v.k, .int .i64 v.n, .string v.t]] W fun e W' => e = .returned (.bool true) ∧ Below W.heap.size W W' :=
  walk s n x t v W (bndI w2).1 (bndI w2).2 (bndK w4).1 (bndI w5).1 (bndI w5).2
end Go.Proofs.Ytijhdnpaeliaoaa.LawWireWrites
