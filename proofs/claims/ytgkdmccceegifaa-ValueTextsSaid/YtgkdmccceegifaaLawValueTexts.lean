/- ValueTexts: the walk of the law, from the contracts of value.Two, value.One. No condition but the texts' lengths. -/
import Derived.Test.YtgkdmccceegifaaVx
import Derived.Deep.RegionHeld3
namespace Go.Proofs.Ytgkdmccceegifaa.LawValueTexts
open Go.RowKit Go.Proofs.Ytgkdmccceegifaa.Vm Go.Proofs.Ytgkdmccceegifaa.Va Go.Proofs.Ytgkdmccceegifaa.Vc Go.Proofs.Ytgkdmccceegifaa.Vt Go.Proofs.Ytgkdmccceegifaa.Vz Go.Proofs.Ytgkdmccceegifaa.Vo Go.Proofs.Ytgkdmccceegifaa.Vx
set_option linter.unusedVariables false
set_option linter.unusedSimpArgs false
set_option maxHeartbeats 400000
set_option maxRecDepth 100000
attribute [local go_sem ↓] Go.wp_at_zero Go.wp_at_succ
theorem long (a b c : ByteArray) (W : World) (h : (2000 : Int) < a.size ∨ (2000 : Int) < b.size ∨ (2000 : Int) < c.size) : Calls Try.prog 7 #[.string a, .string b, .string c] W fun e W' => e = .returned (.bool true) ∧ Below W.heap.size W W' := by
  by_cases s1 : (2000 : Int) < a.size
  · clear h
    go_enter Try.func7, Try.ntmps7
    go_wp2_with (go_at_call 10; refine (worksC _).mono ?_; rintro e w1 ⟨rfl, hb1⟩; have zhb1 := hb1.size; (try simp only [World.size_alloc, World.size_setCell, World.heap_drewN, World.size_drew] at zhb1))
    go_returns
    exact ⟨rfl, by (repeat' (first | (with_reducible exact Below.refl _ _) | (with_reducible assumption) | (with_reducible refine Below.alloc ?_ ?_ _) | (with_reducible refine Below.drew ?_) | (with_reducible refine below_drewN ?_ _) | (with_reducible refine Below.setCell ?_ ?_ _) | (with_reducible refine Below.trans ?_ (Below.mono (by with_reducible assumption) ?_)) | (simp only [World.size_alloc, World.size_setCell, World.heap_drewN, World.size_drew]; omega) | omega | (simp; omega) | (simp; done)))⟩
  by_cases s2 : (2000 : Int) < b.size
  · clear h
    go_enter Try.func7, Try.ntmps7
    go_wp2_with (go_at_call 10; refine (worksC _).mono ?_; rintro e w1 ⟨rfl, hb1⟩; have zhb1 := hb1.size; (try simp only [World.size_alloc, World.size_setCell, World.heap_drewN, World.size_drew] at zhb1))
    go_returns
    exact ⟨rfl, by (repeat' (first | (with_reducible exact Below.refl _ _) | (with_reducible assumption) | (with_reducible refine Below.alloc ?_ ?_ _) | (with_reducible refine Below.drew ?_) | (with_reducible refine below_drewN ?_ _) | (with_reducible refine Below.setCell ?_ ?_ _) | (with_reducible refine Below.trans ?_ (Below.mono (by with_reducible assumption) ?_)) | (simp only [World.size_alloc, World.size_setCell, World.heap_drewN, World.size_drew]; omega) | omega | (simp; omega) | (simp; done)))⟩
  · have s3 : (2000 : Int) < c.size := by omega
    clear h
    go_enter Try.func7, Try.ntmps7
    go_wp2_with (go_at_call 10; refine (worksC _).mono ?_; rintro e w1 ⟨rfl, hb1⟩; have zhb1 := hb1.size; (try simp only [World.size_alloc, World.size_setCell, World.heap_drewN, World.size_drew] at zhb1))
    go_returns
    exact ⟨rfl, by (repeat' (first | (with_reducible exact Below.refl _ _) | (with_reducible assumption) | (with_reducible refine Below.alloc ?_ ?_ _) | (with_reducible refine Below.drew ?_) | (with_reducible refine below_drewN ?_ _) | (with_reducible refine Below.setCell ?_ ?_ _) | (with_reducible refine Below.trans ?_ (Below.mono (by with_reducible assumption) ?_)) | (simp only [World.size_alloc, World.size_setCell, World.heap_drewN, World.size_drew]; omega) | omega | (simp; omega) | (simp; done)))⟩
/-- The first sum is refused. -/
theorem refused (a b c : ByteArray) (W : World) (s1 : ¬ (2000 : Int) < a.size) (s2 : ¬ (2000 : Int) < b.size) (s3 : ¬ (2000 : Int) < c.size) (h : 40 < (a.size : Int) + b.size) : Calls Try.prog 7 #[.string a, .string b, .string c] W fun e W' => e = .returned (.bool true) ∧ Below W.heap.size W W' := by
  have hs : wrap64 ((a.size : Int) + b.size) = a.size + b.size := by unfold wrap64; omega
  have H := Lib.hid (add_no h)
  have h2 : ¬ (a.size : Int) + b.size ≤ 40 := by omega
  clear h
  go_enter Try.func7, Try.ntmps7
  go_wp2_with (first | (go_at_call 10; refine (worksC _).mono ?_; rintro e w1 ⟨rfl, hb1⟩; have zhb1 := hb1.size; (try simp only [World.size_alloc, World.size_setCell, World.heap_drewN, World.size_drew] at zhb1)) | (go_at_call 17; refine (ltextC _ _).mono ?_; rintro e w1 ⟨rfl, hb1⟩; have zhb1 := hb1.size; (try simp only [World.size_alloc, World.size_setCell, World.heap_drewN, World.size_drew] at zhb1)) | (go_at_call 8; refine (twoR 8 (text a) (text b) _ H.out _).mono ?_; rintro e w2 ⟨rfl, hb2⟩; have zhb2 := hb2.size; (try simp only [World.size_alloc, World.size_setCell, World.heap_drewN, World.size_drew] at zhb2)))
  go_returns
  exact ⟨rfl, by (repeat' (first | (with_reducible exact Below.refl _ _) | (with_reducible assumption) | (with_reducible refine Below.alloc ?_ ?_ _) | (with_reducible refine Below.drew ?_) | (with_reducible refine below_drewN ?_ _) | (with_reducible refine Below.setCell ?_ ?_ _) | (with_reducible refine Below.trans ?_ (Below.mono (by with_reducible assumption) ?_)) | (simp only [World.size_alloc, World.size_setCell, World.heap_drewN, World.size_drew]; omega) | omega | (simp; omega) | (simp; done)))⟩
set_option maxHeartbeats 8000000 in
theorem taken (a b c : ByteArray) (W : World) (v3 v4 : V) (e3 e4 : Int) (s1 : ¬ (2000 : Int) < a.size) (s2 : ¬ (2000 : Int) < b.size) (s3 : ¬ (2000 : Int) < c.size) (h : ¬ 40 < (a.size : Int) + b.size)
    (hr3 : two 8 (text b) (text c) = (v3, e3)) (hr4 : two 8 (text (a ++ b)) (text c) = (v4, e4))
    (hc : (e3 ≠ 0 ∧ e4 = 20) ∨ (e3 = 0 ∧ e4 = 20) ∨ (e3 = 0 ∧ e4 = 0 ∧ two 8 (text a) v3 = (v4, 0))) : Calls Try.prog 7 #[.string a, .string b, .string c] W fun e W' => e = .returned (.bool true) ∧ Below W.heap.size W W' := by
  have hs : wrap64 ((a.size : Int) + b.size) = a.size + b.size := by unfold wrap64; omega
  have h2 : (a.size : Int) + b.size ≤ 40 := by omega
  have hl : one 16 (text (a ++ b)) = (num ((a.size : Int) + b.size), 0) := by simp [one, text, num]
  have H := Lib.hid (add_ok h)
  have HL := Lib.hid hl
  have H3 := Lib.hid hr3
  have H4 := Lib.hid hr4
  have HC := Lib.hid hc
  clear h hl hr3 hr4 hc
  go_enter Try.func7, Try.ntmps7
  go_upto_region 10 with (first | (go_at_call 10; refine (worksC _).mono ?_; rintro e w1 ⟨rfl, hb1⟩; have zhb1 := hb1.size; (try simp only [World.size_alloc, World.size_setCell, World.heap_drewN, World.size_drew] at zhb1)) | (go_at_call 17; refine (ltextC _ _).mono ?_; rintro e w1 ⟨rfl, hb1⟩; have zhb1 := hb1.size; (try simp only [World.size_alloc, World.size_setCell, World.heap_drewN, World.size_drew] at zhb1)) | (go_at_call_of 8 (Value.string a); refine (twoR 8 (text a) (text b) _ H.out _).mono ?_; rintro e w2 ⟨rfl, hb2⟩; have zhb2 := hb2.size; (try simp only [World.size_alloc, World.size_setCell, World.heap_drewN, World.size_drew] at zhb2)) | (go_at_call 15; refine (oneR 16 (text (a ++ b)) _ HL.out _).mono ?_; rintro e w3 ⟨rfl, hb3⟩; have zhb3 := hb3.size; (try simp only [World.size_alloc, World.size_setCell, World.heap_drewN, World.size_drew] at zhb3)) | (go_at_call_of 8 (Value.string c); refine (twoR 8 (text b) (text c) _ H3.out _).mono ?_; rintro e w4 ⟨rfl, hb4⟩; have zhb4 := hb4.size; (try simp only [World.size_alloc, World.size_setCell, World.heap_drewN, World.size_drew] at zhb4)))
  have k7 : Kv w2.heap.size (text (a ++ b)) (w4.alloc (.cells #[.int .u8 v3.k, .int .i64 v3.n, .string v3.t] 23)) := by (repeat' (first | (with_reducible assumption) | (exact Kv.new) | (exact Kv.new' (by simp)) | (with_reducible refine Kv.drew ?_) | (with_reducible refine Kv.alloc ?_ _) | (with_reducible refine Kv.set ?_ (by first | omega | (simp; omega))) | (with_reducible refine Kv.on ?_ (by with_reducible assumption)) | (with_reducible refine Ko.drew ?_) | (with_reducible refine Ko.alloc ?_ _) | (with_reducible refine Ko.set ?_ (by first | omega | (simp; omega))) | (with_reducible refine Ko.on ?_ (by with_reducible assumption))))
  have k9 : Kv w3.heap.size (num ((a.size : Int) + b.size)) (w4.alloc (.cells #[.int .u8 v3.k, .int .i64 v3.n, .string v3.t] 23)) := by (repeat' (first | (with_reducible assumption) | (exact Kv.new) | (exact Kv.new' (by simp)) | (with_reducible refine Kv.drew ?_) | (with_reducible refine Kv.alloc ?_ _) | (with_reducible refine Kv.set ?_ (by first | omega | (simp; omega))) | (with_reducible refine Kv.on ?_ (by with_reducible assumption)) | (with_reducible refine Ko.drew ?_) | (with_reducible refine Ko.alloc ?_ _) | (with_reducible refine Ko.set ?_ (by first | omega | (simp; omega))) | (with_reducible refine Ko.on ?_ (by with_reducible assumption))))
  have k11 : Kv w4.heap.size v3 (w4.alloc (.cells #[.int .u8 v3.k, .int .i64 v3.n, .string v3.t] 23)) := by (repeat' (first | (with_reducible assumption) | (exact Kv.new) | (exact Kv.new' (by simp)) | (with_reducible refine Kv.drew ?_) | (with_reducible refine Kv.alloc ?_ _) | (with_reducible refine Kv.set ?_ (by first | omega | (simp; omega))) | (with_reducible refine Kv.on ?_ (by with_reducible assumption)) | (with_reducible refine Ko.drew ?_) | (with_reducible refine Ko.alloc ?_ _) | (with_reducible refine Ko.set ?_ (by first | omega | (simp; omega))) | (with_reducible refine Ko.on ?_ (by with_reducible assumption))))
  have hB : Below W.heap.size W (w4.alloc (.cells #[.int .u8 v3.k, .int .i64 v3.n, .string v3.t] 23)) := by (repeat' (first | (with_reducible exact Below.refl _ _) | (with_reducible assumption) | (with_reducible refine Below.alloc ?_ ?_ _) | (with_reducible refine Below.drew ?_) | (with_reducible refine below_drewN ?_ _) | (with_reducible refine Below.setCell ?_ ?_ _) | (with_reducible refine Below.trans ?_ (Below.mono (by with_reducible assumption) ?_)) | (simp only [World.size_alloc, World.size_setCell, World.heap_drewN, World.size_drew]; omega) | omega | (simp; omega) | (simp; done)))
  generalize (w4.alloc (.cells #[.int .u8 v3.k, .int .i64 v3.n, .string v3.t] 23)) = W0 at *
  generalize w2.heap.size = g7 at *
  generalize w3.heap.size = g9 at *
  generalize w4.heap.size = g11 at *
  have k7a := k7.c0
  have k7b := k7.c1
  have k7c := k7.c2
  have k7l := k7.lt
  have k9l := k9.lt
  have k11l := k11.lt
  have zB := hB.size
  clear hb1 hb2 hb3 hb4 zhb1 zhb2 zhb3 zhb4
  go_cut [13, 14] (fun p e Wn => ∃ g : Nat, p = .pointer (some ⟨g, 0, none⟩) ∧ e = .int .i64 e4 ∧ Kv g v4 Wn ∧ Kv g7 (text (a ++ b)) Wn ∧ Kv g9 (num ((a.size : Int) + b.size)) Wn ∧ Kv g11 v3 Wn ∧ Below W.heap.size W Wn)
  case first =>
    go_wp2_with fail
    go_region_with (first | (go_at_call 17; refine (ltextC _ _).mono ?_; rintro e w5 ⟨rfl, hb5⟩; obtain ⟨chb5, fhb5⟩ := bcell hb5; have zhb5 := hb5.size; (try simp only [World.size_alloc, World.size_setCell, World.heap_drewN, World.size_drew] at zhb5); have khb50 : Kv (g7) ((text (a ++ b))) w5 := Kv.on (by (repeat' (first | (with_reducible assumption) | (exact Kv.new) | (exact Kv.new' (by simp)) | (with_reducible refine Kv.drew ?_) | (with_reducible refine Kv.alloc ?_ _) | (with_reducible refine Kv.set ?_ (by first | omega | (simp; omega))) | (with_reducible refine Kv.on ?_ (by with_reducible assumption)) | (with_reducible refine Ko.drew ?_) | (with_reducible refine Ko.alloc ?_ _) | (with_reducible refine Ko.set ?_ (by first | omega | (simp; omega))) | (with_reducible refine Ko.on ?_ (by with_reducible assumption))))) hb5; have khb50a := khb50.c0; have khb50b := khb50.c1; have khb50c := khb50.c2; have khb50l := khb50.lt; have khb51 : Kv (g9) ((num ((a.size : Int) + b.size))) w5 := Kv.on (by (repeat' (first | (with_reducible assumption) | (exact Kv.new) | (exact Kv.new' (by simp)) | (with_reducible refine Kv.drew ?_) | (with_reducible refine Kv.alloc ?_ _) | (with_reducible refine Kv.set ?_ (by first | omega | (simp; omega))) | (with_reducible refine Kv.on ?_ (by with_reducible assumption)) | (with_reducible refine Ko.drew ?_) | (with_reducible refine Ko.alloc ?_ _) | (with_reducible refine Ko.set ?_ (by first | omega | (simp; omega))) | (with_reducible refine Ko.on ?_ (by with_reducible assumption))))) hb5; have khb52 : Kv (g11) (v3) w5 := Kv.on (by (repeat' (first | (with_reducible assumption) | (exact Kv.new) | (exact Kv.new' (by simp)) | (with_reducible refine Kv.drew ?_) | (with_reducible refine Kv.alloc ?_ _) | (with_reducible refine Kv.set ?_ (by first | omega | (simp; omega))) | (with_reducible refine Kv.on ?_ (by with_reducible assumption)) | (with_reducible refine Ko.drew ?_) | (with_reducible refine Ko.alloc ?_ _) | (with_reducible refine Ko.set ?_ (by first | omega | (simp; omega))) | (with_reducible refine Ko.on ?_ (by with_reducible assumption))))) hb5; (try have zzhb50 : W0.heap.size < w5.heap.size := (by omega))) | (go_at_call 8; refine (twoR 8 (text (a ++ b)) (text c) _ H4.out _).mono ?_; rintro e w6 ⟨rfl, hb6⟩; obtain ⟨chb6, fhb6⟩ := bcell hb6; have zhb6 := hb6.size; (try simp only [World.size_alloc, World.size_setCell, World.heap_drewN, World.size_drew] at zhb6); have khb60 : Kv (g7) ((text (a ++ b))) w6 := Kv.on (by (repeat' (first | (with_reducible assumption) | (exact Kv.new) | (exact Kv.new' (by simp)) | (with_reducible refine Kv.drew ?_) | (with_reducible refine Kv.alloc ?_ _) | (with_reducible refine Kv.set ?_ (by first | omega | (simp; omega))) | (with_reducible refine Kv.on ?_ (by with_reducible assumption)) | (with_reducible refine Ko.drew ?_) | (with_reducible refine Ko.alloc ?_ _) | (with_reducible refine Ko.set ?_ (by first | omega | (simp; omega))) | (with_reducible refine Ko.on ?_ (by with_reducible assumption))))) hb6; have khb60a := khb60.c0; have khb60b := khb60.c1; have khb60c := khb60.c2; have khb60l := khb60.lt; have khb61 : Kv (g9) ((num ((a.size : Int) + b.size))) w6 := Kv.on (by (repeat' (first | (with_reducible assumption) | (exact Kv.new) | (exact Kv.new' (by simp)) | (with_reducible refine Kv.drew ?_) | (with_reducible refine Kv.alloc ?_ _) | (with_reducible refine Kv.set ?_ (by first | omega | (simp; omega))) | (with_reducible refine Kv.on ?_ (by with_reducible assumption)) | (with_reducible refine Ko.drew ?_) | (with_reducible refine Ko.alloc ?_ _) | (with_reducible refine Ko.set ?_ (by first | omega | (simp; omega))) | (with_reducible refine Ko.on ?_ (by with_reducible assumption))))) hb6; have khb62 : Kv (g11) (v3) w6 := Kv.on (by (repeat' (first | (with_reducible assumption) | (exact Kv.new) | (exact Kv.new' (by simp)) | (with_reducible refine Kv.drew ?_) | (with_reducible refine Kv.alloc ?_ _) | (with_reducible refine Kv.set ?_ (by first | omega | (simp; omega))) | (with_reducible refine Kv.on ?_ (by with_reducible assumption)) | (with_reducible refine Ko.drew ?_) | (with_reducible refine Ko.alloc ?_ _) | (with_reducible refine Ko.set ?_ (by first | omega | (simp; omega))) | (with_reducible refine Ko.on ?_ (by with_reducible assumption))))) hb6; (try have zzhb60 : W0.heap.size < w6.heap.size := (by omega)); (try have zzhb61 : w5.heap.size < w6.heap.size := (by omega))))
    all_goals
      go_wp2_with fail
      (try go_simp)
      go_meet
      refine ⟨_, rfl, rfl, ⟨by simp [go_sem, *], by simp [go_sem, *], by simp [go_sem, *]⟩, by (repeat' (first | (with_reducible assumption) | (exact Kv.new) | (exact Kv.new' (by simp)) | (with_reducible refine Kv.drew ?_) | (with_reducible refine Kv.alloc ?_ _) | (with_reducible refine Kv.set ?_ (by first | omega | (simp; omega))) | (with_reducible refine Kv.on ?_ (by with_reducible assumption)) | (with_reducible refine Ko.drew ?_) | (with_reducible refine Ko.alloc ?_ _) | (with_reducible refine Ko.set ?_ (by first | omega | (simp; omega))) | (with_reducible refine Ko.on ?_ (by with_reducible assumption)))), by (repeat' (first | (with_reducible assumption) | (exact Kv.new) | (exact Kv.new' (by simp)) | (with_reducible refine Kv.drew ?_) | (with_reducible refine Kv.alloc ?_ _) | (with_reducible refine Kv.set ?_ (by first | omega | (simp; omega))) | (with_reducible refine Kv.on ?_ (by with_reducible assumption)) | (with_reducible refine Ko.drew ?_) | (with_reducible refine Ko.alloc ?_ _) | (with_reducible refine Ko.set ?_ (by first | omega | (simp; omega))) | (with_reducible refine Ko.on ?_ (by with_reducible assumption)))), by (repeat' (first | (with_reducible assumption) | (exact Kv.new) | (exact Kv.new' (by simp)) | (with_reducible refine Kv.drew ?_) | (with_reducible refine Kv.alloc ?_ _) | (with_reducible refine Kv.set ?_ (by first | omega | (simp; omega))) | (with_reducible refine Kv.on ?_ (by with_reducible assumption)) | (with_reducible refine Ko.drew ?_) | (with_reducible refine Ko.alloc ?_ _) | (with_reducible refine Ko.set ?_ (by first | omega | (simp; omega))) | (with_reducible refine Ko.on ?_ (by with_reducible assumption)))), by (repeat' (first | (with_reducible exact Below.refl _ _) | (with_reducible assumption) | (with_reducible refine Below.alloc ?_ ?_ _) | (with_reducible refine Below.drew ?_) | (with_reducible refine below_drewN ?_ _) | (with_reducible refine Below.setCell ?_ ?_ _) | (with_reducible refine Below.trans ?_ (Below.mono (by with_reducible assumption) ?_)) | (simp only [World.size_alloc, World.size_setCell, World.heap_drewN, World.size_drew]; omega) | omega | (simp; omega) | (simp; done)))⟩
  case rest =>
  clear k7 k9 k11 k7a k7b k7c k7l k9l k11l hB zB
  obtain ⟨g13, rfl, rfl, k13, k7, k9, k11, hB⟩ := hcut
  have k7a := k7.c0
  have k7b := k7.c1
  have k7c := k7.c2
  have k7l := k7.lt
  have k9a := k9.c0
  have k9b := k9.c1
  have k9c := k9.c2
  have k9l := k9.lt
  have k11l := k11.lt
  have k13l := k13.lt
  have zB := hB.size
  go_upto_region 11 with fail
  go_cut [95] (fun t Wn => t = .bool false ∧ Kv g13 v4 Wn ∧ Kv g11 v3 Wn ∧ Below W.heap.size W Wn)
  case first =>
    go_wp2_with fail
    (try dsimp only [List.append])
    generalize hn9 : (a.size : Int) + b.size = n9 at *
    clear k7a k7b k7c k9a k9b k9c
    have qa0 : wc.cell? ⟨g9, 0, none⟩ = some (.int .u8 1) := k9.c0
    have qa1 : wc.cell? ⟨g9, 1, none⟩ = some (.int .i64 n9) := k9.c1
    have qa2 : wc.cell? ⟨g9, 2, none⟩ = some (.string ⟨#[]⟩) := k9.c2
    have qa3 : wc.cell? ⟨g7, 0, none⟩ = some (.int .u8 3) := k7.c0
    have qa4 : wc.cell? ⟨g7, 1, none⟩ = some (.int .i64 0) := k7.c1
    have qa5 : wc.cell? ⟨g7, 2, none⟩ = some (.string (a ++ b)) := k7.c2
    have hw : IntKind.i64.wrap n9 = n9 := (IntKind.wrap_i64 n9).trans (by unfold wrap64 at hs; exact hs)
    have hcat : a.size + b.size ≤ 9223372036854775807 := by omega
    have hcat2 : ¬ 9223372036854775807 < a.size + b.size := by omega
    clear qa0 qa1 qa2 qa3 qa4 qa5 k7l k9l k11l k13l
    go_region_held3 (fun W' => W'.cell? ⟨g9, 0, none⟩ = some (.int .u8 1) ∧ W'.cell? ⟨g9, 1, none⟩ = some (.int .i64 n9) ∧ W'.cell? ⟨g9, 2, none⟩ = some (.string ⟨#[]⟩) ∧ W'.cell? ⟨g7, 0, none⟩ = some (.int .u8 3) ∧ W'.cell? ⟨g7, 1, none⟩ = some (.int .i64 0) ∧ W'.cell? ⟨g7, 2, none⟩ = some (.string (a ++ b))) (first | exact ⟨k9.c0, k9.c1, k9.c2, k7.c0, k7.c1, k7.c2⟩ | exact ⟨(Kv.drew k9).c0, (Kv.drew k9).c1, (Kv.drew k9).c2, (Kv.drew k7).c0, (Kv.drew k7).c1, (Kv.drew k7).c2⟩)
      (first
        | (go_at_call 11; refine (lnumC _ _).mono ?_; rintro e w9 ⟨rfl, hb9⟩; replace k7 : Kv g7 (text (a ++ b)) w9 := (by first | exact Kv.on k7 hb9 | exact Kv.on (Kv.drew k7) hb9); replace k9 : Kv g9 (num n9) w9 := (by first | exact Kv.on k9 hb9 | exact Kv.on (Kv.drew k9) hb9); replace k11 : Kv g11 v3 w9 := (by first | exact Kv.on k11 hb9 | exact Kv.on (Kv.drew k11) hb9); replace k13 : Kv g13 v4 w9 := (by first | exact Kv.on k13 hb9 | exact Kv.on (Kv.drew k13) hb9); replace hB : Below W.heap.size W w9 := (by first | exact Below.trans hB (Below.mono hb9 zB) | exact Below.trans (Below.drew hB) (Below.mono hb9 (by simp only [World.size_drew]; exact zB))); replace zB := hB.size; clear hb9)
        | (go_at_call 17; refine (ltextC _ _).mono ?_; rintro e w9 ⟨rfl, hb9⟩; replace k7 : Kv g7 (text (a ++ b)) w9 := (by first | exact Kv.on k7 hb9 | exact Kv.on (Kv.drew k7) hb9); replace k9 : Kv g9 (num n9) w9 := (by first | exact Kv.on k9 hb9 | exact Kv.on (Kv.drew k9) hb9); replace k11 : Kv g11 v3 w9 := (by first | exact Kv.on k11 hb9 | exact Kv.on (Kv.drew k11) hb9); replace k13 : Kv g13 v4 w9 := (by first | exact Kv.on k13 hb9 | exact Kv.on (Kv.drew k13) hb9); replace hB : Below W.heap.size W w9 := (by first | exact Below.trans hB (Below.mono hb9 zB) | exact Below.trans (Below.drew hB) (Below.mono hb9 (by simp only [World.size_drew]; exact zB))); replace zB := hB.size; clear hb9))
    all_goals
      go_wp2_with fail
      (try go_simp)
      go_meet
      refine ⟨by simp [text, num, *], by (repeat' (first | (with_reducible assumption) | (exact Kv.new) | (exact Kv.new' (by simp)) | (with_reducible refine Kv.drew ?_) | (with_reducible refine Kv.alloc ?_ _) | (with_reducible refine Kv.set ?_ (by first | omega | (simp; omega))) | (with_reducible refine Kv.on ?_ (by with_reducible assumption)) | (with_reducible refine Ko.drew ?_) | (with_reducible refine Ko.alloc ?_ _) | (with_reducible refine Ko.set ?_ (by first | omega | (simp; omega))) | (with_reducible refine Ko.on ?_ (by with_reducible assumption)))), by (repeat' (first | (with_reducible assumption) | (exact Kv.new) | (exact Kv.new' (by simp)) | (with_reducible refine Kv.drew ?_) | (with_reducible refine Kv.alloc ?_ _) | (with_reducible refine Kv.set ?_ (by first | omega | (simp; omega))) | (with_reducible refine Kv.on ?_ (by with_reducible assumption)) | (with_reducible refine Ko.drew ?_) | (with_reducible refine Ko.alloc ?_ _) | (with_reducible refine Ko.set ?_ (by first | omega | (simp; omega))) | (with_reducible refine Ko.on ?_ (by with_reducible assumption)))), by (repeat' (first | (with_reducible exact Below.refl _ _) | (with_reducible assumption) | (with_reducible refine Below.alloc ?_ ?_ _) | (with_reducible refine Below.drew ?_) | (with_reducible refine below_drewN ?_ _) | (with_reducible refine Below.setCell ?_ ?_ _) | (with_reducible refine Below.trans ?_ (Below.mono (by with_reducible assumption) ?_)) | (simp only [World.size_alloc, World.size_setCell, World.heap_drewN, World.size_drew]; omega) | omega | (simp; omega) | (simp; done)))⟩
  case rest =>
  clear k7 k9 k11 k7a k7b k7c k7l k9a k9b k9c k9l k11l k13l hB zB k13
  obtain ⟨rfl, k13, k11, hB⟩ := hcut
  have k11a := k11.c0
  have k11b := k11.c1
  have k11c := k11.c2
  have k11l := k11.lt
  have k13a := k13.c0
  have k13b := k13.c1
  have k13c := k13.c2
  have k13l := k13.lt
  have zB := hB.size
  have hc := HC.out
  clear HC H H3 H4 HL
  rcases hc with ⟨c1, rfl⟩ | ⟨rfl, rfl⟩ | ⟨rfl, rfl, h5⟩
  · have c2 : (e3 != 0) = true := by simp [c1]
    clear c1
    go_wp2
    go_returns
    exact ⟨rfl, by (repeat' (first | (with_reducible exact Below.refl _ _) | (with_reducible assumption) | (with_reducible refine Below.alloc ?_ ?_ _) | (with_reducible refine Below.drew ?_) | (with_reducible refine below_drewN ?_ _) | (with_reducible refine Below.setCell ?_ ?_ _) | (with_reducible refine Below.trans ?_ (Below.mono (by with_reducible assumption) ?_)) | (simp only [World.size_alloc, World.size_setCell, World.heap_drewN, World.size_drew]; omega) | omega | (simp; omega) | (simp; done)))⟩
  · go_wp2
    go_returns
    exact ⟨rfl, by (repeat' (first | (with_reducible exact Below.refl _ _) | (with_reducible assumption) | (with_reducible refine Below.alloc ?_ ?_ _) | (with_reducible refine Below.drew ?_) | (with_reducible refine below_drewN ?_ _) | (with_reducible refine Below.setCell ?_ ?_ _) | (with_reducible refine Below.trans ?_ (Below.mono (by with_reducible assumption) ?_)) | (simp only [World.size_alloc, World.size_setCell, World.heap_drewN, World.size_drew]; omega) | omega | (simp; omega) | (simp; done)))⟩
  · have H5 := Lib.hid h5
    clear h5
    go_upto_region 15 with fail
    go_cut [15, 16] (fun p e Wn => ∃ g : Nat, p = .pointer (some ⟨g, 0, none⟩) ∧ e = .int .i64 0 ∧ Kv g v4 Wn ∧ Kv g13 v4 Wn ∧ Below W.heap.size W Wn)
    case first =>
      obtain ⟨W0, hW0⟩ : ∃ X : World, X = wc := ⟨_, rfl⟩
      subst hW0
      go_wp2_with fail
      go_region_with (first | (go_at_call 17; refine (ltextC _ _).mono ?_; rintro e w5 ⟨rfl, hb5⟩; obtain ⟨chb5, fhb5⟩ := bcell hb5; have zhb5 := hb5.size; (try simp only [World.size_alloc, World.size_setCell, World.heap_drewN, World.size_drew] at zhb5); have khb50 : Kv (g11) (v3) w5 := Kv.on (by (repeat' (first | (with_reducible assumption) | (exact Kv.new) | (exact Kv.new' (by simp)) | (with_reducible refine Kv.drew ?_) | (with_reducible refine Kv.alloc ?_ _) | (with_reducible refine Kv.set ?_ (by first | omega | (simp; omega))) | (with_reducible refine Kv.on ?_ (by with_reducible assumption)) | (with_reducible refine Ko.drew ?_) | (with_reducible refine Ko.alloc ?_ _) | (with_reducible refine Ko.set ?_ (by first | omega | (simp; omega))) | (with_reducible refine Ko.on ?_ (by with_reducible assumption))))) hb5; have khb50a := khb50.c0; have khb50b := khb50.c1; have khb50c := khb50.c2; have khb50l := khb50.lt; have khb51 : Kv (g13) (v4) w5 := Kv.on (by (repeat' (first | (with_reducible assumption) | (exact Kv.new) | (exact Kv.new' (by simp)) | (with_reducible refine Kv.drew ?_) | (with_reducible refine Kv.alloc ?_ _) | (with_reducible refine Kv.set ?_ (by first | omega | (simp; omega))) | (with_reducible refine Kv.on ?_ (by with_reducible assumption)) | (with_reducible refine Ko.drew ?_) | (with_reducible refine Ko.alloc ?_ _) | (with_reducible refine Ko.set ?_ (by first | omega | (simp; omega))) | (with_reducible refine Ko.on ?_ (by with_reducible assumption))))) hb5; (try have zzhb50 : W0.heap.size < w5.heap.size := (by omega))) | (go_at_call 8; refine (twoR 8 (text a) v3 _ H5.out _).mono ?_; rintro e w6 ⟨rfl, hb6⟩; obtain ⟨chb6, fhb6⟩ := bcell hb6; have zhb6 := hb6.size; (try simp only [World.size_alloc, World.size_setCell, World.heap_drewN, World.size_drew] at zhb6); have khb60 : Kv (g11) (v3) w6 := Kv.on (by (repeat' (first | (with_reducible assumption) | (exact Kv.new) | (exact Kv.new' (by simp)) | (with_reducible refine Kv.drew ?_) | (with_reducible refine Kv.alloc ?_ _) | (with_reducible refine Kv.set ?_ (by first | omega | (simp; omega))) | (with_reducible refine Kv.on ?_ (by with_reducible assumption)) | (with_reducible refine Ko.drew ?_) | (with_reducible refine Ko.alloc ?_ _) | (with_reducible refine Ko.set ?_ (by first | omega | (simp; omega))) | (with_reducible refine Ko.on ?_ (by with_reducible assumption))))) hb6; have khb60a := khb60.c0; have khb60b := khb60.c1; have khb60c := khb60.c2; have khb60l := khb60.lt; have khb61 : Kv (g13) (v4) w6 := Kv.on (by (repeat' (first | (with_reducible assumption) | (exact Kv.new) | (exact Kv.new' (by simp)) | (with_reducible refine Kv.drew ?_) | (with_reducible refine Kv.alloc ?_ _) | (with_reducible refine Kv.set ?_ (by first | omega | (simp; omega))) | (with_reducible refine Kv.on ?_ (by with_reducible assumption)) | (with_reducible refine Ko.drew ?_) | (with_reducible refine Ko.alloc ?_ _) | (with_reducible refine Ko.set ?_ (by first | omega | (simp; omega))) | (with_reducible refine Ko.on ?_ (by with_reducible assumption))))) hb6; (try have zzhb60 : W0.heap.size < w6.heap.size := (by omega)); (try have zzhb61 : w5.heap.size < w6.heap.size := (by omega))))
      all_goals
        go_wp2_with fail
        (try go_simp)
        go_meet
        refine ⟨_, rfl, rfl, ⟨by simp [go_sem, *], by simp [go_sem, *], by simp [go_sem, *]⟩, by (repeat' (first | (with_reducible assumption) | (exact Kv.new) | (exact Kv.new' (by simp)) | (with_reducible refine Kv.drew ?_) | (with_reducible refine Kv.alloc ?_ _) | (with_reducible refine Kv.set ?_ (by first | omega | (simp; omega))) | (with_reducible refine Kv.on ?_ (by with_reducible assumption)) | (with_reducible refine Ko.drew ?_) | (with_reducible refine Ko.alloc ?_ _) | (with_reducible refine Ko.set ?_ (by first | omega | (simp; omega))) | (with_reducible refine Ko.on ?_ (by with_reducible assumption)))), by (repeat' (first | (with_reducible exact Below.refl _ _) | (with_reducible assumption) | (with_reducible refine Below.alloc ?_ ?_ _) | (with_reducible refine Below.drew ?_) | (with_reducible refine below_drewN ?_ _) | (with_reducible refine Below.setCell ?_ ?_ _) | (with_reducible refine Below.trans ?_ (Below.mono (by with_reducible assumption) ?_)) | (simp only [World.size_alloc, World.size_setCell, World.heap_drewN, World.size_drew]; omega) | omega | (simp; omega) | (simp; done)))⟩
    case rest =>
    clear k11 k11a k11b k11c k11l k13 k13a k13b k13c k13l hB zB
    obtain ⟨g15, rfl, rfl, k15, k13, hB⟩ := hcut
    have k13a := k13.c0
    have k13b := k13.c1
    have k13c := k13.c2
    have k15a := k15.c0
    have k15b := k15.c1
    have k15c := k15.c2
    go_wp2
    go_returns
    exact ⟨by simp, by (repeat' (first | (with_reducible exact Below.refl _ _) | (with_reducible assumption) | (with_reducible refine Below.alloc ?_ ?_ _) | (with_reducible refine Below.drew ?_) | (with_reducible refine below_drewN ?_ _) | (with_reducible refine Below.setCell ?_ ?_ _) | (with_reducible refine Below.trans ?_ (Below.mono (by with_reducible assumption) ?_)) | (simp only [World.size_alloc, World.size_setCell, World.heap_drewN, World.size_drew]; omega) | omega | (simp; omega) | (simp; done)))⟩
theorem walk (a b c : ByteArray) (W : World) (w0 : a.size ≤ 140737488351232) (w1 : b.size ≤ 140737488351232) (w2 : c.size ≤ 140737488351232) : Calls Try.prog 7 #[.string a, .string b, .string c] W fun e W' => e = .returned (.bool true) ∧ Below W.heap.size W W' := by
  by_cases h : (2000 : Int) < a.size ∨ (2000 : Int) < b.size ∨ (2000 : Int) < c.size
  · exact long a b c W h
  by_cases h2 : 40 < (a.size : Int) + b.size
  · exact refused a b c W (by omega) (by omega) (by omega) h2
  have hab : (a ++ b).size = a.size + b.size := ByteArray.size_append
  have hbc : (b ++ c).size = b.size + c.size := ByteArray.size_append
  by_cases h3 : 40 < (b.size : Int) + c.size
  · exact taken a b c W V.zero V.zero 20 20 (by omega) (by omega) (by omega) h2 (add_no h3) (add_no (by omega)) (.inl ⟨by decide, rfl⟩)
  by_cases h4 : 40 < ((a ++ b).size : Int) + c.size
  · exact taken a b c W (text (b ++ c)) V.zero 0 20 (by omega) (by omega) (by omega) h2 (add_ok h3) (add_no h4) (.inr (.inl ⟨rfl, rfl⟩))
  · exact taken a b c W (text (b ++ c)) (text (a ++ b ++ c)) 0 0 (by omega) (by omega) (by omega) h2 (add_ok h3) (add_ok h4) (.inr (.inr ⟨rfl, rfl, by rw [add_ok (by omega), ByteArray.append_assoc]⟩))
end Go.Proofs.Ytgkdmccceegifaa.LawValueTexts
