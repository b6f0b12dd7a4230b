/- value.Two at some operators: its call's contract. Condition: the operators, as written. -/
import Derived.Test.YtgkdmccceegifaaVt
namespace Go.Proofs.Ytgkdmccceegifaa.Vt
open Go.RowKit Go.Proofs.Ytgkdmccceegifaa.Vm Go.Proofs.Ytgkdmccceegifaa.Va Go.Proofs.Ytgkdmccceegifaa.Vb Go.Proofs.Ytgkdmccceegifaa.Vc
set_option linter.unusedVariables false
set_option linter.unusedSimpArgs false
set_option maxHeartbeats 8000000 in
set_option maxRecDepth 100000 in
theorem two_unfit (op : Int) (a b : V) (w : World) (h0 : 5 ≤ op) (h1 : op ≤ 15) (hf : fits op a b = false) : Calls Try.prog 8 #[.int .u8 op, .agg #[.int .u8 a.k, .int .i64 a.n, .string a.t], .agg #[.int .u8 b.k, .int .i64 b.n, .string b.t]] w (TwoPost op a b w) := by
  have ht : two op a b = (V.zero, 23) := by unfold two; rw [if_neg (by omega), if_pos hf]
  have HT := Lib.hid ht
  have HF := Lib.hid hf
  clear ht hf
  go_enter Try.func8, Try.ntmps8
  go_upto_region 1 with fail
  go_cut [4, 5, 6, 8] (fun s4 s5 s6 t W' => Bx w a b s4 s5 s6 W' ∧ t = .bool (ints a b))
  case first =>
    cases e1 : (a.k == 1) <;> cases e2 : (b.k == 1)
    all_goals
      go_wp2_with fail
      (try go_simp)
      go_meet
      exact ⟨⟨_, _, _, rfl, rfl, rfl, ⟨by simp [go_sem], by simp [go_sem], by simp [go_sem], by simp [go_sem], by simp [go_sem], by simp [go_sem], by simp [go_sem], by simp [go_sem], by simp [go_sem], fun j => by simp [go_sem], by omega, by (repeat' (first | (with_reducible exact Below.refl _ _) | (with_reducible assumption) | (with_reducible refine Below.alloc ?_ ?_ _) | (with_reducible refine Below.drew ?_) | (with_reducible refine below_drewN ?_ _) | (with_reducible refine Below.setCell ?_ ?_ _) | (with_reducible refine Below.trans ?_ (Below.mono (by with_reducible assumption) ?_)) | (simp only [World.size_alloc, World.size_setCell, World.heap_drewN, World.size_drew]; omega) | omega | (simp; omega) | (simp; done)))⟩⟩, by simp [ints, e1, e2]⟩
  case rest =>
  obtain ⟨⟨g4, g5, g6, rfl, rfl, rfl, hd⟩, rfl⟩ := hcut
  have HD := hd
  obtain ⟨x0, x1, x2, y0, y1, y2, q0, q1, q2, qf, _, _⟩ := hd
  obtain ⟨wo, rfl⟩ : ∃ wo : World, wo = wc := ⟨_, rfl⟩
  go_upto_region 2 with fail
  go_cut [9] (fun t W' => wo = W' ∧ t = .bool (texts a b))
  case first =>
    cases e1 : (a.k == 3) <;> cases e2 : (b.k == 3)
    all_goals
      go_wp2_with fail
      (try go_simp)
      go_meet
      exact ⟨rfl, by simp [texts, e1, e2]⟩
  case rest =>
  obtain ⟨rfl, rfl⟩ := hcut
  go_upto_region 3 with fail
  go_cut [10] (fun t W' => wo = W' ∧ t = .bool (truths a b))
  case first =>
    cases e1 : (a.k == 2) <;> cases e2 : (b.k == 2)
    all_goals
      go_wp2_with fail
      (try go_simp)
      go_meet
      exact ⟨rfl, by simp [truths, e1, e2]⟩
  case rest =>
  obtain ⟨rfl, rfl⟩ := hcut
  have hf := HF.out
  clear HF
  by_cases ho : op = 5
  · subst ho
    simp [fits] at hf
    have f1 := hf
    try clear hf
    go_wp2_with fail
    refine bodyPost_ret (v := .tuple #[.agg #[.int .u8 0, .int .i64 0, .string ⟨#[]⟩], .int .i64 23]) (by simp [results, Try.results8, go_sem, *]) rfl ?_
    exact TwoPost.mk (r := (V.zero, 23)) HT.out rfl (Hd.fin (by assumption) _ _ _)
  by_cases ho : op = 6
  · subst ho
    simp [fits] at hf
    have f1 := hf
    try clear hf
    go_wp2_with fail
    refine bodyPost_ret (v := .tuple #[.agg #[.int .u8 0, .int .i64 0, .string ⟨#[]⟩], .int .i64 23]) (by simp [results, Try.results8, go_sem, *]) rfl ?_
    exact TwoPost.mk (r := (V.zero, 23)) HT.out rfl (Hd.fin (by assumption) _ _ _)
  by_cases ho : op = 7
  · subst ho
    simp [fits] at hf
    have f1 := hf
    try clear hf
    go_wp2_with fail
    refine bodyPost_ret (v := .tuple #[.agg #[.int .u8 0, .int .i64 0, .string ⟨#[]⟩], .int .i64 23]) (by simp [results, Try.results8, go_sem, *]) rfl ?_
    exact TwoPost.mk (r := (V.zero, 23)) HT.out rfl (Hd.fin (by assumption) _ _ _)
  by_cases ho : op = 8
  · subst ho
    simp [fits] at hf
    obtain ⟨f1, f2⟩ := hf
    try clear hf
    go_wp2_with fail
    refine bodyPost_ret (v := .tuple #[.agg #[.int .u8 0, .int .i64 0, .string ⟨#[]⟩], .int .i64 23]) (by simp [results, Try.results8, go_sem, *]) rfl ?_
    exact TwoPost.mk (r := (V.zero, 23)) HT.out rfl (Hd.fin (by assumption) _ _ _)
  by_cases ho : op = 9
  · subst ho
    simp [fits] at hf
    obtain ⟨f1, f2⟩ := hf
    try clear hf
    go_wp2_with fail
    refine bodyPost_ret (v := .tuple #[.agg #[.int .u8 0, .int .i64 0, .string ⟨#[]⟩], .int .i64 23]) (by simp [results, Try.results8, go_sem, *]) rfl ?_
    exact TwoPost.mk (r := (V.zero, 23)) HT.out rfl (Hd.fin (by assumption) _ _ _)
  by_cases ho : op = 10
  · subst ho
    simp [fits] at hf
    obtain ⟨f1, f2⟩ := hf
    try clear hf
    go_wp2_with fail
    refine bodyPost_ret (v := .tuple #[.agg #[.int .u8 0, .int .i64 0, .string ⟨#[]⟩], .int .i64 23]) (by simp [results, Try.results8, go_sem, *]) rfl ?_
    exact TwoPost.mk (r := (V.zero, 23)) HT.out rfl (Hd.fin (by assumption) _ _ _)
  by_cases ho : op = 11
  · subst ho
    simp [fits] at hf
    obtain ⟨⟨f1, f2⟩, f3⟩ := hf
    try clear hf
    go_wp2_with fail
    refine bodyPost_ret (v := .tuple #[.agg #[.int .u8 0, .int .i64 0, .string ⟨#[]⟩], .int .i64 23]) (by simp [results, Try.results8, go_sem, *]) rfl ?_
    exact TwoPost.mk (r := (V.zero, 23)) HT.out rfl (Hd.fin (by assumption) _ _ _)
  by_cases ho : op = 12
  · subst ho
    simp [fits] at hf
    obtain ⟨⟨f1, f2⟩, f3⟩ := hf
    try clear hf
    go_wp2_with fail
    refine bodyPost_ret (v := .tuple #[.agg #[.int .u8 0, .int .i64 0, .string ⟨#[]⟩], .int .i64 23]) (by simp [results, Try.results8, go_sem, *]) rfl ?_
    exact TwoPost.mk (r := (V.zero, 23)) HT.out rfl (Hd.fin (by assumption) _ _ _)
  by_cases ho : op = 13
  · subst ho
    simp [fits] at hf
    have f1 := hf
    try clear hf
    go_wp2_with fail
    refine bodyPost_ret (v := .tuple #[.agg #[.int .u8 0, .int .i64 0, .string ⟨#[]⟩], .int .i64 23]) (by simp [results, Try.results8, go_sem, *]) rfl ?_
    exact TwoPost.mk (r := (V.zero, 23)) HT.out rfl (Hd.fin (by assumption) _ _ _)
  by_cases ho : op = 14
  · subst ho
    simp [fits] at hf
    have f1 := hf
    try clear hf
    go_wp2_with fail
    refine bodyPost_ret (v := .tuple #[.agg #[.int .u8 0, .int .i64 0, .string ⟨#[]⟩], .int .i64 23]) (by simp [results, Try.results8, go_sem, *]) rfl ?_
    exact TwoPost.mk (r := (V.zero, 23)) HT.out rfl (Hd.fin (by assumption) _ _ _)
  by_cases ho : op = 15
  · subst ho
    simp [fits] at hf
    have f1 := hf
    try clear hf
    go_wp2_with fail
    refine bodyPost_ret (v := .tuple #[.agg #[.int .u8 0, .int .i64 0, .string ⟨#[]⟩], .int .i64 23]) (by simp [results, Try.results8, go_sem, *]) rfl ?_
    exact TwoPost.mk (r := (V.zero, 23)) HT.out rfl (Hd.fin (by assumption) _ _ _)
  omega
end Go.Proofs.Ytgkdmccceegifaa.Vt
