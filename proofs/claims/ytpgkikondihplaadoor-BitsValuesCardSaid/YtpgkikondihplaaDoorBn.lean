import Derived.Test.YtpgkikondihplaaDoorBm
/- Next, All, and the reference's lists: plain laws. No program here. -/
namespace Go.Proofs.YtpgkikondihplaaDoor.Bn
open Go.Proofs.YtpgkikondihplaaDoor.Bm
set_option linter.unusedVariables false
/-- The least of a list that is n or above. -/
def nx (l : List Nat) (n : Nat) : Option Nat := l.find? (fun x => decide (n ≤ x))
theorem nx_some {l : List Nat} (hl : rising l) {n m : Nat} (hm : m ∈ l) (h : n ≤ m) (hmin : ∀ k ∈ l, n ≤ k → m ≤ k) : nx l n = some m := by
  unfold nx
  rw [List.find?_eq_some_iff_append]
  refine ⟨by simpa using h, ?_⟩
  obtain ⟨a, b, rfl⟩ := List.append_of_mem hm
  refine ⟨a, b, rfl, fun x hx => ?_⟩
  unfold rising at hl
  rw [List.pairwise_append] at hl
  have h1 := hl.2.2 x hx m (by simp)
  have h2 := hmin x (by simp [hx])
  simp
  omega
theorem nx_none {l : List Nat} {n : Nat} (h : ∀ k ∈ l, ¬ n ≤ k) : nx l n = none := by
  unfold nx
  rw [List.find?_eq_none]
  intro x hx
  simpa using h x hx
theorem nx_spec {l : List Nat} (hl : rising l) {n m : Nat} (h : nx l n = some m) : m ∈ l ∧ n ≤ m ∧ ∀ k ∈ l, n ≤ k → m ≤ k := by
  unfold nx at h
  rw [List.find?_eq_some_iff_append] at h
  obtain ⟨h1, a, b, rfl, h2⟩ := h
  refine ⟨by simp, by simpa using h1, fun k hk hnk => ?_⟩
  unfold rising at hl
  rw [List.pairwise_append] at hl
  rcases List.mem_append.1 hk with hk | hk
  · have := h2 k hk; simp at this; omega
  · rcases List.mem_cons.1 hk with rfl | hk
    · exact Nat.le_refl _
    · have := (List.pairwise_cons.1 hl.2.1).1 k hk; omega
theorem nx_head (l : List Nat) : nx l 0 = l[0]? := by
  unfold nx
  cases l with
  | nil => rfl
  | cons a l => simp
theorem nx_succ {l : List Nat} (hl : rising l) {k : Nat} (hk : k < l.length) : nx l (l[k] + 1) = l[k + 1]? := by
  by_cases h : k + 1 < l.length
  · rw [List.getElem?_eq_getElem h]
    have hr := List.pairwise_iff_getElem.1 hl
    refine nx_some hl (List.getElem_mem h) (hr k (k + 1) hk h (by omega)) fun x hx hxk => ?_
    obtain ⟨j, hj, rfl⟩ := List.getElem_of_mem hx
    by_cases hj1 : j ≤ k
    · by_cases e : j = k
      · subst e; omega
      · have := hr j k hj hk (by omega); omega
    · by_cases e : j = k + 1
      · subst e; exact Nat.le_refl _
      · exact Nat.le_of_lt (hr (k + 1) j h hj (by omega))
  · rw [List.getElem?_eq_none (by omega)]
    refine nx_none fun x hx hxk => ?_
    have hr := List.pairwise_iff_getElem.1 hl
    obtain ⟨j, hj, rfl⟩ := List.getElem_of_mem hx
    by_cases e : j = k
    · subst e; omega
    · have := hr j k hj hk (by omega); omega
/-- The first word that is not 0 gives the next number. -/
theorem next_word {s : Nat → Nat} {n i k m : Nat} (hs : Word s) (hi : i < 16) (hk : k < 64) (h0 : ∀ j, j < i → lessS s (belowS n) j = 0) (hx : lessS s (belowS n) i = 2 ^ k * (2 * m + 1)) : nx (lst s) n = some (64 * i + k) := by
  have hd : 64 * i + k < 1024 := by omega
  have hh : ∀ y, has (lessS s (belowS n)) y = (has s y && !(has (belowS n) y)) := fun y => has_less (below_word n) y
  have hin : has (lessS s (belowS n)) (64 * i + k) = true := by
    unfold has
    rw [show (64 * i + k) / 64 = i by omega, show (64 * i + k) % 64 = k by omega, hx, Nat.mul_comm (2 ^ k), Nat.testBit_mul_two_pow]
    simp [hd]
  have hb : ∀ y, y < 1024 → has (belowS n) y = decide (y < n) := fun y hy => by rw [has_below]; simp [hy]
  have h1 := hin
  rw [hh, hb _ hd] at h1
  simp at h1
  refine nx_some (lst_rising s) (mem_lst.2 h1.1) (by omega) fun y hy hny => ?_
  have hy' := mem_lst.1 hy
  have hyd : y < 1024 := by unfold has at hy'; simp at hy'; exact hy'.1
  have h2 : has (lessS s (belowS n)) y = true := by
    rw [hh, hb _ hyd, hy']; simp; omega
  apply Nat.le_of_not_lt
  intro hlt
  unfold has at h2
  by_cases hyi : y / 64 < i
  · rw [h0 _ hyi] at h2; simp at h2
  · have e : y / 64 = i := by omega
    rw [e, hx, Nat.mul_comm (2 ^ k), Nat.testBit_mul_two_pow] at h2
    have : ¬ k ≤ y % 64 := by omega
    simp [this] at h2
theorem next_none {s : Nat → Nat} {n : Nat} (hs : Word s) (h0 : ∀ j, j < 16 → lessS s (belowS n) j = 0) : nx (lst s) n = none := by
  refine nx_none fun y hy hny => ?_
  have hy' := mem_lst.1 hy
  have hyd : y < 1024 := by unfold has at hy'; simp at hy'; exact hy'.1
  have h2 : has (lessS s (belowS n)) y = true := by
    rw [has_less (below_word n), has_below, hy']; simp [hyd]; omega
  unfold has at h2
  rw [h0 _ (by omega)] at h2
  simp at h2
theorem next_far {s : Nat → Nat} {n : Nat} (h : 1024 ≤ n) : nx (lst s) n = none := by
  refine nx_none fun y hy hny => ?_
  have hy' := mem_lst.1 hy
  unfold has at hy'; simp at hy'; omega
theorem lst_below (m : Nat) (h : m ≤ 1024) : lst (belowS m) = List.range m := by
  refine rising_ext (lst_rising _) List.pairwise_lt_range fun n => ?_
  rw [mem_lst, has_below, List.mem_range]
  simp; omega
/-- The reference's With, behind its tests: n goes ahead of the first that is greater. -/
def ins (n : Nat) : List Nat → List Nat
  | [] => [n]
  | x :: l => if n < x then n :: x :: l else x :: ins n l
theorem mem_ins {n x : Nat} : ∀ {l : List Nat}, x ∈ ins n l ↔ x = n ∨ x ∈ l
  | [] => by simp [ins]
  | y :: l => by
    unfold ins
    split
    · simp
    · rw [List.mem_cons, mem_ins, List.mem_cons]
      constructor
      · rintro (h | h | h) <;> simp [h]
      · rintro (h | h | h) <;> simp [h]
theorem ins_rising {n : Nat} : ∀ {l : List Nat}, rising l → n ∉ l → rising (ins n l)
  | [], _, _ => by simp [ins, rising]
  | y :: l, h, hn => by
    unfold rising at h ⊢
    rw [List.pairwise_cons] at h
    unfold ins
    split
    · rename_i hy
      rw [List.pairwise_cons]
      refine ⟨fun z hz => ?_, List.pairwise_cons.2 h⟩
      rcases List.mem_cons.1 hz with rfl | hz
      · exact hy
      · have := h.1 z hz; omega
    · rename_i hy
      rw [List.pairwise_cons]
      refine ⟨fun z hz => ?_, ins_rising h.2 (fun hc => hn (List.mem_cons_of_mem _ hc))⟩
      rcases mem_ins.1 hz with rfl | hz
      · have : z ≠ y := fun e => hn (by simp [e]); omega
      · exact h.1 z hz
/-- The reference's With at numbers within the bounds. -/
def refWith (l : List Nat) (n : Nat) : List Nat := if n ∈ l then l else ins n l
theorem lst_with {s : Nat → Nat} {n : Nat} (hn : n < 1024) : refWith (lst s) n = lst (withS s n) := by
  unfold refWith
  have hw : ∀ x, x ∈ lst (withS s n) ↔ x ∈ lst s ∨ x = n := fun x => by
    rw [mem_lst, has_with s hn, mem_lst]; simp
  split
  · rename_i h
    refine rising_ext (lst_rising _) (lst_rising _) fun x => ?_
    rw [hw]
    constructor
    · exact fun hx => Or.inl hx
    · rintro (hx | rfl)
      · exact hx
      · exact h
  · rename_i h
    refine rising_ext (ins_rising (lst_rising _) h) (lst_rising _) fun x => ?_
    rw [hw, mem_ins]
    exact Or.comm
theorem lst_without {s : Nat → Nat} {n : Nat} (hn : n < 1024) : (lst s).filter (fun x => !(x == n)) = lst (withoutS s n) := by
  unfold lst
  rw [List.filter_filter]
  apply List.filter_congr
  intro x _
  rw [has_without s hn, Bool.and_comm]
theorem lst_filter_far {s : Nat → Nat} {p : Nat → Bool} (h : ∀ x, x < 1024 → p x = true) : (lst s).filter p = lst s := by
  rw [List.filter_eq_self]
  intro x hx
  apply h
  have hy' := mem_lst.1 hx
  unfold has at hy'; simp at hy'; exact hy'.1
theorem lst_and {s t : Nat → Nat} : (lst s).filter (fun x => decide (x ∈ lst t)) = lst (andS s t) := by
  refine rising_ext (List.Pairwise.filter _ (lst_rising _)) (lst_rising _) fun x => ?_
  simp [List.mem_filter, mem_lst, has_and]
theorem lst_less {s t : Nat → Nat} (ht : Word t) : (lst s).filter (fun x => !decide (x ∈ lst t)) = lst (lessS s t) := by
  refine rising_ext (List.Pairwise.filter _ (lst_rising _)) (lst_rising _) fun x => ?_
  simp [List.mem_filter, mem_lst, has_less ht]
/-- The reference's Or: one With behind the other. -/
theorem fold_with (m : List Nat) : ∀ (s : Nat → Nat), (∀ x ∈ m, x < 1024) → m.foldl refWith (lst s) = lst (m.foldl withS s) := by
  induction m with
  | nil => intro s _; simp only [List.foldl_nil]
  | cons x m ih =>
    intro s h
    rw [List.foldl_cons, List.foldl_cons, lst_with (h x (by simp))]
    exact ih _ (fun y hy => h y (by simp [hy]))
theorem has_fold : ∀ (m : List Nat) (s : Nat → Nat), (∀ x ∈ m, x < 1024) → ∀ n, has (m.foldl withS s) n = (has s n || decide (n ∈ m))
  | [], _, _, _ => by simp
  | x :: m, s, h, n => by
    rw [List.foldl_cons, has_fold m _ (fun y hy => h y (by simp [hy])), has_with s (h x (by simp))]
    by_cases e : n = x
    · subst e; simp
    · have : (n == x) = false := by simpa using e
      simp [this, e]
theorem lst_or {s t : Nat → Nat} : (lst t).foldl refWith (lst s) = lst (orS s t) := by
  have hb : ∀ x ∈ lst t, x < 1024 := fun x hx => by
    have hy' := mem_lst.1 hx
    unfold has at hy'; simp at hy'; exact hy'.1
  rw [fold_with _ _ hb]
  refine rising_ext (lst_rising _) (lst_rising _) fun x => ?_
  rw [mem_lst, mem_lst, has_fold _ _ hb, has_or]
  simp [mem_lst]
end Go.Proofs.YtpgkikondihplaaDoor.Bn
