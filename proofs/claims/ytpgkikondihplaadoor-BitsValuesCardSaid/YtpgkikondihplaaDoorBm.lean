/- Sets of numbers below 1024 as sixteen words: plain laws. No program here. -/
namespace Go.Proofs.YtpgkikondihplaaDoor.Bm
theorem or_lt {a b : Nat} (ha : a < 18446744073709551616) (hb : b < 18446744073709551616) : a ||| b < 18446744073709551616 := Nat.or_lt_two_pow (n := 64) ha hb
theorem and_lt {a b : Nat} (ha : a < 18446744073709551616) : a &&& b < 18446744073709551616 := Nat.lt_of_le_of_lt Nat.and_le_left ha
theorem pow64 (n : Nat) : 2 ^ (n % 64) < 18446744073709551616 := Nat.lt_of_lt_of_le (Nat.pow_lt_pow_right (by decide) (Nat.mod_lt n (by decide) : n % 64 < 64)) (by decide)
theorem not_bit {b : Nat} (hb : b < 18446744073709551616) (j : Nat) : (18446744073709551615 - b).testBit j = (decide (j < 64) && !b.testBit j) := by
  have := Nat.testBit_two_pow_sub_succ (n := 64) (x := b) hb j
  rw [show (2 : Nat) ^ 64 - (b + 1) = 18446744073709551615 - b by omega] at this
  exact this
theorem high {a : Nat} (ha : a < 18446744073709551616) {j : Nat} (hj : 64 ≤ j) : a.testBit j = false :=
  Nat.testBit_lt_two_pow (Nat.lt_of_lt_of_le ha (by have := Nat.pow_le_pow_right (n := 2) (by decide) hj; exact this))
theorem word_ext {a b : Nat} (ha : a < 18446744073709551616) (hb : b < 18446744073709551616) (h : ∀ j, j < 64 → a.testBit j = b.testBit j) : a = b := by
  apply Nat.eq_of_testBit_eq
  intro j
  by_cases hj : j < 64
  · exact h j hj
  · rw [high ha (by omega), high hb (by omega)]
def Word (s : Nat → Nat) : Prop := ∀ i, s i < 18446744073709551616
def has (s : Nat → Nat) (n : Nat) : Bool := decide (n < 1024) && (s (n / 64)).testBit (n % 64)
def zeroS : Nat → Nat := fun _ => 0
def withS (s : Nat → Nat) (n : Nat) : Nat → Nat := fun i => if i = n / 64 then s i ||| 2 ^ (n % 64) else s i
def withoutS (s : Nat → Nat) (n : Nat) : Nat → Nat := fun i => if i = n / 64 then s i &&& (18446744073709551615 - 2 ^ (n % 64)) else s i
def orS (s t : Nat → Nat) : Nat → Nat := fun i => s i ||| t i
def andS (s t : Nat → Nat) : Nat → Nat := fun i => s i &&& t i
def lessS (s t : Nat → Nat) : Nat → Nat := fun i => s i &&& (18446744073709551615 - t i)
def belowS (m : Nat) : Nat → Nat := fun i => 2 ^ (min (m - 64 * i) 64) - 1
theorem zero_word : Word zeroS := fun _ => by unfold zeroS; omega
theorem with_word {s : Nat → Nat} (h : Word s) (n : Nat) : Word (withS s n) := fun i => by
  unfold withS; split
  · exact or_lt (h i) (pow64 n)
  · exact h i
theorem without_word {s : Nat → Nat} (h : Word s) (n : Nat) : Word (withoutS s n) := fun i => by
  unfold withoutS; split
  · exact and_lt (h i)
  · exact h i
theorem or_word {s t : Nat → Nat} (h : Word s) (k : Word t) : Word (orS s t) := fun i => or_lt (h i) (k i)
theorem and_word {s t : Nat → Nat} (h : Word s) : Word (andS s t) := fun i => and_lt (h i)
theorem less_word {s t : Nat → Nat} (h : Word s) : Word (lessS s t) := fun i => and_lt (h i)
theorem below_word (m : Nat) : Word (belowS m) := fun i => by
  unfold belowS
  have h : 2 ^ (min (m - 64 * i) 64) ≤ 2 ^ 64 := Nat.pow_le_pow_right (by decide) (Nat.min_le_right _ _)
  have e : (2 : Nat) ^ 64 = 18446744073709551616 := by decide
  rw [e] at h
  omega
theorem ext {s t : Nat → Nat} (hs : Word s) (ht : Word t) (h : ∀ n, n < 1024 → has s n = has t n) {i : Nat} (hi : i < 16) : s i = t i := by
  refine word_ext (hs i) (ht i) fun j hj => ?_
  have hn : 64 * i + j < 1024 := by omega
  have := h (64 * i + j) hn
  unfold has at this
  rw [show (64 * i + j) / 64 = i by omega, show (64 * i + j) % 64 = j by omega] at this
  simpa [hn] using this
theorem has_zero (n : Nat) : has zeroS n = false := by unfold has zeroS; simp
theorem has_or (s t : Nat → Nat) (n : Nat) : has (orS s t) n = (has s n || has t n) := by
  unfold has orS; rw [Nat.testBit_or]; cases decide (n < 1024) <;> simp
theorem has_and (s t : Nat → Nat) (n : Nat) : has (andS s t) n = (has s n && has t n) := by
  unfold has andS; rw [Nat.testBit_and]; cases decide (n < 1024) <;> simp
theorem has_less {s t : Nat → Nat} (ht : Word t) (n : Nat) : has (lessS s t) n = (has s n && !has t n) := by
  unfold has lessS
  rw [Nat.testBit_and, not_bit (ht _), decide_eq_true (Nat.mod_lt n (by decide : 0 < 64))]
  cases decide (n < 1024) <;> simp
theorem has_with (s : Nat → Nat) {k : Nat} (hk : k < 1024) (n : Nat) : has (withS s k) n = (has s n || n == k) := by
  unfold has withS
  by_cases h : n = k
  · subst h
    simp [hk, Nat.testBit_or, Nat.testBit_two_pow_self]
  · have hb : (n == k) = false := by simpa using h
    rw [hb, Bool.or_false]
    congr 1
    split
    · rename_i h1
      rw [Nat.testBit_or, Nat.testBit_two_pow]
      have : ¬ k % 64 = n % 64 := by omega
      simp [this]
    · rfl
theorem has_without (s : Nat → Nat) {k : Nat} (hk : k < 1024) (n : Nat) : has (withoutS s k) n = (has s n && !(n == k)) := by
  unfold has withoutS
  by_cases h : n = k
  · subst h
    simp [hk, Nat.testBit_and, not_bit (pow64 n), Nat.testBit_two_pow_self]
  · have hb : (n == k) = false := by simpa using h
    rw [hb, Bool.not_false, Bool.and_true]
    congr 1
    split
    · rename_i h1
      rw [Nat.testBit_and, not_bit (pow64 k), Nat.testBit_two_pow]
      have : ¬ k % 64 = n % 64 := by omega
      simp [this, Nat.mod_lt n (by decide : 0 < 64)]
    · rfl
theorem has_below (m n : Nat) : has (belowS m) n = (decide (n < 1024) && decide (n < m)) := by
  unfold has belowS
  congr 1
  rw [Nat.testBit_two_pow_sub_one]
  by_cases h : n < m
  · simp [h]; omega
  · simp [h]; omega
/-- The numbers of a set, rising. -/
def lst (s : Nat → Nat) : List Nat := (List.range 1024).filter (has s)
theorem mem_lst {s : Nat → Nat} {n : Nat} : n ∈ lst s ↔ has s n = true := by
  unfold lst
  rw [List.mem_filter, List.mem_range]
  constructor
  · exact fun h => h.2
  · intro h; refine ⟨?_, h⟩; unfold has at h; simp at h; exact h.1
def rising (l : List Nat) : Prop := l.Pairwise (· < ·)
theorem lst_rising (s : Nat → Nat) : rising (lst s) := List.Pairwise.filter _ List.pairwise_lt_range
theorem rising_ext : ∀ {a b : List Nat}, rising a → rising b → (∀ n, n ∈ a ↔ n ∈ b) → a = b
  | [], [], _, _, _ => rfl
  | [], y :: b, _, _, h => by have := (h y).2 (by simp); simp at this
  | x :: a, [], _, _, h => by have := (h x).1 (by simp); simp at this
  | x :: a, y :: b, ha, hb, h => by
    unfold rising at ha hb
    rw [List.pairwise_cons] at ha hb
    have e : x = y := by
      rcases List.mem_cons.1 ((h x).1 (by simp)) with e | e
      · exact e
      · rcases List.mem_cons.1 ((h y).2 (by simp)) with e2 | e2
        · exact e2.symm
        · have := ha.1 _ e2; have := hb.1 _ e; omega
    subst e
    congr 1
    refine rising_ext ha.2 hb.2 fun n => ?_
    constructor
    · intro hn
      rcases List.mem_cons.1 ((h n).1 (List.mem_cons_of_mem _ hn)) with e | e
      · subst e; have := ha.1 _ hn; omega
      · exact e
    · intro hn
      rcases List.mem_cons.1 ((h n).2 (List.mem_cons_of_mem _ hn)) with e | e
      · subst e; have := hb.1 _ hn; omega
      · exact e
theorem lst_inj {s t : Nat → Nat} (hs : Word s) (ht : Word t) (h : lst s = lst t) {i : Nat} (hi : i < 16) : s i = t i :=
  ext hs ht (fun n _ => by
    have : (n ∈ lst s ↔ n ∈ lst t) := by rw [h]
    rw [mem_lst, mem_lst] at this
    rw [Bool.eq_iff_iff]; exact this) hi
/-- How many bits a word has. -/
def pop (x : Nat) : Nat := (List.range 64).countP (x.testBit ·)
def lenS (s : Nat → Nat) : Nat → Nat
  | 0 => 0
  | k + 1 => lenS s k + pop (s k)
theorem lenS_count (s : Nat → Nat) : ∀ k, k ≤ 16 → lenS s k = (List.range (64 * k)).countP (has s)
  | 0, _ => rfl
  | k + 1, hk => by
    have ih := lenS_count s k (by omega)
    rw [lenS, ih, show 64 * (k + 1) = 64 * k + 64 by omega, List.range_add, List.countP_append, List.countP_map]
    congr 1
    unfold pop
    apply List.countP_congr
    intro j hj
    have hj' := List.mem_range.1 hj
    unfold has
    simp only [Function.comp_apply]
    rw [show (64 * k + j) / 64 = k by omega, show (64 * k + j) % 64 = j by omega]
    have : 64 * k + j < 1024 := by omega
    simp [this]
theorem lenS_16 (s : Nat → Nat) : lenS s 16 = (lst s).length := by
  rw [lenS_count s 16 (Nat.le_refl _), lst, List.countP_eq_length_filter]
theorem lst_len_le (s : Nat → Nat) : (lst s).length ≤ 1024 := by
  have := List.length_filter_le (has s) (List.range 1024)
  rw [List.length_range] at this; exact this
end Go.Proofs.YtpgkikondihplaaDoor.Bm
