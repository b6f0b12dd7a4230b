/- math/bits.OnesCount64's arithmetic: the steps count the bits. No program here. -/
namespace Go.Proofs.YtpgkikondihplaaDoor.Bo
set_option linter.unusedVariables false
def pop8 (c : Nat) : Nat := (List.range 8).countP (c.testBit ·)
def f1 (c : Nat) : Nat := (c / 2 &&& 85) + (c &&& 85)
def f2 (c : Nat) : Nat := (f1 c / 4 &&& 51) + (f1 c &&& 51)
def f3 (c : Nat) : Nat := f2 c / 16 + f2 c &&& 15
theorem f1_ok : ∀ c, c < 256 → f1 c < 256 ∧ (c &&& 85) < 256 ∧ (c / 2 &&& 85) + (c &&& 85) < 256 := by decide +kernel
theorem f2_ok : ∀ c, c < 256 → f2 c ≤ 68 ∧ f2 c % 16 ≤ 4 := by decide +kernel
theorem f3_ok : ∀ c, c < 256 → f3 c = pop8 c ∧ f3 c ≤ 8 := by decide +kernel
theorem m1 : ∀ e, e < 2 → ∀ c, c < 256 → (c / 2 + 128 * e) &&& 85 = (c / 2 &&& 85) := by decide +kernel
theorem m2 : ∀ e, e < 4 → ∀ c, c < 256 → (c / 4 + 64 * e) &&& 51 = (c / 4 &&& 51) := by decide +kernel
theorem m3 : ∀ e, e < 5 → ∀ c, c < 69 → (c / 16 + 16 * e + c) &&& 15 = (c / 16 + c &&& 15) := by decide +kernel
def sum8 (a b c d e f g h : Nat) : Nat := a + 256 * (b + 256 * (c + 256 * (d + 256 * (e + 256 * (f + 256 * (g + 256 * h))))))
theorem and_step {a b c d : Nat} (hb : b < 256) (hd : d < 256) : (b + 256 * a) &&& (d + 256 * c) = (b &&& d) + 256 * (a &&& c) := by
  apply Nat.eq_of_testBit_eq
  intro j
  have hbd : (b &&& d) < 2 ^ 8 := Nat.lt_of_le_of_lt Nat.and_le_left hb
  rw [Nat.add_comm b, Nat.add_comm d, Nat.add_comm (b &&& d)]
  have e1 := Nat.testBit_two_pow_mul_add (i := 8) a (b := b) hb j
  have e2 := Nat.testBit_two_pow_mul_add (i := 8) c (b := d) hd j
  have e3 := Nat.testBit_two_pow_mul_add (i := 8) (a &&& c) (b := b &&& d) hbd j
  rw [show (2 : Nat) ^ 8 = 256 from rfl] at e1 e2 e3
  rw [Nat.testBit_and, e1, e2, e3]
  split <;> rw [Nat.testBit_and]
theorem and8 {a b c d e f g h a' b' c' d' e' f' g' h' : Nat} (ha : a < 256) (hb : b < 256) (hc : c < 256) (hd : d < 256) (he : e < 256) (hf : f < 256) (hg : g < 256)
    (ha' : a' < 256) (hb' : b' < 256) (hc' : c' < 256) (hd' : d' < 256) (he' : e' < 256) (hf' : f' < 256) (hg' : g' < 256) :
    sum8 a b c d e f g h &&& sum8 a' b' c' d' e' f' g' h' = sum8 (a &&& a') (b &&& b') (c &&& c') (d &&& d') (e &&& e') (f &&& f') (g &&& g') (h &&& h') := by
  unfold sum8
  rw [and_step ha ha', and_step hb hb', and_step hc hc', and_step hd hd', and_step he he', and_step hf hf', and_step hg hg']
theorem split8 (x : Nat) (h : x < 18446744073709551616) : ∃ a b c d e f g k, a < 256 ∧ b < 256 ∧ c < 256 ∧ d < 256 ∧ e < 256 ∧ f < 256 ∧ g < 256 ∧ k < 256 ∧ x = sum8 a b c d e f g k := by
  refine ⟨x % 256, x / 256 % 256, x / 256 / 256 % 256, x / 256 / 256 / 256 % 256, x / 256 / 256 / 256 / 256 % 256, x / 256 / 256 / 256 / 256 / 256 % 256, x / 256 / 256 / 256 / 256 / 256 / 256 % 256, x / 256 / 256 / 256 / 256 / 256 / 256 / 256, by omega, by omega, by omega, by omega, by omega, by omega, by omega, by omega, ?_⟩
  unfold sum8; omega
def step1 (x : Nat) : Nat := (x / 2 &&& 6148914691236517205) + (x &&& 6148914691236517205)
def step2 (x : Nat) : Nat := (x / 4 &&& 3689348814741910323) + (x &&& 3689348814741910323)
def step3 (x : Nat) : Nat := x / 16 + x &&& 1085102592571150095
theorem s1 {a b c d e f g h : Nat} (ha : a < 256) (hb : b < 256) (hc : c < 256) (hd : d < 256) (he : e < 256) (hf : f < 256) (hg : g < 256) (hh : h < 256) :
    step1 (sum8 a b c d e f g h) = sum8 (f1 a) (f1 b) (f1 c) (f1 d) (f1 e) (f1 f) (f1 g) (f1 h) := by
  unfold step1
  have hm : 6148914691236517205 = sum8 85 85 85 85 85 85 85 85 := by decide
  have hs : sum8 a b c d e f g h / 2 = sum8 (a / 2 + 128 * (b % 2)) (b / 2 + 128 * (c % 2)) (c / 2 + 128 * (d % 2)) (d / 2 + 128 * (e % 2)) (e / 2 + 128 * (f % 2)) (f / 2 + 128 * (g % 2)) (g / 2 + 128 * (h % 2)) (h / 2 + 128 * 0) := by
    unfold sum8; omega
  rw [hs, hm, and8 (by omega) (by omega) (by omega) (by omega) (by omega) (by omega) (by omega) (by omega) (by omega) (by omega) (by omega) (by omega) (by omega) (by omega),
    and8 ha hb hc hd he hf hg (by omega) (by omega) (by omega) (by omega) (by omega) (by omega) (by omega),
    m1 _ (by omega) a ha, m1 _ (by omega) b hb, m1 _ (by omega) c hc, m1 _ (by omega) d hd, m1 _ (by omega) e he, m1 _ (by omega) f hf, m1 _ (by omega) g hg, m1 _ (by omega) h hh]
  unfold sum8 f1; omega
theorem s2 {a b c d e f g h : Nat} (ha : a < 256) (hb : b < 256) (hc : c < 256) (hd : d < 256) (he : e < 256) (hf : f < 256) (hg : g < 256) (hh : h < 256) :
    step2 (sum8 (f1 a) (f1 b) (f1 c) (f1 d) (f1 e) (f1 f) (f1 g) (f1 h)) = sum8 (f2 a) (f2 b) (f2 c) (f2 d) (f2 e) (f2 f) (f2 g) (f2 h) := by
  unfold step2
  have qa := (f1_ok a ha).1; have qb := (f1_ok b hb).1; have qc := (f1_ok c hc).1; have qd := (f1_ok d hd).1; have qe := (f1_ok e he).1; have qf := (f1_ok f hf).1; have qg := (f1_ok g hg).1; have qh := (f1_ok h hh).1
  unfold f2
  generalize f1 a = a at *; generalize f1 b = b at *; generalize f1 c = c at *; generalize f1 d = d at *; generalize f1 e = e at *; generalize f1 f = f at *; generalize f1 g = g at *; generalize f1 h = h at *
  have hm : 3689348814741910323 = sum8 51 51 51 51 51 51 51 51 := by decide
  have hs : sum8 a b c d e f g h / 4 = sum8 (a / 4 + 64 * (b % 4)) (b / 4 + 64 * (c % 4)) (c / 4 + 64 * (d % 4)) (d / 4 + 64 * (e % 4)) (e / 4 + 64 * (f % 4)) (f / 4 + 64 * (g % 4)) (g / 4 + 64 * (h % 4)) (h / 4 + 64 * 0) := by
    unfold sum8; omega
  rw [hs, hm, and8 (by omega) (by omega) (by omega) (by omega) (by omega) (by omega) (by omega) (by omega) (by omega) (by omega) (by omega) (by omega) (by omega) (by omega),
    and8 qa qb qc qd qe qf qg (by omega) (by omega) (by omega) (by omega) (by omega) (by omega) (by omega),
    m2 _ (by omega) a qa, m2 _ (by omega) b qb, m2 _ (by omega) c qc, m2 _ (by omega) d qd, m2 _ (by omega) e qe, m2 _ (by omega) f qf, m2 _ (by omega) g qg, m2 _ (by omega) h qh]
  unfold sum8; omega
theorem s3 {a b c d e f g h : Nat} (ha : a < 256) (hb : b < 256) (hc : c < 256) (hd : d < 256) (he : e < 256) (hf : f < 256) (hg : g < 256) (hh : h < 256) :
    step3 (sum8 (f2 a) (f2 b) (f2 c) (f2 d) (f2 e) (f2 f) (f2 g) (f2 h)) = sum8 (f3 a) (f3 b) (f3 c) (f3 d) (f3 e) (f3 f) (f3 g) (f3 h) := by
  unfold step3
  have qa := f2_ok a ha; have qb := f2_ok b hb; have qc := f2_ok c hc; have qd := f2_ok d hd; have qe := f2_ok e he; have qf := f2_ok f hf; have qg := f2_ok g hg; have qh := f2_ok h hh
  unfold f3
  generalize f2 a = a at *; generalize f2 b = b at *; generalize f2 c = c at *; generalize f2 d = d at *; generalize f2 e = e at *; generalize f2 f = f at *; generalize f2 g = g at *; generalize f2 h = h at *
  have hm : 1085102592571150095 = sum8 15 15 15 15 15 15 15 15 := by decide
  have hs : sum8 a b c d e f g h / 16 + sum8 a b c d e f g h = sum8 (a / 16 + 16 * (b % 16) + a) (b / 16 + 16 * (c % 16) + b) (c / 16 + 16 * (d % 16) + c) (d / 16 + 16 * (e % 16) + d) (e / 16 + 16 * (f % 16) + e) (f / 16 + 16 * (g % 16) + f) (g / 16 + 16 * (h % 16) + g) (h / 16 + 16 * 0 + h) := by
    unfold sum8; omega
  rw [hs, hm, and8 (by omega) (by omega) (by omega) (by omega) (by omega) (by omega) (by omega) (by omega) (by omega) (by omega) (by omega) (by omega) (by omega) (by omega),
    m3 _ (by omega) a (by omega), m3 _ (by omega) b (by omega), m3 _ (by omega) c (by omega), m3 _ (by omega) d (by omega), m3 _ (by omega) e (by omega), m3 _ (by omega) f (by omega), m3 _ (by omega) g (by omega), m3 _ (by omega) h (by omega)]
theorem l1 {a b c d e f g h : Nat} (ha : a ≤ 8) (hb : b ≤ 8) (hc : c ≤ 8) (hd : d ≤ 8) (he : e ≤ 8) (hf : f ≤ 8) (hg : g ≤ 8) (hh : h ≤ 8) :
    sum8 a b c d e f g h + sum8 a b c d e f g h / 256 = sum8 (a + b) (b + c) (c + d) (d + e) (e + f) (f + g) (g + h) h := by
  have e1 : sum8 a b c d e f g h / 256 = sum8 b c d e f g h 0 := by unfold sum8; omega
  rw [e1]; unfold sum8; omega
theorem l2 {a b c d e f g h : Nat} (ha : a ≤ 16) (hb : b ≤ 16) (hc : c ≤ 16) (hd : d ≤ 16) (he : e ≤ 16) (hf : f ≤ 16) (hg : g ≤ 16) (hh : h ≤ 16) :
    sum8 a b c d e f g h + sum8 a b c d e f g h / 65536 = sum8 (a + c) (b + d) (c + e) (d + f) (e + g) (f + h) g h := by
  have e1 : sum8 a b c d e f g h / 65536 = sum8 c d e f g h 0 0 := by unfold sum8; omega
  rw [e1]; unfold sum8; omega
theorem l3 {a b c d e f g h : Nat} (ha : a ≤ 32) (hb : b ≤ 32) (hc : c ≤ 32) (hd : d ≤ 32) (he : e ≤ 32) (hf : f ≤ 32) (hg : g ≤ 32) (hh : h ≤ 32) :
    sum8 a b c d e f g h + sum8 a b c d e f g h / 4294967296 = sum8 (a + e) (b + f) (c + g) (d + h) e f g h := by
  have e1 : sum8 a b c d e f g h / 4294967296 = sum8 e f g h 0 0 0 0 := by unfold sum8; omega
  rw [e1]; unfold sum8; omega
theorem sum8_lt {a b c d e f g h : Nat} (ha : a < 256) (hb : b < 256) (hc : c < 256) (hd : d < 256) (he : e < 256) (hf : f < 256) (hg : g < 256) (hh : h < 256) : sum8 a b c d e f g h < 18446744073709551616 := by
  unfold sum8; omega
theorem sum8_mod {a b c d e f g h : Nat} (ha : a < 128) : sum8 a b c d e f g h % 128 = a := by
  unfold sum8; omega
/-- Each step, and what it leaves: no sum is too great; the last seven bits are the number of bits. -/
theorem pop_sum8 {a b c d e f g h : Nat} (ha : a < 256) (hb : b < 256) (hc : c < 256) (hd : d < 256) (he : e < 256) (hf : f < 256) (hg : g < 256) (hh : h < 256) :
    (List.range 64).countP ((sum8 a b c d e f g h).testBit ·) = pop8 a + pop8 b + pop8 c + pop8 d + pop8 e + pop8 f + pop8 g + pop8 h := by
  have one : ∀ (c y : Nat), c < 256 → ∀ k, (List.range (8 + k)).countP ((c + 256 * y).testBit ·) = pop8 c + (List.range k).countP (y.testBit ·) := by
    intro c y hc k
    rw [List.range_add, List.countP_append, List.countP_map]
    have e : ∀ j, (c + 256 * y).testBit j = if j < 8 then c.testBit j else y.testBit (j - 8) := by
      intro j
      have := Nat.testBit_two_pow_mul_add (i := 8) y (b := c) hc j
      rw [show (2 : Nat) ^ 8 = 256 from rfl] at this
      rw [Nat.add_comm, this]
    congr 1
    · unfold pop8
      apply List.countP_congr
      intro j hj
      rw [e, if_pos (List.mem_range.1 hj)]
    · apply List.countP_congr
      intro j _
      rw [Function.comp_apply, e, if_neg (by omega), Nat.add_sub_cancel_left]
  have o8 : pop8 h = (List.range 8).countP (h.testBit ·) := rfl
  unfold sum8
  rw [one a _ ha 56, one b _ hb 48, one c _ hc 40, one d _ hd 32, one e _ he 24, one f _ hf 16, one g _ hg 8, ← o8]
  omega
theorem steps (x : Nat) (hx : x < 18446744073709551616) : ∃ z, step3 (step2 (step1 x)) = z ∧ step1 x < 18446744073709551616 ∧ step2 (step1 x) < 18446744073709551616 ∧ step2 (step1 x) / 16 + step2 (step1 x) < 18446744073709551616 ∧
    z + z / 256 < 18446744073709551616 ∧ (z + z / 256) + (z + z / 256) / 65536 < 18446744073709551616 ∧ ((z + z / 256) + (z + z / 256) / 65536) + ((z + z / 256) + (z + z / 256) / 65536) / 4294967296 < 9223372036854775808 ∧
    (((z + z / 256) + (z + z / 256) / 65536) + ((z + z / 256) + (z + z / 256) / 65536) / 4294967296) % 128 = (List.range 64).countP (x.testBit ·) := by
  obtain ⟨a, b, c, d, e, f, g, h, ha, hb, hc, hd, he, hf, hg, hh, rfl⟩ := split8 x hx
  rw [pop_sum8 ha hb hc hd he hf hg hh, s1 ha hb hc hd he hf hg hh, s2 ha hb hc hd he hf hg hh, s3 ha hb hc hd he hf hg hh]
  have qa := f2_ok a ha; have qb := f2_ok b hb; have qc := f2_ok c hc; have qd := f2_ok d hd; have qe := f2_ok e he; have qf := f2_ok f hf; have qg := f2_ok g hg; have qh := f2_ok h hh
  refine ⟨_, rfl, sum8_lt (f1_ok a ha).1 (f1_ok b hb).1 (f1_ok c hc).1 (f1_ok d hd).1 (f1_ok e he).1 (f1_ok f hf).1 (f1_ok g hg).1 (f1_ok h hh).1, ?_, ?_, ?_⟩
  · exact sum8_lt (by omega) (by omega) (by omega) (by omega) (by omega) (by omega) (by omega) (by omega)
  · clear ha hb hc hd he hf hg hh
    generalize f2 a = a at *; generalize f2 b = b at *; generalize f2 c = c at *; generalize f2 d = d at *; generalize f2 e = e at *; generalize f2 f = f at *; generalize f2 g = g at *; generalize f2 h = h at *
    have : sum8 a b c d e f g h ≤ 68 * 72340172838076673 := by unfold sum8; omega
    omega
  · rw [(f3_ok a ha).1, (f3_ok b hb).1, (f3_ok c hc).1, (f3_ok d hd).1, (f3_ok e he).1, (f3_ok f hf).1, (f3_ok g hg).1, (f3_ok h hh).1]
    have ra := f3_ok a ha; have rb := f3_ok b hb; have rc := f3_ok c hc; have rd := f3_ok d hd; have re := f3_ok e he; have rf := f3_ok f hf; have rg := f3_ok g hg; have rh := f3_ok h hh
    rw [ra.1] at ra; rw [rb.1] at rb; rw [rc.1] at rc; rw [rd.1] at rd; rw [re.1] at re; rw [rf.1] at rf; rw [rg.1] at rg; rw [rh.1] at rh
    replace ra := ra.2; replace rb := rb.2; replace rc := rc.2; replace rd := rd.2; replace re := re.2; replace rf := rf.2; replace rg := rg.2; replace rh := rh.2
    clear qa qb qc qd qe qf qg qh ha hb hc hd he hf hg hh hx
    generalize pop8 a = a at *; generalize pop8 b = b at *; generalize pop8 c = c at *; generalize pop8 d = d at *; generalize pop8 e = e at *; generalize pop8 f = f at *; generalize pop8 g = g at *; generalize pop8 h = h at *
    rw [l1 ra rb rc rd re rf rg rh, l2 (by omega) (by omega) (by omega) (by omega) (by omega) (by omega) (by omega) (by omega), l3 (by omega) (by omega) (by omega) (by omega) (by omega) (by omega) (by omega) (by omega)]
    refine ⟨sum8_lt (by omega) (by omega) (by omega) (by omega) (by omega) (by omega) (by omega) (by omega), sum8_lt (by omega) (by omega) (by omega) (by omega) (by omega) (by omega) (by omega) (by omega), ?_, ?_⟩
    · unfold sum8; omega
    rw [sum8_mod (by omega)]
    omega
end Go.Proofs.YtpgkikondihplaaDoor.Bo
