/- WireBack: slices of texts and of values that came in, read; the rows of bytes that were written, as plain lists; the row of flags. No function of the program here. Conditions as written. -/
import Derived.Test.YtijhdnpaeliaoaaWv
import Derived.Test.YtijhdnpaeliaoaaWp
import Derived.Test.YtijhdnpaeliaoaaWd
import Derived.Deep.Fields
import Derived.Lib.SmallJoins
namespace Go.Proofs.Ytijhdnpaeliaoaa.Wy
open Go.ChangeShapes Go.WideShapes Go.ChangeAt Go.RowKit Go.Deep Go.Proofs.Ytijhdnpaeliaoaa.Wm Go.Proofs.Ytijhdnpaeliaoaa.Wg Go.Proofs.Ytijhdnpaeliaoaa.Wp Go.Proofs.Ytijhdnpaeliaoaa.Wd
set_option linter.unusedVariables false
set_option linter.unusedSimpArgs false
/-- A slice of texts that can be read. -/
def StrsAt (W : World) (v : Value) : Prop := ∃ (a : Option Addr) (len cap : Nat) (t : Nat → ByteArray), v = .slice a len cap ∧ (0 < len → ∃ b off, a = some ⟨b, off, none⟩ ∧ ∀ i, i < len → W.cell? ⟨b, off + i, none⟩ = some (.string (t i)))
/-- A slice of values that can be read. -/
def ValsAt (W : World) (v : Value) : Prop := ∃ (a : Option Addr) (len cap : Nat) (x : Nat → V), v = .slice a len cap ∧ (0 < len → ∃ b off, a = some ⟨b, off, none⟩ ∧ ∀ i, i < len → W.cell? ⟨b, off + i * 3, none⟩ = some (.int .u8 (x i).k) ∧ W.cell? ⟨b, off + i * 3 + 1, none⟩ = some (.int .i64 (x i).n) ∧ W.cell? ⟨b, off + i * 3 + 2, none⟩ = some (.string (x i).t)) ∧
  ∀ i, i < len → (Lit.int .u8 (x i).k).wf = true ∧ (Lit.int .i64 (x i).n).wf = true
theorem strs_read {H : Type} {enc : TypeId × Value → H} {P : Program} {W : World} {t e : TypeId} {v : Value} {d : DataW H} {p : List MemPlace}
    (ht : P.underlying t = some (.slice e)) (he : P.underlying e = some .string) (hc : P.cellsOf e = 1) (hv : ∃ a len cap, v = .slice a len cap)
    (h : DataW.Trod enc P W 0 (fun _ => true) true t v d p) : StrsAt W v := by
  obtain ⟨a, len, cap, rfl⟩ := hv
  obtain ⟨fuel, hf⟩ := h
  rcases open_strings ht he hc hf with ⟨hcs, hx⟩ | ⟨a', len', cap', ss, hcs, _, hl, hm, hz, hx, hcell, _⟩
  · simp only [Value.cells, List.cons.injEq, and_true] at hcs
    injection hcs with h1 h2 h3
    subst h1 h2 h3
    exact ⟨none, 0, 0, fun _ => ByteArray.empty, rfl, fun h => absurd h (by decide)⟩
  · simp only [Value.cells, List.cons.injEq, and_true] at hcs
    injection hcs with h1 h2 h3
    subst h1 h2 h3
    have hlen : ss.length = cap := by simpa using hz
    refine ⟨some a', len, cap, fun i => ss.getD i ByteArray.empty, rfl, fun h0 => ?_⟩
    obtain ⟨b, off, spot⟩ := a'
    have hspot : spot = none := by simpa [Addr.add] using World.cell?_spot (hcell 0 (by omega))
    subst hspot
    exact ⟨b, off, rfl, fun j hj => by rw [← Go.WideShapes.add_plain]; exact hcell j (by omega)⟩
instance : Inhabited V := ⟨V.zero⟩
theorem vals_read {H : Type} {enc : TypeId × Value → H} {P : Program} {W : World} {t e : TypeId} {f0 f1 f2 : Field} {v : Value} {d : DataW H} {p : List MemPlace}
    (ht : P.underlying t = some (.slice e)) (he : P.underlying e = some (.struct #[f0, f1, f2])) (hone : oneCellFields P #[f0, f1, f2] = true) (hc : P.cellsOf e = 3)
    (u0 : P.underlying f0.type = some (.int .u8)) (u1 : P.underlying f1.type = some (.int .i64)) (u2 : P.underlying f2.type = some .string) (hv : ∃ a len cap, v = .slice a len cap)
    (h : DataW.Trod enc P W 0 (fun _ => true) true t v d p) : ValsAt W v := by
  obtain ⟨a, len, cap, rfl⟩ := hv
  obtain ⟨fuel, hf⟩ := h
  rcases open_slice ht hf with ⟨hcs, hx⟩ | ⟨a', len', cap', m, n, D, Pl, hcs, _, hl, hm, hmm, hx, hi⟩
  · simp only [Value.cells, List.cons.injEq, and_true] at hcs
    injection hcs with h1 h2 h3
    subst h1 h2 h3
    exact ⟨none, 0, 0, fun _ => V.zero, rfl, fun h => absurd h (by decide), fun i h => absurd h (by omega)⟩
  · simp only [Value.cells, List.cons.injEq, and_true] at hcs
    injection hcs with h1 h2 h3
    subst h1 h2 h3
    have hmc : m = cap := by simpa using hmm
    have each : ∀ i, i < cap → ∃ x : V, W.cell? (a'.add (i * 3)) = some (.int .u8 x.k) ∧ W.cell? ((a'.add (i * 3)).add 1) = some (.int .i64 x.n) ∧ W.cell? ((a'.add (i * 3)).add 2) = some (.string x.t) ∧ (Lit.int .u8 x.k).wf = true ∧ (Lit.int .i64 x.n).wf = true := by
      intro i hic
      obtain ⟨cs', hcells, ht'⟩ := hi i (by omega)
      rw [hc] at hcells
      obtain ⟨ys, n', hn', hy, hlen, hyl, hff⟩ := DataW.trod_struct he ht'
      obtain ⟨_, hcl, hat⟩ := World.cells?_some hcells
      obtain ⟨o0, k0⟩ := hone_of hone 0 f0 rfl
      obtain ⟨o1, k1⟩ := hone_of hone 1 f1 rfl
      obtain ⟨o2, k2⟩ := hone_of hone 2 f2 rfl
      match cs', hcl, ys, hyl with
      | [c0, c1, c2], _, [y0, y1, y2], _ =>
        have g0 : DataW.trod enc P W 0 (fun _ => true) true n' f0.type [c0] = some y0 := by simpa [o0, k0] using hff 0 f0 rfl
        have g1 : DataW.trod enc P W 0 (fun _ => true) true n' f1.type [c1] = some y1 := by simpa [o1, k1] using hff 1 f1 rfl
        have g2 : DataW.trod enc P W 0 (fun _ => true) true n' f2.type [c2] = some y2 := by simpa [o2, k2] using hff 2 f2 rfl
        obtain ⟨x0, e0, _, w0⟩ := DataW.trod_int u0 g0
        obtain ⟨x1, e1, _, w1⟩ := DataW.trod_int u1 g1
        obtain ⟨x2, e2, _, _⟩ := DataW.trod_string u2 g2
        simp only [List.cons.injEq, and_true] at e0 e1 e2
        subst e0 e1 e2
        exact ⟨⟨x0, x1, x2⟩, by simpa [Addr.add] using hat 0 (by decide), hat 1 (by decide), hat 2 (by decide), w0, w1⟩
    obtain ⟨x, hx2⟩ := choose_lt each
    refine ⟨some a', len, cap, x, rfl, fun h0 => ?_, fun i hi => ⟨(hx2 i (by omega)).2.2.2.1, (hx2 i (by omega)).2.2.2.2⟩⟩
    obtain ⟨b, off, spot⟩ := a'
    have hspot : spot = none := by simpa [Addr.add] using World.cell?_spot (hx2 0 (by omega)).1
    subst hspot
    refine ⟨b, off, rfl, fun j hj => ?_⟩
    obtain ⟨q0, q1, q2, _⟩ := hx2 j (by omega)
    rw [Go.WideShapes.add_plain] at q0 q1 q2
    rw [Go.WideShapes.add_plain] at q1 q2
    exact ⟨q0, q1, q2⟩
/-- Many pieces, one behind the other: k of them, from the i-th on. -/
def fw (f : Nat → List UInt8) : Nat → Nat → List UInt8
  | _, 0 => []
  | i, k + 1 => f i ++ fw f (i + 1) k
theorem fw_zero (f : Nat → List UInt8) (i : Nat) : fw f i 0 = [] := rfl
theorem fw_snoc (f : Nat → List UInt8) : ∀ k i, fw f i (k + 1) = fw f i k ++ f (i + k) := by
  intro k
  induction k with
  | zero => intro i; simp [fw]
  | succ k ih =>
    intro i
    rw [fw, ih (i + 1), fw, List.append_assoc, Nat.add_assoc, Nat.add_comm 1 k]
theorem fw_cons (f : Nat → List UInt8) {i n : Nat} (h : i < n) : fw f i (n - i) = f i ++ fw f (i + 1) (n - (i + 1)) := by
  obtain ⟨k, hk⟩ : ∃ k, n - i = k + 1 := ⟨n - i - 1, by omega⟩
  rw [hk, show n - (i + 1) = k by omega]
  rfl
theorem fw_len (f : Nat → List UInt8) (c n : Nat) (h : ∀ j, j < n → (f j).length ≤ c) : ∀ k i, i + k ≤ n → (fw f i k).length ≤ c * k := by
  intro k
  induction k with
  | zero => intro i _; exact Nat.zero_le _
  | succ k ih =>
    intro i hi
    rw [fw, List.length_append, Nat.mul_succ]
    have h1 := ih (i + 1) (by omega)
    have h2 := h i (by omega)
    omega
def numL (x : Int) : List UInt8 := if x < 0 ∨ 1099511627776 < x then [] else enc x.toNat
def numE (x : Int) : Int := if x < 0 ∨ 1099511627776 < x then 1 else 0
theorem numR_s (s : ByteArray) (x : Int) : numR s x = (B (s.data.toList ++ numL x), numE x) := by
  unfold numR numL numE
  by_cases h : x < 0 ∨ 1099511627776 < x
  · rw [if_pos h, if_pos h, if_pos h, List.append_nil, B_of]
  · rw [if_neg h, if_neg h, if_neg h, put_s]
def valX (v : V) : List UInt8 := if mayK v then valL v else []
def valE (v : V) : Int := if mayK v then 0 else 4
theorem valR_s (s : ByteArray) (v : V) : valR s v = (B (s.data.toList ++ valX v), valE v) := by
  unfold valX valE
  cases h : mayK v
  · rw [valR_no h]; simp [B_of]
  · rw [valR_ok h, valW_s]; simp
def textL (t : ByteArray) : List UInt8 := enc t.size ++ t.data.toList
theorem numL_len (x : Int) : (numL x).length ≤ 10 := by
  unfold numL
  split
  · exact Nat.zero_le _
  · exact enc_len10 (by omega)
theorem intL_len (x : Int) (h1 : -9223372036854775808 ≤ x) (h2 : x ≤ 9223372036854775807) : (enc (zz x)).length ≤ 10 := enc_len10 (zz_lt h1 h2)
theorem textL_len (t : ByteArray) (h : t.size ≤ 500) : (textL t).length ≤ 600 := by
  unfold textL
  rw [List.length_append]
  have h1 := enc_len10 (n := t.size) (by omega)
  have h2 : t.data.size ≤ 500 := h
  have h3 : t.data.toList.length = t.data.size := Array.length_toList
  omega
theorem valX_len (v : V) (h1 : -9223372036854775808 ≤ v.n) (h2 : v.n ≤ 9223372036854775807) (h : v.t.size ≤ 500) : (valX v).length ≤ 600 := by
  unfold valX
  split
  · rename_i hm
    unfold valL
    have e1 : (enc 1).length ≤ 10 := enc_len10 (by decide)
    have e2 : (enc 2).length ≤ 10 := enc_len10 (by decide)
    have e3 : (enc 3).length ≤ 10 := enc_len10 (by decide)
    have e0 : (enc 0).length ≤ 10 := enc_len10 (by decide)
    have ez := enc_len10 (zz_lt h1 h2)
    have et := enc_len10 (n := v.t.size) (by omega)
    have eT : v.t.data.size ≤ 500 := h
    have eL : v.t.data.toList.length = v.t.data.size := Array.length_toList
    split
    · rw [List.length_append]; omega
    · split
      · have := enc_len10 (n := v.n.toNat) (by omega)
        rw [List.length_append]; omega
      · split
        · rw [List.length_append, List.length_append]; omega
        · omega
  · exact Nat.zero_le _
/-- The row of flags: of n, the first k are f's. -/
structure Flags (g n : Nat) (f : Nat → Bool) (k : Nat) (W : World) : Prop where
  lt : g < W.heap.size
  c : ∀ i, i < n → ∃ b, W.cell? ⟨g, i, none⟩ = some (.bool b) ∧ (i < k → b = f i)
  fz : ∀ j, W.frozen? ⟨g, j, none⟩ = false
theorem Flags.on {g n k : Nat} {f : Nat → Bool} {W w1 : World} (h : Flags g n f k W) (hb : Below W.heap.size W w1) : Flags g n f k w1 :=
  ⟨Nat.lt_of_lt_of_le h.lt hb.size, fun i hi => by obtain ⟨b, h1, h2⟩ := h.c i hi; exact ⟨b, (hb.cell (p := ⟨g, i, none⟩) h.lt).trans h1, h2⟩, fun j => (hb.frozen (p := ⟨g, j, none⟩) h.lt).trans (h.fz j)⟩
theorem Flags.far {g r n k : Nat} {f : Nat → Bool} {W w1 : World} (h : Flags g n f k W) (hg : W.grownBy w1 (some r)) (hne : g ≠ r) : Flags g n f k w1 :=
  have hb := hg.block g h.lt (by simpa using hne)
  ⟨Nat.lt_of_lt_of_le h.lt hg.size, fun i hi => by obtain ⟨b, h1, h2⟩ := h.c i hi; exact ⟨b, (World.cell?_of_block (a := ⟨g, i, none⟩) hb).trans h1, h2⟩, fun j => (World.frozen?_of_block (a := ⟨g, j, none⟩) hb).trans (h.fz j)⟩
theorem Flags.put {g n k : Nat} {f : Nat → Bool} {W : World} (h : Flags g n f k W) (hk : k < n) (b : Bool) (hb : b = f k) : Flags g n f (k + 1) (W.setCell ⟨g, k, none⟩ (.bool b)) := by
  refine ⟨by simpa using h.lt, fun i hi => ?_, fun j => by rw [World.frozen?_setCell]; exact h.fz j⟩
  obtain ⟨b', h1, h2⟩ := h.c i hi
  by_cases hik : i = k
  · subst hik
    exact ⟨b, World.cell?_setCell_same _ _ _ h1, fun _ => hb⟩
  · exact ⟨b', (World.cell?_setCell_other _ _ _ _ (by simp [Ne.symm hik])).trans h1, fun hlt => h2 (by omega)⟩
end Go.Proofs.Ytijhdnpaeliaoaa.Wy
