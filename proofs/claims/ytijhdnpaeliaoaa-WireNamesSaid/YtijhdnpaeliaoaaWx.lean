/- WireNames: the closed facts, and Value at a nil reader. No condition. -/
import Derived.Test.YtijhdnpaeliaoaaWr
import Derived.Test.YtijhdnpaeliaoaaWp
namespace Go.Proofs.Ytijhdnpaeliaoaa.Wx
open Go.RowKit Go.Sort Go.Proofs.Ytijhdnpaeliaoaa.Wm Go.Proofs.Ytijhdnpaeliaoaa.Wb Go.Proofs.Ytijhdnpaeliaoaa.Wa Go.Proofs.Ytijhdnpaeliaoaa.Wc Go.Proofs.Ytijhdnpaeliaoaa.Wd Go.Proofs.Ytijhdnpaeliaoaa.We Go.Proofs.Ytijhdnpaeliaoaa.Wf Go.Proofs.Ytijhdnpaeliaoaa.Wg Go.Proofs.Ytijhdnpaeliaoaa.Wh Go.Proofs.Ytijhdnpaeliaoaa.Wi Go.Proofs.Ytijhdnpaeliaoaa.Wj Go.Proofs.Ytijhdnpaeliaoaa.Wp Go.Proofs.Ytijhdnpaeliaoaa.Wr
set_option linter.unusedVariables false
set_option linter.unusedSimpArgs false
set_option maxRecDepth 100000
theorem valNil (w : World) : Calls Try.prog 24 #[.pointer none] w fun e w' => e = .returned (.tuple #[.agg #[.int .u8 0, .int .i64 0, .string ⟨#[]⟩], .int .i64 2]) ∧ Below w.heap.size w w' := by
  have hread : ∀ (x : Value) (w1 : World), Calls Try.prog 43 #[.pointer none, x] w1 fun e w' => e = .returned (.tuple #[.agg #[.int .u8 0, .int .i64 0, .string ⟨#[]⟩], .int .i64 2]) ∧ Below w1.heap.size w1 w' := by
    intro x w1
    go_enter Try.func43, Try.ntmps43
    go_wp2_with fail
    refine bodyPost_ret (v := .tuple #[.agg #[.int .u8 0, .int .i64 0, .string ⟨#[]⟩], .int .i64 2]) (by simp [results, Try.results43, go_sem]) rfl ?_
    exact ⟨rfl, by (repeat' (first | (with_reducible exact Below.refl _ _) | (with_reducible assumption) | (with_reducible refine Below.alloc ?_ ?_ _) | (with_reducible refine Below.drew ?_) | (with_reducible refine below_drewN ?_ _) | (with_reducible refine Below.setCell ?_ ?_ _) | (with_reducible refine Below.trans ?_ (Below.mono (by with_reducible assumption) ?_)) | (simp only [World.size_alloc, World.size_setCell, World.heap_drewN, World.size_drew]; omega) | omega | (simp; omega) | (simp; done)))⟩
  have v0 : Bv (w.heap.size + 1) ⟨0, 0, ⟨#[]⟩⟩ ((w.alloc (.cells #[.pointer none] 37)).alloc (.cells #[.int .u8 0, .int .i64 0, .string ⟨#[]⟩] 23)) := by
    have := Bv.new (W := w.alloc (.cells #[.pointer none] 37)) (k := 0) (n := 0) (t := ⟨#[]⟩) (T := 23)
    simpa using this
  have h0 : Below w.heap.size w ((w.alloc (.cells #[.pointer none] 37)).alloc (.cells #[.int .u8 0, .int .i64 0, .string ⟨#[]⟩] 23)) := by (repeat' (first | (with_reducible exact Below.refl _ _) | (with_reducible assumption) | (with_reducible refine Below.alloc ?_ ?_ _) | (with_reducible refine Below.drew ?_) | (with_reducible refine below_drewN ?_ _) | (with_reducible refine Below.setCell ?_ ?_ _) | (with_reducible refine Below.trans ?_ (Below.mono (by with_reducible assumption) ?_)) | (simp only [World.size_alloc, World.size_setCell, World.heap_drewN, World.size_drew]; omega) | omega | (simp; omega) | (simp; done)))
  go_enter Try.func24, Try.ntmps24
  go_wp2_with fail
  refine (hread _ _).mono ?_
  rintro e w1 ⟨rfl, hb⟩
  have v1 := v0.on hb
  have k0 := v1.c0
  have k1 := v1.c1
  have k2 := v1.c2
  have kf0 := v1.fz 0
  have kf1 := v1.fz 1
  have kf2 := v1.fz 2
  have hz := h0.size
  dsimp only at k0 k1 k2
  go_wp2_with fail
  refine bodyPost_ret (v := .tuple #[.agg #[.int .u8 0, .int .i64 0, .string ⟨#[]⟩], .int .i64 2]) (by simp [results, Try.results24, go_sem, k0, k1, k2]) rfl ?_
  exact ⟨rfl, by (repeat' (first | (with_reducible exact Below.refl _ _) | (with_reducible assumption) | (with_reducible refine Below.alloc ?_ ?_ _) | (with_reducible refine Below.drew ?_) | (with_reducible refine below_drewN ?_ _) | (with_reducible refine Below.setCell ?_ ?_ _) | (with_reducible refine Below.trans ?_ (Below.mono (by with_reducible assumption) ?_)) | (simp only [World.size_alloc, World.size_setCell, World.heap_drewN, World.size_drew]; omega) | omega | (simp; omega) | (simp; done)))⟩
theorem n_4 : valS ⟨⟨#[4]⟩, 0⟩ = (V.zero, 4, St.bad 4) := by
  have h : numS ⟨⟨#[4]⟩, 0⟩ = (4, 0, ⟨⟨#[]⟩, 0⟩) := rd_ok (by decide +kernel)
  unfold valS; rw [h]; rfl
theorem n_22 : valS ⟨⟨#[2, 2]⟩, 0⟩ = (V.zero, 4, St.bad 4) := by
  have h : numS ⟨⟨#[2, 2]⟩, 0⟩ = (2, 0, ⟨⟨#[2]⟩, 0⟩) := rd_ok (by decide +kernel)
  have h2 : numS ⟨⟨#[2]⟩, 0⟩ = (2, 0, ⟨⟨#[]⟩, 0⟩) := rd_ok (by decide +kernel)
  unfold valS; rw [h]; simp only; rw [h2]; rfl
theorem n_341 : valS ⟨⟨#[3, 41]⟩, 0⟩ = (V.zero, 40, St.bad 40) := by
  have h : numS ⟨⟨#[3, 41]⟩, 0⟩ = (3, 0, ⟨⟨#[41]⟩, 0⟩) := rd_ok (by decide +kernel)
  have h2 : numS ⟨⟨#[41]⟩, 0⟩ = (41, 0, ⟨⟨#[]⟩, 0⟩) := rd_ok (by decide +kernel)
  have h3 : textS 40 ⟨⟨#[41]⟩, 0⟩ = (⟨#[]⟩, 40, St.bad 40) := by unfold textS; rw [h2]; rfl
  unfold valS; rw [h]; simp only; rw [h3]; rfl
theorem n_t5 : textS 5 ⟨⟨#[5, 97, 98, 99]⟩, 0⟩ = (⟨#[]⟩, 8, St.bad 8) := by
  have h : numS ⟨⟨#[5, 97, 98, 99]⟩, 0⟩ = (5, 0, ⟨⟨#[97, 98, 99]⟩, 0⟩) := rd_ok (by decide +kernel)
  unfold textS; rw [h]; rfl
theorem n_t4 : textS 4 ⟨⟨#[5, 97, 98, 99, 100, 101]⟩, 0⟩ = (⟨#[]⟩, 40, St.bad 40) := by
  have h : numS ⟨⟨#[5, 97, 98, 99, 100, 101]⟩, 0⟩ = (5, 0, ⟨⟨#[97, 98, 99, 100, 101]⟩, 0⟩) := rd_ok (by decide +kernel)
  unfold textS; rw [h]; rfl
theorem n_tm : textS (-1) ⟨⟨#[0]⟩, 0⟩ = (⟨#[]⟩, 40, St.bad 40) := by
  have h : numS ⟨⟨#[0]⟩, 0⟩ = (0, 0, ⟨⟨#[]⟩, 0⟩) := rd_ok (by decide +kernel)
  unfold textS; rw [h]; rfl
theorem n_i2 : intS ⟨⟨#[255, 255, 255, 255, 255, 255, 255, 255, 255, 2]⟩, 0⟩ = (0, 4, St.bad 4) := by
  have h : rdNum 18446744073709551615 ⟨⟨#[255, 255, 255, 255, 255, 255, 255, 255, 255, 2]⟩, 0⟩ = (0, 4, St.bad 4) := rd_no (n := 0) (t := ⟨#[255, 255, 255, 255, 255, 255, 255, 255, 255, 2]⟩) (by decide +kernel) (by decide)
  unfold intS; rw [h]; rfl
theorem n_i1 : intS ⟨⟨#[128, 128, 128, 128, 128, 128, 128, 128, 128, 128, 1]⟩, 0⟩ = (0, 4, St.bad 4) := by
  have h : rdNum 18446744073709551615 ⟨⟨#[128, 128, 128, 128, 128, 128, 128, 128, 128, 128, 1]⟩, 0⟩ = (0, 4, St.bad 4) := rd_no (n := 0) (t := ⟨#[128, 128, 128, 128, 128, 128, 128, 128, 128, 128, 1]⟩) (by decide +kernel) (by decide)
  unfold intS; rw [h]; rfl
theorem n_n : numS ⟨⟨#[129, 128, 128, 128, 128, 32]⟩, 0⟩ = (0, 4, St.bad 4) := rd_no (n := 0) (t := ⟨#[129, 128, 128, 128, 128, 32]⟩) (by decide +kernel) (by decide)
theorem intX (x : Int) (h1 : -9223372036854775808 ≤ x) (h2 : x ≤ 9223372036854775807) : intS ⟨intW ⟨#[]⟩ x, 0⟩ = (x, 0, ⟨⟨#[]⟩, 0⟩) := by
  have h := int_ok (t := []) h1 h2
  rw [List.append_nil] at h
  exact h
theorem intZ (x : Int) (h1 : -9223372036854775808 ≤ x) (h2 : x ≤ 9223372036854775807) : (intW ⟨#[]⟩ x).size ≤ 1099511627776 := by
  have h := enc_len10 (zz_lt h1 h2)
  unfold intW
  rw [put_size]
  have : (⟨#[]⟩ : ByteArray).size = 0 := rfl
  omega
theorem valF (v : V) (hv : mayK v = false) (h0 : 0 ≤ v.k) (h1 : -9223372036854775808 ≤ v.n) (h2 : v.n ≤ 9223372036854775807) (w : World) : Calls Try.prog 13 #[.string ⟨#[]⟩, .agg #[.int .u8 v.k, .int .i64 v.n, .string v.t]] w fun e w' => e = .returned (.tuple #[.string ⟨#[]⟩, .int .i64 4]) ∧ Below w.heap.size w w' := by
  refine (valC ⟨#[]⟩ v (by decide) h0 h1 h2 w).mono ?_
  rintro e w1 ⟨rfl, hb⟩
  rw [valR_no hv]
  exact ⟨rfl, hb⟩
theorem leftNil' (w : World) : Calls Try.prog 27 #[.pointer none] w fun e w' => e = .returned (.int .i64 0) ∧ Below w.heap.size w w' := (leftNil w).mono (by rintro e w1 ⟨rfl, rfl⟩; exact ⟨rfl, Below.refl _ _⟩)
def z41 : ByteArray := ⟨(List.replicate 41 (0 : UInt8)).toArray⟩
def zrow : Array Value := Array.replicate 41 (.int .u8 0)
theorem mk41 (w : World) : (Instr.makeSlice 50 (.int .i64 41) (.int .i64 41)).run Try.prog w = .ok (.slice (some ⟨w.heap.size, 0, none⟩) 41 41) (w.alloc (.cells zrow 5)) := by kernel_rfl
theorem z_cell (w : World) : ∀ j (hj : j < (List.replicate 41 (0 : UInt8)).length), (w.alloc (.cells zrow 5)).cell? ((⟨w.heap.size, 0, none⟩ : Addr).add j) = some (.int .u8 ((List.replicate 41 (0 : UInt8))[j].toNat : Int)) := by
  intro j hj
  have h41 : j < 41 := by simpa using hj
  have e : (⟨w.heap.size, 0, none⟩ : Addr).add j = ⟨w.heap.size, j, none⟩ := by
    simp [Addr.add]
    intro h
    exact h.symm
  rw [e]
  have h0 : (List.replicate 41 (0 : UInt8))[j] = 0 := List.getElem_replicate ..
  rw [h0]
  have h1 : zrow[j]? = some (.int .u8 0) := by unfold zrow; rw [Array.getElem?_replicate, if_pos h41]
  simp [go_sem, h1]
theorem cv41 (w : World) : (convert 50 9 (.slice (some ⟨w.heap.size, 0, none⟩) 41 41)).run Try.prog (w.alloc (.cells zrow 5)) = .ok (.string z41) (w.alloc (.cells zrow 5)) :=
  run_convert_bytes_back (P := Try.prog) _ 50 9 5 ⟨w.heap.size, 0, none⟩ 41 (List.replicate 41 (0 : UInt8)) Try.underlying50 Try.underlying5 Try.underlying9 (z_cell w)
theorem may41 : mayK ⟨3, 0, z41⟩ = false := by decide +kernel
theorem gr_new_at {a b c : World} {n : Nat} (hs : a.heap.size = n) (h : Below n a b) (hg : b.grownBy c (some n)) : Below n a c := by
  subst hs
  exact gr_new_below h hg
theorem numM (w : World) : Calls Try.prog 11 #[.string ⟨#[]⟩, .int .i64 (-1)] w fun e w' => e = .returned (.tuple #[.string ⟨#[]⟩, .int .i64 1]) ∧ Below w.heap.size w w' := numC ⟨#[]⟩ (-1) (by decide) w
theorem numP (w : World) : Calls Try.prog 11 #[.string ⟨#[]⟩, .int .i64 1099511627777] w fun e w' => e = .returned (.tuple #[.string ⟨#[]⟩, .int .i64 1]) ∧ Below w.heap.size w w' := numC ⟨#[]⟩ 1099511627777 (by decide) w
end Go.Proofs.Ytijhdnpaeliaoaa.Wx
