/- math/bits.TrailingZeros64 by the shelf's contract; OnesCount64 walked; both as contracts. Conditions: the argument is a word; the table lies in its variable. -/
import Derived.Test.YtpgkikondihplaaDoorBo
import Derived.Test.YtpgkikondihplaaDoorBb
import Derived.Shelf.Spec.TrailingZeros
namespace Go.Proofs.YtpgkikondihplaaDoor.Bt
open Go.RowKit Go.Shelf Go.Proofs.YtpgkikondihplaaDoor.Bm Go.Proofs.YtpgkikondihplaaDoor.Bo Go.Proofs.YtpgkikondihplaaDoor.Bb
set_option linter.unusedVariables false
set_option linter.unusedSimpArgs false
set_option maxRecDepth 100000
def ren29 : Go.Shelf.Ren := ⟨fun | 29 => 34 | n => n, fun | 22 => 23 | 25 => 54 | 54 => 53 | n => n, fun | 1 => 0 | n => n⟩
theorem lays29 : Go.Proofs.Lays7.n29 Tryd.prog ren29 := {
  mixed := by kernel_rfl
  f29 := Tryd.func34.trans (congrArg some (by kernel_rfl))
  t0 := Tryd.underlying0
  a0 := Tryd.isAgg0
  z0 := Tryd.sizeOf0
  v0 := Tryd.zeroValue0
  i0 := by kernel_rfl
  t3 := Tryd.underlying3
  a3 := Tryd.isAgg3
  z3 := Tryd.sizeOf3
  v3 := Tryd.zeroValue3
  i3 := by kernel_rfl
  t4 := Tryd.underlying4
  a4 := Tryd.isAgg4
  z4 := Tryd.sizeOf4
  v4 := Tryd.zeroValue4
  i4 := by kernel_rfl
  t5 := Tryd.underlying5
  a5 := Tryd.isAgg5
  z5 := Tryd.sizeOf5
  v5 := Tryd.zeroValue5
  i5 := by kernel_rfl
  t22 := Tryd.underlying23
  a22 := Tryd.isAgg23
  z22 := Tryd.sizeOf23
  v22 := Tryd.zeroValue23
  i22 := by kernel_rfl
  t25 := Tryd.underlying54
  a25 := Tryd.isAgg54
  z25 := Tryd.sizeOf54
  v25 := Tryd.zeroValue54
  i25 := by kernel_rfl
  t54 := Tryd.underlying53
  a54 := Tryd.isAgg53
  z54 := Tryd.sizeOf53
  g1 := by kernel_rfl }
/-- The table lies in its variable (block 0). -/
def Tab (w : World) : Prop := Go.Proofs.TabAt 0 Lib.deBruijn64tab w
theorem Tab.on {w w1 : World} (h : Tab w) (hb : Below w.heap.size w w1) : Tab w1 := fun j hj => (hb.cell (p := ⟨0, j, none⟩) (World.block_lt_of_cell? w _ (h j hj))).trans (h j hj)
theorem Tab.pos {w : World} (h : Tab w) : 0 < w.heap.size := World.block_lt_of_cell? w ⟨0, 0, none⟩ (h 0 (by decide))
theorem Tab.alloc {w : World} (h : Tab w) (o : Obj) : Tab (w.alloc o) := h.on ((Below.refl _ _).alloc (Nat.le_refl _) _)
theorem Tab.below {B : Nat} {w w1 : World} (h : Tab w) (hb : Below B w w1) (hB : 0 < B) : Tab w1 := fun j hj => (hb.cell (p := ⟨0, j, none⟩) hB).trans (h j hj)
theorem tzC (x : Nat) (hx : x < 18446744073709551616) (w : World) (hT : Tab w) : Calls Tryd.prog 34 #[.int .u64 (x : Int)] w fun e w' => e = .returned (.int .i64 (Lib.ctz 64 x)) ∧ w' = w :=
  Any7.bits_TrailingZeros64 lays29 x hx w (fun _ => hT)
theorem wrap_nat {n : Nat} (h : n < 18446744073709551616) : IntKind.u64.wrap (n : Int) = (n : Int) := by rw [IntKind.wrap_u64]; omega
theorem and_int (a b : Nat) (ha : a < 18446744073709551616) (hb : b < 18446744073709551616) : bits .and .u64 (a : Int) (b : Int) = ((a &&& b : Nat) : Int) := bits_and_u64_nat a b ha hb
theorem and_127 (z : Nat) (h : z < 9223372036854775808) : bits .and .i64 (z : Int) 127 = ((z % 128 : Nat) : Int) := by
  have h1 : (BitVec.ofInt 64 (z : Int)).toNat = z := by
    rw [BitVec.ofInt_natCast, BitVec.toNat_ofNat]; exact Nat.mod_eq_of_lt (by omega)
  have h2 : z &&& 127 = z % 128 := Nat.and_two_pow_sub_one_eq_mod z 7
  show IntKind.i64.wrap ((BitVec.ofInt 64 (z : Int) &&& BitVec.ofInt 64 127).toNat : Int) = _
  rw [BitVec.toNat_and, h1, show (BitVec.ofInt 64 127).toNat = 127 from by decide, h2, IntKind.wrap_i64]
  omega
/-- The steps in the walk's words. -/
theorem intSteps (x : Nat) (hx : x < 18446744073709551616) : ∃ p1 p2 a p3 p4 b c z z1 z2 z3 : Nat, bits .and .u64 ((x : Int) / 2) 6148914691236517205 = (p1 : Int) ∧ bits .and .u64 (x : Int) 6148914691236517205 = (p2 : Int) ∧ IntKind.u64.wrap ((p1 : Int) + p2) = (a : Int) ∧
    bits .and .u64 ((a : Int) / 4) 3689348814741910323 = (p3 : Int) ∧ bits .and .u64 (a : Int) 3689348814741910323 = (p4 : Int) ∧ IntKind.u64.wrap ((p3 : Int) + p4) = (b : Int) ∧ IntKind.u64.wrap ((b : Int) / 16 + b) = (c : Int) ∧ bits .and .u64 (c : Int) 1085102592571150095 = (z : Int) ∧
    IntKind.u64.wrap ((z : Int) + (z : Int) / 256) = (z1 : Int) ∧ IntKind.u64.wrap ((z1 : Int) + (z1 : Int) / 65536) = (z2 : Int) ∧ IntKind.u64.wrap ((z2 : Int) + (z2 : Int) / 4294967296) = (z3 : Int) ∧ IntKind.i64.wrap (z3 : Int) = (z3 : Int) ∧ bits .and .i64 (z3 : Int) 127 = (pop x : Int) := by
  obtain ⟨z, hz, h1, h2, h3, h4, h5, h6, h7⟩ := steps x hx
  have e7 := and_127 _ h6
  rw [h7] at e7
  refine ⟨_, _, step1 x, _, _, step2 (step1 x), step2 (step1 x) / 16 + step2 (step1 x), z, z + z / 256, z + z / 256 + (z + z / 256) / 65536, z + z / 256 + (z + z / 256) / 65536 + (z + z / 256 + (z + z / 256) / 65536) / 4294967296, and_int (x / 2) 6148914691236517205 (by omega) (by decide), and_int x 6148914691236517205 hx (by decide), ?_, and_int (step1 x / 4) 3689348814741910323 (by omega) (by decide), and_int (step1 x) 3689348814741910323 h1 (by decide), ?_, ?_, ?_, ?_, ?_, ?_, ?_, e7⟩
  · exact wrap_nat h1
  · exact wrap_nat h2
  · exact wrap_nat h3
  · rw [← hz]; exact and_int _ 1085102592571150095 h3 (by decide)
  · exact wrap_nat h4
  · exact wrap_nat h5
  · exact wrap_nat (Nat.lt_trans h6 (by decide))
  · rw [IntKind.wrap_i64]; omega
set_option maxHeartbeats 1000000 in
theorem onesC (x : Nat) (hx : x < 18446744073709551616) (w : World) : Calls Tryd.prog 35 #[.int .u64 (x : Int)] w fun e w' => e = .returned (.int .i64 (pop x : Int)) ∧ w' = w := by
  obtain ⟨p1, p2, a, p3, p4, b, c, z, z1, z2, z3, e1, e2, e3, e4, e5, e6, e7, e8, e9, e10, e11, e12, e13⟩ := intSteps x hx
  generalize (pop x : Int) = r at *
  go_enter Tryd.func35, Tryd.ntmps35
  go_wp2_with fail
  go_ret
  exact ⟨rfl, rfl⟩
end Go.Proofs.YtpgkikondihplaaDoor.Bt
