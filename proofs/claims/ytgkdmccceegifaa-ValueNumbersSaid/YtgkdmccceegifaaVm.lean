/- Values as plain Lean data, and what package value's functions come to, as plain Lean functions. No Go here. No condition. -/
import Derived.WalkKit
import Derived.Lib.Strings
import Derived.Shelf.Small.Strs
namespace Go.Proofs.Ytgkdmccceegifaa.Vm
open Go.RowKit

structure V where
  k : Int
  n : Int
  t : ByteArray
  deriving DecidableEq
def e0 : ByteArray := ⟨#[]⟩
def V.zero : V := ⟨0, 0, ⟨#[]⟩⟩
def b2i (b : Bool) : Int := if b then 1 else 0
def truth (b : Bool) : V := ⟨2, b2i b, ⟨#[]⟩⟩
def num (n : Int) : V := ⟨1, n, ⟨#[]⟩⟩
def text (t : ByteArray) : V := ⟨3, 0, t⟩
def yes (v : V) : Bool := v.k == 2 && v.n != 0
def order (a b : V) : Int :=
  if a.k = 3 then Lib.compareBytes a.t.data.toList b.t.data.toList
  else if a.n < b.n then -1 else if b.n < a.n then 1 else 0
def equal (a b : V) : Bool := if a.k = 2 then yes a == yes b else order a b == 0
def lo : Int := -9223372036854775808
def mul (a b : Int) : Int × Bool :=
  if a = 0 ∨ b = 0 then (0, true)
  else if (a = -1 ∧ b = lo) ∨ (b = -1 ∧ a = lo) then (0, false)
  else (wrap64 (a * b), wrap64 ((wrap64 (a * b)).tdiv b) == a)
def whole (a b : Int) : Bool := a != lo || b != -1
def opn (op a b : Int) : Int × Bool :=
  if op = 5 then mul a b
  else if op = 6 then (wrap64 (a.tdiv b), whole a b)
  else if op = 7 then (a.tmod b, whole a b)
  else if op = 8 then (wrap64 (a + b), decide (wrap64 (a + b) < a) == decide (b < 0))
  else (wrap64 (a - b), decide (a < wrap64 (a - b)) == decide (b < 0))
def numbers (op a b : Int) : V × Int :=
  if b = 0 ∧ (op = 6 ∨ op = 7) then (V.zero, 21)
  else if (opn op a b).2 then (num (opn op a b).1, 0) else (V.zero, 20)
def ints (a b : V) : Bool := a.k == 1 && b.k == 1
def texts (a b : V) : Bool := a.k == 3 && b.k == 3
def truths (a b : V) : Bool := a.k == 2 && b.k == 2
def fits (op : Int) (a b : V) : Bool :=
  if op = 5 ∨ op = 6 ∨ op = 7 ∨ op = 15 then ints a b
  else if op = 8 ∨ op = 9 ∨ op = 10 then ints a b || texts a b
  else if op = 11 ∨ op = 12 then ints a b || texts a b || truths a b
  else truths a b
def two (op : Int) (a b : V) : V × Int :=
  if op < 5 ∨ 15 < op then (V.zero, 4)
  else if fits op a b = false then (V.zero, 23)
  else if op = 9 then (truth (decide (order a b < 0)), 0)
  else if op = 10 then (truth (decide (order a b ≤ 0)), 0)
  else if op = 11 then (truth (equal a b), 0)
  else if op = 12 then (truth (!equal a b), 0)
  else if op = 13 then (truth (yes a && yes b), 0)
  else if op = 14 then (truth (yes a || yes b), 0)
  else if texts a b = false then numbers op a.n b.n
  else if 40 < a.t.size ∨ 40 - (a.t.size : Int) < b.t.size then (V.zero, 20)
  else (text (a.t ++ b.t), 0)
def one (op : Int) (v : V) : V × Int :=
  if op = 3 then (if v.k = 1 then numbers 15 0 v.n else (V.zero, 23))
  else if op = 4 then (if v.k = 2 then (truth (!yes v), 0) else (V.zero, 23))
  else if op = 16 then (if v.k = 3 then (num (v.t.size : Int), 0) else (V.zero, 23))
  else (V.zero, 4)
end Go.Proofs.Ytgkdmccceegifaa.Vm
