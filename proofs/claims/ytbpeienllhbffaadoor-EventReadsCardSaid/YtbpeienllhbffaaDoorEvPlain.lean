/-
  Layer 22 (event): an event, the forms of kinds, its line, in plain Lean.
-/
import Derived.Lib.ItoaNum
namespace Go.Proofs.YtbpeienllhbffaaDoor
set_option linter.unusedSimpArgs false
set_option linter.unusedVariables false
open Go

structure EV where
  kind : Int
  sp : Int
  num : Int
  n : Int
deriving DecidableEq
def evC (e : EV) : Array Value := #[.int .i64 e.kind, .int .i64 e.sp, .int .i64 e.num, .int .i64 e.n]
def EV.get (e : EV) : Nat → Int
  | 0 => e.kind
  | 1 => e.sp
  | 2 => e.num
  | _ => e.n
def EV.set (e : EV) (j : Nat) (v : Int) : EV := match j with
  | 0 => { e with kind := v }
  | 1 => { e with sp := v }
  | 2 => { e with num := v }
  | _ => { e with n := v }
def zeroEV : EV := ⟨0, 0, 0, 0⟩
/-- A field: which one, from where to where. -/
structure Fd where
  j : Nat
  lo : Int
  hi : Int
def fSp : Fd := ⟨1, 0, 2⟩
def fNum : Fd := ⟨2, 0, 9007199254740991⟩
def fSize : Fd := ⟨3, 1, 65535⟩
def wordF : Nat → ByteArray
  | 1 => ⟨#[97, 99, 107, 101, 100]⟩
  | 2 => ⟨#[108, 111, 115, 116]⟩
  | 3 => ⟨#[112, 114, 111, 98, 101]⟩
  | 4 => ⟨#[119, 105, 110, 100, 111, 119]⟩
  | 5 => ⟨#[99, 111, 108, 108, 97, 112, 115, 101]⟩
  | _ => ⟨#[99, 108, 111, 115, 101, 100]⟩
def fieldsF : Nat → List Fd
  | 1 => [fSp, fNum, fSize]
  | 2 => [fSp, fNum, fSize]
  | 3 => [fSp, ⟨3, 1, 2⟩]
  | 4 => [⟨3, 2400, 1099511627776⟩]
  | 5 => [fSp]
  | _ => [⟨3, 1, 999⟩]
/-- The kind of a number: one of six. -/
def kindOf (k : Int) : Option Nat := if 1 ≤ k ∧ k ≤ 6 then some k.toNat else none
def inF (e : EV) (f : Fd) : Bool := decide (f.lo ≤ e.get f.j) && decide (e.get f.j ≤ f.hi)
/-- What is left of an event when its kind and fields are struck. -/
def strike (e : EV) (fs : List Fd) : EV := fs.foldl (fun x f => x.set f.j 0) { e with kind := 0 }
def okEV (e : EV) : Bool := match kindOf e.kind with
  | none => false
  | some k => (fieldsF k).all (inF e) && decide (strike e (fieldsF k) = zeroEV)
def errEV (e : EV) : Int := if okEV e then 0 else 2
/-- The numbers of a line, each behind a blank. -/
def numsL (e : EV) (fs : List Fd) : List UInt8 := fs.flatMap fun f => 32 :: Lib.itoa (e.get f.j)
def lineE (e : EV) : List UInt8 := match kindOf e.kind with
  | none => []
  | some k => (wordF k).data.toList ++ numsL e (fieldsF k) ++ [10]
end Go.Proofs.YtbpeienllhbffaaDoor
