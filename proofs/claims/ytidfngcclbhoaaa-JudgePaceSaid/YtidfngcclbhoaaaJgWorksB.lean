/-
  sounderlaw24: works, what it finds, in plain Lean.
-/
import Derived.Test.YtidfngcclbhoaaaJgWorksA
namespace Go.Proofs.Ytidfngcclbhoaaa
set_option linter.unusedSimpArgs false
set_option linter.unusedVariables false
open Go.RowKit Go.Shelf
def aRow (a1 a2 : Nat) : RW := ⟨2, 9, 0, 0, ⟨0, 0, 0, false, false, false, false⟩, 0, some ⟨a1, 0, none⟩, 1, 1, false, 0, 0, 0, some ⟨a2, 0, none⟩, 2, 2, 0, 0⟩
def xS (n t : Int) : RR := ⟨sRow n t, [], []⟩
def xA (a1 a2 : Nat) : RR := ⟨aRow a1 a2, [⟨1, 0, 0, 1200⟩, ⟨4, 0, 0, 13200⟩], [⟨0, 0⟩]⟩
def kA : KN := K0 setC 3
def kB : KN := sentK { tellK kA (xS 0 0) with t := 0 } ⟨0, 0, 1200, true, true, false, false⟩ 0
def kC : KN := { c := setC, t := 9, window := 13200, got := 0, sent := addI 0 1200, valid := true, shut := false, flying := [], last := kB.last, top := fun j => if j = 0 then 0 else kA.top j, own := kA.own, told := false, pieces := [⟨0, 12000, 333000000⟩, ⟨9, 13200, 0⟩], paced := [⟨0, 1200⟩] }
def kI : Nat → KN
  | 0 => kA
  | 1 => kB
  | _ => kC
theorem step_s : rowQ (tellK kA (xS 0 0)) (xS 0 0) = .ok kB := by rfl
theorem step_a (a1 a2 : Nat) : ∃ k, rowQ (tellK kB (xA a1 a2)) (xA a1 a2) = .ok k ∧ k = kC := by
  refine ⟨_, rfl, ?_⟩
  rfl
theorem bad_ss : rowQ (tellK kB (xS 0 0)) (xS 0 0) = .error 4 := by rfl
theorem bad_a (a1 a2 : Nat) : rowQ (tellK kA (xA a1 a2)) (xA a1 a2) = .error 9 := by rfl
theorem bad_saa (a1 a2 : Nat) : rowQ (tellK kC (xA a1 a2)) (xA a1 a2) = .error 9 := by rfl
theorem bad_sas : rowQ (tellK kC (xS 1 8)) (xS 1 8) = .error 3 := by rfl
theorem ok_A (x : RR) : KnOk (tellK kA x) := by
  refine ⟨rfl, rfl, ?_, ?_, ?_, ?_, ?_, ?_, ?_, ?_⟩
  all_goals simp [tellK, kA, K0, setC, okPie]
theorem ok_B (x : RR) : KnOk (tellK kB x) := by
  refine ⟨rfl, rfl, ?_, ?_, ?_, ?_, ?_, ?_, ?_, ?_⟩
  all_goals simp [tellK, kB, kA, K0, setC, okPie, sentK, okP, okPcd]
theorem ok_C (x : RR) : KnOk (tellK kC x) := by
  refine ⟨rfl, rfl, ?_, ?_, ?_, ?_, ?_, ?_, ?_, ?_⟩
  all_goals simp [tellK, kC, setC, okPie, okPcd]
theorem row_s (k : KN) (n t : Int) (hn : 0 ≤ n ∧ n ≤ 100) (ht : 0 ≤ t ∧ t ≤ 100) (hd : k.c = setC) (hf : k.last 0 < n → flightP k.flying + 1200 ≤ k.window) : RowOk k (xS n t) := by
  refine ⟨rfl, rfl, by show (0 : Nat) ≤ 2000; omega, rfl, by show (0 : Nat) ≤ 2000; omega, rfl, ⟨ht.1, by show t ≤ _; omega⟩, .inl ⟨rfl, rfl, rfl, ⟨hn.1, by show n ≤ _; omega⟩, ⟨by show (1 : Int) ≤ 1200; omega, by rw [hd]; show (1200 : Int) ≤ 1200; omega⟩, rfl, rfl, hf⟩⟩
theorem row_a (k : KN) (a1 a2 : Nat) : RowOk k (xA a1 a2) := by
  refine ⟨rfl, rfl, by show (2 : Nat) ≤ 2000; omega, rfl, by show (1 : Nat) ≤ 2000; omega, rfl, ⟨by show (0 : Int) ≤ 9; omega, by show (9 : Int) ≤ _; omega⟩, .inr ⟨rfl, rfl, by simp [xA], ?_⟩⟩
  intro e he
  simp [xA] at he
  rcases he with rfl | rfl
  · exact .inl rfl
  · exact .inr rfl
theorem lie_blk {α : Type} {f : α → List Value} {k : Nat} {W : World} {g t : Nat} {l : List α} {cs : Array Value} (hf : ∀ x, (f x).length = k) (h : Blk W g t cs) (hc : cs = (l.flatMap f).toArray) : LieAt f k W W.heap.size (some ⟨g, 0, none⟩) l := by
  refine .inr ⟨g, 0, rfl, h.lt, fun i x hx j u hj hu => ?_⟩
  rw [Nat.zero_add, h.cell, hc, List.getElem?_toArray, flat_cell f k hf l i j hj, hx]
  exact hu
theorem rrL_length (x : RR) : (rrL x).length = 20 := rfl
theorem evL_length (x : EVJ) : (evL x).length = 4 := rfl
theorem rgL_length (x : RGJ) : (rgL x).length = 2 := rfl
/-- A list of rows whose states are known. -/
theorem finds_steps (ks : Nat → KN) (A : Option Addr) (n cap : Nat) (l : List RR) (row rule : Int) (w : World) (hn : l.length = n) (hl : n ≤ 1000) (hL : LieAt rrL 20 w w.heap.size A l)
    (hE : ∀ x ∈ l, LieAt evL 4 w w.heap.size x.r.ea x.es ∧ LieAt rgL 2 w w.heap.size x.r.ra x.rs) (h0 : K0 setC 3 = ks 0) (hk : ∀ i x, l[i]? = some x → KnOk (tellK (ks i) x) ∧ RowOk (tellK (ks i) x) x)
    (hst : ∀ i x, l[i]? = some x → rowQ (tellK (ks i) x) x = .ok (ks (i + 1)) ∨ ∃ m, rowQ (tellK (ks i) x) x = .error m ∧ 0 < m ∧ m ≤ 100) (hres : lookP rowQ (K0 setC 3) l 0 = (row, rule)) :
    Calls Try.prog 12 #[.slice A n cap, .int .i64 row, .int .i64 rule] w fun e w' => e = .returned (.bool true) ∧ Below w.heap.size w w' := by
  refine finds_yes (fun i k => k = ks i) rowQ A n cap l row rule w hn hl hL hE h0 ?_ ?_ ?_ hres
  · intro i x k b base W vf vp vd hq hx hK hE hR
    subst hq
    exact rowq_any b base _ vf vp vd x W hK hE hR (hk i x hx).1 (hk i x hx).2
  · intro i x k k' hq hx h
    subst hq
    rcases hst i x hx with h1 | ⟨m, h1, _⟩
    · rw [h1] at h
      injection h with h
      exact h.symm
    · rw [h1] at h
      cases h
  · intro i x k m hq hx h
    subst hq
    rcases hst i x hx with h1 | ⟨m', h1, h2⟩
    · rw [h1] at h
      cases h
    · rw [h1] at h
      injection h with h
      subst h
      exact h2
/-- What lies while works goes. -/
structure WkSt (w W : World) (X1 X2 a1 a2 : Nat) : Prop where
  s : Blk W X1 36 #[.int .i64 1, .int .i64 0, .int .i64 0, .int .i64 0, .int .i64 0, .int .i64 0, .int .i64 1200, .bool true, .bool true, .bool false, .bool false, .int .i64 0, .slice none 0 0, .bool false, .int .i64 0, .int .i64 0, .int .i64 0, .slice none 0 0, .int .i64 0, .int .i64 0]
  a : Blk W X2 36 #[.int .i64 2, .int .i64 9, .int .i64 0, .int .i64 0, .int .i64 0, .int .i64 0, .int .i64 0, .bool false, .bool false, .bool false, .bool false, .int .i64 0, .slice (some ⟨a1, 0, none⟩) 1 1, .bool false, .int .i64 0, .int .i64 0, .int .i64 0, .slice (some ⟨a2, 0, none⟩) 2 2, .int .i64 0, .int .i64 0]
  rg : Blk W a1 61 #[.int .i64 0, .int .i64 0]
  ev : Blk W a2 46 #[.int .i64 1, .int .i64 0, .int .i64 0, .int .i64 1200, .int .i64 4, .int .i64 0, .int .i64 0, .int .i64 13200]
  bl : Below w.heap.size w W
theorem WkSt.later {w W W' : World} {X1 X2 a1 a2 : Nat} (h : WkSt w W X1 X2 a1 a2) (hb : Below W.heap.size W W') : WkSt w W' X1 X2 a1 a2 :=
  ⟨(hb.block _ h.s.lt).trans h.s, (hb.block _ h.a.lt).trans h.a, (hb.block _ h.rg.lt).trans h.rg, (hb.block _ h.ev.lt).trans h.ev, h.bl.trans (hb.mono h.bl.size)⟩
theorem lie_s {W : World} {B : Nat} (n t : Int) : LieAt evL 4 W B (xS n t).r.ea (xS n t).es ∧ LieAt rgL 2 W B (xS n t).r.ra (xS n t).rs := ⟨.inl rfl, .inl rfl⟩
theorem WkSt.lie_a {w W : World} {X1 X2 a1 a2 : Nat} (h : WkSt w W X1 X2 a1 a2) : LieAt evL 4 W W.heap.size (xA a1 a2).r.ea (xA a1 a2).es ∧ LieAt rgL 2 W W.heap.size (xA a1 a2).r.ra (xA a1 a2).rs :=
  ⟨lie_blk evL_length h.ev rfl, lie_blk rgL_length h.rg rfl⟩
end Go.Proofs.Ytidfngcclbhoaaa
