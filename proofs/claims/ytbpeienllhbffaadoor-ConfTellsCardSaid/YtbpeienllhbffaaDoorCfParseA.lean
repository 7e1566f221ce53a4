/-
  conf.Parse: what is known at a line.
-/
import Derived.Test.YtbpeienllhbffaaDoorCfParsePlain
import Derived.Test.YtbpeienllhbffaaDoorCfWords
import Derived.Maps.Own
import Derived.WalkMore
import Derived.StringKeys
import Derived.Maps.OwnOps
import Derived.Maps.Views
namespace Go.Proofs.YtbpeienllhbffaaDoor
set_option linter.unusedSimpArgs false
set_option linter.unusedVariables false
open Go.RowKit Go.Shelf Go.WideMaps Go.Maps

def parseE (x : CF × Int × Int) : Ending := .returned (.tuple #[.agg (confC x.1), .int .i64 x.2.1, .int .i64 x.2.2])
theorem strLaw : Keyed Tryd.prog 9 := string_keyed Tryd.underlying9
theorem zeroInt (w : World) : (zeroValue 3).run Tryd.prog w = .ok (.int .i64 0) w := by kernel_rfl
/-- The map of the words that were had, n entries at most. -/
def HadAt (w : World) (M : Nat) (had : List ByteArray) (n : Nat) : Prop := ∃ D : DataW Unit, w.ownsMap Tryd.prog 9 (plainElem Tryd.prog 3) M n D ∧ ∀ s : ByteArray, s.size ≤ maxLen → D.atKey (.string s.data.toList) (.lit (.int .i64 0)) = .lit (.int .i64 (if memB s had then 1 else 0))
theorem HadAt.kept {w w' : World} {M n : Nat} {had : List ByteArray} {row : Option Nat} (h : HadAt w M had n) (hg : w.grownBy w' row) (hne : some M ≠ row) : HadAt w' M had n := by
  obtain ⟨D, h1, h2⟩ := h
  exact ⟨D, h1.kept hg hne, h2⟩
theorem grown_of_below {w w' : World} (hb : Below w.heap.size w w') (row : Option Nat) : w.grownBy w' row := ⟨hb.os, hb.tape, hb.output, hb.size, fun k hk _ => hb.block k hk⟩
theorem HadAt.mono {w : World} {M n n' : Nat} {had : List ByteArray} (h : HadAt w M had n) (hn : n ≤ n') : HadAt w M had n' := by
  obtain ⟨D, h1, h2⟩ := h
  exact ⟨D, h1.mono hn, h2⟩
theorem HadAt.below {w w' : World} {M n : Nat} {had : List ByteArray} (h : HadAt w M had n) (hb : Below w.heap.size w w') : HadAt w' M had n := h.kept (grown_of_below hb none) (by simp)
theorem setCell_same {W : World} {rb t j : Nat} {cs : Array Value} {v : Value} (h : Blk W rb t cs) (hj : cs[j]? = some v) : W.setCell ⟨rb, j, none⟩ v = W := by
  have e : cs.setIfInBounds j v = cs := by
    apply Array.ext_getElem?
    intro i
    rw [Array.getElem?_setIfInBounds]
    by_cases hi : j = i
    · subst hi
      rw [if_pos rfl, hj, if_pos (Array.getElem?_eq_some_iff.1 hj).1]
    · rw [if_neg hi]
  have hB := (h.set j v).eq e
  unfold World.setCell
  congr 1
  apply Array.ext_getElem?
  intro i
  by_cases hi : i = rb
  · subst hi
    have h1 : (World.setCell W ⟨i, j, none⟩ v).heap[i]? = W.heap[i]? := by rw [show (World.setCell W ⟨i, j, none⟩ v).heap[i]? = _ from hB]; exact h.symm
    exact h1
  · have h1 := (Only.setCell (S := [rb]) (Only.refl _ W) (p := ⟨rb, j, none⟩) (.inl (by simp)) v)
    rcases Nat.lt_or_ge i W.heap.size with hl | hl
    · exact h1.block i hl (by simpa using hi)
    · have h2 : (World.setCell W ⟨rb, j, none⟩ v).heap.size = W.heap.size := by simp [World.setCell]
      show (World.setCell W ⟨rb, j, none⟩ v).heap[i]? = W.heap[i]?
      rw [Array.getElem?_eq_none hl, Array.getElem?_eq_none (by omega)]
theorem chain_blk {W : World} {rb : Nat} {c : CF} {v1 v2 v3 v4 v5 v6 v7 v8 v9 : Int} {b : Bool} (h : Blk W rb 46 (confC c)) : Blk ((((((((((W.setCell ⟨rb, 1, none⟩ (.int .i64 v1)).setCell ⟨rb, 2, none⟩ (.int .i64 v2)).setCell ⟨rb, 3, none⟩ (.int .i64 v3)).setCell ⟨rb, 4, none⟩ (.int .i64 v4)).setCell ⟨rb, 5, none⟩ (.int .i64 v5)).setCell ⟨rb, 6, none⟩ (.int .i64 v6)).setCell ⟨rb, 7, none⟩ (.int .i64 v7)).setCell ⟨rb, 8, none⟩ (.int .i64 v8)).setCell ⟨rb, 9, none⟩ (.int .i64 v9)).setCell ⟨rb, 0, none⟩ (.bool b)) rb 46 #[.bool b, .int .i64 v1, .int .i64 v2, .int .i64 v3, .int .i64 v4, .int .i64 v5, .int .i64 v6, .int .i64 v7, .int .i64 v8, .int .i64 v9] :=
  ((((((((((h.set 1 (.int .i64 v1)).set 2 (.int .i64 v2)).set 3 (.int .i64 v3)).set 4 (.int .i64 v4)).set 5 (.int .i64 v5)).set 6 (.int .i64 v6)).set 7 (.int .i64 v7)).set 8 (.int .i64 v8)).set 9 (.int .i64 v9)).set 0 (.bool b)).eq (by simp [confC])
theorem chain_only {W : World} {rb : Nat} {v1 v2 v3 v4 v5 v6 v7 v8 v9 : Int} {b : Bool} : Only [rb] W ((((((((((W.setCell ⟨rb, 1, none⟩ (.int .i64 v1)).setCell ⟨rb, 2, none⟩ (.int .i64 v2)).setCell ⟨rb, 3, none⟩ (.int .i64 v3)).setCell ⟨rb, 4, none⟩ (.int .i64 v4)).setCell ⟨rb, 5, none⟩ (.int .i64 v5)).setCell ⟨rb, 6, none⟩ (.int .i64 v6)).setCell ⟨rb, 7, none⟩ (.int .i64 v7)).setCell ⟨rb, 8, none⟩ (.int .i64 v8)).setCell ⟨rb, 9, none⟩ (.int .i64 v9)).setCell ⟨rb, 0, none⟩ (.bool b)) :=
  (((((((((((Only.refl [rb] W).setCell (p := ⟨rb, 1, none⟩) (.inl (by simp)) (.int .i64 v1)).setCell (p := ⟨rb, 2, none⟩) (.inl (by simp)) (.int .i64 v2)).setCell (p := ⟨rb, 3, none⟩) (.inl (by simp)) (.int .i64 v3)).setCell (p := ⟨rb, 4, none⟩) (.inl (by simp)) (.int .i64 v4)).setCell (p := ⟨rb, 5, none⟩) (.inl (by simp)) (.int .i64 v5)).setCell (p := ⟨rb, 6, none⟩) (.inl (by simp)) (.int .i64 v6)).setCell (p := ⟨rb, 7, none⟩) (.inl (by simp)) (.int .i64 v7)).setCell (p := ⟨rb, 8, none⟩) (.inl (by simp)) (.int .i64 v8)).setCell (p := ⟨rb, 9, none⟩) (.inl (by simp)) (.int .i64 v9)).setCell (p := ⟨rb, 0, none⟩) (.inl (by simp)) (.bool b))
theorem chain0_blk {W : World} {rb : Nat} {c : CF} (h : Blk W rb 46 (confC c)) : Blk (World.setCell (World.setCell (World.setCell (World.setCell (World.setCell (World.setCell (World.setCell (World.setCell (World.setCell (World.setCell W ⟨rb, 0, none⟩ (.bool false)) ⟨rb, 1, none⟩ (.int .i64 0)) ⟨rb, 2, none⟩ (.int .i64 0)) ⟨rb, 3, none⟩ (.int .i64 0)) ⟨rb, 4, none⟩ (.int .i64 0)) ⟨rb, 5, none⟩ (.int .i64 0)) ⟨rb, 6, none⟩ (.int .i64 0)) ⟨rb, 7, none⟩ (.int .i64 0)) ⟨rb, 8, none⟩ (.int .i64 0)) ⟨rb, 9, none⟩ (.int .i64 0)) rb 46 (confC zeroCF) :=
  Blk.eq (Blk.set (Blk.set (Blk.set (Blk.set (Blk.set (Blk.set (Blk.set (Blk.set (Blk.set (Blk.set h 0 (.bool false)) 1 (.int .i64 0)) 2 (.int .i64 0)) 3 (.int .i64 0)) 4 (.int .i64 0)) 5 (.int .i64 0)) 6 (.int .i64 0)) 7 (.int .i64 0)) 8 (.int .i64 0)) 9 (.int .i64 0)) (by simp [confC, zeroCF])
theorem chain0_only {W : World} {rb : Nat} : Only [rb] W (World.setCell (World.setCell (World.setCell (World.setCell (World.setCell (World.setCell (World.setCell (World.setCell (World.setCell (World.setCell W ⟨rb, 0, none⟩ (.bool false)) ⟨rb, 1, none⟩ (.int .i64 0)) ⟨rb, 2, none⟩ (.int .i64 0)) ⟨rb, 3, none⟩ (.int .i64 0)) ⟨rb, 4, none⟩ (.int .i64 0)) ⟨rb, 5, none⟩ (.int .i64 0)) ⟨rb, 6, none⟩ (.int .i64 0)) ⟨rb, 7, none⟩ (.int .i64 0)) ⟨rb, 8, none⟩ (.int .i64 0)) ⟨rb, 9, none⟩ (.int .i64 0)) :=
  (Only.setCell (Only.setCell (Only.setCell (Only.setCell (Only.setCell (Only.setCell (Only.setCell (Only.setCell (Only.setCell (Only.setCell (Only.refl [rb] W) (p := ⟨rb, 0, none⟩) (.inl (by simp)) (.bool false)) (p := ⟨rb, 1, none⟩) (.inl (by simp)) (.int .i64 0)) (p := ⟨rb, 2, none⟩) (.inl (by simp)) (.int .i64 0)) (p := ⟨rb, 3, none⟩) (.inl (by simp)) (.int .i64 0)) (p := ⟨rb, 4, none⟩) (.inl (by simp)) (.int .i64 0)) (p := ⟨rb, 5, none⟩) (.inl (by simp)) (.int .i64 0)) (p := ⟨rb, 6, none⟩) (.inl (by simp)) (.int .i64 0)) (p := ⟨rb, 7, none⟩) (.inl (by simp)) (.int .i64 0)) (p := ⟨rb, 8, none⟩) (.inl (by simp)) (.int .i64 0)) (p := ⟨rb, 9, none⟩) (.inl (by simp)) (.int .i64 0))
theorem conf_facts {W : World} {rb : Nat} {c : CF} (h : Blk W rb 46 (confC c)) : W.cell? ⟨rb, 0, none⟩ = some (.bool c.sv) ∧ W.cell? ⟨rb, 1, none⟩ = some (.int .i64 c.d) ∧ W.cell? ⟨rb, 2, none⟩ = some (.int .i64 c.first) ∧ W.cell? ⟨rb, 3, none⟩ = some (.int .i64 c.most) ∧ W.cell? ⟨rb, 4, none⟩ = some (.int .i64 c.rtt) ∧ W.cell? ⟨rb, 5, none⟩ = some (.int .i64 c.delay) ∧ W.cell? ⟨rb, 6, none⟩ = some (.int .i64 c.ex) ∧ W.cell? ⟨rb, 7, none⟩ = some (.int .i64 c.burst) ∧ W.cell? ⟨rb, 8, none⟩ = some (.int .i64 c.room) ∧ W.cell? ⟨rb, 9, none⟩ = some (.int .i64 c.backs) ∧ W.frozen? ⟨rb, 0, none⟩ = false ∧ W.frozen? ⟨rb, 1, none⟩ = false ∧ W.frozen? ⟨rb, 2, none⟩ = false ∧ W.frozen? ⟨rb, 3, none⟩ = false ∧ W.frozen? ⟨rb, 4, none⟩ = false ∧ W.frozen? ⟨rb, 5, none⟩ = false ∧ W.frozen? ⟨rb, 6, none⟩ = false ∧ W.frozen? ⟨rb, 7, none⟩ = false ∧ W.frozen? ⟨rb, 8, none⟩ = false ∧ W.frozen? ⟨rb, 9, none⟩ = false ∧ W.setCell ⟨rb, 0, none⟩ (.bool c.sv) = W ∧ W.setCell ⟨rb, 1, none⟩ (.int .i64 c.d) = W ∧ W.setCell ⟨rb, 2, none⟩ (.int .i64 c.first) = W ∧ W.setCell ⟨rb, 3, none⟩ (.int .i64 c.most) = W ∧ W.setCell ⟨rb, 4, none⟩ (.int .i64 c.rtt) = W ∧ W.setCell ⟨rb, 5, none⟩ (.int .i64 c.delay) = W ∧ W.setCell ⟨rb, 6, none⟩ (.int .i64 c.ex) = W ∧ W.setCell ⟨rb, 7, none⟩ (.int .i64 c.burst) = W ∧ W.setCell ⟨rb, 8, none⟩ (.int .i64 c.room) = W ∧ W.setCell ⟨rb, 9, none⟩ (.int .i64 c.backs) = W :=
  ⟨h.cell 0, h.cell 1, h.cell 2, h.cell 3, h.cell 4, h.cell 5, h.cell 6, h.cell 7, h.cell 8, h.cell 9, h.frozen 0, h.frozen 1, h.frozen 2, h.frozen 3, h.frozen 4, h.frozen 5, h.frozen 6, h.frozen 7, h.frozen 8, h.frozen 9, setCell_same h rfl, setCell_same h rfl, setCell_same h rfl, setCell_same h rfl, setCell_same h rfl, setCell_same h rfl, setCell_same h rfl, setCell_same h rfl, setCell_same h rfl, setCell_same h rfl⟩
theorem zero_facts {W : World} {rb : Nat} (h : Blk W rb 46 (confC zeroCF)) : W.cell? ⟨rb, 0, none⟩ = some (.bool false) ∧ W.cell? ⟨rb, 1, none⟩ = some (.int .i64 0) ∧ W.cell? ⟨rb, 2, none⟩ = some (.int .i64 0) ∧ W.cell? ⟨rb, 3, none⟩ = some (.int .i64 0) ∧ W.cell? ⟨rb, 4, none⟩ = some (.int .i64 0) ∧ W.cell? ⟨rb, 5, none⟩ = some (.int .i64 0) ∧ W.cell? ⟨rb, 6, none⟩ = some (.int .i64 0) ∧ W.cell? ⟨rb, 7, none⟩ = some (.int .i64 0) ∧ W.cell? ⟨rb, 8, none⟩ = some (.int .i64 0) ∧ W.cell? ⟨rb, 9, none⟩ = some (.int .i64 0) ∧ W.frozen? ⟨rb, 0, none⟩ = false ∧ W.frozen? ⟨rb, 1, none⟩ = false ∧ W.frozen? ⟨rb, 2, none⟩ = false ∧ W.frozen? ⟨rb, 3, none⟩ = false ∧ W.frozen? ⟨rb, 4, none⟩ = false ∧ W.frozen? ⟨rb, 5, none⟩ = false ∧ W.frozen? ⟨rb, 6, none⟩ = false ∧ W.frozen? ⟨rb, 7, none⟩ = false ∧ W.frozen? ⟨rb, 8, none⟩ = false ∧ W.frozen? ⟨rb, 9, none⟩ = false ∧ W.setCell ⟨rb, 0, none⟩ (.bool false) = W ∧ W.setCell ⟨rb, 1, none⟩ (.int .i64 0) = W ∧ W.setCell ⟨rb, 2, none⟩ (.int .i64 0) = W ∧ W.setCell ⟨rb, 3, none⟩ (.int .i64 0) = W ∧ W.setCell ⟨rb, 4, none⟩ (.int .i64 0) = W ∧ W.setCell ⟨rb, 5, none⟩ (.int .i64 0) = W ∧ W.setCell ⟨rb, 6, none⟩ (.int .i64 0) = W ∧ W.setCell ⟨rb, 7, none⟩ (.int .i64 0) = W ∧ W.setCell ⟨rb, 8, none⟩ (.int .i64 0) = W ∧ W.setCell ⟨rb, 9, none⟩ (.int .i64 0) = W :=
  ⟨h.cell 0, h.cell 1, h.cell 2, h.cell 3, h.cell 4, h.cell 5, h.cell 6, h.cell 7, h.cell 8, h.cell 9, h.frozen 0, h.frozen 1, h.frozen 2, h.frozen 3, h.frozen 4, h.frozen 5, h.frozen 6, h.frozen 7, h.frozen 8, h.frozen 9, setCell_same h rfl, setCell_same h rfl, setCell_same h rfl, setCell_same h rfl, setCell_same h rfl, setCell_same h rfl, setCell_same h rfl, setCell_same h rfl, setCell_same h rfl, setCell_same h rfl⟩
theorem first_byte {w0 : ByteArray} (h : 0 < w0.size) : ((w0[0].toNat : Int) == 35) = decide (w0.data.toList.head? = some 35) := by
  obtain ⟨⟨l⟩⟩ := w0
  cases l with
  | nil => exact absurd h (by decide)
  | cons b t =>
    show (((b.toNat : Nat) : Int) == 35) = decide (some b = some 35)
    by_cases hb : b = 35
    · subst hb
      rfl
    · rw [decide_eq_false (fun e => hb (Option.some.inj e)), beq_eq_false_iff_ne]
      intro e
      apply hb
      have : b.toNat = 35 := by omega
      exact UInt8.toNat_inj.1 this
theorem ownsMap_isMap {w : World} {P : Program} {k : TypeId} {R : Value → Option (DataW Unit × List MemPlace)} {b n : Nat} {D : DataW Unit} (h : w.ownsMap P k R b n D) : IsMap D := by
  obtain ⟨es, clock, _, _, _, hD⟩ := h
  exact ⟨_, hD⟩
theorem HadAt.put {w8 : World} {M n : Nat} {had : List ByteArray} {D : DataW Unit} {w0 : ByteArray} (hD : IsMap D) (hat : ∀ s : ByteArray, s.size ≤ maxLen → D.atKey (.string s.data.toList) (.lit (.int .i64 0)) = .lit (.int .i64 (if memB s had then 1 else 0)))
    (h : w8.ownsMap Tryd.prog 9 (plainElem Tryd.prog 3) M n (D.put (.string w0.data.toList) (.lit (.int .i64 1)))) : HadAt w8 M (had ++ [w0]) n := by
  refine ⟨_, h, fun s hs => ?_⟩
  have hm : memB s (had ++ [w0]) = (memB s had || decide (w0 = s)) := by simp [memB]
  by_cases he : w0 = s
  · subst he
    rw [atKey_put_same hD (by trivial), hm]
    simp
  · rw [atKey_put_other (fun e => he (ba_eq (by injection e with e; exact e.symm))), hat s hs, hm, decide_eq_false he, Bool.or_false]
/-- What is known at a line. -/
structure PaAt (w W : World) (xb M A LB : Nat) (ls : List ByteArray) (st : PSt) (n : Nat) : Prop where
  env : Env W
  fs : FieldsAt W xb false st.vs
  had : HadAt W M st.had n
  nm : NamesAt W A
  ln : StrsAt W LB ls
  rb : Blk W w.heap.size 46 (confC zeroCF)
  bl : Below w.heap.size w W
  ge : w.heap.size < xb ∧ xb < M ∧ M < A ∧ A < LB
  six : 6 ≤ w.heap.size
section
variable {w W W' : World} {xb M A LB n : Nat} {ls : List ByteArray} {st : PSt}
theorem PaAt.below (h : PaAt w W xb M A LB ls st n) (hb : Below W.heap.size W W') : PaAt w W' xb M A LB ls st n := ⟨h.env.later hb, h.fs.below hb, h.had.below hb, h.nm.below hb, h.ln.below hb, (hb.block _ h.rb.lt).trans h.rb, below2 h.bl hb, h.ge, h.six⟩
theorem PaAt.mono {n' : Nat} (h : PaAt w W xb M A LB ls st n) (hn : n ≤ n') : PaAt w W xb M A LB ls st n' := ⟨h.env, h.fs, h.had.mono hn, h.nm, h.ln, h.rb, h.bl, h.ge, h.six⟩
theorem PaAt.lt (h : PaAt w W xb M A LB ls st n) : M < W.heap.size ∧ xb < W.heap.size ∧ LB < W.heap.size := by
  have h1 := h.ln.1
  have h2 := h.ge
  omega
/-- A number is stored. -/
theorem PaAt.put (h : PaAt w W xb M A LB ls st n) {i : Nat} (hi : i < 10) (x : Int) : PaAt w (W.setCell ⟨xb, offF i, none⟩ (.int .i64 x)) xb M A LB ls ⟨st.vs.set i x, st.had⟩ n := by
  have hg := h.ge
  have h6 := h.six
  have ho : Only [xb] W (W.setCell ⟨xb, offF i, none⟩ (.int .i64 x)) := (Only.refl _ _).setCell (.inl (by simp)) _
  have hgr : W.grownBy (W.setCell ⟨xb, offF i, none⟩ (.int .i64 x)) (some xb) := ⟨ho.os, ho.tape, ho.output, ho.size, fun k hk hne => ho.block k hk (fun hm => by simp at hm; subst hm; exact hne rfl)⟩
  refine ⟨h.env.only ho (fun x hx => by simp at hx; omega), h.fs.put hi x, h.had.kept hgr (fun e => by cases e; omega), h.nm.only ho (by simp; omega), h.ln.only ho (by simp; omega), ho.blk h.rb (by simp; omega), h.bl.trans (ho.below (fun x hx => by simp at hx; omega) h.bl.size), h.ge, h.six⟩
/-- The map is written. -/
theorem PaAt.grow (h : PaAt w W xb M A LB ls st n) {had' : List ByteArray} {n' : Nat} (hg : W.grownBy W' (some M)) (hh : HadAt W' M had' n') : PaAt w W' xb M A LB ls ⟨st.vs, had'⟩ n' := by
  have hge := h.ge
  have h6 := h.six
  have ho : Only [M] W W' := ⟨hg.os, hg.tape, hg.output, hg.size, fun k hk hm => hg.block k hk (fun e => by cases e; simp at hm)⟩
  exact ⟨h.env.only ho (fun x hx => by simp at hx; omega), ⟨h.fs.len, ho.blk h.fs.blk (by simp; omega)⟩, hh, h.nm.only ho (by simp; omega), h.ln.only ho (by simp; omega), ho.blk h.rb (by simp; omega), h.bl.trans (ho.below (fun x hx => by simp at hx; omega) h.bl.size), h.ge, h.six⟩
/-- Behind the map's turn, whatever it holds: all but the map. -/
structure PaLeft (w W : World) (xb M A LB : Nat) (ls : List ByteArray) (st : PSt) : Prop where
  env : Env W
  fs : FieldsAt W xb false st.vs
  nm : NamesAt W A
  ln : StrsAt W LB ls
  rb : Blk W w.heap.size 46 (confC zeroCF)
  bl : Below w.heap.size w W
theorem PaAt.left (h : PaAt w W xb M A LB ls st n) (hg : W.grownBy W' (some M)) : PaLeft w W' xb M A LB ls st := by
  have hge := h.ge
  have h6 := h.six
  have ho : Only [M] W W' := ⟨hg.os, hg.tape, hg.output, hg.size, fun k hk hm => hg.block k hk (fun e => by cases e; simp at hm)⟩
  exact ⟨h.env.only ho (fun x hx => by simp at hx; omega), ⟨h.fs.len, ho.blk h.fs.blk (by simp; omega)⟩, h.nm.only ho (by simp; omega), h.ln.only ho (by simp; omega), ho.blk h.rb (by simp; omega), h.bl.trans (ho.below (fun x hx => by simp at hx; omega) h.bl.size)⟩
end
end Go.Proofs.YtbpeienllhbffaaDoor
