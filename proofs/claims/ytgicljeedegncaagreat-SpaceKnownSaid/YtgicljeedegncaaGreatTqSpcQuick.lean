/-
 2 texts in one (SpcRep, SpcQuick).
-/
import Derived.Test.YtgicljeedegncaaGreatTqSentEq
import Derived.Test.YtgicljeedegncaaGreatTqSentPut
import Derived.Test.YtgicljeedegncaaGreatTqSpanSame
import Derived.Test.YtgicljeedegncaaGreatTqSentRef2
namespace Go.Proofs.YtgicljeedegncaaGreat
open Go.Value renaming int → ZI
open Go.IntKind renaming i64 → ZQ
set_option linter.unusedSimpArgs false
set_option linter.unusedVariables false
open Go.RowKit

/-- What a space holds. -/
structure SpSt where
 room : Nat
 last : Int
 ps : List Pk
 K : List Rg
 R : List Rg
 great : Int
 loss : Int
 time : Int

def spCells (lb kb mb : Nat) (great loss time : Int) : Array Value := #[.pointer (some ⟨lb, 0, none⟩), .pointer (some ⟨kb, 0, none⟩), .pointer (some ⟨mb, 0, none⟩), ZI ZQ great, ZI ZQ loss, ZI ZQ time]
/-- The blocks of a space. -/
structure Ft where
 b : Nat
 lb : Nat
 rb : Nat
 kb : Nat
 kg : Option Nat
 mb : Nat
 mg : Option Nat
def Ft.all (f : Ft) : List Nat := f.b :: f.lb :: f.rb :: f.kb :: f.mb :: (f.kg.toList ++ f.mg.toList)
def Ft.at (f : Ft) : Nat → Option Nat
 | 0 => some f.b
 | 1 => some f.lb
 | 2 => some f.rb
 | 3 => some f.kb
 | 4 => f.kg
 | 5 => some f.mb
 | 6 => f.mg
 | _ => none
/-- The blocks are different ones. -/
def Ft.Ne (f : Ft) : Prop := ∀ i j x, f.at i = some x → f.at j = some x → i = j
theorem Ft.mem_all (f : Ft) (x : Nat) : x ∈ f.all ↔ ∃ i, f.at i = some x := by
 simp only [Ft.all, List.mem_cons, List.mem_append, Option.mem_toList]
 constructor
 ·rintro (h | h | h | h | h | h | h)
  ·exact ⟨0, by rw [h]; rfl⟩
  ·exact ⟨1, by rw [h]; rfl⟩
  ·exact ⟨2, by rw [h]; rfl⟩
  ·exact ⟨3, by rw [h]; rfl⟩
  ·exact ⟨5, by rw [h]; rfl⟩
  ·exact ⟨4, h⟩
  ·exact ⟨6, h⟩
 ·rintro ⟨i, h⟩
  match i, h with
  | 0, h => cases h; exact .inl rfl
  | 1, h => cases h; exact .inr (.inl rfl)
  | 2, h => cases h; exact .inr (.inr (.inl rfl))
  | 3, h => cases h; exact .inr (.inr (.inr (.inl rfl)))
  | 4, h => exact .inr (.inr (.inr (.inr (.inr (.inl h)))))
  | 5, h => cases h; exact .inr (.inr (.inr (.inr (.inl rfl))))
  | 6, h => exact .inr (.inr (.inr (.inr (.inr (.inr h)))))
  | n + 7, h => cases h
theorem Ft.Ne.apart {f : Ft} (h : f.Ne) {i j x y : Nat} (hi : f.at i = some x) (hj : f.at j = some y) (hij : i ≠ j) : x ≠ y := fun e => hij (h i j x hi (by rw [e]; exact hj))
theorem Ft.Ne.turn {f f' : Ft} (h : f.Ne) (k n : Nat) (hlt : ∀ x ∈ f.all, x < n) (hsame : ∀ i, i ≠ k → f'.at i = f.at i) (hnew : ∀ x, f'.at k = some x → f.at k = some x ∨ n ≤ x) : f'.Ne := by
 have key : ∀ j x, j ≠ k → f'.at k = some x → f'.at j = some x → False := by
  intro j x hj h1 h2
  rw [hsame j hj] at h2
  rcases hnew x h1 with h3 | h3
  ·exact hj (h j k x h2 h3)
  ·have := hlt x ((f.mem_all x).2 ⟨j, h2⟩)
   omega
 intro i j x hi hj
 by_cases h1 : i = k
 ·by_cases h2 : j = k
  ·rw [h1, h2]
  ·subst h1
   exact (key j x h2 hi hj).elim
 ·by_cases h2 : j = k
  ·subst h2
   exact (key i x h1 hj hi).elim
  ·rw [hsame i h1] at hi
   rw [hsame j h2] at hj
   exact h i j x hi hj
theorem Ft.turn_new {f f' : Ft} (k n : Nat) (hsame : ∀ i, i ≠ k → f'.at i = f.at i) (hnew : ∀ x, f'.at k = some x → f.at k = some x ∨ n ≤ x) : ∀ x ∈ f'.all, x ∈ f.all ∨ n ≤ x := by
 intro x hx
 obtain ⟨i, hi⟩ := (f'.mem_all x).1 hx
 by_cases h : i = k
 ·subst h
  rcases hnew x hi with h | h
  ·exact .inl ((f.mem_all x).2 ⟨i, h⟩)
  ·exact .inr h
 ·rw [hsame i h] at hi
  exact .inl ((f.mem_all x).2 ⟨i, hi⟩)
structure IsSp (w : World) (f : Ft) (s : SpSt) : Prop where
 blk : Blk w f.b 78 (spCells f.lb f.kb f.mb s.great s.loss s.time)
 log : IsLog w f.lb f.rb s.room s.last s.ps
 kn : IsSet w f.kb f.kg 256 s.K
 rem : IsSet w f.mb f.mg 256 s.R
 ne : f.Ne

section
variable {w w' : World} {f : Ft} {s : SpSt}
theorem Ft.mem_b (f : Ft) : f.b ∈ f.all := by simp [Ft.all]
theorem Ft.mem_lb (f : Ft) : f.lb ∈ f.all := by simp [Ft.all]
theorem Ft.mem_rb (f : Ft) : f.rb ∈ f.all := by simp [Ft.all]
theorem Ft.mem_kb (f : Ft) : f.kb ∈ f.all := by simp [Ft.all]
theorem Ft.mem_mb (f : Ft) : f.mb ∈ f.all := by simp [Ft.all]
theorem Ft.mem_kg (f : Ft) {k : Nat} (h : f.kg = some k) : k ∈ f.all := by simp [Ft.all, h]
theorem Ft.mem_mg (f : Ft) {k : Nat} (h : f.mg = some k) : k ∈ f.all := by simp [Ft.all, h]
theorem IsSp.lt (h : IsSp w f s) : ∀ x ∈ f.all, x < w.heap.size := by
 intro x hx
 have h1 := h.blk.lt
 have h2 := h.log.lt
 have h3 := h.kn.lt
 have h4 := h.rem.lt
 simp only [Ft.all, List.mem_cons, List.mem_append, Option.mem_toList] at hx
 rcases hx with rfl | rfl | rfl | rfl | rfl | hx | hx
 ·exact h1
 ·exact h2.1
 ·exact h2.2.1
 ·exact h3.1
 ·exact h4.1
 ·exact (h3.2 x hx).1
 ·exact (h4.2 x hx).1
theorem IsSp.only {S : List Nat} (h : IsSp w f s) (ho : Only S w w') (hS : ∀ x ∈ f.all, x ∉ S) : IsSp w' f s :=
 ⟨ho.blk h.blk (hS _ f.mem_b), h.log.only ho (hS _ f.mem_lb) (hS _ f.mem_rb), h.kn.only ho (hS _ f.mem_kb) (fun k hk => hS _ (f.mem_kg hk)), h.rem.only ho (hS _ f.mem_mb) (fun k hk => hS _ (f.mem_mg hk)), h.ne⟩
theorem IsSp.below (h : IsSp w f s) (hb : Below w.heap.size w w') : IsSp w' f s := h.only (S := []) (only_of_below hb) (by simp)
theorem IsSp.alloc (h : IsSp w f s) (o : Obj) : IsSp (w.alloc o) f s := h.below ((Below.refl _ _).alloc (Nat.le_refl _) o)
theorem IsSp.cells (h : IsSp w f s) : w.cell? ⟨f.b, 0, none⟩ = some (.pointer (some ⟨f.lb, 0, none⟩)) ∧ w.cell? ⟨f.b, 1, none⟩ = some (.pointer (some ⟨f.kb, 0, none⟩)) ∧ w.cell? ⟨f.b, 2, none⟩ = some (.pointer (some ⟨f.mb, 0, none⟩)) ∧ w.cell? ⟨f.b, 3, none⟩ = some (ZI ZQ s.great) ∧ w.cell? ⟨f.b, 4, none⟩ = some (ZI ZQ s.loss) ∧ w.cell? ⟨f.b, 5, none⟩ = some (ZI ZQ s.time) := ⟨h.blk.cell 0, h.blk.cell 1, h.blk.cell 2, h.blk.cell 3, h.blk.cell 4, h.blk.cell 5⟩
end
/-- What a call leaves that turns a space: the blocks are those from before, or new ones; nothing else has turned. -/
structure SpPost (w : World) (f : Ft) (s' : SpSt) (f' : Ft) (w' : World) : Prop where
 sp : IsSp w' f' s'
 b : f'.b = f.b
 new : ∀ x ∈ f'.all, x ∈ f.all ∨ w.heap.size ≤ x
 only : Only f.all w w'
section
variable {w w1 w' : World} {f f1 f' : Ft} {s s1 s' : SpSt}
theorem SpPost.refl (h : IsSp w f s) : SpPost w f s f w := ⟨h, rfl, fun x hx => .inl hx, Only.refl _ _⟩
theorem SpPost.trans (h : SpPost w f s1 f1 w1) (h2 : SpPost w1 f1 s' f' w') : SpPost w f s' f' w' :=
 ⟨h2.sp, h2.b.trans h.b, fun x hx => by
  rcases h2.new x hx with h3 | h3
  ·exact h.new x h3
  ·exact .inr (Nat.le_trans h.only.size h3), h.only.trans h2.only (fun x hx => h.new x hx)⟩
theorem SpPost.below (h : SpPost w f s1 f1 w1) (hb : Below w1.heap.size w1 w') : SpPost w f s1 f1 w' := h.trans ⟨h.sp.below hb, rfl, fun x hx => .inl hx, only_of_below hb⟩
theorem SpPost.ahead (hb : Below w.heap.size w w1) (h : SpPost w1 f s1 f1 w') : SpPost w f s1 f1 w' :=
 ⟨h.sp, h.b, fun x hx => by
  rcases h.new x hx with h3 | h3
  ·exact .inl h3
  ·exact .inr (Nat.le_trans hb.size h3), (only_of_below (S := f.all) hb).trans h.only (fun x hx => .inl hx)⟩
/-- The log turns. -/
theorem IsSp.turnLog {rb' : Nat} {last : Int} {ps : List Pk} (h : IsSp w f s) (hl : IsLog w' f.lb rb' s.room last ps) (hr : rb' = f.rb ∨ w.heap.size ≤ rb') (ho : Only [f.lb, f.rb] w w') : SpPost w f { s with last := last, ps := ps } { f with rb := rb' } w' := by
 have hsame : ∀ i, i ≠ 2 → Ft.at { f with rb := rb' } i = f.at i := fun i hi => by
  match i, hi with
  | 0, _ => rfl
  | 1, _ => rfl
  | 2, h => exact absurd rfl h
  | 3, _ => rfl
  | 4, _ => rfl
  | 5, _ => rfl
  | 6, _ => rfl
  | n + 7, _ => rfl
 have hnew : ∀ x, Ft.at { f with rb := rb' } 2 = some x → f.at 2 = some x ∨ w.heap.size ≤ x := fun x hx => by
  cases hx
  rcases hr with e | e
  ·exact .inl (congrArg some e.symm)
  ·exact .inr e
 have hno : ∀ (i x : Nat), i ≠ 1 → i ≠ 2 → f.at i = some x → x ∉ [f.lb, f.rb] := fun i x h1 h2 hi hm => by
  simp at hm
  rcases hm with e | e
  ·exact h.ne.apart (i := i) (j := 1) hi rfl h1 e
  ·exact h.ne.apart (i := i) (j := 2) hi rfl h2 e
 refine ⟨⟨ho.blk h.blk (hno 0 _ (by decide) (by decide) rfl), hl, h.kn.only ho (hno 3 _ (by decide) (by decide) rfl) (fun k hk => hno 4 k (by decide) (by decide) hk), h.rem.only ho (hno 5 _ (by decide) (by decide) rfl) (fun k hk => hno 6 k (by decide) (by decide) hk), h.ne.turn 2 _ h.lt hsame hnew⟩, rfl, Ft.turn_new 2 _ hsame hnew, ho.mono fun x hx => .inl ?_⟩
 simp at hx
 rcases hx with rfl | rfl
 ·exact f.mem_lb
 ·exact f.mem_rb
/-- The known numbers turn. -/
theorem IsSp.turnKn {kg' : Option Nat} {K : List Rg} (h : IsSp w f s) (hl : IsSet w' f.kb kg' 256 K) (hr : ∀ k, kg' = some k → f.kg = some k ∨ w.heap.size ≤ k) (ho : Only (f.kb :: f.kg.toList) w w') : SpPost w f { s with K := K } { f with kg := kg' } w' := by
 have hsame : ∀ i, i ≠ 4 → Ft.at { f with kg := kg' } i = f.at i := fun i hi => by
  match i, hi with
  | 0, _ => rfl
  | 1, _ => rfl
  | 2, _ => rfl
  | 3, _ => rfl
  | 4, h => exact absurd rfl h
  | 5, _ => rfl
  | 6, _ => rfl
  | n + 7, _ => rfl
 have hnew : ∀ x, Ft.at { f with kg := kg' } 4 = some x → f.at 4 = some x ∨ w.heap.size ≤ x := hr
 have hno : ∀ (i x : Nat), i ≠ 3 → i ≠ 4 → f.at i = some x → x ∉ f.kb :: f.kg.toList := fun i x h1 h2 hi hm => by
  simp only [List.mem_cons, Option.mem_toList] at hm
  rcases hm with e | e
  ·exact h.ne.apart (i := i) (j := 3) hi rfl h1 e
  ·exact h.ne.apart (i := i) (j := 4) hi e h2 rfl
 refine ⟨⟨ho.blk h.blk (hno 0 _ (by decide) (by decide) rfl), h.log.only ho (hno 1 _ (by decide) (by decide) rfl) (hno 2 _ (by decide) (by decide) rfl), hl, h.rem.only ho (hno 5 _ (by decide) (by decide) rfl) (fun k hk => hno 6 k (by decide) (by decide) hk), h.ne.turn 4 _ h.lt hsame hnew⟩, rfl, Ft.turn_new 4 _ hsame hnew, ho.mono fun x hx => .inl ?_⟩
 simp only [List.mem_cons, Option.mem_toList] at hx
 rcases hx with rfl | hx
 ·exact f.mem_kb
 ·exact f.mem_kg hx
/-- What is remembered turns. -/
theorem IsSp.turnRem {mg' : Option Nat} {R : List Rg} (h : IsSp w f s) (hl : IsSet w' f.mb mg' 256 R) (hr : ∀ k, mg' = some k → f.mg = some k ∨ w.heap.size ≤ k) (ho : Only (f.mb :: f.mg.toList) w w') : SpPost w f { s with R := R } { f with mg := mg' } w' := by
 have hsame : ∀ i, i ≠ 6 → Ft.at { f with mg := mg' } i = f.at i := fun i hi => by
  match i, hi with
  | 0, _ => rfl
  | 1, _ => rfl
  | 2, _ => rfl
  | 3, _ => rfl
  | 4, _ => rfl
  | 5, _ => rfl
  | 6, h => exact absurd rfl h
  | n + 7, _ => rfl
 have hnew : ∀ x, Ft.at { f with mg := mg' } 6 = some x → f.at 6 = some x ∨ w.heap.size ≤ x := hr
 have hno : ∀ (i x : Nat), i ≠ 5 → i ≠ 6 → f.at i = some x → x ∉ f.mb :: f.mg.toList := fun i x h1 h2 hi hm => by
  simp only [List.mem_cons, Option.mem_toList] at hm
  rcases hm with e | e
  ·exact h.ne.apart (i := i) (j := 5) hi rfl h1 e
  ·exact h.ne.apart (i := i) (j := 6) hi e h2 rfl
 refine ⟨⟨ho.blk h.blk (hno 0 _ (by decide) (by decide) rfl), h.log.only ho (hno 1 _ (by decide) (by decide) rfl) (hno 2 _ (by decide) (by decide) rfl), h.kn.only ho (hno 3 _ (by decide) (by decide) rfl) (fun k hk => hno 4 k (by decide) (by decide) hk), hl, h.ne.turn 6 _ h.lt hsame hnew⟩, rfl, Ft.turn_new 6 _ hsame hnew, ho.mono fun x hx => .inl ?_⟩
 simp only [List.mem_cons, Option.mem_toList] at hx
 rcases hx with rfl | hx
 ·exact f.mem_mb
 ·exact f.mem_mg hx
/-- A new set is remembered. -/
theorem IsSp.newRem {mb' : Nat} (h0 : IsSp w f s) (hb : Below w.heap.size w w1) (hl : IsSet w1 mb' none 256 []) (hm : w.heap.size ≤ mb') : SpPost w f { s with R := [] } { f with mb := mb', mg := none } (w1.setCell ⟨f.b, 2, none⟩ (.pointer (some ⟨mb', 0, none⟩))) := by
 have h := h0.below hb
 have ho : Only [f.b] w1 (w1.setCell ⟨f.b, 2, none⟩ (.pointer (some ⟨mb', 0, none⟩))) := (Only.refl _ _).setCell (.inl (by simp)) _
 have hno : ∀ (i x : Nat), i ≠ 0 → f.at i = some x → x ∉ [f.b] := fun i x h1 hi hm => by
  simp at hm
  exact h.ne.apart (i := i) (j := 0) hi rfl h1 hm
 have hs5 : ∀ i, i ≠ 5 → Ft.at { f with mb := mb' } i = f.at i := fun i hi => by
  match i, hi with
  | 0, _ => rfl
  | 1, _ => rfl
  | 2, _ => rfl
  | 3, _ => rfl
  | 4, _ => rfl
  | 5, h => exact absurd rfl h
  | 6, _ => rfl
  | n + 7, _ => rfl
 have hn5 : ∀ x, Ft.at { f with mb := mb' } 5 = some x → f.at 5 = some x ∨ w.heap.size ≤ x := fun x hx => by cases hx; exact .inr hm
 have hs6 : ∀ i, i ≠ 6 → Ft.at { f with mb := mb', mg := none } i = Ft.at { f with mb := mb' } i := fun i hi => by
  match i, hi with
  | 0, _ => rfl
  | 1, _ => rfl
  | 2, _ => rfl
  | 3, _ => rfl
  | 4, _ => rfl
  | 5, _ => rfl
  | 6, h => exact absurd rfl h
  | n + 7, _ => rfl
 have hn6 : ∀ (n x : Nat), Ft.at { f with mb := mb', mg := none } 6 = some x → Ft.at { f with mb := mb' } 6 = some x ∨ n ≤ x := fun n x hx => by cases hx
 have hne5 := h0.ne.turn 5 _ h0.lt hs5 hn5
 have hne6 : Ft.Ne { f with mb := mb', mg := none } := fun i j x hi hj => by
  have e1 : i ≠ 6 := fun e => by subst e; cases hi
  have e2 : j ≠ 6 := fun e => by subst e; cases hj
  rw [hs6 i e1] at hi
  rw [hs6 j e2] at hj
  exact hne5 i j x hi hj
 have hmb : mb' ≠ f.b := fun e => by have := h0.lt f.b f.mem_b; omega
 refine ⟨⟨(h.blk.set 2 _).eq rfl, h.log.only ho (hno 1 _ (by decide) rfl) (hno 2 _ (by decide) rfl), h.kn.only ho (hno 3 _ (by decide) rfl) (fun k hk => hno 4 k (by decide) hk), hl.only ho (by simpa using hmb) (fun k hk => by cases hk), hne6⟩, rfl, fun x hx => ?_, ((only_of_below (S := f.all) hb).trans ho (fun x hx => .inl ?_))⟩
 ·rcases Ft.turn_new 6 w.heap.size hs6 (hn6 _) x hx with h1 | h1
  ·exact Ft.turn_new 5 w.heap.size hs5 hn5 x h1
  ·exact .inr h1
 ·simp at hx; subst hx; exact f.mem_b
/-- A cell of the space's own turns. -/
theorem IsSp.turnOwn {j : Nat} {u : Value} {great loss time : Int} (h : IsSp w f s) (hc : (spCells f.lb f.kb f.mb s.great s.loss s.time).setIfInBounds j u = spCells f.lb f.kb f.mb great loss time) : SpPost w f { s with great := great, loss := loss, time := time } f (w.setCell ⟨f.b, j, none⟩ u) := by
 have ho : Only [f.b] w (w.setCell ⟨f.b, j, none⟩ u) := (Only.refl _ _).setCell (.inl (by simp)) _
 have hno : ∀ (i x : Nat), i ≠ 0 → f.at i = some x → x ∉ [f.b] := fun i x h1 hi hm => by
  simp at hm
  exact h.ne.apart (i := i) (j := 0) hi rfl h1 hm
 refine ⟨⟨(h.blk.set j u).eq hc, h.log.only ho (hno 1 _ (by decide) rfl) (hno 2 _ (by decide) rfl), h.kn.only ho (hno 3 _ (by decide) rfl) (fun k hk => hno 4 k (by decide) hk), h.rem.only ho (hno 5 _ (by decide) rfl) (fun k hk => hno 6 k (by decide) hk), h.ne⟩, rfl, fun x hx => .inl hx, ho.mono fun x hx => .inl ?_⟩
 simp at hx; subst hx; exact f.mem_b
end
end Go.Proofs.YtgicljeedegncaaGreat

namespace Go.Proofs.YtgicljeedegncaaGreat
open Go.Value renaming int → ZI
open Go.IntKind renaming i64 → ZQ
set_option linter.unusedSimpArgs false
set_option linter.unusedVariables false
open Go.RowKit

theorem spnone (f : Ft) (s : SpSt) (w : World) (h : IsSp w f s) : Calls Tryz.prog 49 #[.pointer (some ⟨f.b, 0, none⟩)] w fun e w' => e = .returned (.bool false) ∧ w = w' := by
 obtain ⟨c0, _⟩ := h.cells
 clear h
 go_enter Tryz.func49, Tryz.ntmps49
 go_wp2
 go_ret
 exact ⟨rfl, rfl⟩
theorem splast_lit (a : Addr) (f : Ft) (s : SpSt) (w : World) (h : IsSp w f s) (ha : w.cell? a = some (.pointer (some ⟨f.b, 0, none⟩))) :
  Calls Tryz.prog 55 #[.pointer (some a)] w fun e w' => e = .returned (ZI ZQ s.last) ∧ Below w.heap.size w w' := by
 obtain ⟨c0, c1, c2, c3, c4, c5⟩ := h.cells
 have H := hide (last_any _ _ _ _ _ _ h.log)
 clear h
 go_enter Tryz.func55, Tryz.ntmps55
 go_wp2_with fail
 refine H.out.mono ?_
 rintro e1 w1 ⟨rfl, hb⟩
 go_wp2_with fail
 go_ret
 exact ⟨rfl, by rw [← hb]; exact Below.refl _ _⟩
theorem splast_one (a : Addr) (f : Ft) (s : SpSt) (w : World) (h : IsSp w f s) (ha : w.cell? a = some (.pointer (some ⟨f.b, 0, none⟩))) :
  Calls Tryz.prog 47 #[.pointer (some ⟨f.b, 0, none⟩), .func (.func 55) #[] #[.pointer (some a)]] w fun e w' => e = .returned (ZI ZQ s.last) ∧ Below w.heap.size w w' := by
 have H1 := hide (spnone f s w h)
 have H2 := hide (splast_lit a f s w h ha)
 clear h ha
 go_enter Tryz.func47, Tryz.ntmps47
 go_wp2_with (first | (go_at_call 49; refine H1.out.mono ?_; rintro e1 w1 ⟨rfl, rfl⟩) | (go_at_call 55; refine H2.out.mono ?_; rintro e2 w2 ⟨rfl, hb⟩))
 go_ret
 exact ⟨rfl, hb⟩
set_option maxHeartbeats 1000000 in
theorem splast_any (f : Ft) (s : SpSt) (w : World) (h : IsSp w f s) :
  Calls Tryz.prog 20 #[.pointer (some ⟨f.b, 0, none⟩)] w fun e w' => e = .returned (ZI ZQ s.last) ∧ Below w.heap.size w w' := by
 have hx := (Blk.new w 23 #[.pointer (some ⟨f.b, 0, none⟩)]).cell 0
 have HS := hide (splast_one ⟨w.heap.size, 0, none⟩ f s _ (h.alloc (.cells #[.pointer (some ⟨f.b, 0, none⟩)] 23)) hx)
 clear h hx
 go_enter Tryz.func20, Tryz.ntmps20
 go_wp2_with (go_at_call 47; refine HS.out.mono ?_; rintro e1 w1 ⟨rfl, hb⟩)
 go_ret
 exact ⟨rfl, bw_below' ((Below.refl _ _).alloc (Nat.le_refl _) _) hb⟩
theorem spgreat_lit (a : Addr) (f : Ft) (s : SpSt) (w : World) (h : IsSp w f s) (ha : w.cell? a = some (.pointer (some ⟨f.b, 0, none⟩))) :
  Calls Tryz.prog 48 #[.pointer (some a)] w fun e w' => e = .returned (ZI ZQ s.great) ∧ Below w.heap.size w w' := by
 obtain ⟨c0, c1, c2, c3, c4, c5⟩ := h.cells
 clear h
 go_enter Tryz.func48, Tryz.ntmps48
 go_wp2
 go_ret
 exact ⟨rfl, Below.refl _ _⟩
theorem spgreat_one (a : Addr) (f : Ft) (s : SpSt) (w : World) (h : IsSp w f s) (ha : w.cell? a = some (.pointer (some ⟨f.b, 0, none⟩))) :
  Calls Tryz.prog 47 #[.pointer (some ⟨f.b, 0, none⟩), .func (.func 48) #[] #[.pointer (some a)]] w fun e w' => e = .returned (ZI ZQ s.great) ∧ Below w.heap.size w w' := by
 have H1 := hide (spnone f s w h)
 have H2 := hide (spgreat_lit a f s w h ha)
 clear h ha
 go_enter Tryz.func47, Tryz.ntmps47
 go_wp2_with (first | (go_at_call 49; refine H1.out.mono ?_; rintro e1 w1 ⟨rfl, rfl⟩) | (go_at_call 48; refine H2.out.mono ?_; rintro e2 w2 ⟨rfl, hb⟩))
 go_ret
 exact ⟨rfl, hb⟩
set_option maxHeartbeats 1000000 in
theorem spgreat_any (f : Ft) (s : SpSt) (w : World) (h : IsSp w f s) :
  Calls Tryz.prog 13 #[.pointer (some ⟨f.b, 0, none⟩)] w fun e w' => e = .returned (ZI ZQ s.great) ∧ Below w.heap.size w w' := by
 have hx := (Blk.new w 23 #[.pointer (some ⟨f.b, 0, none⟩)]).cell 0
 have HS := hide (spgreat_one ⟨w.heap.size, 0, none⟩ f s _ (h.alloc (.cells #[.pointer (some ⟨f.b, 0, none⟩)] 23)) hx)
 clear h hx
 go_enter Tryz.func13, Tryz.ntmps13
 go_wp2_with (go_at_call 47; refine HS.out.mono ?_; rintro e1 w1 ⟨rfl, hb⟩)
 go_ret
 exact ⟨rfl, bw_below' ((Below.refl _ _).alloc (Nat.le_refl _) _) hb⟩
theorem sploss_lit (a : Addr) (f : Ft) (s : SpSt) (w : World) (h : IsSp w f s) (ha : w.cell? a = some (.pointer (some ⟨f.b, 0, none⟩))) :
  Calls Tryz.prog 51 #[.pointer (some a)] w fun e w' => e = .returned (ZI ZQ s.loss) ∧ Below w.heap.size w w' := by
 obtain ⟨c0, c1, c2, c3, c4, c5⟩ := h.cells
 clear h
 go_enter Tryz.func51, Tryz.ntmps51
 go_wp2
 go_ret
 exact ⟨rfl, Below.refl _ _⟩
theorem sploss_one (a : Addr) (f : Ft) (s : SpSt) (w : World) (h : IsSp w f s) (ha : w.cell? a = some (.pointer (some ⟨f.b, 0, none⟩))) :
  Calls Tryz.prog 47 #[.pointer (some ⟨f.b, 0, none⟩), .func (.func 51) #[] #[.pointer (some a)]] w fun e w' => e = .returned (ZI ZQ s.loss) ∧ Below w.heap.size w w' := by
 have H1 := hide (spnone f s w h)
 have H2 := hide (sploss_lit a f s w h ha)
 clear h ha
 go_enter Tryz.func47, Tryz.ntmps47
 go_wp2_with (first | (go_at_call 49; refine H1.out.mono ?_; rintro e1 w1 ⟨rfl, rfl⟩) | (go_at_call 51; refine H2.out.mono ?_; rintro e2 w2 ⟨rfl, hb⟩))
 go_ret
 exact ⟨rfl, hb⟩
set_option maxHeartbeats 1000000 in
theorem sploss_any (f : Ft) (s : SpSt) (w : World) (h : IsSp w f s) :
  Calls Tryz.prog 15 #[.pointer (some ⟨f.b, 0, none⟩)] w fun e w' => e = .returned (ZI ZQ s.loss) ∧ Below w.heap.size w w' := by
 have hx := (Blk.new w 23 #[.pointer (some ⟨f.b, 0, none⟩)]).cell 0
 have HS := hide (sploss_one ⟨w.heap.size, 0, none⟩ f s _ (h.alloc (.cells #[.pointer (some ⟨f.b, 0, none⟩)] 23)) hx)
 clear h hx
 go_enter Tryz.func15, Tryz.ntmps15
 go_wp2_with (go_at_call 47; refine HS.out.mono ?_; rintro e1 w1 ⟨rfl, hb⟩)
 go_ret
 exact ⟨rfl, bw_below' ((Below.refl _ _).alloc (Nat.le_refl _) _) hb⟩
theorem sptime_lit (a : Addr) (f : Ft) (s : SpSt) (w : World) (h : IsSp w f s) (ha : w.cell? a = some (.pointer (some ⟨f.b, 0, none⟩))) :
  Calls Tryz.prog 69 #[.pointer (some a)] w fun e w' => e = .returned (ZI ZQ s.time) ∧ Below w.heap.size w w' := by
 obtain ⟨c0, c1, c2, c3, c4, c5⟩ := h.cells
 clear h
 go_enter Tryz.func69, Tryz.ntmps69
 go_wp2
 go_ret
 exact ⟨rfl, Below.refl _ _⟩
theorem sptime_one (a : Addr) (f : Ft) (s : SpSt) (w : World) (h : IsSp w f s) (ha : w.cell? a = some (.pointer (some ⟨f.b, 0, none⟩))) :
  Calls Tryz.prog 47 #[.pointer (some ⟨f.b, 0, none⟩), .func (.func 69) #[] #[.pointer (some a)]] w fun e w' => e = .returned (ZI ZQ s.time) ∧ Below w.heap.size w w' := by
 have H1 := hide (spnone f s w h)
 have H2 := hide (sptime_lit a f s w h ha)
 clear h ha
 go_enter Tryz.func47, Tryz.ntmps47
 go_wp2_with (first | (go_at_call 49; refine H1.out.mono ?_; rintro e1 w1 ⟨rfl, rfl⟩) | (go_at_call 69; refine H2.out.mono ?_; rintro e2 w2 ⟨rfl, hb⟩))
 go_ret
 exact ⟨rfl, hb⟩
set_option maxHeartbeats 1000000 in
theorem sptime_any (f : Ft) (s : SpSt) (w : World) (h : IsSp w f s) :
  Calls Tryz.prog 30 #[.pointer (some ⟨f.b, 0, none⟩)] w fun e w' => e = .returned (ZI ZQ s.time) ∧ Below w.heap.size w w' := by
 have hx := (Blk.new w 23 #[.pointer (some ⟨f.b, 0, none⟩)]).cell 0
 have HS := hide (sptime_one ⟨w.heap.size, 0, none⟩ f s _ (h.alloc (.cells #[.pointer (some ⟨f.b, 0, none⟩)] 23)) hx)
 clear h hx
 go_enter Tryz.func30, Tryz.ntmps30
 go_wp2_with (go_at_call 47; refine HS.out.mono ?_; rintro e1 w1 ⟨rfl, hb⟩)
 go_ret
 exact ⟨rfl, bw_below' ((Below.refl _ _).alloc (Nat.le_refl _) _) hb⟩
theorem IsLog.flight0 {w : World} {b rb room : Nat} {last : Int} {ps : List Pk} (h : IsLog w b rb room last ps) : 0 ≤ flightOf ps := (flight_bounds ps h.may).1
theorem elic_nn : ∀ ps : List Pk, 0 ≤ elicOf ps
 | [] => by simp [elicOf]
 | p :: l => by have := elic_nn l; unfold elicOf; split <;> omega
theorem IsLog.elic0 {w : World} {b rb room : Nat} {last : Int} {ps : List Pk} (h : IsLog w b rb room last ps) : 0 ≤ elicOf ps := elic_nn ps
theorem spflight_lit (a : Addr) (f : Ft) (s : SpSt) (w : World) (h : IsSp w f s) (ha : w.cell? a = some (.pointer (some ⟨f.b, 0, none⟩))) :
  Calls Tryz.prog 64 #[.pointer (some a)] w fun e w' => e = .returned (ZI ZQ (flightOf s.ps)) ∧ Below w.heap.size w w' := by
 obtain ⟨c0, c1, c2, c3, c4, c5⟩ := h.cells
 have H := hide (flight_any _ _ _ _ _ _ h.log)
 clear h
 go_enter Tryz.func64, Tryz.ntmps64
 go_wp2_with fail
 refine H.out.mono ?_
 rintro e1 w1 ⟨rfl, hb⟩
 go_wp2_with fail
 go_ret
 exact ⟨rfl, hb⟩
theorem spflight_one (a : Addr) (f : Ft) (s : SpSt) (w : World) (h : IsSp w f s) (ha : w.cell? a = some (.pointer (some ⟨f.b, 0, none⟩))) :
  Calls Tryz.prog 47 #[.pointer (some ⟨f.b, 0, none⟩), .func (.func 64) #[] #[.pointer (some a)]] w fun e w' => e = .returned (ZI ZQ (flightOf s.ps)) ∧ Below w.heap.size w w' := by
 have H1 := hide (spnone f s w h)
 have H2 := hide (spflight_lit a f s w h ha)
 clear h ha
 go_enter Tryz.func47, Tryz.ntmps47
 go_wp2_with (first | (go_at_call 49; refine H1.out.mono ?_; rintro e1 w1 ⟨rfl, rfl⟩) | (go_at_call 64; refine H2.out.mono ?_; rintro e2 w2 ⟨rfl, hb⟩))
 go_ret
 exact ⟨rfl, hb⟩
set_option maxHeartbeats 1000000 in
theorem spflight_any (f : Ft) (s : SpSt) (w : World) (h : IsSp w f s) :
  Calls Tryz.prog 27 #[.pointer (some ⟨f.b, 0, none⟩)] w fun e w' => e = .returned (ZI ZQ (flightOf s.ps)) ∧ Below w.heap.size w w' := by
 have hx := (Blk.new w 23 #[.pointer (some ⟨f.b, 0, none⟩)]).cell 0
 have HS := hide (spflight_one ⟨w.heap.size, 0, none⟩ f s _ (h.alloc (.cells #[.pointer (some ⟨f.b, 0, none⟩)] 23)) hx)
 have hpos : (if 0 < (flightOf s.ps) then (flightOf s.ps) else 0) = (flightOf s.ps) := by have := h.log.flight0; split <;> omega
 clear h hx
 go_enter Tryz.func27, Tryz.ntmps27
 go_wp2_with (go_at_call 47; refine HS.out.mono ?_; rintro e1 w1 ⟨rfl, hb⟩)
 go_ret
 exact ⟨rfl, bw_below' ((Below.refl _ _).alloc (Nat.le_refl _) _) hb⟩
theorem spelic_lit (a : Addr) (f : Ft) (s : SpSt) (w : World) (h : IsSp w f s) (ha : w.cell? a = some (.pointer (some ⟨f.b, 0, none⟩))) :
  Calls Tryz.prog 66 #[.pointer (some a)] w fun e w' => e = .returned (ZI ZQ (elicOf s.ps)) ∧ Below w.heap.size w w' := by
 obtain ⟨c0, c1, c2, c3, c4, c5⟩ := h.cells
 have H := hide (elic_any _ _ _ _ _ _ h.log)
 clear h
 go_enter Tryz.func66, Tryz.ntmps66
 go_wp2_with fail
 refine H.out.mono ?_
 rintro e1 w1 ⟨rfl, hb⟩
 go_wp2_with fail
 go_ret
 exact ⟨rfl, hb⟩
theorem spelic_one (a : Addr) (f : Ft) (s : SpSt) (w : World) (h : IsSp w f s) (ha : w.cell? a = some (.pointer (some ⟨f.b, 0, none⟩))) :
  Calls Tryz.prog 47 #[.pointer (some ⟨f.b, 0, none⟩), .func (.func 66) #[] #[.pointer (some a)]] w fun e w' => e = .returned (ZI ZQ (elicOf s.ps)) ∧ Below w.heap.size w w' := by
 have H1 := hide (spnone f s w h)
 have H2 := hide (spelic_lit a f s w h ha)
 clear h ha
 go_enter Tryz.func47, Tryz.ntmps47
 go_wp2_with (first | (go_at_call 49; refine H1.out.mono ?_; rintro e1 w1 ⟨rfl, rfl⟩) | (go_at_call 66; refine H2.out.mono ?_; rintro e2 w2 ⟨rfl, hb⟩))
 go_ret
 exact ⟨rfl, hb⟩
set_option maxHeartbeats 1000000 in
theorem spelic_any (f : Ft) (s : SpSt) (w : World) (h : IsSp w f s) :
  Calls Tryz.prog 28 #[.pointer (some ⟨f.b, 0, none⟩)] w fun e w' => e = .returned (ZI ZQ (elicOf s.ps)) ∧ Below w.heap.size w w' := by
 have hx := (Blk.new w 23 #[.pointer (some ⟨f.b, 0, none⟩)]).cell 0
 have HS := hide (spelic_one ⟨w.heap.size, 0, none⟩ f s _ (h.alloc (.cells #[.pointer (some ⟨f.b, 0, none⟩)] 23)) hx)
 have hpos : (if 0 < (elicOf s.ps) then (elicOf s.ps) else 0) = (elicOf s.ps) := by have := h.log.elic0; split <;> omega
 clear h hx
 go_enter Tryz.func28, Tryz.ntmps28
 go_wp2_with (go_at_call 47; refine HS.out.mono ?_; rintro e1 w1 ⟨rfl, hb⟩)
 go_ret
 exact ⟨rfl, bw_below' ((Below.refl _ _).alloc (Nat.le_refl _) _) hb⟩
set_option maxHeartbeats 1000000 in
theorem spall_any (f : Ft) (s : SpSt) (w : World) (h : IsSp w f s) :
  Calls Tryz.prog 14 #[.pointer (some ⟨f.b, 0, none⟩)] w (PksPost w s.ps) := by
 obtain ⟨c0, _⟩ := h.cells
 have H1 := hide (spnone f s w h)
 have H2 := hide (all_any _ _ _ _ _ _ h.log)
 clear h
 go_enter Tryz.func14, Tryz.ntmps14
 go_wp2_with (first | (go_at_call 49; refine H1.out.mono ?_; rintro e1 w1 ⟨rfl, rfl⟩) | (go_at_call 50; refine H2.out.mono ?_; rintro e2 w2 ⟨v, rfl, hv, hb⟩))
 go_ret
 exact ⟨v, rfl, hv, hb⟩
set_option maxHeartbeats 1000000 in
theorem spdiscard_any (f : Ft) (s : SpSt) (w : World) (h : IsSp w f s) :
  Calls Tryz.prog 29 #[.pointer (some ⟨f.b, 0, none⟩)] w fun e w' => e = .returned (.tuple #[]) ∧ SpPost w f { s with ps := [], loss := -1, time := -1 } f w' := by
 obtain ⟨c0, _⟩ := h.cells
 have H1 := hide (spnone f s w h)
 have H2 := hide (clear_any _ _ _ _ _ _ h.log)
 have H := hide h
 clear h
 go_enter Tryz.func29, Tryz.ntmps29
 go_wp2_with (first | (go_at_call 49; refine H1.out.mono ?_; rintro e1 w1 ⟨rfl, rfl⟩) | (go_at_call 68; refine H2.out.mono ?_; rintro e2 w2 ⟨rfl, hl, ho⟩; have HP := hide (H.out.turnLog hl (.inl rfl) (ho.mono fun x hx => .inl (by simp at hx; subst hx; simp))); clear hl ho; have y4 : w2.cell? ⟨f.b, 4, none⟩ = some (ZI ZQ s.loss) := HP.out.sp.blk.cell 4; have y5 : w2.cell? ⟨f.b, 5, none⟩ = some (ZI ZQ s.time) := HP.out.sp.blk.cell 5; have f4 := HP.out.sp.blk.frozen 4; have f5 := HP.out.sp.blk.frozen 5))
 have h4 := HP.out.trans (HP.out.sp.turnOwn (j := 4) (u := ZI ZQ (-1)) (great := s.great) (loss := -1) (time := s.time) rfl)
 have h5 := h4.trans (h4.sp.turnOwn (j := 5) (u := ZI ZQ (-1)) (great := s.great) (loss := -1) (time := -1) rfl)
 go_end0
 exact ⟨rfl, h5⟩
theorem ft_five {b lb rb kb mb : Nat} : ∀ i x, (Ft.mk b lb rb kb none mb none).at i = some x → (i = 0 ∧ x = b) ∨ (i = 1 ∧ x = lb) ∨ (i = 2 ∧ x = rb) ∨ (i = 3 ∧ x = kb) ∨ (i = 5 ∧ x = mb)
 | 0, x, h => by cases h; simp
 | 1, x, h => by cases h; simp
 | 2, x, h => by cases h; simp
 | 3, x, h => by cases h; simp
 | 4, x, h => by cases h
 | 5, x, h => by cases h; simp
 | 6, x, h => by cases h
 | n + 7, x, h => by cases h
set_option maxHeartbeats 1000000 in
theorem spnew_ok (room : Nat) (w : World) (h1 : 1 ≤ room) (h2 : room ≤ 256) :
  Calls Tryz.prog 10 #[ZI ZQ room] w fun e w' => ∃ f, e = .returned (.tuple #[.pointer (some ⟨f.b, 0, none⟩), ZI ZQ 0]) ∧ IsSp w' f ⟨room, -1, [], [], [], -1, -1, -1⟩ ∧ (∀ x ∈ f.all, w.heap.size ≤ x) ∧ Below w.heap.size w w' := by
 go_enter Tryz.func10, Tryz.ntmps10
 go_wp2_with fail
 refine (new_ok room w h1 h2).mono ?_
 rintro e1 w1 ⟨lb, rb, rfl, hl, n1, n2, hb1⟩
 go_wp2_with fail
 refine (snew_ok 256 w1 (by omega) (by omega)).mono ?_
 rintro e2 w2 ⟨kb, rfl, hk, n3, hb2⟩
 have hl2 := hl.below hb2
 have l1 := hl.lt
 clear hl
 go_wp2_with fail
 refine (snew_ok 256 w2 (by omega) (by omega)).mono ?_
 rintro e3 w3 ⟨mb, rfl, hm, n4, hb3⟩
 have hl3 := hl2.below hb3
 have hk3 := hk.below hb3
 have l2 := hk.lt.1
 have l3 := hm.lt.1
 have hb := bw_below' (bw_below' hb1 hb2) hb3
 have s1 := hb1.size
 have s2 := hb2.size
 have s3 := hb3.size
 clear hl2 hk hb1 hb2 hb3
 go_wp2_with fail
 go_ret2
 refine ⟨⟨w3.heap.size, lb, rb, kb, none, mb, none⟩, rfl, ⟨Blk.new _ _ _, hl3.alloc _, hk3.alloc _, hm.alloc _, ?_⟩, ?_, bw_alloc' hb _⟩
 ·intro i j x hi hj
  have h1 := ft_five i x hi
  have h2 := ft_five j x hj
  omega
 ·intro x hx
  simp [Ft.all] at hx
  omega
end Go.Proofs.YtgicljeedegncaaGreat
