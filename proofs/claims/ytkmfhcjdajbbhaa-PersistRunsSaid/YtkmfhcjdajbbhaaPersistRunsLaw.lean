/-
  The statement PersistRuns: what of it is plain.
-/
import Derived.Test.YtkmfhcjdajbbhaaPersistQuietLaw
namespace Go.Proofs.Ytkmfhcjdajbbhaa
set_option linter.unusedSimpArgs false
set_option linter.unusedVariables false
open Go.RowKit

/-- The first one of the latest. -/
def updL (o : Option PK) (b : PK) : Option PK := match o with
  | none => some b
  | some c => if c.t < b.t then some b else some c
/-- What is kept behind the pairs of one packet. -/
def rowEnd (st : Per) (a : PK) (o : Option PK) : Per := match o with
  | none => st
  | some b => if !st.some || decide (st.d < b.t - a.t) then ⟨b.t - a.t, a.n, b.n, true⟩ else st
theorem row_step (st : Per) (a : PK) (o : Option PK) (b : PK) : keepP (rowEnd st a o) (a, b) = rowEnd st a (updL o b) := by
  cases o with
  | none => rfl
  | some c =>
    obtain ⟨d, lo, hi, sm⟩ := st
    show keepP (rowEnd ⟨d, lo, hi, sm⟩ a (some c)) (a, b) = rowEnd ⟨d, lo, hi, sm⟩ a (if c.t < b.t then some b else some c)
    by_cases hcb : c.t < b.t
    · rw [if_pos hcb]
      cases sm with
      | false =>
        unfold rowEnd keepP
        have : c.t - a.t < b.t - a.t := by omega
        simp [this]
      | true =>
        by_cases h1 : d < c.t - a.t
        · have h2 : d < b.t - a.t := by omega
          have h3 : c.t - a.t < b.t - a.t := by omega
          unfold rowEnd keepP
          simp [h1, h2, h3]
        · unfold rowEnd keepP
          simp [h1]
    · rw [if_neg hcb]
      cases sm with
      | false =>
        unfold rowEnd keepP
        have : ¬ c.t - a.t < b.t - a.t := by omega
        simp [this]
      | true =>
        by_cases h1 : d < c.t - a.t
        · have h3 : ¬ c.t - a.t < b.t - a.t := by omega
          unfold rowEnd keepP
          simp [h1, h3]
        · have h2 : ¬ d < b.t - a.t := by omega
          unfold rowEnd keepP
          simp [h1, h2]
theorem row_fold (st : Per) (a : PK) : ∀ (l : List PK) (o : Option PK), (l.map fun b => (a, b)).foldl keepP (rowEnd st a o) = rowEnd st a (l.foldl updL o)
  | [], _ => rfl
  | b :: l, o => by
    rw [List.map_cons, List.foldl_cons, List.foldl_cons, row_step]
    exact row_fold st a l _
/-- One packet's pairs, in all. -/
theorem runs_step (rs : List Rg) (f : Int) (st : Per) (a : PK) (ps : List PK) : (pairsL rs f (a :: ps)).foldl keepP st = (pairsL rs f ps).foldl keepP (rowEnd st a ((ps.filter fun b => pairOk rs f a b).foldl updL none)) := by
  show ((((ps.filter fun b => pairOk rs f a b).map fun b => (a, b)) ++ pairsL rs f ps)).foldl keepP st = _
  rw [List.foldl_append]
  congr 1
  exact row_fold st a _ none
theorem runs_skip (rs : List Rg) (f : Int) (st : Per) (a : PK) (ps : List PK) (h : counts f a = false) : (pairsL rs f (a :: ps)).foldl keepP st = (pairsL rs f ps).foldl keepP st := by
  rw [runs_step]
  have : ps.filter (fun b => pairOk rs f a b) = [] := by
    rw [List.filter_eq_nil_iff]
    intro b _
    simp [pairOk, h]
  rw [this]
  rfl
theorem madeL_rise (N D B : Nat → Int) : ∀ k, (madeL N D B k).Pairwise fun p q => p.t ≤ q.t
  | 0 => List.Pairwise.nil
  | k + 1 => by
    have e : madeL N D B (k + 1) = madeL N D B k ++ [⟨(madeF N D B k).1 + 1 + N k % 3, (madeF N D B k).2.1 + D k % 17179869184, 100, !(B k % 4 == 0), true, false⟩] := rfl
    rw [e]
    refine List.pairwise_append.2 ⟨madeL_rise N D B k, List.pairwise_cons.2 ⟨by simp, List.Pairwise.nil⟩, fun p hp q hq => ?_⟩
    have := madeL_mem N D B k p hp
    simp at hq
    subst hq
    simp only
    omega
theorem pw_at {α : Type} {R : α → α → Prop} {l : List α} (h : l.Pairwise R) {i j : Nat} {a b : α} (hij : i < j) (ha : l[i]? = some a) (hb : l[j]? = some b) : R a b := by
  obtain ⟨h1, e1⟩ := List.getElem?_eq_some_iff.1 ha
  obtain ⟨h2, e2⟩ := List.getElem?_eq_some_iff.1 hb
  have := List.pairwise_iff_getElem.1 h i j h1 h2 hij
  rw [e1, e2] at this
  exact this
/-- The row's part that was gone through. -/
def rowO (rs : List Rg) (f : Int) (a : PK) (l : List PK) : Option PK := (l.filter fun b => pairOk rs f a b).foldl updL none
theorem rowO_snoc_yes (rs : List Rg) (f : Int) (a : PK) (l : List PK) (b : PK) (h : pairOk rs f a b = true) : rowO rs f a (l ++ [b]) = updL (rowO rs f a l) b := by
  unfold rowO
  rw [List.filter_append, List.foldl_append]
  simp [h]
theorem rowO_snoc_no (rs : List Rg) (f : Int) (a : PK) (l : List PK) (b : PK) (h : pairOk rs f a b = false) : rowO rs f a (l ++ [b]) = rowO rs f a l := by
  unfold rowO
  rw [List.filter_append, List.foldl_append]
  simp [h]
theorem rowO_rest (rs : List Rg) (f : Int) (a : PK) (l m : List PK) (h : ∀ b ∈ m, pairOk rs f a b = false) : rowO rs f a (l ++ m) = rowO rs f a l := by
  unfold rowO
  have : m.filter (fun b => pairOk rs f a b) = [] := by
    rw [List.filter_eq_nil_iff]
    intro b hb
    rw [h b hb]
    simp
  rw [List.filter_append, this, List.append_nil]
/-- Where nothing is free at one, it is at none behind. -/
theorem runs_stop {rs : List Rg} {f : Int} {ps : List PK} (hg : GoodR rs) (hp : ps.Pairwise fun p q => p.n < q.n) {k : Nat} {a b : PK} (hk : ps[k]? = some b) (hn : ¬ ∀ m : Int, a.n < m → m < b.n → ¬ memR m rs) : ∀ x ∈ ps.drop k, pairOk rs f a x = false := fun x hx => by
  obtain ⟨j, hj⟩ := List.mem_iff_getElem?.1 hx
  rw [List.getElem?_drop] at hj
  have hbx : b.n ≤ x.n := by
    rcases Nat.eq_zero_or_pos j with h0 | h0
    · subst h0; rw [Nat.add_zero, hk] at hj; cases hj; exact Int.le_refl _
    · have := pw_at hp (show k < k + j by omega) hk hj
      exact Int.le_of_lt this
  cases hfr : freeR rs a x with
  | false => unfold pairOk; rw [hfr, Bool.and_false]
  | true =>
    exfalso
    exact hn fun m h1 h2 => (freeR_iff hg.le).1 hfr m h1 (by omega)
/-- At one that is free: it counts if it was to be acknowledged. -/
theorem runs_ok {rs : List Rg} {f : Int} {a b : PK} (hg : GoodR rs) (ha : counts f a = true) (ht : a.t ≤ b.t) (hn : ∀ m : Int, a.n < m → m < b.n → ¬ memR m rs) : pairOk rs f a b = b.e := by
  unfold pairOk
  rw [ha, (freeR_iff hg.le).2 hn, show decide (a.t ≤ b.t) = true from decide_eq_true ht]
  unfold counts at ha ⊢
  simp only [Bool.and_eq_true, decide_eq_true_eq] at ha
  rw [show decide (f < b.t) = true from decide_eq_true (by omega)]
  simp
end Go.Proofs.Ytkmfhcjdajbbhaa
