/-
  The statement PersistQuiet: what of it is plain.
-/
import Derived.Test.YtkmfhcjdajbbhaaPersistMoreLaw
namespace Go.Proofs.Ytkmfhcjdajbbhaa
set_option linter.unusedSimpArgs false
set_option linter.unusedVariables false
open Go.RowKit

theorem okPks_weak {ps : List PK} {a b : Int} (h : okPks a ps = true) (hab : b ≤ a) : okPks b ps = true := by
  cases ps with
  | nil => rfl
  | cons p ps =>
    simp only [okPks, Bool.and_eq_true] at h ⊢
    have := okPk_iff.1 h.1
    exact ⟨okPk_iff.2 ⟨by omega, this.2⟩, h.2⟩
theorem okPks_filter (f : PK → Bool) : ∀ {ps : List PK} {a : Int}, okPks a ps = true → okPks a (ps.filter f) = true
  | [], _, _ => rfl
  | p :: ps, a, h => by
    simp only [okPks, Bool.and_eq_true] at h
    obtain ⟨h1, h2⟩ := h
    have h3 := okPks_filter f h2
    rw [List.filter_cons]
    split
    · simp only [okPks, Bool.and_eq_true]
      exact ⟨h1, h3⟩
    · have := okPk_iff.1 h1
      exact okPks_weak h3 (by omega)
theorem okPks_pw : ∀ {ps : List PK} {a : Int}, okPks a ps = true → ps.Pairwise fun p q => p.n < q.n
  | [], _, _ => List.Pairwise.nil
  | p :: ps, a, h => by
    simp only [okPks, Bool.and_eq_true] at h
    exact List.pairwise_cons.2 ⟨fun q hq => (okPks_mem h.2 q hq).1, okPks_pw h.2⟩
theorem pw_same : ∀ {ps : List PK}, (ps.Pairwise fun p q => p.n < q.n) → ∀ {p q : PK}, p ∈ ps → q ∈ ps → p.n = q.n → p = q
  | [], _, p, q, hp, _, _ => by simp at hp
  | x :: ps, h, p, q, hp, hq, e => by
    obtain ⟨h1, h2⟩ := List.pairwise_cons.1 h
    rcases List.mem_cons.1 hp with ep | hp2 <;> rcases List.mem_cons.1 hq with eq | hq2
    · rw [ep, eq]
    · have := h1 q hq2; subst ep; omega
    · have := h1 p hp2; subst eq; omega
    · exact pw_same h2 hp2 hq2 e
theorem pairsL_lt {rs : List Rg} {first : Int} : ∀ {ps : List PK}, (ps.Pairwise fun p q => p.n < q.n) → ∀ {x : PK × PK}, x ∈ pairsL rs first ps → x.1.n < x.2.n
  | [], _, x, h => by simp [pairsL] at h
  | a :: ps, hp, x, h => by
    obtain ⟨h1, h2⟩ := List.pairwise_cons.1 hp
    rcases List.mem_append.1 h with h | h
    · obtain ⟨b, hb, rfl⟩ := List.mem_map.1 h
      exact h1 b (List.mem_filter.1 hb).1
    · exact pairsL_lt h2 h
theorem pairsL_quiet {rs : List Rg} {first : Int} : ∀ (ps : List PK), pairsL rs first (ps.filter fun p => p.e) = pairsL rs first ps
  | [] => rfl
  | a :: ps => by
    rw [List.filter_cons]
    by_cases h : a.e = true
    · rw [if_pos h]
      simp only [pairsL, pairsL_quiet ps, List.filter_filter]
      congr 2
      apply List.filter_congr
      intro b _
      cases hb : b.e with
      | true => simp
      | false => simp [pairOk, counts, hb]
    · rw [if_neg h, pairsL_quiet ps]
      have : ps.filter (fun b => pairOk rs first a b) = [] := by
        rw [List.filter_eq_nil_iff]
        intro b _
        have h' : a.e = false := by simpa using h
        simp [pairOk, counts, h']
      simp only [pairsL, this, List.map_nil, List.nil_append]
theorem quiet_pair {rs : List Rg} {first : Int} {ps : List PK} (hg : GoodR rs) (ho : okPks (-1) ps = true) (h : (periodR rs first ps).some = true) :
    ∃ x y : PK, x ∈ ps.filter (fun p => p.e) ∧ y ∈ ps.filter (fun p => p.e) ∧ x.n < y.n ∧ periodR rs first ps = ⟨y.t - x.t, x.n, y.n, true⟩ ∧ first < x.t ∧ (∀ m : Int, x.n < m → m < y.n → ¬ memR m rs) := by
  have hl : pairsL rs first ps ≠ [] := fun e => by unfold periodR at h; rw [e] at h; cases h
  obtain ⟨_, _, ⟨x, y⟩, hx, e⟩ := keep_max hl
  obtain ⟨h1, h2, h3⟩ := pairsL_mem hx
  have h4 := pairsL_lt (okPks_pw ho) hx
  unfold pairOk counts at h3
  simp only [Bool.and_eq_true, decide_eq_true_eq] at h3
  exact ⟨x, y, List.mem_filter.2 ⟨h1, h3.1.1.1.1⟩, List.mem_filter.2 ⟨h2, h3.1.1.2.1⟩, h4, e, h3.1.1.1.2, (freeR_iff hg.le).1 h3.2⟩
/-- The time of the packet of a number, of those that were seen. -/
def seenT (l : List PK) (m t : Int) : Int := if l.any (fun q => q.n == m) = true then t else -1
theorem seen_eq (l : List PK) (q : PK) (m t : Int) (h : q.n = m) : seenT (l ++ [q]) m t = t := by
  unfold seenT
  rw [List.any_append, if_pos (by simp [h])]
theorem seen_ne (l : List PK) (q : PK) (m t : Int) (h : q.n ≠ m) : seenT (l ++ [q]) m t = seenT l m t := by
  unfold seenT
  have : (q.n == m) = false := by rw [beq_eq_false_iff_ne]; exact h
  simp only [List.any_append, List.any_cons, List.any_nil, this, Bool.or_false]
theorem seen_all {l : List PK} {x : PK} (t : Int) (h : x ∈ l) : seenT l x.n t = t := by
  unfold seenT
  rw [if_pos]
  rw [List.any_eq_true]
  exact ⟨x, h, by simp⟩
end Go.Proofs.Ytkmfhcjdajbbhaa
