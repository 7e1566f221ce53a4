/-
  The statements PersistMore, PersistQuiet, PersistRuns: what of them is plain.
-/
import Derived.Test.YtkmfhcjdajbbhaaPersistMarks
namespace Go.Proofs.Ytkmfhcjdajbbhaa
set_option linter.unusedSimpArgs false
set_option linter.unusedVariables false
open Go.RowKit

def diffP (x : PK × PK) : Int := x.2.t - x.1.t
/-- What is kept of many pairs: the first one of the longest. -/
theorem keep_from : ∀ (l : List (PK × PK)) (st : Per), st.some = true → (l.foldl keepP st).some = true ∧ st.d ≤ (l.foldl keepP st).d ∧ (∀ x ∈ l, diffP x ≤ (l.foldl keepP st).d) ∧
    (l.foldl keepP st = st ∨ ∃ x ∈ l, l.foldl keepP st = ⟨diffP x, x.1.n, x.2.n, true⟩)
  | [], st, h => ⟨h, Int.le_refl _, by simp, .inl rfl⟩
  | x :: l, st, h => by
    rw [List.foldl_cons]
    by_cases hd : st.d < x.2.t - x.1.t
    · have e : keepP st x = ⟨x.2.t - x.1.t, x.1.n, x.2.n, true⟩ := by unfold keepP; simp [hd]
      rw [e]
      obtain ⟨h1, h2, h3, h4⟩ := keep_from l ⟨x.2.t - x.1.t, x.1.n, x.2.n, true⟩ rfl
      dsimp only at h2
      refine ⟨h1, by omega, fun y hy => ?_, ?_⟩
      · rcases List.mem_cons.1 hy with rfl | hy
        · unfold diffP; omega
        · exact h3 y hy
      · rcases h4 with h4 | ⟨y, hy, h4⟩
        · exact .inr ⟨x, by simp, by rw [h4]; rfl⟩
        · exact .inr ⟨y, by simp [hy], h4⟩
    · have e : keepP st x = st := by unfold keepP; simp [hd, h]
      rw [e]
      obtain ⟨h1, h2, h3, h4⟩ := keep_from l st h
      refine ⟨h1, h2, fun y hy => ?_, ?_⟩
      · rcases List.mem_cons.1 hy with rfl | hy
        · unfold diffP; omega
        · exact h3 y hy
      · rcases h4 with h4 | ⟨y, hy, h4⟩
        · exact .inl h4
        · exact .inr ⟨y, by simp [hy], h4⟩
theorem keep_max {l : List (PK × PK)} (h : l ≠ []) : (l.foldl keepP Per.none).some = true ∧ (∀ x ∈ l, diffP x ≤ (l.foldl keepP Per.none).d) ∧ ∃ x ∈ l, l.foldl keepP Per.none = ⟨diffP x, x.1.n, x.2.n, true⟩ := by
  cases l with
  | nil => exact absurd rfl h
  | cons x l =>
    rw [List.foldl_cons]
    have e : keepP Per.none x = ⟨x.2.t - x.1.t, x.1.n, x.2.n, true⟩ := rfl
    rw [e]
    obtain ⟨h1, h2, h3, h4⟩ := keep_from l ⟨x.2.t - x.1.t, x.1.n, x.2.n, true⟩ rfl
    refine ⟨h1, fun y hy => ?_, ?_⟩
    · rcases List.mem_cons.1 hy with rfl | hy
      · exact h2
      · exact h3 y hy
    · rcases h4 with h4 | ⟨y, hy, h4⟩
      · exact ⟨x, by simp, h4⟩
      · exact ⟨y, by simp [hy], h4⟩
theorem keep_mono {l m : List (PK × PK)} (h : ∀ x ∈ l, x ∈ m) (hs : (l.foldl keepP Per.none).some = true) : (m.foldl keepP Per.none).some = true ∧ (l.foldl keepP Per.none).d ≤ (m.foldl keepP Per.none).d := by
  have hl : l ≠ [] := fun e => by rw [e] at hs; cases hs
  obtain ⟨_, _, x, hx, e⟩ := keep_max hl
  have hm : m ≠ [] := fun e => by have := h x hx; rw [e] at this; simp at this
  obtain ⟨h1, h2, _⟩ := keep_max hm
  refine ⟨h1, ?_⟩
  rw [e]
  exact h2 x (h x hx)
theorem pairsL_append {rs : List Rg} {first : Int} : ∀ {ps : List PK} (qs : List PK) {x : PK × PK}, x ∈ pairsL rs first ps → x ∈ pairsL rs first (ps ++ qs)
  | [], qs, x, h => by simp [pairsL] at h
  | a :: ps, qs, x, h => by
    show x ∈ ((((ps ++ qs).filter fun b => pairOk rs first a b).map fun b => (a, b)) ++ pairsL rs first (ps ++ qs))
    rcases List.mem_append.1 h with h | h
    · refine List.mem_append.2 (.inl ?_)
      obtain ⟨b, hb, rfl⟩ := List.mem_map.1 h
      obtain ⟨h1, h2⟩ := List.mem_filter.1 hb
      exact List.mem_map.2 ⟨b, List.mem_filter.2 ⟨by simp [h1], h2⟩, rfl⟩
    · exact List.mem_append.2 (.inr (pairsL_append qs h))
theorem pairsL_less {rs ss : List Rg} {first : Int} (hr : GoodR rs) (hs : GoodR ss) (h : ∀ n, memR n ss → memR n rs) : ∀ {ps : List PK} {x : PK × PK}, x ∈ pairsL rs first ps → x ∈ pairsL ss first ps
  | [], x, hx => by simp [pairsL] at hx
  | a :: ps, x, hx => by
    rcases List.mem_append.1 hx with hx | hx
    · refine List.mem_append.2 (.inl ?_)
      obtain ⟨b, hb, rfl⟩ := List.mem_map.1 hx
      obtain ⟨h1, h2⟩ := List.mem_filter.1 hb
      refine List.mem_map.2 ⟨b, List.mem_filter.2 ⟨h1, ?_⟩, rfl⟩
      unfold pairOk at h2 ⊢
      simp only [Bool.and_eq_true] at h2 ⊢
      refine ⟨h2.1, (freeR_iff hs.le).2 fun m m1 m2 hm => (freeR_iff hr.le).1 h2.2 m m1 m2 (h m hm)⟩
    · exact List.mem_append.2 (.inr (pairsL_less hr hs h hx))
theorem okPks_take : ∀ {ps : List PK} {last : Int} (j : Nat), okPks last ps = true → okPks last (ps.take j) = true
  | [], _, j, _ => by simp [okPks]
  | p :: ps, last, 0, _ => rfl
  | p :: ps, last, j + 1, h => by
    simp only [okPks, Bool.and_eq_true, List.take_succ_cons] at h ⊢
    exact ⟨h.1, okPks_take j h.2⟩
theorem periodOf_eq {rs : List Rg} {first : Int} {ps : List PK} (h : okPks (-1) ps = true) (hl : ps.length ≤ 256) (h0 : 0 ≤ first) (h1 : first ≤ 9007199254740991) : periodOf rs first ps = periodR rs first ps := by
  unfold periodOf checkL
  rw [if_pos ⟨if_pos ⟨hl, h⟩, h0, h1⟩]
theorem more_first {rs : List Rg} {first : Int} {ps : List PK} (j : Nat) (h : (periodR rs first (ps.take j)).some = true) : (periodR rs first ps).some = true ∧ (periodR rs first (ps.take j)).d ≤ (periodR rs first ps).d :=
  keep_mono (fun x hx => by have := pairsL_append (ps.drop j) hx; rwa [List.take_append_drop] at this) h
theorem more_less {rs ss : List Rg} {first : Int} {ps : List PK} (hr : GoodR rs) (hs : GoodR ss) (hm : ∀ n, memR n ss → memR n rs) (h : (periodR rs first ps).some = true) : (periodR ss first ps).some = true ∧ (periodR rs first ps).d ≤ (periodR ss first ps).d :=
  keep_mono (fun x hx => pairsL_less hr hs hm hx) h
end Go.Proofs.Ytkmfhcjdajbbhaa
