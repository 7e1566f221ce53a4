/-
  The statements of layer 17: what SpaceSkipped's packets are, in plain Lean.
-/
import Derived.Test.YtgicljeedegncaaGreatSpWorks
namespace Go.Proofs.YtgicljeedegncaaGreat
set_option linter.unusedSimpArgs false
set_option linter.unusedVariables false
open Go.RowKit

def pks17 (M : List Int) : List Pk := M.map fun m => p17 m m
/-- The numbers M were sent; what is known is just these. -/
structure Sk (s : SpSt) (M : List Int) (n : Int) : Prop where
  room : s.room = 256
  ps : s.ps = pks17 M
  last : s.last < n
  n0 : 0 ≤ n
  lt : ∀ m ∈ M, 0 ≤ m ∧ m < n
  srt : M.Pairwise (· < ·)
  mem : ∀ x, memR x s.K ↔ x ∈ M
  klen : s.K.length ≤ M.length
theorem Sk.next {s : SpSt} {M : List Int} {n : Int} (h : Sk s M n) (hg : GoodR s.K) : Sk (sentSt s (p17 n n)) (M ++ [n]) (n + 1) := by
  have h0 := h.n0
  refine ⟨h.room, ?_, show n < n + 1 by omega, by omega, fun m hm => ?_, ?_, fun x => ?_, ?_⟩
  · show s.ps ++ [p17 n n] = pks17 (M ++ [n])
    rw [h.ps]
    simp [pks17]
  · simp at hm
    rcases hm with hm | rfl
    · have := h.lt m hm
      omega
    · omega
  · rw [List.pairwise_append]
    exact ⟨h.srt, by simp, fun a ha b hb => by simp at hb; subst hb; exact (h.lt a ha).2⟩
  · show memR x (addR n n s.K) ↔ x ∈ M ++ [n]
    rw [memR_addR x hg (Int.le_refl n), h.mem]
    simp
    constructor
    · rintro (h1 | h1)
      · exact .inl h1
      · exact .inr (by omega)
    · rintro (h1 | rfl)
      · exact .inl h1
      · exact .inr ⟨by omega, by omega⟩
  · show (addR n n s.K).length ≤ (M ++ [n]).length
    have := addR_le hg (Int.le_refl n)
    have := h.klen
    simp
    omega
theorem Sk.skip {s : SpSt} {M : List Int} {n : Int} (h : Sk s M n) : Sk s M (n + 1) := ⟨h.room, h.ps, by have := h.last; omega, by have := h.n0; omega, fun m hm => by have := h.lt m hm; omega, h.srt, h.mem, h.klen⟩
theorem Sk.can {s : SpSt} {M : List Int} {n : Int} (h : Sk s M n) (hg : GoodR s.K) (hm : M.length < 200) (hn : n ≤ 9007199254740991) : (p17 n n).may ∧ s.last < (p17 n n).num ∧ s.ps.length < s.room ∧ (addR (p17 n n).num (p17 n n).num s.K).length ≤ 256 := by
  have h0 := h.n0
  refine ⟨p17_may h0 hn h0 hn, h.last, ?_, ?_⟩
  · rw [h.ps, h.room]
    simp [pks17]
    omega
  · have := addR_le hg (Int.le_refl n)
    have := h.klen
    show (addR n n s.K).length ≤ 256
    omega
theorem any_in {K : List Rg} {lo hi : Int} (hl : lo ≤ hi) (h : K.any (inP ⟨lo, hi⟩) = true) : memR hi K := by
  obtain ⟨r, hr, hp⟩ := List.any_eq_true.1 h
  simp [inP] at hp
  exact ⟨r, hr, by omega, by omega⟩
theorem any_one {K : List Rg} {x : Int} (h : memR x K) : K.any (inP ⟨x, x⟩) = true := by
  obtain ⟨r, hr, h1, h2⟩ := h
  exact List.any_eq_true.2 ⟨r, hr, by simp [inP]; omega⟩
theorem Sk.unsent {s : SpSt} {M : List Int} {n lo k : Int} (h : Sk s M n) (hk : k ∉ M) (hl : lo ≤ k) : ¬ ∀ r ∈ [(⟨lo, k⟩ : Rg)], s.K.any (inP r) = true := fun hall => hk ((h.mem k).1 (any_in hl (hall _ (by simp))))
/-- What is left when some of the numbers were told. -/
def leftM (M : List Int) (gone : List Int) : List Int := M.filter fun m => !gone.contains m
theorem leftM_nil (M : List Int) : leftM M [] = M := by simp [leftM]
theorem filter_one : ∀ {M : List Int} {x : Int}, M.Pairwise (· < ·) → x ∈ M → M.filter (fun m => decide (m = x)) = [x]
  | [], x, _, h => by simp at h
  | m :: M, x, hs, h => by
    obtain ⟨h1, h2⟩ := List.pairwise_cons.1 hs
    by_cases hmx : m = x
    · subst hmx
      have : M.filter (fun y => decide (y = m)) = [] := by
        rw [List.filter_eq_nil_iff]
        intro y hy
        have := h1 y hy
        simp
        omega
      simp [this]
    · have hx : x ∈ M := by simpa [Ne.symm hmx] using h
      simp [hmx, filter_one h2 hx]
theorem leftM_srt {M : List Int} (gone : List Int) (h : M.Pairwise (· < ·)) : (leftM M gone).Pairwise (· < ·) := h.filter _
theorem told_one {M gone : List Int} {x : Int} (hs : M.Pairwise (· < ·)) (hx : x ∈ M) (hg : x ∉ gone) : ((pks17 (leftM M gone)).map toPK).filter (ackP [⟨x, x⟩]) = [toPK (p17 x x)] := by
  have hx2 : x ∈ leftM M gone := by simp [leftM, hx, hg]
  have h1 := filter_one (leftM_srt gone hs) hx2
  unfold pks17
  rw [List.map_map, List.filter_map]
  have e : (ackP [⟨x, x⟩] ∘ toPK ∘ fun m => p17 m m) = fun m => decide (m = x) := by
    funext m
    simp only [ackP, Function.comp, List.any_cons, List.any_nil, Bool.or_false, hasP, toPK, p17]
    by_cases h : m = x
    · subst h; simp
    · have : ¬ (x ≤ m ∧ m ≤ x) := by omega
      by_cases h2 : x ≤ m
      · have h3 : ¬ m ≤ x := by omega
        simp [h, h2, h3]
      · simp [h, h2]
  rw [e, h1]
  rfl
theorem without_twice (x : Int) (ps : List Pk) : without x (without x ps) = without x ps := by
  unfold without
  rw [List.filter_filter]
  congr 1
  funext p
  simp
theorem dropL_one (x : Int) : ∀ (qs : List PK) (ps : List Pk), dropL (ackP [⟨x, x⟩]) qs ps = if qs.any (ackP [⟨x, x⟩]) then without x ps else ps
  | [], ps => rfl
  | q :: qs, ps => by
    have ih := dropL_one x qs
    show dropL (ackP [⟨x, x⟩]) qs (if ackP [⟨x, x⟩] q then without q.n ps else ps) = _
    rw [ih]
    cases hq : ackP [⟨x, x⟩] q with
    | false => simp [hq]
    | true =>
      have hn : q.n = x := by
        simp [ackP, hasP] at hq
        omega
      simp [hq, hn]
      exact fun _ _ _ => without_twice x ps
theorem left_step {M gone : List Int} {x : Int} (hs : M.Pairwise (· < ·)) (hx : x ∈ M) (hg : x ∉ gone) : dropL (ackP [⟨x, x⟩]) ((pks17 (leftM M gone)).map toPK) (pks17 (leftM M gone)) = pks17 (leftM M (gone ++ [x])) := by
  have ht := told_one hs hx hg
  have ha : ((pks17 (leftM M gone)).map toPK).any (ackP [⟨x, x⟩]) = true := by
    rw [List.any_eq_true]
    have : toPK (p17 x x) ∈ ((pks17 (leftM M gone)).map toPK).filter (ackP [⟨x, x⟩]) := by rw [ht]; simp
    exact ⟨_, (List.mem_filter.1 this).1, (List.mem_filter.1 this).2⟩
  rw [dropL_one, if_pos ha]
  unfold without pks17 leftM
  rw [List.filter_map, List.filter_filter]
  congr 1
  congr 1
  funext m
  simp [p17, bne, Bool.and_comm]
  by_cases h : m = x <;> simp [h, and_comm]
end Go.Proofs.YtgicljeedegncaaGreat
