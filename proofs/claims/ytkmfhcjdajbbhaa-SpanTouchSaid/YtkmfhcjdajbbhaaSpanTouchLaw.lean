/-
  The statement SpanTouch: what of it is plain, of lists of ranges.
-/
import Derived.Test.YtkmfhcjdajbbhaaSpanMany
namespace Go.Proofs.Ytkmfhcjdajbbhaa
set_option linter.unusedSimpArgs false
set_option linter.unusedVariables false
open Go.RowKit

theorem touch_same {rs : List Rg} {r : Rg} {a b : Int} (h : GoodR rs) (hm : r ∈ rs) (h1 : r.lo ≤ a) (h2 : a ≤ b) (h3 : b ≤ r.hi) : addR a b rs = rs := by
  have k0 := h.lo r hm
  have k1 := h.hi r hm
  refine ext_R (addR_good h h2 (by omega) (by omega)).1 h fun n => ?_
  rw [memR_addR n h h2]
  exact ⟨fun k => k.elim id fun k => ⟨r, hm, by omega⟩, .inl⟩
theorem touch_cut {rs : List Rg} {J : Int} (h : GoodR rs) (hJ : (if minOf rs < 0 then 0 else minOf rs) = J) : cutR J rs = rs ∧ 0 ≤ J ∧ J ≤ 9007199254740991 := by
  cases rs with
  | nil =>
    have : minOf [] = -1 := rfl
    rw [this, if_pos (by omega)] at hJ
    subst hJ
    exact ⟨rfl, by omega, by omega⟩
  | cons r rs =>
    obtain ⟨g, a1, a2, a3, a4⟩ := h.cons
    have : minOf (r :: rs) = r.lo := rfl
    rw [this, if_neg (by omega)] at hJ
    subst hJ
    refine ⟨ext_R (cutR_good h) h fun n => ?_, by omega, by omega⟩
    rw [memR_cutR n h]
    refine ⟨fun k => k.1, fun k => ⟨k, ?_⟩⟩
    rcases (memR_cons _ _ _).1 k with k | k
    · omega
    · have := memR_gt a4 k; omega
theorem addR_behind {lo hi : Int} {B : List Rg} : ∀ {A : List Rg}, (∀ r ∈ A, r.hi < lo - 1) → addR lo hi (A ++ B) = A ++ addR lo hi B
  | [], _ => rfl
  | r :: A, h => by
    show addR lo hi (r :: (A ++ B)) = _
    rw [addR, if_pos (h r (by simp)), addR_behind (fun x hx => h x (by simp [hx]))]
    rfl
/-- What is missing between two ranges makes one of them. -/
theorem touch_join {rs : List Rg} {k : Nat} {p q : Rg} (h : GoodR rs) (hp : rs.reverse[k]? = some p) (hq : rs.reverse[k + 1]? = some q) :
    q.hi + 1 ≤ p.lo - 1 ∧ 0 ≤ q.hi ∧ p.lo ≤ 9007199254740991 ∧ (addR (q.hi + 1) (p.lo - 1) rs).length + 1 = rs.length ∧ (addR (q.hi + 1) (p.lo - 1) rs).reverse[k]? = some ⟨q.lo, p.hi⟩ := by
  obtain ⟨L, hL⟩ : ∃ L, rs.reverse = L := ⟨_, rfl⟩
  have hr : rs = L.reverse := by rw [← hL, List.reverse_reverse]
  rw [hL] at hp hq
  obtain ⟨hk1, e1⟩ := List.getElem?_eq_some_iff.1 hp
  obtain ⟨hk2, e2⟩ := List.getElem?_eq_some_iff.1 hq
  have hd : L = L.take k ++ (p :: q :: L.drop (k + 2)) := by
    rw [← e1, ← e2, ← List.drop_eq_getElem_cons, ← List.drop_eq_getElem_cons, List.take_append_drop]
  obtain ⟨B, hB⟩ : ∃ B, L.take k = B := ⟨_, rfl⟩
  obtain ⟨A, hA⟩ : ∃ A, L.drop (k + 2) = A := ⟨_, rfl⟩
  have hBl : B.length = k := by rw [← hB, List.length_take]; omega
  rw [hB, hA] at hd
  have hrs : rs = A.reverse ++ (q :: p :: B.reverse) := by rw [hr, hd]; simp
  clear hp hq e1 e2 hk1 hk2 hB hA hL hr hd
  subst hrs
  have hs := List.pairwise_append.1 h.sorted
  obtain ⟨s1, s2⟩ := List.pairwise_cons.1 hs.2.1
  obtain ⟨s3, s4⟩ := List.pairwise_cons.1 s2
  have hqp := s1 p (by simp)
  have ql := h.le q (by simp)
  have q0 := h.lo q (by simp)
  have pl := h.le p (by simp)
  have ph := h.hi p (by simp)
  have e : addR (q.hi + 1) (p.lo - 1) (A.reverse ++ (q :: p :: B.reverse)) = A.reverse ++ (⟨q.lo, p.hi⟩ :: B.reverse) := by
    rw [addR_behind (fun r hr => by have := hs.2.2 r hr q (by simp); omega)]
    congr 1
    rw [addR, if_neg (by omega), if_neg (by omega), show min (q.hi + 1) q.lo = q.lo by omega, show max (p.lo - 1) q.hi = p.lo - 1 by omega, addR, if_neg (by omega), if_neg (by omega),
      show min q.lo p.lo = q.lo by omega, show max (p.lo - 1) p.hi = p.hi by omega]
    have hle : ∀ x ∈ B.reverse, x.lo ≤ x.hi := fun x hx => h.le x (by simp at hx ⊢; simp [hx])
    generalize B.reverse = C at s3 hle
    cases C with
    | nil => rfl
    | cons x C =>
      have hx := s3 x (by simp)
      have hxl := hle x (by simp)
      rw [addR, if_neg (by omega), if_pos hx]
  refine ⟨by omega, by omega, by omega, by rw [e]; simp; omega, ?_⟩
  rw [e, List.reverse_append, List.reverse_cons, List.reverse_reverse, List.append_assoc, List.getElem?_append_right (by omega), hBl]
  simp
end Go.Proofs.Ytkmfhcjdajbbhaa
