/-
  The statements of layer 17: what holds of a run, in plain Lean.
-/
import Derived.Test.YtgicljeedegncaaGreatSpSkipLaw
namespace Go.Proofs.YtgicljeedegncaaGreat
set_option linter.unusedSimpArgs false
set_option linter.unusedVariables false
open Go.RowKit

/-- What a run knows agrees: what was sent, what was told, what is there still; G: what was discarded; N: calls at most. -/
structure RunOk (s : SpSt) (sent acked lost G : List Int) (now : Int) (N : Nat) : Prop where
  rise : sent.Pairwise (· < ·)
  bnd : ∀ x ∈ sent, 0 ≤ x ∧ x ≤ s.last
  last : -1 ≤ s.last ∧ s.last ≤ 3 * (N : Int)
  slen : sent.length ≤ N
  mem : ∀ x, memR x s.K ↔ x ∈ sent
  klen : s.K.length ≤ N
  here : ∀ p ∈ s.ps, p.num ∈ sent ∧ p.num ∉ acked ∧ p.num ∉ lost ∧ p.num ∉ G
  ack1 : ∀ x ∈ acked, x ∈ sent ∧ x ∉ G
  los1 : ∀ x ∈ lost, x ∈ sent ∧ x ∉ G
  gone : ∀ x ∈ G, x ∈ sent
  cnt : s.ps.length + acked.length + lost.length + G.length = sent.length
  great : s.great = -1 ∨ s.great ∈ sent
  now0 : 0 ≤ now ∧ now ≤ (N : Int) * 1073741824
  time : ∀ p ∈ s.ps, 0 ≤ p.time ∧ p.time ≤ now
section
variable {s s' : SpSt} {sent acked lost G : List Int} {now now' n : Int} {N : Nat} {p : Pk}
theorem RunOk.tick (h : RunOk s sent acked lost G now N) (h1 : now ≤ now') (h2 : now' ≤ now + 1073741823) : RunOk s sent acked lost G now' (N + 1) :=
  ⟨h.rise, h.bnd, by have := h.last; omega, by have := h.slen; omega, h.mem, by have := h.klen; omega, h.here, h.ack1, h.los1, h.gone, h.cnt, h.great, by have := h.now0; omega, fun p hp => by have := h.time p hp; omega⟩
theorem RunOk.onSent (h : RunOk s sent acked lost G now N) (hg : GoodR s.K) (h1 : now ≤ now') (h2 : now' ≤ now + 1073741823) (hn : s.last < n) (hn2 : n ≤ s.last + 3) (hp : p.num = n) (ht : p.time = now') :
    RunOk (sentSt s p) (sent ++ [n]) acked lost G now' (N + 1) := by
  have hnot : n ∉ sent := fun hm => by have := h.bnd n hm; omega
  have hl := h.last
  have hn0 := h.now0
  subst hp
  subst ht
  refine ⟨?_, fun x hx => ?_, ?_, ?_, fun x => ?_, ?_, fun q hq => ?_, fun x hx => ?_, fun x hx => ?_, fun x hx => ?_, ?_, ?_, by omega, fun q hq => ?_⟩
  · rw [List.pairwise_append]
    exact ⟨h.rise, by simp, fun a ha b hb => by simp at hb; subst hb; have := h.bnd a ha; omega⟩
  · show 0 ≤ x ∧ x ≤ p.num
    rcases List.mem_append.1 hx with hx | hx
    · have := h.bnd x hx
      omega
    · simp at hx
      omega
  · show -1 ≤ p.num ∧ p.num ≤ _
    omega
  · have := h.slen
    simp
    omega
  · show memR x (addR p.num p.num s.K) ↔ _
    rw [memR_addR x hg (Int.le_refl _), h.mem, List.mem_append]
    simp
    constructor
    · rintro (h1 | h1)
      · exact .inl h1
      · exact .inr (by omega)
    · rintro (h1 | h1)
      · exact .inl h1
      · exact .inr (by omega)
  · show (addR p.num p.num s.K).length ≤ _
    have := addR_le hg (Int.le_refl p.num)
    have := h.klen
    omega
  · rcases List.mem_append.1 (show q ∈ s.ps ++ [p] from hq) with hq | hq
    · obtain ⟨h3, h4⟩ := h.here q hq
      exact ⟨List.mem_append.2 (.inl h3), h4⟩
    · simp at hq
      subst hq
      exact ⟨by simp, fun hm => hnot (h.ack1 _ hm).1, fun hm => hnot (h.los1 _ hm).1, fun hm => hnot (h.gone _ hm)⟩
  · exact ⟨List.mem_append.2 (.inl (h.ack1 x hx).1), (h.ack1 x hx).2⟩
  · exact ⟨List.mem_append.2 (.inl (h.los1 x hx).1), (h.los1 x hx).2⟩
  · exact List.mem_append.2 (.inl (h.gone x hx))
  · show (s.ps ++ [p]).length + _ + _ + _ = _
    have := h.cnt
    simp only [List.length_append, List.length_cons, List.length_nil]
    omega
  · rcases h.great with h3 | h3
    · exact .inl h3
    · exact .inr (List.mem_append.2 (.inl h3))
  · rcases List.mem_append.1 (show q ∈ s.ps ++ [p] from hq) with hq | hq
    · have := h.time q hq
      omega
    · simp at hq
      subst hq
      omega
theorem mem_toldN {ps : List Pk} {P : PK → Bool} {x : Int} : x ∈ ((ps.map toPK).filter P).map PK.n ↔ ∃ p ∈ ps, P (toPK p) = true ∧ p.num = x := by
  simp only [List.mem_map, List.mem_filter]
  constructor
  · rintro ⟨q, ⟨⟨p, hp, rfl⟩, hq⟩, rfl⟩
    exact ⟨p, hp, hq, rfl⟩
  · rintro ⟨p, hp, hP, rfl⟩
    exact ⟨toPK p, ⟨⟨p, hp, rfl⟩, hP⟩, rfl⟩
theorem sorted_inj : ∀ {ps : List Pk}, ps.Pairwise (fun a b => a.num < b.num) → ∀ p ∈ ps, ∀ q ∈ ps, p.num = q.num → p = q
  | [], _, p, hp, _, _, _ => by simp at hp
  | a :: ps, hs, p, hp, q, hq, e => by
    obtain ⟨h1, h2⟩ := List.pairwise_cons.1 hs
    rcases List.mem_cons.1 hp with hp1 | hp1
    · rcases List.mem_cons.1 hq with hq1 | hq1
      · rw [hp1, hq1]
      · have := h1 q hq1
        rw [hp1] at e
        omega
    · rcases List.mem_cons.1 hq with hq1 | hq1
      · have := h1 p hp1
        rw [hq1] at e
        omega
      · exact sorted_inj h2 p hp1 q hq1 e
theorem dropL_eq (P : PK → Bool) : ∀ (qs : List PK) (ps : List Pk), dropL P qs ps = ps.filter (fun p => !(qs.any fun q => P q && q.n == p.num))
  | [], ps => by
    symm
    exact List.filter_eq_self.2 (fun p _ => rfl)
  | q :: qs, ps => by
    have e : dropL P (q :: qs) ps = dropL P qs (if P q then without q.n ps else ps) := rfl
    rw [e, dropL_eq P qs]
    by_cases hP : P q = true
    · rw [if_pos hP]
      unfold without
      rw [List.filter_filter]
      apply List.filter_congr
      intro p _
      rw [List.any_cons, hP]
      by_cases hn : p.num = q.n
      · simp [hn]
      · have : (q.n == p.num) = false := by rw [beq_eq_false_iff_ne]; exact fun e => hn e.symm
        simp [this, hn]
    · rw [if_neg hP]
      apply List.filter_congr
      intro p _
      have hP' : P q = false := by simpa using hP
      rw [List.any_cons, hP']
      simp
theorem told_ack {ps : List Pk} (P : PK → Bool) (hs : ps.Pairwise fun a b => a.num < b.num) : dropL P (ps.map toPK) ps = ps.filter fun p => !P (toPK p) := by
  rw [dropL_eq]
  apply List.filter_congr
  intro p hp
  congr 1
  rw [Bool.eq_iff_iff, List.any_eq_true]
  constructor
  · rintro ⟨q, hq, h⟩
    obtain ⟨p', hp', rfl⟩ := List.mem_map.1 hq
    simp only [Bool.and_eq_true, beq_iff_eq] at h
    rw [← sorted_inj hs p' hp' p hp h.2]
    exact h.1
  · intro h
    exact ⟨toPK p, List.mem_map.2 ⟨p, hp, rfl⟩, by rw [h]; exact (beq_iff_eq.2 rfl : ((toPK p).n == p.num) = true)⟩
theorem told_lost {ps : List Pk} (P : PK → Bool) (hs : ps.Pairwise fun a b => a.num < b.num) : dropL allP ((ps.map toPK).filter P) ps = ps.filter fun p => !P (toPK p) := by
  rw [dropL_eq]
  apply List.filter_congr
  intro p hp
  congr 1
  rw [Bool.eq_iff_iff, List.any_eq_true]
  constructor
  · rintro ⟨q, hq, h⟩
    obtain ⟨hq, hP⟩ := List.mem_filter.1 hq
    obtain ⟨p', hp', rfl⟩ := List.mem_map.1 hq
    simp only [allP, Bool.true_and, beq_iff_eq] at h
    rw [← sorted_inj hs p' hp' p hp h]
    exact hP
  · intro h
    exact ⟨toPK p, List.mem_filter.2 ⟨List.mem_map.2 ⟨p, hp, rfl⟩, h⟩, by show (allP _ && _) = true; exact (beq_iff_eq.2 rfl : ((toPK p).n == p.num) = true)⟩
theorem told_len (P : PK → Bool) : ∀ ps : List Pk, (ps.filter fun p => !P (toPK p)).length + ((ps.map toPK).filter P).length = ps.length
  | [] => rfl
  | p :: ps => by
    have := told_len P ps
    rw [List.map_cons, List.filter_cons, List.filter_cons]
    cases h : P (toPK p) <;> simp only [h, Bool.not_true, Bool.not_false, if_true, if_false, List.length_cons, Bool.false_eq_true] <;> omega
theorem told_srt {ps : List Pk} (P : PK → Bool) (hs : ps.Pairwise fun a b => a.num < b.num) : (((ps.map toPK).filter P).map PK.n).Pairwise (· < ·) := by
  rw [List.pairwise_map]
  refine List.Pairwise.filter _ ?_
  rw [List.pairwise_map]
  exact hs
theorem RunOk.told_here (h : RunOk s sent acked lost G now N) (P : PK → Bool) : ∀ q ∈ (s.ps.map toPK).filter P, q.n ∈ sent ∧ q.n ∉ acked ∧ q.n ∉ lost := by
  intro q hq
  obtain ⟨hq, _⟩ := List.mem_filter.1 hq
  obtain ⟨p, hp, rfl⟩ := List.mem_map.1 hq
  obtain ⟨h1, h2, h3, _⟩ := h.here p hp
  exact ⟨h1, h2, h3⟩
theorem RunOk.onAcked (h : RunOk s sent acked lost G now N) (hs : s.ps.Pairwise fun a b => a.num < b.num) (P : PK → Bool) (hp : s'.ps = s.ps.filter fun p => !P (toPK p)) (hl : s'.last = s.last) (hK : s'.K = s.K) (hgr : s'.great = -1 ∨ s'.great ∈ sent) :
    RunOk s' sent (acked ++ ((s.ps.map toPK).filter P).map PK.n) lost G now N := by
  have hsub : ∀ p ∈ s'.ps, p ∈ s.ps ∧ P (toPK p) = false := fun p hm => by
    rw [hp] at hm
    obtain ⟨h1, h2⟩ := List.mem_filter.1 hm
    exact ⟨h1, by simpa using h2⟩
  refine ⟨h.rise, by rw [hl]; exact h.bnd, by rw [hl]; exact h.last, h.slen, by rw [hK]; exact h.mem, by rw [hK]; exact h.klen, fun p hm => ?_, fun x hx => ?_, h.los1, h.gone, ?_, hgr, h.now0, fun p hm => h.time p (hsub p hm).1⟩
  · obtain ⟨h1, h2⟩ := hsub p hm
    obtain ⟨h3, h4, h5, h6⟩ := h.here p h1
    refine ⟨h3, fun hx => ?_, h5, h6⟩
    rcases List.mem_append.1 hx with hx | hx
    · exact h4 hx
    · obtain ⟨p', hp', hP, he⟩ := mem_toldN.1 hx
      rw [sorted_inj hs p' hp' p h1 he] at hP
      rw [h2] at hP
      exact absurd hP (by simp)
  · rcases List.mem_append.1 hx with hx | hx
    · exact h.ack1 x hx
    · obtain ⟨p', hp', hP, rfl⟩ := mem_toldN.1 hx
      have := h.here p' hp'
      exact ⟨this.1, this.2.2.2⟩
  · have h1 := h.cnt
    have h2 := told_len P s.ps
    rw [hp, List.length_append, List.length_map]
    omega
theorem RunOk.onLost (h : RunOk s sent acked lost G now N) (hs : s.ps.Pairwise fun a b => a.num < b.num) (P : PK → Bool) (hp : s'.ps = s.ps.filter fun p => !P (toPK p)) (hl : s'.last = s.last) (hK : s'.K = s.K) (hgr : s'.great = -1 ∨ s'.great ∈ sent) :
    RunOk s' sent acked (lost ++ ((s.ps.map toPK).filter P).map PK.n) G now N := by
  have hsub : ∀ p ∈ s'.ps, p ∈ s.ps ∧ P (toPK p) = false := fun p hm => by
    rw [hp] at hm
    obtain ⟨h1, h2⟩ := List.mem_filter.1 hm
    exact ⟨h1, by simpa using h2⟩
  refine ⟨h.rise, by rw [hl]; exact h.bnd, by rw [hl]; exact h.last, h.slen, by rw [hK]; exact h.mem, by rw [hK]; exact h.klen, fun p hm => ?_, h.ack1, fun x hx => ?_, h.gone, ?_, hgr, h.now0, fun p hm => h.time p (hsub p hm).1⟩
  · obtain ⟨h1, h2⟩ := hsub p hm
    obtain ⟨h3, h4, h5, h6⟩ := h.here p h1
    refine ⟨h3, h4, fun hx => ?_, h6⟩
    rcases List.mem_append.1 hx with hx | hx
    · exact h5 hx
    · obtain ⟨p', hp', hP, he⟩ := mem_toldN.1 hx
      rw [sorted_inj hs p' hp' p h1 he] at hP
      rw [h2] at hP
      exact absurd hP (by simp)
  · rcases List.mem_append.1 hx with hx | hx
    · exact h.los1 x hx
    · obtain ⟨p', hp', hP, rfl⟩ := mem_toldN.1 hx
      have := h.here p' hp'
      exact ⟨this.1, this.2.2.2⟩
  · have h1 := h.cnt
    have h2 := told_len P s.ps
    rw [hp, List.length_append, List.length_map]
    omega
/-- A row of numbers without a gap lies in one range. -/
theorem any_run {K : List Rg} (hg : GoodR K) {lo hi : Int} (hl : lo ≤ hi) (h : ∀ x, lo ≤ x → x ≤ hi → memR x K) : K.any (inP ⟨lo, hi⟩) = true := by
  obtain ⟨r, hr, h1, h2⟩ := h lo (Int.le_refl _) hl
  rw [List.any_eq_true]
  refine ⟨r, hr, ?_⟩
  by_cases hh : hi ≤ r.hi
  · simp [inP]
    exact ⟨h1, hh⟩
  · obtain ⟨q, hq, h3, h4⟩ := h (r.hi + 1) (by omega) (by omega)
    exfalso
    obtain ⟨i, hi'⟩ := List.mem_iff_getElem?.1 hr
    obtain ⟨j, hj'⟩ := List.mem_iff_getElem?.1 hq
    obtain ⟨i1, i2⟩ := List.getElem?_eq_some_iff.1 hi'
    obtain ⟨j1, j2⟩ := List.getElem?_eq_some_iff.1 hj'
    rcases Nat.lt_trichotomy i j with hij | hij | hij
    · have := List.pairwise_iff_getElem.1 hg.sorted i j i1 j1 hij
      rw [i2, j2] at this
      omega
    · subst hij
      rw [hi'] at hj'
      cases hj'
      omega
    · have := List.pairwise_iff_getElem.1 hg.sorted j i j1 i1 hij
      rw [i2, j2] at this
      omega
end
end Go.Proofs.YtgicljeedegncaaGreat
