/-
  The packets' log: plain laws of the list of its places. No walk here.
-/
import Derived.Test.YtcigkggdcogokaaSentRep
namespace Go.Proofs.Ytcigkggdcogokaa

theorem liveOf_cons (s : Sl) (q : List Sl) : liveOf (s :: q) = if s.2 = true then s.1 :: liveOf q else liveOf q := by
  unfold liveOf
  rw [List.filter_cons]
  split <;> rfl
theorem mem_live {q : List Sl} {p : Pk} (h : p ∈ liveOf q) : (p, true) ∈ q := by
  obtain ⟨s, hs, rfl⟩ := List.mem_map.1 h
  obtain ⟨h1, h2⟩ := List.mem_filter.1 hs
  have : s = (s.1, true) := Prod.ext rfl h2
  rw [← this]; exact h1
theorem live_sorted {q : List Sl} (h : q.Pairwise fun a b => a.1.num < b.1.num) : (liveOf q).Pairwise fun a b => a.num < b.num := by
  unfold liveOf
  rw [List.pairwise_map]
  exact h.sublist List.filter_sublist
theorem find_none_of_gt {n : Int} {ps : List Pk} (h : ∀ p ∈ ps, n < p.num) : ps.find? (fun p => p.num == n) = none := by
  rw [List.find?_eq_none]
  intro p hp
  have := h p hp
  simp; omega

/-- The packet of number n that is there: what lies at the first place of number n, or more. -/
theorem find_at (n : Int) : ∀ (q : List Sl), (q.Pairwise fun a b => a.1.num < b.1.num) →
    (liveOf q).find? (fun p => p.num == n) = match q[firstAt n q]? with
      | some s => if s.1.num = n ∧ s.2 = true then some s.1 else none
      | none => none
  | [], _ => by simp [liveOf, firstAt]
  | x :: q, h => by
    obtain ⟨h1, h2⟩ := List.pairwise_cons.1 h
    have ih := find_at n q h2
    rw [liveOf_cons]
    by_cases hx : x.1.num < n
    · have e : firstAt n (x :: q) = firstAt n q + 1 := by unfold firstAt; rw [List.takeWhile_cons]; simp [hx]
      have hb : (x.1.num == n) = false := by simp; omega
      rw [e, List.getElem?_cons_succ]
      split
      · rw [List.find?_cons, hb]; exact ih
      · exact ih
    · have e : firstAt n (x :: q) = 0 := by unfold firstAt; rw [List.takeWhile_cons]; simp [hx]
      rw [e, List.getElem?_cons_zero]
      have hgt : ∀ p ∈ liveOf q, n < p.num := fun p hp => by have := h1 _ (mem_live hp); simp only at this; omega
      have hn := find_none_of_gt hgt
      by_cases hxn : x.1.num = n
      · by_cases hx2 : x.2 = true
        · rw [if_pos hx2, List.find?_cons]; simp [hxn, hx2]
        · rw [if_neg hx2, hn]; simp [hx2]
      · have hb : (x.1.num == n) = false := by simpa using hxn
        simp only [hxn, false_and, if_false]
        split
        · rw [List.find?_cons, hb]; exact hn
        · exact hn

/-- All but the one of number n. -/
def without (n : Int) (ps : List Pk) : List Pk := ps.filter fun p => p.num != n

theorem without_id {n : Int} {ps : List Pk} (h : ∀ p ∈ ps, p.num ≠ n) : without n ps = ps := by
  unfold without
  rw [List.filter_eq_self]
  intro p hp
  simpa using h p hp

theorem without_at : ∀ {q : List Sl} {i : Nat} {p : Pk}, (q.Pairwise fun a b => a.1.num < b.1.num) → q[i]? = some (p, true) → liveOf (q.set i (p, false)) = without p.num (liveOf q)
  | [], i, p, _, h => by simp at h
  | x :: q, 0, p, hs, h => by
    have hx : x = (p, true) := by simpa using h
    subst hx
    obtain ⟨h1, h2⟩ := List.pairwise_cons.1 hs
    rw [List.set_cons_zero, liveOf_cons, liveOf_cons]
    simp only [Bool.false_eq_true, if_false, if_true]
    unfold without
    rw [List.filter_cons]
    simp only [bne_self_eq_false, Bool.false_eq_true, if_false]
    symm
    exact without_id fun p' hp' => by have := h1 _ (mem_live hp'); simp only at this; omega
  | x :: q, i + 1, p, hs, h => by
    obtain ⟨h1, h2⟩ := List.pairwise_cons.1 hs
    have hq : q[i]? = some (p, true) := by simpa using h
    have ih := without_at h2 hq
    have hlt := h1 _ (List.mem_of_getElem? hq)
    simp only at hlt
    rw [List.set_cons_succ, liveOf_cons, liveOf_cons, ih]
    unfold without
    split
    · rw [List.filter_cons, if_pos (by simp; omega)]
    · rfl

theorem flight_without {n : Int} : ∀ {ps : List Pk} {p : Pk}, (ps.Pairwise fun a b => a.num < b.num) → p ∈ ps → p.num = n → flightOf (without n ps) = totF p.fl (flightOf ps) (-p.size)
  | [], p, _, h, _ => by simp at h
  | x :: ps, p, hs, h, hn => by
    obtain ⟨h1, h2⟩ := List.pairwise_cons.1 hs
    rcases List.mem_cons.1 h with rfl | h
    · have e : without n (p :: ps) = ps := by
        unfold without
        rw [List.filter_cons, if_neg (by simp [hn])]
        exact without_id fun p' hp' => by have := h1 _ hp'; omega
      rw [e]; unfold totF; simp only [flightOf]; split <;> omega
    · have hlt := h1 p h
      have e : without n (x :: ps) = x :: without n ps := by unfold without; rw [List.filter_cons, if_pos (by simp; omega)]
      have ih := flight_without h2 h hn
      rw [e]; unfold totF at *; simp only [flightOf, ih]; split <;> split <;> omega
theorem elic_without {n : Int} : ∀ {ps : List Pk} {p : Pk}, (ps.Pairwise fun a b => a.num < b.num) → p ∈ ps → p.num = n → elicOf (without n ps) = totE p.fl p.el (elicOf ps) (-1)
  | [], p, _, h, _ => by simp at h
  | x :: ps, p, hs, h, hn => by
    obtain ⟨h1, h2⟩ := List.pairwise_cons.1 hs
    rcases List.mem_cons.1 h with rfl | h
    · have e : without n (p :: ps) = ps := by
        unfold without
        rw [List.filter_cons, if_neg (by simp [hn])]
        exact without_id fun p' hp' => by have := h1 _ hp'; omega
      rw [e]; unfold totE; simp only [elicOf]; cases p.fl <;> cases p.el <;> simp <;> omega
    · have hlt := h1 p h
      have e : without n (x :: ps) = x :: without n ps := by unfold without; rw [List.filter_cons, if_pos (by simp; omega)]
      have ih := elic_without h2 h hn
      rw [e]; unfold totE at *; simp only [elicOf, ih]; cases p.fl <;> cases p.el <;> simp <;> omega
theorem length_without {n : Int} : ∀ {ps : List Pk} {p : Pk}, (ps.Pairwise fun a b => a.num < b.num) → p ∈ ps → p.num = n → (without n ps).length + 1 = ps.length
  | [], p, _, h, _ => by simp at h
  | x :: ps, p, hs, h, hn => by
    obtain ⟨h1, h2⟩ := List.pairwise_cons.1 hs
    rcases List.mem_cons.1 h with rfl | h
    · have e : without n (p :: ps) = ps := by
        unfold without
        rw [List.filter_cons, if_neg (by simp [hn])]
        exact without_id fun p' hp' => by have := h1 _ hp'; omega
      rw [e]; rfl
    · have hlt := h1 p h
      have e : without n (x :: ps) = x :: without n ps := by unfold without; rw [List.filter_cons, if_pos (by simp; omega)]
      have ih := length_without h2 h hn
      rw [e]; simp only [List.length_cons]; omega

theorem map_set_fst {q : List Sl} {i : Nat} {p : Pk} {b c : Bool} (h : q[i]? = some (p, b)) : (q.set i (p, c)).map (·.1) = q.map (·.1) := by
  obtain ⟨hl, he⟩ := List.getElem?_eq_some_iff.1 h
  apply List.ext_getElem?
  intro j
  rw [List.getElem?_map, List.getElem?_map, List.getElem?_set]
  split
  · rename_i e
    subst e
    simp [hl, he]
  · rfl
theorem good_after {room : Nat} {last : Int} {q q2 : List Sl} {i : Nat} {p : Pk} (h : Good room last q) (hp : q[i]? = some (p, true)) (hs : q2 <:+ q.set i (p, false)) (hl : liveOf q2 = liveOf (q.set i (p, false)))
    (hh : ∀ s, q2.head? = some s → s.2 = true) : Good room last q2 := by
  have hm := map_set_fst (c := false) hp
  have hmem : ∀ s ∈ q.set i (p, false), ∃ s' ∈ q, s'.1 = s.1 := fun s hs => by
    have h1 : s.1 ∈ (q.set i (p, false)).map (·.1) := List.mem_map_of_mem hs
    rw [hm] at h1
    obtain ⟨s', h2, h3⟩ := List.mem_map.1 h1
    exact ⟨s', h2, h3⟩
  refine ⟨?_, fun s hs2 => ?_, fun s hs2 => ?_, hh, ?_, h.last⟩
  · have h1 : ((q.set i (p, false)).map (·.1)).Pairwise fun a b => a.num < b.num := by rw [hm, List.pairwise_map]; exact h.sorted
    rw [List.pairwise_map] at h1
    exact h1.sublist hs.sublist
  · obtain ⟨s', h1, h2⟩ := hmem s (hs.subset hs2)
    rw [← h2]; exact h.may s' h1
  · obtain ⟨s', h1, h2⟩ := hmem s (hs.subset hs2)
    rw [← h2]; exact h.le s' h1
  · rw [hl, without_at h.sorted hp]
    have := h.room
    have h2 : (without p.num (liveOf q)).length ≤ (liveOf q).length := List.length_filter_le _ _
    omega
end Go.Proofs.Ytcigkggdcogokaa
