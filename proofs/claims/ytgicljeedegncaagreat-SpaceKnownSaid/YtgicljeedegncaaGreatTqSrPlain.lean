/-
 2 texts in one (SpanPlain, SrPlain).
-/
import Derived.Test.YtgicljeedegncaaGreatBase
namespace Go.Proofs.YtgicljeedegncaaGreat
set_option linter.unusedSimpArgs false
set_option linter.unusedVariables false

/-- A range. -/
structure Rg where
 lo : Int
 hi : Int
 deriving DecidableEq

/-- Ranges that rise, do not touch, and have a number at least. -/
structure GoodR (rs : List Rg) : Prop where
 sorted : rs.Pairwise fun a b => a.hi + 1 < b.lo
 le : ∀ r ∈ rs, r.lo ≤ r.hi
 lo : ∀ r ∈ rs, 0 ≤ r.lo
 hi : ∀ r ∈ rs, r.hi ≤ 9007199254740991
def memR (n : Int) (rs : List Rg) : Prop := ∃ r ∈ rs, r.lo ≤ n ∧ n ≤ r.hi

/-- The place of the first range that ends at n, or behind it. -/
def fstHi (n : Int) (rs : List Rg) : Nat := (rs.takeWhile fun r => decide (r.hi < n)).length
/-- The place of the first range that begins behind n. -/
def fstLo (n : Int) (rs : List Rg) : Nat := (rs.takeWhile fun r => decide (r.lo ≤ n)).length

theorem twl_cons {α : Type} (p : α → Bool) (x : α) (l : List α) : ((x :: l).takeWhile p).length = if p x = true then (l.takeWhile p).length + 1 else 0 := by
 rw [List.takeWhile_cons]
 split <;> simp_all
theorem tw_le {α : Type} (p : α → Bool) (l : List α) : (l.takeWhile p).length ≤ l.length := (List.takeWhile_sublist _).length_le
theorem tw_lt {α : Type} {p : α → Bool} : ∀ {l : List α} {i : Nat} {x : α}, i < (l.takeWhile p).length → l[i]? = some x → p x = true
 | [], i, x, _, h => by simp at h
 | y :: l, i, x, hi, h => by
  rw [twl_cons] at hi
  split at hi
  ·rename_i hy
   cases i with
   | zero => simp at h; subst h; exact hy
   | succ i => exact tw_lt (l := l) (i := i) (by omega) (by simpa using h)
  ·omega
theorem tw_ge {α : Type} {p : α → Bool} {R : α → α → Prop} (hp : ∀ a b, R a b → p b = true → p a = true) : ∀ {l : List α} {i : Nat} {x : α}, l.Pairwise R → (l.takeWhile p).length ≤ i → l[i]? = some x → p x = false
 | [], i, x, _, _, h => by simp at h
 | y :: l, i, x, hs, hi, h => by
  obtain ⟨h1, h2⟩ := List.pairwise_cons.1 hs
  rw [twl_cons] at hi
  split at hi
  ·cases i with
   | zero => omega
   | succ i => exact tw_ge hp (l := l) (i := i) h2 (by omega) (by simpa using h)
  ·rename_i hy
   cases i with
   | zero => simp at h; subst h; simpa using hy
   | succ i =>
    have hm : x ∈ l := List.mem_of_getElem? (i := i) (by simpa using h)
    have := h1 x hm
    cases hx : p x with
    | false => rfl
    | true => exact absurd (hp y x this hx) hy

theorem fstHi_lt {n : Int} {rs : List Rg} {i : Nat} {r : Rg} (hi : i < fstHi n rs) (h : rs[i]? = some r) : r.hi < n := by simpa using tw_lt hi h
theorem fstLo_lt {n : Int} {rs : List Rg} {i : Nat} {r : Rg} (hi : i < fstLo n rs) (h : rs[i]? = some r) : r.lo ≤ n := by simpa using tw_lt hi h
theorem fstLe_hi (n : Int) (rs : List Rg) : fstHi n rs ≤ rs.length := tw_le _ _
theorem fstLe_lo (n : Int) (rs : List Rg) : fstLo n rs ≤ rs.length := tw_le _ _
theorem GoodR.pw {rs : List Rg} (h : GoodR rs) : rs.Pairwise fun a b => a.hi < b.hi ∧ a.lo < b.lo := by
 have h1 := h.sorted
 have h2 := h.le
 clear h
 induction rs with
 | nil => exact List.Pairwise.nil
 | cons r rs ih =>
  obtain ⟨k1, k2⟩ := List.pairwise_cons.1 h1
  refine List.pairwise_cons.2 ⟨fun x hx => ?_, ih k2 (fun x hx => h2 x (by simp [hx]))⟩
  have a1 := k1 x hx
  have a2 := h2 x (by simp [hx])
  have a3 := h2 r (by simp)
  omega
theorem fstHi_ge {n : Int} {rs : List Rg} {i : Nat} {r : Rg} (h : GoodR rs) (hi : fstHi n rs ≤ i) (hr : rs[i]? = some r) : n ≤ r.hi := by
 have := tw_ge (R := fun a b : Rg => a.hi < b.hi ∧ a.lo < b.lo) (p := fun r : Rg => decide (r.hi < n)) (fun a b hab hb => by simp at hb ⊢; omega) h.pw hi hr
 simpa using this
theorem fstLo_ge {n : Int} {rs : List Rg} {i : Nat} {r : Rg} (h : GoodR rs) (hi : fstLo n rs ≤ i) (hr : rs[i]? = some r) : n < r.lo := by
 have := tw_ge (R := fun a b : Rg => a.hi < b.hi ∧ a.lo < b.lo) (p := fun r : Rg => decide (r.lo ≤ n)) (fun a b hab hb => by simp at hb ⊢; omega) h.pw hi hr
 simpa using this
/-- The set with the numbers from lo to hi besides. -/
def addR (lo hi : Int) : List Rg → List Rg
 | [] => [⟨lo, hi⟩]
 | r :: rs => if r.hi < lo - 1 then r :: addR lo hi rs else if hi + 1 < r.lo then ⟨lo, hi⟩ :: r :: rs else addR (min lo r.lo) (max hi r.hi) rs
/-- The set without what lies below b. -/
def cutR (b : Int) : List Rg → List Rg
 | [] => []
 | r :: rs => if r.hi < b then cutR b rs else ⟨max r.lo b, r.hi⟩ :: rs

theorem GoodR.cons {r : Rg} {rs : List Rg} (h : GoodR (r :: rs)) : GoodR rs ∧ r.lo ≤ r.hi ∧ 0 ≤ r.lo ∧ r.hi ≤ 9007199254740991 ∧ (∀ x ∈ rs, r.hi + 1 < x.lo) := by
 obtain ⟨h1, h2⟩ := List.pairwise_cons.1 h.sorted
 exact ⟨⟨h2, fun x hx => h.le x (by simp [hx]), fun x hx => h.lo x (by simp [hx]), fun x hx => h.hi x (by simp [hx])⟩, h.le r (by simp), h.lo r (by simp), h.hi r (by simp), h1⟩
theorem GoodR.mk_cons {r : Rg} {rs : List Rg} (h : GoodR rs) (h1 : r.lo ≤ r.hi) (h2 : 0 ≤ r.lo) (h3 : r.hi ≤ 9007199254740991) (h4 : ∀ x ∈ rs, r.hi + 1 < x.lo) : GoodR (r :: rs) :=
 ⟨List.pairwise_cons.2 ⟨h4, h.sorted⟩, fun x hx => by rcases List.mem_cons.1 hx with rfl | hx; exact h1; exact h.le x hx, fun x hx => by rcases List.mem_cons.1 hx with rfl | hx; exact h2; exact h.lo x hx,
  fun x hx => by rcases List.mem_cons.1 hx with rfl | hx; exact h3; exact h.hi x hx⟩
theorem GoodR.nil : GoodR [] := ⟨List.Pairwise.nil, by simp, by simp, by simp⟩
theorem memR_cons (n : Int) (r : Rg) (rs : List Rg) : memR n (r :: rs) ↔ (r.lo ≤ n ∧ n ≤ r.hi) ∨ memR n rs := by
 unfold memR
 constructor
 ·rintro ⟨x, hx, h⟩
  rcases List.mem_cons.1 hx with rfl | hx
  ·exact .inl h
  ·exact .inr ⟨x, hx, h⟩
 ·rintro (h | ⟨x, hx, h⟩)
  ·exact ⟨r, by simp, h⟩
  ·exact ⟨x, by simp [hx], h⟩
theorem memR_nil (n : Int) : ¬ memR n [] := by rintro ⟨x, hx, _⟩; simp at hx
theorem memR_gt {n : Int} {rs : List Rg} {b : Int} (h : ∀ x ∈ rs, b < x.lo) (hm : memR n rs) : b < n := by
 obtain ⟨x, hx, h1, h2⟩ := hm
 have := h x hx
 omega

theorem addR_good : ∀ {rs : List Rg} {lo hi : Int}, GoodR rs → lo ≤ hi → 0 ≤ lo → hi ≤ 9007199254740991 → GoodR (addR lo hi rs) ∧ (∀ b : Int, b < lo → (∀ x ∈ rs, b < x.lo) → ∀ x ∈ addR lo hi rs, b < x.lo)
 | [], lo, hi, _, h1, h2, h3 => by
  unfold addR
  exact ⟨GoodR.nil.mk_cons h1 h2 h3 (by simp), fun b hb _ x hx => by simp at hx; subst hx; exact hb⟩
 | r :: rs, lo, hi, h, h1, h2, h3 => by
  obtain ⟨g, a1, a2, a3, a4⟩ := h.cons
  unfold addR
  split
  ·rename_i c
   obtain ⟨k1, k2⟩ := addR_good g h1 h2 h3
   refine ⟨k1.mk_cons a1 a2 a3 (k2 (r.hi + 1) (by omega) a4), fun b hb hx x hm => ?_⟩
   rcases List.mem_cons.1 hm with rfl | hm
   ·exact hx _ (by simp)
   ·exact k2 b hb (fun y hy => hx y (by simp [hy])) x hm
  ·split
   ·rename_i c1 c2
    refine ⟨h.mk_cons h1 h2 h3 (fun x hx => ?_), fun b hb hx x hm => ?_⟩
    ·rcases List.mem_cons.1 hx with rfl | hx
     ·exact c2
     ·have := a4 x hx; show hi + 1 < x.lo; omega
    ·rcases List.mem_cons.1 hm with rfl | hm
     ·exact hb
     ·exact hx x hm
   ·rename_i c1 c2
    obtain ⟨k1, k2⟩ := addR_good (rs := rs) (lo := min lo r.lo) (hi := max hi r.hi) g (by omega) (by omega) (by omega)
    exact ⟨k1, fun b hb hx x hm => k2 b (by have := hx r (by simp); omega) (fun y hy => hx y (by simp [hy])) x hm⟩
theorem memR_addR (n : Int) : ∀ {rs : List Rg} {lo hi : Int}, GoodR rs → lo ≤ hi → (memR n (addR lo hi rs) ↔ memR n rs ∨ (lo ≤ n ∧ n ≤ hi))
 | [], lo, hi, _, h1 => by
  unfold addR
  rw [memR_cons]
  constructor
  ·rintro (h | h)
   ·exact .inr h
   ·exact absurd h (memR_nil n)
  ·rintro (h | h)
   ·exact absurd h (memR_nil n)
   ·exact .inl h
 | r :: rs, lo, hi, h, h1 => by
  obtain ⟨g, a1, a2, a3, a4⟩ := h.cons
  unfold addR
  split
  ·rw [memR_cons, memR_cons, memR_addR n g h1]
   constructor
   ·rintro (h | h | h)
    ·exact .inl (.inl h)
    ·exact .inl (.inr h)
    ·exact .inr h
   ·rintro ((h | h) | h)
    ·exact .inl h
    ·exact .inr (.inl h)
    ·exact .inr (.inr h)
  ·split
   ·rw [memR_cons (r := ⟨lo, hi⟩)]
    exact or_comm
   ·rename_i c1 c2
    rw [memR_addR n g (by omega), memR_cons]
    constructor
    ·rintro (h | h)
     ·exact .inl (.inr h)
     ·by_cases e : lo ≤ n ∧ n ≤ hi
      ·exact .inr e
      ·exact .inl (.inl (by omega))
    ·rintro ((h | h) | h)
     ·exact .inr (by omega)
     ·exact .inl h
     ·exact .inr (by omega)
theorem cutR_good : ∀ {rs : List Rg} {b : Int}, GoodR rs → GoodR (cutR b rs)
 | [], b, _ => GoodR.nil
 | r :: rs, b, h => by
  obtain ⟨g, a1, a2, a3, a4⟩ := h.cons
  unfold cutR
  split
  ·exact cutR_good g
  ·exact g.mk_cons (by show max r.lo b ≤ r.hi; omega) (by show 0 ≤ max r.lo b; omega) a3 a4
/-- Two sets that have the same numbers have the same ranges. -/
theorem ext_R : ∀ {a b : List Rg}, GoodR a → GoodR b → (∀ n, memR n a ↔ memR n b) → a = b
 | [], [], _, _, _ => rfl
 | [], y :: b, _, hb, h => by
  obtain ⟨_, b1, _⟩ := hb.cons
  exact absurd ((h y.lo).2 ((memR_cons _ _ _).2 (.inl ⟨Int.le_refl _, b1⟩))) (memR_nil _)
 | x :: a, [], ha, _, h => by
  obtain ⟨_, b1, _⟩ := ha.cons
  exact absurd ((h x.lo).1 ((memR_cons _ _ _).2 (.inl ⟨Int.le_refl _, b1⟩))) (memR_nil _)
 | x :: a, y :: b, ha, hb, h => by
  obtain ⟨ga, a1, a2, a3, a4⟩ := ha.cons
  obtain ⟨gb, b1, b2, b3, b4⟩ := hb.cons
  have xl := (h x.lo).1 ((memR_cons _ _ _).2 (.inl ⟨Int.le_refl _, a1⟩))
  have yl := (h y.lo).2 ((memR_cons _ _ _).2 (.inl ⟨Int.le_refl _, b1⟩))
  have e1 : x.lo = y.lo := by
   rcases (memR_cons _ _ _).1 xl with k | k <;> rcases (memR_cons _ _ _).1 yl with k' | k'
   ·omega
   ·have := memR_gt a4 k'; omega
   ·have := memR_gt b4 k; omega
   ·have := memR_gt a4 k'; have := memR_gt b4 k; omega
  have e2 : x.hi = y.hi := by
   rcases Int.lt_trichotomy x.hi y.hi with c | c | c
   ·exfalso
    have := (h (x.hi + 1)).2 ((memR_cons _ _ _).2 (.inl (by omega)))
    rcases (memR_cons _ _ _).1 this with k | k
    ·omega
    ·have := memR_gt a4 k; omega
   ·exact c
   ·exfalso
    have := (h (y.hi + 1)).1 ((memR_cons _ _ _).2 (.inl (by omega)))
    rcases (memR_cons _ _ _).1 this with k | k
    ·omega
    ·have := memR_gt b4 k; omega
  have exy : x = y := by cases x; cases y; simp_all
  subst exy
  congr 1
  refine ext_R ga gb fun n => ⟨fun hm => ?_, fun hm => ?_⟩
  ·rcases (memR_cons _ _ _).1 ((h n).1 ((memR_cons _ _ _).2 (.inr hm))) with k | k
   ·have := memR_gt a4 hm; omega
   ·exact k
  ·rcases (memR_cons _ _ _).1 ((h n).2 ((memR_cons _ _ _).2 (.inr hm))) with k | k
   ·have := memR_gt b4 hm; omega
   ·exact k

theorem from_le_to {rs : List Rg} {lo hi : Int} (h : GoodR rs) (hl : lo ≤ hi) : fstHi (lo - 1) rs ≤ fstLo (hi + 1) rs := by
 rcases Nat.lt_or_ge (fstLo (hi + 1) rs) (fstHi (lo - 1) rs) with hlt | hge
 ·exfalso
  have h1 := fstLe_hi (lo - 1) rs
  have hx : rs[fstLo (hi + 1) rs]? = some rs[fstLo (hi + 1) rs] := List.getElem?_eq_getElem (by omega)
  have a := fstHi_lt hlt hx
  have b := fstLo_ge h (Nat.le_refl _) hx
  have c := h.le _ (List.mem_of_getElem? hx)
  omega
 ·exact hge

theorem fstHi_cons (n : Int) (r : Rg) (rs : List Rg) : fstHi n (r :: rs) = if r.hi < n then fstHi n rs + 1 else 0 := by
 unfold fstHi; rw [twl_cons]; simp
theorem fstLo_cons (n : Int) (r : Rg) (rs : List Rg) : fstLo n (r :: rs) = if r.lo ≤ n then fstLo n rs + 1 else 0 := by
 unfold fstLo; rw [twl_cons]; simp
theorem fstHi_zero {n : Int} : ∀ {rs : List Rg}, (∀ x ∈ rs, n ≤ x.hi) → fstHi n rs = 0
 | [], _ => rfl
 | r :: rs, h => by rw [fstHi_cons, if_neg (by have := h r (by simp); omega)]
theorem fstLo_congr {a b : Int} : ∀ {rs : List Rg}, (∀ x ∈ rs, x.lo ≤ a ↔ x.lo ≤ b) → fstLo a rs = fstLo b rs
 | [], _ => rfl
 | r :: rs, h => by
  rw [fstLo_cons, fstLo_cons, fstLo_congr (rs := rs) (fun x hx => h x (by simp [hx]))]
  by_cases c : r.lo ≤ a
  ·rw [if_pos c, if_pos ((h r (by simp)).1 c)]
  ·rw [if_neg c, if_neg (fun k => c ((h r (by simp)).2 k))]
/-- What lies at a place (or nothing of note). -/
def atR (rs : List Rg) (i : Nat) : Rg := (rs[i]?).getD ⟨0, 0⟩
theorem atR_some {rs : List Rg} {i : Nat} {r : Rg} (h : rs[i]? = some r) : atR rs i = r := by unfold atR; rw [h]; rfl
/-- The range that is put in. -/
def joined (f t : Nat) (lo hi : Int) (rs : List Rg) : Rg := if f < t then ⟨min lo (atR rs f).lo, max hi (atR rs (t - 1)).hi⟩ else ⟨lo, hi⟩
theorem joined_succ (f t : Nat) (lo hi : Int) (r : Rg) (rs : List Rg) : joined (f + 1) (t + 1) lo hi (r :: rs) = joined f t lo hi rs := by
 unfold joined
 by_cases c : f < t
 ·rw [if_pos c, if_pos (by omega)]
  have e1 : atR (r :: rs) (f + 1) = atR rs f := rfl
  have e2 : atR (r :: rs) (t + 1 - 1) = atR rs (t - 1) := by
   rw [show t + 1 - 1 = (t - 1) + 1 by omega]; rfl
  rw [e1, e2]
 ·rw [if_neg c, if_neg (by omega)]
/-- As the program makes it: what lies ahead of a place, one range, what lies behind another place. -/
theorem addR_eq : ∀ {rs : List Rg} {lo hi : Int}, GoodR rs → lo ≤ hi →
  addR lo hi rs = rs.take (fstHi (lo - 1) rs) ++ joined (fstHi (lo - 1) rs) (fstLo (hi + 1) rs) lo hi rs :: rs.drop (fstLo (hi + 1) rs)
 | [], lo, hi, _, _ => by simp [addR, fstHi, fstLo, joined]
 | r :: rs, lo, hi, h, hl => by
  obtain ⟨g, a1, a2, a3, a4⟩ := h.cons
  unfold addR
  rw [fstHi_cons, fstLo_cons]
  by_cases c1 : r.hi < lo - 1
  ·rw [if_pos c1, if_pos c1, if_pos (by omega), joined_succ, addR_eq g hl]
   rfl
  ·rw [if_neg c1, if_neg c1]
   by_cases c2 : hi + 1 < r.lo
   ·rw [if_pos c2, if_neg (by omega)]
    simp [joined]
   ·rw [if_neg c2, if_pos (by omega), addR_eq g (by omega)]
    have hlo : ∀ x ∈ rs, min lo r.lo - 1 ≤ x.hi := fun x hx => by have := a4 x hx; have := g.le x hx; omega
    rw [fstHi_zero hlo, fstLo_congr (a := max hi r.hi + 1) (b := hi + 1) (fun x hx => by have := a4 x hx; omega)]
    simp only [List.take_zero, List.nil_append, List.drop_succ_cons, List.cons.injEq, and_true]
    unfold joined
    rw [if_pos (show 0 < fstLo (hi + 1) rs + 1 by omega)]
    rcases Nat.eq_zero_or_pos (fstLo (hi + 1) rs) with hz | hp
    ·rw [hz, if_neg (by omega)]
     rfl
    ·rw [if_pos hp]
     have hle := fstLe_lo (hi + 1) rs
     obtain ⟨x, hx⟩ : ∃ x, rs[0]? = some x := ⟨_, List.getElem?_eq_getElem (by omega)⟩
     obtain ⟨y, hy⟩ : ∃ y, rs[fstLo (hi + 1) rs - 1]? = some y := ⟨_, List.getElem?_eq_getElem (by omega)⟩
     have hx2 := a4 x (List.mem_of_getElem? hx)
     have hy2 := a4 y (List.mem_of_getElem? hy)
     have hy3 := g.le y (List.mem_of_getElem? hy)
     rw [atR_some hx, atR_some hy]
     have e1 : atR (r :: rs) 0 = r := rfl
     have e2 : atR (r :: rs) (fstLo (hi + 1) rs + 1 - 1) = y := by
      refine atR_some ?_
      rw [show fstLo (hi + 1) rs + 1 - 1 = (fstLo (hi + 1) rs - 1) + 1 by omega]
      simpa using hy
     rw [e1, e2]
     congr 1 <;> omega
theorem cutR_eq (b : Int) : ∀ (rs : List Rg), cutR b rs = match rs.drop (fstHi b rs) with
  | [] => []
  | r :: l => ⟨max r.lo b, r.hi⟩ :: l
 | [] => rfl
 | r :: rs => by
  unfold cutR
  rw [fstHi_cons]
  by_cases c : r.hi < b
  ·rw [if_pos c, if_pos c, List.drop_succ_cons]; exact cutR_eq b rs
  ·rw [if_neg c, if_neg c]; rfl
theorem addR_length {rs : List Rg} {lo hi : Int} (h : GoodR rs) (hl : lo ≤ hi) : (addR lo hi rs).length + fstLo (hi + 1) rs = rs.length + fstHi (lo - 1) rs + 1 := by
 have h1 := fstLe_hi (lo - 1) rs
 have h2 := fstLe_lo (hi + 1) rs
 rw [addR_eq h hl]
 simp only [List.length_append, List.length_take, List.length_cons, List.length_drop]
 omega
end Go.Proofs.YtgicljeedegncaaGreat

namespace Go.Proofs.YtgicljeedegncaaGreat
set_option linter.unusedSimpArgs false
set_option linter.unusedVariables false

/-- What is added to ranges that fall: x is the range so far, put whether it lies there. -/
def addF : Rg → Bool → List Rg → List Rg
 | x, put, [] => if put then [] else [x]
 | x, put, r :: l => if x.hi + 1 < r.lo then r :: addF x put l
  else if r.hi < x.lo - 1 then (if put then r :: addF x true l else x :: r :: addF x true l)
  else addF ⟨min x.lo r.lo, max x.hi r.hi⟩ put l
theorem addF_nil (x : Rg) (put : Bool) : addF x put [] = if put then [] else [x] := by simp only [addF]
theorem addF_above {x r : Rg} {put : Bool} {l : List Rg} (h : x.hi + 1 < r.lo) : addF x put (r :: l) = r :: addF x put l := by simp only [addF, if_pos h]
theorem addF_below {x r : Rg} {put : Bool} {l : List Rg} (h : ¬ x.hi + 1 < r.lo) (h2 : r.hi < x.lo - 1) : addF x put (r :: l) = if put then r :: addF x true l else x :: r :: addF x true l := by simp only [addF, if_neg h, if_pos h2]
theorem addF_join {x r : Rg} {put : Bool} {l : List Rg} (h : ¬ x.hi + 1 < r.lo) (h2 : ¬ r.hi < x.lo - 1) : addF x put (r :: l) = addF ⟨min x.lo r.lo, max x.hi r.hi⟩ put l := by simp only [addF, if_neg h, if_neg h2]
/-- Ranges that fall. -/
structure GoodF (l : List Rg) : Prop where
 sorted : l.Pairwise fun a b => b.hi + 1 < a.lo
 le : ∀ r ∈ l, r.lo ≤ r.hi
 lo : ∀ r ∈ l, 0 ≤ r.lo
 hi : ∀ r ∈ l, r.hi ≤ 9007199254740991
theorem GoodR.rev {rs : List Rg} (h : GoodR rs) : GoodF rs.reverse := ⟨List.pairwise_reverse.2 h.sorted, fun r hr => h.le r (List.mem_reverse.1 hr), fun r hr => h.lo r (List.mem_reverse.1 hr), fun r hr => h.hi r (List.mem_reverse.1 hr)⟩
theorem GoodF.rev {l : List Rg} (h : GoodF l) : GoodR l.reverse := ⟨List.pairwise_reverse.2 h.sorted, fun r hr => h.le r (List.mem_reverse.1 hr), fun r hr => h.lo r (List.mem_reverse.1 hr), fun r hr => h.hi r (List.mem_reverse.1 hr)⟩
theorem GoodF.cons {r : Rg} {l : List Rg} (h : GoodF (r :: l)) : GoodF l ∧ r.lo ≤ r.hi ∧ 0 ≤ r.lo ∧ r.hi ≤ 9007199254740991 ∧ (∀ x ∈ l, x.hi + 1 < r.lo) := by
 obtain ⟨h1, h2⟩ := List.pairwise_cons.1 h.sorted
 exact ⟨⟨h2, fun x hx => h.le x (by simp [hx]), fun x hx => h.lo x (by simp [hx]), fun x hx => h.hi x (by simp [hx])⟩, h.le r (by simp), h.lo r (by simp), h.hi r (by simp), h1⟩
theorem GoodF.mk_cons {r : Rg} {l : List Rg} (h : GoodF l) (h1 : r.lo ≤ r.hi) (h2 : 0 ≤ r.lo) (h3 : r.hi ≤ 9007199254740991) (h4 : ∀ x ∈ l, x.hi + 1 < r.lo) : GoodF (r :: l) :=
 ⟨List.pairwise_cons.2 ⟨h4, h.sorted⟩, fun x hx => by rcases List.mem_cons.1 hx with rfl | hx; exact h1; exact h.le x hx, fun x hx => by rcases List.mem_cons.1 hx with rfl | hx; exact h2; exact h.lo x hx,
  fun x hx => by rcases List.mem_cons.1 hx with rfl | hx; exact h3; exact h.hi x hx⟩
theorem addF_true : ∀ {l : List Rg} {x : Rg}, x.lo ≤ x.hi → GoodF l → (∀ r ∈ l, r.hi < x.lo - 1) → addF x true l = l
 | [], x, _, _, _ => by rw [addF_nil]; rfl
 | r :: l, x, hx, h, hb => by
  obtain ⟨g, a1, a2, a3, a4⟩ := h.cons
  have h0 := hb r (by simp)
  rw [addF_below (by omega) h0, if_pos rfl, addF_true hx g (fun r hr => hb r (by simp [hr]))]
theorem addF_good : ∀ {l : List Rg} {x : Rg}, GoodF l → x.lo ≤ x.hi → 0 ≤ x.lo → x.hi ≤ 9007199254740991 →
  GoodF (addF x false l) ∧ (∀ b : Int, x.hi + 1 < b → (∀ y ∈ l, y.hi + 1 < b) → ∀ y ∈ addF x false l, y.hi + 1 < b) ∧ ∀ n, memR n (addF x false l) ↔ memR n l ∨ (x.lo ≤ n ∧ n ≤ x.hi)
 | [], x, _, h1, h2, h3 => by
  rw [addF_nil, if_neg (by simp)]
  refine ⟨⟨by simp, by simpa using h1, by simpa using h2, by simpa using h3⟩, fun b hb _ y hy => by simp at hy; subst hy; exact hb, fun n => ?_⟩
  rw [memR_cons]
  constructor
  ·rintro (h | h)
   ·exact .inr h
   ·exact .inl h
  ·rintro (h | h)
   ·exact .inr h
   ·exact .inl h
 | r :: l, x, h, h1, h2, h3 => by
  obtain ⟨g, a1, a2, a3, a4⟩ := h.cons
  by_cases c1 : x.hi + 1 < r.lo
  ·obtain ⟨i1, i2, i3⟩ := addF_good g h1 h2 h3
   rw [addF_above c1]
   refine ⟨i1.mk_cons a1 a2 a3 (i2 r.lo c1 a4), fun b hb hy y hm => ?_, fun n => ?_⟩
   ·rcases List.mem_cons.1 hm with rfl | hm
    ·exact hy _ (by simp)
    ·exact i2 b hb (fun y hy' => hy y (by simp [hy'])) y hm
   ·rw [memR_cons, memR_cons, i3]
    constructor
    ·rintro (k | k | k)
     ·exact .inl (.inl k)
     ·exact .inl (.inr k)
     ·exact .inr k
    ·rintro ((k | k) | k)
     ·exact .inl k
     ·exact .inr (.inl k)
     ·exact .inr (.inr k)
  ·by_cases c2 : r.hi < x.lo - 1
   ·rw [addF_below c1 c2, if_neg (by simp), addF_true h1 g (fun y hy => by have := a4 y hy; omega)]
    refine ⟨h.mk_cons h1 h2 h3 (fun y hy => ?_), fun b hb hy y hm => ?_, fun n => ?_⟩
    ·rcases List.mem_cons.1 hy with rfl | hy
     ·omega
     ·have := a4 y hy; omega
    ·rcases List.mem_cons.1 hm with rfl | hm
     ·exact hb
     ·exact hy y hm
    ·rw [memR_cons]
     constructor
     ·rintro (k | k)
      ·exact .inr k
      ·exact .inl k
     ·rintro (k | k)
      ·exact .inr k
      ·exact .inl k
   ·rw [addF_join c1 c2]
    obtain ⟨i1, i2, i3⟩ := addF_good (x := ⟨min x.lo r.lo, max x.hi r.hi⟩) g (by show min x.lo r.lo ≤ max x.hi r.hi; omega) (by show 0 ≤ min x.lo r.lo; omega) (by show max x.hi r.hi ≤ _; omega)
    refine ⟨i1, fun b hb hy y hm => i2 b ?_ (fun y hy' => hy y (by simp [hy'])) y hm, fun n => ?_⟩
    ·have := hy r (by simp)
     show max x.hi r.hi + 1 < b
     omega
    ·rw [i3, memR_cons]
     show memR n l ∨ (min x.lo r.lo ≤ n ∧ n ≤ max x.hi r.hi) ↔ ((r.lo ≤ n ∧ n ≤ r.hi) ∨ memR n l) ∨ (x.lo ≤ n ∧ n ≤ x.hi)
     constructor
     ·rintro (k | ⟨k1, k2⟩)
      ·exact .inl (.inr k)
      ·by_cases e1 : r.lo ≤ n ∧ n ≤ r.hi
       ·exact .inl (.inl e1)
       ·exact .inr (by omega)
     ·rintro ((⟨k1, k2⟩ | k) | ⟨k1, k2⟩)
      ·exact .inr (by omega)
      ·exact .inl k
      ·exact .inr (by omega)
theorem memR_reverse (n : Int) (l : List Rg) : memR n l.reverse ↔ memR n l := by
 constructor
 ·rintro ⟨r, hr, h⟩; exact ⟨r, List.mem_reverse.1 hr, h⟩
 ·rintro ⟨r, hr, h⟩; exact ⟨r, List.mem_reverse.2 hr, h⟩
/-- The document's added is the program's. -/
theorem addF_eq {rs : List Rg} {lo hi : Int} (h : GoodR rs) (h1 : lo ≤ hi) (h2 : 0 ≤ lo) (h3 : hi ≤ 9007199254740991) : addF ⟨lo, hi⟩ false rs.reverse = (addR lo hi rs).reverse := by
 obtain ⟨i1, _, i3⟩ := addF_good (x := ⟨lo, hi⟩) h.rev h1 h2 h3
 have e := ext_R i1.rev (addR_good h h1 h2 h3).1 fun n => by rw [memR_reverse, i3, memR_reverse, memR_addR n h h1]
 rw [← e, List.reverse_reverse]
/-- What is cut out of ranges, one by one. -/
def cutF (b : Int) (l : List Rg) : List Rg := (l.filter fun r => decide (b ≤ r.hi)).map fun r => ⟨max r.lo b, r.hi⟩
theorem cutF_snoc (b : Int) (l : List Rg) (r : Rg) : cutF b (l ++ [r]) = if b ≤ r.hi then cutF b l ++ [⟨max r.lo b, r.hi⟩] else cutF b l := by
 unfold cutF
 by_cases h : b ≤ r.hi <;> simp [List.filter_append, h]
theorem cutF_up : ∀ {rs : List Rg} {b : Int}, GoodR rs → cutF b rs = cutR b rs
 | [], b, _ => rfl
 | r :: rs, b, h => by
  obtain ⟨g, a1, a2, a3, a4⟩ := h.cons
  unfold cutR
  split
  ·rename_i c
   rw [← cutF_up g]
   unfold cutF
   rw [List.filter_cons_of_neg (by simp; omega)]
  ·rename_i c
   unfold cutF
   rw [List.filter_cons_of_pos (by simp; omega), List.map_cons]
   congr 1
   rw [List.filter_eq_self.2 (fun x hx => by have := a4 x hx; have := g.le x hx; simp; omega)]
   conv => rhs; rw [← List.map_id rs]
   refine List.map_congr_left fun x hx => ?_
   have := a4 x hx
   rw [show max x.lo b = x.lo by omega]
   rfl
theorem cutF_eq {rs : List Rg} {b : Int} (h : GoodR rs) : cutF b rs.reverse = (cutR b rs).reverse := by
 rw [← cutF_up h]
 unfold cutF
 rw [List.filter_reverse, List.map_reverse]
theorem cutR_length : ∀ (rs : List Rg) (b : Int), (cutR b rs).length ≤ rs.length
 | [], b => by simp [cutR]
 | r :: rs, b => by
  unfold cutR
  split
  ·have := cutR_length rs b; simp; omega
  ·simp
end Go.Proofs.YtgicljeedegncaaGreat
