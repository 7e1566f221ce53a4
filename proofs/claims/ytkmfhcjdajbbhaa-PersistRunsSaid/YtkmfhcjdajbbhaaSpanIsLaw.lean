/-
  The statement SpanSets: what of it is plain.
-/
import Derived.Test.YtkmfhcjdajbbhaaBits
namespace Go.Proofs.Ytkmfhcjdajbbhaa
set_option linter.unusedSimpArgs false
set_option linter.unusedVariables false
open Go.RowKit

theorem rngOf_dec {n : Int} {rs : List Rg} (h : GoodR rs) : (rngOf n rs).2 = decide (memR n rs) := by
  by_cases hm : memR n rs
  · rw [decide_eq_true hm]
    obtain ⟨r, hr, h1, h2⟩ := hm
    obtain ⟨i, hi⟩ := List.mem_iff_getElem?.1 hr
    have hle : fstHi n rs ≤ i := by
      rcases Nat.lt_or_ge i (fstHi n rs) with hlt | hge
      · have := fstHi_lt hlt hi; omega
      · exact hge
    obtain ⟨x, hx⟩ : ∃ x, rs[fstHi n rs]? = some x := ⟨_, List.getElem?_eq_getElem (by have := (List.getElem?_eq_some_iff.1 hi).1; omega)⟩
    have h3 := fstHi_ge h (Nat.le_refl _) hx
    have : fstHi n rs = i := by
      rcases Nat.lt_or_ge (fstHi n rs) i with hlt | hge
      · have := h.gap hlt hx hi; omega
      · omega
    rw [this] at hx
    rw [hi] at hx
    cases hx
    unfold rngOf
    rw [this, hi]
    simp [h1]
  · rw [decide_eq_false hm]
    cases ht : (rngOf n rs).2 with
    | false => rfl
    | true => obtain ⟨a, b, c⟩ := rngOf_hi h ht; exact absurd ⟨_, a, b, c⟩ hm
theorem not_after {rs : List Rg} (h : GoodR rs) {r : Rg} (hr : r ∈ rs) : ¬ memR (r.hi + 1) rs := by
  rintro ⟨x, hx, h1, h2⟩
  obtain ⟨i, hi⟩ := List.mem_iff_getElem?.1 hr
  obtain ⟨j, hj⟩ := List.mem_iff_getElem?.1 hx
  rcases Nat.lt_trichotomy i j with c | c | c
  · have := h.gap c hi hj; omega
  · subst c; rw [hi] at hj; cases hj; omega
  · have := h.gap c hj hi
    have := h.le _ hr
    omega
theorem next_is {rs : List Rg} (h : GoodR rs) {n N : Int} (h0 : 0 ≤ n) (hN : n ≤ N) (h1 : N ≤ 100) (hm : ∀ m, n ≤ m → m < N → memR m rs) (he : ¬ memR N rs) : nextOf n rs = N := by
  have hr := rngOf_dec (n := n) h
  unfold nextOf
  rw [if_pos (by omega)]
  by_cases c : memR n rs
  · rw [decide_eq_true c] at hr
    rw [if_pos hr]
    obtain ⟨a, b1, b2⟩ := rngOf_hi h hr
    have na := not_after h a
    have k1 : N ≤ (rngOf n rs).1.hi + 1 := by
      rcases Int.lt_or_le ((rngOf n rs).1.hi + 1) N with k | k
      · exact absurd (hm _ (by omega) k) na
      · exact k
    have k2 : (rngOf n rs).1.hi < N := by
      rcases Int.lt_or_le (rngOf n rs).1.hi N with k | k
      · exact k
      · exact absurd ⟨_, a, by omega, k⟩ he
    rw [if_neg (by omega)]
    omega
  · rw [decide_eq_false c] at hr
    rw [hr]
    simp only [Bool.false_eq_true, if_false]
    rcases Int.lt_or_le n N with k | k
    · exact absurd (hm n (Int.le_refl _) k) c
    · omega

/-- The sum of the last k of 101. -/
def tS (f : Nat → Int) : Nat → Int
  | 0 => 0
  | k + 1 => f (100 - k) + tS f k
theorem tS_step (f : Nat → Int) {n : Nat} (h : n < 101) : tS f (101 - n) = f n + tS f (101 - (n + 1)) := by
  obtain ⟨k, hk⟩ : ∃ k, 101 - n = k + 1 := ⟨100 - n, by omega⟩
  rw [hk, show 101 - (n + 1) = k by omega]
  simp only [tS]
  rw [show 100 - k = n by omega]
theorem tS_add (f g : Nat → Int) : ∀ k, tS (fun n => f n + g n) k = tS f k + tS g k
  | 0 => rfl
  | k + 1 => by simp only [tS, tS_add f g k]; omega
theorem tS_zero : ∀ k, tS (fun _ => 0) k = 0
  | 0 => rfl
  | k + 1 => by simp only [tS, tS_zero k]; rfl
theorem tS_congr {f g : Nat → Int} (h : ∀ n, f n = g n) : ∀ k, tS f k = tS g k
  | 0 => rfl
  | k + 1 => by simp only [tS, tS_congr h k, h]
def ind (lo hi : Int) (n : Nat) : Int := if lo ≤ n ∧ (n : Int) ≤ hi then 1 else 0
theorem tS_ind {lo hi : Int} (h0 : 0 ≤ lo) (h : lo ≤ hi) (h1 : hi ≤ 100) : ∀ k, k ≤ 101 → tS (ind lo hi) k = max 0 (hi - max lo (101 - (k : Int)) + 1)
  | 0, _ => by simp only [tS]; omega
  | k + 1, hk => by
    simp only [tS, tS_ind h0 h h1 k (by omega), ind]
    have e : ((100 - k : Nat) : Int) = 100 - (k : Int) := by omega
    rw [e]
    split <;> omega
theorem bitR_cons {r : Rg} {rs : List Rg} (h : GoodR (r :: rs)) (n : Nat) : bitR (r :: rs) n = ind r.lo r.hi n + bitR rs n := by
  obtain ⟨g, a1, a2, a3, a4⟩ := h.cons
  unfold bitR ind
  by_cases c : r.lo ≤ n ∧ (n : Int) ≤ r.hi
  · have : ¬ memR n rs := fun k => by have := memR_gt a4 k; omega
    rw [if_pos c, if_neg this, if_pos ((memR_cons _ _ _).2 (.inl c))]
    rfl
  · rw [if_neg c]
    by_cases k : memR n rs
    · rw [if_pos k, if_pos ((memR_cons _ _ _).2 (.inr k))]; rfl
    · rw [if_neg k, if_neg (fun x => ((memR_cons _ _ _).1 x).elim c k)]; rfl
theorem tS_cnt : ∀ {rs : List Rg}, GoodR rs → (∀ r ∈ rs, r.hi ≤ 100) → tS (bitR rs) 101 = cntR rs
  | [], _, _ => by
    have : ∀ n, bitR [] n = (fun _ => 0) n := fun n => by unfold bitR; rw [if_neg (memR_nil _)]
    rw [tS_congr this, tS_zero]
    rfl
  | r :: rs, h, hh => by
    obtain ⟨g, a1, a2, a3, a4⟩ := h.cons
    rw [tS_congr (bitR_cons h), tS_add, tS_ind a2 a1 (hh r (by simp)) 101 (by omega), tS_cnt g (fun x hx => hh x (by simp [hx]))]
    simp only [cntR]
    have := hh r (by simp)
    omega
theorem tS_bound (rs : List Rg) : ∀ k, 0 ≤ tS (bitR rs) k ∧ tS (bitR rs) k ≤ k
  | 0 => ⟨Int.le_refl _, Int.le_refl _⟩
  | k + 1 => by
    have := tS_bound rs k
    simp only [tS]
    unfold bitR at *
    split <;> omega
theorem cntR_append : ∀ (a b : List Rg), cntR (a ++ b) = cntR a + cntR b
  | [], b => by simp [cntR]
  | r :: a, b => by simp only [List.cons_append, cntR, cntR_append a b]; omega
theorem cntR_reverse : ∀ (a : List Rg), cntR a.reverse = cntR a
  | [] => rfl
  | r :: a => by rw [List.reverse_cons, cntR_append, cntR_reverse a]; simp only [cntR]; omega
theorem rowsR_hi (X Y : Nat → Int) (k : Nat) : ∀ r ∈ rowsR X Y k, r.hi ≤ 99 := fun r hr => by
  have hg := rowsR_good X Y k
  have hm : memR r.hi (rowsR X Y k) := ⟨r, hr, hg.le r hr, Int.le_refl _⟩
  obtain ⟨i, _, _, h⟩ := (rowsR_mem X Y _ k).1 hm
  have := rowB (X i) (Y i)
  omega
theorem cutR_hi {rs : List Rg} (h : ∀ r ∈ rs, r.hi ≤ 99) (b : Int) : ∀ r ∈ cutR b rs, r.hi ≤ 99 := by
  induction rs with
  | nil => intro r hr; simp [cutR] at hr
  | cons x rs ih =>
    intro r hr
    unfold cutR at hr
    split at hr
    · exact ih (fun y hy => h y (by simp [hy])) r hr
    · rcases List.mem_cons.1 hr with rfl | hr
      · exact h x (by simp)
      · exact h r (by simp [hr])
theorem rowsR_len (X Y : Nat → Int) : ∀ k, (rowsR X Y k).length ≤ k
  | 0 => Nat.le_refl _
  | k + 1 => by
    obtain ⟨a, b, c⟩ := rowB (X k) (Y k)
    have := addR_le (rowsR_good X Y k) b
    have := rowsR_len X Y k
    show (addR _ _ _).length ≤ _
    omega
/-- Turned round: the same set. -/
theorem rowsR_turn (X Y : Nat → Int) {L k : Nat} : rowsR (fun j => X ((j + k) % L)) (fun j => Y ((j + k) % L)) L = rowsR X Y L := by
  refine ext_R (rowsR_good _ _ _) (rowsR_good _ _ _) fun n => ?_
  rw [rowsR_mem, rowsR_mem]
  constructor
  · rintro ⟨i, h, h1⟩
    exact ⟨(i + k) % L, Nat.mod_lt _ (by omega), h1⟩
  · rintro ⟨i, h, h1⟩
    refine ⟨(i + L * k - k) % L, Nat.mod_lt _ (by omega), ?_⟩
    have hk : k ≤ i + L * k := by
      have : k ≤ L * k := Nat.le_mul_of_pos_left k (by omega)
      omega
    have e : ((i + L * k - k) % L + k) % L = i := by
      rw [Nat.mod_add_mod, show i + L * k - k + k = i + L * k by omega, Nat.add_mul_mod_self_left, Nat.mod_eq_of_lt h]
    simp only [e]
    exact h1
end Go.Proofs.Ytkmfhcjdajbbhaa
