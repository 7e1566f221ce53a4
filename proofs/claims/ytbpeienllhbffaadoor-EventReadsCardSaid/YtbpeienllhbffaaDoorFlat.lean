/-
  Arguments opened whose cells are all integers and bools, whatever structs and arrays they lie in: slices of such, and such by value. No program is named here.
-/
import Derived.Test.YtbpeienllhbffaaDoorFrames
namespace Go.Proofs.YtbpeienllhbffaaDoor
open Go.ChangeShapes Go.WideShapes Go.Deep Go.RowKit

/-- A cell's kind: an integer or a bool. -/
abbrev FK := Option IntKind
def flatFields (rec : TypeId → Option (List FK)) (P : Program) : List Field → Nat → Option (List FK)
  | [], _ => some []
  | f :: fs, off => match rec f.type with
    | some ks => if f.offset = off ∧ P.cellsOf f.type = ks.length then match flatFields rec P fs (off + ks.length) with
        | some r => some (ks ++ r)
        | none => none
      else none
    | none => none
/-- The kinds of a type's cells, where they are all plain. -/
def flatKinds (P : Program) : Nat → TypeId → Option (List FK)
  | 0, _ => none
  | n + 1, t => match P.underlying t with
    | some (.int k) => some [some k]
    | some .bool => some [none]
    | some (.struct fs) => flatFields (flatKinds P n) P fs.toList 0
    | some (.array k e) => match flatKinds P n e with
      | some ks => if P.cellsOf e = ks.length then some (List.replicate k ks).flatten else none
      | none => none
    | _ => none
/-- What such a cell holds. -/
def FGood (k : FK) (v : Option Value) : Prop := match k with
  | some i => ∃ z, v = some (.int i z) ∧ (Lit.int i z).wf = true
  | none => ∃ b, v = some (.bool b)
theorem FGood.i64 {v : Option Value} (h : FGood (some .i64) v) : ∃ z, v = some (.int .i64 z) ∧ -9223372036854775808 ≤ z ∧ z ≤ 9223372036854775807 := by
  obtain ⟨z, hz, hw⟩ := h
  have hb := bounds_i64 hw
  exact ⟨z, hz, hb.1, hb.2⟩
theorem FGood.bool {v : Option Value} (h : FGood none v) : ∃ b, v = some (.bool b) := h

theorem flat_rep {ks : List FK} : ∀ (n j : Nat) (k : FK), ((List.replicate n ks).flatten)[j]? = some k → 0 < ks.length → j / ks.length < n ∧ ks[j % ks.length]? = some k
  | 0, j, k, h, _ => by simp at h
  | n + 1, j, k, h, hp => by
    rw [List.replicate_succ, List.flatten_cons] at h
    by_cases hj : j < ks.length
    · rw [List.getElem?_append_left hj] at h
      rw [Nat.div_eq_of_lt hj, Nat.mod_eq_of_lt hj]
      exact ⟨by omega, h⟩
    · rw [List.getElem?_append_right (by omega)] at h
      obtain ⟨h1, h2⟩ := flat_rep n (j - ks.length) k h hp
      have e : j = (j - ks.length) + ks.length := by omega
      rw [e, Nat.add_div_right _ hp, Nat.add_mod_right]
      exact ⟨by omega, h2⟩

section
variable {H : Type} {enc : TypeId × Value → H} {P : Program} {w : World} {base : Nat} {spare : Nat → Bool} {held : Bool}
theorem flat_of : ∀ (n : Nat) {t : TypeId} {ks : List FK} {fuel : Nat} {cs : List Value} {x : DataW H × List MemPlace}, flatKinds P n t = some ks → DataW.trod enc P w base spare held fuel t cs = some x → ∀ (j : Nat) (k : FK), ks[j]? = some k → FGood k cs[j]?
  | 0, t, ks, fuel, cs, x, hk, _ => by simp [flatKinds] at hk
  | n + 1, t, ks, fuel, cs, x, hk, h => by
    unfold flatKinds at hk
    split at hk
    · rename_i i hu
      obtain ⟨z, rfl, _, hw⟩ := DataW.trod_int hu h
      cases hk
      intro j k hj
      cases j with
      | zero => simp at hj; subst hj; exact ⟨z, rfl, hw⟩
      | succ j => simp at hj
    · rename_i hu
      obtain ⟨b, rfl, _⟩ := DataW.trod_bool hu h
      cases hk
      intro j k hj
      cases j with
      | zero => simp at hj; subst hj; exact ⟨b, rfl⟩
      | succ j => simp at hj
    · rename_i fs hu
      obtain ⟨xs, m, _, _, _, hxl, hf⟩ := DataW.trod_struct hu h
      have key : ∀ (l pre : List Field) (off : Nat) (r : List FK), fs.toList = pre ++ l → flatFields (flatKinds P n) P l off = some r → ∀ (j : Nat) (k : FK), r[j]? = some k → FGood k cs[off + j]? := by
        intro l
        induction l with
        | nil => intro pre off r _ hr j k hj; simp [flatFields] at hr; subst hr; simp at hj
        | cons f l ih =>
          intro pre off r hp hr j k hj
          unfold flatFields at hr
          split at hr
          · rename_i ks1 h1
            split at hr
            · rename_i hc
              obtain ⟨hc1, hc2⟩ := hc
              split at hr
              · rename_i r2 h2
                cases hr
                have hat : fs[pre.length]? = some f := by
                  rw [← Array.getElem?_toList, hp, List.getElem?_append_right (Nat.le_refl _)]; simp
                have h3 := hf _ _ hat
                have hlt : pre.length < fs.size := (Array.getElem?_eq_some_iff.1 hat).1
                rw [List.getElem?_eq_getElem (by omega)] at h3
                have h4 := flat_of n h1 h3
                by_cases hjl : j < ks1.length
                · rw [List.getElem?_append_left hjl] at hj
                  have h5 := h4 j k hj
                  rw [List.getElem?_take, if_pos (by omega), List.getElem?_drop, hc1] at h5
                  exact h5
                · rw [List.getElem?_append_right (by omega)] at hj
                  have h5 := ih (pre ++ [f]) (off + ks1.length) r2 (by rw [hp]; simp) h2 (j - ks1.length) k hj
                  rw [show off + ks1.length + (j - ks1.length) = off + j by omega] at h5
                  exact h5
              · cases hr
            · cases hr
          · cases hr
      intro j k hj
      have := key fs.toList [] 0 ks (by simp) hk j k hj
      simpa using this
    · rename_i m e hu
      split at hk
      · rename_i ks1 h1
        split at hk
        · rename_i hc
          cases hk
          obtain ⟨xs, m2, _, _, _, hxl, hf⟩ := DataW.trod_array hu h
          intro j k hj
          rcases Nat.eq_zero_or_pos ks1.length with h0 | h0
          · have h2 := List.eq_nil_of_length_eq_zero h0
            subst h2
            exfalso
            have : ((List.replicate m ([] : List FK)).flatten) = [] := by simp
            rw [this] at hj; simp at hj
          · obtain ⟨h2, h3⟩ := flat_rep m j k hj h0
            have h4 := hf _ h2
            rw [List.getElem?_eq_getElem (by omega)] at h4
            have h5 := flat_of n h1 h4 _ k h3
            have hml := Nat.mod_lt j h0
            rw [List.getElem?_take, if_pos (by omega), List.getElem?_drop, hc] at h5
            rw [show j / ks1.length * ks1.length + j % ks1.length = j by rw [Nat.mul_comm]; exact Nat.div_add_mod j _] at h5
            exact h5
        · cases hk
      · cases hk
    · cases hk

/-- A slice of plain records that came in. -/
def RowsK (w : World) (a : Option Addr) (len : Nat) (ks : List FK) : Prop :=
  len ≤ 9223372036854775807 ∧ (0 < len → ∃ xb xo, a = some ⟨xb, xo, none⟩ ∧ xb < w.heap.size ∧ ∀ i, i < len → ∀ (j : Nat) (k : FK), ks[j]? = some k → FGood k (w.cell? ⟨xb, xo + (i * ks.length + j), none⟩))

theorem FGood.some_ {k : FK} {v : Option Value} (h : FGood k v) : ∃ u, v = some u := by
  cases k with
  | none => obtain ⟨b, hb⟩ := h; exact ⟨_, hb⟩
  | some i => obtain ⟨z, hz, _⟩ := h; exact ⟨_, hz⟩

theorem caps_of_trod {t e : TypeId} {fuel : Nat} {a : Option Addr} {len cap : Nat} {x : DataW H × List MemPlace} (ht : P.underlying t = some (.slice e))
    (h : DataW.trod enc P w base spare held fuel t [.slice a len cap] = some x) : len ≤ cap ∧ (a = none → cap = 0) := by
  rcases open_slice ht h with ⟨hcs, _⟩ | ⟨ad, l, c, m, n', D, Pl, hcs, hb, hl, hm, hmm, hx, hi⟩
  · simp at hcs
    obtain ⟨rfl, rfl, rfl⟩ := hcs
    exact ⟨Nat.le_refl _, fun _ => rfl⟩
  · simp at hcs
    obtain ⟨rfl, rfl, rfl⟩ := hcs
    exact ⟨by omega, fun h => by cases h⟩
theorem rows_of_trod {n : Nat} {t e : TypeId} {ks : List FK} {fuel : Nat} {a : Option Addr} {len cap : Nat} {x : DataW H × List MemPlace} (ht : P.underlying t = some (.slice e)) (hk : flatKinds P n e = some ks) (hC : P.cellsOf e = ks.length) (h0 : 0 < ks.length)
    (h : DataW.trod enc P w base spare held fuel t [.slice a len cap] = some x) : RowsK w a len ks := by
  rcases open_slice ht h with ⟨hcs, _⟩ | ⟨ad, l, c, m, n', D, Pl, hcs, hb, hl, hm, hmm, hx, hi⟩
  · simp at hcs
    obtain ⟨rfl, rfl, rfl⟩ := hcs
    exact ⟨by omega, fun h => absurd h (by omega)⟩
  · simp at hcs
    obtain ⟨rfl, rfl, rfl⟩ := hcs
    have hlm : len ≤ m := by rw [hmm]; split <;> omega
    unfold maxLen at hm
    refine ⟨by omega, fun hpos => ?_⟩
    have get : ∀ i, i < len → ∀ (j : Nat) (k : FK), ks[j]? = some k → FGood k (w.cell? (ad.add (i * ks.length + j))) := by
      intro i hil j k hj
      obtain ⟨cs', hc, ht'⟩ := hi i (by omega)
      rw [hC] at hc
      obtain ⟨_, hcl, hat⟩ := World.cells?_some hc
      have hjl : j < ks.length := (List.getElem?_eq_some_iff.1 hj).1
      have h1 := flat_of n hk ht' j k hj
      rw [← Go.Deep.add_add, hat j hjl]
      exact h1
    obtain ⟨k0, hk0⟩ : ∃ k, ks[0]? = some k := ⟨_, List.getElem?_eq_getElem h0⟩
    obtain ⟨u, hu⟩ := (get 0 hpos 0 k0 hk0).some_
    rw [Nat.zero_mul, Nat.zero_add] at hu
    have hadd : ad.add 0 = ad := by unfold Addr.add; simp
    rw [hadd] at hu
    have hsp := spot_none hu
    have hlt := World.block_lt_of_cell? _ _ hu
    obtain ⟨xb, xo, sp⟩ := ad
    simp only at hsp
    subst hsp
    refine ⟨xb, xo, rfl, hlt, fun i hil j k hj => ?_⟩
    have e : (⟨xb, xo, none⟩ : Addr).add (i * ks.length + j) = ⟨xb, xo + (i * ks.length + j), none⟩ := by
      unfold Addr.add
      split
      · rename_i h; rw [h]; rfl
      · rfl
    rw [← e]; exact get i hil j k hj
end
end Go.Proofs.YtbpeienllhbffaaDoor
