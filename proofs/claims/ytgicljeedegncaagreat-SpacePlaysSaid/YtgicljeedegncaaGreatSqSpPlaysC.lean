/-
 2 texts in one (Nest, SpPlaysC).
-/
import Derived.Test.YtgicljeedegncaaGreatSqPkRows
import Derived.SizedLaws
import Derived.Test.YtgicljeedegncaaGreatSqSpPlaysB
namespace Go.Proofs.YtgicljeedegncaaGreat
open List renaming getElem?_toArray → ZG, getElem?_cons_zero → ZH, getElem?_cons_succ → ZJ
set_option linter.unusedSimpArgs false
set_option linter.unusedVariables false
open Go.ChangeShapes Go.WideShapes Go.Deep Go.RowKit

/-- A cell's kind: plain, or a slice of plain records. -/
inductive NK where
 | pl (k : FK)
 | sl (ks : List FK) (b : Nat)
def nestFields (rec : TypeId → Option (List NK)) (P : Program) : List Field → Nat → Option (List NK)
 | [], _ => some []
 | f :: fs, off => match rec f.type with
  | some ks => if f.offset = off ∧ P.cellsOf f.type = ks.length then match nestFields rec P fs (off + ks.length) with
    | some r => some (ks ++ r)
    | none => none
   else none
  | none => none
def nestKinds (P : Program) : Nat → TypeId → Option (List NK)
 | 0, _ => none
 | n + 1, t => match P.underlying t with
  | some (.int k) => some [.pl (some k)]
  | some .bool => some [.pl none]
  | some (.slice e) => match flatKinds P n e with
   | some ks => if P.cellsOf e = ks.length ∧ 0 < ks.length then some [.sl ks (P.bytesOf e)] else none
   | none => none
  | some (.struct fs) => nestFields (nestKinds P n) P fs.toList 0
  | some (.array k e) => match nestKinds P n e with
   | some ks => if P.cellsOf e = ks.length then some (List.replicate k ks).flatten else none
   | none => none
  | _ => none
def NGood (w : World) (k : NK) (v : Option Value) : Prop := match k with
 | .pl k => FGood k v
 | .sl ks b => ∃ a len cap, v = some (.slice a len cap) ∧ RowsK w a len ks ∧ len ≤ cap ∧ (a = none → cap = 0) ∧ len * b ≤ reachBytes
theorem weights_all {H : Type} {P : Program} {e : TypeId} : ∀ {l : List (DataW H)} {d : DataW H}, d ∈ l → ∀ n ∈ d.weights P e, n ∈ DataW.weightsAll P e l
 | d' :: r, d, hd, n, hn => by
  simp only [DataW.weightsAll, List.mem_append]
  rcases List.mem_cons.1 hd with rfl | h
  ·exact Or.inl hn
  ·exact Or.inr (weights_all h n hn)
theorem nest_rep {ks : List NK} : ∀ (n j : Nat) (k : NK), ((List.replicate n ks).flatten)[j]? = some k → 0 < ks.length → j / ks.length < n ∧ ks[j % ks.length]? = some k
 | 0, j, k, h, _ => by simp at h
 | n + 1, j, k, h, hp => by
  rw [List.replicate_succ, List.flatten_cons] at h
  by_cases hj : j < ks.length
  ·rw [List.getElem?_append_left hj] at h
   rw [Nat.div_eq_of_lt hj, Nat.mod_eq_of_lt hj]
   exact ⟨by omega, h⟩
  ·rw [List.getElem?_append_right (by omega)] at h
   obtain ⟨h1, h2⟩ := nest_rep n (j - ks.length) k h hp
   have e : j = (j - ks.length) + ks.length := by omega
   rw [e, Nat.add_div_right _ hp, Nat.add_mod_right]
   exact ⟨by omega, h2⟩
section
variable {H : Type} {enc : TypeId × Value → H} {P : Program} {w : World} {base : Nat} {spare : Nat → Bool} {held : Bool}
theorem nest_of : ∀ (n : Nat) {t : TypeId} {ks : List NK} {fuel : Nat} {cs : List Value} {x : DataW H × List MemPlace}, nestKinds P n t = some ks → DataW.trod enc P w base spare held fuel t cs = some x → (∀ m ∈ x.1.weights P t, m ≤ reachBytes) → ∀ (j : Nat) (k : NK), ks[j]? = some k → NGood w k cs[j]?
 | 0, t, ks, fuel, cs, x, hk, _, _ => by simp [nestKinds] at hk
 | n + 1, t, ks, fuel, cs, x, hk, h, hwt => by
  unfold nestKinds at hk
  split at hk
  ·rename_i i hu
   obtain ⟨z, rfl, _, hw⟩ := DataW.trod_int hu h
   cases hk
   intro j k hj
   cases j with
   | zero => simp at hj; subst hj; exact ⟨z, rfl, hw⟩
   | succ j => simp at hj
  ·rename_i hu
   obtain ⟨b, rfl, _⟩ := DataW.trod_bool hu h
   cases hk
   intro j k hj
   cases j with
   | zero => simp at hj; subst hj; exact ⟨b, rfl⟩
   | succ j => simp at hj
  ·rename_i e hu
   split at hk
   ·rename_i ks1 h1
    split at hk
    ·rename_i hc
     cases hk
     obtain ⟨a, len, cap, rfl, hb⟩ : ∃ a len cap, cs = [.slice a len cap] ∧ len * P.bytesOf e ≤ reachBytes := by
      rcases open_slice hu h with ⟨hcs, _⟩ | ⟨ad, l, c, m, n', D, Pl, hcs, _, _, _, _, hx, _⟩
      ·exact ⟨_, _, _, hcs, by simp⟩
      ·refine ⟨_, _, _, hcs, ?_⟩
       have h1 := hwt ((l + (m - l)) * P.bytesOf e) (by rw [hx]; simp [DataW.weights, hu])
       exact Nat.le_trans (Nat.mul_le_mul_right _ (Nat.le_add_right _ _)) h1
     intro j k hj
     cases j with
     | zero =>
      simp at hj
      subst hj
      exact ⟨a, len, cap, rfl, rows_of_trod hu h1 hc.1 hc.2 h, (caps_of_trod hu h).1, (caps_of_trod hu h).2, hb⟩
     | succ j => simp at hj
    ·cases hk
   ·cases hk
  ·rename_i fs hu
   obtain ⟨xs, m, _, hxe, _, hxl, hf⟩ := DataW.trod_struct hu h
   have key : ∀ (l pre : List Field) (off : Nat) (r : List NK), fs.toList = pre ++ l → nestFields (nestKinds P n) P l off = some r → ∀ (j : Nat) (k : NK), r[j]? = some k → NGood w k cs[off + j]? := by
    intro l
    induction l with
    | nil => intro pre off r _ hr j k hj; simp [nestFields] at hr; subst hr; simp at hj
    | cons f l ih =>
     intro pre off r hp hr j k hj
     unfold nestFields at hr
     split at hr
     ·rename_i ks1 h1
      split at hr
      ·rename_i hc
       obtain ⟨hc1, hc2⟩ := hc
       split at hr
       ·rename_i r2 h2
        cases hr
        have hat : fs[pre.length]? = some f := by
         rw [← Array.getElem?_toList, hp, List.getElem?_append_right (Nat.le_refl _)]; simp
        have h3 := hf _ _ hat
        have hlt : pre.length < fs.size := (Array.getElem?_eq_some_iff.1 hat).1
        rw [List.getElem?_eq_getElem (by omega)] at h3
        have hw4 : ∀ q ∈ (xs[pre.length]'(by omega)).1.weights P f.type, q ≤ reachBytes := fun q hq => hwt q (by
         rw [hxe]
         simp only [DataW.weights, hu]
         exact DataW.weights_mem_each (j := pre.length) (t := f.type) (by rw [List.getElem?_map, Array.getElem?_toList, hat]; rfl) (by rw [List.getElem?_map, List.getElem?_eq_getElem (by omega)]; rfl) q hq)
        have h4 := nest_of n h1 h3 hw4
        by_cases hjl : j < ks1.length
        ·rw [List.getElem?_append_left hjl] at hj
         have h5 := h4 j k hj
         rw [List.getElem?_take, if_pos (by omega), List.getElem?_drop, hc1] at h5
         exact h5
        ·rw [List.getElem?_append_right (by omega)] at hj
         have h5 := ih (pre ++ [f]) (off + ks1.length) r2 (by rw [hp]; simp) h2 (j - ks1.length) k hj
         rw [show off + ks1.length + (j - ks1.length) = off + j by omega] at h5
         exact h5
       ·cases hr
      ·cases hr
     ·cases hr
   intro j k hj
   have := key fs.toList [] 0 ks (by simp) hk j k hj
   simpa using this
  ·rename_i m e hu
   split at hk
   ·rename_i ks1 h1
    split at hk
    ·rename_i hc
     cases hk
     obtain ⟨xs, m2, _, hxe, _, hxl, hf⟩ := DataW.trod_array hu h
     intro j k hj
     rcases Nat.eq_zero_or_pos ks1.length with h0 | h0
     ·have h2 := List.eq_nil_of_length_eq_zero h0
      subst h2
      exfalso
      have : ((List.replicate m ([] : List NK)).flatten) = [] := by simp
      rw [this] at hj; simp at hj
     ·obtain ⟨h2, h3⟩ := nest_rep m j k hj h0
      have h4 := hf _ h2
      rw [List.getElem?_eq_getElem (by omega)] at h4
      have hw4 : ∀ q ∈ (xs[j / ks1.length]'(by omega)).1.weights P e, q ≤ reachBytes := fun q hq => hwt q (by
       rw [hxe]
       simp only [DataW.weights, hu]
       exact weights_all (List.mem_map.2 ⟨_, List.getElem_mem _, rfl⟩) q hq)
      have h5 := nest_of n h1 h4 hw4 _ k h3
      have hml := Nat.mod_lt j h0
      rw [List.getElem?_take, if_pos (by omega), List.getElem?_drop, hc] at h5
      rw [show j / ks1.length * ks1.length + j % ks1.length = j by rw [Nat.mul_comm]; exact Nat.div_add_mod j _] at h5
      exact h5
    ·cases hk
   ·cases hk
  ·cases hk


/-- A slice of such records that came in. -/
def RowsN (w : World) (a : Option Addr) (len : Nat) (ks : List NK) : Prop :=
 len ≤ 9223372036854775807 ∧ (0 < len → ∃ xb xo, a = some ⟨xb, xo, none⟩ ∧ xb < w.heap.size ∧ ∀ i, i < len → ∀ (j : Nat) (k : NK), ks[j]? = some k → NGood w k (w.cell? ⟨xb, xo + (i * ks.length + j), none⟩))
theorem NGood.some_ {w : World} {k : NK} {v : Option Value} (h : NGood w k v) : ∃ u, v = some u := by
 cases k with
 | pl k => exact FGood.some_ h
 | sl ks b => obtain ⟨a, l, c, hb, _⟩ := h; exact ⟨_, hb⟩
theorem rowsn_of_trod {n : Nat} {t e : TypeId} {ks : List NK} {fuel : Nat} {a : Option Addr} {len cap : Nat} {x : DataW H × List MemPlace} (ht : P.underlying t = some (.slice e)) (hk : nestKinds P n e = some ks) (hC : P.cellsOf e = ks.length) (h0 : 0 < ks.length)
  (h : DataW.trod enc P w base spare held fuel t [.slice a len cap] = some x) (hwt : ∀ m ∈ x.1.weights P t, m ≤ reachBytes) : RowsN w a len ks := by
 rcases open_slice ht h with ⟨hcs, _⟩ | ⟨ad, l, c, m, n', D, Pl, hcs, hb, hl, hm, hmm, hx, hi⟩
 ·simp at hcs
  obtain ⟨rfl, rfl, rfl⟩ := hcs
  exact ⟨by omega, fun h => absurd h (by omega)⟩
 ·simp at hcs
  obtain ⟨rfl, rfl, rfl⟩ := hcs
  have hlm : len ≤ m := by rw [hmm]; split <;> omega
  unfold maxLen at hm
  refine ⟨by omega, fun hpos => ?_⟩
  have get : ∀ i, i < len → ∀ (j : Nat) (k : NK), ks[j]? = some k → NGood w k (w.cell? (ad.add (i * ks.length + j))) := by
   intro i hil j k hj
   obtain ⟨cs', hc, ht'⟩ := hi i (by omega)
   rw [hC] at hc
   obtain ⟨_, hcl, hat⟩ := World.cells?_some hc
   have hjl : j < ks.length := (List.getElem?_eq_some_iff.1 hj).1
   have h1 := nest_of n hk ht' (fun q hq => hwt q (by rw [hx]; simp only [DataW.weights, ht]; exact List.mem_cons_of_mem _ (List.mem_append_left _ (weights_all (List.mem_map.2 ⟨i, List.mem_range.2 hil, rfl⟩) q hq)))) j k hj
   rw [← Go.Deep.add_add, hat j hjl]
   exact h1
  obtain ⟨k0, hk0⟩ : ∃ k, ks[0]? = some k := ⟨_, List.getElem?_eq_getElem h0⟩
  obtain ⟨u, hu⟩ := (get 0 hpos 0 k0 hk0).some_
  rw [Nat.zero_mul, Nat.zero_add] at hu
  have hadd : ad.add 0 = ad := by unfold Addr.add; simp
  rw [hadd] at hu
  have hsp := spot_none hu
  have hlt := World.block_lt_of_cell? _ _ hu
  obtain ⟨xb, xo, sp⟩ := ad
  simp only at hsp
  subst hsp
  refine ⟨xb, xo, rfl, hlt, fun i hil j k hj => ?_⟩
  have e : (⟨xb, xo, none⟩ : Addr).add (i * ks.length + j) = ⟨xb, xo + (i * ks.length + j), none⟩ := by
   unfold Addr.add
   split
   ·rename_i h; rw [h]; rfl
   ·rfl
  rw [← e]; exact get i hil j k hj
end
end Go.Proofs.YtgicljeedegncaaGreat

namespace Go.Proofs.YtgicljeedegncaaGreat
open List renaming getElem?_toArray → ZG, getElem?_cons_zero → ZH, getElem?_cons_succ → ZJ
set_option linter.unusedSimpArgs false
set_option linter.unusedVariables false
open Go.RowKit

theorem do_add (k o j : Nat) : (⟨k, o, none⟩ : Addr).add j = ⟨k, o + j, none⟩ := by unfold Addr.add; split <;> simp_all
theorem list_by {α : Type} (P : Nat → α → Prop) : ∀ (n : Nat), (∀ i, i < n → ∃ x, P i x) → ∃ xs : List α, xs.length = n ∧ ∀ i x, xs[i]? = some x → P i x
 | 0, _ => ⟨[], rfl, by simp⟩
 | n + 1, h => by
  obtain ⟨xs, hl, hx⟩ := list_by P n fun i hi => h i (by omega)
  obtain ⟨y, hy⟩ := h n (by omega)
  refine ⟨xs ++ [y], by simp [hl], fun i x hi => ?_⟩
  rcases Nat.lt_or_ge i n with hin | hin
  ·rw [List.getElem?_append_left (by omega)] at hi
   exact hx i x hi
  ·rw [List.getElem?_append_right (by omega)] at hi
   have h1 : i - xs.length = 0 := by
    rcases Nat.eq_zero_or_pos (i - xs.length) with h2 | h2
    ·exact h2
    ·rw [List.getElem?_eq_none (by simp; omega)] at hi; cases hi
   rw [h1] at hi
   simp at hi
   subst hi
   have : i = n := by omega
   rw [this]
   exact hy
def doK (b : Nat) : List NK := [.pl (some .i64), .pl (some .i64), .pl (some .i64), .pl (some .i64), .pl (some .i64), .pl none, .pl none, .pl none, .pl (some .i64), .sl [some .i64, some .i64] b, .pl none, .pl (some .i64), .pl (some .i64), .pl (some .i64), .pl (some .i64), .pl (some .i64), .pl (some .i64), .pl (some .i64), .pl (some .i64)]
theorem rgs_of_rows {w : World} {a : Option Addr} {n : Nat} (h : RowsK w a n [some .i64, some .i64]) : ∃ rs : List Rg, rs.length = n ∧ Reads w w.heap.size 2 a n (rgsCells rs) := by
 rcases Nat.eq_zero_or_pos n with rfl | hp
 ·exact ⟨[], rfl, Reads.none_⟩
 ·obtain ⟨xb, xo, ha, hb, hr⟩ := h.2 hp
  obtain ⟨rs, hl, hx⟩ := list_by (fun i (r : Rg) => w.cell? ⟨xb, xo + (i * 2), none⟩ = some (.int .i64 r.lo) ∧ w.cell? ⟨xb, xo + (i * 2 + 1), none⟩ = some (.int .i64 r.hi)) n fun i hi => by
   obtain ⟨z0, h0, _⟩ := (hr i hi 0 (some .i64) rfl).i64
   obtain ⟨z1, h1, _⟩ := (hr i hi 1 (some .i64) rfl).i64
   exact ⟨⟨z0, z1⟩, h0, h1⟩
  refine ⟨rs, hl, by rw [rgs_length, hl], fun _ => ⟨_, ha, hb, fun j u hu => ?_⟩⟩
  have hj : j < rs.length * 2 := by have := (List.getElem?_eq_some_iff.1 hu).1; rw [rgs_length] at this; exact this
  obtain ⟨r, hr0⟩ : ∃ r, rs[j / 2]? = some r := ⟨_, List.getElem?_eq_getElem (by omega)⟩
  obtain ⟨c0, c1⟩ := hx _ _ hr0
  have e2 : j = j / 2 * 2 + j % 2 := by omega
  have hm : j % 2 = 0 ∨ j % 2 = 1 := by omega
  rw [do_add]
  unfold rgsCells at hu
  rw [e2, flat_cell rgCells 2 rgCells_length rs (j / 2) (j % 2) (by omega), hr0] at hu
  rcases hm with hm | hm
  ·rw [hm] at hu
   have : u = .int .i64 r.lo := by simpa [rgCells] using hu.symm
   subst this
   rw [show j = j / 2 * 2 by omega]
   exact c0
  ·rw [hm] at hu
   have : u = .int .i64 r.hi := by simpa [rgCells] using hu.symm
   subst this
   rw [show j = j / 2 * 2 + 1 by omega]
   exact c1
theorem dos_of_rows {w : World} {a : Option Addr} {n : Nat} (h : RowsN w a n (doK 16)) : ∃ xs : List DO, xs.length = n ∧ DosAt w a xs := by
 rcases Nat.eq_zero_or_pos n with rfl | hp
 ·exact ⟨[], rfl, fun i x hi => by simp at hi⟩
 ·obtain ⟨xb, xo, ha, hb, hr⟩ := h.2 hp
  obtain ⟨xs, hl, hx⟩ := list_by (fun i (x : DO) => x.Ok w ∧ ∀ (j : Nat) (v : Value), x.cells[j]? = some v → w.cell? ⟨xb, xo + (i * 19 + j), none⟩ = some v) n fun i hi => by
   have hh := hr i hi
   obtain ⟨z0, h0, g0, l0⟩ := (show FGood (some .i64) _ from hh 0 (.pl (some .i64)) rfl).i64
   obtain ⟨z1, h1, g1, l1⟩ := (show FGood (some .i64) _ from hh 1 (.pl (some .i64)) rfl).i64
   obtain ⟨z2, h2, _⟩ := (show FGood (some .i64) _ from hh 2 (.pl (some .i64)) rfl).i64
   obtain ⟨z3, h3, _⟩ := (show FGood (some .i64) _ from hh 3 (.pl (some .i64)) rfl).i64
   obtain ⟨z4, h4, _⟩ := (show FGood (some .i64) _ from hh 4 (.pl (some .i64)) rfl).i64
   obtain ⟨z5, h5⟩ := (show FGood none _ from hh 5 (.pl none) rfl)
   obtain ⟨z6, h6⟩ := (show FGood none _ from hh 6 (.pl none) rfl)
   obtain ⟨z7, h7⟩ := (show FGood none _ from hh 7 (.pl none) rfl)
   obtain ⟨z8, h8, _⟩ := (show FGood (some .i64) _ from hh 8 (.pl (some .i64)) rfl).i64
   obtain ⟨ra, rl, rc, h9, hrows, _, _, hby⟩ := (show NGood w (.sl [some .i64, some .i64] 16) _ from hh 9 (.sl [some .i64, some .i64] 16) rfl)
   obtain ⟨z10, h10⟩ := (show FGood none _ from hh 10 (.pl none) rfl)
   obtain ⟨z11, h11, _⟩ := (show FGood (some .i64) _ from hh 11 (.pl (some .i64)) rfl).i64
   obtain ⟨z12, h12, _⟩ := (show FGood (some .i64) _ from hh 12 (.pl (some .i64)) rfl).i64
   obtain ⟨z13, h13, _⟩ := (show FGood (some .i64) _ from hh 13 (.pl (some .i64)) rfl).i64
   obtain ⟨z14, h14, _⟩ := (show FGood (some .i64) _ from hh 14 (.pl (some .i64)) rfl).i64
   obtain ⟨z15, h15, _⟩ := (show FGood (some .i64) _ from hh 15 (.pl (some .i64)) rfl).i64
   obtain ⟨z16, h16, g16, l16⟩ := (show FGood (some .i64) _ from hh 16 (.pl (some .i64)) rfl).i64
   obtain ⟨z17, h17, _⟩ := (show FGood (some .i64) _ from hh 17 (.pl (some .i64)) rfl).i64
   obtain ⟨z18, h18, _⟩ := (show FGood (some .i64) _ from hh 18 (.pl (some .i64)) rfl).i64
   obtain ⟨rs, hrl, hrd⟩ := rgs_of_rows hrows
   subst hrl
   refine ⟨⟨z0, z1, ⟨z2, z3, z4, z5, z6, z7⟩, ⟨z8, rs, z10, z11, z12, z13⟩, ra, rc, ⟨z14, z15, z16, z17, z18⟩⟩, ⟨g0, l0, g1, l1, g16, l16, hby, hrd⟩, ?_⟩
   intro j v hj
   have hj19 : j < 19 := by
    rcases Nat.lt_or_ge j 19 with h1 | h1
    ·exact h1
    ·rw [Array.getElem?_eq_none (by rw [DO.size]; exact h1)] at hj; cases hj
   simp only [doK, List.length_cons, List.length_nil] at h0 h1 h2 h3 h4 h5 h6 h7 h8 h9 h10 h11 h12 h13 h14 h15 h16 h17 h18
   rcases (by omega : j = 0 ∨ j = 1 ∨ j = 2 ∨ j = 3 ∨ j = 4 ∨ j = 5 ∨ j = 6 ∨ j = 7 ∨ j = 8 ∨ j = 9 ∨ j = 10 ∨ j = 11 ∨ j = 12 ∨ j = 13 ∨ j = 14 ∨ j = 15 ∨ j = 16 ∨ j = 17 ∨ j = 18) with rfl | rfl | rfl | rfl | rfl | rfl | rfl | rfl | rfl | rfl | rfl | rfl | rfl | rfl | rfl | rfl | rfl | rfl | rfl
   all_goals (simp only [DO.cells, doC, ZG, ZH, ZJ, Option.some.injEq] at hj; subst hj; assumption)
  exact ⟨xs, hl, fun i x hi => ⟨(hx i x hi).1, xb, xo, ha, hb, (hx i x hi).2⟩⟩
end Go.Proofs.YtgicljeedegncaaGreat
