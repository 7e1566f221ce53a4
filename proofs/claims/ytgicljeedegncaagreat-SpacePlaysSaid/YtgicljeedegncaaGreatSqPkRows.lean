/-
 5 texts in one (PersistPlain, SpanWorks, Flat, SpanMany, PkRows).
-/
import Derived.Test.YtgicljeedegncaaGreatSqSrPlain
import Derived.Test.YtgicljeedegncaaGreatSqSentParts
import Derived.Test.YtgicljeedegncaaGreatSqSpcRep
import Derived.Test.YtgicljeedegncaaGreatSqSpanSame
namespace Go.Proofs.YtgicljeedegncaaGreat
open List renaming getElem?_toArray → ZG
set_option linter.unusedSimpArgs false
set_option linter.unusedVariables false

/-- A packet. -/
structure PK where
 n : Int
 t : Int
 s : Int
 e : Bool
 f : Bool
 c : Bool
 deriving DecidableEq
def pkC (p : PK) : Array Value := #[.int .i64 p.n, .int .i64 p.t, .int .i64 p.s, .bool p.e, .bool p.f, .bool p.c]
def pkV (p : PK) : Value := .agg (pkC p)
/-- Its numbers are ints. -/
def PK.small (p : PK) : Prop := (-9223372036854775808 ≤ p.n ∧ p.n ≤ 9223372036854775807) ∧ (-9223372036854775808 ≤ p.t ∧ p.t ≤ 9223372036854775807) ∧ (-9223372036854775808 ≤ p.s ∧ p.s ≤ 9223372036854775807)
/-- May it be, behind a number? -/
def okPk (last : Int) (p : PK) : Bool := decide (last < p.n) && decide (p.n ≤ 9007199254740991) && (decide (0 ≤ p.t) && decide (p.t ≤ 9007199254740991)) && decide (1 ≤ p.s) && decide (p.s ≤ 65535)
def okPks : Int → List PK → Bool
 | _, [] => true
 | last, p :: ps => okPk last p && okPks p.n ps
theorem okPk_iff {last : Int} {p : PK} : okPk last p = true ↔ last < p.n ∧ p.n ≤ 9007199254740991 ∧ 0 ≤ p.t ∧ p.t ≤ 9007199254740991 ∧ 1 ≤ p.s ∧ p.s ≤ 65535 := by
 unfold okPk
 simp only [Bool.and_eq_true, decide_eq_true_eq]
 constructor
 ·rintro ⟨⟨⟨⟨h1, h2⟩, h3, h4⟩, h5⟩, h6⟩; exact ⟨h1, h2, h3, h4, h5, h6⟩
 ·rintro ⟨h1, h2, h3, h4, h5, h6⟩; exact ⟨⟨⟨⟨h1, h2⟩, h3, h4⟩, h5⟩, h6⟩
theorem okPks_mem : ∀ {ps : List PK} {last : Int}, okPks last ps = true → ∀ p ∈ ps, last < p.n ∧ p.n ≤ 9007199254740991 ∧ 0 ≤ p.t ∧ p.t ≤ 9007199254740991 ∧ 1 ≤ p.s ∧ p.s ≤ 65535
 | [], _, _, p, hp => by simp at hp
 | q :: ps, last, h, p, hp => by
  simp only [okPks, Bool.and_eq_true] at h
  obtain ⟨h1, h2⟩ := h
  have h3 := okPk_iff.1 h1
  rcases List.mem_cons.1 hp with rfl | hp
  ·exact h3
  ·have := okPks_mem h2 p hp
   omega
/-- Does it count? -/
def counts (first : Int) (p : PK) : Bool := p.e && decide (first < p.t)
/-- Was nothing between them acknowledged? -/
def freeR (rs : List Rg) (a b : PK) : Bool := !(rs.reverse.any fun x => decide ((if a.n + 1 < x.lo then x.lo else a.n + 1) ≤ (if b.n - 1 < x.hi then b.n - 1 else x.hi)))
def pairOk (rs : List Rg) (first : Int) (a b : PK) : Bool := counts first a && counts first b && decide (a.t ≤ b.t) && freeR rs a b
def pairsL (rs : List Rg) (first : Int) : List PK → List (PK × PK)
 | [] => []
 | a :: ps => ((ps.filter fun b => pairOk rs first a b).map fun b => (a, b)) ++ pairsL rs first ps
/-- What is kept of a pair. -/
structure Per where
 d : Int
 lo : Int
 hi : Int
 some : Bool
 deriving DecidableEq
def Per.none : Per := ⟨0, 0, 0, false⟩
def keepP (st : Per) (x : PK × PK) : Per := if !st.some || decide (st.d < x.2.t - x.1.t) then ⟨x.2.t - x.1.t, x.1.n, x.2.n, true⟩ else st
/-- The period. -/
def periodR (rs : List Rg) (first : Int) (ps : List PK) : Per := (pairsL rs first ps).foldl keepP Per.none
theorem pairsL_mem {rs : List Rg} {first : Int} : ∀ {ps : List PK} {x : PK × PK}, x ∈ pairsL rs first ps → x.1 ∈ ps ∧ x.2 ∈ ps ∧ pairOk rs first x.1 x.2 = true
 | [], x, h => by simp [pairsL] at h
 | a :: ps, x, h => by
  rcases List.mem_append.1 h with h | h
  ·obtain ⟨b, hb, rfl⟩ := List.mem_map.1 h
   obtain ⟨h1, h2⟩ := List.mem_filter.1 hb
   exact ⟨by simp, by simp [h1], h2⟩
  ·obtain ⟨h1, h2, h3⟩ := pairsL_mem h
   exact ⟨by simp [h1], by simp [h2], h3⟩
end Go.Proofs.YtgicljeedegncaaGreat

namespace Go.Proofs.YtgicljeedegncaaGreat
open List renaming getElem?_toArray → ZG
set_option linter.unusedSimpArgs false
set_option linter.unusedVariables false
open Go.RowKit

/-- A set of a call's own. -/
structure SAt (w W : World) (b : Nat) (g : Option Nat) (room : Nat) (rs : List Rg) : Prop where
 set : IsSet W b g room rs
 nb : w.heap.size ≤ b
 ng : ∀ k, g = some k → w.heap.size ≤ k
 below : Below w.heap.size w W
section
variable {w W w' : World} {b room : Nat} {g : Option Nat} {rs ys : List Rg} {e : Ending}
end
theorem rgat_new {w : World} {k t : Nat} {cs : Array Value} {rs : List Rg} (h : Blk w k t cs) (e : cs = (rgsCells rs).toArray) : RgAt w (some ⟨k, 0, none⟩) rs := fun i r hi => by
 subst e
 refine ⟨k, rfl, h.lt, ?_, ?_⟩
 ·rw [h.cell, ZG]
  unfold rgsCells
  exact (flat_cell rgCells 2 rgCells_length rs i 0 (by omega)).trans (by rw [hi]; rfl)
 ·rw [h.cell, ZG]
  unfold rgsCells
  exact (flat_cell rgCells 2 rgCells_length rs i 1 (by omega)).trans (by rw [hi]; rfl)

end Go.Proofs.YtgicljeedegncaaGreat

namespace Go.Proofs.YtgicljeedegncaaGreat
open List renaming getElem?_toArray → ZG
open Go.ChangeShapes Go.WideShapes Go.Deep Go.RowKit

/-- A cell's kind: an integer or a bool. -/
abbrev FK := Option IntKind
def flatFields (rec : TypeId → Option (List FK)) (P : Program) : List Field → Nat → Option (List FK)
 | [], _ => some []
 | f :: fs, off => match rec f.type with
  | some ks => if f.offset = off ∧ P.cellsOf f.type = ks.length then match flatFields rec P fs (off + ks.length) with
    | some r => some (ks ++ r)
    | none => none
   else none
  | none => none
/-- The kinds of a type's cells, where they are all plain. -/
def flatKinds (P : Program) : Nat → TypeId → Option (List FK)
 | 0, _ => none
 | n + 1, t => match P.underlying t with
  | some (.int k) => some [some k]
  | some .bool => some [none]
  | some (.struct fs) => flatFields (flatKinds P n) P fs.toList 0
  | some (.array k e) => match flatKinds P n e with
   | some ks => if P.cellsOf e = ks.length then some (List.replicate k ks).flatten else none
   | none => none
  | _ => none
/-- What such a cell holds. -/
def FGood (k : FK) (v : Option Value) : Prop := match k with
 | some i => ∃ z, v = some (.int i z) ∧ (Lit.int i z).wf = true
 | none => ∃ b, v = some (.bool b)
theorem FGood.i64 {v : Option Value} (h : FGood (some .i64) v) : ∃ z, v = some (.int .i64 z) ∧ -9223372036854775808 ≤ z ∧ z ≤ 9223372036854775807 := by
 obtain ⟨z, hz, hw⟩ := h
 have hb := bounds_i64 hw
 exact ⟨z, hz, hb.1, hb.2⟩
theorem flat_rep {ks : List FK} : ∀ (n j : Nat) (k : FK), ((List.replicate n ks).flatten)[j]? = some k → 0 < ks.length → j / ks.length < n ∧ ks[j % ks.length]? = some k
 | 0, j, k, h, _ => by simp at h
 | n + 1, j, k, h, hp => by
  rw [List.replicate_succ, List.flatten_cons] at h
  by_cases hj : j < ks.length
  ·rw [List.getElem?_append_left hj] at h
   rw [Nat.div_eq_of_lt hj, Nat.mod_eq_of_lt hj]
   exact ⟨by omega, h⟩
  ·rw [List.getElem?_append_right (by omega)] at h
   obtain ⟨h1, h2⟩ := flat_rep n (j - ks.length) k h hp
   have e : j = (j - ks.length) + ks.length := by omega
   rw [e, Nat.add_div_right _ hp, Nat.add_mod_right]
   exact ⟨by omega, h2⟩

section
variable {H : Type} {enc : TypeId × Value → H} {P : Program} {w : World} {base : Nat} {spare : Nat → Bool} {held : Bool}
theorem flat_of : ∀ (n : Nat) {t : TypeId} {ks : List FK} {fuel : Nat} {cs : List Value} {x : DataW H × List MemPlace}, flatKinds P n t = some ks → DataW.trod enc P w base spare held fuel t cs = some x → ∀ (j : Nat) (k : FK), ks[j]? = some k → FGood k cs[j]?
 | 0, t, ks, fuel, cs, x, hk, _ => by simp [flatKinds] at hk
 | n + 1, t, ks, fuel, cs, x, hk, h => by
  unfold flatKinds at hk
  split at hk
  ·rename_i i hu
   obtain ⟨z, rfl, _, hw⟩ := DataW.trod_int hu h
   cases hk
   intro j k hj
   cases j with
   | zero => simp at hj; subst hj; exact ⟨z, rfl, hw⟩
   | succ j => simp at hj
  ·rename_i hu
   obtain ⟨b, rfl, _⟩ := DataW.trod_bool hu h
   cases hk
   intro j k hj
   cases j with
   | zero => simp at hj; subst hj; exact ⟨b, rfl⟩
   | succ j => simp at hj
  ·rename_i fs hu
   obtain ⟨xs, m, _, _, _, hxl, hf⟩ := DataW.trod_struct hu h
   have key : ∀ (l pre : List Field) (off : Nat) (r : List FK), fs.toList = pre ++ l → flatFields (flatKinds P n) P l off = some r → ∀ (j : Nat) (k : FK), r[j]? = some k → FGood k cs[off + j]? := by
    intro l
    induction l with
    | nil => intro pre off r _ hr j k hj; simp [flatFields] at hr; subst hr; simp at hj
    | cons f l ih =>
     intro pre off r hp hr j k hj
     unfold flatFields at hr
     split at hr
     ·rename_i ks1 h1
      split at hr
      ·rename_i hc
       obtain ⟨hc1, hc2⟩ := hc
       split at hr
       ·rename_i r2 h2
        cases hr
        have hat : fs[pre.length]? = some f := by
         rw [← Array.getElem?_toList, hp, List.getElem?_append_right (Nat.le_refl _)]; simp
        have h3 := hf _ _ hat
        have hlt : pre.length < fs.size := (Array.getElem?_eq_some_iff.1 hat).1
        rw [List.getElem?_eq_getElem (by omega)] at h3
        have h4 := flat_of n h1 h3
        by_cases hjl : j < ks1.length
        ·rw [List.getElem?_append_left hjl] at hj
         have h5 := h4 j k hj
         rw [List.getElem?_take, if_pos (by omega), List.getElem?_drop, hc1] at h5
         exact h5
        ·rw [List.getElem?_append_right (by omega)] at hj
         have h5 := ih (pre ++ [f]) (off + ks1.length) r2 (by rw [hp]; simp) h2 (j - ks1.length) k hj
         rw [show off + ks1.length + (j - ks1.length) = off + j by omega] at h5
         exact h5
       ·cases hr
      ·cases hr
     ·cases hr
   intro j k hj
   have := key fs.toList [] 0 ks (by simp) hk j k hj
   simpa using this
  ·rename_i m e hu
   split at hk
   ·rename_i ks1 h1
    split at hk
    ·rename_i hc
     cases hk
     obtain ⟨xs, m2, _, _, _, hxl, hf⟩ := DataW.trod_array hu h
     intro j k hj
     rcases Nat.eq_zero_or_pos ks1.length with h0 | h0
     ·have h2 := List.eq_nil_of_length_eq_zero h0
      subst h2
      exfalso
      have : ((List.replicate m ([] : List FK)).flatten) = [] := by simp
      rw [this] at hj; simp at hj
     ·obtain ⟨h2, h3⟩ := flat_rep m j k hj h0
      have h4 := hf _ h2
      rw [List.getElem?_eq_getElem (by omega)] at h4
      have h5 := flat_of n h1 h4 _ k h3
      have hml := Nat.mod_lt j h0
      rw [List.getElem?_take, if_pos (by omega), List.getElem?_drop, hc] at h5
      rw [show j / ks1.length * ks1.length + j % ks1.length = j by rw [Nat.mul_comm]; exact Nat.div_add_mod j _] at h5
      exact h5
    ·cases hk
   ·cases hk
  ·cases hk

/-- A slice of plain records that came in. -/
def RowsK (w : World) (a : Option Addr) (len : Nat) (ks : List FK) : Prop :=
 len ≤ 9223372036854775807 ∧ (0 < len → ∃ xb xo, a = some ⟨xb, xo, none⟩ ∧ xb < w.heap.size ∧ ∀ i, i < len → ∀ (j : Nat) (k : FK), ks[j]? = some k → FGood k (w.cell? ⟨xb, xo + (i * ks.length + j), none⟩))

theorem FGood.some_ {k : FK} {v : Option Value} (h : FGood k v) : ∃ u, v = some u := by
 cases k with
 | none => obtain ⟨b, hb⟩ := h; exact ⟨_, hb⟩
 | some i => obtain ⟨z, hz, _⟩ := h; exact ⟨_, hz⟩

theorem caps_of_trod {t e : TypeId} {fuel : Nat} {a : Option Addr} {len cap : Nat} {x : DataW H × List MemPlace} (ht : P.underlying t = some (.slice e))
  (h : DataW.trod enc P w base spare held fuel t [.slice a len cap] = some x) : len ≤ cap ∧ (a = none → cap = 0) := by
 rcases open_slice ht h with ⟨hcs, _⟩ | ⟨ad, l, c, m, n', D, Pl, hcs, hb, hl, hm, hmm, hx, hi⟩
 ·simp at hcs
  obtain ⟨rfl, rfl, rfl⟩ := hcs
  exact ⟨Nat.le_refl _, fun _ => rfl⟩
 ·simp at hcs
  obtain ⟨rfl, rfl, rfl⟩ := hcs
  exact ⟨by omega, fun h => by cases h⟩
theorem rows_of_trod {n : Nat} {t e : TypeId} {ks : List FK} {fuel : Nat} {a : Option Addr} {len cap : Nat} {x : DataW H × List MemPlace} (ht : P.underlying t = some (.slice e)) (hk : flatKinds P n e = some ks) (hC : P.cellsOf e = ks.length) (h0 : 0 < ks.length)
  (h : DataW.trod enc P w base spare held fuel t [.slice a len cap] = some x) : RowsK w a len ks := by
 rcases open_slice ht h with ⟨hcs, _⟩ | ⟨ad, l, c, m, n', D, Pl, hcs, hb, hl, hm, hmm, hx, hi⟩
 ·simp at hcs
  obtain ⟨rfl, rfl, rfl⟩ := hcs
  exact ⟨by omega, fun h => absurd h (by omega)⟩
 ·simp at hcs
  obtain ⟨rfl, rfl, rfl⟩ := hcs
  have hlm : len ≤ m := by rw [hmm]; split <;> omega
  unfold maxLen at hm
  refine ⟨by omega, fun hpos => ?_⟩
  have get : ∀ i, i < len → ∀ (j : Nat) (k : FK), ks[j]? = some k → FGood k (w.cell? (ad.add (i * ks.length + j))) := by
   intro i hil j k hj
   obtain ⟨cs', hc, ht'⟩ := hi i (by omega)
   rw [hC] at hc
   obtain ⟨_, hcl, hat⟩ := World.cells?_some hc
   have hjl : j < ks.length := (List.getElem?_eq_some_iff.1 hj).1
   have h1 := flat_of n hk ht' j k hj
   rw [← Go.Deep.add_add, hat j hjl]
   exact h1
  obtain ⟨k0, hk0⟩ : ∃ k, ks[0]? = some k := ⟨_, List.getElem?_eq_getElem h0⟩
  obtain ⟨u, hu⟩ := (get 0 hpos 0 k0 hk0).some_
  rw [Nat.zero_mul, Nat.zero_add] at hu
  have hadd : ad.add 0 = ad := by unfold Addr.add; simp
  rw [hadd] at hu
  have hsp := spot_none hu
  have hlt := World.block_lt_of_cell? _ _ hu
  obtain ⟨xb, xo, sp⟩ := ad
  simp only at hsp
  subst hsp
  refine ⟨xb, xo, rfl, hlt, fun i hil j k hj => ?_⟩
  have e : (⟨xb, xo, none⟩ : Addr).add (i * ks.length + j) = ⟨xb, xo + (i * ks.length + j), none⟩ := by
   unfold Addr.add
   split
   ·rename_i h; rw [h]; rfl
   ·rfl
  rw [← e]; exact get i hil j k hj
end
end Go.Proofs.YtgicljeedegncaaGreat

namespace Go.Proofs.YtgicljeedegncaaGreat
open List renaming getElem?_toArray → ZG
set_option linter.unusedVariables false
open Go.RowKit

/-- A set's place and content. -/
structure SD where
 b : Nat
 g : Option Nat
 room : Nat
 rs : List Rg
def SD.is (d : SD) (w W : World) : Prop := SAt w W d.b d.g d.room d.rs
/-- Two sets share no block. -/
def ApartS (d e : SD) : Prop := d.b ≠ e.b ∧ d.g ≠ some e.b ∧ e.g ≠ some d.b ∧ (∀ k, d.g = some k → e.g ≠ some k)
def AllS (w W : World) (L : List SD) : Prop := (∀ d ∈ L, d.is w W) ∧ L.Pairwise ApartS
section
variable {w W w' : World} {d e : SD} {L : List SD} {x : Ending} {ys : List Rg}
/-- Ranges that lie apart from a set. -/
def RgFree (W : World) (b : Nat) (g : Option Nat) (a : Option Addr) (rs : List Rg) : Prop := RgAt W a rs ∧ ∀ k, a = some ⟨k, 0, none⟩ → b ≠ k ∧ g ≠ some k ∧ k < W.heap.size
end

/-- Rows of two numbers that came in. -/
def PairsAt (w : World) (a : Option Addr) (len : Nat) (X Y : Nat → Int) : Prop :=
 len ≤ 9223372036854775807 ∧ ∀ i, i < len → ∃ xb xo, a = some ⟨xb, xo, none⟩ ∧ xb < w.heap.size ∧ w.cell? ⟨xb, xo + i * 2, none⟩ = some (.int .i64 (X i)) ∧ w.cell? ⟨xb, xo + (i * 2 + 1), none⟩ = some (.int .i64 (Y i)) ∧
  -9223372036854775808 ≤ X i ∧ X i ≤ 9223372036854775807 ∧ -9223372036854775808 ≤ Y i ∧ Y i ≤ 9223372036854775807
end Go.Proofs.YtgicljeedegncaaGreat

namespace Go.Proofs.YtgicljeedegncaaGreat
open List renaming getElem?_toArray → ZG
set_option linter.unusedSimpArgs false
set_option linter.unusedVariables false
open Go.RowKit

/-- A slice of packets reads as ps. -/
def PksAt (w : World) (a : Option Addr) (ps : List PK) : Prop := (∀ p ∈ ps, p.small) ∧ ∀ (i : Nat) (p : PK), ps[i]? = some p → ∃ k o, a = some ⟨k, o, none⟩ ∧ k < w.heap.size ∧ ∀ (j : Nat) (v : Value), (pkC p)[j]? = some v → w.cell? ⟨k, o + (i * 6 + j), none⟩ = some v
theorem PksAt.below {w w' : World} {B : Nat} {a : Option Addr} {ps : List PK} (h : PksAt w a ps) (hb : Below B w w') (hB : w.heap.size ≤ B) : PksAt w' a ps := ⟨h.1, fun i p hi => by
 obtain ⟨k, o, e, hk, hc⟩ := h.2 i p hi
 exact ⟨k, o, e, Nat.lt_of_lt_of_le hk hb.size, fun j v hj => (hb.cell (p := ⟨k, _, none⟩) (Nat.lt_of_lt_of_le hk hB)).trans (hc j v hj)⟩⟩
theorem PksAt.only {w w' : World} {S : List Nat} {a : Option Addr} {ps : List PK} (h : PksAt w a ps) (ho : Only S w w') (hS : ∀ k o, a = some ⟨k, o, none⟩ → k ∉ S) : PksAt w' a ps := ⟨h.1, fun i p hi => by
 obtain ⟨k, o, e, hk, hc⟩ := h.2 i p hi
 exact ⟨k, o, e, Nat.lt_of_lt_of_le hk ho.size, fun j v hj => (ho.cell (p := ⟨k, _, none⟩) hk (hS k o e)).trans (hc j v hj)⟩⟩
theorem PksAt.cells {w : World} {a : Option Addr} {ps : List PK} (h : PksAt w a ps) {i : Nat} {p : PK} (hi : ps[i]? = some p) : ∃ k o, a = some ⟨k, o, none⟩ ∧ k < w.heap.size ∧
  w.cell? ⟨k, o + i * 6, none⟩ = some (.int .i64 p.n) ∧ w.cell? ⟨k, o + i * 6 + 1, none⟩ = some (.int .i64 p.t) ∧ w.cell? ⟨k, o + i * 6 + 2, none⟩ = some (.int .i64 p.s) ∧
  w.cell? ⟨k, o + i * 6 + 3, none⟩ = some (.bool p.e) ∧ w.cell? ⟨k, o + i * 6 + 4, none⟩ = some (.bool p.f) ∧ w.cell? ⟨k, o + i * 6 + 5, none⟩ = some (.bool p.c) := by
 obtain ⟨k, o, e, hk, hc⟩ := h.2 i p hi
 exact ⟨k, o, e, hk, hc 0 _ rfl, hc 1 _ rfl, hc 2 _ rfl, hc 3 _ rfl, hc 4 _ rfl, hc 5 _ rfl⟩

theorem istime_any (n : Int) (w : World) : Calls Tryz.prog 94 #[.int .i64 n] w fun e w' => e = .returned (.bool (decide (0 ≤ n) && decide (n ≤ 9007199254740991))) ∧ w = w' := by
 by_cases h1 : 0 ≤ n
 ·by_cases h2 : n ≤ 9007199254740991
  ·go_enter Tryz.func94, Tryz.ntmps94
   go_wp2
   go_ret
   simp [h1, h2]
  ·go_enter Tryz.func94, Tryz.ntmps94
   go_wp2
   go_ret
   simp [h1, h2]
 ·go_enter Tryz.func94, Tryz.ntmps94
  go_wp2
  go_ret
  have h1 : ¬ 0 ≤ n := by omega
  simp [h1]

set_option maxHeartbeats 1000000 in
/-- Check's closure: is a packet wrong? The number of the last one lies in a box. -/
theorem wrong_any (p : PK) (last : Int) (Bl : Nat) (w : World) (hB : Blk w Bl 3 #[.int .i64 last]) :
  Calls Tryz.prog 138 #[pkV p, .pointer (some ⟨Bl, 0, none⟩)] w fun e w' => e = .returned (.bool (!okPk last p)) ∧ Only [Bl] w w' ∧ Blk w' Bl 3 #[.int .i64 p.n] := by
 have c0 := hB.cell 0
 have f0 := hB.frozen 0
 have hl := hB.lt
 have hO : Only [Bl] w ((w.setCell ⟨Bl, 0, none⟩ (.int .i64 p.n)).alloc (.cells (pkC p) 40)) := ((only_of_below (Below.refl _ _)).setCell (.inl (by simp)) _).alloc _
 have hX : Blk ((w.setCell ⟨Bl, 0, none⟩ (.int .i64 p.n)).alloc (.cells (pkC p) 40)) Bl 3 #[.int .i64 p.n] := (hB.set 0 _).alloc _
 have HO := hide hO
 have HX := hide hX
 obtain ⟨T, hT⟩ : ∃ T, (decide (0 ≤ p.t) && decide (p.t ≤ 9007199254740991)) = T := ⟨_, rfl⟩
 have hv : (decide (p.n ≤ last) || decide (9007199254740991 < p.n) || !T || decide (p.s < 1) || decide (65535 < p.s)) = !okPk last p := by
  unfold okPk
  rw [hT]
  have e1 : decide (p.n ≤ last) = !decide (last < p.n) := by rw [← decide_not]; congr 1; simp only [Int.not_lt]
  have e2 : decide (9007199254740991 < p.n) = !decide (p.n ≤ 9007199254740991) := by rw [← decide_not]; congr 1; simp only [Int.not_le]
  have e3 : decide (p.s < 1) = !decide (1 ≤ p.s) := by rw [← decide_not]; congr 1; simp only [Int.not_le]
  have e4 : decide (65535 < p.s) = !decide (p.s ≤ 65535) := by rw [← decide_not]; congr 1; simp only [Int.not_le]
  rw [e1, e2, e3, e4]
  simp only [Bool.not_and]
 rw [← hv]
 have HIT := hide (fun W => istime_any p.t W)
 rw [hT] at HIT
 clear hO hX hv hT
 obtain ⟨n, t, s, e, f, c⟩ := p
 unfold pkV pkC at *
 dsimp only at *
 clear hB
 cases T with
 | true =>
  go_enter Tryz.func138, Tryz.ntmps138
  go_wp2_with (go_at_call 94; refine (HIT.out _).mono ?_; rintro e1 w1 ⟨rfl, rfl⟩)
  all_goals
   go_ret
   refine ⟨?_, HO.out, HX.out⟩
   first | rfl | simp
 | false =>
  go_enter Tryz.func138, Tryz.ntmps138
  go_wp2_with (go_at_call 94; refine (HIT.out _).mono ?_; rintro e1 w1 ⟨rfl, rfl⟩)
  all_goals
   go_ret
   refine ⟨?_, HO.out, HX.out⟩
   first | rfl | simp
end Go.Proofs.YtgicljeedegncaaGreat
