/-
 8 texts in one (SpanAdd2, SpanWorks, Frames, Flat, SpanMany, SentParts, SentRef, SentRef2).
-/
import Derived.Test.YtgicljeedegncaaGreatTqSpanAdd
import Derived.Test.YtgicljeedegncaaGreatTqSentEq
import Derived.Test.YtgicljeedegncaaGreatTqSentEach
import Derived.Deep.Slices
import Derived.Deep.Fields
import Derived.ChangeSame
import Derived.OpenShut
import Derived.ProofKit
import Derived.Test.YtgicljeedegncaaGreatTqSpanSame
import Derived.Handy
namespace Go.Proofs.YtgicljeedegncaaGreat
open List renaming getElem?_toArray → ZG
open Go.Value renaming int → ZI
open Go.IntKind renaming i64 → ZQ
set_option linter.unusedSimpArgs false
set_option linter.unusedVariables false
open Go.RowKit

set_option maxRecDepth 100000 in
set_option maxHeartbeats 4000000 in
theorem add_limit (b : Nat) (g : Option Nat) (room : Nat) (lo hi : Int) (rs : List Rg) (w : World) (hS : IsSet w b g room rs) (l0 : 0 ≤ lo) (l1 : lo ≤ hi) (m1 : hi ≤ 9007199254740991) (hroom2 : room < (addR lo hi rs).length) :
  Calls Tryz.prog 63 #[.pointer (some ⟨b, 0, none⟩), ZI ZQ lo, ZI ZQ hi] w fun e w' => e = .returned (ZI ZQ 5) ∧ Below w.heap.size w w' := by
 obtain ⟨hlen, hr1, hroom⟩ := hS.len
 have hgood := hS.good
 have hb := hS.lt.1
 have HW : IsSet ((w.alloc (.cells #[.pointer (some ⟨b, 0, none⟩)] 76)).alloc (.cells #[ZI ZQ hi] 3)) b g room rs := (hS.alloc _).alloc _
 have hW0 : Below w.heap.size w ((w.alloc (.cells #[.pointer (some ⟨b, 0, none⟩)] 76)).alloc (.cells #[ZI ZQ hi] 3)) := ((Below.refl _ _).alloc (Nat.le_refl _) _).alloc (by simp) _
 have hx3 : Blk ((w.alloc (.cells #[.pointer (some ⟨b, 0, none⟩)] 76)).alloc (.cells #[ZI ZQ hi] 3)) w.heap.size 76 #[.pointer (some ⟨b, 0, none⟩)] := (Blk.new w _ _).alloc _
 have hx5 : Blk ((w.alloc (.cells #[.pointer (some ⟨b, 0, none⟩)] 76)).alloc (.cells #[ZI ZQ hi] 3)) (w.heap.size + 1) 3 #[ZI ZQ hi] := blk_new_at (by simp)
 have l2 : lo ≤ 9007199254740991 := by omega
 have m0 : 0 ≤ hi := by omega
 have hnl : ¬ hi < lo := by omega
 have hw1 : IntKind.i64.wrap (lo - 1) = lo - 1 := by rw [IntKind.wrap_i64]; omega
 have HWW := hide hw1
 clear hw1
 go_enter Tryz.func63, Tryz.ntmps63
 obtain ⟨f, hf⟩ : ∃ f, fstHi (lo - 1) rs = f := ⟨_, rfl⟩
 obtain ⟨u, hu⟩ : ∃ u, fstLo (hi + 1) rs = u := ⟨_, rfl⟩
 obtain ⟨J, hJ⟩ : ∃ J, joined f u lo hi rs = J := ⟨_, rfl⟩
 have HF := hide hf
 have HU := hide hu
 have HJ := hide hJ
 have hfu : f ≤ u := by have := from_le_to hgood l1; omega
 have hun : u ≤ rs.length := by have := fstLe_lo (hi + 1) rs; omega
 clear hf hu hJ
 go_upto_if 39 with (first
  | (go_at_call 112; obtain ⟨a, c, c0, _, _, _, _, _⟩ := HW.cells; refine (snone_no b room _ c0 hr1).mono ?_; rintro e1 w1 ⟨rfl, rfl⟩)
  | (go_at_call_of 113 (Value.int IntKind.i64 lo); refine (sis_yes lo _ l0 l2).mono ?_; rintro e2 w2 ⟨rfl, rfl⟩) | (go_at_call 113; refine (sis_yes hi _ m0 m1).mono ?_; rintro e2 w2 ⟨rfl, rfl⟩)
  | (go_at_call 114; refine (first_any b g room (lo - 1) rs _ HW).mono ?_; rintro e3 w3 ⟨rfl, hb3⟩; rw [HF.out]; have HW3 := HW.below hb3; have hx33 := (only_of_below hb3 (S := [])).blk hx3 (by simp); have hx53 := (only_of_below hb3 (S := [])).blk hx5 (by simp); have hW3 := bw_below' hW0 hb3; have d3 : w3.cell? ⟨w.heap.size, 0, none⟩ = some (.pointer (some ⟨b, 0, none⟩)) := hx33.cell 0; have d5 : w3.cell? ⟨w.heap.size + 1, 0, none⟩ = some (ZI ZQ hi) := hx53.cell 0; obtain ⟨a3, k3, s0, s1, hrow3, hB3, hown3, hat3⟩ := HW3.cells; have HAT3 := hide hat3; have HOWN3 := hide hown3; have HROW3 := hide hrow3; clear hat3 hown3 hrow3)
  | (go_at_call 115; refine (search_set b _ _ g room hi rs _ HW3 hx33 hx53 m0 m1).mono ?_; rintro e4 w4 ⟨rfl, hb4⟩; rw [HU.out]; have HW4 := HW3.below hb4; have hx34 := ((only_of_below hb4 (S := [])).blk hx33 (by simp)); have hx54 := ((only_of_below hb4 (S := [])).blk hx53 (by simp)); have hW4 := bw_below' hW3 hb4; have f3 : w4.cell? ⟨w.heap.size, 0, none⟩ = some (.pointer (some ⟨b, 0, none⟩)) := hx34.cell 0; have f5 : w4.cell? ⟨w.heap.size + 1, 0, none⟩ = some (ZI ZQ hi) := hx54.cell 0; have hl5 := hx54.lt; have hl3 := hx34.lt))
 go_cut [] (fun wc => IsSet wc b g room rs ∧ Blk wc w.heap.size 76 #[.pointer (some ⟨b, 0, none⟩)] ∧ Blk wc (w.heap.size + 1) 3 #[ZI ZQ hi] ∧ Blk wc w4.heap.size 93 #[ZI ZQ J.lo, ZI ZQ J.hi] ∧ Below w.heap.size w wc)
 case first =>
  have hb44 := HW4.lt.1
  have hg44 := fun k e => (HW4.lt.2 k e).1
  have h9 := Blk.new w4 93 #[ZI ZQ lo, ZI ZQ hi]
  have HW9 := HW4.alloc (.cells #[ZI ZQ lo, ZI ZQ hi] 93)
  have hx39 := hx34.alloc (.cells #[ZI ZQ lo, ZI ZQ hi] 93)
  have hx59 := hx54.alloc (.cells #[ZI ZQ lo, ZI ZQ hi] 93)
  have hW9 := bw_alloc' hW4 (.cells #[ZI ZQ lo, ZI ZQ hi] 93)
  clear HW3 hx33 hx53 hW3 HW4 hx34 hx54 hW4 f3 f5 d3 d5 hb4 hb3 HW hx3 hx5 hW0 s0 s1
  by_cases hlt : f < u
  ·obtain ⟨m, rfl⟩ : ∃ m, u = m + 1 := ⟨u - 1, by omega⟩
   obtain ⟨x, hx⟩ : ∃ x, rs[f]? = some x := ⟨_, List.getElem?_eq_getElem (by omega)⟩
   obtain ⟨y, hy⟩ : ∃ y, rs[m]? = some y := ⟨_, List.getElem?_eq_getElem (by omega)⟩
   have e : J = ⟨min lo x.lo, max hi y.hi⟩ := by rw [← HJ.out]; unfold joined; rw [if_pos hlt, atR_some hx, Nat.add_sub_cancel, atR_some hy]
   refine name_world (fun W => IsSet W b g room rs ∧ Blk W w.heap.size 76 #[.pointer (some ⟨b, 0, none⟩)] ∧ Blk W (w.heap.size + 1) 3 #[ZI ZQ hi] ∧ Blk W w4.heap.size 93 #[ZI ZQ lo, ZI ZQ hi] ∧ Below w.heap.size w W) ⟨HW9, hx39, hx59, h9, hW9⟩ ?_
   clear HW9 hx39 hx59 h9 hW9
   rintro W ⟨HW9, hx39, hx59, h9, hW9⟩
   obtain ⟨a9, k9, q0, q1, hv9, _, _, hat9⟩ := HW9.cells
   obtain ⟨k, rfl, hk, zx0, zx1⟩ := hat9 f x hx
   obtain ⟨k', hk', _, zy0, zy1⟩ := hat9 m y hy
   cases hk'
   clear hat9
   obtain ⟨X, hX⟩ : ∃ X, w4.heap.size = X := ⟨_, rfl⟩
   have hk44 := hg44 k hv9.symm
   have hg45 := hg44
   rw [hX] at h9 hb44 hl3 hl5 hk44 hg45 ⊢
   clear hg44
   have HXX := hide hX
   clear hX
   obtain ⟨X3, hX3⟩ : ∃ X, w.heap.size = X := ⟨_, rfl⟩
   obtain ⟨X5, hX5⟩ : ∃ X, X3 + 1 = X := ⟨_, rfl⟩
   rw [hX3] at hx39 hx59 hl3 hl5 hW9 ⊢
   rw [hX5] at hx59 hl5 ⊢
   have b1 : (0 : Int) ≤ (f : Int) := by omega
   have b2 : (f : Int) < (rs.length : Int) := by omega
   have b3 : (0 : Int) ≤ (m : Int) := by omega
   have b4 : (m : Int) < (rs.length : Int) := by omega
   have hwm : IntKind.i64.wrap (m : Int) = (m : Int) := by rw [IntKind.wrap_i64]; omega
   have hwn : IntKind.i64.wrap ((m : Int) + 1 - 1) = (m : Int) := by rw [IntKind.wrap_i64]; omega
   have hwo : IntKind.i64.wrap (((m + 1 : Nat) : Int) - 1) = (m : Int) := by rw [IntKind.wrap_i64]; omega
   have hmt : (m : Int).toNat = m := by omega
   have hP : (if x.lo < lo then x.lo else lo) = J.lo := by rw [e]; show _ = min lo x.lo; split <;> omega
   have hQ : (if hi < y.hi then y.hi else hi) = J.hi := by rw [e]; show _ = max hi y.hi; split <;> omega
   clear e
   have HX := hide hx
   have HY := hide hy
   have HX3 := hide hX3
   have HX5 := hide hX5
   clear hx hy hX3 hX5
   have hlt9 := h9.lt
   have q3 := hx39.cell 0
   have q5 := hx59.cell 0
   have y0 := h9.cell 0
   have y1 := h9.cell 1
   have y2 := h9.frozen 0
   have y3 := h9.frozen 1
   have n3 : X3 ≠ X := by omega
   have n5 : X5 ≠ X := by omega
   have nb : b ≠ X := by omega
   have nk : k ≠ X := by omega
   have N3 := hide n3
   have N5 := hide n5
   have NB := hide nb
   have NK := hide nk
   clear n3 n5 nb nk
   go_wp2_with fail
   go_region_held3 (fun w' => w'.cell? ⟨X3, 0, none⟩ = some (.pointer (some ⟨b, 0, none⟩)) ∧ w'.cell? ⟨X5, 0, none⟩ = some (ZI ZQ hi) ∧ w'.cell? ⟨b, 1, none⟩ = some (.slice (some ⟨k, 0, none⟩) rs.length k9) ∧ w'.cell? ⟨k, f * 2, none⟩ = some (ZI ZQ x.lo) ∧ w'.cell? ⟨k, m * 2 + 1, none⟩ = some (ZI ZQ y.hi)) (first | exact ⟨q3, q5, q1, zx0, zy1⟩ | exact ⟨cfar (cfar q3 N3.out) N3.out, cfar (cfar q5 N5.out) N5.out, cfar (cfar q1 NB.out) NB.out, cfar (cfar zx0 NK.out) NK.out, cfar (cfar zy1 NK.out) NK.out⟩) (fail)
   all_goals
    go_wp2_with fail
    have hq1 := hW9.size
    have n3 := N3.out
    have n5 := N5.out
    have nb := NB.out
    have e5 := HX5.out
    have e3 := HX3.out
    have eX := HXX.out
    subst e5
    subst e3
    subst eX
    go_meet
    refine (fun (hO : Only [w4.heap.size] W _) h9' => ⟨HW9.only hO (by simpa using nb) (fun k' e => by rw [← hv9] at e; cases e; simpa using NK.out), hO.blk hx39 (by simpa using n3), hO.blk hx59 (by simpa using n5), h9', hW9.trans (hO.below (by simp; omega) (by omega))⟩) ?_ ?_
    ·repeat (first | with_reducible refine Only.setCell ?_ (.inl (by simp)) _ | with_reducible refine Only.drewN ?_ _ | with_reducible refine Only.drew ?_)
     exact Only.refl _ _
    ·exact (h9.set 0 (ZI ZQ J.lo)).set 1 (ZI ZQ J.hi)
  ·have e : J = ⟨lo, hi⟩ := by rw [← HJ.out]; unfold joined; rw [if_neg hlt]
   subst e
   go_wp2_with fail
   go_meet
   exact ⟨HW9, hx39, hx59, h9, hW9⟩
 case rest =>
  have hbx := hW4.size
  clear HW3 hx33 hx53 hW3 HW4 hx34 hx54 hW4 f3 f5 d3 d5 hb4 hb3 HW hx3 hx5 hW0 s0 s1
  obtain ⟨HWc, hx3, hx5, h9, hWc⟩ := hcut
  have hlen2 : (room : Int) < (rs.length : Int) - ((u : Int) - (f : Int)) + 1 := by have := addR_length (lo := lo) (hi := hi) hgood l1; rw [HF.out, HU.out] at this; omega
  obtain ⟨ac, kc, q0, q1, hvc, hBc, hownc, _⟩ := HWc.cells
  have q3 := hx3.cell 0
  have q5 := hx5.cell 0
  have y0 := h9.cell 0
  have y1 := h9.cell 1
  have hwa : IntKind.i64.wrap ((u : Int) - (f : Int)) = (u : Int) - (f : Int) := by rw [IntKind.wrap_i64]; omega
  have hwb : IntKind.i64.wrap ((rs.length : Int) - ((u : Int) - (f : Int))) = (rs.length : Int) - ((u : Int) - (f : Int)) := by rw [IntKind.wrap_i64]; omega
  have hwc : IntKind.i64.wrap ((rs.length : Int) - ((u : Int) - (f : Int)) + 1) = (rs.length : Int) - ((u : Int) - (f : Int)) + 1 := by rw [IntKind.wrap_i64]; omega
  have HLL := hide hlen2
  have HV := hide hvc
  clear hvc
  go_wp2_with fail
  go_quiet (fail)
  go_wp2_with fail
  go_ret
  exact ⟨rfl, by first | exact below_drewN hWc _ | exact hWc⟩
end Go.Proofs.YtgicljeedegncaaGreat

namespace Go.Proofs.YtgicljeedegncaaGreat
open List renaming getElem?_toArray → ZG
open Go.Value renaming int → ZI
open Go.IntKind renaming i64 → ZQ
set_option linter.unusedSimpArgs false
set_option linter.unusedVariables false
open Go.RowKit

/-- A set of a call's own. -/
structure SAt (w W : World) (b : Nat) (g : Option Nat) (room : Nat) (rs : List Rg) : Prop where
 set : IsSet W b g room rs
 nb : w.heap.size ≤ b
 ng : ∀ k, g = some k → w.heap.size ≤ k
 below : Below w.heap.size w W
section
variable {w W w' : World} {b room : Nat} {g : Option Nat} {rs ys : List Rg} {e : Ending}
end
theorem rgat_new {w : World} {k t : Nat} {cs : Array Value} {rs : List Rg} (h : Blk w k t cs) (e : cs = (rgsCells rs).toArray) : RgAt w (some ⟨k, 0, none⟩) rs := fun i r hi => by
 subst e
 refine ⟨k, rfl, h.lt, ?_, ?_⟩
 ·rw [h.cell, ZG]
  unfold rgsCells
  exact (flat_cell rgCells 2 rgCells_length rs i 0 (by omega)).trans (by rw [hi]; rfl)
 ·rw [h.cell, ZG]
  unfold rgsCells
  exact (flat_cell rgCells 2 rgCells_length rs i 1 (by omega)).trans (by rw [hi]; rfl)

end Go.Proofs.YtgicljeedegncaaGreat

namespace Go.Proofs.YtgicljeedegncaaGreat
open List renaming getElem?_toArray → ZG
open Go.Value renaming int → ZI
open Go.IntKind renaming i64 → ZQ
open Go.ChangeShapes Go.WideShapes Go.Deep Go.RowKit

section
variable {H : Type} {enc : TypeId × Value → H} {P : Program} {w : World} {base : Nat} {spare : Nat → Bool} {held : Bool}
end

/-- A slice of records of nf integers that came in. -/
def RecsAt (w : World) (a : Option Addr) (len nf : Nat) : Prop :=
 len ≤ 9223372036854775807 ∧ (0 < len → ∃ xb xo, a = some ⟨xb, xo, none⟩ ∧ xb < w.heap.size ∧ ∀ i j, i < len → j < nf → ∃ z, w.cell? ⟨xb, xo + (i * nf + j), none⟩ = some (ZI ZQ z) ∧ -9223372036854775808 ≤ z ∧ z ≤ 9223372036854775807)

section
variable {H : Type} {enc : TypeId × Value → H} {P : Program} {w : World} {base : Nat} {spare : Nat → Bool} {held : Bool}
end
end Go.Proofs.YtgicljeedegncaaGreat

namespace Go.Proofs.YtgicljeedegncaaGreat
open List renaming getElem?_toArray → ZG
open Go.Value renaming int → ZI
open Go.IntKind renaming i64 → ZQ
open Go.ChangeShapes Go.WideShapes Go.Deep Go.RowKit

/-- A cell's kind: an integer or a bool. -/
abbrev FK := Option IntKind
def flatFields (rec : TypeId → Option (List FK)) (P : Program) : List Field → Nat → Option (List FK)
 | [], _ => some []
 | f :: fs, off => match rec f.type with
  | some ks => if f.offset = off ∧ P.cellsOf f.type = ks.length then match flatFields rec P fs (off + ks.length) with
    | some r => some (ks ++ r)
    | none => none
   else none
  | none => none
/-- The kinds of a type's cells, where they are all plain. -/
def flatKinds (P : Program) : Nat → TypeId → Option (List FK)
 | 0, _ => none
 | n + 1, t => match P.underlying t with
  | some (.int k) => some [some k]
  | some .bool => some [none]
  | some (.struct fs) => flatFields (flatKinds P n) P fs.toList 0
  | some (.array k e) => match flatKinds P n e with
   | some ks => if P.cellsOf e = ks.length then some (List.replicate k ks).flatten else none
   | none => none
  | _ => none
/-- What such a cell holds. -/
def FGood (k : FK) (v : Option Value) : Prop := match k with
 | some i => ∃ z, v = some (.int i z) ∧ (Lit.int i z).wf = true
 | none => ∃ b, v = some (.bool b)
section
variable {H : Type} {enc : TypeId × Value → H} {P : Program} {w : World} {base : Nat} {spare : Nat → Bool} {held : Bool}
/-- A slice of plain records that came in. -/
def RowsK (w : World) (a : Option Addr) (len : Nat) (ks : List FK) : Prop :=
 len ≤ 9223372036854775807 ∧ (0 < len → ∃ xb xo, a = some ⟨xb, xo, none⟩ ∧ xb < w.heap.size ∧ ∀ i, i < len → ∀ (j : Nat) (k : FK), ks[j]? = some k → FGood k (w.cell? ⟨xb, xo + (i * ks.length + j), none⟩))

end
end Go.Proofs.YtgicljeedegncaaGreat

namespace Go.Proofs.YtgicljeedegncaaGreat
open List renaming getElem?_toArray → ZG
open Go.Value renaming int → ZI
open Go.IntKind renaming i64 → ZQ
set_option linter.unusedVariables false
open Go.RowKit

/-- A set's place and content. -/
structure SD where
 b : Nat
 g : Option Nat
 room : Nat
 rs : List Rg
def SD.is (d : SD) (w W : World) : Prop := SAt w W d.b d.g d.room d.rs
/-- Two sets share no block. -/
def ApartS (d e : SD) : Prop := d.b ≠ e.b ∧ d.g ≠ some e.b ∧ e.g ≠ some d.b ∧ (∀ k, d.g = some k → e.g ≠ some k)
def AllS (w W : World) (L : List SD) : Prop := (∀ d ∈ L, d.is w W) ∧ L.Pairwise ApartS
section
variable {w W w' : World} {d e : SD} {L : List SD} {x : Ending} {ys : List Rg}
/-- Ranges that lie apart from a set. -/
def RgFree (W : World) (b : Nat) (g : Option Nat) (a : Option Addr) (rs : List Rg) : Prop := RgAt W a rs ∧ ∀ k, a = some ⟨k, 0, none⟩ → b ≠ k ∧ g ≠ some k ∧ k < W.heap.size
end

/-- Rows of two numbers that came in. -/
def PairsAt (w : World) (a : Option Addr) (len : Nat) (X Y : Nat → Int) : Prop :=
 len ≤ 9223372036854775807 ∧ ∀ i, i < len → ∃ xb xo, a = some ⟨xb, xo, none⟩ ∧ xb < w.heap.size ∧ w.cell? ⟨xb, xo + i * 2, none⟩ = some (ZI ZQ (X i)) ∧ w.cell? ⟨xb, xo + (i * 2 + 1), none⟩ = some (ZI ZQ (Y i)) ∧
  -9223372036854775808 ≤ X i ∧ X i ≤ 9223372036854775807 ∧ -9223372036854775808 ≤ Y i ∧ Y i ≤ 9223372036854775807
end Go.Proofs.YtgicljeedegncaaGreat

namespace Go.Proofs.YtgicljeedegncaaGreat
open List renaming getElem?_toArray → ZG
open Go.Value renaming int → ZI
open Go.IntKind renaming i64 → ZQ
open Go.RowKit

theorem own_slice {w : World} {base e size n : Nat} {v : Value} {xs : List Value} (h : w.ownsRow base e size v n xs) : ∃ A c, v = .slice A n c := by
 rcases h.2 with ⟨h0, h1⟩ | ⟨g, cap, cur, hv, _⟩
 ·exact ⟨none, 0, by rw [h0, h1]⟩
 ·exact ⟨_, _, hv⟩
theorem pk_one {ps : List Pk} : ∀ u ∈ ps.flatMap Pk.cells, u.oneCell' = true := by
 intro u hu
 obtain ⟨s, _, hs⟩ := List.mem_flatMap.1 hu
 simp [Pk.cells] at hs
 rcases hs with h | h | h | h | h | h <;> subst h <;> rfl
end Go.Proofs.YtgicljeedegncaaGreat

namespace Go.Proofs.YtgicljeedegncaaGreat
open List renaming getElem?_toArray → ZG
open Go.Value renaming int → ZI
open Go.IntKind renaming i64 → ZQ
open Go.RowKit

/-- The document's log: block m, its room, the last number, its packets. -/
def IsRef (w : World) (m room : Nat) (top : Int) (ps : List Pk) : Prop :=
 room ≤ 256 ∧ ps.length ≤ room ∧ ∃ v, Blk w m 115 #[ZI ZQ room, ZI ZQ top, v] ∧ PkRow w v ps
theorem blk_type_ne {w : World} {g t t' : Nat} {cs cs' : Array Value} (h : Blk w g t cs) (h' : Blk w g t' cs') : t = t' := by
 unfold Blk at h h'
 rw [h] at h'
 injection h' with h'
 injection h'
theorem PkRow.reads {w : World} {a : Option Addr} {n c : Nat} {ps : List Pk} (h : PkRow w (.slice a n c) ps) : Reads w w.heap.size 6 a ps.length (ps.flatMap Pk.cells) := by
 rcases h with ⟨_, rfl⟩ | ⟨g, cap, rest, hv, hb⟩
 ·exact Reads.none_
 ·injection hv with hv
  subst hv
  have hfl := flat_length Pk.cells 6 pkCells_length ps
  exact ⟨hfl, fun _ => ⟨_, rfl, hb.lt, fun j u hu => by
   rw [add_at, hb.cell, ZG, List.getElem?_append_left (List.getElem?_eq_some_iff.1 hu).1]; exact hu⟩⟩
theorem PkRow.far {w w' : World} {S : List Nat} {v : Value} {ps : List Pk} (h : PkRow w v ps) (ho : Only S w w') (hS : ∀ x ∈ S, ∃ t cs, Blk w x t cs ∧ t ≠ 40) : PkRow w' v ps := by
 rcases h with h | ⟨g, cap, rest, hv, hb⟩
 ·exact .inl h
 ·exact .inr ⟨g, cap, rest, hv, ho.blk hb (fun hm => by obtain ⟨t, cs, h1, h2⟩ := hS g hm; exact h2 (blk_type_ne h1 hb))⟩
theorem IsRef.only {S : List Nat} {w w' : World} {m room : Nat} {top : Int} {ps : List Pk} (h : IsRef w m room top ps) (ho : Only S w w') (hS : ∀ x ∈ S, ∃ t cs, Blk w x t cs ∧ t ≠ 40 ∧ t ≠ 115) : IsRef w' m room top ps := by
 obtain ⟨h1, h2, v, hB, hv⟩ := h
 exact ⟨h1, h2, v, ho.blk hB (fun hm => by obtain ⟨t, cs, k1, _, k2⟩ := hS m hm; exact k2 (blk_type_ne k1 hB)), hv.far ho (fun x hx => by obtain ⟨t, cs, k1, k2, _⟩ := hS x hx; exact ⟨t, cs, k1, k2⟩)⟩
theorem IsRef.below {w w' : World} {m room : Nat} {top : Int} {ps : List Pk} (h : IsRef w m room top ps) (ho : Below w.heap.size w w') : IsRef w' m room top ps := h.only (S := []) (only_of_below ho) (by simp)
theorem IsRef.alloc {w : World} {m room : Nat} {top : Int} {ps : List Pk} (h : IsRef w m room top ps) (o : Obj) : IsRef (w.alloc o) m room top ps := h.below ((Below.refl _ _).alloc (Nat.le_refl _) o)
theorem IsRef.drewN {w : World} {m room : Nat} {top : Int} {ps : List Pk} (h : IsRef w m room top ps) (n : Nat) : IsRef (w.drewN n) m room top ps := h
theorem IsRef.lt {w : World} {m room : Nat} {top : Int} {ps : List Pk} (h : IsRef w m room top ps) : m < w.heap.size := by obtain ⟨_, _, _, hB, _⟩ := h; exact hB.lt
theorem IsRef.blk {w : World} {m room : Nat} {top : Int} {ps : List Pk} (h : IsRef w m room top ps) : ∃ cs, Blk w m 115 cs := by obtain ⟨_, _, _, hB, _⟩ := h; exact ⟨_, hB⟩

/-- What Get answers. -/
def getOf (n : Int) (ps : List Pk) : Pk × Bool := match ps.find? (fun p => p.num == n) with
 | some p => (p, true)
 | none => (Pk.zero, false)
theorem getOf_cons (n : Int) (p : Pk) (ps : List Pk) : getOf n (p :: ps) = if p.num = n then (p, true) else getOf n ps := by
 unfold getOf
 rw [List.find?_cons]
 by_cases h : p.num = n
 ·have : (p.num == n) = true := by simpa using h
  rw [this, if_pos h]
 ·have : (p.num == n) = false := by simpa using h
  rw [this, if_neg h]
theorem drop_cons {α : Type} {l : List α} {k : Nat} {x : α} (h : l[k]? = some x) : l.drop k = x :: l.drop (k + 1) := by
 obtain ⟨hl, he⟩ := List.getElem?_eq_some_iff.1 h
 rw [List.drop_eq_getElem_cons hl, he]

set_option maxHeartbeats 1000000 in
theorem rget_any (m room : Nat) (top n : Int) (ps : List Pk) (p : Pk) (b : Bool) (w : World) (hR : IsRef w m room top ps) (hg : getOf n ps = (p, b)) :
  Calls Tryz.prog 126 #[.pointer (some ⟨m, 0, none⟩), ZI ZQ n] w fun e w' => e = .returned (.tuple #[.agg #[ZI ZQ p.num, ZI ZQ p.time, ZI ZQ p.size, .bool p.el, .bool p.fl, .bool p.ect], .bool b]) ∧ Below w.heap.size w w' := by
 obtain ⟨hr, hl, v, hB, hv⟩ := hR
 obtain ⟨a, c, rfl⟩ := hv.slice
 have hm := hB.lt
 have c2 : w.cell? ⟨m, 2, none⟩ = some (.slice a ps.length c) := hB.cell 2
 obtain ⟨N, hN⟩ : ∃ N, ps.length = N := ⟨_, rfl⟩
 rw [hN] at hv c2 hl
 have HV := hide hv
 have HN := hide hN
 have HG := hide hg
 clear hv hN hg
 go_enter Tryz.func126, Tryz.ntmps126
 go_wp2
 go_loop [6] (fun s6 => ∃ k : Nat, s6 = ZI ZQ k ∧ k ≤ N ∧ getOf n (ps.drop k) = (p, b)) (fun i => N - (intOf i).toNat)
 case atStart => exact ⟨0, rfl, Nat.zero_le _, HG.out⟩
 case round =>
  obtain ⟨k, rfl, hk, hg⟩ := hrel
  by_cases hlt : k < N
  ·have hkp : k < ps.length := by rw [HN.out]; exact hlt
   obtain ⟨g, rfl, x, hx, a0, a1, a2, a3, a4, a5⟩ := HV.out.at_ hkp
   have hgl : g < w.heap.size := by
    rcases HV.out with ⟨h0, _⟩ | ⟨g', _, _, h0, h1⟩
    ·cases h0
    ·cases h0; exact h1.lt
   rw [drop_cons hx, getOf_cons] at hg
   by_cases he : x.num = n
   ·rw [if_pos he] at hg
    cases hg
    have HE := hide he
    have HX := hide hx
    have hbe : (p.num == n) = true := by simpa using he
    clear he hx
    go_wp2
    refine bodyPost_ret (v := .tuple #[.agg #[ZI ZQ p.num, ZI ZQ p.time, ZI ZQ p.size, .bool p.el, .bool p.fl, .bool p.ect], .bool true]) (by simp [results, Tryz.results126, go_sem]) rfl ⟨rfl, ?_⟩
    go_grown
   ·rw [if_neg he] at hg
    have HG2 := hide hg
    have HX := hide hx
    have hbe : (x.num == n) = false := by simpa using he
    clear he hx hg
    go_wp2
    go_round
    case rel => exact ⟨k + 1, by go_num, by omega, HG2.out⟩
    case measure => simp [intOf]; omega
  ·obtain rfl : k = N := by omega
   rw [List.drop_eq_nil_of_le (by rw [HN.out]; exact Nat.le_refl _)] at hg
   cases hg
   clear hlt
   go_wp2
   refine bodyPost_ret (v := .tuple #[.agg #[ZI ZQ 0, ZI ZQ 0, ZI ZQ 0, .bool false, .bool false, .bool false], .bool false]) (by simp [results, Tryz.results126, go_sem]) rfl ⟨rfl, ?_⟩
   go_grown
end Go.Proofs.YtgicljeedegncaaGreat

namespace Go.Proofs.YtgicljeedegncaaGreat
open List renaming getElem?_toArray → ZG
open Go.Value renaming int → ZI
open Go.IntKind renaming i64 → ZQ
open Go.RowKit

/-- What New leaves. -/
def RNewPost (w : World) (room : Nat) (e : Ending) (w' : World) : Prop :=
 ∃ m, e = .returned (.tuple #[.pointer (some ⟨m, 0, none⟩), ZI ZQ 0]) ∧ IsRef w' m room (-1) [] ∧ w.heap.size ≤ m ∧ Below w.heap.size w w'
set_option maxHeartbeats 1000000 in
theorem rnew_ok (room : Nat) (w : World) (h1 : 1 ≤ room) (h2 : room ≤ 256) : Calls Tryz.prog 70 #[ZI ZQ room] w (RNewPost w room) := by
 go_enter Tryz.func70, Tryz.ntmps70
 go_wp2
 go_ret2
 exact ⟨w.heap.size, rfl, ⟨h2, by simp, _, Blk.new _ _ _, .inl ⟨rfl, rfl⟩⟩, Nat.le_refl _, (Below.refl _ _).alloc (Nat.le_refl _) _⟩
set_option maxHeartbeats 1000000 in
theorem rnew_no (room : Int) (w : World) (h : room < 1 ∨ 256 < room) :
  Calls Tryz.prog 70 #[ZI ZQ room] w fun e w' => e = .returned (.tuple #[.pointer none, ZI ZQ 2]) ∧ w = w' := by
 by_cases h1 : room < 1
 ·go_enter Tryz.func70, Tryz.ntmps70
  go_wp2
  go_ret2
  exact ⟨rfl, rfl⟩
 ·have h2 : 256 < room := by omega
  have h3 : 1 ≤ room := by omega
  clear h
  go_enter Tryz.func70, Tryz.ntmps70
  go_wp2
  go_ret2
  exact ⟨rfl, rfl⟩

set_option maxHeartbeats 1000000 in
theorem rmay_yes (n t s : Int) (e f c : Bool) (w : World) (h : (Pk.mk n t s e f c).may) :
  Calls Tryz.prog 122 #[.agg #[ZI ZQ n, ZI ZQ t, ZI ZQ s, .bool e, .bool f, .bool c]] w fun e' w' => e' = .returned (.bool true) ∧ Below w.heap.size w w' := by
 obtain ⟨h1, h2, h3, h4, h5, h6⟩ := h
 simp only at h1 h2 h3 h4 h5 h6
 go_enter Tryz.func122, Tryz.ntmps122
 go_wp2
 go_ret
 exact ⟨rfl, (Below.refl _ _).alloc (Nat.le_refl _) _⟩
set_option maxHeartbeats 4000000 in
theorem rmay_no (n t s : Int) (e f c : Bool) (w : World) (h : ¬ (Pk.mk n t s e f c).may) :
  Calls Tryz.prog 122 #[.agg #[ZI ZQ n, ZI ZQ t, ZI ZQ s, .bool e, .bool f, .bool c]] w fun e' w' => e' = .returned (.bool false) ∧ Below w.heap.size w w' := by
 have H := hide h
 clear h
 by_cases h1 : 0 ≤ n
 ·by_cases h2 : n ≤ 9007199254740991
  ·by_cases h3 : 0 ≤ t
   ·by_cases h4 : t ≤ 9007199254740991
    ·by_cases h5 : 1 ≤ s
     ·have h6 : ¬ s ≤ 65535 := fun h6 => H.out ⟨h1, h2, h3, h4, h5, h6⟩
      go_enter Tryz.func122, Tryz.ntmps122
      go_wp2
      go_ret
      exact ⟨rfl, (Below.refl _ _).alloc (Nat.le_refl _) _⟩
     ·go_enter Tryz.func122, Tryz.ntmps122
      go_wp2
      go_ret
      exact ⟨rfl, (Below.refl _ _).alloc (Nat.le_refl _) _⟩
    ·go_enter Tryz.func122, Tryz.ntmps122
     go_wp2
     go_ret
     exact ⟨rfl, (Below.refl _ _).alloc (Nat.le_refl _) _⟩
   ·go_enter Tryz.func122, Tryz.ntmps122
    go_wp2
    go_ret
    exact ⟨rfl, (Below.refl _ _).alloc (Nat.le_refl _) _⟩
  ·go_enter Tryz.func122, Tryz.ntmps122
   go_wp2
   go_ret
   exact ⟨rfl, (Below.refl _ _).alloc (Nat.le_refl _) _⟩
 ·go_enter Tryz.func122, Tryz.ntmps122
  go_wp2
  go_ret
  exact ⟨rfl, (Below.refl _ _).alloc (Nat.le_refl _) _⟩

set_option maxHeartbeats 1000000 in
theorem rall_any (m room : Nat) (top : Int) (ps : List Pk) (w : World) (hR : IsRef w m room top ps) :
  Calls Tryz.prog 80 #[.pointer (some ⟨m, 0, none⟩)] w (PksPost w ps) := by
 obtain ⟨hr, hl, v, hB, hv⟩ := hR
 obtain ⟨a, c, rfl⟩ := hv.slice
 have hm := hB.lt
 have c2 : w.cell? ⟨m, 2, none⟩ = some (.slice a ps.length c) := hB.cell 2
 obtain ⟨i0, hi, hz0, hz1, hz2⟩ := info_parts pk_info
 go_enter Tryz.func80, Tryz.ntmps80
 go_wp2_with (at_builtin; refine wpList_append_any _ rfl (.tmp 4) (.tmp 8) _ rfl w.heap.size 40 i0 _ 6 32 Tryz.underlying37 hi hz0 hz1 hz2 rfl (by decide) (.slice none 0 0) 0 [] rfl (by exact ⟨by simp, .inl ⟨rfl, rfl⟩⟩) w.heap.size a ps.length c (ps.flatMap Pk.cells) rfl (by exact hv.reads) pk_one (by unfold maxLen; omega) (by omega) (Nat.le_refl _) ?_; intro v' w1 hown1 hg1 hat1)
 go_ret
 rw [Nat.zero_add, List.nil_append] at hown1
 exact ⟨v', rfl, hown1, Below.grown (Below.refl _ _) hg1 (Nat.le_refl _) (fun k hk => by simp [Value.ownBlock] at hk)⟩

theorem own_push {w : World} {base : Nat} {v : Value} {ps : List Pk} {p : Pk} (h : w.ownsRow base 40 6 v (ps.length + 1) (ps.flatMap Pk.cells ++ p.cells)) : w.ownsRow base 40 6 v (ps ++ [p]).length ((ps ++ [p]).flatMap Pk.cells) := by
 have e1 : (ps ++ [p]).length = ps.length + 1 := by simp
 have e2 : (ps ++ [p]).flatMap Pk.cells = ps.flatMap Pk.cells ++ p.cells := by simp
 rw [e1, e2]
 exact h
/-- What Put leaves where it takes the packet. -/
def RPutPost (w : World) (m room : Nat) (p : Pk) (ps : List Pk) (e : Ending) (w' : World) : Prop :=
 e = .returned (ZI ZQ 0) ∧ IsRef w' m room p.num (ps ++ [p]) ∧ Only [m] w w'

set_option maxHeartbeats 2000000 in
theorem rput_no (m room : Nat) (top n t s : Int) (e f c : Bool) (ps : List Pk) (w : World) (_ : IsRef w m room top ps) (h : ¬ (Pk.mk n t s e f c).may) :
  Calls Tryz.prog 74 #[.pointer (some ⟨m, 0, none⟩), .agg #[ZI ZQ n, ZI ZQ t, ZI ZQ s, .bool e, .bool f, .bool c]] w fun e' w' => e' = .returned (ZI ZQ 2) ∧ Below w.heap.size w w' := by
 have HN := hide h
 clear h
 go_enter Tryz.func74, Tryz.ntmps74
 go_wp2_with (go_at_call 122; refine (rmay_no _ _ _ _ _ _ _ HN.out).mono ?_; rintro e1 w1 ⟨rfl, hb1⟩)
 go_ret
 exact ⟨rfl, ((Below.refl _ _).alloc (Nat.le_refl _) _).trans (hb1.mono (by simp))⟩

set_option maxHeartbeats 2000000 in
theorem rput_low (m room : Nat) (top n t s : Int) (e f c : Bool) (ps : List Pk) (w : World) (hR : IsRef w m room top ps) (h : (Pk.mk n t s e f c).may) (hn : n ≤ top) :
  Calls Tryz.prog 74 #[.pointer (some ⟨m, 0, none⟩), .agg #[ZI ZQ n, ZI ZQ t, ZI ZQ s, .bool e, .bool f, .bool c]] w fun e' w' => e' = .returned (ZI ZQ 60) ∧ Below w.heap.size w w' := by
 obtain ⟨hr, hl, v, hB, hv⟩ := hR
 have hm := hB.lt
 have c1 : w.cell? ⟨m, 1, none⟩ = some (ZI ZQ top) := hB.cell 1
 have HN := hide h
 clear h
 go_enter Tryz.func74, Tryz.ntmps74
 go_wp2_with (go_at_call 122; refine (rmay_yes _ _ _ _ _ _ _ HN.out).mono ?_; rintro e1 w1 ⟨rfl, hb1⟩; obtain ⟨hc1, hf1⟩ := bcell hb1)
 go_quiet (fail)
 go_wp2
 go_ret
 exact ⟨rfl, below_drewN (((Below.refl _ _).alloc (Nat.le_refl _) _).trans (hb1.mono (by simp))) _⟩

set_option maxHeartbeats 2000000 in
theorem rput_full (m room : Nat) (top n t s : Int) (e f c : Bool) (ps : List Pk) (w : World) (hR : IsRef w m room top ps) (h : (Pk.mk n t s e f c).may) (hn : top < n) (hfull : ps.length = room) :
  Calls Tryz.prog 74 #[.pointer (some ⟨m, 0, none⟩), .agg #[ZI ZQ n, ZI ZQ t, ZI ZQ s, .bool e, .bool f, .bool c]] w fun e' w' => e' = .returned (ZI ZQ 5) ∧ Below w.heap.size w w' := by
 obtain ⟨hr, hl, v, hB, hv⟩ := hR
 obtain ⟨a, c', rfl⟩ := hv.slice
 have hm := hB.lt
 have c0 : w.cell? ⟨m, 0, none⟩ = some (ZI ZQ room) := hB.cell 0
 have c1 : w.cell? ⟨m, 1, none⟩ = some (ZI ZQ top) := hB.cell 1
 have c2 : w.cell? ⟨m, 2, none⟩ = some (.slice a ps.length c') := hB.cell 2
 rw [hfull] at c2
 have HN := hide h
 have HF := hide hfull
 clear h hfull
 go_enter Tryz.func74, Tryz.ntmps74
 go_wp2_with (go_at_call 122; refine (rmay_yes _ _ _ _ _ _ _ HN.out).mono ?_; rintro e1 w1 ⟨rfl, hb1⟩; obtain ⟨hc1, hf1⟩ := bcell hb1)
 go_quiet (fail)
 go_wp2
 go_quiet (fail)
 go_wp2
 go_ret
 exact ⟨rfl, below_drewN (below_drewN (((Below.refl _ _).alloc (Nat.le_refl _) _).trans (hb1.mono (by simp))) _) _⟩

set_option maxRecDepth 100000 in
set_option maxHeartbeats 4000000 in
theorem rput_ok (m room : Nat) (top n t s : Int) (e f c : Bool) (ps : List Pk) (w : World) (hR : IsRef w m room top ps) (h : (Pk.mk n t s e f c).may) (hn : top < n) (hfull : ps.length < room) :
  Calls Tryz.prog 74 #[.pointer (some ⟨m, 0, none⟩), .agg #[ZI ZQ n, ZI ZQ t, ZI ZQ s, .bool e, .bool f, .bool c]] w (RPutPost w m room (Pk.mk n t s e f c) ps) := by
 have hR0 := hR
 obtain ⟨hr, hl, v, hB, hv⟩ := hR
 obtain ⟨a, c', rfl⟩ := hv.slice
 obtain ⟨i0, hi, hz0, hz1, hz2⟩ := info_parts pk_info
 have hm := hB.lt
 have hfb := hB.frozen
 have c0 : w.cell? ⟨m, 0, none⟩ = some (ZI ZQ room) := hB.cell 0
 have c1 : w.cell? ⟨m, 1, none⟩ = some (ZI ZQ top) := hB.cell 1
 have c2 : w.cell? ⟨m, 2, none⟩ = some (.slice a ps.length c') := hB.cell 2
 have e5 : ((ps.length : Int) == (room : Int)) = false := by rw [beq_eq_false_iff_ne]; omega
 have HN := hide h
 clear h
 go_enter Tryz.func74, Tryz.ntmps74
 go_wp2_with (go_at_call 122; refine (rmay_yes _ _ _ _ _ _ _ HN.out).mono ?_; rintro e1 w1 ⟨rfl, hb1⟩; have hbx := (only_of_below hb1 (S := [])).blk (Blk.new w _ _) (by simp); have hs1 := hb1.size; have hb2 := ((Below.refl w.heap.size w).alloc (Nat.le_refl _) (.cells #[ZI ZQ n, ZI ZQ t, ZI ZQ s, .bool e, .bool f, .bool c] 40)).trans (hb1.mono (by simp)); obtain ⟨hc1, hf1⟩ := bcell hb1)
 go_quiet (fail)
 go_wp2
 go_quiet (fail)
 go_wp2
 simp only [World.size_alloc] at hs1
 obtain ⟨X, hX⟩ : ∃ X, w.heap.size = X := ⟨_, rfl⟩
 rw [hX] at hbx hs1 ⊢
 have hXm : X ≠ m := by omega
 have hO1 := ((Only.refl [m] w).alloc (.cells #[ZI ZQ n, ZI ZQ t, ZI ZQ s, .bool e, .bool f, .bool c] 40)).trans (only_of_below hb1 (S := [])) (by simp)
 have hB1 := (only_of_below hb1 (S := [])).blk (hB.alloc _) (by simp)
 have hv1 := (hv.below ((Below.refl _ _).alloc (Nat.le_refl _) (.cells #[ZI ZQ n, ZI ZQ t, ZI ZQ s, .bool e, .bool f, .bool c] 40))).below hb1
 refine name_world (fun W => Blk W m 115 #[ZI ZQ room, ZI ZQ n, .slice a ps.length c'] ∧ PkRow W (.slice a ps.length c') ps ∧ Blk W X 40 #[ZI ZQ n, ZI ZQ t, ZI ZQ s, .bool e, .bool f, .bool c] ∧ Only [m] w W)
  ⟨((hB1.drewN _).set 1 _).eq (by simp), hv1.far (S := [m]) (((Only.refl _ _).drewN _).setCell (.inl (by simp)) _) (fun x hx => by simp at hx; subst hx; exact ⟨_, _, hB1, by decide⟩), (hbx.drewN _).far hXm _, (hO1.drewN _).setCell (.inl (by simp)) _⟩ ?_
 clear hB hv hB1 hv1 hbx hO1 hb1 hb2 hc1 hf1 hR0
 rintro W ⟨hB, hv, hbx, hO⟩
 have hXl := hbx.lt
 have hmW := hB.lt
 have x0 : W.cell? ⟨X, 0, none⟩ = some (ZI ZQ n) := hbx.cell 0
 have x1 : W.cell? ⟨X, 1, none⟩ = some (ZI ZQ t) := hbx.cell 1
 have x2 : W.cell? ⟨X, 2, none⟩ = some (ZI ZQ s) := hbx.cell 2
 have x3 : W.cell? ⟨X, 3, none⟩ = some (.bool e) := hbx.cell 3
 have x4 : W.cell? ⟨X, 4, none⟩ = some (.bool f) := hbx.cell 4
 have x5 : W.cell? ⟨X, 5, none⟩ = some (.bool c) := hbx.cell 5
 have hRW : IsRef W m room n ps := ⟨hr, hl, _, hB, hv⟩
 have hHX := hide hX
 clear hX
 go_region_law (first
  | (refine step_append_any _ rfl (.tmp 32) (.tmp 34) _ rfl W.heap.size 40 i0 _ 6 32 Tryz.underlying37 hi hz0 hz1 hz2 rfl (by decide) (.slice a3 ps.length c3) ps.length (ps.flatMap Pk.cells) rfl (by exact hv3.alloc _) (w3.heap.size + 1) (some ⟨w3.heap.size, 0, none⟩) 1 1 (Pk.mk n t s e f c).cells rfl (by exact reads_lit (blk_new_at (by simp)) (by simp) rfl) (by simp [Pk.cells, Value.oneCell']) (by unfold maxLen; omega) (by omega) (by simp; omega) ?_; intro v5 w5 hown5 hg5 hat5; obtain ⟨g5, c5, rfl⟩ := own_form hown5; have hB5 := blk_grown (by exact hB3.alloc _) hg5 (own_ne hv3 hB3 (by decide)); have y2 : w5.cell? ⟨m, 2, none⟩ = some (.slice a ps.length c') := hB5.cell 2; have yf := hB5.frozen; have yl := hB5.lt; have hO5 := (((hO.drew).trans (only_of_below hb3 (S := [])) (by simp)).alloc _).grown hg5 (fun k hk => .inr (Nat.le_trans hO.size (hv3.lt k hk).1)))
  | (refine step_append_any _ rfl (.tmp 32) (.tmp 34) _ rfl _ 40 i0 _ 6 32 Tryz.underlying37 hi hz0 hz1 hz2 rfl (by decide) (.slice a3 ps.length c3) ps.length (ps.flatMap Pk.cells) rfl hv3 w3.heap.size (some ⟨W.heap.size, 0, none⟩) 1 1 (Pk.mk n t s e f c).cells rfl (by exact reads_lit hsrc hsrc.lt rfl) (by simp [Pk.cells, Value.oneCell']) (by unfold maxLen; omega) (by omega) hb3.size ?_; intro v5 w5 hown5 hg5 hat5; obtain ⟨g5, c5, rfl⟩ := own_form hown5; have hB5 := blk_grown (by exact hB3) hg5 (own_ne hv3 hB3 (by decide)); have y2 : w5.cell? ⟨m, 2, none⟩ = some (.slice a ps.length c') := hB5.cell 2; have yf := hB5.frozen; have yl := hB5.lt; have hO5 := (((hO.alloc _).drew).trans (only_of_below hb3 (S := [])) (by simp)).grown hg5 (fun k hk => .inr (Nat.le_trans (hO.alloc _).size (hv3.lt k hk).1)))
  | (go_simp; go_at_call 80; refine (rall_any m room n ps _ ?_).mono ?_; (first | exact hRW.drewN 1 | exact (hRW.alloc _).drewN 1); rintro e3 w3 ⟨v3, rfl, hv3, hb3⟩; obtain ⟨a3, c3, rfl⟩ := own_slice hv3; have hs3 := hb3.size; simp at hs3; have hbx3 := (only_of_below hb3 (S := [])).blk (g := X) (t := 40) (by first | exact hbx.drewN 1 | exact (hbx.alloc _).drewN 1) (by simp); have z0 : w3.cell? ⟨X, 0, none⟩ = some (ZI ZQ n) := hbx3.cell 0; have z1 : w3.cell? ⟨X, 1, none⟩ = some (ZI ZQ t) := hbx3.cell 1; have z2 : w3.cell? ⟨X, 2, none⟩ = some (ZI ZQ s) := hbx3.cell 2; have z3 : w3.cell? ⟨X, 3, none⟩ = some (.bool e) := hbx3.cell 3; have z4 : w3.cell? ⟨X, 4, none⟩ = some (.bool f) := hbx3.cell 4; have z5 : w3.cell? ⟨X, 5, none⟩ = some (.bool c) := hbx3.cell 5; have hB3 := (only_of_below hb3 (S := [])).blk (g := m) (t := 115) (by first | exact hB.drewN 1 | exact (hB.alloc _).drewN 1) (by simp); try have hsrc := (only_of_below hb3 (S := [])).blk ((Blk.new W 40 #[ZI ZQ n, ZI ZQ t, ZI ZQ s, .bool e, .bool f, .bool c]).drewN 1) (by simp)))
 all_goals go_wp2
 all_goals go_ret
 all_goals
  exact ⟨rfl, ⟨hr, by simp; omega, .slice (some ⟨g5, 0, none⟩) (ps.length + 1) c5, (hB5.set 2 _).eq (by simp), own_pkrow (own_push (own_far hown5 (own_ne hown5 hB5 (by decide)) _))⟩, hO5.setCell (.inl (by simp)) _⟩
end Go.Proofs.YtgicljeedegncaaGreat
