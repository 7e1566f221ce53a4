/-
 2 texts in one (SpanAdd2, SpcRep).
-/
import Derived.Test.YtgicljeedegncaaGreatSqSpanAdd
import Derived.Test.YtgicljeedegncaaGreatSqSentParts
import Derived.Test.YtgicljeedegncaaGreatSqSentPut
import Derived.Test.YtgicljeedegncaaGreatSqSpanSame
namespace Go.Proofs.YtgicljeedegncaaGreat
open Go.Value renaming int → ZI
open Go.IntKind renaming i64 → ZQ
set_option linter.unusedSimpArgs false
set_option linter.unusedVariables false
open Go.RowKit

set_option maxRecDepth 100000 in
set_option maxHeartbeats 4000000 in
theorem add_limit (b : Nat) (g : Option Nat) (room : Nat) (lo hi : Int) (rs : List Rg) (w : World) (hS : IsSet w b g room rs) (l0 : 0 ≤ lo) (l1 : lo ≤ hi) (m1 : hi ≤ 9007199254740991) (hroom2 : room < (addR lo hi rs).length) :
  Calls Tryz.prog 63 #[.pointer (some ⟨b, 0, none⟩), ZI ZQ lo, ZI ZQ hi] w fun e w' => e = .returned (ZI ZQ 5) ∧ Below w.heap.size w w' := by
 obtain ⟨hlen, hr1, hroom⟩ := hS.len
 have hgood := hS.good
 have hb := hS.lt.1
 have HW : IsSet ((w.alloc (.cells #[.pointer (some ⟨b, 0, none⟩)] 76)).alloc (.cells #[ZI ZQ hi] 3)) b g room rs := (hS.alloc _).alloc _
 have hW0 : Below w.heap.size w ((w.alloc (.cells #[.pointer (some ⟨b, 0, none⟩)] 76)).alloc (.cells #[ZI ZQ hi] 3)) := ((Below.refl _ _).alloc (Nat.le_refl _) _).alloc (by simp) _
 have hx3 : Blk ((w.alloc (.cells #[.pointer (some ⟨b, 0, none⟩)] 76)).alloc (.cells #[ZI ZQ hi] 3)) w.heap.size 76 #[.pointer (some ⟨b, 0, none⟩)] := (Blk.new w _ _).alloc _
 have hx5 : Blk ((w.alloc (.cells #[.pointer (some ⟨b, 0, none⟩)] 76)).alloc (.cells #[ZI ZQ hi] 3)) (w.heap.size + 1) 3 #[ZI ZQ hi] := blk_new_at (by simp)
 have l2 : lo ≤ 9007199254740991 := by omega
 have m0 : 0 ≤ hi := by omega
 have hnl : ¬ hi < lo := by omega
 have hw1 : IntKind.i64.wrap (lo - 1) = lo - 1 := by rw [IntKind.wrap_i64]; omega
 have HWW := hide hw1
 clear hw1
 go_enter Tryz.func63, Tryz.ntmps63
 obtain ⟨f, hf⟩ : ∃ f, fstHi (lo - 1) rs = f := ⟨_, rfl⟩
 obtain ⟨u, hu⟩ : ∃ u, fstLo (hi + 1) rs = u := ⟨_, rfl⟩
 obtain ⟨J, hJ⟩ : ∃ J, joined f u lo hi rs = J := ⟨_, rfl⟩
 have HF := hide hf
 have HU := hide hu
 have HJ := hide hJ
 have hfu : f ≤ u := by have := from_le_to hgood l1; omega
 have hun : u ≤ rs.length := by have := fstLe_lo (hi + 1) rs; omega
 clear hf hu hJ
 go_upto_if 39 with (first
  | (go_at_call 112; obtain ⟨a, c, c0, _, _, _, _, _⟩ := HW.cells; refine (snone_no b room _ c0 hr1).mono ?_; rintro e1 w1 ⟨rfl, rfl⟩)
  | (go_at_call_of 113 (Value.int IntKind.i64 lo); refine (sis_yes lo _ l0 l2).mono ?_; rintro e2 w2 ⟨rfl, rfl⟩) | (go_at_call 113; refine (sis_yes hi _ m0 m1).mono ?_; rintro e2 w2 ⟨rfl, rfl⟩)
  | (go_at_call 114; refine (first_any b g room (lo - 1) rs _ HW).mono ?_; rintro e3 w3 ⟨rfl, hb3⟩; rw [HF.out]; have HW3 := HW.below hb3; have hx33 := (only_of_below hb3 (S := [])).blk hx3 (by simp); have hx53 := (only_of_below hb3 (S := [])).blk hx5 (by simp); have hW3 := bw_below' hW0 hb3; have d3 : w3.cell? ⟨w.heap.size, 0, none⟩ = some (.pointer (some ⟨b, 0, none⟩)) := hx33.cell 0; have d5 : w3.cell? ⟨w.heap.size + 1, 0, none⟩ = some (ZI ZQ hi) := hx53.cell 0; obtain ⟨a3, k3, s0, s1, hrow3, hB3, hown3, hat3⟩ := HW3.cells; have HAT3 := hide hat3; have HOWN3 := hide hown3; have HROW3 := hide hrow3; clear hat3 hown3 hrow3)
  | (go_at_call 115; refine (search_set b _ _ g room hi rs _ HW3 hx33 hx53 m0 m1).mono ?_; rintro e4 w4 ⟨rfl, hb4⟩; rw [HU.out]; have HW4 := HW3.below hb4; have hx34 := ((only_of_below hb4 (S := [])).blk hx33 (by simp)); have hx54 := ((only_of_below hb4 (S := [])).blk hx53 (by simp)); have hW4 := bw_below' hW3 hb4; have f3 : w4.cell? ⟨w.heap.size, 0, none⟩ = some (.pointer (some ⟨b, 0, none⟩)) := hx34.cell 0; have f5 : w4.cell? ⟨w.heap.size + 1, 0, none⟩ = some (ZI ZQ hi) := hx54.cell 0; have hl5 := hx54.lt; have hl3 := hx34.lt))
 go_cut [] (fun wc => IsSet wc b g room rs ∧ Blk wc w.heap.size 76 #[.pointer (some ⟨b, 0, none⟩)] ∧ Blk wc (w.heap.size + 1) 3 #[ZI ZQ hi] ∧ Blk wc w4.heap.size 93 #[ZI ZQ J.lo, ZI ZQ J.hi] ∧ Below w.heap.size w wc)
 case first =>
  have hb44 := HW4.lt.1
  have hg44 := fun k e => (HW4.lt.2 k e).1
  have h9 := Blk.new w4 93 #[ZI ZQ lo, ZI ZQ hi]
  have HW9 := HW4.alloc (.cells #[ZI ZQ lo, ZI ZQ hi] 93)
  have hx39 := hx34.alloc (.cells #[ZI ZQ lo, ZI ZQ hi] 93)
  have hx59 := hx54.alloc (.cells #[ZI ZQ lo, ZI ZQ hi] 93)
  have hW9 := bw_alloc' hW4 (.cells #[ZI ZQ lo, ZI ZQ hi] 93)
  clear HW3 hx33 hx53 hW3 HW4 hx34 hx54 hW4 f3 f5 d3 d5 hb4 hb3 HW hx3 hx5 hW0 s0 s1
  by_cases hlt : f < u
  ·obtain ⟨m, rfl⟩ : ∃ m, u = m + 1 := ⟨u - 1, by omega⟩
   obtain ⟨x, hx⟩ : ∃ x, rs[f]? = some x := ⟨_, List.getElem?_eq_getElem (by omega)⟩
   obtain ⟨y, hy⟩ : ∃ y, rs[m]? = some y := ⟨_, List.getElem?_eq_getElem (by omega)⟩
   have e : J = ⟨min lo x.lo, max hi y.hi⟩ := by rw [← HJ.out]; unfold joined; rw [if_pos hlt, atR_some hx, Nat.add_sub_cancel, atR_some hy]
   refine name_world (fun W => IsSet W b g room rs ∧ Blk W w.heap.size 76 #[.pointer (some ⟨b, 0, none⟩)] ∧ Blk W (w.heap.size + 1) 3 #[ZI ZQ hi] ∧ Blk W w4.heap.size 93 #[ZI ZQ lo, ZI ZQ hi] ∧ Below w.heap.size w W) ⟨HW9, hx39, hx59, h9, hW9⟩ ?_
   clear HW9 hx39 hx59 h9 hW9
   rintro W ⟨HW9, hx39, hx59, h9, hW9⟩
   obtain ⟨a9, k9, q0, q1, hv9, _, _, hat9⟩ := HW9.cells
   obtain ⟨k, rfl, hk, zx0, zx1⟩ := hat9 f x hx
   obtain ⟨k', hk', _, zy0, zy1⟩ := hat9 m y hy
   cases hk'
   clear hat9
   obtain ⟨X, hX⟩ : ∃ X, w4.heap.size = X := ⟨_, rfl⟩
   have hk44 := hg44 k hv9.symm
   have hg45 := hg44
   rw [hX] at h9 hb44 hl3 hl5 hk44 hg45 ⊢
   clear hg44
   have HXX := hide hX
   clear hX
   obtain ⟨X3, hX3⟩ : ∃ X, w.heap.size = X := ⟨_, rfl⟩
   obtain ⟨X5, hX5⟩ : ∃ X, X3 + 1 = X := ⟨_, rfl⟩
   rw [hX3] at hx39 hx59 hl3 hl5 hW9 ⊢
   rw [hX5] at hx59 hl5 ⊢
   have b1 : (0 : Int) ≤ (f : Int) := by omega
   have b2 : (f : Int) < (rs.length : Int) := by omega
   have b3 : (0 : Int) ≤ (m : Int) := by omega
   have b4 : (m : Int) < (rs.length : Int) := by omega
   have hwm : IntKind.i64.wrap (m : Int) = (m : Int) := by rw [IntKind.wrap_i64]; omega
   have hwn : IntKind.i64.wrap ((m : Int) + 1 - 1) = (m : Int) := by rw [IntKind.wrap_i64]; omega
   have hwo : IntKind.i64.wrap (((m + 1 : Nat) : Int) - 1) = (m : Int) := by rw [IntKind.wrap_i64]; omega
   have hmt : (m : Int).toNat = m := by omega
   have hP : (if x.lo < lo then x.lo else lo) = J.lo := by rw [e]; show _ = min lo x.lo; split <;> omega
   have hQ : (if hi < y.hi then y.hi else hi) = J.hi := by rw [e]; show _ = max hi y.hi; split <;> omega
   clear e
   have HX := hide hx
   have HY := hide hy
   have HX3 := hide hX3
   have HX5 := hide hX5
   clear hx hy hX3 hX5
   have hlt9 := h9.lt
   have q3 := hx39.cell 0
   have q5 := hx59.cell 0
   have y0 := h9.cell 0
   have y1 := h9.cell 1
   have y2 := h9.frozen 0
   have y3 := h9.frozen 1
   have n3 : X3 ≠ X := by omega
   have n5 : X5 ≠ X := by omega
   have nb : b ≠ X := by omega
   have nk : k ≠ X := by omega
   have N3 := hide n3
   have N5 := hide n5
   have NB := hide nb
   have NK := hide nk
   clear n3 n5 nb nk
   go_wp2_with fail
   go_region_held3 (fun w' => w'.cell? ⟨X3, 0, none⟩ = some (.pointer (some ⟨b, 0, none⟩)) ∧ w'.cell? ⟨X5, 0, none⟩ = some (ZI ZQ hi) ∧ w'.cell? ⟨b, 1, none⟩ = some (.slice (some ⟨k, 0, none⟩) rs.length k9) ∧ w'.cell? ⟨k, f * 2, none⟩ = some (ZI ZQ x.lo) ∧ w'.cell? ⟨k, m * 2 + 1, none⟩ = some (ZI ZQ y.hi)) (first | exact ⟨q3, q5, q1, zx0, zy1⟩ | exact ⟨cfar (cfar q3 N3.out) N3.out, cfar (cfar q5 N5.out) N5.out, cfar (cfar q1 NB.out) NB.out, cfar (cfar zx0 NK.out) NK.out, cfar (cfar zy1 NK.out) NK.out⟩) (fail)
   all_goals
    go_wp2_with fail
    have hq1 := hW9.size
    have n3 := N3.out
    have n5 := N5.out
    have nb := NB.out
    have e5 := HX5.out
    have e3 := HX3.out
    have eX := HXX.out
    subst e5
    subst e3
    subst eX
    go_meet
    refine (fun (hO : Only [w4.heap.size] W _) h9' => ⟨HW9.only hO (by simpa using nb) (fun k' e => by rw [← hv9] at e; cases e; simpa using NK.out), hO.blk hx39 (by simpa using n3), hO.blk hx59 (by simpa using n5), h9', hW9.trans (hO.below (by simp; omega) (by omega))⟩) ?_ ?_
    ·repeat (first | with_reducible refine Only.setCell ?_ (.inl (by simp)) _ | with_reducible refine Only.drewN ?_ _ | with_reducible refine Only.drew ?_)
     exact Only.refl _ _
    ·exact (h9.set 0 (ZI ZQ J.lo)).set 1 (ZI ZQ J.hi)
  ·have e : J = ⟨lo, hi⟩ := by rw [← HJ.out]; unfold joined; rw [if_neg hlt]
   subst e
   go_wp2_with fail
   go_meet
   exact ⟨HW9, hx39, hx59, h9, hW9⟩
 case rest =>
  have hbx := hW4.size
  clear HW3 hx33 hx53 hW3 HW4 hx34 hx54 hW4 f3 f5 d3 d5 hb4 hb3 HW hx3 hx5 hW0 s0 s1
  obtain ⟨HWc, hx3, hx5, h9, hWc⟩ := hcut
  have hlen2 : (room : Int) < (rs.length : Int) - ((u : Int) - (f : Int)) + 1 := by have := addR_length (lo := lo) (hi := hi) hgood l1; rw [HF.out, HU.out] at this; omega
  obtain ⟨ac, kc, q0, q1, hvc, hBc, hownc, _⟩ := HWc.cells
  have q3 := hx3.cell 0
  have q5 := hx5.cell 0
  have y0 := h9.cell 0
  have y1 := h9.cell 1
  have hwa : IntKind.i64.wrap ((u : Int) - (f : Int)) = (u : Int) - (f : Int) := by rw [IntKind.wrap_i64]; omega
  have hwb : IntKind.i64.wrap ((rs.length : Int) - ((u : Int) - (f : Int))) = (rs.length : Int) - ((u : Int) - (f : Int)) := by rw [IntKind.wrap_i64]; omega
  have hwc : IntKind.i64.wrap ((rs.length : Int) - ((u : Int) - (f : Int)) + 1) = (rs.length : Int) - ((u : Int) - (f : Int)) + 1 := by rw [IntKind.wrap_i64]; omega
  have HLL := hide hlen2
  have HV := hide hvc
  clear hvc
  go_wp2_with fail
  go_quiet (fail)
  go_wp2_with fail
  go_ret
  exact ⟨rfl, by first | exact below_drewN hWc _ | exact hWc⟩
end Go.Proofs.YtgicljeedegncaaGreat

namespace Go.Proofs.YtgicljeedegncaaGreat
open Go.Value renaming int → ZI
open Go.IntKind renaming i64 → ZQ
set_option linter.unusedSimpArgs false
set_option linter.unusedVariables false
open Go.RowKit

/-- What a space holds. -/
structure SpSt where
 room : Nat
 last : Int
 ps : List Pk
 K : List Rg
 R : List Rg
 great : Int
 loss : Int
 time : Int

def spCells (lb kb mb : Nat) (great loss time : Int) : Array Value := #[.pointer (some ⟨lb, 0, none⟩), .pointer (some ⟨kb, 0, none⟩), .pointer (some ⟨mb, 0, none⟩), ZI ZQ great, ZI ZQ loss, ZI ZQ time]
/-- The blocks of a space. -/
structure Ft where
 b : Nat
 lb : Nat
 rb : Nat
 kb : Nat
 kg : Option Nat
 mb : Nat
 mg : Option Nat
def Ft.all (f : Ft) : List Nat := f.b :: f.lb :: f.rb :: f.kb :: f.mb :: (f.kg.toList ++ f.mg.toList)
def Ft.at (f : Ft) : Nat → Option Nat
 | 0 => some f.b
 | 1 => some f.lb
 | 2 => some f.rb
 | 3 => some f.kb
 | 4 => f.kg
 | 5 => some f.mb
 | 6 => f.mg
 | _ => none
/-- The blocks are different ones. -/
def Ft.Ne (f : Ft) : Prop := ∀ i j x, f.at i = some x → f.at j = some x → i = j
theorem Ft.mem_all (f : Ft) (x : Nat) : x ∈ f.all ↔ ∃ i, f.at i = some x := by
 simp only [Ft.all, List.mem_cons, List.mem_append, Option.mem_toList]
 constructor
 ·rintro (h | h | h | h | h | h | h)
  ·exact ⟨0, by rw [h]; rfl⟩
  ·exact ⟨1, by rw [h]; rfl⟩
  ·exact ⟨2, by rw [h]; rfl⟩
  ·exact ⟨3, by rw [h]; rfl⟩
  ·exact ⟨5, by rw [h]; rfl⟩
  ·exact ⟨4, h⟩
  ·exact ⟨6, h⟩
 ·rintro ⟨i, h⟩
  match i, h with
  | 0, h => cases h; exact .inl rfl
  | 1, h => cases h; exact .inr (.inl rfl)
  | 2, h => cases h; exact .inr (.inr (.inl rfl))
  | 3, h => cases h; exact .inr (.inr (.inr (.inl rfl)))
  | 4, h => exact .inr (.inr (.inr (.inr (.inr (.inl h)))))
  | 5, h => cases h; exact .inr (.inr (.inr (.inr (.inl rfl))))
  | 6, h => exact .inr (.inr (.inr (.inr (.inr (.inr h)))))
  | n + 7, h => cases h
theorem Ft.Ne.apart {f : Ft} (h : f.Ne) {i j x y : Nat} (hi : f.at i = some x) (hj : f.at j = some y) (hij : i ≠ j) : x ≠ y := fun e => hij (h i j x hi (by rw [e]; exact hj))
theorem Ft.Ne.turn {f f' : Ft} (h : f.Ne) (k n : Nat) (hlt : ∀ x ∈ f.all, x < n) (hsame : ∀ i, i ≠ k → f'.at i = f.at i) (hnew : ∀ x, f'.at k = some x → f.at k = some x ∨ n ≤ x) : f'.Ne := by
 have key : ∀ j x, j ≠ k → f'.at k = some x → f'.at j = some x → False := by
  intro j x hj h1 h2
  rw [hsame j hj] at h2
  rcases hnew x h1 with h3 | h3
  ·exact hj (h j k x h2 h3)
  ·have := hlt x ((f.mem_all x).2 ⟨j, h2⟩)
   omega
 intro i j x hi hj
 by_cases h1 : i = k
 ·by_cases h2 : j = k
  ·rw [h1, h2]
  ·subst h1
   exact (key j x h2 hi hj).elim
 ·by_cases h2 : j = k
  ·subst h2
   exact (key i x h1 hj hi).elim
  ·rw [hsame i h1] at hi
   rw [hsame j h2] at hj
   exact h i j x hi hj
theorem Ft.turn_new {f f' : Ft} (k n : Nat) (hsame : ∀ i, i ≠ k → f'.at i = f.at i) (hnew : ∀ x, f'.at k = some x → f.at k = some x ∨ n ≤ x) : ∀ x ∈ f'.all, x ∈ f.all ∨ n ≤ x := by
 intro x hx
 obtain ⟨i, hi⟩ := (f'.mem_all x).1 hx
 by_cases h : i = k
 ·subst h
  rcases hnew x hi with h | h
  ·exact .inl ((f.mem_all x).2 ⟨i, h⟩)
  ·exact .inr h
 ·rw [hsame i h] at hi
  exact .inl ((f.mem_all x).2 ⟨i, hi⟩)
structure IsSp (w : World) (f : Ft) (s : SpSt) : Prop where
 blk : Blk w f.b 78 (spCells f.lb f.kb f.mb s.great s.loss s.time)
 log : IsLog w f.lb f.rb s.room s.last s.ps
 kn : IsSet w f.kb f.kg 256 s.K
 rem : IsSet w f.mb f.mg 256 s.R
 ne : f.Ne

section
variable {w w' : World} {f : Ft} {s : SpSt}
theorem Ft.mem_b (f : Ft) : f.b ∈ f.all := by simp [Ft.all]
theorem Ft.mem_lb (f : Ft) : f.lb ∈ f.all := by simp [Ft.all]
theorem Ft.mem_rb (f : Ft) : f.rb ∈ f.all := by simp [Ft.all]
theorem Ft.mem_kb (f : Ft) : f.kb ∈ f.all := by simp [Ft.all]
theorem Ft.mem_mb (f : Ft) : f.mb ∈ f.all := by simp [Ft.all]
theorem Ft.mem_kg (f : Ft) {k : Nat} (h : f.kg = some k) : k ∈ f.all := by simp [Ft.all, h]
theorem Ft.mem_mg (f : Ft) {k : Nat} (h : f.mg = some k) : k ∈ f.all := by simp [Ft.all, h]
theorem IsSp.lt (h : IsSp w f s) : ∀ x ∈ f.all, x < w.heap.size := by
 intro x hx
 have h1 := h.blk.lt
 have h2 := h.log.lt
 have h3 := h.kn.lt
 have h4 := h.rem.lt
 simp only [Ft.all, List.mem_cons, List.mem_append, Option.mem_toList] at hx
 rcases hx with rfl | rfl | rfl | rfl | rfl | hx | hx
 ·exact h1
 ·exact h2.1
 ·exact h2.2.1
 ·exact h3.1
 ·exact h4.1
 ·exact (h3.2 x hx).1
 ·exact (h4.2 x hx).1
theorem IsSp.only {S : List Nat} (h : IsSp w f s) (ho : Only S w w') (hS : ∀ x ∈ f.all, x ∉ S) : IsSp w' f s :=
 ⟨ho.blk h.blk (hS _ f.mem_b), h.log.only ho (hS _ f.mem_lb) (hS _ f.mem_rb), h.kn.only ho (hS _ f.mem_kb) (fun k hk => hS _ (f.mem_kg hk)), h.rem.only ho (hS _ f.mem_mb) (fun k hk => hS _ (f.mem_mg hk)), h.ne⟩
theorem IsSp.below (h : IsSp w f s) (hb : Below w.heap.size w w') : IsSp w' f s := h.only (S := []) (only_of_below hb) (by simp)
theorem IsSp.alloc (h : IsSp w f s) (o : Obj) : IsSp (w.alloc o) f s := h.below ((Below.refl _ _).alloc (Nat.le_refl _) o)
theorem IsSp.cells (h : IsSp w f s) : w.cell? ⟨f.b, 0, none⟩ = some (.pointer (some ⟨f.lb, 0, none⟩)) ∧ w.cell? ⟨f.b, 1, none⟩ = some (.pointer (some ⟨f.kb, 0, none⟩)) ∧ w.cell? ⟨f.b, 2, none⟩ = some (.pointer (some ⟨f.mb, 0, none⟩)) ∧ w.cell? ⟨f.b, 3, none⟩ = some (ZI ZQ s.great) ∧ w.cell? ⟨f.b, 4, none⟩ = some (ZI ZQ s.loss) ∧ w.cell? ⟨f.b, 5, none⟩ = some (ZI ZQ s.time) := ⟨h.blk.cell 0, h.blk.cell 1, h.blk.cell 2, h.blk.cell 3, h.blk.cell 4, h.blk.cell 5⟩
end
/-- What a call leaves that turns a space: the blocks are those from before, or new ones; nothing else has turned. -/
structure SpPost (w : World) (f : Ft) (s' : SpSt) (f' : Ft) (w' : World) : Prop where
 sp : IsSp w' f' s'
 b : f'.b = f.b
 new : ∀ x ∈ f'.all, x ∈ f.all ∨ w.heap.size ≤ x
 only : Only f.all w w'
section
variable {w w1 w' : World} {f f1 f' : Ft} {s s1 s' : SpSt}
theorem SpPost.refl (h : IsSp w f s) : SpPost w f s f w := ⟨h, rfl, fun x hx => .inl hx, Only.refl _ _⟩
theorem SpPost.trans (h : SpPost w f s1 f1 w1) (h2 : SpPost w1 f1 s' f' w') : SpPost w f s' f' w' :=
 ⟨h2.sp, h2.b.trans h.b, fun x hx => by
  rcases h2.new x hx with h3 | h3
  ·exact h.new x h3
  ·exact .inr (Nat.le_trans h.only.size h3), h.only.trans h2.only (fun x hx => h.new x hx)⟩
theorem SpPost.below (h : SpPost w f s1 f1 w1) (hb : Below w1.heap.size w1 w') : SpPost w f s1 f1 w' := h.trans ⟨h.sp.below hb, rfl, fun x hx => .inl hx, only_of_below hb⟩
theorem SpPost.ahead (hb : Below w.heap.size w w1) (h : SpPost w1 f s1 f1 w') : SpPost w f s1 f1 w' :=
 ⟨h.sp, h.b, fun x hx => by
  rcases h.new x hx with h3 | h3
  ·exact .inl h3
  ·exact .inr (Nat.le_trans hb.size h3), (only_of_below (S := f.all) hb).trans h.only (fun x hx => .inl hx)⟩
/-- The log turns. -/
theorem IsSp.turnLog {rb' : Nat} {last : Int} {ps : List Pk} (h : IsSp w f s) (hl : IsLog w' f.lb rb' s.room last ps) (hr : rb' = f.rb ∨ w.heap.size ≤ rb') (ho : Only [f.lb, f.rb] w w') : SpPost w f { s with last := last, ps := ps } { f with rb := rb' } w' := by
 have hsame : ∀ i, i ≠ 2 → Ft.at { f with rb := rb' } i = f.at i := fun i hi => by
  match i, hi with
  | 0, _ => rfl
  | 1, _ => rfl
  | 2, h => exact absurd rfl h
  | 3, _ => rfl
  | 4, _ => rfl
  | 5, _ => rfl
  | 6, _ => rfl
  | n + 7, _ => rfl
 have hnew : ∀ x, Ft.at { f with rb := rb' } 2 = some x → f.at 2 = some x ∨ w.heap.size ≤ x := fun x hx => by
  cases hx
  rcases hr with e | e
  ·exact .inl (congrArg some e.symm)
  ·exact .inr e
 have hno : ∀ (i x : Nat), i ≠ 1 → i ≠ 2 → f.at i = some x → x ∉ [f.lb, f.rb] := fun i x h1 h2 hi hm => by
  simp at hm
  rcases hm with e | e
  ·exact h.ne.apart (i := i) (j := 1) hi rfl h1 e
  ·exact h.ne.apart (i := i) (j := 2) hi rfl h2 e
 refine ⟨⟨ho.blk h.blk (hno 0 _ (by decide) (by decide) rfl), hl, h.kn.only ho (hno 3 _ (by decide) (by decide) rfl) (fun k hk => hno 4 k (by decide) (by decide) hk), h.rem.only ho (hno 5 _ (by decide) (by decide) rfl) (fun k hk => hno 6 k (by decide) (by decide) hk), h.ne.turn 2 _ h.lt hsame hnew⟩, rfl, Ft.turn_new 2 _ hsame hnew, ho.mono fun x hx => .inl ?_⟩
 simp at hx
 rcases hx with rfl | rfl
 ·exact f.mem_lb
 ·exact f.mem_rb
/-- The known numbers turn. -/
theorem IsSp.turnKn {kg' : Option Nat} {K : List Rg} (h : IsSp w f s) (hl : IsSet w' f.kb kg' 256 K) (hr : ∀ k, kg' = some k → f.kg = some k ∨ w.heap.size ≤ k) (ho : Only (f.kb :: f.kg.toList) w w') : SpPost w f { s with K := K } { f with kg := kg' } w' := by
 have hsame : ∀ i, i ≠ 4 → Ft.at { f with kg := kg' } i = f.at i := fun i hi => by
  match i, hi with
  | 0, _ => rfl
  | 1, _ => rfl
  | 2, _ => rfl
  | 3, _ => rfl
  | 4, h => exact absurd rfl h
  | 5, _ => rfl
  | 6, _ => rfl
  | n + 7, _ => rfl
 have hnew : ∀ x, Ft.at { f with kg := kg' } 4 = some x → f.at 4 = some x ∨ w.heap.size ≤ x := hr
 have hno : ∀ (i x : Nat), i ≠ 3 → i ≠ 4 → f.at i = some x → x ∉ f.kb :: f.kg.toList := fun i x h1 h2 hi hm => by
  simp only [List.mem_cons, Option.mem_toList] at hm
  rcases hm with e | e
  ·exact h.ne.apart (i := i) (j := 3) hi rfl h1 e
  ·exact h.ne.apart (i := i) (j := 4) hi e h2 rfl
 refine ⟨⟨ho.blk h.blk (hno 0 _ (by decide) (by decide) rfl), h.log.only ho (hno 1 _ (by decide) (by decide) rfl) (hno 2 _ (by decide) (by decide) rfl), hl, h.rem.only ho (hno 5 _ (by decide) (by decide) rfl) (fun k hk => hno 6 k (by decide) (by decide) hk), h.ne.turn 4 _ h.lt hsame hnew⟩, rfl, Ft.turn_new 4 _ hsame hnew, ho.mono fun x hx => .inl ?_⟩
 simp only [List.mem_cons, Option.mem_toList] at hx
 rcases hx with rfl | hx
 ·exact f.mem_kb
 ·exact f.mem_kg hx
/-- What is remembered turns. -/
theorem IsSp.turnRem {mg' : Option Nat} {R : List Rg} (h : IsSp w f s) (hl : IsSet w' f.mb mg' 256 R) (hr : ∀ k, mg' = some k → f.mg = some k ∨ w.heap.size ≤ k) (ho : Only (f.mb :: f.mg.toList) w w') : SpPost w f { s with R := R } { f with mg := mg' } w' := by
 have hsame : ∀ i, i ≠ 6 → Ft.at { f with mg := mg' } i = f.at i := fun i hi => by
  match i, hi with
  | 0, _ => rfl
  | 1, _ => rfl
  | 2, _ => rfl
  | 3, _ => rfl
  | 4, _ => rfl
  | 5, _ => rfl
  | 6, h => exact absurd rfl h
  | n + 7, _ => rfl
 have hnew : ∀ x, Ft.at { f with mg := mg' } 6 = some x → f.at 6 = some x ∨ w.heap.size ≤ x := hr
 have hno : ∀ (i x : Nat), i ≠ 5 → i ≠ 6 → f.at i = some x → x ∉ f.mb :: f.mg.toList := fun i x h1 h2 hi hm => by
  simp only [List.mem_cons, Option.mem_toList] at hm
  rcases hm with e | e
  ·exact h.ne.apart (i := i) (j := 5) hi rfl h1 e
  ·exact h.ne.apart (i := i) (j := 6) hi e h2 rfl
 refine ⟨⟨ho.blk h.blk (hno 0 _ (by decide) (by decide) rfl), h.log.only ho (hno 1 _ (by decide) (by decide) rfl) (hno 2 _ (by decide) (by decide) rfl), h.kn.only ho (hno 3 _ (by decide) (by decide) rfl) (fun k hk => hno 4 k (by decide) (by decide) hk), hl, h.ne.turn 6 _ h.lt hsame hnew⟩, rfl, Ft.turn_new 6 _ hsame hnew, ho.mono fun x hx => .inl ?_⟩
 simp only [List.mem_cons, Option.mem_toList] at hx
 rcases hx with rfl | hx
 ·exact f.mem_mb
 ·exact f.mem_mg hx
/-- A new set is remembered. -/
theorem IsSp.newRem {mb' : Nat} (h0 : IsSp w f s) (hb : Below w.heap.size w w1) (hl : IsSet w1 mb' none 256 []) (hm : w.heap.size ≤ mb') : SpPost w f { s with R := [] } { f with mb := mb', mg := none } (w1.setCell ⟨f.b, 2, none⟩ (.pointer (some ⟨mb', 0, none⟩))) := by
 have h := h0.below hb
 have ho : Only [f.b] w1 (w1.setCell ⟨f.b, 2, none⟩ (.pointer (some ⟨mb', 0, none⟩))) := (Only.refl _ _).setCell (.inl (by simp)) _
 have hno : ∀ (i x : Nat), i ≠ 0 → f.at i = some x → x ∉ [f.b] := fun i x h1 hi hm => by
  simp at hm
  exact h.ne.apart (i := i) (j := 0) hi rfl h1 hm
 have hs5 : ∀ i, i ≠ 5 → Ft.at { f with mb := mb' } i = f.at i := fun i hi => by
  match i, hi with
  | 0, _ => rfl
  | 1, _ => rfl
  | 2, _ => rfl
  | 3, _ => rfl
  | 4, _ => rfl
  | 5, h => exact absurd rfl h
  | 6, _ => rfl
  | n + 7, _ => rfl
 have hn5 : ∀ x, Ft.at { f with mb := mb' } 5 = some x → f.at 5 = some x ∨ w.heap.size ≤ x := fun x hx => by cases hx; exact .inr hm
 have hs6 : ∀ i, i ≠ 6 → Ft.at { f with mb := mb', mg := none } i = Ft.at { f with mb := mb' } i := fun i hi => by
  match i, hi with
  | 0, _ => rfl
  | 1, _ => rfl
  | 2, _ => rfl
  | 3, _ => rfl
  | 4, _ => rfl
  | 5, _ => rfl
  | 6, h => exact absurd rfl h
  | n + 7, _ => rfl
 have hn6 : ∀ (n x : Nat), Ft.at { f with mb := mb', mg := none } 6 = some x → Ft.at { f with mb := mb' } 6 = some x ∨ n ≤ x := fun n x hx => by cases hx
 have hne5 := h0.ne.turn 5 _ h0.lt hs5 hn5
 have hne6 : Ft.Ne { f with mb := mb', mg := none } := fun i j x hi hj => by
  have e1 : i ≠ 6 := fun e => by subst e; cases hi
  have e2 : j ≠ 6 := fun e => by subst e; cases hj
  rw [hs6 i e1] at hi
  rw [hs6 j e2] at hj
  exact hne5 i j x hi hj
 have hmb : mb' ≠ f.b := fun e => by have := h0.lt f.b f.mem_b; omega
 refine ⟨⟨(h.blk.set 2 _).eq rfl, h.log.only ho (hno 1 _ (by decide) rfl) (hno 2 _ (by decide) rfl), h.kn.only ho (hno 3 _ (by decide) rfl) (fun k hk => hno 4 k (by decide) hk), hl.only ho (by simpa using hmb) (fun k hk => by cases hk), hne6⟩, rfl, fun x hx => ?_, ((only_of_below (S := f.all) hb).trans ho (fun x hx => .inl ?_))⟩
 ·rcases Ft.turn_new 6 w.heap.size hs6 (hn6 _) x hx with h1 | h1
  ·exact Ft.turn_new 5 w.heap.size hs5 hn5 x h1
  ·exact .inr h1
 ·simp at hx; subst hx; exact f.mem_b
/-- A cell of the space's own turns. -/
theorem IsSp.turnOwn {j : Nat} {u : Value} {great loss time : Int} (h : IsSp w f s) (hc : (spCells f.lb f.kb f.mb s.great s.loss s.time).setIfInBounds j u = spCells f.lb f.kb f.mb great loss time) : SpPost w f { s with great := great, loss := loss, time := time } f (w.setCell ⟨f.b, j, none⟩ u) := by
 have ho : Only [f.b] w (w.setCell ⟨f.b, j, none⟩ u) := (Only.refl _ _).setCell (.inl (by simp)) _
 have hno : ∀ (i x : Nat), i ≠ 0 → f.at i = some x → x ∉ [f.b] := fun i x h1 hi hm => by
  simp at hm
  exact h.ne.apart (i := i) (j := 0) hi rfl h1 hm
 refine ⟨⟨(h.blk.set j u).eq hc, h.log.only ho (hno 1 _ (by decide) rfl) (hno 2 _ (by decide) rfl), h.kn.only ho (hno 3 _ (by decide) rfl) (fun k hk => hno 4 k (by decide) hk), h.rem.only ho (hno 5 _ (by decide) rfl) (fun k hk => hno 6 k (by decide) hk), h.ne⟩, rfl, fun x hx => .inl hx, ho.mono fun x hx => .inl ?_⟩
 simp at hx; subst hx; exact f.mem_b
end
end Go.Proofs.YtgicljeedegncaaGreat
