/-
 2 texts in one (RegionStore, SpanAdd).
-/
import Derived.Deep.RegionHeld3
import Derived.StillTail
import Derived.Test.YtgicljeedegncaaGreatTqSpanSet2
import Derived.Deep.DeepCutAuto
namespace Go.Proofs.YtgicljeedegncaaGreat
open List renaming setIfInBounds_toArray → ZD, set_cons_zero → ZE, set_cons_succ → ZF
open Go.Act renaming put → ZP
open Go.Value renaming int → ZI
open Go.IntKind renaming i64 → ZQ
open Go

section
variable {P : Program} {ops : Array Oper} {Q : Exit → Act → World → Prop} {md : Region.Mode} {C : World → Prop} {st : Nat}

/-- Whatever order is picked from here on; C holds behind every operation until st has come up. -/
def wpAnyS (P : Program) (md : Region.Mode) (ops : Array Oper) (Q : Exit → Act → World → Prop) (C : World → Prop) (st : Nat) : Nat → Array Bool → Act → World → Prop
 | 0, listed, a, w => Region.ready md ops listed = [] ∧ Q .normal a w
 | fuel + 1, listed, a, w =>
  (Region.ready md ops listed = [] → Q .normal a w) ∧
  ∀ i ∈ Region.ready md ops listed, wpOp P ops Q i (fun a' w' => ((listed.setIfInBounds i true).getD st false = false → C w') ∧ wpAnyS P md ops Q C st fuel (listed.setIfInBounds i true) a' w') a w

theorem wpAny_of_S : ∀ (fuel : Nat) (listed : Array Bool) (a : Act) (w : World), wpAnyS P md ops Q C st fuel listed a w → wpAny P md ops Q fuel listed a w
 | 0, _, _, _, h => h
 | fuel + 1, _, _, _, h => ⟨h.1, fun i hi => wpOp_mono (fun a' w' h' => wpAny_of_S fuel _ a' w' h'.2) (h.2 i hi)⟩

theorem wpAnyS_first {i : Nat} {oi : Oper} {v : Value} (hi : ops[i]? = some oi) (hsel : ∀ (j : Nat) (o : Oper) cs b, ops[j]? = some o → o.op ≠ .select cs b)
  (hQ : ∀ c a w, Q (.panic c) (a.put oi.dst v) w → Q (.panic c) a w) (hst : Region.waitsFor md ops st i = true ∨ ops.size ≤ st) (his : i ≠ st) :
  ∀ (fuel : Nat) (listed : Array Bool) (a : Act) (w : World),
   (∀ j oj, ops[j]? = some oj → j ≠ i → listed.getD j true = false → (∀ e ∈ oj.after, Region.binds md e = true → e.on ≠ i) → oi.apart ops oj = true) →
   listed.getD st false = false → i ∈ Region.ready md ops listed → YieldsIf P ops C oi v a → C w →
   wpAnyS P md ops Q C st fuel (listed.setIfInBounds i true) (a.put oi.dst v) w → wpAnyS P md ops Q C st (fuel + 1) listed a w := by
 intro fuel
 induction fuel with
 | zero =>
  intro listed a w _ _ hr hy hS H
  refine ⟨fun h => (by rw [h] at hr; cases hr), fun j hj => ?_⟩
  by_cases hji : j = i
  ·subst hji; exact hy.wpOp hi hS ⟨fun _ => hS, H⟩
  ·have := ready_mono hj hji
   rw [H.1] at this
   cases this
 | succ fuel ih =>
  intro listed a w hfree hsu hr hy hS H
  refine ⟨fun h => (by rw [h] at hr; cases hr), fun j hj => ?_⟩
  by_cases hji : j = i
  ·subst hji; exact hy.wpOp hi hS ⟨fun _ => hS, H⟩
  ·have h1 := H.2 j (ready_mono hj hji)
   obtain ⟨hjun, oj, hoj, hall⟩ := mem_ready.1 hj
   have hiun := (mem_ready.1 hr).1
   have hnot : ∀ e ∈ oj.after, Region.binds md e = true → e.on ≠ i := fun e he hb heq => by
    have h1 := hall e he hb
    rw [heq, getD_both hiun] at h1
    cases h1
   have hjs : j ≠ st := fun e => by
    subst e
    rcases hst with hst | hst
    case inr => have := (Array.getElem?_eq_some_iff.1 hoj).1; omega
    obtain ⟨o', ho', e', he', hb', hon⟩ := Region.waitsFor_spec hst
    have : o' = oj := Option.some.inj (ho'.symm.trans hoj)
    subst this
    exact hnot e' he' hb' hon
   have h2 := wpOp_putIf hoj (hfree j oj hoj hji hjun hnot) (fun cs b => hsel i oi cs b hi) (fun cs b => hsel j oj cs b hoj) hQ hy h1
   have hfree' : ∀ k ok, ops[k]? = some ok → k ≠ i → (listed.setIfInBounds j true).getD k true = false →
     (∀ e ∈ ok.after, Region.binds md e = true → e.on ≠ i) → oi.apart ops ok = true := fun k ok hk hki hun hno => by
    refine hfree k ok hk hki ?_ hno
    by_cases hjk : j = k
    ·subst hjk; exact hjun
    ·rw [getD_set_ne true hjk] at hun; exact hun
   -- st has not come up: it waits for i
   have hstun : (listed.setIfInBounds j true).getD st false = false := by rw [getD_set_ne false hjs]; exact hsu
   refine wpOp_mono (fun a' w' h3 => ?_) h2
   have hC : C w' := h3.2.1 (by rw [getD_set_ne false hjs, getD_set_ne false his]; exact hsu)
   refine ⟨fun _ => hC, ih (listed.setIfInBounds j true) a' w' hfree' hstun (ready_mono hr (Ne.symm hji)) h3.1 hC ?_⟩
   rw [Array.setIfInBounds_comm _ _ hji]
   exact h3.2.2

/-- Take number i first: st waits for it. -/
theorem wpAnyS_take {i : Nat} {oi : Oper} {v : Value} {fuel : Nat} {listed : Array Bool} {a : Act} {w : World} (hi : ops[i]? = some oi) (hst : ((Region.waitsFor md ops st i || decide (ops.size ≤ st)) && i != st && !listed.getD st false) = true)
  (hs : Region.noSelect ops = true) (hf : Region.free md ops listed i = true) (hr : (Region.ready md ops listed).contains i = true)
  (hQ : ∀ c a w, Q (.panic c) (a.put oi.dst v) w → Q (.panic c) a w) (hy : YieldsIf P ops C oi v a) (hC : C w)
  (h : wpAnyS P md ops Q C st fuel (listed.setIfInBounds i true) (a.put oi.dst v) w) : wpAnyS P md ops Q C st (fuel + 1) listed a w := by
 simp only [Bool.and_eq_true, Bool.or_eq_true, decide_eq_true_eq, bne_iff_ne, ne_eq, Bool.not_eq_true'] at hst
 exact wpAnyS_first hi (Region.noSelect_spec hs) hQ hst.1.1 hst.1.2 fuel listed a w (Region.free_spec hi hf) hst.2 (by simpa using hr) hy hC h
/-- One operation alone may come up. -/
theorem wpAnyS_one {i : Nat} {o : Oper} {fuel : Nat} {listed : Array Bool} {a : Act} {w : World} (ho : ops[i]? = some o) (hr : Region.ready md ops listed = [i])
  (h : ∀ K' : Act → World → Prop, Shut (∀ a w, ((listed.setIfInBounds i true).getD st false = false → C w) → (((listed.setIfInBounds i true).getD st false = false → C w) → wpAnyS P md ops Q C st fuel (listed.setIfInBounds i true) a w) → K' a w) → if Region.wanted o (yielded ops a.tmps) = true then Oper.wp P o a w K' Q else K' (a.put o.dst undef) w) :
  wpAnyS P md ops Q C st (fuel + 1) listed a w := by
 refine ⟨fun h0 => (by rw [hr] at h0; cases h0), fun j hj => ?_⟩
 rw [hr] at hj
 have hji : j = i := by simpa using hj
 subst hji
 exact wpOp_step ho (fun K' hK => h K' (fun a w hS hW => hK a w ⟨hS, hW hS⟩))
/-- All have come up. -/
theorem wpAnyS_done {listed : Array Bool} {a : Act} {w : World} (hr : Region.ready md ops listed = []) (h : Q .normal a w) : ∀ fuel, wpAnyS P md ops Q C st fuel listed a w
 | 0 => ⟨hr, h⟩
 | _ + 1 => ⟨fun _ => h, by rw [hr]; simp⟩
/-- wpAnyS_take, an operation that is wanted, with its side conditions paid by the kernel. -/
theorem tsP (i : Nat) (v : Value) {oi : Oper} {fuel : Nat} {listed : Array Bool} {a : Act} {w : World} (hi : ops[i]? = some oi)
  (hv : ∀ w, C w → (execOp a.eval oi).run P w = .ok (.value v) w)
  (h : wpAnyS P md ops Q C st fuel (listed.setIfInBounds i true) (a.put oi.dst v) w)
  (hQ : ∀ c a w, Q (.panic c) (a.put oi.dst v) w → Q (.panic c) a w := by exact fun _ _ _ h => h)
  (hst : ((Region.waitsFor md ops st i || decide (ops.size ≤ st)) && i != st && !listed.getD st false) = true := by kernel_rfl)
  (hs : Region.noSelect ops = true := by kernel_rfl) (hf : Region.free md ops listed i = true := by kernel_rfl) (hr : (Region.ready md ops listed).contains i = true := by kernel_rfl)
  (hw : Region.wanted oi (yielded ops a.tmps) = true := by rfl) (hC : C w := by assumption) : wpAnyS P md ops Q C st (fuel + 1) listed a w :=
 wpAnyS_take hi hst hs hf hr hQ (Or.inl ⟨hw, hv⟩) hC h
/-- An operation that is not wanted. -/
theorem tsU (i : Nat) {oi : Oper} {fuel : Nat} {listed : Array Bool} {a : Act} {w : World} (hi : ops[i]? = some oi)
  (h : wpAnyS P md ops Q C st fuel (listed.setIfInBounds i true) (a.put oi.dst undef) w)
  (hQ : ∀ c a w, Q (.panic c) (a.put oi.dst undef) w → Q (.panic c) a w := by exact fun _ _ _ h => h)
  (hst : ((Region.waitsFor md ops st i || decide (ops.size ≤ st)) && i != st && !listed.getD st false) = true := by kernel_rfl)
  (hs : Region.noSelect ops = true := by kernel_rfl) (hf : Region.free md ops listed i = true := by kernel_rfl) (hr : (Region.ready md ops listed).contains i = true := by kernel_rfl)
  (hw : Region.wanted oi (yielded ops a.tmps) = false := by rfl) (hC : C w := by assumption) : wpAnyS P md ops Q C st (fuel + 1) listed a w :=
 wpAnyS_take hi hst hs hf hr hQ (Or.inr ⟨hw, rfl⟩) hC h
/-- The beginning. -/
theorem wp_region_S (C : World → Prop) (st : Nat) {id : Nat} {a : Act} {w : World} (hm : P.follows .mixedOrders = true) (hC : C w.drew)
  (h : C w.drew → wpAnyS P .any ops Q C st ops.size (Array.replicate ops.size false) a w.drew) : (Code.region id ops true).wp P Q a w :=
 wp_region_any hm (wpAny_of_S _ _ _ _ (h hC))
end
end Go.Proofs.YtgicljeedegncaaGreat

namespace Go.Proofs.YtgicljeedegncaaGreat
open List renaming setIfInBounds_toArray → ZD, set_cons_zero → ZE, set_cons_succ → ZF
open Go.Act renaming put → ZP
open Go.Value renaming int → ZI
open Go.IntKind renaming i64 → ZQ
set_option linter.unusedVariables false
set_option linter.unusedSimpArgs false
open Go.RowKit

theorem own_slice' {w : World} {base e size n : Nat} {v : Value} {xs : List Value} (h : w.ownsRow base e size v n xs) : ∃ A c, v = .slice A n c := by
 rcases h.2 with ⟨h0, h1⟩ | ⟨g, cap, cur, hv, _⟩
 ·exact ⟨none, 0, by rw [h0, h1]⟩
 ·exact ⟨_, _, hv⟩
theorem own_slice3 {w : World} {base e size n : Nat} {v : Value} {xs : List Value} (h : w.ownsRow base e size v n xs) : ∃ A m c, v = .slice A m c := by
 obtain ⟨A, c, e⟩ := own_slice' h
 exact ⟨A, n, c, e⟩
theorem cfar {w : World} {g X i j : Nat} {u v : Value} (h : w.cell? ⟨g, i, none⟩ = some v) (hne : g ≠ X) : (w.setCell ⟨X, j, none⟩ u).cell? ⟨g, i, none⟩ = some v := (World.cell?_setCell_other w ⟨X, j, none⟩ ⟨g, i, none⟩ u (by intro e; cases e; exact hne rfl)).trans h
theorem bw_below' {w w1 w2 : World} (h : Below w.heap.size w w1) (hB : Below w1.heap.size w1 w2) : Below w.heap.size w w2 := h.trans (hB.mono h.size)
theorem bw_alloc' {w w1 : World} (h : Below w.heap.size w w1) (o : Obj) : Below w.heap.size w (w1.alloc o) := h.alloc h.size o
theorem bw_only' {S : List Nat} {w w1 w2 : World} (h : Below w.heap.size w w1) (hO : Only S w1 w2) : Only S w w2 := (only_of_below (S := S) h).trans hO (fun x hx => .inl hx)
/-- What Add leaves, told. -/
def SAddPost (w : World) (b : Nat) (g : Option Nat) (room : Nat) (ys : List Rg) (e : Ending) (w' : World) : Prop :=
 e = .returned (ZI ZQ 0) ∧ ∃ g', IsSet w' b g' room ys ∧ (∀ k, g' = some k → g = some k ∨ w.heap.size ≤ k) ∧ Only (b :: g.toList) w w'

theorem add_done {w W w5 : World} {b room B : Nat} {g : Option Nat} {ys : List Rg} {v0 : Value} {a5 : Option Addr} {n5 c5 : Nat} (hr1 : 1 ≤ room) (hr2 : room ≤ 256) (hl : ys.length ≤ room) (hg : GoodR ys) (hbb : Blk w5 b 121 #[ZI ZQ room, v0])
  (hown : w5.ownsRow 0 93 2 (.slice a5 n5 c5) ys.length (rgsCells ys)) (hO : Only g.toList W w5) (hB : ∀ k, (Value.slice a5 n5 c5).ownBlock = some k → g = some k ∨ B ≤ k) (hW : Below w.heap.size w W) (hb : b < w.heap.size)
  (hgl : ∀ k, g = some k → k < w.heap.size ∧ k ≠ b) (hBB : W.heap.size ≤ B) : SAddPost w b g room ys (.returned (ZI ZQ 0)) (w5.setCell ⟨b, 1, none⟩ (.slice a5 n5 c5)) := by
 have hsz := hW.size
 refine ⟨rfl, _, ⟨hr1, hr2, hl, hg, _, rfl, (hbb.set 1 (.slice a5 n5 c5)).eq rfl, own_only2 (S := [b]) hown ((Only.refl _ _).setCell (.inl (by simp)) _) (fun k hk hm => ?_)⟩, fun k hk => ?_, ?_⟩
 ·simp at hm
  subst hm
  rcases hB _ hk with h | h
  ·exact (hgl _ h).2 rfl
  ·omega
 ·rcases hB k hk with h | h
  ·exact .inl h
  ·exact .inr (by omega)
 ·exact (bw_only' hW (hO.mono (S' := b :: g.toList) (fun x hx => .inl (by simp at hx ⊢; exact .inr hx)))).setCell (.inl (by simp)) _
theorem search_set (b X3 X5 : Nat) (g : Option Nat) (room : Nat) (hi : Int) (rs : List Rg) (W : World) (hS : IsSet W b g room rs) (h3 : Blk W X3 76 #[.pointer (some ⟨b, 0, none⟩)]) (h5 : Blk W X5 3 #[ZI ZQ hi]) (m0 : 0 ≤ hi) (m1 : hi ≤ 9007199254740991) :
  Calls Tryz.prog 115 #[ZI ZQ rs.length, .func (.func 116) #[] #[.pointer (some ⟨X3, 0, none⟩), .pointer (some ⟨X5, 0, none⟩)]] W fun e w' => e = .returned (ZI ZQ (fstLo (hi + 1) rs)) ∧ Below W.heap.size W w' := by
 obtain ⟨hlen, _, hroom⟩ := hS.len
 have hgood := hS.good
 obtain ⟨a, c, c0, c1, _, _, _, hat⟩ := hS.cells
 refine (search_add ⟨X3, 0, none⟩ ⟨X5, 0, none⟩ rs.length (fstLo (hi + 1) rs) (fun i => decide (hi + 1 < (atR rs i).lo)) W (by omega) (fun d i hil => ?_) (fstLe_lo _ _) (fun i hil => ?_) (fun i hil hl => ?_)).mono (fun e w' ⟨he, q, hq⟩ => ⟨he, hq ▸ below_drewN (Below.refl _ _) q⟩)
 ·obtain ⟨r, hr⟩ : ∃ r, rs[i]? = some r := ⟨_, List.getElem?_eq_getElem hil⟩
  obtain ⟨k, rfl, hk, z0, z1⟩ := hat i r hr
  rw [atR_some hr]
  exact add1_any _ _ b k i rs.length c hi r.lo _ (h3.cell 0) (h5.cell 0) c1 z0 (by omega) (by omega) m0 m1
 ·have hl : i < rs.length := Nat.lt_of_lt_of_le hil (fstLe_lo _ rs)
  have := fstLo_lt hil (List.getElem?_eq_getElem hl)
  rw [atR_some (List.getElem?_eq_getElem hl)]
  simp; omega
 ·have := fstLo_ge hgood hil (List.getElem?_eq_getElem hl)
  rw [atR_some (List.getElem?_eq_getElem hl)]
  simp; omega

set_option maxRecDepth 100000 in
set_option maxHeartbeats 4000000 in
theorem add_ok (b : Nat) (g : Option Nat) (room : Nat) (lo hi : Int) (rs : List Rg) (w : World) (hS : IsSet w b g room rs) (l0 : 0 ≤ lo) (l1 : lo ≤ hi) (m1 : hi ≤ 9007199254740991) (hroom2 : (addR lo hi rs).length ≤ room) :
  Calls Tryz.prog 63 #[.pointer (some ⟨b, 0, none⟩), ZI ZQ lo, ZI ZQ hi] w (SAddPost w b g room (addR lo hi rs)) := by
 obtain ⟨hlen, hr1, hroom⟩ := hS.len
 have hgood := hS.good
 have hb := hS.lt.1
 have HW : IsSet ((w.alloc (.cells #[.pointer (some ⟨b, 0, none⟩)] 76)).alloc (.cells #[ZI ZQ hi] 3)) b g room rs := (hS.alloc _).alloc _
 have hW0 : Below w.heap.size w ((w.alloc (.cells #[.pointer (some ⟨b, 0, none⟩)] 76)).alloc (.cells #[ZI ZQ hi] 3)) := ((Below.refl _ _).alloc (Nat.le_refl _) _).alloc (by simp) _
 have hx3 : Blk ((w.alloc (.cells #[.pointer (some ⟨b, 0, none⟩)] 76)).alloc (.cells #[ZI ZQ hi] 3)) w.heap.size 76 #[.pointer (some ⟨b, 0, none⟩)] := (Blk.new w _ _).alloc _
 have hx5 : Blk ((w.alloc (.cells #[.pointer (some ⟨b, 0, none⟩)] 76)).alloc (.cells #[ZI ZQ hi] 3)) (w.heap.size + 1) 3 #[ZI ZQ hi] := blk_new_at (by simp)
 have l2 : lo ≤ 9007199254740991 := by omega
 have m0 : 0 ≤ hi := by omega
 have hnl : ¬ hi < lo := by omega
 have hw1 : IntKind.i64.wrap (lo - 1) = lo - 1 := by rw [IntKind.wrap_i64]; omega
 have HWW := hide hw1
 clear hw1
 go_enter Tryz.func63, Tryz.ntmps63
 obtain ⟨f, hf⟩ : ∃ f, fstHi (lo - 1) rs = f := ⟨_, rfl⟩
 obtain ⟨u, hu⟩ : ∃ u, fstLo (hi + 1) rs = u := ⟨_, rfl⟩
 obtain ⟨J, hJ⟩ : ∃ J, joined f u lo hi rs = J := ⟨_, rfl⟩
 have HF := hide hf
 have HU := hide hu
 have HJ := hide hJ
 have hfu : f ≤ u := by have := from_le_to hgood l1; omega
 have hun : u ≤ rs.length := by have := fstLe_lo (hi + 1) rs; omega
 clear hf hu hJ
 go_upto_if 39 with (first
  | (go_at_call 112; obtain ⟨a, c, c0, _, _, _, _, _⟩ := HW.cells; refine (snone_no b room _ c0 hr1).mono ?_; rintro e1 w1 ⟨rfl, rfl⟩)
  | (go_at_call_of 113 (Value.int IntKind.i64 lo); refine (sis_yes lo _ l0 l2).mono ?_; rintro e2 w2 ⟨rfl, rfl⟩) | (go_at_call 113; refine (sis_yes hi _ m0 m1).mono ?_; rintro e2 w2 ⟨rfl, rfl⟩)
  | (go_at_call 114; refine (first_any b g room (lo - 1) rs _ HW).mono ?_; rintro e3 w3 ⟨rfl, hb3⟩; rw [HF.out]; have HW3 := HW.below hb3; have hx33 := (only_of_below hb3 (S := [])).blk hx3 (by simp); have hx53 := (only_of_below hb3 (S := [])).blk hx5 (by simp); have hW3 := bw_below' hW0 hb3; have d3 : w3.cell? ⟨w.heap.size, 0, none⟩ = some (.pointer (some ⟨b, 0, none⟩)) := hx33.cell 0; have d5 : w3.cell? ⟨w.heap.size + 1, 0, none⟩ = some (ZI ZQ hi) := hx53.cell 0; obtain ⟨a3, k3, s0, s1, hrow3, hB3, hown3, hat3⟩ := HW3.cells; have HAT3 := hide hat3; have HOWN3 := hide hown3; have HROW3 := hide hrow3; clear hat3 hown3 hrow3)
  | (go_at_call 115; refine (search_set b _ _ g room hi rs _ HW3 hx33 hx53 m0 m1).mono ?_; rintro e4 w4 ⟨rfl, hb4⟩; rw [HU.out]; have HW4 := HW3.below hb4; have hx34 := ((only_of_below hb4 (S := [])).blk hx33 (by simp)); have hx54 := ((only_of_below hb4 (S := [])).blk hx53 (by simp)); have hW4 := bw_below' hW3 hb4; have f3 : w4.cell? ⟨w.heap.size, 0, none⟩ = some (.pointer (some ⟨b, 0, none⟩)) := hx34.cell 0; have f5 : w4.cell? ⟨w.heap.size + 1, 0, none⟩ = some (ZI ZQ hi) := hx54.cell 0; have hl5 := hx54.lt; have hl3 := hx34.lt))
 go_cut [] (fun wc => IsSet wc b g room rs ∧ Blk wc w.heap.size 76 #[.pointer (some ⟨b, 0, none⟩)] ∧ Blk wc (w.heap.size + 1) 3 #[ZI ZQ hi] ∧ Blk wc w4.heap.size 93 #[ZI ZQ J.lo, ZI ZQ J.hi] ∧ Below w.heap.size w wc)
 case first =>
  have hb44 := HW4.lt.1
  have hg44 := fun k e => (HW4.lt.2 k e).1
  have h9 := Blk.new w4 93 #[ZI ZQ lo, ZI ZQ hi]
  have HW9 := HW4.alloc (.cells #[ZI ZQ lo, ZI ZQ hi] 93)
  have hx39 := hx34.alloc (.cells #[ZI ZQ lo, ZI ZQ hi] 93)
  have hx59 := hx54.alloc (.cells #[ZI ZQ lo, ZI ZQ hi] 93)
  have hW9 := bw_alloc' hW4 (.cells #[ZI ZQ lo, ZI ZQ hi] 93)
  clear HW3 hx33 hx53 hW3 HW4 hx34 hx54 hW4 f3 f5 d3 d5 hb4 hb3 HW hx3 hx5 hW0 s0 s1
  by_cases hlt : f < u
  ·obtain ⟨m, rfl⟩ : ∃ m, u = m + 1 := ⟨u - 1, by omega⟩
   obtain ⟨x, hx⟩ : ∃ x, rs[f]? = some x := ⟨_, List.getElem?_eq_getElem (by omega)⟩
   obtain ⟨y, hy⟩ : ∃ y, rs[m]? = some y := ⟨_, List.getElem?_eq_getElem (by omega)⟩
   have e : J = ⟨min lo x.lo, max hi y.hi⟩ := by rw [← HJ.out]; unfold joined; rw [if_pos hlt, atR_some hx, Nat.add_sub_cancel, atR_some hy]
   refine name_world (fun W => IsSet W b g room rs ∧ Blk W w.heap.size 76 #[.pointer (some ⟨b, 0, none⟩)] ∧ Blk W (w.heap.size + 1) 3 #[ZI ZQ hi] ∧ Blk W w4.heap.size 93 #[ZI ZQ lo, ZI ZQ hi] ∧ Below w.heap.size w W) ⟨HW9, hx39, hx59, h9, hW9⟩ ?_
   clear HW9 hx39 hx59 h9 hW9
   rintro W ⟨HW9, hx39, hx59, h9, hW9⟩
   obtain ⟨a9, k9, q0, q1, hv9, _, _, hat9⟩ := HW9.cells
   obtain ⟨k, rfl, hk, zx0, zx1⟩ := hat9 f x hx
   obtain ⟨k', hk', _, zy0, zy1⟩ := hat9 m y hy
   cases hk'
   clear hat9
   obtain ⟨X, hX⟩ : ∃ X, w4.heap.size = X := ⟨_, rfl⟩
   have hk44 := hg44 k hv9.symm
   have hg45 := hg44
   rw [hX] at h9 hb44 hl3 hl5 hk44 hg45 ⊢
   clear hg44
   have HXX := hide hX
   clear hX
   obtain ⟨X3, hX3⟩ : ∃ X, w.heap.size = X := ⟨_, rfl⟩
   obtain ⟨X5, hX5⟩ : ∃ X, X3 + 1 = X := ⟨_, rfl⟩
   rw [hX3] at hx39 hx59 hl3 hl5 hW9 ⊢
   rw [hX5] at hx59 hl5 ⊢
   have b1 : (0 : Int) ≤ (f : Int) := by omega
   have b2 : (f : Int) < (rs.length : Int) := by omega
   have b3 : (0 : Int) ≤ (m : Int) := by omega
   have b4 : (m : Int) < (rs.length : Int) := by omega
   have hwm : IntKind.i64.wrap (m : Int) = (m : Int) := by rw [IntKind.wrap_i64]; omega
   have hwn : IntKind.i64.wrap ((m : Int) + 1 - 1) = (m : Int) := by rw [IntKind.wrap_i64]; omega
   have hwo : IntKind.i64.wrap (((m + 1 : Nat) : Int) - 1) = (m : Int) := by rw [IntKind.wrap_i64]; omega
   have hmt : (m : Int).toNat = m := by omega
   have hP : (if x.lo < lo then x.lo else lo) = J.lo := by rw [e]; show _ = min lo x.lo; split <;> omega
   have hQ : (if hi < y.hi then y.hi else hi) = J.hi := by rw [e]; show _ = max hi y.hi; split <;> omega
   clear e
   have HX := hide hx
   have HY := hide hy
   have HX3 := hide hX3
   have HX5 := hide hX5
   clear hx hy hX3 hX5
   have hlt9 := h9.lt
   have q3 := hx39.cell 0
   have q5 := hx59.cell 0
   have y0 := h9.cell 0
   have y1 := h9.cell 1
   have y2 := h9.frozen 0
   have y3 := h9.frozen 1
   have n3 : X3 ≠ X := by omega
   have n5 : X5 ≠ X := by omega
   have nb : b ≠ X := by omega
   have nk : k ≠ X := by omega
   have N3 := hide n3
   have N5 := hide n5
   have NB := hide nb
   have NK := hide nk
   clear n3 n5 nb nk
   go_wp2_with fail
   go_region_held3 (fun w' => w'.cell? ⟨X3, 0, none⟩ = some (.pointer (some ⟨b, 0, none⟩)) ∧ w'.cell? ⟨X5, 0, none⟩ = some (ZI ZQ hi) ∧ w'.cell? ⟨b, 1, none⟩ = some (.slice (some ⟨k, 0, none⟩) rs.length k9) ∧ w'.cell? ⟨k, f * 2, none⟩ = some (ZI ZQ x.lo) ∧ w'.cell? ⟨k, m * 2 + 1, none⟩ = some (ZI ZQ y.hi)) (first | exact ⟨q3, q5, q1, zx0, zy1⟩ | exact ⟨cfar (cfar q3 N3.out) N3.out, cfar (cfar q5 N5.out) N5.out, cfar (cfar q1 NB.out) NB.out, cfar (cfar zx0 NK.out) NK.out, cfar (cfar zy1 NK.out) NK.out⟩) (fail)
   all_goals
    go_wp2_with fail
    have hq1 := hW9.size
    have n3 := N3.out
    have n5 := N5.out
    have nb := NB.out
    have e5 := HX5.out
    have e3 := HX3.out
    have eX := HXX.out
    subst e5
    subst e3
    subst eX
    go_meet
    refine (fun (hO : Only [w4.heap.size] W _) h9' => ⟨HW9.only hO (by simpa using nb) (fun k' e => by rw [← hv9] at e; cases e; simpa using NK.out), hO.blk hx39 (by simpa using n3), hO.blk hx59 (by simpa using n5), h9', hW9.trans (hO.below (by simp; omega) (by omega))⟩) ?_ ?_
    ·repeat (first | with_reducible refine Only.setCell ?_ (.inl (by simp)) _ | with_reducible refine Only.drewN ?_ _ | with_reducible refine Only.drew ?_)
     exact Only.refl _ _
    ·exact (h9.set 0 (ZI ZQ J.lo)).set 1 (ZI ZQ J.hi)
  ·have e : J = ⟨lo, hi⟩ := by rw [← HJ.out]; unfold joined; rw [if_neg hlt]
   subst e
   go_wp2_with fail
   go_meet
   exact ⟨HW9, hx39, hx59, h9, hW9⟩
 case rest =>
  have hbx := hW4.size
  clear HW3 hx33 hx53 hW3 HW4 hx34 hx54 hW4 f3 f5 d3 d5 hb4 hb3 HW hx3 hx5 hW0 s0 s1
  obtain ⟨HWc, hx3, hx5, h9, hWc⟩ := hcut
  have hlen2 : ¬ ((rs.length : Int) - ((u : Int) - (f : Int)) + 1 > (room : Int)) := by have := addR_length (lo := lo) (hi := hi) hgood l1; rw [HF.out, HU.out] at this; omega
  obtain ⟨ac, kc, q0, q1, hvc, hBc, hownc, _⟩ := HWc.cells
  have q3 := hx3.cell 0
  have q5 := hx5.cell 0
  have y0 := h9.cell 0
  have y1 := h9.cell 1
  have hwa : IntKind.i64.wrap ((u : Int) - (f : Int)) = (u : Int) - (f : Int) := by rw [IntKind.wrap_i64]; omega
  have hwb : IntKind.i64.wrap ((rs.length : Int) - ((u : Int) - (f : Int))) = (rs.length : Int) - ((u : Int) - (f : Int)) := by rw [IntKind.wrap_i64]; omega
  have hwc : IntKind.i64.wrap ((rs.length : Int) - ((u : Int) - (f : Int)) + 1) = (rs.length : Int) - ((u : Int) - (f : Int)) + 1 := by rw [IntKind.wrap_i64]; omega
  have HLL := hide hlen2
  have HV := hide hvc
  clear hvc
  go_wp2_with fail
  have hys : addR lo hi rs = rs.take f ++ J :: rs.drop u := by rw [addR_eq hgood l1, HF.out, HU.out, HJ.out]
  have hgd := (addR_good hgood l1 l0 m1).1
  rw [hys] at hroom2 hgd
  have HYS := hide hys
  have hgl := hide (fun k (e : g = some k) => hS.lt.2 k e)
  have hszc := hWc.size
  clear hys
  go_quiet (fail)
  go_wp2_with fail
  refine name_world (fun W => IsSet W b g room rs ∧ Blk W w.heap.size 76 #[.pointer (some ⟨b, 0, none⟩)] ∧ Blk W w4.heap.size 93 #[ZI ZQ J.lo, ZI ZQ J.hi] ∧ Below w.heap.size w W ∧ W.ownsRow 0 93 2 (.slice ac rs.length kc) rs.length (rgsCells rs) ∧ Blk W b 121 #[ZI ZQ room, .slice ac rs.length kc]) ⟨by exact HWc.drewN _, by exact hx3.drewN _, by exact h9.drewN _, by exact below_drewN hWc _, by exact own_only2 (S := []) hownc ((Only.refl _ _).drewN _) (by simp), by exact hBc.drewN _⟩ ?_
  clear HWc hx3 hx5 h9 hWc q0 q1 q3 q5 y0 y1 hBc hownc hszc
  rintro W ⟨HWc, hx3, h9, hWc, hownc, hBc⟩
  have q1 := hBc.cell 1
  have q3 := hx3.cell 0
  have y0 := h9.cell 0
  have y1 := h9.cell 1
  have hl3 := hx3.lt
  have hl9 := h9.lt
  have hlb := hBc.lt
  have hszc := hWc.size
  have hbg := hide (show b ∉ g.toList from fun hm => absurd rfl ((hgl.out b (by simpa using hm)).2))
  have h3g := hide (show w.heap.size ∉ g.toList from fun hm => by have := (hgl.out w.heap.size (by simpa using hm)).1; omega)
  have n3b := hide (show w.heap.size ≠ b by omega)
  have n9b := hide (show w4.heap.size ≠ b by omega)
  have h9g := hide (show w4.heap.size ∉ g.toList from fun hm => by have := (hgl.out w4.heap.size (by simpa using hm)).1; omega)
  refine wp_region_S (fun w' => w'.cell? ⟨w.heap.size, 0, none⟩ = some (.pointer (some ⟨b, 0, none⟩)) ∧ w'.cell? ⟨b, 1, none⟩ = some (.slice ac rs.length kc) ∧ w'.cell? ⟨w4.heap.size, 0, none⟩ = some (ZI ZQ J.lo) ∧ w'.cell? ⟨w4.heap.size, 1, none⟩ = some (ZI ZQ J.hi)) 12 (by kernel_rfl) (by exact ⟨q3, q1, y0, y1⟩) (fun hHeld => ?_)
  refine tsP 0 ?v1 rfl ?hy1 ?rest1
  case hy1 => intro w hSw; (try dsimp only at hSw); go_simp; try with_reducible rfl
  try simp only [ZP, ZD, ZE, ZF]
  refine tsP 1 ?v2 rfl ?hy2 ?rest2
  case hy2 => intro w hSw; (try dsimp only at hSw); go_simp; try with_reducible rfl
  try simp only [ZP, ZD, ZE, ZF]
  refine tsP 2 ?v3 rfl ?hy3 ?rest3
  case hy3 => intro w hSw; (try dsimp only at hSw); go_simp; try with_reducible rfl
  try simp only [ZP, ZD, ZE, ZF]
  refine tsP 3 ?v4 rfl ?hy4 ?rest4
  case hy4 => intro w hSw; (try dsimp only at hSw); go_simp; try with_reducible rfl
  try simp only [ZP, ZD, ZE, ZF]
  refine tsP 4 ?v5 rfl ?hy5 ?rest5
  case hy5 => intro w hSw; (try dsimp only at hSw); go_simp; try with_reducible rfl
  try simp only [ZP, ZD, ZE, ZF]
  refine tsP 5 ?v6 rfl ?hy6 ?rest6
  case hy6 => intro w hSw; (try dsimp only at hSw); go_simp; try with_reducible rfl
  try simp only [ZP, ZD, ZE, ZF]
  refine tsP 6 ?v7 rfl ?hy7 ?rest7
  case hy7 => intro w hSw; (try dsimp only at hSw); go_simp; try with_reducible rfl
  try simp only [ZP, ZD, ZE, ZF]
  refine tsP 7 ?v8 rfl ?hy8 ?rest8
  case hy8 => intro w hSw; (try dsimp only at hSw); go_simp; try with_reducible rfl
  try simp only [ZP, ZD, ZE, ZF]
  refine wpAnyS_one (i := 8) rfl (by kernel_rfl) (fun K hK => ?_)
  go_simp
  refine hK.out _ _ (fun _ => ⟨(World.cell?_alloc_lt _ _ _ hl3).trans q3, (World.cell?_alloc_lt _ _ _ hlb).trans q1, (World.cell?_alloc_lt _ _ _ hl9).trans y0, (World.cell?_alloc_lt _ _ _ hl9).trans y1⟩) (fun hH => ?_)
  have hHeld := hH rfl
  clear hK K hH
  try simp only [ZP, ZD, ZE, ZF]
  refine wpAnyS_one (i := 9) rfl (by kernel_rfl) (fun K hK => ?_)
  go_simp
  go_at_call 117
  refine (replace_any 0 rs.length 1 W.heap.size f u (.slice ac rs.length kc) rs J _ rfl (own_only2 (S := []) hownc (by repeat (first | exact Only.refl _ _ | with_reducible refine Only.alloc ?_ _ | with_reducible refine Only.drewN ?_ _ | with_reducible refine Only.drew ?_)) (by simp)) (by exact Blk.new W _ _) (by rw [HV.out]; intro e; have := (hgl.out _ e).1; omega) (by omega) (Nat.zero_le _) hfu hun).mono ?_
  rintro e w5 ⟨v5, rfl, hown5, hO5, hB5⟩; obtain ⟨a5, m5, c5, rfl⟩ := own_slice3 hown5; rw [HV.out] at hO5 hB5; have hO5 := Only.trans (S := g.toList) (w := W) (by repeat (first | exact Only.refl _ _ | with_reducible refine Only.alloc ?_ _ | with_reducible refine Only.drewN ?_ _ | with_reducible refine Only.drew ?_)) hO5 (fun x hx => .inl hx); have hbb := hO5.blk hBc (hbg.out); have z0 := hbb.cell 1; have z1 := hbb.frozen 1; have z2 := (hO5.blk hx3 h3g.out).cell 0; have z3 := (hO5.blk h9 h9g.out).cell 0; have z4 := (hO5.blk h9 h9g.out).cell 1
  refine hK.out _ _ (fun _ => ⟨z2, z0, z3, z4⟩) (fun hH => ?_)
  have hHeld := hH rfl
  clear hK K hH
  try simp only [ZP, ZD, ZE, ZF]
  refine wpAnyS_one (i := 10) rfl (by kernel_rfl) (fun K hK => ?_)
  go_simp
  refine hK.out _ _ (fun _ => hHeld) (fun hH => ?_)
  have hHeld := hH rfl
  clear hK K hH
  try simp only [ZP, ZD, ZE, ZF]
  refine wpAnyS_one (i := 11) rfl (by kernel_rfl) (fun K hK => ?_)
  go_simp
  refine hK.out _ _ (fun _ => hHeld) (fun hH => ?_)
  have hHeld := hH rfl
  clear hK K hH
  try simp only [ZP, ZD, ZE, ZF]
  refine wpAnyS_one (i := 12) rfl (by kernel_rfl) (fun K hK => ?_)
  go_simp
  refine hK.out _ _ (fun h => absurd h (by decide)) (fun _ => ?_)
  clear hK K
  try simp only [ZP, ZD, ZE, ZF]
  refine wpAnyS_done (by kernel_rfl) ?_ _
  all_goals
   go_wp2_with fail
   go_ret
   rw [HYS.out]
   exact add_done hr1 hroom hroom2 hgd hbb hown5 hO5 hB5 hWc hb hgl.out (by first | exact Nat.le_refl _ | (simp; done) | (simp; omega) | omega)
end Go.Proofs.YtgicljeedegncaaGreat
