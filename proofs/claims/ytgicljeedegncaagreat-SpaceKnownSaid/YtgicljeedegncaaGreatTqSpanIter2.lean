/-
 2 texts in one (SpanIter, SpanIter2).
-/
import Derived.Test.YtgicljeedegncaaGreatTqSpanSame
import Derived.RangeFuncNested
import Derived.RangeFuncBound
import Derived.RangeFuncCalls
import Derived.RangeFuncLeaves
import Derived.Shelf.Abstract
import Derived.OwnWalkIn
import Derived.TacticsInMore
import Derived.LoopNIn
import Derived.LoopIn
namespace Go.Proofs.YtgicljeedegncaaGreat
set_option linter.unusedSimpArgs false
set_option linter.unusedVariables false
open Go.RowKit Go.Shelf
attribute [local go_sem] Oper.semAt_some

/-- The blocks of T lie as they lay. -/
def KeepsT (T : List Nat) (W W' : World) : Prop := ∀ k ∈ T, W'.heap[k]? = W.heap[k]?
section
variable {T : List Nat} {A B C : World}
theorem KeepsT.trans (h : KeepsT T A B) (k : KeepsT T B C) : KeepsT T A C := fun x hx => (k x hx).trans (h x hx)
theorem KeepsT.cell (h : KeepsT T A B) {k : Nat} (hk : k ∈ T) (i : Nat) : B.cell? ⟨k, i, none⟩ = A.cell? ⟨k, i, none⟩ := by simp only [World.cell?, h k hk]
theorem keepsT_b {w : World} (hT : ∀ k ∈ T, k < w.heap.size) (W : World) (l : Nat) (o o' : Obj) (hl : w.heap.size ≤ l) (h : W.heap[l]? = some o) (_ : o.isCells = false) (_ : o.isWalk = false) : KeepsT T W (W.putObj l o') := fun k hk =>
 (grownBy_putObj' W l o').block k (by have := hT k hk; have := (Array.getElem?_eq_some_iff.1 h).1; omega) (fun e => by cases e; have := hT _ hk; omega)
theorem keepsT_below {n : Nat} (hT : ∀ k ∈ T, k < n) (h : Below n A B) : KeepsT T A B := fun k hk => h.block k (hT k hk)
end
/-- What the iterator reads. -/
structure FallAt (W : World) (T : List Nat) (Bs b : Nat) (rs : List Rg) : Prop where
 inBs : Bs ∈ T
 inb : b ∈ T
 box : W.cell? ⟨Bs, 0, none⟩ = some (.pointer (some ⟨b, 0, none⟩))
 row : ∃ a c, W.cell? ⟨b, 1, none⟩ = some (.slice a rs.length c) ∧ ∀ (i : Nat) (r : Rg), rs[i]? = some r → ∃ k, a = some ⟨k, 0, none⟩ ∧ k ∈ T ∧ W.cell? ⟨k, i * 2, none⟩ = some (.int .i64 r.lo) ∧ W.cell? ⟨k, i * 2 + 1, none⟩ = some (.int .i64 r.hi)
theorem FallAt.keeps {W W' : World} {T : List Nat} {Bs b : Nat} {rs : List Rg} (h : FallAt W T Bs b rs) (k : KeepsT T W W') : FallAt W' T Bs b rs := by
 obtain ⟨h1, h2, h3, a, c, h4, h5⟩ := h
 refine ⟨h1, h2, (k.cell h1 0).trans h3, a, c, (k.cell h2 1).trans h4, fun i r hi => ?_⟩
 obtain ⟨g, e, hg, z0, z1⟩ := h5 i r hi
 exact ⟨g, e, hg, (k.cell hg _).trans z0, (k.cell hg _).trans z1⟩
def encR (r : Rg) : Value := .agg #[.int .i64 r.lo, .int .i64 r.hi]

set_option maxRecDepth 100000 in
set_option maxHeartbeats 2000000 in
theorem falling1_in (F : Fence) (n : Nat) (hF : F.fn 173) (hro : F.round = none) (hn : 1 ≤ n) (l Bs b : Nat) (T : List Nat) (rs : List Rg) (hlen : rs.length ≤ 1000) (J Jx : List Rg → World → Prop)
  (hY : ∀ pre x W, J pre W → pre.length < rs.length → YieldAt F (n - 1) Tryz.prog l #[encR x] W fun e W' =>
   (e = .returned (.bool true) ∧ J (pre ++ [x]) W' ∧ KeepsT T W W') ∨ (e = .returned (.bool false) ∧ Jx (pre ++ [x]) W'))
  (W : World) (hA : FallAt W T Bs b rs) (h0 : J [] W) :
  CallsIn F n Tryz.prog 173 #[.func (.yield l) #[] #[], .pointer (some ⟨Bs, 0, none⟩)] W fun e W' => (∃ v, e = .returned v) ∧
   ((∃ ys, ys = rs.reverse ∧ J ys W') ∨ (∃ pre, pre <+: rs.reverse ∧ Jx pre W')) := by
 refine callsIn_of_wp Tryz.func173 rfl hF ?_ hro
 simp only [Tryz.ntmps173, List.size_toArray, List.length_cons, List.length_nil, Nat.reduceAdd, Nat.reduceSub, Array.replicate_succ, Array.replicate_zero, List.push_toArray, List.append_toArray, List.nil_append, List.cons_append]
 have HA := hide hA
 obtain ⟨_, _, q0, a, c, q1, _⟩ := hA
 have hw1 : IntKind.i64.wrap ((rs.length : Int) - 1) = (rs.length : Int) - 1 := by rw [IntKind.wrap_i64]; omega
 gi_wp2
 gi_loopw [3] (fun s3 wr => ∃ m : Nat, m ≤ rs.length ∧ s3 = .int .i64 ((m : Int) - 1) ∧ J (rs.drop m).reverse wr ∧ FallAt wr T Bs b rs)
  (fun s3 _ => (intOf s3 + 1).toNat)
 case atStart => exact ⟨rs.length, Nat.le_refl _, rfl, by rw [List.drop_length]; exact h0, HA.out⟩
 case round =>
  obtain ⟨m, hm, rfl, hJs, hAr⟩ := hrel
  have HAR := hide hAr
  obtain ⟨_, _, p0, ar, cr, p1, hat⟩ := hAr
  cases m with
  | zero =>
   rw [show (((0 : Nat) : Int) - 1) = -1 from rfl]
   have hneg : ¬ (0 : Int) ≤ -1 := by omega
   gi_wp2
   refine ⟨fun _ h => (by cases h), ?_⟩
   gi_wp2
   go_end0
   exact ⟨⟨_, rfl⟩, .inl ⟨_, rfl, by simpa using hJs⟩⟩
  | succ m =>
   obtain ⟨r, hr⟩ : ∃ r, rs[m]? = some r := ⟨_, List.getElem?_eq_getElem (by omega)⟩
   obtain ⟨k, rfl, hk, z0, z1⟩ := hat m r hr
   have hstep : (rs.drop (m + 1)).reverse ++ [r] = (rs.drop m).reverse := by
    have e : rs.drop m = r :: rs.drop (m + 1) := by
     rw [List.drop_eq_getElem_cons (by omega : m < rs.length)]
     congr 1
     have := List.getElem?_eq_getElem (show m < rs.length by omega)
     rw [hr] at this
     exact (Option.some.inj this).symm
    rw [e, List.reverse_cons]
   obtain ⟨fn, tmps, assign, body, hy, hR⟩ := hY _ r wr hJs (by simp; omega)
   unfold encR at hy
   rw [hstep] at hR
   rw [show (((m + 1 : Nat) : Int) - 1) = (m : Int) by omega]
   have hm0 : (0 : Int) ≤ (m : Int) := by omega
   have hm1 : (m : Int) < (rs.length : Int) := by omega
   have hw2 : IntKind.i64.wrap ((m : Int) - 1) = (m : Int) - 1 := by rw [IntKind.wrap_i64]; omega
   clear hat hstep
   gi_wp2
   refine hR.mono ?_
   rintro e W3 (⟨rfl, hJ3, hk3⟩ | ⟨rfl, hJx3⟩)
   ·gi_wp2
    go_roundw
    case rel => exact ⟨m, by omega, rfl, hJ3, HAR.out.keeps hk3⟩
    case measure => simp [intOf]
   ·gi_wp2
    go_end0
    exact ⟨⟨_, rfl⟩, .inr ⟨_, ⟨(rs.take m).reverse, by rw [← List.reverse_append, List.take_append_drop]⟩, hJx3⟩⟩

set_option maxHeartbeats 1000000 in
/-- falling: the receiver is boxed; the function value captures the box. -/
theorem falling_in (F : Fence) (n : Nat) (hF : F.fn 152) (hro : F.round = none) (b : Nat) (w : World) :
  CallsIn F n Tryz.prog 152 #[.pointer (some ⟨b, 0, none⟩)] w fun e w' => e = .returned (.func (.func 173) #[] #[.pointer (some ⟨w.heap.size, 0, none⟩)]) ∧ w' = w.alloc (.cells #[.pointer (some ⟨b, 0, none⟩)] 76) := by
 refine callsIn_of_wp Tryz.func152 rfl hF ?_ hro
 simp only [Tryz.ntmps152, List.size_toArray, List.length_cons, List.length_nil, Nat.reduceAdd, Nat.reduceSub, Array.replicate_succ, Array.replicate_zero, List.push_toArray, List.append_toArray, List.nil_append, List.cons_append]
 gi_wp2
 go_ret
 exact ⟨rfl, rfl⟩

theorem falling_stops (F : Fence) (n : Nat) (hF : F.fn 173) (hro : F.round = none) (hn : 1 ≤ n) (Bs b : Nat) (T : List Nat) (rs : List Rg) (hlen : rs.length ≤ 1000) (w : World) (hA : FallAt w T Bs b rs) (hT : ∀ k ∈ T, k < w.heap.size) :
  SeqStopsK F n Tryz.prog 173 #[.pointer (some ⟨Bs, 0, none⟩)] (fun r : Rg => #[encR r]) (KeepsT T) (fun ys => ys = rs.reverse) (fun pre => pre <+: rs.reverse) rs.length w := fun l J Jx W hW _ _ hY h0 =>
 falling1_in F n hF hro hn l Bs b T rs hlen J Jx hY W (hA.keeps (keepsT_below hT hW)) h0
end Go.Proofs.YtgicljeedegncaaGreat

namespace Go.Proofs.YtgicljeedegncaaGreat
set_option linter.unusedSimpArgs false
set_option linter.unusedVariables false
open Go.RowKit Go.Shelf
attribute [local go_sem] Oper.semAt_some

theorem blk_own {β : Type} (B : Nat) (t : TypeId) (cs : Array Value) : Own (fun (_ : β) W => Blk W B t cs) := fun _ X Y row hs hg hrow =>
 (hg.block B hs.lt (fun e' => by obtain ⟨o, ho, hc⟩ := hrow B e'.symm; rw [show X.heap[B]? = _ from hs] at ho; cases ho; cases hc)).trans hs
theorem rgs_rev_len (rs : List Rg) : rs.reverse.length = rs.length := List.length_reverse

set_option maxRecDepth 100000 in
set_option maxHeartbeats 4000000 in
theorem appendSeq_in (F : Fence) (n : Nat) (h1F : F.fn 172) (h2F : F.fn 173) (hro : F.round = none) (hn : 3 ≤ n) (Bs b : Nat) (T : List Nat) (rs : List Rg) (hlen : rs.length ≤ 1000) (w : World) (hA : FallAt w T Bs b rs) (hT : ∀ k ∈ T, k < w.heap.size) :
  CallsIn F n Tryz.prog 172 #[.slice none 0 0, .func (.func 173) #[] #[.pointer (some ⟨Bs, 0, none⟩)]] w fun e W' => ∃ v, e = .returned v ∧ W'.ownsRow w.heap.size 93 2 v rs.length (rgsCells rs.reverse) ∧ (v = .slice none 0 0 ↔ rs = []) ∧ Below w.heap.size w W' := by
 have h1 : 1 ≤ n := by omega
 obtain ⟨i0, hi, hz0, hz1, hz2⟩ := info_parts rg_info
 refine callsIn_of_wp_marks Tryz.func172 rfl h1F ?_ hro
 simp only [Tryz.ntmps172, List.size_toArray, List.length_cons, List.length_nil, Nat.reduceAdd, Nat.reduceSub, Array.replicate_succ, Array.replicate_zero, List.push_toArray, List.append_toArray, List.nil_append, List.cons_append]
 gi_wp2
 have bO := Boxed.new w 50 (.slice none 0 0)
 have hB0 : Below w.heap.size w (w.alloc (.cells #[.slice none 0 0] 50)) := (Below.refl _ w).alloc (Nat.le_refl _) _
 refine wpIn_rangeFunc_ownH hro h1 (gf := 173) (lb := #[.pointer (some ⟨Bs, 0, none⟩)]) rfl h2F (enters_of Tryz.func173 (by kernel_rfl) rfl)
  (falling_stops F (n - 1) h2F hro (by omega) Bs b T rs hlen (w.alloc (.cells #[.slice none 0 0] 50)) (hA.keeps (keepsT_below hT hB0)) (fun k hk => by have := hT k hk; simp; omega)) KeepsT.trans (keepsT_b (fun k hk => by have := hT k hk; simp; omega)) (Below.refl _ _) (fun _ => rfl)
  (fun pre W => (∃ v, Boxed W w.heap.size 50 v ∧ W.ownsRow w.heap.size 93 2 v pre.length (rgsCells pre) ∧ (v = .slice none 0 0 ↔ pre = [])) ∧ Below w.heap.size w W)
  (fun _ _ _ => False)
  (OwnFrom.and (Own.from (holdsRow_own w.heap.size w.heap.size 50 93 2 (fun pre => pre.length) (fun pre => rgsCells pre) (fun pre v => v = .slice none 0 0 ↔ pre = [])) _) (ownFrom_below (Nat.le_refl _) (by simp)))
  (fun _ _ _ _ _ hs _ _ => hs)
  ⟨⟨_, bO, World.ownsRow_nil _ _ _ _, by simp⟩, hB0⟩
  (fun x a' W => ∃ Bx, w.heap.size < Bx ∧ Blk W Bx 93 #[.int .i64 x.lo, .int .i64 x.hi] ∧ a' = { tmps := #[.slice none 0 0, .func (.func 173) #[] #[.pointer (some ⟨Bs, 0, none⟩)], .pointer (some ⟨w.heap.size, 0, none⟩), undef, .slice none 0 0, .pointer (some ⟨Bx, 0, none⟩), .func (.func 173) #[] #[.pointer (some ⟨Bs, 0, none⟩)], encR x, undef, undef, undef, undef, undef], defers := [] })
  (fun x a' _ X Y row hs hg hr => by obtain ⟨Bx, h1, h2, h3⟩ := hs; exact ⟨Bx, h1, blk_own (β := Unit) Bx 93 _ () X Y row h2 hg (fun r e => (hr r e).2), h3⟩)
  ?assign ?body ?done ?stop
 case assign =>
  rintro l pre x W K ⟨⟨v, bS1, hr1, hn1⟩, hB1⟩ hK
  unfold encR
  gi_wp2
  exact hK _ _ ((KeepsOthers.alloc _ _).from _) (keepsT_below hT ((Below.refl _ W).alloc hB1.size _)) ⟨⟨v, bS1.alloc _, hr1.alloc _, hn1⟩, hB1.alloc hB1.size _⟩ ⟨W.heap.size, bS1.lt, Blk.new W _ _, rfl⟩
 case body =>
  rintro l pre x a' W hl ⟨r, hr⟩ ⟨⟨v, hv, hrow, hnil⟩, hB⟩ ⟨Bx, hBx, bX, rfl⟩ hlt
  have hc := hv.cell
  have x0 := bX.cell 0
  have x1 := bX.cell 1
  have hsrc := hide (src_blk (Blk.new W 93 #[.int .i64 x.lo, .int .i64 x.hi]) (pre := []) (cs := rgCells x) (post := []) (o := 0) rfl rfl)
  have hone := hide (x_one x)
  have hpl : pre.length + 1 ≤ 1000 := by omega
  gi_wp2_with (gi_at_builtin; refine wpListIn_append_own _ rfl _ _ 50 rfl w.heap.size 93 i0 (.agg #[.int .i64 0, .int .i64 0]) 2 16 Tryz.underlying50 hi hz0 hz1 hz2 rfl (by decide) _ _ _ rfl (hrow.alloc _) ⟨W.heap.size, 0, none⟩ 1 1 (rgCells x) rfl rfl hsrc.out hone.out (by unfold maxLen; omega) (by omega) (by have := hB.size; simp; omega) ?_; intro v' w1 hown' hgrow _; obtain ⟨g', cap', rfl⟩ := ownsRow_succ hown'; obtain ⟨hv1, hv2, hr2, hk2, hb2⟩ := hv.appended (by decide) hrow hB.size (Nat.le_refl _) hown' hgrow; have hc1 := hv1.cell; have hf1 := hv1.frozen)
  exact ⟨hk2.from _, keepsT_below hT hb2, ⟨_, hv2, by rw [rgs_append, List.length_append]; simpa [rgsCells] using hr2, by simp⟩, hB.trans hb2⟩
 case done =>
  rintro D ys W hD rfl ⟨⟨v, hv, hrow, hnil⟩, hB⟩ hK
  have hc := hv.cell
  gi_wp2
  refine ⟨by simp, .inl ⟨_, _, rfl, run_takeDeferred hK, ?_⟩⟩
  rw [rgs_rev_len] at hrow
  exact ⟨_, results_tmp rfl _ _ _, v, rfl, ownsRow_putObj hrow _ hK rfl, by simpa using hnil, hB.trans (belowK_b (w := w) (Nat.le_refl _) W D _ _ (by simp at hD; omega) hK rfl rfl)⟩
 case stop =>
  rintro D c pre W _ _ h _
  exact h.elim

theorem own_base {w : World} {base base' e size n : Nat} {v : Value} {xs : List Value} (h : w.ownsRow base e size v n xs) (hb : base' ≤ base) : w.ownsRow base' e size v n xs := by
 refine ⟨h.1, ?_⟩
 rcases h.2 with h0 | ⟨g, cap, cur, hv, hg, r⟩
 ·exact .inl h0
 ·exact .inr ⟨g, cap, cur, hv, Nat.le_trans hb hg, r⟩
/-- What Ranges leaves. -/
def SRangesPost (w : World) (rs : List Rg) (e : Ending) (W' : World) : Prop :=
 ∃ v, e = .returned v ∧ W'.ownsRow w.heap.size 93 2 v rs.length (rgsCells rs.reverse) ∧ (v = .slice none 0 0 ↔ rs = []) ∧ Below w.heap.size w W'

set_option maxHeartbeats 1000000 in
theorem collect_in (F : Fence) (n : Nat) (h0F : F.fn 151) (h1F : F.fn 172) (h2F : F.fn 173) (hro : F.round = none) (hn : 4 ≤ n) (Bs b : Nat) (T : List Nat) (rs : List Rg) (hlen : rs.length ≤ 1000) (w : World) (hA : FallAt w T Bs b rs) (hT : ∀ k ∈ T, k < w.heap.size) :
  CallsIn F n Tryz.prog 151 #[.func (.func 173) #[] #[.pointer (some ⟨Bs, 0, none⟩)]] w (SRangesPost w rs) := by
 have h1 : 1 ≤ n := by omega
 refine callsIn_of_wp Tryz.func151 rfl h0F ?_ hro
 simp only [Tryz.ntmps151, List.size_toArray, List.length_cons, List.length_nil, Nat.reduceAdd, Nat.reduceSub, Array.replicate_succ, Array.replicate_zero, List.push_toArray, List.append_toArray, List.nil_append, List.cons_append]
 gi_wp2_with (gi_at_call 172; refine (appendSeq_in F (n - 1) h1F h2F hro (by omega) Bs b T rs hlen w hA hT).mono ?_; rintro e w' ⟨v, rfl, hrow, hnil, hb⟩)
 go_ret
 exact ⟨v, rfl, hrow, hnil, hb⟩

/-- What a set is, the iterator reads it. -/
theorem IsSet.fall {w w' : World} {b Bs room : Nat} {g : Option Nat} {rs : List Rg} (h : IsSet w b g room rs) (hb : Below w.heap.size w w') (hx : Blk w' Bs 76 #[.pointer (some ⟨b, 0, none⟩)]) : FallAt w' (Bs :: b :: g.toList) Bs b rs := by
 obtain ⟨a, c, _, q1, hv, _, _, hat⟩ := (h.below hb).cells
 refine ⟨by simp, by simp, hx.cell 0, a, c, q1, fun i r hi => ?_⟩
 obtain ⟨k, rfl, hk, z0, z1⟩ := hat i r hi
 exact ⟨k, rfl, by rw [← hv]; simp [Value.ownBlock], z0, z1⟩
theorem IsSet.fallLt {w : World} {b Bs room n : Nat} {g : Option Nat} {rs : List Rg} (h : IsSet w b g room rs) (hw : w.heap.size ≤ n) (hB : Bs < n) : ∀ k ∈ Bs :: b :: g.toList, k < n := by
 intro k hk
 obtain ⟨h1, h2⟩ := h.lt
 simp at hk
 rcases hk with rfl | rfl | hk
 ·exact hB
 ·omega
 ·have := (h2 k hk).1; omega

set_option maxHeartbeats 1000000 in
theorem ranges_any (b : Nat) (g : Option Nat) (room : Nat) (rs : List Rg) (w : World) (hS : IsSet w b g room rs) :
  Calls Tryz.prog 103 #[.pointer (some ⟨b, 0, none⟩)] w (SRangesPost w rs) := by
 obtain ⟨hlen, hr1, hroom⟩ := hS.len
 obtain ⟨a, c, c0, _, _, _, _, _⟩ := hS.cells
 have HNO := hide (snone_no b room w c0 hr1)
 have HCO := hide (collect_in Fence.wide 4 trivial trivial trivial rfl (Nat.le_refl _) w.heap.size b (w.heap.size :: b :: g.toList) rs (by omega) (w.alloc (.cells #[.pointer (some ⟨b, 0, none⟩)] 76)) (hS.fall ((Below.refl _ _).alloc (Nat.le_refl _) _) (Blk.new _ _ _)) (hS.fallLt (by simp) (by simp)))
 have HFA := hide (falling_in Fence.wide 4 trivial rfl b w)
 clear c0
 go_enter Tryz.func103, Tryz.ntmps103
 go_wp2_with (first | (go_at_call 112; refine HNO.out.mono ?_; rintro e1 w1 ⟨rfl, rfl⟩) | (go_at_call 152; refine (callsIn_wide.1 HFA.out).mono ?_; rintro e1 w1 ⟨rfl, rfl⟩) | (go_at_call 151; refine (callsIn_wide.1 HCO.out).mono ?_; rintro e1 w1 ⟨v, rfl, hrow, hnil, hb⟩))
 go_ret
 rw [World.size_alloc] at hrow hb
 exact ⟨v, rfl, own_base hrow (Nat.le_succ _), hnil, ((Below.refl _ w).alloc (Nat.le_refl _) _).trans (hb.mono (Nat.le_succ _))⟩
end Go.Proofs.YtgicljeedegncaaGreat
