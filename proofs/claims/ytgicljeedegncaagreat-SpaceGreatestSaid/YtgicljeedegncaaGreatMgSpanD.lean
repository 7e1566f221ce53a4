/-
  Sets of ranges: the iterator, Ranges: 7 texts in one (SpanIter, SpanIter2, SpanIter3, SpanLawA, SpanWorks, SpanSame, SpanMany).
-/
import Derived.Test.YtgicljeedegncaaGreatMgSpanC
import Derived.RangeFuncNested
import Derived.RangeFuncBound
import Derived.RangeFuncCalls
import Derived.RangeFuncLeaves
import Derived.Shelf.Abstract
import Derived.OwnWalkIn
import Derived.TacticsInMore
import Derived.LoopNIn
import Derived.LoopIn
import Derived.Test.YtgicljeedegncaaGreatMgBase
namespace Go.Proofs.YtgicljeedegncaaGreat
set_option linter.unusedSimpArgs false
set_option linter.unusedVariables false
open Go.RowKit Go.Shelf
attribute [local go_sem] Oper.semAt_some

/-- The blocks of T lie as they lay. -/
def KeepsT (T : List Nat) (W W' : World) : Prop := ∀ k ∈ T, W'.heap[k]? = W.heap[k]?
section
variable {T : List Nat} {A B C : World}
theorem KeepsT.refl (T : List Nat) (A : World) : KeepsT T A A := fun _ _ => rfl
theorem KeepsT.trans (h : KeepsT T A B) (k : KeepsT T B C) : KeepsT T A C := fun x hx => (k x hx).trans (h x hx)
theorem KeepsT.cell (h : KeepsT T A B) {k : Nat} (hk : k ∈ T) (i : Nat) : B.cell? ⟨k, i, none⟩ = A.cell? ⟨k, i, none⟩ := by simp only [World.cell?, h k hk]
theorem keepsT_b {w : World} (hT : ∀ k ∈ T, k < w.heap.size) (W : World) (l : Nat) (o o' : Obj) (hl : w.heap.size ≤ l) (h : W.heap[l]? = some o) (_ : o.isCells = false) (_ : o.isWalk = false) : KeepsT T W (W.putObj l o') := fun k hk =>
  (grownBy_putObj' W l o').block k (by have := hT k hk; have := (Array.getElem?_eq_some_iff.1 h).1; omega) (fun e => by cases e; have := hT _ hk; omega)
theorem keepsT_below {n : Nat} (hT : ∀ k ∈ T, k < n) (h : Below n A B) : KeepsT T A B := fun k hk => h.block k (hT k hk)
end
/-- What the iterator reads. -/
structure FallAt (W : World) (T : List Nat) (Bs b : Nat) (rs : List Rg) : Prop where
  inBs : Bs ∈ T
  inb : b ∈ T
  box : W.cell? ⟨Bs, 0, none⟩ = some (.pointer (some ⟨b, 0, none⟩))
  row : ∃ a c, W.cell? ⟨b, 1, none⟩ = some (.slice a rs.length c) ∧ ∀ (i : Nat) (r : Rg), rs[i]? = some r → ∃ k, a = some ⟨k, 0, none⟩ ∧ k ∈ T ∧ W.cell? ⟨k, i * 2, none⟩ = some (.int .i64 r.lo) ∧ W.cell? ⟨k, i * 2 + 1, none⟩ = some (.int .i64 r.hi)
theorem FallAt.keeps {W W' : World} {T : List Nat} {Bs b : Nat} {rs : List Rg} (h : FallAt W T Bs b rs) (k : KeepsT T W W') : FallAt W' T Bs b rs := by
  obtain ⟨h1, h2, h3, a, c, h4, h5⟩ := h
  refine ⟨h1, h2, (k.cell h1 0).trans h3, a, c, (k.cell h2 1).trans h4, fun i r hi => ?_⟩
  obtain ⟨g, e, hg, z0, z1⟩ := h5 i r hi
  exact ⟨g, e, hg, (k.cell hg _).trans z0, (k.cell hg _).trans z1⟩
def encR (r : Rg) : Value := .agg #[.int .i64 r.lo, .int .i64 r.hi]

set_option maxRecDepth 100000 in
set_option maxHeartbeats 2000000 in
theorem falling1_in (F : Fence) (n : Nat) (hF : F.fn 173) (hro : F.round = none) (hn : 1 ≤ n) (l Bs b : Nat) (T : List Nat) (rs : List Rg) (hlen : rs.length ≤ 1000) (J Jx : List Rg → World → Prop)
    (hY : ∀ pre x W, J pre W → pre.length < rs.length → YieldAt F (n - 1) Tryz.prog l #[encR x] W fun e W' =>
      (e = .returned (.bool true) ∧ J (pre ++ [x]) W' ∧ KeepsT T W W') ∨ (e = .returned (.bool false) ∧ Jx (pre ++ [x]) W'))
    (W : World) (hA : FallAt W T Bs b rs) (h0 : J [] W) :
    CallsIn F n Tryz.prog 173 #[.func (.yield l) #[] #[], .pointer (some ⟨Bs, 0, none⟩)] W fun e W' => (∃ v, e = .returned v) ∧
      ((∃ ys, ys = rs.reverse ∧ J ys W') ∨ (∃ pre, pre <+: rs.reverse ∧ Jx pre W')) := by
  refine callsIn_of_wp Tryz.func173 rfl hF ?_ hro
  simp only [Tryz.ntmps173, List.size_toArray, List.length_cons, List.length_nil, Nat.reduceAdd, Nat.reduceSub, Array.replicate_succ, Array.replicate_zero, List.push_toArray, List.append_toArray, List.nil_append, List.cons_append]
  have HA := hide hA
  obtain ⟨_, _, q0, a, c, q1, _⟩ := hA
  have hw1 : IntKind.i64.wrap ((rs.length : Int) - 1) = (rs.length : Int) - 1 := by rw [IntKind.wrap_i64]; omega
  gi_wp2
  gi_loopw [3] (fun s3 wr => ∃ m : Nat, m ≤ rs.length ∧ s3 = .int .i64 ((m : Int) - 1) ∧ J (rs.drop m).reverse wr ∧ FallAt wr T Bs b rs)
    (fun s3 _ => (intOf s3 + 1).toNat)
  case atStart => exact ⟨rs.length, Nat.le_refl _, rfl, by rw [List.drop_length]; exact h0, HA.out⟩
  case round =>
    obtain ⟨m, hm, rfl, hJs, hAr⟩ := hrel
    have HAR := hide hAr
    obtain ⟨_, _, p0, ar, cr, p1, hat⟩ := hAr
    cases m with
    | zero =>
      rw [show (((0 : Nat) : Int) - 1) = -1 from rfl]
      have hneg : ¬ (0 : Int) ≤ -1 := by omega
      gi_wp2
      refine ⟨fun _ h => (by cases h), ?_⟩
      gi_wp2
      go_end0
      exact ⟨⟨_, rfl⟩, .inl ⟨_, rfl, by simpa using hJs⟩⟩
    | succ m =>
      obtain ⟨r, hr⟩ : ∃ r, rs[m]? = some r := ⟨_, List.getElem?_eq_getElem (by omega)⟩
      obtain ⟨k, rfl, hk, z0, z1⟩ := hat m r hr
      have hstep : (rs.drop (m + 1)).reverse ++ [r] = (rs.drop m).reverse := by
        have e : rs.drop m = r :: rs.drop (m + 1) := by
          rw [List.drop_eq_getElem_cons (by omega : m < rs.length)]
          congr 1
          have := List.getElem?_eq_getElem (show m < rs.length by omega)
          rw [hr] at this
          exact (Option.some.inj this).symm
        rw [e, List.reverse_cons]
      obtain ⟨fn, tmps, assign, body, hy, hR⟩ := hY _ r wr hJs (by simp; omega)
      unfold encR at hy
      rw [hstep] at hR
      rw [show (((m + 1 : Nat) : Int) - 1) = (m : Int) by omega]
      have hm0 : (0 : Int) ≤ (m : Int) := by omega
      have hm1 : (m : Int) < (rs.length : Int) := by omega
      have hw2 : IntKind.i64.wrap ((m : Int) - 1) = (m : Int) - 1 := by rw [IntKind.wrap_i64]; omega
      clear hat hstep
      gi_wp2
      refine hR.mono ?_
      rintro e W3 (⟨rfl, hJ3, hk3⟩ | ⟨rfl, hJx3⟩)
      · gi_wp2
        go_roundw
        case rel => exact ⟨m, by omega, rfl, hJ3, HAR.out.keeps hk3⟩
        case measure => simp [intOf]
      · gi_wp2
        go_end0
        exact ⟨⟨_, rfl⟩, .inr ⟨_, ⟨(rs.take m).reverse, by rw [← List.reverse_append, List.take_append_drop]⟩, hJx3⟩⟩

set_option maxHeartbeats 1000000 in
/-- falling: the receiver is boxed; the function value captures the box. -/
theorem falling_in (F : Fence) (n : Nat) (hF : F.fn 152) (hro : F.round = none) (b : Nat) (w : World) :
    CallsIn F n Tryz.prog 152 #[.pointer (some ⟨b, 0, none⟩)] w fun e w' => e = .returned (.func (.func 173) #[] #[.pointer (some ⟨w.heap.size, 0, none⟩)]) ∧ w' = w.alloc (.cells #[.pointer (some ⟨b, 0, none⟩)] 76) := by
  refine callsIn_of_wp Tryz.func152 rfl hF ?_ hro
  simp only [Tryz.ntmps152, List.size_toArray, List.length_cons, List.length_nil, Nat.reduceAdd, Nat.reduceSub, Array.replicate_succ, Array.replicate_zero, List.push_toArray, List.append_toArray, List.nil_append, List.cons_append]
  gi_wp2
  go_ret
  exact ⟨rfl, rfl⟩

theorem falling_stops (F : Fence) (n : Nat) (hF : F.fn 173) (hro : F.round = none) (hn : 1 ≤ n) (Bs b : Nat) (T : List Nat) (rs : List Rg) (hlen : rs.length ≤ 1000) (w : World) (hA : FallAt w T Bs b rs) (hT : ∀ k ∈ T, k < w.heap.size) :
    SeqStopsK F n Tryz.prog 173 #[.pointer (some ⟨Bs, 0, none⟩)] (fun r : Rg => #[encR r]) (KeepsT T) (fun ys => ys = rs.reverse) (fun pre => pre <+: rs.reverse) rs.length w := fun l J Jx W hW _ _ hY h0 =>
  falling1_in F n hF hro hn l Bs b T rs hlen J Jx hY W (hA.keeps (keepsT_below hT hW)) h0
end Go.Proofs.YtgicljeedegncaaGreat

namespace Go.Proofs.YtgicljeedegncaaGreat
set_option linter.unusedSimpArgs false
set_option linter.unusedVariables false
open Go.RowKit Go.Shelf
attribute [local go_sem] Oper.semAt_some

theorem blk_own {β : Type} (B : Nat) (t : TypeId) (cs : Array Value) : Own (fun (_ : β) W => Blk W B t cs) := fun _ X Y row hs hg hrow =>
  (hg.block B hs.lt (fun e' => by obtain ⟨o, ho, hc⟩ := hrow B e'.symm; rw [show X.heap[B]? = _ from hs] at ho; cases ho; cases hc)).trans hs
theorem rgs_rev_len (rs : List Rg) : rs.reverse.length = rs.length := List.length_reverse

set_option maxRecDepth 100000 in
set_option maxHeartbeats 4000000 in
theorem appendSeq_in (F : Fence) (n : Nat) (h1F : F.fn 172) (h2F : F.fn 173) (hro : F.round = none) (hn : 3 ≤ n) (Bs b : Nat) (T : List Nat) (rs : List Rg) (hlen : rs.length ≤ 1000) (w : World) (hA : FallAt w T Bs b rs) (hT : ∀ k ∈ T, k < w.heap.size) :
    CallsIn F n Tryz.prog 172 #[.slice none 0 0, .func (.func 173) #[] #[.pointer (some ⟨Bs, 0, none⟩)]] w fun e W' => ∃ v, e = .returned v ∧ W'.ownsRow w.heap.size 93 2 v rs.length (rgsCells rs.reverse) ∧ (v = .slice none 0 0 ↔ rs = []) ∧ Below w.heap.size w W' := by
  have h1 : 1 ≤ n := by omega
  obtain ⟨i0, hi, hz0, hz1, hz2⟩ := info_parts rg_info
  refine callsIn_of_wp_marks Tryz.func172 rfl h1F ?_ hro
  simp only [Tryz.ntmps172, List.size_toArray, List.length_cons, List.length_nil, Nat.reduceAdd, Nat.reduceSub, Array.replicate_succ, Array.replicate_zero, List.push_toArray, List.append_toArray, List.nil_append, List.cons_append]
  gi_wp2
  have bO := Boxed.new w 50 (.slice none 0 0)
  have hB0 : Below w.heap.size w (w.alloc (.cells #[.slice none 0 0] 50)) := (Below.refl _ w).alloc (Nat.le_refl _) _
  refine wpIn_rangeFunc_ownH hro h1 (gf := 173) (lb := #[.pointer (some ⟨Bs, 0, none⟩)]) rfl h2F (enters_of Tryz.func173 (by kernel_rfl) rfl)
    (falling_stops F (n - 1) h2F hro (by omega) Bs b T rs hlen (w.alloc (.cells #[.slice none 0 0] 50)) (hA.keeps (keepsT_below hT hB0)) (fun k hk => by have := hT k hk; simp; omega)) KeepsT.trans (keepsT_b (fun k hk => by have := hT k hk; simp; omega)) (Below.refl _ _) (fun _ => rfl)
    (fun pre W => (∃ v, Boxed W w.heap.size 50 v ∧ W.ownsRow w.heap.size 93 2 v pre.length (rgsCells pre) ∧ (v = .slice none 0 0 ↔ pre = [])) ∧ Below w.heap.size w W)
    (fun _ _ _ => False)
    (OwnFrom.and (Own.from (holdsRow_own w.heap.size w.heap.size 50 93 2 (fun pre => pre.length) (fun pre => rgsCells pre) (fun pre v => v = .slice none 0 0 ↔ pre = [])) _) (ownFrom_below (Nat.le_refl _) (by simp)))
    (fun _ _ _ _ _ hs _ _ => hs)
    ⟨⟨_, bO, World.ownsRow_nil _ _ _ _, by simp⟩, hB0⟩
    (fun x a' W => ∃ Bx, w.heap.size < Bx ∧ Blk W Bx 93 #[.int .i64 x.lo, .int .i64 x.hi] ∧ a' = { tmps := #[.slice none 0 0, .func (.func 173) #[] #[.pointer (some ⟨Bs, 0, none⟩)], .pointer (some ⟨w.heap.size, 0, none⟩), undef, .slice none 0 0, .pointer (some ⟨Bx, 0, none⟩), .func (.func 173) #[] #[.pointer (some ⟨Bs, 0, none⟩)], encR x, undef, undef, undef, undef, undef], defers := [] })
    (fun x a' _ X Y row hs hg hr => by obtain ⟨Bx, h1, h2, h3⟩ := hs; exact ⟨Bx, h1, blk_own (β := Unit) Bx 93 _ () X Y row h2 hg (fun r e => (hr r e).2), h3⟩)
    ?assign ?body ?done ?stop
  case assign =>
    rintro l pre x W K ⟨⟨v, bS1, hr1, hn1⟩, hB1⟩ hK
    unfold encR
    gi_wp2
    exact hK _ _ ((KeepsOthers.alloc _ _).from _) (keepsT_below hT ((Below.refl _ W).alloc hB1.size _)) ⟨⟨v, bS1.alloc _, hr1.alloc _, hn1⟩, hB1.alloc hB1.size _⟩ ⟨W.heap.size, bS1.lt, Blk.new W _ _, rfl⟩
  case body =>
    rintro l pre x a' W hl ⟨r, hr⟩ ⟨⟨v, hv, hrow, hnil⟩, hB⟩ ⟨Bx, hBx, bX, rfl⟩ hlt
    have hc := hv.cell
    have x0 := bX.cell 0
    have x1 := bX.cell 1
    have hsrc := hide (src_blk (Blk.new W 93 #[.int .i64 x.lo, .int .i64 x.hi]) (pre := []) (cs := rgCells x) (post := []) (o := 0) rfl rfl)
    have hone := hide (x_one x)
    have hpl : pre.length + 1 ≤ 1000 := by omega
    gi_wp2_with (gi_at_builtin; refine wpListIn_append_own _ rfl _ _ 50 rfl w.heap.size 93 i0 (.agg #[.int .i64 0, .int .i64 0]) 2 16 Tryz.underlying50 hi hz0 hz1 hz2 rfl (by decide) _ _ _ rfl (hrow.alloc _) ⟨W.heap.size, 0, none⟩ 1 1 (rgCells x) rfl rfl hsrc.out hone.out (by unfold maxLen; omega) (by omega) (by have := hB.size; simp; omega) ?_; intro v' w1 hown' hgrow _; obtain ⟨g', cap', rfl⟩ := ownsRow_succ hown'; obtain ⟨hv1, hv2, hr2, hk2, hb2⟩ := hv.appended (by decide) hrow hB.size (Nat.le_refl _) hown' hgrow; have hc1 := hv1.cell; have hf1 := hv1.frozen)
    exact ⟨hk2.from _, keepsT_below hT hb2, ⟨_, hv2, by rw [rgs_append, List.length_append]; simpa [rgsCells] using hr2, by simp⟩, hB.trans hb2⟩
  case done =>
    rintro D ys W hD rfl ⟨⟨v, hv, hrow, hnil⟩, hB⟩ hK
    have hc := hv.cell
    gi_wp2
    refine ⟨by simp, .inl ⟨_, _, rfl, run_takeDeferred hK, ?_⟩⟩
    rw [rgs_rev_len] at hrow
    exact ⟨_, results_tmp rfl _ _ _, v, rfl, ownsRow_putObj hrow _ hK rfl, by simpa using hnil, hB.trans (belowK_b (w := w) (Nat.le_refl _) W D _ _ (by simp at hD; omega) hK rfl rfl)⟩
  case stop =>
    rintro D c pre W _ _ h _
    exact h.elim

theorem own_base {w : World} {base base' e size n : Nat} {v : Value} {xs : List Value} (h : w.ownsRow base e size v n xs) (hb : base' ≤ base) : w.ownsRow base' e size v n xs := by
  refine ⟨h.1, ?_⟩
  rcases h.2 with h0 | ⟨g, cap, cur, hv, hg, r⟩
  · exact .inl h0
  · exact .inr ⟨g, cap, cur, hv, Nat.le_trans hb hg, r⟩
/-- What Ranges leaves. -/
def SRangesPost (w : World) (rs : List Rg) (e : Ending) (W' : World) : Prop :=
  ∃ v, e = .returned v ∧ W'.ownsRow w.heap.size 93 2 v rs.length (rgsCells rs.reverse) ∧ (v = .slice none 0 0 ↔ rs = []) ∧ Below w.heap.size w W'

set_option maxHeartbeats 1000000 in
theorem collect_in (F : Fence) (n : Nat) (h0F : F.fn 151) (h1F : F.fn 172) (h2F : F.fn 173) (hro : F.round = none) (hn : 4 ≤ n) (Bs b : Nat) (T : List Nat) (rs : List Rg) (hlen : rs.length ≤ 1000) (w : World) (hA : FallAt w T Bs b rs) (hT : ∀ k ∈ T, k < w.heap.size) :
    CallsIn F n Tryz.prog 151 #[.func (.func 173) #[] #[.pointer (some ⟨Bs, 0, none⟩)]] w (SRangesPost w rs) := by
  have h1 : 1 ≤ n := by omega
  refine callsIn_of_wp Tryz.func151 rfl h0F ?_ hro
  simp only [Tryz.ntmps151, List.size_toArray, List.length_cons, List.length_nil, Nat.reduceAdd, Nat.reduceSub, Array.replicate_succ, Array.replicate_zero, List.push_toArray, List.append_toArray, List.nil_append, List.cons_append]
  gi_wp2_with (gi_at_call 172; refine (appendSeq_in F (n - 1) h1F h2F hro (by omega) Bs b T rs hlen w hA hT).mono ?_; rintro e w' ⟨v, rfl, hrow, hnil, hb⟩)
  go_ret
  exact ⟨v, rfl, hrow, hnil, hb⟩

/-- What a set is, the iterator reads it. -/
theorem IsSet.fall {w w' : World} {b Bs room : Nat} {g : Option Nat} {rs : List Rg} (h : IsSet w b g room rs) (hb : Below w.heap.size w w') (hx : Blk w' Bs 76 #[.pointer (some ⟨b, 0, none⟩)]) : FallAt w' (Bs :: b :: g.toList) Bs b rs := by
  obtain ⟨a, c, _, q1, hv, _, _, hat⟩ := (h.below hb).cells
  refine ⟨by simp, by simp, hx.cell 0, a, c, q1, fun i r hi => ?_⟩
  obtain ⟨k, rfl, hk, z0, z1⟩ := hat i r hi
  exact ⟨k, rfl, by rw [← hv]; simp [Value.ownBlock], z0, z1⟩
theorem IsSet.fallLt {w : World} {b Bs room n : Nat} {g : Option Nat} {rs : List Rg} (h : IsSet w b g room rs) (hw : w.heap.size ≤ n) (hB : Bs < n) : ∀ k ∈ Bs :: b :: g.toList, k < n := by
  intro k hk
  obtain ⟨h1, h2⟩ := h.lt
  simp at hk
  rcases hk with rfl | rfl | hk
  · exact hB
  · omega
  · have := (h2 k hk).1; omega

set_option maxHeartbeats 1000000 in
theorem ranges_any (b : Nat) (g : Option Nat) (room : Nat) (rs : List Rg) (w : World) (hS : IsSet w b g room rs) :
    Calls Tryz.prog 103 #[.pointer (some ⟨b, 0, none⟩)] w (SRangesPost w rs) := by
  obtain ⟨hlen, hr1, hroom⟩ := hS.len
  obtain ⟨a, c, c0, _, _, _, _, _⟩ := hS.cells
  have HNO := hide (snone_no b room w c0 hr1)
  have HCO := hide (collect_in Fence.wide 4 trivial trivial trivial rfl (Nat.le_refl _) w.heap.size b (w.heap.size :: b :: g.toList) rs (by omega) (w.alloc (.cells #[.pointer (some ⟨b, 0, none⟩)] 76)) (hS.fall ((Below.refl _ _).alloc (Nat.le_refl _) _) (Blk.new _ _ _)) (hS.fallLt (by simp) (by simp)))
  have HFA := hide (falling_in Fence.wide 4 trivial rfl b w)
  clear c0
  go_enter Tryz.func103, Tryz.ntmps103
  go_wp2_with (first | (go_at_call 112; refine HNO.out.mono ?_; rintro e1 w1 ⟨rfl, rfl⟩) | (go_at_call 152; refine (callsIn_wide.1 HFA.out).mono ?_; rintro e1 w1 ⟨rfl, rfl⟩) | (go_at_call 151; refine (callsIn_wide.1 HCO.out).mono ?_; rintro e1 w1 ⟨v, rfl, hrow, hnil, hb⟩))
  go_ret
  rw [World.size_alloc] at hrow hb
  exact ⟨v, rfl, own_base hrow (Nat.le_succ _), hnil, ((Below.refl _ w).alloc (Nat.le_refl _) _).trans (hb.mono (Nat.le_succ _))⟩
end Go.Proofs.YtgicljeedegncaaGreat

namespace Go.Proofs.YtgicljeedegncaaGreat
set_option linter.unusedSimpArgs false
set_option linter.unusedVariables false
open Go.RowKit Go.Shelf
attribute [local go_sem] Oper.semAt_some

/-- How many numbers, as the program reckons it. -/
def cntW (rs : List Rg) : Int := rs.foldl (fun s r => wrap64 (s + wrap64 (wrap64 (r.hi - r.lo) + 1))) 0
theorem cntW_snoc (rs : List Rg) (r : Rg) : cntW (rs ++ [r]) = wrap64 (cntW rs + wrap64 (wrap64 (r.hi - r.lo) + 1)) := by simp [cntW]

/-- How many numbers. -/
def cntR : List Rg → Int
  | [] => 0
  | r :: rs => r.hi - r.lo + 1 + cntR rs
theorem cntW_good : ∀ {rs : List Rg}, GoodR rs → rs.length ≤ 1000 → cntW rs.reverse = cntR rs ∧ 0 ≤ cntR rs ∧ cntR rs ≤ rs.length * 9007199254740992
  | [], _, _ => ⟨rfl, Int.le_refl _, Int.le_refl _⟩
  | r :: rs, h, hl => by
    obtain ⟨h1, h2, h3, h4, _⟩ := h.cons
    rw [List.length_cons] at hl
    obtain ⟨e, e0, e1⟩ := cntW_good h1 (by omega)
    have hle : (rs.length : Int) ≤ 1000 := by omega
    rw [List.reverse_cons, cntW_snoc, e]
    have hu : cntR (r :: rs) = r.hi - r.lo + 1 + cntR rs := rfl
    rw [hu]
    have w1 : wrap64 (r.hi - r.lo) = r.hi - r.lo := by unfold wrap64; omega
    have w2 : wrap64 (r.hi - r.lo + 1) = r.hi - r.lo + 1 := by unfold wrap64; omega
    have w3 : wrap64 (cntR rs + (r.hi - r.lo + 1)) = cntR rs + (r.hi - r.lo + 1) := by unfold wrap64; omega
    rw [w1, w2, w3]
    refine ⟨by omega, by omega, ?_⟩
    rw [List.length_cons]
    omega

end Go.Proofs.YtgicljeedegncaaGreat

namespace Go.Proofs.YtgicljeedegncaaGreat
set_option linter.unusedSimpArgs false
set_option linter.unusedVariables false
open Go.RowKit

theorem RgAt.below {w w' : World} {a : Option Addr} {rs : List Rg} (h : RgAt w a rs) (hb : Below w.heap.size w w') : RgAt w' a rs := fun i r hi => by
  obtain ⟨k, e, hk, z0, z1⟩ := h i r hi
  exact ⟨k, e, Nat.lt_of_lt_of_le hk hb.size, (hb.cell (p := ⟨k, _, none⟩) hk).trans z0, (hb.cell (p := ⟨k, _, none⟩) hk).trans z1⟩
theorem own_rgat {w : World} {base n c : Nat} {a : Option Addr} {rs : List Rg} (hn : rs.length = n) (h : w.ownsRow base 93 2 (.slice a n c) n (rgsCells rs)) : RgAt w a rs := by
  rcases own_split h with ⟨_, h0, _⟩ | ⟨k, cap, cur, e, _, hk, hc, hm, hcl, ht⟩
  · have : rs = [] := List.eq_nil_of_length_eq_zero (by omega)
    subst this
    intro i r hi
    simp at hi
  · cases e
    refine fun i r hi => ⟨k, rfl, hk.lt, ?_, ?_⟩
    all_goals
      have hil : i < rs.length := (List.getElem?_eq_some_iff.1 hi).1
      have hlt : ∀ j, j < 2 → cur[i * 2 + j]? = (rgCells r)[j]? := fun j hj => by
        have e : (cur.take (n * 2))[i * 2 + j]? = (rgsCells rs)[i * 2 + j]? := by rw [ht]
        rw [List.getElem?_take, if_pos (by omega)] at e
        rw [e]
        unfold rgsCells
        rw [flat_cell rgCells 2 rgCells_length rs i j hj, hi]
        rfl
    · rw [hk.cell, List.getElem?_toArray]; exact hlt 0 (by omega)
    · rw [hk.cell, List.getElem?_toArray]; exact hlt 1 (by omega)

/-- A row of two numbers as a range. -/
def rowLo (x : Int) : Int := x % 100
def rowHi (x y : Int) : Int := min 99 (x % 100 + y % 12)
end Go.Proofs.YtgicljeedegncaaGreat

namespace Go.Proofs.YtgicljeedegncaaGreat
set_option linter.unusedSimpArgs false
set_option linter.unusedVariables false
open Go.RowKit

/-- A set of a call's own. -/
structure SAt (w W : World) (b : Nat) (g : Option Nat) (room : Nat) (rs : List Rg) : Prop where
  set : IsSet W b g room rs
  nb : w.heap.size ≤ b
  ng : ∀ k, g = some k → w.heap.size ≤ k
  below : Below w.heap.size w W
section
variable {w W w' : World} {b room : Nat} {g : Option Nat} {rs ys : List Rg} {e : Ending}
theorem SAt.later (h : SAt w W b g room rs) (hb : Below W.heap.size W w') : SAt w w' b g room rs := ⟨h.set.below hb, h.nb, h.ng, bw_below' h.below hb⟩
theorem SAt.step (h : SAt w W b g room rs) (hp : SAddPost W b g room ys e w') : e = .returned (.int .i64 0) ∧ ∃ g', SAt w w' b g' room ys := by
  obtain ⟨he, g', h1, h2, h3⟩ := hp
  refine ⟨he, g', h1, h.nb, fun k hk => ?_, h.below.trans (h3.below (fun x hx => ?_) h.below.size)⟩
  · rcases h2 k hk with h4 | h4
    · exact h.ng k h4
    · exact Nat.le_trans h.below.size h4
  · simp at hx
    rcases hx with rfl | hx
    · exact h.nb
    · exact h.ng x hx
theorem SAt.alloc (h : SAt w W b g room rs) (o : Obj) : SAt w (W.alloc o) b g room rs := h.later ((Below.refl _ _).alloc (Nat.le_refl _) o)
theorem SAt.fresh (h : SNewPost W room e w') (hb : Below w.heap.size w W) : ∃ b, e = .returned (.tuple #[.pointer (some ⟨b, 0, none⟩), .int .i64 0]) ∧ SAt w w' b none room [] := by
  obtain ⟨b, he, h1, h2, h3⟩ := h
  exact ⟨b, he, h1, Nat.le_trans hb.size h2, by simp, bw_below' hb h3⟩
end
theorem rgat_new {w : World} {k t : Nat} {cs : Array Value} {rs : List Rg} (h : Blk w k t cs) (e : cs = (rgsCells rs).toArray) : RgAt w (some ⟨k, 0, none⟩) rs := fun i r hi => by
  subst e
  refine ⟨k, rfl, h.lt, ?_, ?_⟩
  · rw [h.cell, List.getElem?_toArray]
    unfold rgsCells
    exact (flat_cell rgCells 2 rgCells_length rs i 0 (by omega)).trans (by rw [hi]; rfl)
  · rw [h.cell, List.getElem?_toArray]
    unfold rgsCells
    exact (flat_cell rgCells 2 rgCells_length rs i 1 (by omega)).trans (by rw [hi]; rfl)

end Go.Proofs.YtgicljeedegncaaGreat

namespace Go.Proofs.YtgicljeedegncaaGreat
set_option linter.unusedSimpArgs false
set_option linter.unusedVariables false
open Go.RowKit

end Go.Proofs.YtgicljeedegncaaGreat

namespace Go.Proofs.YtgicljeedegncaaGreat
set_option linter.unusedVariables false
open Go.RowKit

/-- A set's place and content. -/
structure SD where
  b : Nat
  g : Option Nat
  room : Nat
  rs : List Rg
def SD.is (d : SD) (w W : World) : Prop := SAt w W d.b d.g d.room d.rs
/-- Two sets share no block. -/
def ApartS (d e : SD) : Prop := d.b ≠ e.b ∧ d.g ≠ some e.b ∧ e.g ≠ some d.b ∧ (∀ k, d.g = some k → e.g ≠ some k)
theorem ApartS.symm {d e : SD} (h : ApartS d e) : ApartS e d := ⟨h.1.symm, h.2.2.1, h.2.1, fun k hk he => h.2.2.2 k he hk⟩
def AllS (w W : World) (L : List SD) : Prop := (∀ d ∈ L, d.is w W) ∧ L.Pairwise ApartS
section
variable {w W w' : World} {d e : SD} {L : List SD} {x : Ending} {ys : List Rg}
theorem AllS.head (h : AllS w W (d :: L)) : SAt w W d.b d.g d.room d.rs := h.1 d (by simp)
theorem AllS.tail (h : AllS w W (d :: L)) : AllS w W L := ⟨fun e he => h.1 e (by simp [he]), (List.pairwise_cons.1 h.2).2⟩
theorem AllS.swap (h : AllS w W (d :: e :: L)) : AllS w W (e :: d :: L) := by
  obtain ⟨h1, h2⟩ := h
  obtain ⟨a1, a2⟩ := List.pairwise_cons.1 h2
  obtain ⟨b1, b2⟩ := List.pairwise_cons.1 a2
  refine ⟨fun f hf => h1 f (by simp at hf ⊢; rcases hf with h | h | h <;> simp [h]), List.pairwise_cons.2 ⟨fun f hf => ?_, List.pairwise_cons.2 ⟨fun f hf => a1 f (by simp [hf]), b2⟩⟩⟩
  rcases List.mem_cons.1 hf with rfl | hf
  · exact (a1 e (by simp)).symm
  · exact b1 f hf
theorem AllS.cons_swap {f : SD} (h : AllS w W (f :: d :: e :: L)) : AllS w W (f :: e :: d :: L) := by
  have h1 := h.tail.swap
  have h2 := (List.pairwise_cons.1 h.2).1
  exact ⟨fun y hy => by rcases List.mem_cons.1 hy with rfl | hy; exact h.1 _ (by simp); exact h1.1 y hy, List.pairwise_cons.2 ⟨fun y hy => h2 y (by simp at hy ⊢; rcases hy with h | h | h <;> simp [h]), h1.2⟩⟩
theorem AllS.drop2 (h : AllS w W (d :: e :: L)) : AllS w W (d :: L) := h.swap.tail
theorem AllS.later (h : AllS w W L) (hb : Below W.heap.size W w') : AllS w w' L := ⟨fun d hd => (h.1 d hd).later hb, h.2⟩
theorem AllS.nil : AllS w W [] := ⟨by simp, List.Pairwise.nil⟩
theorem AllS.perm {M : List SD} (h : AllS w W L) (hp : L.Perm M) : AllS w W M := ⟨fun d hd => h.1 d (hp.mem_iff.2 hd), (hp.pairwise_iff (fun h => ApartS.symm h)).1 h.2⟩
theorem AllS.up {A : List SD} (h : AllS w W (A ++ d :: L)) : AllS w W (d :: (A ++ L)) := h.perm List.perm_middle
theorem AllS.take {A : List SD} (h : AllS w W (A ++ L)) : AllS w W A := ⟨fun d hd => h.1 d (by simp [hd]), (List.pairwise_append.1 h.2).1⟩
theorem SAt.lts (h : SAt w W d.b d.g d.room d.rs) : d.b < W.heap.size ∧ ∀ k, d.g = some k → k < W.heap.size := ⟨h.set.lt.1, fun k hk => (h.set.lt.2 k hk).1⟩
/-- A set that a call has made. -/
theorem AllS.fresh (h : AllS w W L) {room : Nat} (hp : SNewPost W room x w') (hw : Below w.heap.size w W) : ∃ b, x = .returned (.tuple #[.pointer (some ⟨b, 0, none⟩), .int .i64 0]) ∧ AllS w w' (⟨b, none, room, []⟩ :: L) := by
  obtain ⟨b, rfl, h1, h2, h3⟩ := hp
  refine ⟨b, rfl, fun d hd => ?_, List.pairwise_cons.2 ⟨fun e he => ?_, h.2⟩⟩
  · rcases List.mem_cons.1 hd with rfl | hd
    · exact ⟨h1, Nat.le_trans hw.size h2, by simp, bw_below' hw h3⟩
    · exact (h.1 d hd).later h3
  · obtain ⟨hl1, hl2⟩ := (h.1 e he).lts
    exact ⟨fun e' => by simp only at e'; omega, by simp, fun e' => by have := hl2 _ e'; simp only at this; omega, by simp⟩
/-- A copy. -/
theorem AllS.copy (h : AllS w W (d :: L)) (hp : SCopyPost W d.room d.rs x w') : ∃ b g, x = .returned (.pointer (some ⟨b, 0, none⟩)) ∧ AllS w w' (⟨b, g, d.room, d.rs⟩ :: d :: L) := by
  obtain ⟨b, g, rfl, h1, h2, h3, h4⟩ := hp
  have hw := h.head.below
  refine ⟨b, g, rfl, fun e he => ?_, List.pairwise_cons.2 ⟨fun e he => ?_, h.2⟩⟩
  · rcases List.mem_cons.1 he with rfl | he
    · exact ⟨h1, Nat.le_trans hw.size h2, fun k hk => Nat.le_trans hw.size (h3 k hk), bw_below' hw h4⟩
    · exact (h.1 e he).later h4
  · obtain ⟨hl1, hl2⟩ := (h.1 e he).lts
    refine ⟨fun e' => by simp only at e'; omega, fun e' => by have := h3 _ e'; omega, fun e' => by have := hl2 _ e'; simp only at this; omega, fun k hk hk' => ?_⟩
    have := h3 k hk
    have := hl2 k hk'
    omega
/-- Add, Cut at the first. -/
theorem AllS.stepX (h : AllS w W (d :: L)) (hp : SAddPost W d.b d.g d.room ys x w') : x = .returned (.int .i64 0) ∧ ∃ g, AllS w w' (⟨d.b, g, d.room, ys⟩ :: L) ∧ (∀ k, g = some k → d.g = some k ∨ W.heap.size ≤ k) ∧ Only (d.b :: d.g.toList) W w' := by
  obtain ⟨a1, a2⟩ := List.pairwise_cons.1 h.2
  obtain ⟨he, g, hs⟩ := h.head.step hp
  obtain ⟨_, g', h1, h2, h3⟩ := hp
  refine ⟨he, g', ⟨fun e hx => ?_, List.pairwise_cons.2 ⟨fun e hx => ?_, a2⟩⟩, h2, h3⟩
  · rcases List.mem_cons.1 hx with rfl | hx
    · refine ⟨h1, h.head.nb, fun k hk => ?_, hs.below⟩
      rcases h2 k hk with h4 | h4
      · exact h.head.ng k h4
      · exact Nat.le_trans h.head.below.size h4
    · have ha := a1 e hx
      have hb := h.1 e (by simp [hx])
      refine ⟨hb.set.only h3 (fun hm => ?_) (fun k hk hm => ?_), hb.nb, hb.ng, hs.below⟩
      · simp at hm
        rcases hm with hm | hm
        · exact ha.1 hm.symm
        · exact ha.2.1 hm
      · simp at hm
        rcases hm with hm | hm
        · subst hm; exact ha.2.2.1 hk
        · exact ha.2.2.2 k hm hk
  · have ha := a1 e hx
    have hb := h.1 e (by simp [hx])
    obtain ⟨hl1, hl2⟩ := hb.lts
    refine ⟨ha.1, fun e' => ?_, ha.2.2.1, fun k hk hk' => ?_⟩
    · rcases h2 _ e' with h4 | h4
      · exact ha.2.1 h4
      · omega
    · rcases h2 _ hk with h4 | h4
      · exact ha.2.2.2 k h4 hk'
      · have := hl2 k hk'; omega
theorem AllS.step (h : AllS w W (d :: L)) (hp : SAddPost W d.b d.g d.room ys x w') : x = .returned (.int .i64 0) ∧ ∃ g, AllS w w' (⟨d.b, g, d.room, ys⟩ :: L) := by
  obtain ⟨h1, g, h2, _⟩ := h.stepX hp
  exact ⟨h1, g, h2⟩
/-- Ranges that lie apart from a set. -/
def RgFree (W : World) (b : Nat) (g : Option Nat) (a : Option Addr) (rs : List Rg) : Prop := RgAt W a rs ∧ ∀ k, a = some ⟨k, 0, none⟩ → b ≠ k ∧ g ≠ some k ∧ k < W.heap.size
theorem RgFree.below {b : Nat} {g : Option Nat} {a : Option Addr} {rs : List Rg} (h : RgFree W b g a rs) (hb : Below W.heap.size W w') : RgFree w' b g a rs :=
  ⟨h.1.below hb, fun k hk => by obtain ⟨h1, h2, h3⟩ := h.2 k hk; exact ⟨h1, h2, Nat.lt_of_lt_of_le h3 hb.size⟩⟩
theorem RgFree.step {b : Nat} {g g' : Option Nat} {a : Option Addr} {rs : List Rg} (h : RgFree W b g a rs) (h2 : ∀ k, g' = some k → g = some k ∨ W.heap.size ≤ k) (h3 : Only (b :: g.toList) W w') : RgFree w' b g' a rs := by
  refine ⟨fun i r hi => ?_, fun k hk => ?_⟩
  · obtain ⟨k, e, hk, z0, z1⟩ := h.1 i r hi
    obtain ⟨n1, n2, _⟩ := h.2 k e
    have hn : k ∉ b :: g.toList := by
      simp
      exact ⟨fun e => n1 e.symm, fun e => n2 e⟩
    exact ⟨k, e, Nat.lt_of_lt_of_le hk h3.size, (h3.cell (p := ⟨k, _, none⟩) hk hn).trans z0, (h3.cell (p := ⟨k, _, none⟩) hk hn).trans z1⟩
  · obtain ⟨n1, n2, n3⟩ := h.2 k hk
    refine ⟨n1, fun e => ?_, Nat.lt_of_lt_of_le n3 h3.size⟩
    rcases h2 k e with h4 | h4
    · exact n2 h4
    · omega
/-- The ranges that a set hands out. -/
theorem RgFree.mk {b room n c : Nat} {g : Option Nat} {a : Option Addr} {rs xs : List Rg} (hs : SAt w W b g room xs) (hn : rs.length = n) (h : w'.ownsRow W.heap.size 93 2 (.slice a n c) n (rgsCells rs)) : RgFree w' b g a rs := by
  refine ⟨own_rgat hn h, fun k hk => ?_⟩
  subst hk
  rcases own_split h with ⟨h0, _⟩ | ⟨k', cap, cur, e, hk, hB, _⟩
  · cases h0
  · cases e
    have l1 := hs.set.lt.1
    have l2 := hs.set.lt.2
    exact ⟨by omega, fun e => by have := (l2 _ e).1; omega, hB.lt⟩
end

/-- Rows of two numbers that came in. -/
def PairsAt (w : World) (a : Option Addr) (len : Nat) (X Y : Nat → Int) : Prop :=
  len ≤ 9223372036854775807 ∧ ∀ i, i < len → ∃ xb xo, a = some ⟨xb, xo, none⟩ ∧ xb < w.heap.size ∧ w.cell? ⟨xb, xo + i * 2, none⟩ = some (.int .i64 (X i)) ∧ w.cell? ⟨xb, xo + (i * 2 + 1), none⟩ = some (.int .i64 (Y i)) ∧
    -9223372036854775808 ≤ X i ∧ X i ≤ 9223372036854775807 ∧ -9223372036854775808 ≤ Y i ∧ Y i ≤ 9223372036854775807
theorem pairs_of_rows {w : World} {a : Option Addr} {len : Nat} (h : RowsK w a len [some .i64, some .i64]) : ∃ X Y, PairsAt w a len X Y := by
  obtain ⟨h1, h2⟩ := h
  have key : ∀ i, ∃ x y : Int, i < len → ∃ xb xo, a = some ⟨xb, xo, none⟩ ∧ xb < w.heap.size ∧ w.cell? ⟨xb, xo + i * 2, none⟩ = some (.int .i64 x) ∧ w.cell? ⟨xb, xo + (i * 2 + 1), none⟩ = some (.int .i64 y) ∧
      -9223372036854775808 ≤ x ∧ x ≤ 9223372036854775807 ∧ -9223372036854775808 ≤ y ∧ y ≤ 9223372036854775807 := by
    intro i
    by_cases hi : i < len
    · obtain ⟨xb, xo, ha, hb, hc⟩ := h2 (by omega)
      obtain ⟨x, hx, x0, x1⟩ := (hc i hi 0 _ rfl).i64
      obtain ⟨y, hy, y0, y1⟩ := (hc i hi 1 _ rfl).i64
      exact ⟨x, y, fun _ => ⟨xb, xo, ha, hb, hx, hy, x0, x1, y0, y1⟩⟩
    · exact ⟨0, 0, fun h => absurd h hi⟩
  refine ⟨fun i => Classical.choose (key i), fun i => Classical.choose (Classical.choose_spec (key i)), h1, fun i hi => Classical.choose_spec (Classical.choose_spec (key i)) hi⟩
theorem rowB (x y : Int) : 0 ≤ rowLo x ∧ rowLo x ≤ rowHi x y ∧ rowHi x y ≤ 99 := by unfold rowLo rowHi; omega
theorem addR_le {lo hi : Int} {rs : List Rg} (h : GoodR rs) (hl : lo ≤ hi) : (addR lo hi rs).length ≤ rs.length + 1 := by
  have h1 := addR_length h hl
  have h2 := from_le_to h hl
  omega
end Go.Proofs.YtgicljeedegncaaGreat
