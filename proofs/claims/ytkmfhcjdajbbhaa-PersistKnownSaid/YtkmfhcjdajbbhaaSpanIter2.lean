/-
  Sets of ranges (package span): Ranges: slices.Collect over the iterator.
-/
import Derived.Test.YtkmfhcjdajbbhaaSpanIter
namespace Go.Proofs.Ytkmfhcjdajbbhaa
set_option linter.unusedSimpArgs false
set_option linter.unusedVariables false
open Go.RowKit Go.Shelf
attribute [local go_sem] Oper.semAt_some

theorem blk_own {β : Type} (B : Nat) (t : TypeId) (cs : Array Value) : Own (fun (_ : β) W => Blk W B t cs) := fun _ X Y row hs hg hrow =>
  (hg.block B hs.lt (fun e' => by obtain ⟨o, ho, hc⟩ := hrow B e'.symm; rw [show X.heap[B]? = _ from hs] at ho; cases ho; cases hc)).trans hs
theorem rgs_rev_len (rs : List Rg) : rs.reverse.length = rs.length := List.length_reverse

set_option maxRecDepth 100000 in
set_option maxHeartbeats 4000000 in
theorem appendSeq_in (F : Fence) (n : Nat) (h1F : F.fn 89) (h2F : F.fn 68) (hro : F.round = none) (hn : 3 ≤ n) (Bs b : Nat) (T : List Nat) (rs : List Rg) (hlen : rs.length ≤ 1000) (w : World) (hA : FallAt w T Bs b rs) (hT : ∀ k ∈ T, k < w.heap.size) :
    CallsIn F n Try.prog 89 #[.slice none 0 0, .func (.func 68) #[] #[.pointer (some ⟨Bs, 0, none⟩)]] w fun e W' => ∃ v, e = .returned v ∧ W'.ownsRow w.heap.size 62 2 v rs.length (rgsCells rs.reverse) ∧ (v = .slice none 0 0 ↔ rs = []) ∧ Below w.heap.size w W' := by
  have h1 : 1 ≤ n := by omega
  obtain ⟨i0, hi, hz0, hz1, hz2⟩ := info_parts rg_info
  refine callsIn_of_wp_marks Try.func89 rfl h1F ?_ hro
  simp only [Try.ntmps89, List.size_toArray, List.length_cons, List.length_nil, Nat.reduceAdd, Nat.reduceSub, Array.replicate_succ, Array.replicate_zero, List.push_toArray, List.append_toArray, List.nil_append, List.cons_append]
  gi_wp2
  have bO := Boxed.new w 63 (.slice none 0 0)
  have hB0 : Below w.heap.size w (w.alloc (.cells #[.slice none 0 0] 63)) := (Below.refl _ w).alloc (Nat.le_refl _) _
  refine wpIn_rangeFunc_ownH hro h1 (gf := 68) (lb := #[.pointer (some ⟨Bs, 0, none⟩)]) rfl h2F (enters_of Try.func68 (by kernel_rfl) rfl)
    (falling_stops F (n - 1) h2F hro (by omega) Bs b T rs hlen (w.alloc (.cells #[.slice none 0 0] 63)) (hA.keeps (keepsT_below hT hB0)) (fun k hk => by have := hT k hk; simp; omega)) KeepsT.trans (keepsT_b (fun k hk => by have := hT k hk; simp; omega)) (Below.refl _ _) (fun _ => rfl)
    (fun pre W => (∃ v, Boxed W w.heap.size 63 v ∧ W.ownsRow w.heap.size 62 2 v pre.length (rgsCells pre) ∧ (v = .slice none 0 0 ↔ pre = [])) ∧ Below w.heap.size w W)
    (fun _ _ _ => False)
    (OwnFrom.and (Own.from (holdsRow_own w.heap.size w.heap.size 63 62 2 (fun pre => pre.length) (fun pre => rgsCells pre) (fun pre v => v = .slice none 0 0 ↔ pre = [])) _) (ownFrom_below (Nat.le_refl _) (by simp)))
    (fun _ _ _ _ _ hs _ _ => hs)
    ⟨⟨_, bO, World.ownsRow_nil _ _ _ _, by simp⟩, hB0⟩
    (fun x a' W => ∃ Bx, w.heap.size < Bx ∧ Blk W Bx 62 #[.int .i64 x.lo, .int .i64 x.hi] ∧ a' = { tmps := #[.slice none 0 0, .func (.func 68) #[] #[.pointer (some ⟨Bs, 0, none⟩)], .pointer (some ⟨w.heap.size, 0, none⟩), undef, .slice none 0 0, .pointer (some ⟨Bx, 0, none⟩), .func (.func 68) #[] #[.pointer (some ⟨Bs, 0, none⟩)], encR x, undef, undef, undef, undef, undef], defers := [] })
    (fun x a' _ X Y row hs hg hr => by obtain ⟨Bx, h1, h2, h3⟩ := hs; exact ⟨Bx, h1, blk_own (β := Unit) Bx 62 _ () X Y row h2 hg (fun r e => (hr r e).2), h3⟩)
    ?assign ?body ?done ?stop
  case assign =>
    rintro l pre x W K ⟨⟨v, bS1, hr1, hn1⟩, hB1⟩ hK
    unfold encR
    gi_wp2
    exact hK _ _ ((KeepsOthers.alloc _ _).from _) (keepsT_below hT ((Below.refl _ W).alloc hB1.size _)) ⟨⟨v, bS1.alloc _, hr1.alloc _, hn1⟩, hB1.alloc hB1.size _⟩ ⟨W.heap.size, bS1.lt, Blk.new W _ _, rfl⟩
  case body =>
    rintro l pre x a' W hl ⟨r, hr⟩ ⟨⟨v, hv, hrow, hnil⟩, hB⟩ ⟨Bx, hBx, bX, rfl⟩ hlt
    have hc := hv.cell
    have x0 := bX.cell 0
    have x1 := bX.cell 1
    have hsrc := hide (src_blk (Blk.new W 62 #[.int .i64 x.lo, .int .i64 x.hi]) (pre := []) (cs := rgCells x) (post := []) (o := 0) rfl rfl)
    have hone := hide (x_one x)
    have hpl : pre.length + 1 ≤ 1000 := by omega
    gi_wp2_with (gi_at_builtin; refine wpListIn_append_own _ rfl _ _ 63 rfl w.heap.size 62 i0 (.agg #[.int .i64 0, .int .i64 0]) 2 16 Try.underlying63 hi hz0 hz1 hz2 rfl (by decide) _ _ _ rfl (hrow.alloc _) ⟨W.heap.size, 0, none⟩ 1 1 (rgCells x) rfl rfl hsrc.out hone.out (by unfold maxLen; omega) (by omega) (by have := hB.size; simp; omega) ?_; intro v' w1 hown' hgrow _; obtain ⟨g', cap', rfl⟩ := ownsRow_succ hown'; obtain ⟨hv1, hv2, hr2, hk2, hb2⟩ := hv.appended (by decide) hrow hB.size (Nat.le_refl _) hown' hgrow; have hc1 := hv1.cell; have hf1 := hv1.frozen)
    exact ⟨hk2.from _, keepsT_below hT hb2, ⟨_, hv2, by rw [rgs_append, List.length_append]; simpa [rgsCells] using hr2, by simp⟩, hB.trans hb2⟩
  case done =>
    rintro D ys W hD rfl ⟨⟨v, hv, hrow, hnil⟩, hB⟩ hK
    have hc := hv.cell
    gi_wp2
    refine ⟨by simp, .inl ⟨_, _, rfl, run_takeDeferred hK, ?_⟩⟩
    rw [rgs_rev_len] at hrow
    exact ⟨_, results_tmp rfl _ _ _, v, rfl, ownsRow_putObj hrow _ hK rfl, by simpa using hnil, hB.trans (belowK_b (w := w) (Nat.le_refl _) W D _ _ (by simp at hD; omega) hK rfl rfl)⟩
  case stop =>
    rintro D c pre W _ _ h _
    exact h.elim

theorem own_base {w : World} {base base' e size n : Nat} {v : Value} {xs : List Value} (h : w.ownsRow base e size v n xs) (hb : base' ≤ base) : w.ownsRow base' e size v n xs := by
  refine ⟨h.1, ?_⟩
  rcases h.2 with h0 | ⟨g, cap, cur, hv, hg, r⟩
  · exact .inl h0
  · exact .inr ⟨g, cap, cur, hv, Nat.le_trans hb hg, r⟩
/-- What Ranges leaves. -/
def SRangesPost (w : World) (rs : List Rg) (e : Ending) (W' : World) : Prop :=
  ∃ v, e = .returned v ∧ W'.ownsRow w.heap.size 62 2 v rs.length (rgsCells rs.reverse) ∧ (v = .slice none 0 0 ↔ rs = []) ∧ Below w.heap.size w W'

set_option maxHeartbeats 1000000 in
theorem collect_in (F : Fence) (n : Nat) (h0F : F.fn 62) (h1F : F.fn 89) (h2F : F.fn 68) (hro : F.round = none) (hn : 4 ≤ n) (Bs b : Nat) (T : List Nat) (rs : List Rg) (hlen : rs.length ≤ 1000) (w : World) (hA : FallAt w T Bs b rs) (hT : ∀ k ∈ T, k < w.heap.size) :
    CallsIn F n Try.prog 62 #[.func (.func 68) #[] #[.pointer (some ⟨Bs, 0, none⟩)]] w (SRangesPost w rs) := by
  have h1 : 1 ≤ n := by omega
  refine callsIn_of_wp Try.func62 rfl h0F ?_ hro
  simp only [Try.ntmps62, List.size_toArray, List.length_cons, List.length_nil, Nat.reduceAdd, Nat.reduceSub, Array.replicate_succ, Array.replicate_zero, List.push_toArray, List.append_toArray, List.nil_append, List.cons_append]
  gi_wp2_with (gi_at_call 89; refine (appendSeq_in F (n - 1) h1F h2F hro (by omega) Bs b T rs hlen w hA hT).mono ?_; rintro e w' ⟨v, rfl, hrow, hnil, hb⟩)
  go_ret
  exact ⟨v, rfl, hrow, hnil, hb⟩

/-- What a set is, the iterator reads it. -/
theorem IsSet.fall {w w' : World} {b Bs room : Nat} {g : Option Nat} {rs : List Rg} (h : IsSet w b g room rs) (hb : Below w.heap.size w w') (hx : Blk w' Bs 23 #[.pointer (some ⟨b, 0, none⟩)]) : FallAt w' (Bs :: b :: g.toList) Bs b rs := by
  obtain ⟨a, c, _, q1, hv, _, _, hat⟩ := (h.below hb).cells
  refine ⟨by simp, by simp, hx.cell 0, a, c, q1, fun i r hi => ?_⟩
  obtain ⟨k, rfl, hk, z0, z1⟩ := hat i r hi
  exact ⟨k, rfl, by rw [← hv]; simp [Value.ownBlock], z0, z1⟩
theorem IsSet.fallLt {w : World} {b Bs room n : Nat} {g : Option Nat} {rs : List Rg} (h : IsSet w b g room rs) (hw : w.heap.size ≤ n) (hB : Bs < n) : ∀ k ∈ Bs :: b :: g.toList, k < n := by
  intro k hk
  obtain ⟨h1, h2⟩ := h.lt
  simp at hk
  rcases hk with rfl | rfl | hk
  · exact hB
  · omega
  · have := (h2 k hk).1; omega

set_option maxHeartbeats 1000000 in
theorem ranges_any (b : Nat) (g : Option Nat) (room : Nat) (rs : List Rg) (w : World) (hS : IsSet w b g room rs) :
    Calls Try.prog 39 #[.pointer (some ⟨b, 0, none⟩)] w (SRangesPost w rs) := by
  obtain ⟨hlen, hr1, hroom⟩ := hS.len
  obtain ⟨a, c, c0, _, _, _, _, _⟩ := hS.cells
  have HNO := hide (snone_no b room w c0 hr1)
  have HCO := hide (collect_in Fence.wide 4 trivial trivial trivial rfl (Nat.le_refl _) w.heap.size b (w.heap.size :: b :: g.toList) rs (by omega) (w.alloc (.cells #[.pointer (some ⟨b, 0, none⟩)] 23)) (hS.fall ((Below.refl _ _).alloc (Nat.le_refl _) _) (Blk.new _ _ _)) (hS.fallLt (by simp) (by simp)))
  have HFA := hide (falling_in Fence.wide 4 trivial rfl b w)
  clear c0
  go_enter Try.func39, Try.ntmps39
  go_wp2_with (first | (go_at_call 41; refine HNO.out.mono ?_; rintro e1 w1 ⟨rfl, rfl⟩) | (go_at_call 47; refine (callsIn_wide.1 HFA.out).mono ?_; rintro e1 w1 ⟨rfl, rfl⟩) | (go_at_call 62; refine (callsIn_wide.1 HCO.out).mono ?_; rintro e1 w1 ⟨v, rfl, hrow, hnil, hb⟩))
  go_ret
  rw [World.size_alloc] at hrow hb
  exact ⟨v, rfl, own_base hrow (Nat.le_succ _), hnil, ((Below.refl _ w).alloc (Nat.le_refl _) _).trans (hb.mono (Nat.le_succ _))⟩
end Go.Proofs.Ytkmfhcjdajbbhaa
