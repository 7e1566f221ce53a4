/-
  Sets of ranges (package span): Count.
-/
import Derived.Test.YtkmfhcjdajbbhaaSpanIter2
namespace Go.Proofs.Ytkmfhcjdajbbhaa
set_option linter.unusedSimpArgs false
set_option linter.unusedVariables false
open Go.RowKit Go.Shelf
attribute [local go_sem] Oper.semAt_some

/-- How many numbers, as the program reckons it. -/
def cntW (rs : List Rg) : Int := rs.foldl (fun s r => wrap64 (s + wrap64 (wrap64 (r.hi - r.lo) + 1))) 0
theorem cntW_snoc (rs : List Rg) (r : Rg) : cntW (rs ++ [r]) = wrap64 (cntW rs + wrap64 (wrap64 (r.hi - r.lo) + 1)) := by simp [cntW]

set_option maxRecDepth 100000 in
set_option maxHeartbeats 4000000 in
theorem count_in (F : Fence) (n : Nat) (h0F : F.fn 16) (h1F : F.fn 47) (h2F : F.fn 68) (h3F : F.fn 41) (hro : F.round = none) (hn : 3 ≤ n) (b : Nat) (g : Option Nat) (room : Nat) (rs : List Rg) (w : World) (hS : IsSet w b g room rs)
    (HNO : CallsIn F (n - 1) Try.prog 41 #[.pointer (some ⟨b, 0, none⟩)] (w.alloc (.cells #[.int .i64 0] 3)) fun e w' => e = .returned (.bool false) ∧ w.alloc (.cells #[.int .i64 0] 3) = w') :
    CallsIn F n Try.prog 16 #[.pointer (some ⟨b, 0, none⟩)] w fun e W' => e = .returned (.int .i64 (cntW rs.reverse)) ∧ Below w.heap.size w W' := by
  have h1 : 1 ≤ n := by omega
  obtain ⟨hlen, hr1, hroom⟩ := hS.len
  refine callsIn_of_wp_marks Try.func16 rfl h0F ?_ hro
  simp only [Try.ntmps16, List.size_toArray, List.length_cons, List.length_nil, Nat.reduceAdd, Nat.reduceSub, Array.replicate_succ, Array.replicate_zero, List.push_toArray, List.append_toArray, List.nil_append, List.cons_append]
  gi_wp2_with (first | (gi_at_call 41; refine HNO.mono ?_; rintro e1 w1 ⟨rfl, rfl⟩) | (gi_at_call 47; refine (falling_in F (n - 1) h1F hro _ _).mono ?_; rintro e w' ⟨rfl, rfl⟩))
  have bO := (Boxed.new w 3 (.int .i64 0)).alloc (.cells #[.pointer (some ⟨b, 0, none⟩)] 23)
  have bX0 := Blk.new (w.alloc (.cells #[.int .i64 0] 3)) 23 #[.pointer (some ⟨b, 0, none⟩)]
  have hB0 : Below w.heap.size w ((w.alloc (.cells #[.int .i64 0] 3)).alloc (.cells #[.pointer (some ⟨b, 0, none⟩)] 23)) := ((Below.refl _ w).alloc (Nat.le_refl _) _).alloc (by simp) _
  have hsz : ((w.alloc (.cells #[.int .i64 0] 3)).alloc (.cells #[.pointer (some ⟨b, 0, none⟩)] 23)).heap.size = w.heap.size + 2 := by simp
  simp only [World.size_alloc] at bX0
  obtain ⟨W0, hW0⟩ : ∃ W0, (w.alloc (.cells #[.int .i64 0] 3)).alloc (.cells #[.pointer (some ⟨b, 0, none⟩)] 23) = W0 := ⟨_, rfl⟩
  rw [hW0] at bO bX0 hB0 hsz ⊢
  clear hW0
  have hT : ∀ k ∈ (w.heap.size + 1) :: b :: g.toList, k < W0.heap.size := hS.fallLt (by omega) (by omega)
  have hTn : w.heap.size ∉ (w.heap.size + 1) :: b :: g.toList := by
    intro hm
    have := hS.lt.1
    simp at hm
    rcases hm with h | h
    · omega
    · have := (hS.lt.2 _ h).1; omega
  refine wpIn_rangeFunc_ownH hro h1 (gf := 68) (lb := #[.pointer (some ⟨w.heap.size + 1, 0, none⟩)]) rfl h2F (enters_of Try.func68 (by kernel_rfl) rfl)
    (falling_stops F (n - 1) h2F hro (by omega) (w.heap.size + 1) b ((w.heap.size + 1) :: b :: g.toList) rs (by omega) W0 (hS.fall hB0 bX0) hT) KeepsT.trans (keepsT_b hT) (Below.refl _ _) (fun _ => rfl)
    (fun pre W => Boxed W w.heap.size 3 (.int .i64 (cntW pre)) ∧ Below w.heap.size w W ∧ W0.heap.size ≤ W.heap.size)
    (fun _ _ _ => False)
    (OwnFrom.and (Own.from (boxed_own _ _ _) _) (OwnFrom.and (ownFrom_below (Nat.le_refl _) (by omega)) (fun s X Y row hs hg hr => Nat.le_trans hs hg.size)))
    (fun _ _ _ _ _ hs _ _ => hs)
    ⟨bO, hB0, Nat.le_refl _⟩
    (fun x a' W => ∃ Bx, w.heap.size < Bx ∧ Blk W Bx 62 #[.int .i64 x.lo, .int .i64 x.hi] ∧ a' = { tmps := #[.pointer (some ⟨b, 0, none⟩), undef, .pointer (some ⟨w.heap.size, 0, none⟩), .pointer (some ⟨Bx, 0, none⟩), .pointer (some ⟨b, 0, none⟩), .bool false, .pointer (some ⟨b, 0, none⟩), .func (.func 68) #[] #[.pointer (some ⟨w.heap.size + 1, 0, none⟩)], encR x, undef, undef, undef, undef, undef, undef, undef, undef, undef], defers := [] })
    (fun x a' _ X Y row hs hg hr => by obtain ⟨Bx, h1, h2, h3⟩ := hs; exact ⟨Bx, h1, blk_own (β := Unit) Bx 62 _ () X Y row h2 hg (fun r e => (hr r e).2), h3⟩)
    ?assign ?body ?done ?stop
  case assign =>
    rintro l pre x W K ⟨bS1, hB1, hz⟩ hK
    unfold encR
    gi_wp2
    exact hK _ _ ((KeepsOthers.alloc _ _).from _) (fun k hk => Below.heap_alloc _ _ _ (Nat.lt_of_lt_of_le (hT k hk) hz)) ⟨bS1.alloc _, hB1.alloc hB1.size _, by simp; omega⟩ ⟨W.heap.size, bS1.lt, Blk.new W _ _, rfl⟩
  case body =>
    rintro l pre x a' W hl ⟨r, hr⟩ ⟨hv, hB, hz⟩ ⟨Bx, hBx, bX, rfl⟩ hlt
    have hc := hv.cell
    have hf := hv.frozen
    have x0 := bX.cell 0
    have x1 := bX.cell 1
    gi_wp2
    exact ⟨(KeepsOthers.setCell _ _ _).from _, fun k hk => Below.heap_setCell _ _ _ k (fun e => by have e2 : k = w.heap.size := e; rw [e2] at hk; exact hTn hk), by rw [cntW_snoc]; exact hv.set _, hB.setCell (p := ⟨w.heap.size, 0, none⟩) (Nat.le_refl _) _, by simpa using hz⟩
  case done =>
    rintro D ys W hD rfl ⟨hv, hB, hz⟩ hK
    have hc := hv.cell
    have hf := hv.frozen
    gi_wp2
    have hK' := (KeepsOthers.setCell W ⟨w.heap.size, 0, none⟩ (.int .i64 (cntW rs.reverse))).same D _ hK rfl
    refine ⟨by simp, .inl ⟨_, _, rfl, run_takeDeferred hK', ?_⟩⟩
    have hc5 := cell_kept (hv.set (.int .i64 (cntW rs.reverse))).cell (grownBy_putObj' _ D (.deferred none)) (fun r e => by cases e; exact ⟨_, hK', rfl⟩)
    refine ⟨.int .i64 (cntW rs.reverse), ?_, rfl, (hB.setCell (p := ⟨w.heap.size, 0, none⟩) (Nat.le_refl _) _).trans (belowK_b (w := w) (Nat.le_refl _) _ D _ _ (by omega) hK' rfl rfl)⟩
    simp [results, Try.f16, go_sem, hc5]
  case stop =>
    rintro D c pre W _ _ h _
    exact h.elim

/-- How many numbers. -/
def cntR : List Rg → Int
  | [] => 0
  | r :: rs => r.hi - r.lo + 1 + cntR rs
theorem cntW_good : ∀ {rs : List Rg}, GoodR rs → rs.length ≤ 1000 → cntW rs.reverse = cntR rs ∧ 0 ≤ cntR rs ∧ cntR rs ≤ rs.length * 9007199254740992
  | [], _, _ => ⟨rfl, Int.le_refl _, Int.le_refl _⟩
  | r :: rs, h, hl => by
    obtain ⟨h1, h2, h3, h4, _⟩ := h.cons
    rw [List.length_cons] at hl
    obtain ⟨e, e0, e1⟩ := cntW_good h1 (by omega)
    have hle : (rs.length : Int) ≤ 1000 := by omega
    rw [List.reverse_cons, cntW_snoc, e]
    have hu : cntR (r :: rs) = r.hi - r.lo + 1 + cntR rs := rfl
    rw [hu]
    have w1 : wrap64 (r.hi - r.lo) = r.hi - r.lo := by unfold wrap64; omega
    have w2 : wrap64 (r.hi - r.lo + 1) = r.hi - r.lo + 1 := by unfold wrap64; omega
    have w3 : wrap64 (cntR rs + (r.hi - r.lo + 1)) = cntR rs + (r.hi - r.lo + 1) := by unfold wrap64; omega
    rw [w1, w2, w3]
    refine ⟨by omega, by omega, ?_⟩
    rw [List.length_cons]
    omega

theorem count_any (b : Nat) (g : Option Nat) (room : Nat) (rs : List Rg) (w : World) (hS : IsSet w b g room rs) :
    Calls Try.prog 16 #[.pointer (some ⟨b, 0, none⟩)] w fun e w' => e = .returned (.int .i64 (cntR rs)) ∧ Below w.heap.size w w' := by
  obtain ⟨hlen, hr1, hroom⟩ := hS.len
  obtain ⟨_, _, c0, _, _, _, _, _⟩ := (hS.alloc (.cells #[.int .i64 0] 3)).cells
  have h := count_in Fence.wide 4 trivial trivial trivial trivial rfl (by omega) b g room rs w hS (callsIn_wide.2 (snone_no b room _ c0 hr1))
  rw [(cntW_good hS.good (by omega)).1] at h
  exact callsIn_wide.1 h
end Go.Proofs.Ytkmfhcjdajbbhaa
