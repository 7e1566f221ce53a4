/-
  sounderlaw24: works: its walk. Printed by wip/genjworks.py.
-/
import Derived.Test.YtidfngcclbhoaaaJgWorksC
import Derived.Deep.RegionHeld3
namespace Go.Proofs.Ytidfngcclbhoaaa
set_option linter.unusedSimpArgs false
set_option linter.unusedVariables false
open Go.RowKit Go.Shelf
theorem works_world (w : World) (zr c1 c2 : Array Value) (T : TypeId) : Blk ((((w.alloc (.cells zr T)).alloc (.cells zr T)).setRow w.heap.size c1).setRow (w.heap.size + 1) c2) w.heap.size T c1 ∧ Blk ((((w.alloc (.cells zr T)).alloc (.cells zr T)).setRow w.heap.size c1).setRow (w.heap.size + 1) c2) (w.heap.size + 1) T c2 ∧
    Below w.heap.size w ((((w.alloc (.cells zr T)).alloc (.cells zr T)).setRow w.heap.size c1).setRow (w.heap.size + 1) c2) ∧ Blk ((w.alloc (.cells zr T)).alloc (.cells zr T)) w.heap.size T zr ∧ Blk (((w.alloc (.cells zr T)).alloc (.cells zr T)).setRow w.heap.size c1) (w.heap.size + 1) T zr := by
  have h0 : Blk ((w.alloc (.cells zr T)).alloc (.cells zr T)) w.heap.size T zr := (Blk.new _ _ _).alloc _
  have h1 : Blk ((w.alloc (.cells zr T)).alloc (.cells zr T)) (w.heap.size + 1) T zr := by
    have := Blk.new (w.alloc (.cells zr T)) T zr
    simpa using this
  have hb : Below w.heap.size w ((w.alloc (.cells zr T)).alloc (.cells zr T)) := ((Below.refl _ _).alloc (Nat.le_refl _) _).alloc (by simp) _
  have o1 : Only [w.heap.size] ((w.alloc (.cells zr T)).alloc (.cells zr T)) (((w.alloc (.cells zr T)).alloc (.cells zr T)).setRow w.heap.size c1) := only_setRow
  have o2 : Only [w.heap.size + 1] (((w.alloc (.cells zr T)).alloc (.cells zr T)).setRow w.heap.size c1) ((((w.alloc (.cells zr T)).alloc (.cells zr T)).setRow w.heap.size c1).setRow (w.heap.size + 1) c2) := only_setRow
  have h1' := o1.blk h1 (by simp)
  have hb1 := hb.trans (o1.below (B := w.heap.size) (by intro x hx; rw [List.mem_singleton] at hx; omega) hb.size)
  exact ⟨o2.blk (blk_setRow h0) (by simp), blk_setRow h1', hb1.trans (o2.below (B := w.heap.size) (by intro x hx; rw [List.mem_singleton] at hx; omega) hb1.size), h0, h1'⟩
set_option maxRecDepth 100000 in
set_option maxHeartbeats 8000000 in
theorem works_any (w : World) : Calls Try.prog 8 #[] w fun e w' => e = .returned (.bool true) ∧ Below w.heap.size w w' := by
  have HSD := hide (fun n t W => sends_law n t W)
  have HAK := hide (fun W => acks_law W)
  go_enter Try.func8, Try.ntmps8
  go_wp2_with fail
  with_reducible refine (HSD.out 0 0 _).mono ?_
  rintro y1 W1 ⟨rfl, hb1⟩
  go_wp2_with fail
  with_reducible refine (HAK.out _).mono ?_
  rintro y2 W2 ⟨⟨a1, a2, rfl, hA1, hA2⟩, hb2⟩
  obtain ⟨g1, g2, g3, g4, g5⟩ := works_world W2 #[.int .i64 0, .int .i64 0, .int .i64 0, .int .i64 0, .int .i64 0, .int .i64 0, .int .i64 0, .bool false, .bool false, .bool false, .bool false, .int .i64 0, .slice none 0 0, .bool false, .int .i64 0, .int .i64 0, .int .i64 0, .slice none 0 0, .int .i64 0, .int .i64 0] #[.int .i64 1, .int .i64 0, .int .i64 0, .int .i64 0, .int .i64 0, .int .i64 0, .int .i64 1200, .bool true, .bool true, .bool false, .bool false, .int .i64 0, .slice none 0 0, .bool false, .int .i64 0, .int .i64 0, .int .i64 0, .slice none 0 0, .int .i64 0, .int .i64 0] #[.int .i64 2, .int .i64 9, .int .i64 0, .int .i64 0, .int .i64 0, .int .i64 0, .int .i64 0, .bool false, .bool false, .bool false, .bool false, .int .i64 0, .slice (some ⟨a1, 0, none⟩) 1 1, .bool false, .int .i64 0, .int .i64 0, .int .i64 0, .slice (some ⟨a2, 0, none⟩) 2 2, .int .i64 0, .int .i64 0] 36
  have hbw := hb1.trans (hb2.mono hb1.size)
  have hs3 : WkSt w _ W2.heap.size (W2.heap.size + 1) a1 a2 := ⟨g1, g2, (g3.block _ hA1.lt).trans hA1, (g3.block _ hA2.lt).trans hA2, hbw.trans (g3.mono hbw.size)⟩
  have HS3 := hide hs3
  have G4 := hide g4
  have G5 := hide g5
  clear hs3 g1 g2 g3 g4 g5 hA1 hA2 hb1 hb2 hbw
  go_upto_region 2 with (first
    | (refine wpList_store_row rfl 36 (.tmp 1) (.tmp 3) rfl W2.heap.size #[.int .i64 1, .int .i64 0, .int .i64 0, .int .i64 0, .int .i64 0, .int .i64 0, .int .i64 1200, .bool true, .bool true, .bool false, .bool false, .int .i64 0, .slice none 0 0, .bool false, .int .i64 0, .int .i64 0, .int .i64 0, .slice none 0 0, .int .i64 0, .int .i64 0] rfl rfl 36 #[.int .i64 0, .int .i64 0, .int .i64 0, .int .i64 0, .int .i64 0, .int .i64 0, .int .i64 0, .bool false, .bool false, .bool false, .bool false, .int .i64 0, .slice none 0 0, .bool false, .int .i64 0, .int .i64 0, .int .i64 0, .slice none 0 0, .int .i64 0, .int .i64 0] G4.out row_size rfl (by simp [Value.oneCell']) ?_)
    | (refine wpList_store_row rfl 36 (.tmp 2) (.tmp 4) rfl (W2.heap.size + 1) #[.int .i64 2, .int .i64 9, .int .i64 0, .int .i64 0, .int .i64 0, .int .i64 0, .int .i64 0, .bool false, .bool false, .bool false, .bool false, .int .i64 0, .slice (some ⟨a1, 0, none⟩) 1 1, .bool false, .int .i64 0, .int .i64 0, .int .i64 0, .slice (some ⟨a2, 0, none⟩) 2 2, .int .i64 0, .int .i64 0] rfl rfl 36 #[.int .i64 0, .int .i64 0, .int .i64 0, .int .i64 0, .int .i64 0, .int .i64 0, .int .i64 0, .bool false, .bool false, .bool false, .bool false, .int .i64 0, .slice none 0 0, .bool false, .int .i64 0, .int .i64 0, .int .i64 0, .slice none 0 0, .int .i64 0, .int .i64 0] G5.out row_size rfl (by simp [Value.oneCell']) ?_))
  obtain ⟨W3, hW3⟩ : ∃ x, (((W2.alloc (.cells #[.int .i64 0, .int .i64 0, .int .i64 0, .int .i64 0, .int .i64 0, .int .i64 0, .int .i64 0, .bool false, .bool false, .bool false, .bool false, .int .i64 0, .slice none 0 0, .bool false, .int .i64 0, .int .i64 0, .int .i64 0, .slice none 0 0, .int .i64 0, .int .i64 0] 36)).alloc (.cells #[.int .i64 0, .int .i64 0, .int .i64 0, .int .i64 0, .int .i64 0, .int .i64 0, .int .i64 0, .bool false, .bool false, .bool false, .bool false, .int .i64 0, .slice none 0 0, .bool false, .int .i64 0, .int .i64 0, .int .i64 0, .slice none 0 0, .int .i64 0, .int .i64 0] 36)).setRow W2.heap.size #[.int .i64 1, .int .i64 0, .int .i64 0, .int .i64 0, .int .i64 0, .int .i64 0, .int .i64 1200, .bool true, .bool true, .bool false, .bool false, .int .i64 0, .slice none 0 0, .bool false, .int .i64 0, .int .i64 0, .int .i64 0, .slice none 0 0, .int .i64 0, .int .i64 0]).setRow (W2.heap.size + 1) #[.int .i64 2, .int .i64 9, .int .i64 0, .int .i64 0, .int .i64 0, .int .i64 0, .int .i64 0, .bool false, .bool false, .bool false, .bool false, .int .i64 0, .slice (some ⟨a1, 0, none⟩) 1 1, .bool false, .int .i64 0, .int .i64 0, .int .i64 0, .slice (some ⟨a2, 0, none⟩) 2 2, .int .i64 0, .int .i64 0] = x := ⟨_, rfl⟩
  obtain ⟨X1, hX1⟩ : ∃ x, W2.heap.size = x := ⟨_, rfl⟩
  rw [hW3, hX1] at HS3
  rw [hW3, hX1]
  clear hW3 hX1 G4 G5
  go_wp2_with fail
  refine wp_region_held_drew (S := (fun w' => WkSt w w' X1 (X1 + 1) a1 a2)) (by kernel_rfl) (HS3.out.later (below_drewN (Below.refl _ _) 1)) (fun hHeld => ?_)
  refine wpAnyH_take (i := 0) (v := .agg #[.int .i64 1, .int .i64 0, .int .i64 0, .int .i64 0, .int .i64 0, .int .i64 0, .int .i64 1200, .bool true, .bool true, .bool false, .bool false, .int .i64 0, .slice none 0 0, .bool false, .int .i64 0, .int .i64 0, .int .i64 0, .slice none 0 0, .int .i64 0, .int .i64 0]) rfl (by kernel_rfl) (by kernel_rfl) (by kernel_rfl) (fun c a9 w9 h => blind_then blind_body c a9 _ _ w9 h) (Or.inl ⟨by rfl, fun w' hw => exec_load_row 36 (.tmp 1) rfl X1 rfl 36 #[.int .i64 1, .int .i64 0, .int .i64 0, .int .i64 0, .int .i64 0, .int .i64 0, .int .i64 1200, .bool true, .bool true, .bool false, .bool false, .int .i64 0, .slice none 0 0, .bool false, .int .i64 0, .int .i64 0, .int .i64 0, .slice none 0 0, .int .i64 0, .int .i64 0] (0, 0) _ (WkSt.s hw) Try.underlying36 rfl row_size⟩) (by assumption) ?_
  try simp only [Act.put, List.getElem_toArray, List.getElem_cons_zero, List.getElem_cons_succ, List.setIfInBounds_toArray, List.set_cons_zero, List.set_cons_succ]
  refine wpAnyH_take (i := 1) (v := .agg #[.int .i64 2, .int .i64 9, .int .i64 0, .int .i64 0, .int .i64 0, .int .i64 0, .int .i64 0, .bool false, .bool false, .bool false, .bool false, .int .i64 0, .slice (some ⟨a1, 0, none⟩) 1 1, .bool false, .int .i64 0, .int .i64 0, .int .i64 0, .slice (some ⟨a2, 0, none⟩) 2 2, .int .i64 0, .int .i64 0]) rfl (by kernel_rfl) (by kernel_rfl) (by kernel_rfl) (fun c a9 w9 h => blind_then blind_body c a9 _ _ w9 h) (Or.inl ⟨by rfl, fun w' hw => exec_load_row 36 (.tmp 2) rfl (X1 + 1) rfl 36 #[.int .i64 2, .int .i64 9, .int .i64 0, .int .i64 0, .int .i64 0, .int .i64 0, .int .i64 0, .bool false, .bool false, .bool false, .bool false, .int .i64 0, .slice (some ⟨a1, 0, none⟩) 1 1, .bool false, .int .i64 0, .int .i64 0, .int .i64 0, .slice (some ⟨a2, 0, none⟩) 2 2, .int .i64 0, .int .i64 0] (0, 0) _ (WkSt.a hw) Try.underlying36 rfl row_size⟩) (by assumption) ?_
  try simp only [Act.put, List.getElem_toArray, List.getElem_cons_zero, List.getElem_cons_succ, List.setIfInBounds_toArray, List.set_cons_zero, List.set_cons_succ]
  refine wpAnyH_ready (rs := [2]) (by kernel_rfl) (by simp) ?_
  refine AllReadyH.cons rfl (fun K hK => ?_) AllReadyH.nil
  go_simp
  refine hK.out _ _ (WkSt.later hHeld ((Below.refl _ _).alloc (Nat.le_refl _) _)) (fun hHeld => ?_)
  clear hK K
  try simp only [Act.put, List.getElem_toArray, List.getElem_cons_zero, List.getElem_cons_succ, List.setIfInBounds_toArray, List.set_cons_zero, List.set_cons_succ]
  refine wpAnyH_ready (rs := [3]) (by kernel_rfl) (by simp) ?_
  refine AllReadyH.cons rfl (fun K hK => ?_) AllReadyH.nil
  go_simp
  go_at_call 12
  refine (f_sa hHeld (Blk.new _ _ _)).mono ?_
  rintro y2 u2 ⟨rfl, hb2⟩
  refine hK.out _ _ (WkSt.later hHeld hb2) (fun hHeld => ?_)
  clear hK K
  try simp only [Act.put, List.getElem_toArray, List.getElem_cons_zero, List.getElem_cons_succ, List.setIfInBounds_toArray, List.set_cons_zero, List.set_cons_succ]
  refine wpAnyH_take (i := 4) (v := ?_) rfl (by kernel_rfl) (by kernel_rfl) (by kernel_rfl) (fun c a9 w9 h => blind_then blind_body c a9 _ _ w9 h) (Or.inl ⟨by rfl, ?_⟩) (by assumption) ?_
  rotate_left
  · intro w' hSw; (try dsimp only at hSw); skip; go_simp; try with_reducible rfl
  try simp only [Act.put, List.getElem_toArray, List.getElem_cons_zero, List.getElem_cons_succ, List.setIfInBounds_toArray, List.set_cons_zero, List.set_cons_succ]
  refine wpAnyH_take (i := 5) (v := .agg #[.int .i64 1, .int .i64 0, .int .i64 0, .int .i64 0, .int .i64 0, .int .i64 0, .int .i64 1200, .bool true, .bool true, .bool false, .bool false, .int .i64 0, .slice none 0 0, .bool false, .int .i64 0, .int .i64 0, .int .i64 0, .slice none 0 0, .int .i64 0, .int .i64 0]) rfl (by kernel_rfl) (by kernel_rfl) (by kernel_rfl) (fun c a9 w9 h => blind_then blind_body c a9 _ _ w9 h) (Or.inl ⟨by rfl, fun w' hw => exec_load_row 36 (.tmp 1) rfl X1 rfl 36 #[.int .i64 1, .int .i64 0, .int .i64 0, .int .i64 0, .int .i64 0, .int .i64 0, .int .i64 1200, .bool true, .bool true, .bool false, .bool false, .int .i64 0, .slice none 0 0, .bool false, .int .i64 0, .int .i64 0, .int .i64 0, .slice none 0 0, .int .i64 0, .int .i64 0] (0, 0) _ (WkSt.s hw) Try.underlying36 rfl row_size⟩) (by assumption) ?_
  try simp only [Act.put, List.getElem_toArray, List.getElem_cons_zero, List.getElem_cons_succ, List.setIfInBounds_toArray, List.set_cons_zero, List.set_cons_succ]
  refine wpAnyH_take (i := 6) (v := .agg #[.int .i64 1, .int .i64 0, .int .i64 0, .int .i64 0, .int .i64 0, .int .i64 0, .int .i64 1200, .bool true, .bool true, .bool false, .bool false, .int .i64 0, .slice none 0 0, .bool false, .int .i64 0, .int .i64 0, .int .i64 0, .slice none 0 0, .int .i64 0, .int .i64 0]) rfl (by kernel_rfl) (by kernel_rfl) (by kernel_rfl) (fun c a9 w9 h => blind_then blind_body c a9 _ _ w9 h) (Or.inl ⟨by rfl, fun w' hw => exec_load_row 36 (.tmp 1) rfl X1 rfl 36 #[.int .i64 1, .int .i64 0, .int .i64 0, .int .i64 0, .int .i64 0, .int .i64 0, .int .i64 1200, .bool true, .bool true, .bool false, .bool false, .int .i64 0, .slice none 0 0, .bool false, .int .i64 0, .int .i64 0, .int .i64 0, .slice none 0 0, .int .i64 0, .int .i64 0] (0, 0) _ (WkSt.s hw) Try.underlying36 rfl row_size⟩) (by assumption) ?_
  try simp only [Act.put, List.getElem_toArray, List.getElem_cons_zero, List.getElem_cons_succ, List.setIfInBounds_toArray, List.set_cons_zero, List.set_cons_succ]
  refine wpAnyH_ready (rs := [7]) (by kernel_rfl) (by simp) ?_
  refine AllReadyH.cons rfl (fun K hK => ?_) AllReadyH.nil
  go_simp
  refine hK.out _ _ (WkSt.later hHeld ((Below.refl _ _).alloc (Nat.le_refl _) _)) (fun hHeld => ?_)
  clear hK K
  try simp only [Act.put, List.getElem_toArray, List.getElem_cons_zero, List.getElem_cons_succ, List.setIfInBounds_toArray, List.set_cons_zero, List.set_cons_succ]
  refine wpAnyH_ready (rs := [8]) (by kernel_rfl) (by simp) ?_
  refine AllReadyH.cons rfl (fun K hK => ?_) AllReadyH.nil
  go_simp
  go_at_call 12
  refine (f_ss hHeld (Blk.new _ _ _)).mono ?_
  rintro y4 u4 ⟨rfl, hb4⟩
  refine hK.out _ _ (WkSt.later hHeld hb4) (fun hHeld => ?_)
  clear hK K
  try simp only [Act.put, List.getElem_toArray, List.getElem_cons_zero, List.getElem_cons_succ, List.setIfInBounds_toArray, List.set_cons_zero, List.set_cons_succ]
  refine wpAnyH_take (i := 9) (v := ?_) rfl (by kernel_rfl) (by kernel_rfl) (by kernel_rfl) (fun c a9 w9 h => blind_then blind_body c a9 _ _ w9 h) (Or.inl ⟨by rfl, ?_⟩) (by assumption) ?_
  rotate_left
  · intro w' hSw; (try dsimp only at hSw); skip; go_simp; try with_reducible rfl
  try simp only [Act.put, List.getElem_toArray, List.getElem_cons_zero, List.getElem_cons_succ, List.setIfInBounds_toArray, List.set_cons_zero, List.set_cons_succ]
  refine wpAnyH_take (i := 10) (v := ?_) rfl (by kernel_rfl) (by kernel_rfl) (by kernel_rfl) (fun c a9 w9 h => blind_then blind_body c a9 _ _ w9 h) (Or.inl ⟨by rfl, ?_⟩) (by assumption) ?_
  rotate_left
  · intro w' hSw; (try dsimp only at hSw); skip; go_simp; try with_reducible rfl
  try simp only [Act.put, List.getElem_toArray, List.getElem_cons_zero, List.getElem_cons_succ, List.setIfInBounds_toArray, List.set_cons_zero, List.set_cons_succ]
  refine wpAnyH_take (i := 11) (v := .agg #[.int .i64 2, .int .i64 9, .int .i64 0, .int .i64 0, .int .i64 0, .int .i64 0, .int .i64 0, .bool false, .bool false, .bool false, .bool false, .int .i64 0, .slice (some ⟨a1, 0, none⟩) 1 1, .bool false, .int .i64 0, .int .i64 0, .int .i64 0, .slice (some ⟨a2, 0, none⟩) 2 2, .int .i64 0, .int .i64 0]) rfl (by kernel_rfl) (by kernel_rfl) (by kernel_rfl) (fun c a9 w9 h => blind_then blind_body c a9 _ _ w9 h) (Or.inl ⟨by rfl, fun w' hw => exec_load_row 36 (.tmp 2) rfl (X1 + 1) rfl 36 #[.int .i64 2, .int .i64 9, .int .i64 0, .int .i64 0, .int .i64 0, .int .i64 0, .int .i64 0, .bool false, .bool false, .bool false, .bool false, .int .i64 0, .slice (some ⟨a1, 0, none⟩) 1 1, .bool false, .int .i64 0, .int .i64 0, .int .i64 0, .slice (some ⟨a2, 0, none⟩) 2 2, .int .i64 0, .int .i64 0] (0, 0) _ (WkSt.a hw) Try.underlying36 rfl row_size⟩) (by assumption) ?_
  try simp only [Act.put, List.getElem_toArray, List.getElem_cons_zero, List.getElem_cons_succ, List.setIfInBounds_toArray, List.set_cons_zero, List.set_cons_succ]
  refine wpAnyH_ready (rs := [12]) (by kernel_rfl) (by simp) ?_
  refine AllReadyH.cons rfl (fun K hK => ?_) AllReadyH.nil
  go_simp
  refine hK.out _ _ (WkSt.later hHeld ((Below.refl _ _).alloc (Nat.le_refl _) _)) (fun hHeld => ?_)
  clear hK K
  try simp only [Act.put, List.getElem_toArray, List.getElem_cons_zero, List.getElem_cons_succ, List.setIfInBounds_toArray, List.set_cons_zero, List.set_cons_succ]
  refine wpAnyH_ready (rs := [13]) (by kernel_rfl) (by simp) ?_
  refine AllReadyH.cons rfl (fun K hK => ?_) AllReadyH.nil
  go_simp
  go_at_call 12
  refine (f_a hHeld (Blk.new _ _ _)).mono ?_
  rintro y6 u6 ⟨rfl, hb6⟩
  refine hK.out _ _ (WkSt.later hHeld hb6) (fun hHeld => ?_)
  clear hK K
  try simp only [Act.put, List.getElem_toArray, List.getElem_cons_zero, List.getElem_cons_succ, List.setIfInBounds_toArray, List.set_cons_zero, List.set_cons_succ]
  refine wpAnyH_take (i := 14) (v := ?_) rfl (by kernel_rfl) (by kernel_rfl) (by kernel_rfl) (fun c a9 w9 h => blind_then blind_body c a9 _ _ w9 h) (Or.inl ⟨by rfl, ?_⟩) (by assumption) ?_
  rotate_left
  · intro w' hSw; (try dsimp only at hSw); skip; go_simp; try with_reducible rfl
  try simp only [Act.put, List.getElem_toArray, List.getElem_cons_zero, List.getElem_cons_succ, List.setIfInBounds_toArray, List.set_cons_zero, List.set_cons_succ]
  refine wpAnyH_take (i := 15) (v := ?_) rfl (by kernel_rfl) (by kernel_rfl) (by kernel_rfl) (fun c a9 w9 h => blind_then blind_body c a9 _ _ w9 h) (Or.inl ⟨by rfl, ?_⟩) (by assumption) ?_
  rotate_left
  · intro w' hSw; (try dsimp only at hSw); skip; go_simp; try with_reducible rfl
  try simp only [Act.put, List.getElem_toArray, List.getElem_cons_zero, List.getElem_cons_succ, List.setIfInBounds_toArray, List.set_cons_zero, List.set_cons_succ]
  refine wpAnyH_take (i := 16) (v := .agg #[.int .i64 1, .int .i64 0, .int .i64 0, .int .i64 0, .int .i64 0, .int .i64 0, .int .i64 1200, .bool true, .bool true, .bool false, .bool false, .int .i64 0, .slice none 0 0, .bool false, .int .i64 0, .int .i64 0, .int .i64 0, .slice none 0 0, .int .i64 0, .int .i64 0]) rfl (by kernel_rfl) (by kernel_rfl) (by kernel_rfl) (fun c a9 w9 h => blind_then blind_body c a9 _ _ w9 h) (Or.inl ⟨by rfl, fun w' hw => exec_load_row 36 (.tmp 1) rfl X1 rfl 36 #[.int .i64 1, .int .i64 0, .int .i64 0, .int .i64 0, .int .i64 0, .int .i64 0, .int .i64 1200, .bool true, .bool true, .bool false, .bool false, .int .i64 0, .slice none 0 0, .bool false, .int .i64 0, .int .i64 0, .int .i64 0, .slice none 0 0, .int .i64 0, .int .i64 0] (0, 0) _ (WkSt.s hw) Try.underlying36 rfl row_size⟩) (by assumption) ?_
  try simp only [Act.put, List.getElem_toArray, List.getElem_cons_zero, List.getElem_cons_succ, List.setIfInBounds_toArray, List.set_cons_zero, List.set_cons_succ]
  refine wpAnyH_take (i := 17) (v := .agg #[.int .i64 2, .int .i64 9, .int .i64 0, .int .i64 0, .int .i64 0, .int .i64 0, .int .i64 0, .bool false, .bool false, .bool false, .bool false, .int .i64 0, .slice (some ⟨a1, 0, none⟩) 1 1, .bool false, .int .i64 0, .int .i64 0, .int .i64 0, .slice (some ⟨a2, 0, none⟩) 2 2, .int .i64 0, .int .i64 0]) rfl (by kernel_rfl) (by kernel_rfl) (by kernel_rfl) (fun c a9 w9 h => blind_then blind_body c a9 _ _ w9 h) (Or.inl ⟨by rfl, fun w' hw => exec_load_row 36 (.tmp 2) rfl (X1 + 1) rfl 36 #[.int .i64 2, .int .i64 9, .int .i64 0, .int .i64 0, .int .i64 0, .int .i64 0, .int .i64 0, .bool false, .bool false, .bool false, .bool false, .int .i64 0, .slice (some ⟨a1, 0, none⟩) 1 1, .bool false, .int .i64 0, .int .i64 0, .int .i64 0, .slice (some ⟨a2, 0, none⟩) 2 2, .int .i64 0, .int .i64 0] (0, 0) _ (WkSt.a hw) Try.underlying36 rfl row_size⟩) (by assumption) ?_
  try simp only [Act.put, List.getElem_toArray, List.getElem_cons_zero, List.getElem_cons_succ, List.setIfInBounds_toArray, List.set_cons_zero, List.set_cons_succ]
  refine wpAnyH_take (i := 18) (v := .agg #[.int .i64 2, .int .i64 9, .int .i64 0, .int .i64 0, .int .i64 0, .int .i64 0, .int .i64 0, .bool false, .bool false, .bool false, .bool false, .int .i64 0, .slice (some ⟨a1, 0, none⟩) 1 1, .bool false, .int .i64 0, .int .i64 0, .int .i64 0, .slice (some ⟨a2, 0, none⟩) 2 2, .int .i64 0, .int .i64 0]) rfl (by kernel_rfl) (by kernel_rfl) (by kernel_rfl) (fun c a9 w9 h => blind_then blind_body c a9 _ _ w9 h) (Or.inl ⟨by rfl, fun w' hw => exec_load_row 36 (.tmp 2) rfl (X1 + 1) rfl 36 #[.int .i64 2, .int .i64 9, .int .i64 0, .int .i64 0, .int .i64 0, .int .i64 0, .int .i64 0, .bool false, .bool false, .bool false, .bool false, .int .i64 0, .slice (some ⟨a1, 0, none⟩) 1 1, .bool false, .int .i64 0, .int .i64 0, .int .i64 0, .slice (some ⟨a2, 0, none⟩) 2 2, .int .i64 0, .int .i64 0] (0, 0) _ (WkSt.a hw) Try.underlying36 rfl row_size⟩) (by assumption) ?_
  try simp only [Act.put, List.getElem_toArray, List.getElem_cons_zero, List.getElem_cons_succ, List.setIfInBounds_toArray, List.set_cons_zero, List.set_cons_succ]
  refine wpAnyH_ready (rs := [19]) (by kernel_rfl) (by simp) ?_
  refine AllReadyH.cons rfl (fun K hK => ?_) AllReadyH.nil
  go_simp
  refine hK.out _ _ (WkSt.later hHeld ((Below.refl _ _).alloc (Nat.le_refl _) _)) (fun hHeld => ?_)
  clear hK K
  try simp only [Act.put, List.getElem_toArray, List.getElem_cons_zero, List.getElem_cons_succ, List.setIfInBounds_toArray, List.set_cons_zero, List.set_cons_succ]
  refine wpAnyH_ready (rs := [20]) (by kernel_rfl) (by simp) ?_
  refine AllReadyH.cons rfl (fun K hK => ?_) AllReadyH.nil
  go_simp
  go_at_call 12
  refine (f_saa hHeld (Blk.new _ _ _)).mono ?_
  rintro y8 u8 ⟨rfl, hb8⟩
  refine hK.out _ _ (WkSt.later hHeld hb8) (fun hHeld => ?_)
  clear hK K
  try simp only [Act.put, List.getElem_toArray, List.getElem_cons_zero, List.getElem_cons_succ, List.setIfInBounds_toArray, List.set_cons_zero, List.set_cons_succ]
  refine wpAnyH_take (i := 21) (v := ?_) rfl (by kernel_rfl) (by kernel_rfl) (by kernel_rfl) (fun c a9 w9 h => blind_then blind_body c a9 _ _ w9 h) (Or.inl ⟨by rfl, ?_⟩) (by assumption) ?_
  rotate_left
  · intro w' hSw; (try dsimp only at hSw); skip; go_simp; try with_reducible rfl
  try simp only [Act.put, List.getElem_toArray, List.getElem_cons_zero, List.getElem_cons_succ, List.setIfInBounds_toArray, List.set_cons_zero, List.set_cons_succ]
  refine wpAnyH_take (i := 22) (v := ?_) rfl (by kernel_rfl) (by kernel_rfl) (by kernel_rfl) (fun c a9 w9 h => blind_then blind_body c a9 _ _ w9 h) (Or.inl ⟨by rfl, ?_⟩) (by assumption) ?_
  rotate_left
  · intro w' hSw; (try dsimp only at hSw); skip; go_simp; try with_reducible rfl
  try simp only [Act.put, List.getElem_toArray, List.getElem_cons_zero, List.getElem_cons_succ, List.setIfInBounds_toArray, List.set_cons_zero, List.set_cons_succ]
  refine wpAnyH_take (i := 23) (v := .agg #[.int .i64 1, .int .i64 0, .int .i64 0, .int .i64 0, .int .i64 0, .int .i64 0, .int .i64 1200, .bool true, .bool true, .bool false, .bool false, .int .i64 0, .slice none 0 0, .bool false, .int .i64 0, .int .i64 0, .int .i64 0, .slice none 0 0, .int .i64 0, .int .i64 0]) rfl (by kernel_rfl) (by kernel_rfl) (by kernel_rfl) (fun c a9 w9 h => blind_then blind_body c a9 _ _ w9 h) (Or.inl ⟨by rfl, fun w' hw => exec_load_row 36 (.tmp 1) rfl X1 rfl 36 #[.int .i64 1, .int .i64 0, .int .i64 0, .int .i64 0, .int .i64 0, .int .i64 0, .int .i64 1200, .bool true, .bool true, .bool false, .bool false, .int .i64 0, .slice none 0 0, .bool false, .int .i64 0, .int .i64 0, .int .i64 0, .slice none 0 0, .int .i64 0, .int .i64 0] (0, 0) _ (WkSt.s hw) Try.underlying36 rfl row_size⟩) (by assumption) ?_
  try simp only [Act.put, List.getElem_toArray, List.getElem_cons_zero, List.getElem_cons_succ, List.setIfInBounds_toArray, List.set_cons_zero, List.set_cons_succ]
  refine wpAnyH_take (i := 24) (v := .agg #[.int .i64 2, .int .i64 9, .int .i64 0, .int .i64 0, .int .i64 0, .int .i64 0, .int .i64 0, .bool false, .bool false, .bool false, .bool false, .int .i64 0, .slice (some ⟨a1, 0, none⟩) 1 1, .bool false, .int .i64 0, .int .i64 0, .int .i64 0, .slice (some ⟨a2, 0, none⟩) 2 2, .int .i64 0, .int .i64 0]) rfl (by kernel_rfl) (by kernel_rfl) (by kernel_rfl) (fun c a9 w9 h => blind_then blind_body c a9 _ _ w9 h) (Or.inl ⟨by rfl, fun w' hw => exec_load_row 36 (.tmp 2) rfl (X1 + 1) rfl 36 #[.int .i64 2, .int .i64 9, .int .i64 0, .int .i64 0, .int .i64 0, .int .i64 0, .int .i64 0, .bool false, .bool false, .bool false, .bool false, .int .i64 0, .slice (some ⟨a1, 0, none⟩) 1 1, .bool false, .int .i64 0, .int .i64 0, .int .i64 0, .slice (some ⟨a2, 0, none⟩) 2 2, .int .i64 0, .int .i64 0] (0, 0) _ (WkSt.a hw) Try.underlying36 rfl row_size⟩) (by assumption) ?_
  try simp only [Act.put, List.getElem_toArray, List.getElem_cons_zero, List.getElem_cons_succ, List.setIfInBounds_toArray, List.set_cons_zero, List.set_cons_succ]
  refine wpAnyH_ready (rs := [25]) (by kernel_rfl) (by simp) ?_
  refine AllReadyH.cons rfl (fun K hK => ?_) AllReadyH.nil
  go_simp
  go_at_call 9
  with_reducible refine (HSD.out 1 8 _).mono ?_
  rintro y9 u9 ⟨rfl, hb9⟩
  refine hK.out _ _ (WkSt.later hHeld hb9) (fun hHeld => ?_)
  clear hK K
  try simp only [Act.put, List.getElem_toArray, List.getElem_cons_zero, List.getElem_cons_succ, List.setIfInBounds_toArray, List.set_cons_zero, List.set_cons_succ]
  refine wpAnyH_ready (rs := [26]) (by kernel_rfl) (by simp) ?_
  refine AllReadyH.cons rfl (fun K hK => ?_) AllReadyH.nil
  go_simp
  refine hK.out _ _ (WkSt.later hHeld ((Below.refl _ _).alloc (Nat.le_refl _) _)) (fun hHeld => ?_)
  clear hK K
  try simp only [Act.put, List.getElem_toArray, List.getElem_cons_zero, List.getElem_cons_succ, List.setIfInBounds_toArray, List.set_cons_zero, List.set_cons_succ]
  refine wpAnyH_ready (rs := [27]) (by kernel_rfl) (by simp) ?_
  refine AllReadyH.cons rfl (fun K hK => ?_) AllReadyH.nil
  go_simp
  go_at_call 12
  refine (f_sas hHeld (Blk.new _ _ _)).mono ?_
  rintro y10 u10 ⟨rfl, hb10⟩
  refine hK.out _ _ (WkSt.later hHeld hb10) (fun hHeld => ?_)
  clear hK K
  try simp only [Act.put, List.getElem_toArray, List.getElem_cons_zero, List.getElem_cons_succ, List.setIfInBounds_toArray, List.set_cons_zero, List.set_cons_succ]
  refine wpAnyH_take (i := 28) (v := ?_) rfl (by kernel_rfl) (by kernel_rfl) (by kernel_rfl) (fun c a9 w9 h => blind_then blind_body c a9 _ _ w9 h) (Or.inl ⟨by rfl, ?_⟩) (by assumption) ?_
  rotate_left
  · intro w' hSw; (try dsimp only at hSw); skip; go_simp; try with_reducible rfl
  try simp only [Act.put, List.getElem_toArray, List.getElem_cons_zero, List.getElem_cons_succ, List.setIfInBounds_toArray, List.set_cons_zero, List.set_cons_succ]
  refine wpAnyH_take (i := 29) (v := ?_) rfl (by kernel_rfl) (by kernel_rfl) (by kernel_rfl) (fun c a9 w9 h => blind_then blind_body c a9 _ _ w9 h) (Or.inl ⟨by rfl, ?_⟩) (by assumption) ?_
  rotate_left
  · intro w' hSw; (try dsimp only at hSw); skip; go_simp; try with_reducible rfl
  try simp only [Act.put, List.getElem_toArray, List.getElem_cons_zero, List.getElem_cons_succ, List.setIfInBounds_toArray, List.set_cons_zero, List.set_cons_succ]
  refine wpAnyH_done (by kernel_rfl) ?_ _
  go_wp2_with fail
  go_ret
  exact ⟨rfl, hHeld.bl⟩
end Go.Proofs.Ytidfngcclbhoaaa
