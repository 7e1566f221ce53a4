/-
  The laws' setting of numbers, and a setting of which one number is another one: their walks.
-/
import Derived.Test.YtbpeienllhbffaaDoorCfParse
import Derived.Test.YtbpeienllhbffaaDoorCfLaws
import Derived.Test.YtbpeienllhbffaaDoorBring
import Derived.IntWalk
import Derived.StillTailTactics
namespace Go.Proofs.YtbpeienllhbffaaDoor
set_option linter.unusedSimpArgs false
set_option linter.unusedVariables false
open Go.RowKit Go.Shelf

theorem name_worldC {P : Program} {c : Code} {Q : Exit → Act → World → Prop} {a : Act} {w : World} (R : World → Prop) (hR : R w) (h : ∀ W, R W → c.wp P Q a W) : c.wp P Q a w := h w hR
theorem still_of {P : Program} {f : Nat} {args : Array Value} {w : World} {v : Value} (h : Calls P f args w fun e w' => e = .returned v ∧ w = w') : Calls P f args w fun e w' => e = .returned v ∧ w' = w := h.mono fun e w' h => ⟨h.1, h.2.symm⟩
theorem chainV_blk {W : World} {rb : Nat} {c : CF} {b : Bool} {v1 v2 v3 v4 v5 v6 v7 v8 v9 : Int} (h : Blk W rb 46 (confC c)) : Blk (World.setCell (World.setCell (World.setCell (World.setCell (World.setCell (World.setCell (World.setCell (World.setCell (World.setCell (World.setCell W ⟨rb, 0, none⟩ (.bool b)) ⟨rb, 1, none⟩ (.int .i64 v1)) ⟨rb, 2, none⟩ (.int .i64 v2)) ⟨rb, 3, none⟩ (.int .i64 v3)) ⟨rb, 4, none⟩ (.int .i64 v4)) ⟨rb, 5, none⟩ (.int .i64 v5)) ⟨rb, 6, none⟩ (.int .i64 v6)) ⟨rb, 7, none⟩ (.int .i64 v7)) ⟨rb, 8, none⟩ (.int .i64 v8)) ⟨rb, 9, none⟩ (.int .i64 v9)) rb 46 (confC ⟨b, v1, v2, v3, v4, v5, v6, v7, v8, v9⟩) :=
  Blk.eq (Blk.set (Blk.set (Blk.set (Blk.set (Blk.set (Blk.set (Blk.set (Blk.set (Blk.set (Blk.set h 0 (.bool b)) 1 (.int .i64 v1)) 2 (.int .i64 v2)) 3 (.int .i64 v3)) 4 (.int .i64 v4)) 5 (.int .i64 v5)) 6 (.int .i64 v6)) 7 (.int .i64 v7)) 8 (.int .i64 v8)) 9 (.int .i64 v9)) (by simp [confC])
theorem chainV_only {W : World} {rb : Nat} {b : Bool} {v1 v2 v3 v4 v5 v6 v7 v8 v9 : Int} : Only [rb] W (World.setCell (World.setCell (World.setCell (World.setCell (World.setCell (World.setCell (World.setCell (World.setCell (World.setCell (World.setCell W ⟨rb, 0, none⟩ (.bool b)) ⟨rb, 1, none⟩ (.int .i64 v1)) ⟨rb, 2, none⟩ (.int .i64 v2)) ⟨rb, 3, none⟩ (.int .i64 v3)) ⟨rb, 4, none⟩ (.int .i64 v4)) ⟨rb, 5, none⟩ (.int .i64 v5)) ⟨rb, 6, none⟩ (.int .i64 v6)) ⟨rb, 7, none⟩ (.int .i64 v7)) ⟨rb, 8, none⟩ (.int .i64 v8)) ⟨rb, 9, none⟩ (.int .i64 v9)) :=
  (Only.setCell (Only.setCell (Only.setCell (Only.setCell (Only.setCell (Only.setCell (Only.setCell (Only.setCell (Only.setCell (Only.setCell (Only.refl [rb] W) (p := ⟨rb, 0, none⟩) (.inl (by simp)) (.bool b)) (p := ⟨rb, 1, none⟩) (.inl (by simp)) (.int .i64 v1)) (p := ⟨rb, 2, none⟩) (.inl (by simp)) (.int .i64 v2)) (p := ⟨rb, 3, none⟩) (.inl (by simp)) (.int .i64 v3)) (p := ⟨rb, 4, none⟩) (.inl (by simp)) (.int .i64 v4)) (p := ⟨rb, 5, none⟩) (.inl (by simp)) (.int .i64 v5)) (p := ⟨rb, 6, none⟩) (.inl (by simp)) (.int .i64 v6)) (p := ⟨rb, 7, none⟩) (.inl (by simp)) (.int .i64 v7)) (p := ⟨rb, 8, none⟩) (.inl (by simp)) (.int .i64 v8)) (p := ⟨rb, 9, none⟩) (.inl (by simp)) (.int .i64 v9))
/-- Nine numbers. -/
structure L9 where
  l0 : Int
  l1 : Int
  l2 : Int
  l3 : Int
  l4 : Int
  l5 : Int
  l6 : Int
  l7 : Int
  l8 : Int
def i64 (x : Int) : Prop := -9223372036854775808 ≤ x ∧ x ≤ 9223372036854775807
def L9.Fits (l : L9) : Prop := i64 l.l0 ∧ i64 l.l1 ∧ i64 l.l2 ∧ i64 l.l3 ∧ i64 l.l4 ∧ i64 l.l5 ∧ i64 l.l6 ∧ i64 l.l7 ∧ i64 l.l8
def L9.arr (l : L9) : Array Value := #[.int .i64 l.l0, .int .i64 l.l1, .int .i64 l.l2, .int .i64 l.l3, .int .i64 l.l4, .int .i64 l.l5, .int .i64 l.l6, .int .i64 l.l7, .int .i64 l.l8]
def mD (l : L9) : Int := 1200 + l.l0 % 64328
def mM (l : L9) : Int := 2 * mD l + l.l1 % (1099511627776 - 2 * mD l + 1)
def madeC (l : L9) (sv : Bool) : CF := ⟨sv, mD l, 2 * mD l + l.l2 % (mM l - 2 * mD l + 1), mM l, 1000000 + l.l3 % 59999000001, l.l4 % 16384000001, l.l5 % 21, mD l + l.l6 % (1073741824 - mD l + 1), 2 + l.l7 % 255, l.l8 % 11⟩
theorem em_bd (x n : Int) (h : 0 < n) : 0 ≤ x % n ∧ x % n < n := ⟨Int.emod_nonneg x (by omega), Int.emod_lt_of_pos x h⟩
theorem mD_bd (l : L9) : 1200 ≤ mD l ∧ mD l ≤ 65527 := by
  have := em_bd l.l0 64328 (by omega)
  unfold mD
  omega
theorem mM_bd (l : L9) : 2 * mD l ≤ mM l ∧ mM l ≤ 1099511627776 := by
  have h := mD_bd l
  have := em_bd l.l1 (1099511627776 - 2 * mD l + 1) (by omega)
  unfold mM
  omega
theorem made_ok (l : L9) (sv : Bool) : okC (madeC l sv) = true := by
  have hd := mD_bd l
  have hm := mM_bd l
  have h2 := em_bd l.l2 (mM l - 2 * mD l + 1) (by omega)
  have h3 := em_bd l.l3 59999000001 (by omega)
  have h4 := em_bd l.l4 16384000001 (by omega)
  have h5 := em_bd l.l5 21 (by omega)
  have h6 := em_bd l.l6 (1073741824 - mD l + 1) (by omega)
  have h7 := em_bd l.l7 255 (by omega)
  have h8 := em_bd l.l8 11 (by omega)
  unfold okC dOk rowsOk
  rw [Bool.and_eq_true, Bool.and_eq_true, List.all_eq_true]
  refine ⟨⟨decide_eq_true (by simp only [madeC]; omega), decide_eq_true (by simp only [madeC]; omega)⟩, fun i hi => ?_⟩
  have hi := List.mem_range.1 hi
  have : i = 0 ∨ i = 1 ∨ i = 2 ∨ i = 3 ∨ i = 4 ∨ i = 5 ∨ i = 6 ∨ i = 7 ∨ i = 8 ∨ i = 9 := by omega
  unfold rowOk
  rw [Bool.and_eq_true]
  rcases this with rfl | rfl | rfl | rfl | rfl | rfl | rfl | rfl | rfl | rfl
  · cases sv <;> exact ⟨rfl, rfl⟩
  all_goals refine ⟨decide_eq_true ?_, decide_eq_true ?_⟩ <;> simp only [loF, hiF, valF, CF.vals, madeC, List.getD_cons_succ, List.getD_cons_zero] <;> omega
set_option maxRecDepth 100000 in
set_option maxHeartbeats 4000000 in
theorem made_any (l : L9) (sv : Bool) (w : World) (hl : l.Fits) : Calls Tryd.prog 37 #[.agg l.arr, .bool sv] w fun e w' => e = .returned (.agg (confC (madeC l sv))) ∧ Below w.heap.size w w' := by
  have hd := mD_bd l
  have hm := mM_bd l
  have e2 := em_bd l.l2 (mM l - 2 * mD l + 1) (by omega)
  have e3 := em_bd l.l3 59999000001 (by omega)
  have e4 := em_bd l.l4 16384000001 (by omega)
  have e5 := em_bd l.l5 21 (by omega)
  have e6 := em_bd l.l6 (1073741824 - mD l + 1) (by omega)
  have e7 := em_bd l.l7 255 (by omega)
  have e8 := em_bd l.l8 11 (by omega)
  obtain ⟨⟨a0, b0⟩, ⟨a1, b1⟩, ⟨a2, b2⟩, ⟨a3, b3⟩, ⟨a4, b4⟩, ⟨a5, b5⟩, ⟨a6, b6⟩, ⟨a7, b7⟩, a8, b8⟩ := hl
  have B0 := hide (fun W => bring_any l.l0 64328 W (by omega) (by omega) a0 b0)
  have B1 := hide (fun W => bring_any l.l1 (1099511627776 - 2 * mD l + 1) W (by omega) (by omega) a1 b1)
  have B2 := hide (fun W => bring_any l.l2 (mM l - 2 * mD l + 1) W (by omega) (by omega) a2 b2)
  have B3 := hide (fun W => bring_any l.l3 59999000001 W (by omega) (by omega) a3 b3)
  have B4 := hide (fun W => bring_any l.l4 16384000001 W (by omega) (by omega) a4 b4)
  have B5 := hide (fun W => bring_any l.l5 21 W (by omega) (by omega) a5 b5)
  have B6 := hide (fun W => bring_any l.l6 (1073741824 - mD l + 1) W (by omega) (by omega) a6 b6)
  have B7 := hide (fun W => bring_any l.l7 255 W (by omega) (by omega) a7 b7)
  have B8 := hide (fun W => bring_any l.l8 11 W (by omega) (by omega) a8 b8)
  have hD : 1200 + l.l0 % 64328 = mD l := rfl
  have hM : 2 * mD l + l.l1 % (1099511627776 - 2 * mD l + 1) = mM l := rfl
  have hC : madeC l sv = ⟨sv, mD l, 2 * mD l + l.l2 % (mM l - 2 * mD l + 1), mM l, 1000000 + l.l3 % 59999000001, l.l4 % 16384000001, l.l5 % 21, mD l + l.l6 % (1073741824 - mD l + 1), 2 + l.l7 % 255, l.l8 % 11⟩ := rfl
  rw [hC]
  clear hC
  have e0 := em_bd l.l0 64328 (by omega)
  have e1 := em_bd l.l1 (1099511627776 - 2 * mD l + 1) (by omega)
  generalize mM l = m at *
  generalize mD l = d at *
  obtain ⟨l0, l1, l2, l3, l4, l5, l6, l7, l8⟩ := l
  simp only [L9.arr] at *
  generalize l0 % 64328 = y0 at *
  generalize l1 % (1099511627776 - 2 * d + 1) = y1 at *
  generalize l2 % (m - 2 * d + 1) = y2 at *
  generalize l3 % 59999000001 = y3 at *
  generalize l4 % 16384000001 = y4 at *
  generalize l5 % 21 = y5 at *
  generalize l6 % (1073741824 - d + 1) = y6 at *
  generalize l7 % 255 = y7 at *
  generalize l8 % 11 = y8 at *
  clear a0 b0 a1 b1 a2 b2 a3 b3 a4 b4 a5 b5 a6 b6 a7 b7 a8 b8
  go_enter Tryd.func37, Tryd.ntmps37
  go_wp2_with fail
  refine (B0.out _).mono ?_
  rintro e1 w1 ⟨rfl, rfl⟩
  clear B0
  go_wp2_with fail
  refine (B1.out _).mono ?_
  rintro e2 w2 ⟨rfl, rfl⟩
  clear B1
  go_wp2_with fail
  refine name_worldC (fun W => Blk W w.heap.size 53 #[.int .i64 l0, .int .i64 l1, .int .i64 l2, .int .i64 l3, .int .i64 l4, .int .i64 l5, .int .i64 l6, .int .i64 l7, .int .i64 l8] ∧ Blk W (w.heap.size + 1) 46 (confC zeroCF) ∧ Below w.heap.size w W) ⟨(Blk.new _ _ _).alloc _, ?_, ((Below.refl _ _).alloc (Nat.le_refl _) _).alloc (by simp) _⟩ ?_
  · have := Blk.new (w.alloc (.cells #[.int .i64 l0, .int .i64 l1, .int .i64 l2, .int .i64 l3, .int .i64 l4, .int .i64 l5, .int .i64 l6, .int .i64 l7, .int .i64 l8] 53)) 46 (confC zeroCF)
    simpa [confC, zeroCF] using this
  intro W hW
  obtain ⟨hq, hr, hbl⟩ := hW
  have HR := hide hr
  have HBL := hide hbl
  have q2 : W.cell? ⟨w.heap.size, 2, none⟩ = some (.int .i64 l2) := hq.cell 2
  have q3 : W.cell? ⟨w.heap.size, 3, none⟩ = some (.int .i64 l3) := hq.cell 3
  have q4 : W.cell? ⟨w.heap.size, 4, none⟩ = some (.int .i64 l4) := hq.cell 4
  have q5 : W.cell? ⟨w.heap.size, 5, none⟩ = some (.int .i64 l5) := hq.cell 5
  have q6 : W.cell? ⟨w.heap.size, 6, none⟩ = some (.int .i64 l6) := hq.cell 6
  have q7 : W.cell? ⟨w.heap.size, 7, none⟩ = some (.int .i64 l7) := hq.cell 7
  have q8 : W.cell? ⟨w.heap.size, 8, none⟩ = some (.int .i64 l8) := hq.cell 8
  obtain ⟨c0, c1, c2, c3, c4, c5, c6, c7, c8, c9, f0, f1, f2, f3, f4, f5, f6, f7, f8, f9, s0, s1, s2, s3, s4, s5, s6, s7, s8, s9⟩ := zero_facts hr
  clear s0 s1 s2 s3 s4 s5 s6 s7 s8 s9 hq hr hbl hD hM
  have w2 : IntKind.i64.wrap (2 * d) = 2 * d := by exact IntWalk.i64_in _ (by omega)
  have w3 : IntKind.i64.wrap (m - 2 * d) = m - 2 * d := by exact IntWalk.i64_in _ (by omega)
  have w4 : IntKind.i64.wrap (m - 2 * d + 1) = m - 2 * d + 1 := by exact IntWalk.i64_in _ (by omega)
  have w5 : IntKind.i64.wrap (2 * d + y2) = 2 * d + y2 := by exact IntWalk.i64_in _ (by omega)
  have w6 : IntKind.i64.wrap (1000000 + y3) = 1000000 + y3 := by exact IntWalk.i64_in _ (by omega)
  have w7 : IntKind.i64.wrap (1073741824 - d) = 1073741824 - d := by exact IntWalk.i64_in _ (by omega)
  have w8 : IntKind.i64.wrap (1073741824 - d + 1) = 1073741824 - d + 1 := by exact IntWalk.i64_in _ (by omega)
  have w9 : IntKind.i64.wrap (d + y6) = d + y6 := by exact IntWalk.i64_in _ (by omega)
  have w10 : IntKind.i64.wrap (2 + y7) = 2 + y7 := by exact IntWalk.i64_in _ (by omega)
  clear hd hm e0 e1 e2 e3 e4 e5 e6 e7 e8
  refine wp_region_still_tail 40 (by kernel_rfl) (by kernel_rfl) ?_
  simp only [List.take_succ_cons, List.take_zero, List.drop_succ_cons, List.drop_zero]
  change wpStill _ _ W.drew _ _ _
  have q2 := (World.cell?_drew W ⟨w.heap.size, 2, none⟩).trans q2
  have q3 := (World.cell?_drew W ⟨w.heap.size, 3, none⟩).trans q3
  have q4 := (World.cell?_drew W ⟨w.heap.size, 4, none⟩).trans q4
  have q5 := (World.cell?_drew W ⟨w.heap.size, 5, none⟩).trans q5
  have q6 := (World.cell?_drew W ⟨w.heap.size, 6, none⟩).trans q6
  have q7 := (World.cell?_drew W ⟨w.heap.size, 7, none⟩).trans q7
  have q8 := (World.cell?_drew W ⟨w.heap.size, 8, none⟩).trans q8
  repeat (refine wpStill_step (fun K hK => ?_); go_simp; (first | (with_reducible refine hK _ ?_) | with_reducible refine ⟨_, still_of (B2.out _), hK _ ?_⟩ | with_reducible refine ⟨_, still_of (B3.out _), hK _ ?_⟩ | with_reducible refine ⟨_, still_of (B4.out _), hK _ ?_⟩ | with_reducible refine ⟨_, still_of (B5.out _), hK _ ?_⟩ | with_reducible refine ⟨_, still_of (B6.out _), hK _ ?_⟩ | with_reducible refine ⟨_, still_of (B7.out _), hK _ ?_⟩ | with_reducible refine ⟨_, still_of (B8.out _), hK _ ?_⟩); clear hK K)
  refine wpStill_nil ?_
  change wpList _ _ _ _ _ W.drew
  have fr : ∀ j, W.drew.frozen? ⟨w.heap.size + 1, j, none⟩ = false := fun j => HR.out.drew.frozen j
  have g0 := fr 0
  have g1 := fr 1
  have g2 := fr 2
  have g3 := fr 3
  have g4 := fr 4
  have g5 := fr 5
  have g6 := fr 6
  have g7 := fr 7
  have g8 := fr 8
  have g9 := fr 9
  obtain ⟨c0, c1, c2, c3, c4, c5, c6, c7, c8, c9, _⟩ := zero_facts HR.out.drew
  clear fr
  go_wp2_with fail
  have hB := (chainV_blk (b := sv) (v1 := d) (v2 := 2 * d + y2) (v3 := m) (v4 := 1000000 + y3) (v5 := y4) (v6 := y5) (v7 := d + y6) (v8 := 2 + y7) (v9 := y8) HR.out).drew
  have hO := (HBL.out.trans ((chainV_only (W := W) (rb := w.heap.size + 1) (b := sv) (v1 := d) (v2 := 2 * d + y2) (v3 := m) (v4 := 1000000 + y3) (v5 := y4) (v6 := y5) (v7 := d + y6) (v8 := 2 + y7) (v9 := y8)).below (B := w.heap.size) (fun x hx => by simp at hx; omega) HBL.out.size)).drew
  have HO := hide hO
  clear hO c0 c1 c2 c3 c4 c5 c6 c7 c8 c9
  obtain ⟨c0, c1, c2, c3, c4, c5, c6, c7, c8, c9, _⟩ := conf_facts hB
  exact bodyPost_ret (v := .agg (confC ⟨sv, d, 2 * d + y2, m, 1000000 + y3, y4, y5, d + y6, 2 + y7, y8⟩)) (by simp [results, Tryd.results37, go_sem, confC, c0, c1, c2, c3, c4, c5, c6, c7, c8, c9]) rfl ⟨rfl, HO.out⟩
end Go.Proofs.YtbpeienllhbffaaDoor
