/-
  The statements of the packets' log: 'works', the chapter's examples.
-/
import Derived.Test.YtcigkggdcogokaaSentLawA
namespace Go.Proofs.Ytcigkggdcogokaa
open Go.RowKit

/-- The world under one name, of which only R is known. -/
theorem name_world {P : Program} {c : Code} {Q : Exit → Act → World → Prop} {a : Act} {w : World} (R : World → Prop) (hR : R w) (h : ∀ W, R W → c.wp P Q a W) : c.wp P Q a w := h w hR
theorem bw_below {w w1 w2 : World} (h : Below w.heap.size w w1) (hB : Below w1.heap.size w1 w2) : Below w.heap.size w w2 := h.trans (hB.mono h.size)
theorem bw_only {S : List Nat} {w w1 w2 : World} (h : Below w.heap.size w w1) (hO : Only S w1 w2) (hS : ∀ x ∈ S, w.heap.size ≤ x) : Below w.heap.size w w2 := h.trans (hO.below hS h.size)
theorem bw_alloc {w w1 : World} (h : Below w.heap.size w w1) (o : Obj) : Below w.heap.size w (w1.alloc o) := h.alloc h.size o
theorem rb_le {x rb rb' n : Nat} (h : rb' = rb ∨ n ≤ rb') (h1 : x ≤ rb) (h2 : x ≤ n) : x ≤ rb' := by omega

set_option maxRecDepth 100000 in
set_option maxHeartbeats 4000000 in
theorem works_any (w : World) : Calls Try.prog 16 #[] w fun e w' => e = .returned (.bool true) ∧ Below w.heap.size w w' := by
  have m5 : (Pk.mk 5 0 100 true true false).may := pk1_may (by omega) (by omega)
  have m9 : (Pk.mk 9 0 100 true true false).may := pk1_may (by omega) (by omega)
  have l1 : [pk1 7].length < 2 := by simp
  go_enter Try.func16, Try.ntmps16
  go_wp2_with fail
  refine (new_ok 2 _ (by omega) (by omega)).mono ?_
  rintro e1 w1 ⟨b, rb1, rfl, hL1, hb, hrb1, hW1⟩
  go_wp2_with fail
  refine (one_any _ _).mono ?_
  rintro e2 w2 ⟨rfl, hB2⟩
  have hL2 := hL1.below hB2
  have hW2 := bw_below hW1 hB2
  clear hL1 hW1 hB2
  go_wp2_with fail
  refine (put_ok b rb1 2 (-1) 3 0 100 true true false [] w2 hL2 (pk1_may (by omega) (by omega)) (by omega) (by simp)).mono ?_
  rintro e3 w3 ⟨rfl, rb3, hL3, hrb3, hO3⟩
  have hW3 := bw_only hW2 hO3 (by simp; omega)
  have hrb3 := rb_le hrb3 hrb1 hW2.size
  clear hL2 hW2 hO3
  go_wp2_with fail
  refine (one_any _ _).mono ?_
  rintro e4 w4 ⟨rfl, hB4⟩
  have hL4 := hL3.below hB4
  have hW4 := bw_below hW3 hB4
  clear hL3 hW3 hB4
  go_wp2_with fail
  refine (put_ok b rb3 2 3 7 0 100 true true false [pk1 3] w4 hL4 (pk1_may (by omega) (by omega)) (by omega) (by simp)).mono ?_
  rintro e5 w5 ⟨rfl, rb5, hL5, hrb5, hO5⟩
  have hW5 := bw_only hW4 hO5 (by simp; omega)
  have hrb5 := rb_le hrb5 hrb3 hW4.size
  clear hL4 hW4 hO5
  go_wp2_with fail
  refine (one_any _ _).mono ?_
  rintro e6 w6 ⟨rfl, hB6⟩
  have hL6 := hL5.below hB6
  have hW6 := bw_below hW5 hB6
  clear hL5 hW5 hB6
  go_wp2_with fail
  refine (put_full b rb5 2 7 9 0 100 true true false [pk1 3, pk1 7] w6 hL6 (pk1_may (by omega) (by omega)) (by omega) rfl).mono ?_
  rintro e7 w7 ⟨rfl, hB7⟩
  have hL7 := hL6.below hB7
  have hW7 := bw_below hW6 hB7
  clear hL6 hW6 hB7
  go_wp2_with fail
  refine (flight_any b rb5 2 7 [pk1 3, pk1 7] w7 hL7).mono ?_
  rintro e8 w8 ⟨rfl, hB8⟩
  have hL8 := hL7.below hB8
  have hW8 := bw_below hW7 hB8
  clear hL7 hW7 hB8
  rw [show flightOf [pk1 3, pk1 7] = 200 from rfl]
  go_wp2_with fail
  refine (elic_any b rb5 2 7 [pk1 3, pk1 7] w8 hL8).mono ?_
  rintro e9 w9 ⟨rfl, hB9⟩
  have hL9 := hL8.below hB9
  have hW9 := bw_below hW8 hB9
  clear hL8 hW8 hB9
  rw [show elicOf [pk1 3, pk1 7] = 2 from rfl]
  go_wp2_with fail
  refine (last_any b rb5 2 7 [pk1 3, pk1 7] w9 hL9).mono ?_
  rintro e10 w10 ⟨rfl, rfl⟩
  go_wp2_with fail
  refine (drop_is b rb5 2 7 3 (pk1 3) [pk1 3, pk1 7] w9 hL9 rfl).mono ?_
  rintro e11 w11 ⟨rfl, hL11, hO11⟩
  rw [show without 3 [pk1 3, pk1 7] = [pk1 7] from rfl] at hL11
  have hW11 := bw_only hW9 hO11 (by simp; omega)
  clear hL9 hW9 hO11
  go_wp2_with fail
  refine (drop_none b rb5 2 7 3 [pk1 7] _ (hL11.alloc _) rfl).mono ?_
  rintro e12 w12 ⟨rfl, hB12⟩
  have hL12 := (hL11.alloc _).below hB12
  have hx12 := (only_of_below hB12 (S := [])).blk (Blk.new w11 _ _) (by simp)
  have hW12 := bw_below (bw_alloc hW11 _) hB12
  have hXb : b ≠ w11.heap.size := by have := hL11.lt; omega
  have hXr : rb5 ≠ w11.heap.size := by have := hL11.lt; omega
  clear hL11 hW11 hB12
  go_wp2_with fail
  refine name_world (fun W => IsLog W b rb5 2 7 [pk1 7] ∧ Blk W w11.heap.size 30 #[.int .i64 3, .int .i64 0, .int .i64 100, .bool true, .bool true, .bool false] ∧ Below w.heap.size w W) ⟨hL12.alloc _, hx12.alloc _, bw_alloc hW12 _⟩ ?_
  rintro W ⟨hL, hx, hW⟩
  obtain ⟨X, hX⟩ : ∃ X, w11.heap.size = X := ⟨_, rfl⟩
  rw [hX] at hx hXb hXr ⊢
  have hXX := hide hX
  clear hX hL12 hx12 hW12
  go_region_held3 (fun w' => w'.cell? ⟨X, 0, none⟩ = some (.int .i64 3) ∧ w'.cell? ⟨X, 1, none⟩ = some (.int .i64 0) ∧ w'.cell? ⟨X, 2, none⟩ = some (.int .i64 100) ∧ w'.cell? ⟨X, 3, none⟩ = some (.bool true) ∧ w'.cell? ⟨X, 4, none⟩ = some (.bool true) ∧ w'.cell? ⟨X, 5, none⟩ = some (.bool false)) (exact ⟨hx.cell 0, hx.cell 1, hx.cell 2, hx.cell 3, hx.cell 4, hx.cell 5⟩)
   (first
    | (go_at_call 12; refine (one_any _ _).mono ?_; rintro e13 w13 ⟨rfl, hB⟩; have hx := (only_of_below hB (S := [])).blk (by first | with_reducible exact hx | with_reducible exact hx.drew) (by simp); have hL := IsLog.below (by first | with_reducible exact hL | with_reducible exact hL.drew) hB; have hW := bw_below (by first | with_reducible exact hW | with_reducible exact hW.drew) hB)
    | (go_at_call 11; ((with_reducible refine (put_low b rb5 2 7 5 0 100 true true false [pk1 7] _ hL m5 (by omega)).mono ?_); rintro e14 w14 ⟨rfl, hB⟩; have hx := (only_of_below hB (S := [])).blk (by first | with_reducible exact hx | with_reducible exact hx.drew) (by simp); have hL := IsLog.below (by first | with_reducible exact hL | with_reducible exact hL.drew) hB; have hW := bw_below (by first | with_reducible exact hW | with_reducible exact hW.drew) hB))
    | (go_at_call 11; ((with_reducible refine (put_ok b rb5 2 7 9 0 100 true true false [pk1 7] _ hL m9 (by omega) l1).mono ?_); rintro e15 w15 ⟨rfl, rb15, hL, hrb15, hO15⟩; have hx := hO15.blk hx (by simp; omega); have hrb15 := rb_le hrb15 hrb5 hW.size; have hW := bw_only hW hO15 (by simp; omega)))
    | (go_at_call 20; refine (len_any b rb15 2 9 _ _ hL).mono ?_; rintro e16 w16 ⟨rfl, hB⟩; have hx := (only_of_below hB (S := [])).blk (by first | with_reducible exact hx | with_reducible exact hx.drew) (by simp); have hL := IsLog.below (by first | with_reducible exact hL | with_reducible exact hL.drew) hB; have hW := bw_below (by first | with_reducible exact hW | with_reducible exact hW.drew) hB))
  have hL16 : IsLog w16 b rb15 2 9 [pk1 7, pk1 9] := hL
  have hW16 := hW
  go_wp2_with fail
  refine (oldest_is b rb15 2 9 (pk1 7) [pk1 9] w16 hL16).mono ?_
  rintro e17 w17 ⟨rfl, hB17⟩
  have hL17 := hL16.below hB17
  have hW17 := bw_below hW16 hB17
  clear hL16 hW16 hB17
  go_wp2_with fail
  refine (between_any b rb15 2 9 8 20 _ _ (hL17.alloc _)).mono ?_
  rintro e18 w18 ⟨v, rfl, hv, hB18⟩
  rw [show between 8 20 [pk1 7, pk1 9] = [pk1 9] from rfl] at hv
  obtain ⟨g, gcap, grest, rfl, hgs, _, hg18⟩ := own_blk hv (by simp)
  have hx18 := (only_of_below hB18 (S := [])).blk (Blk.new w17 _ _) (by simp)
  have hL18 := (hL17.alloc _).below hB18
  have hW18 := bw_below (bw_alloc hW17 _) hB18
  have hYb : b ≠ w17.heap.size := by have := hL17.lt; omega
  have hYr : rb15 ≠ w17.heap.size := by have := hL17.lt; omega
  simp only [World.size_alloc] at hgs
  have hgb : b ≠ g := by have := hL17.lt; omega
  clear hv hL17 hW17 hB18
  go_wp2_with fail
  refine (clear_any b rb15 2 9 _ w18 hL18).mono ?_
  rintro e19 w19 ⟨rfl, hL19, hO19⟩
  have hx19 := hO19.blk hx18 (by simp; omega)
  have hg19 := hO19.blk hg18 (by simp; omega)
  have hW19 := bw_only hW18 hO19 (by simp; omega)
  clear hL18 hW18 hx18 hg18 hO19
  go_wp2_with fail
  refine (get_none b rb15 2 9 9 [] w19 hL19 rfl).mono ?_
  rintro e20 w20 ⟨rfl, hB20⟩
  have hL20 := hL19.below hB20
  have hx20 := (only_of_below hB20 (S := [])).blk hx19 (by simp)
  have hg20 := (only_of_below hB20 (S := [])).blk hg19 (by simp)
  have hW20 := bw_below hW19 hB20
  clear hL19 hW19 hx19 hg19 hB20
  go_wp2_with fail
  refine name_world (fun W => IsLog W b rb15 2 9 [] ∧ Blk W w17.heap.size 30 #[.int .i64 7, .int .i64 0, .int .i64 100, .bool true, .bool true, .bool false] ∧ Blk W g 30 (.int .i64 9 :: .int .i64 0 :: .int .i64 100 :: .bool true :: .bool true :: .bool false :: grest).toArray ∧ Below w.heap.size w W) ⟨hL20.alloc _, hx20.alloc _, hg20.alloc _, bw_alloc hW20 _⟩ ?_
  rintro W2 ⟨hL, hx, hg, hW⟩
  obtain ⟨Y, hY⟩ : ∃ Y, w17.heap.size = Y := ⟨_, rfl⟩
  rw [hY] at hx ⊢
  have hYY := hide hY
  clear hY
  go_region_held3 (fun w' => w'.cell? ⟨Y, 0, none⟩ = some (.int .i64 7) ∧ w'.cell? ⟨Y, 1, none⟩ = some (.int .i64 0) ∧ w'.cell? ⟨Y, 2, none⟩ = some (.int .i64 100) ∧ w'.cell? ⟨Y, 3, none⟩ = some (.bool true) ∧ w'.cell? ⟨Y, 4, none⟩ = some (.bool true) ∧ w'.cell? ⟨Y, 5, none⟩ = some (.bool false)
     ∧ w'.cell? ⟨g, 0, none⟩ = some (.int .i64 9) ∧ w'.cell? ⟨g, 1, none⟩ = some (.int .i64 0) ∧ w'.cell? ⟨g, 2, none⟩ = some (.int .i64 100) ∧ w'.cell? ⟨g, 3, none⟩ = some (.bool true) ∧ w'.cell? ⟨g, 4, none⟩ = some (.bool true) ∧ w'.cell? ⟨g, 5, none⟩ = some (.bool false))
   (exact ⟨hx.cell 0, hx.cell 1, hx.cell 2, hx.cell 3, hx.cell 4, hx.cell 5, hg.cell 0, hg.cell 1, hg.cell 2, hg.cell 3, hg.cell 4, hg.cell 5⟩)
   (first
    | (go_at_call 12; refine (one_any _ _).mono ?_; rintro e13 w21 ⟨rfl, hB⟩; have hx := (only_of_below hB (S := [])).blk (by first | with_reducible exact hx | with_reducible exact hx.drew) (by simp); have hg := (only_of_below hB (S := [])).blk (by first | with_reducible exact hg | with_reducible exact hg.drew) (by simp); have hL := IsLog.below (by first | with_reducible exact hL | with_reducible exact hL.drew) hB; have hW := bw_below (by first | with_reducible exact hW | with_reducible exact hW.drew) hB)
    | (go_at_call 15; refine (last_any b rb15 2 9 _ _ hL).mono ?_; rintro e16 w22 ⟨rfl, rfl⟩)
    | (go_at_call 18; refine (flight_any b rb15 2 9 _ _ hL).mono ?_; rintro e16 w23 ⟨rfl, hB⟩; have hx := (only_of_below hB (S := [])).blk (by first | with_reducible exact hx | with_reducible exact hx.drew) (by simp); have hg := (only_of_below hB (S := [])).blk (by first | with_reducible exact hg | with_reducible exact hg.drew) (by simp); have hL := IsLog.below (by first | with_reducible exact hL | with_reducible exact hL.drew) hB; have hW := bw_below (by first | with_reducible exact hW | with_reducible exact hW.drew) hB))
  go_wp2_with fail
  go_ret
  exact ⟨rfl, hW⟩
end Go.Proofs.Ytcigkggdcogokaa
