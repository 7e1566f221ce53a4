/-
  The statement PersistIs: its walk. Printed by wip/genpis.py.
-/
import Derived.Test.YtkmfhcjdajbbhaaPersistWorks2
import Derived.Test.YtkmfhcjdajbbhaaBring
import Derived.BigQuiet
import Derived.Deep.QuietTactic
namespace Go.Proofs.Ytkmfhcjdajbbhaa
set_option linter.unusedSimpArgs false
set_option linter.unusedVariables false
open Go.RowKit

theorem quiet_left {P : Program} {f : FuncId} {args : Array Value} {w : World} {n : Nat} {v : Value}
    (h : Calls P f args (w.drewN n) fun e w' => e = .returned v ∧ w.drewN n = w') : Calls P f args (w.drewN n) fun e w'' => e = .returned v ∧ ∃ m, w'' = w.drewN m :=
  h.mono fun _ _ ⟨he, hm⟩ => ⟨he, n, hm.symm⟩
theorem pksAt_drop {w : World} {k o : Nat} {p : PK} {ps : List PK} (h : PksAt w (some ⟨k, o, none⟩) (p :: ps)) : PksAt w (some ⟨k, o + 6, none⟩) ps := ⟨fun x hx => h.1 x (by simp [hx]), fun i x hi => by
  obtain ⟨k', o', e, hk, hc⟩ := h.2 (i + 1) x (by simpa using hi)
  cases e
  exact ⟨k, o + 6, rfl, hk, fun j v hj => by rw [show o + 6 + (i * 6 + j) = o + ((i + 1) * 6 + j) by omega]; exact hc j v hj⟩⟩
/-- The period of two. -/
theorem per_two {d : Int} (h0 : 0 ≤ d) (h1 : d ≤ 1099511627776) : periodOf [] 7 [atP 1 8, atP 2 (8 + d)] = ⟨d, 1, 2, true⟩ := by
  have hck : checkL [atP 1 8, atP 2 (8 + d)] = 0 := by
    unfold checkL
    rw [if_pos]
    refine ⟨by simp, ?_⟩
    simp only [okPks, Bool.and_true, Bool.and_eq_true]
    exact ⟨by rfl, okPk_iff.2 ⟨by show (1 : Int) < 2; decide, by show (2 : Int) ≤ 9007199254740991; decide, by show 0 ≤ 8 + d; omega, by show 8 + d ≤ 9007199254740991; omega, by show (1 : Int) ≤ 100; decide, by show (100 : Int) ≤ 65535; decide⟩⟩
  unfold periodOf
  rw [if_pos ⟨hck, by decide⟩]
  have hok : pairOk [] 7 (atP 1 8) (atP 2 (8 + d)) = true := by
    unfold pairOk counts freeR atP
    have e1 : decide ((7 : Int) < 8 + d) = true := decide_eq_true (by omega)
    have e2 : decide ((8 : Int) ≤ 8 + d) = true := decide_eq_true (by omega)
    simp only [e1, e2]
    rfl
  unfold periodR
  simp only [pairsL, List.filter_cons, List.filter_nil, hok, if_true, List.map_cons, List.map_nil, List.append_nil, List.foldl_cons, List.foldl_nil]
  unfold keepP atP Per.none
  simp
  omega
theorem per_one (t : Int) : (periodOf [] 7 [atP 2 t]).some = false := by
  unfold periodOf
  split
  · rfl
  · rfl
structure PisAt (w W : World) (X9 k1 k2 k3 : Nat) (S V : Int) (p1 p2 p3 : List PK) : Prop where
  r : Blk W X9 53 #[.int .i64 S, .int .i64 S, .int .i64 S, .int .i64 V, .int .i64 7]
  a : PksAt W (some ⟨k1, 0, none⟩) p1
  al : k1 < W.heap.size
  b : PksAt W (some ⟨k2, 0, none⟩) p2
  bl : k2 < W.heap.size
  c : PksAt W (some ⟨k3, 0, none⟩) p3
  cl : k3 < W.heap.size
  below : Below w.heap.size w W
theorem PisAt.later {w W W' : World} {X9 k1 k2 k3 : Nat} {S V : Int} {p1 p2 p3 : List PK} (h : PisAt w W X9 k1 k2 k3 S V p1 p2 p3) (hb : Below W.heap.size W W') : PisAt w W' X9 k1 k2 k3 S V p1 p2 p3 :=
  ⟨(hb.block _ h.r.lt).trans h.r, h.a.below hb (Nat.le_refl _), Nat.lt_of_lt_of_le h.al hb.size, h.b.below hb (Nat.le_refl _), Nat.lt_of_lt_of_le h.bl hb.size, h.c.below hb (Nat.le_refl _), Nat.lt_of_lt_of_le h.cl hb.size, bw_below' h.below hb⟩
theorem PisAt.cells {w W : World} {X9 k1 k2 k3 : Nat} {S V : Int} {p1 p2 p3 : List PK} (h : PisAt w W X9 k1 k2 k3 S V p1 p2 p3) :
    W.cell? ⟨X9, 0, none⟩ = some (.int .i64 S) ∧ W.cell? ⟨X9, 1, none⟩ = some (.int .i64 S) ∧ W.cell? ⟨X9, 2, none⟩ = some (.int .i64 S) ∧ W.cell? ⟨X9, 3, none⟩ = some (.int .i64 V) ∧ W.cell? ⟨X9, 4, none⟩ = some (.int .i64 7) :=
  ⟨h.r.cell 0, h.r.cell 1, h.r.cell 2, h.r.cell 3, h.r.cell 4⟩
theorem lt_some {k o n : Nat} (h : k < n) : ∀ x y, (some ⟨k, o, none⟩ : Option Addr) = some ⟨x, y, none⟩ → x < n := fun x y e => by cases e; exact h

set_option maxRecDepth 100000 in
set_option maxHeartbeats 8000000 in
theorem spis_any (d smooth m0 m1 : Int) (w : World) (hd0 : -9223372036854775808 ≤ d) (hd1 : d ≤ 9223372036854775807) (hs0 : -9223372036854775808 ≤ smooth) (hs1 : smooth ≤ 9223372036854775807) (hm0 : -9223372036854775808 ≤ m0) (hm0' : m0 ≤ 9223372036854775807) (hm1 : -9223372036854775808 ≤ m1) (hm1' : m1 ≤ 9223372036854775807) :
    Calls Try.prog 6 #[.int .i64 d, .int .i64 smooth, .agg #[.int .i64 m0, .int .i64 m1]] w fun e w' => e = .returned (.bool true) ∧ Below w.heap.size w w' := by
  have B1 := hide (fun W => bring_any smooth 1073741824 W (by omega) (by omega) hs0 hs1)
  have B2 := hide (fun W => bring_any m0 1073741824 W (by omega) (by omega) hm0 hm0')
  have B3 := hide (fun W => bring_any m1 1073741824 W (by omega) (by omega) hm1 hm1')
  have B4 := hide (fun W => bring_any d 34359738368 W (by omega) (by omega) hd0 hd1)
  have a1 := Int.emod_nonneg smooth (show (1073741824 : Int) ≠ 0 by omega)
  have a2 := Int.emod_lt_of_pos smooth (show (0 : Int) < 1073741824 by omega)
  have a3 := Int.emod_nonneg m0 (show (1073741824 : Int) ≠ 0 by omega)
  have a4 := Int.emod_lt_of_pos m0 (show (0 : Int) < 1073741824 by omega)
  have a5 := Int.emod_nonneg m1 (show (1073741824 : Int) ≠ 0 by omega)
  have a6 := Int.emod_lt_of_pos m1 (show (0 : Int) < 1073741824 by omega)
  have a7 := Int.emod_nonneg d (show (34359738368 : Int) ≠ 0 by omega)
  have a8 := Int.emod_lt_of_pos d (show (0 : Int) < 34359738368 by omega)
  obtain ⟨sm, hsm⟩ : ∃ x, smooth % 1073741824 = x := ⟨_, rfl⟩
  obtain ⟨V, hV⟩ : ∃ x, m0 % 1073741824 = x := ⟨_, rfl⟩
  obtain ⟨D, hD⟩ : ∃ x, m1 % 1073741824 = x := ⟨_, rfl⟩
  obtain ⟨d', hd'⟩ : ∃ x, d % 34359738368 = x := ⟨_, rfl⟩
  rw [hsm] at B1 a1 a2
  rw [hV] at B2 a3 a4
  rw [hD] at B3 a5 a6
  rw [hd'] at B4 a7 a8
  obtain ⟨S, hS⟩ : ∃ S, 1 + sm = S := ⟨_, rfl⟩
  have hw0 : wrap64 (1 + sm) = S := by unfold wrap64; omega
  have S0 : 1 ≤ S := by omega
  have S1 : S ≤ 1073741824 := by omega
  clear hsm hV hD hd' hS a1 a2 hd0 hd1 hs0 hs1 hm0 hm0' hm1 hm1'
  have HRK : Hid (RT.ok ⟨S, S, S, V, 7⟩) := ⟨by dsimp only; omega, by dsimp only; omega, by dsimp only; omega, by dsimp only; omega, by dsimp only; omega, by dsimp only; omega, by dsimp only; omega⟩
  have bw0 : Below w.heap.size w (w.alloc (.cells #[.int .i64 m0, .int .i64 m1] 37)) := (Below.refl _ _).alloc (Nat.le_refl _) _
  have y := Blk.new w 37 #[.int .i64 m0, .int .i64 m1]
  have HBW0 := hide bw0
  have HY := hide y
  clear bw0 y
  by_cases c : 4 * V < 1000000
  · have HBO : Hid (baseOf ⟨S, S, S, V, 7⟩ D = S + 1000000 + D) := by show _ = _; unfold baseOf; dsimp only; rw [if_pos c]
    have c2 : ¬ 1000000 ≤ 4 * V := by omega
    go_enter Try.func6, Try.ntmps6
    go_wp2_with fail
    refine (B1.out _).mono ?_
    rintro e1 w1 ⟨rfl, rfl⟩
    obtain ⟨W0, hW0⟩ : ∃ W0, w.alloc (.cells #[.int .i64 m0, .int .i64 m1] 37) = W0 := ⟨_, rfl⟩
    rw [hW0] at HY HBW0 ⊢
    clear hW0
    have y0 := HY.out.cell 0
    have y1 := HY.out.cell 1
    go_wp2_with fail
    go_quiet ((go_at_call 13; first | with_reducible exact quiet_left (B2.out _) | with_reducible exact quiet_left (B3.out _)))
    have HBW1 := hide (below_drewN HBW0.out nq)
    obtain ⟨W1, hW1⟩ : ∃ W1, W0.drewN nq = W1 := ⟨_, rfl⟩
    rw [hW1] at HBW1
    try rw [hW1]
    have HWN := hide hW1
    clear hW1 y0 y1
    go_wp2_with fail
    have HR0 : Blk (W1.alloc (.cells #[.int .i64 S, .int .i64 S, .int .i64 S, .int .i64 V, .int .i64 7] 53)) W1.heap.size 53 #[.int .i64 S, .int .i64 S, .int .i64 S, .int .i64 V, .int .i64 7] := Blk.new _ _ _
    have HB0 := bw_below' HBW1.out ((Below.refl W1.heap.size W1).alloc (Nat.le_refl _) (.cells #[.int .i64 S, .int .i64 S, .int .i64 S, .int .i64 V, .int .i64 7] 53))
    obtain ⟨X9, hX9⟩ : ∃ X9, W1.heap.size = X9 := ⟨_, rfl⟩
    obtain ⟨W2, hW2⟩ : ∃ W2, W1.alloc (.cells #[.int .i64 S, .int .i64 S, .int .i64 S, .int .i64 V, .int .i64 7] 53) = W2 := ⟨_, rfl⟩
    rw [hX9, hW2] at HR0
    rw [hW2] at HB0
    rw [hX9, hW2]
    clear hX9 hW2
    obtain ⟨Wt, hWt⟩ : ∃ Wt, 3 * (S + 1000000 + D) = Wt := ⟨_, rfl⟩
    have hWt0 : 0 ≤ Wt ∧ Wt ≤ 34359738368 := by omega
    obtain ⟨hWt0, hWt1⟩ := hWt0
    have HB3 : Hid (3 * baseOf ⟨S, S, S, V, 7⟩ D = Wt) := by show _ = _; rw [HBO.out]; exact hWt
    rw [hWt]
    clear hWt c
    refine (B4.out _).mono ?_
    rintro e2 w2 ⟨rfl, rfl⟩
    have HR0 := hide HR0
    have HB0 := hide HB0
    go_wp2_with fail
    refine (at10_any _ _ _).mono ?_
    rintro x1 V1 ⟨rfl, b1⟩
    go_wp2_with fail
    refine (at10_any _ _ _).mono ?_
    rintro x2 V2 ⟨rfl, b2⟩
    have r2 := (b2.block _ (Nat.lt_of_lt_of_le HR0.out.lt b1.size)).trans ((b1.block _ HR0.out.lt).trans HR0.out)
    have f2 := bw_below' (bw_below' HB0.out b1) b2
    clear HR0 HB0 b1 b2
    have HR2 := hide r2
    have HF2 := hide f2
    clear r2 f2
    unfold pkV pkC atP
    go_wp2_with fail
    have bA : Below V2.heap.size V2 (V2.alloc (.cells #[.int .i64 1, .int .i64 8, .int .i64 100, .bool true, .bool true, .bool false, .int .i64 2, .int .i64 (8 + d'), .int .i64 100, .bool true, .bool true, .bool false] 55)) := (Below.refl _ _).alloc (Nat.le_refl _) _
    have pA : PksAt (V2.alloc (.cells #[.int .i64 1, .int .i64 8, .int .i64 100, .bool true, .bool true, .bool false, .int .i64 2, .int .i64 (8 + d'), .int .i64 100, .bool true, .bool true, .bool false] 55)) (some ⟨V2.heap.size, 0, none⟩) [atP 1 8, atP 2 (8 + d')] := pksAt_new (Blk.new V2 55 _) rfl (by intro p hp; simp at hp; rcases hp with rfl | rfl <;> exact atP_small (by omega) (by omega))
    have lA : V2.heap.size < (V2.alloc (.cells #[.int .i64 1, .int .i64 8, .int .i64 100, .bool true, .bool true, .bool false, .int .i64 2, .int .i64 (8 + d'), .int .i64 100, .bool true, .bool true, .bool false] 55)).heap.size := by rw [World.size_alloc]; omega
    have r3 := (bA.block _ (Blk.lt HR2.out)).trans HR2.out
    have f3 := bw_below' HF2.out bA
    obtain ⟨k1, hk1⟩ : ∃ k1, V2.heap.size = k1 := ⟨_, rfl⟩
    obtain ⟨V3, hV3⟩ : ∃ V3, V2.alloc (.cells #[.int .i64 1, .int .i64 8, .int .i64 100, .bool true, .bool true, .bool false, .int .i64 2, .int .i64 (8 + d'), .int .i64 100, .bool true, .bool true, .bool false] 55) = V3 := ⟨_, rfl⟩
    rw [hk1, hV3] at pA lA
    rw [hV3] at r3 f3
    rw [hk1, hV3]
    clear bA hk1 hV3 HR2 HF2
    refine (at10_any _ _ _).mono ?_
    rintro x3 V4 ⟨rfl, b1⟩
    go_wp2_with fail
    refine (at10_any _ _ _).mono ?_
    rintro x4 V5 ⟨rfl, b2⟩
    have b2 := bw_below' b1 b2
    have HR5 := hide ((b2.block _ (Blk.lt r3)).trans r3)
    have HF5 := hide (bw_below' f3 b2)
    have HA5 := hide (pA.below b2 (Nat.le_refl _))
    have HL5 := hide (Nat.lt_of_lt_of_le lA b2.size)
    clear b1 b2 r3 f3 pA lA
    unfold pkV pkC atP
    go_wp2_with fail
    have bA : Below V5.heap.size V5 (V5.alloc (.cells #[.int .i64 1, .int .i64 8, .int .i64 100, .bool true, .bool true, .bool false, .int .i64 2, .int .i64 (8 + Wt), .int .i64 100, .bool true, .bool true, .bool false] 55)) := (Below.refl _ _).alloc (Nat.le_refl _) _
    have pB : PksAt (V5.alloc (.cells #[.int .i64 1, .int .i64 8, .int .i64 100, .bool true, .bool true, .bool false, .int .i64 2, .int .i64 (8 + Wt), .int .i64 100, .bool true, .bool true, .bool false] 55)) (some ⟨V5.heap.size, 0, none⟩) [atP 1 8, atP 2 (8 + Wt)] := pksAt_new (Blk.new V5 55 _) rfl (by intro p hp; simp at hp; rcases hp with rfl | rfl <;> exact atP_small (by omega) (by omega))
    have lB : V5.heap.size < (V5.alloc (.cells #[.int .i64 1, .int .i64 8, .int .i64 100, .bool true, .bool true, .bool false, .int .i64 2, .int .i64 (8 + Wt), .int .i64 100, .bool true, .bool true, .bool false] 55)).heap.size := by rw [World.size_alloc]; omega
    have r6 := (bA.block _ (Blk.lt HR5.out)).trans HR5.out
    have f6 := bw_below' HF5.out bA
    have pA := HA5.out.below bA (Nat.le_refl _)
    have lA := Nat.lt_of_lt_of_le HL5.out bA.size
    obtain ⟨k2, hk2⟩ : ∃ k2, V5.heap.size = k2 := ⟨_, rfl⟩
    obtain ⟨V6, hV6⟩ : ∃ V6, V5.alloc (.cells #[.int .i64 1, .int .i64 8, .int .i64 100, .bool true, .bool true, .bool false, .int .i64 2, .int .i64 (8 + Wt), .int .i64 100, .bool true, .bool true, .bool false] 55) = V6 := ⟨_, rfl⟩
    rw [hk2, hV6] at pB lB
    rw [hV6] at r6 f6 pA lA
    rw [hk2, hV6]
    clear bA hk2 hV6 HR5 HF5 HA5 HL5
    refine (at10_any _ _ _).mono ?_
    rintro x5 V7 ⟨rfl, b1⟩
    go_wp2_with fail
    refine (at10_any _ _ _).mono ?_
    rintro x6 V8 ⟨rfl, b2⟩
    have b2 := bw_below' b1 b2
    have HR5 := hide ((b2.block _ (Blk.lt r6)).trans r6)
    have HF5 := hide (bw_below' f6 b2)
    have HA5 := hide (pA.below b2 (Nat.le_refl _))
    have HL5 := hide (Nat.lt_of_lt_of_le lA b2.size)
    have HC5 := hide (pB.below b2 (Nat.le_refl _))
    have HM5 := hide (Nat.lt_of_lt_of_le lB b2.size)
    clear b1 b2 r6 f6 pA lA pB lB
    unfold pkV pkC atP
    go_wp2_with fail
    have bA : Below V8.heap.size V8 (V8.alloc (.cells #[.int .i64 1, .int .i64 8, .int .i64 100, .bool true, .bool true, .bool false, .int .i64 2, .int .i64 (9 + Wt), .int .i64 100, .bool true, .bool true, .bool false] 55)) := (Below.refl _ _).alloc (Nat.le_refl _) _
    have pC : PksAt (V8.alloc (.cells #[.int .i64 1, .int .i64 8, .int .i64 100, .bool true, .bool true, .bool false, .int .i64 2, .int .i64 (9 + Wt), .int .i64 100, .bool true, .bool true, .bool false] 55)) (some ⟨V8.heap.size, 0, none⟩) [atP 1 8, atP 2 (9 + Wt)] := pksAt_new (Blk.new V8 55 _) rfl (by intro p hp; simp at hp; rcases hp with rfl | rfl <;> exact atP_small (by omega) (by omega))
    have lC : V8.heap.size < (V8.alloc (.cells #[.int .i64 1, .int .i64 8, .int .i64 100, .bool true, .bool true, .bool false, .int .i64 2, .int .i64 (9 + Wt), .int .i64 100, .bool true, .bool true, .bool false] 55)).heap.size := by rw [World.size_alloc]; omega
    have hs : PisAt w _ X9 k1 k2 V8.heap.size S V _ _ _ := ⟨(bA.block _ (Blk.lt HR5.out)).trans HR5.out, HA5.out.below bA (Nat.le_refl _), Nat.lt_of_lt_of_le HL5.out bA.size, HC5.out.below bA (Nat.le_refl _), Nat.lt_of_lt_of_le HM5.out bA.size, pC, lC, bw_below' HF5.out bA⟩
    obtain ⟨k3, hk3⟩ : ∃ k3, V8.heap.size = k3 := ⟨_, rfl⟩
    obtain ⟨V9, hV9⟩ : ∃ V9, V8.alloc (.cells #[.int .i64 1, .int .i64 8, .int .i64 100, .bool true, .bool true, .bool false, .int .i64 2, .int .i64 (9 + Wt), .int .i64 100, .bool true, .bool true, .bool false] 55) = V9 := ⟨_, rfl⟩
    rw [hk3, hV9] at hs
    rw [hk3, hV9]
    clear bA pC lC hk3 hV9 HR5 HF5 HA5 HL5 HC5 HM5
    have HP1 := hide (per_two (d := d') a7 (by omega))
    have HP2 := hide (per_two (d := Wt) hWt0 (by omega))
    have HP3 := hide (per_two (d := Wt + 1) (by omega) (by omega))
    rw [show 8 + (Wt + 1) = 9 + Wt by omega] at HP3
    have HP4 := hide (per_one (9 + Wt))
    have HT3 : Hid (decide (Wt < Wt + 1) = true) := decide_eq_true (by omega)
    have HT2 : Hid (decide (Wt < Wt) = false) := decide_eq_false (by omega)
    obtain ⟨T, hT⟩ : ∃ T, decide (Wt < d') = T := ⟨_, rfl⟩
    have HTT := hide hT
    refine wp_region_S (fun w' => w'.cell? ⟨X9, 0, none⟩ = some (.int .i64 S) ∧ w'.cell? ⟨X9, 1, none⟩ = some (.int .i64 S) ∧ w'.cell? ⟨X9, 2, none⟩ = some (.int .i64 S) ∧ w'.cell? ⟨X9, 3, none⟩ = some (.int .i64 V) ∧ w'.cell? ⟨X9, 4, none⟩ = some (.int .i64 7)) 1000 (by kernel_rfl) (by exact hs.cells) (fun hHeld => ?_)
    refine wpAnyS_take (i := 0) (v := ?_) rfl (by kernel_rfl) (by kernel_rfl) (by kernel_rfl) (by kernel_rfl) (fun _ _ _ h => h) (Or.inl ⟨by rfl, ?_⟩) (by assumption) ?_
    rotate_left
    · intro w hSw; (try dsimp only at hSw); go_simp; try with_reducible rfl
    try simp only [Act.put, List.getElem_toArray, List.getElem_cons_succ, List.getElem_cons_zero, List.setIfInBounds_toArray, List.set_cons_zero, List.set_cons_succ]
    refine wpAnyS_take (i := 1) (v := ?_) rfl (by kernel_rfl) (by kernel_rfl) (by kernel_rfl) (by kernel_rfl) (fun _ _ _ h => h) (Or.inl ⟨by rfl, ?_⟩) (by assumption) ?_
    rotate_left
    · intro w hSw; (try dsimp only at hSw); go_simp; try with_reducible rfl
    try simp only [Act.put, List.getElem_toArray, List.getElem_cons_succ, List.getElem_cons_zero, List.setIfInBounds_toArray, List.set_cons_zero, List.set_cons_succ]
    refine wpAnyS_take (i := 2) (v := ?_) rfl (by kernel_rfl) (by kernel_rfl) (by kernel_rfl) (by kernel_rfl) (fun _ _ _ h => h) (Or.inl ⟨by rfl, ?_⟩) (by assumption) ?_
    rotate_left
    · intro w hSw; (try dsimp only at hSw); go_simp; try with_reducible rfl
    try simp only [Act.put, List.getElem_toArray, List.getElem_cons_succ, List.getElem_cons_zero, List.setIfInBounds_toArray, List.set_cons_zero, List.set_cons_succ]
    refine wpAnyS_take (i := 4) (v := ?_) rfl (by kernel_rfl) (by kernel_rfl) (by kernel_rfl) (by kernel_rfl) (fun _ _ _ h => h) (Or.inl ⟨by rfl, ?_⟩) (by assumption) ?_
    rotate_left
    · intro w hSw; (try dsimp only at hSw); go_simp; try with_reducible rfl
    try simp only [Act.put, List.getElem_toArray, List.getElem_cons_succ, List.getElem_cons_zero, List.setIfInBounds_toArray, List.set_cons_zero, List.set_cons_succ]
    refine wpAnyS_take (i := 5) (v := ?_) rfl (by kernel_rfl) (by kernel_rfl) (by kernel_rfl) (by kernel_rfl) (fun _ _ _ h => h) (Or.inl ⟨by rfl, ?_⟩) (by assumption) ?_
    rotate_left
    · intro w hSw; (try dsimp only at hSw); go_simp; try with_reducible rfl
    try simp only [Act.put, List.getElem_toArray, List.getElem_cons_succ, List.getElem_cons_zero, List.setIfInBounds_toArray, List.set_cons_zero, List.set_cons_succ]
    refine wpAnyS_take (i := 6) (v := ?_) rfl (by kernel_rfl) (by kernel_rfl) (by kernel_rfl) (by kernel_rfl) (fun _ _ _ h => h) (Or.inl ⟨by rfl, ?_⟩) (by assumption) ?_
    rotate_left
    · intro w hSw; (try dsimp only at hSw); go_simp; try with_reducible rfl
    try simp only [Act.put, List.getElem_toArray, List.getElem_cons_succ, List.getElem_cons_zero, List.setIfInBounds_toArray, List.set_cons_zero, List.set_cons_succ]
    refine wpAnyS_one (i := 3) rfl (by kernel_rfl) (fun K hK => ?_)
    go_simp; go_at_call 32; refine (persistis_ok (some ⟨k1, 0, none⟩) 2 2 _ none [] ⟨S, S, S, V, 7⟩ D _ rfl (by omega) (hs.later (by first | exact Below.refl _ _ | exact below_drewN (Below.refl _ _) _)).a (lt_some (hs.later (by first | exact Below.refl _ _ | exact below_drewN (Below.refl _ _) _)).al) (.inl ⟨rfl, rfl⟩) HRK.out a5 (by omega)).mono ?_; rintro z1 Z1 ⟨rfl, hz⟩; rw [HP1.out, HB3.out]; try dsimp only; rw [HTT.out, Bool.true_and]; have hs1 := (hs.later (by first | exact Below.refl _ _ | exact below_drewN (Below.refl _ _) _)).later hz; clear hz
    refine hK.out _ _ (fun _ => hs1.cells) (fun hH => ?_)
    have hHeld := hH rfl
    clear hK K hH
    try simp only [Act.put, List.getElem_toArray, List.getElem_cons_succ, List.getElem_cons_zero, List.setIfInBounds_toArray, List.set_cons_zero, List.set_cons_succ]
    refine wpAnyS_take (i := 7) (v := ?_) rfl (by kernel_rfl) (by kernel_rfl) (by kernel_rfl) (by kernel_rfl) (fun _ _ _ h => h) (Or.inl ⟨by rfl, ?_⟩) (by assumption) ?_
    rotate_left
    · intro w hSw; (try dsimp only at hSw); go_simp; try with_reducible rfl
    try simp only [Act.put, List.getElem_toArray, List.getElem_cons_succ, List.getElem_cons_zero, List.setIfInBounds_toArray, List.set_cons_zero, List.set_cons_succ]
    refine wpAnyS_take (i := 8) (v := ?_) rfl (by kernel_rfl) (by kernel_rfl) (by kernel_rfl) (by kernel_rfl) (fun _ _ _ h => h) (Or.inl ⟨by rfl, ?_⟩) (by assumption) ?_
    rotate_left
    · intro w hSw; (try dsimp only at hSw); go_simp; try with_reducible rfl
    try simp only [Act.put, List.getElem_toArray, List.getElem_cons_succ, List.getElem_cons_zero, List.setIfInBounds_toArray, List.set_cons_zero, List.set_cons_succ]
    refine wpAnyS_take (i := 9) (v := ?_) rfl (by kernel_rfl) (by kernel_rfl) (by kernel_rfl) (by kernel_rfl) (fun _ _ _ h => h) (Or.inl ⟨by rfl, ?_⟩) (by assumption) ?_
    rotate_left
    · intro w hSw; (try dsimp only at hSw); go_simp; try with_reducible rfl
    try simp only [Act.put, List.getElem_toArray, List.getElem_cons_succ, List.getElem_cons_zero, List.setIfInBounds_toArray, List.set_cons_zero, List.set_cons_succ]
    refine wpAnyS_take (i := 10) (v := ?_) rfl (by kernel_rfl) (by kernel_rfl) (by kernel_rfl) (by kernel_rfl) (fun _ _ _ h => h) (Or.inl ⟨by rfl, ?_⟩) (by assumption) ?_
    rotate_left
    · intro w hSw; (try dsimp only at hSw); go_simp; try with_reducible rfl
    try simp only [Act.put, List.getElem_toArray, List.getElem_cons_succ, List.getElem_cons_zero, List.setIfInBounds_toArray, List.set_cons_zero, List.set_cons_succ]
    refine wpAnyS_take (i := 11) (v := ?_) rfl (by kernel_rfl) (by kernel_rfl) (by kernel_rfl) (by kernel_rfl) (fun _ _ _ h => h) (Or.inl ⟨by rfl, ?_⟩) (by assumption) ?_
    rotate_left
    · intro w hSw; (try dsimp only at hSw); go_simp; try with_reducible rfl
    try simp only [Act.put, List.getElem_toArray, List.getElem_cons_succ, List.getElem_cons_zero, List.setIfInBounds_toArray, List.set_cons_zero, List.set_cons_succ]
    refine wpAnyS_one (i := 12) rfl (by kernel_rfl) (fun K hK => ?_)
    go_simp; go_at_call 32; refine (persistis_ok (some ⟨k2, 0, none⟩) 2 2 _ none [] ⟨S, S, S, V, 7⟩ D _ rfl (by omega) (hs1.later (by first | exact Below.refl _ _ | exact below_drewN (Below.refl _ _) _)).b (lt_some (hs1.later (by first | exact Below.refl _ _ | exact below_drewN (Below.refl _ _) _)).bl) (.inl ⟨rfl, rfl⟩) HRK.out a5 (by omega)).mono ?_; rintro z2 Z2 ⟨rfl, hz⟩; rw [HP2.out, HB3.out]; try dsimp only; rw [HT2.out, Bool.and_false]; have hs2 := (hs1.later (by first | exact Below.refl _ _ | exact below_drewN (Below.refl _ _) _)).later hz; clear hz
    refine hK.out _ _ (fun _ => hs2.cells) (fun hH => ?_)
    have hHeld := hH rfl
    clear hK K hH
    try simp only [Act.put, List.getElem_toArray, List.getElem_cons_succ, List.getElem_cons_zero, List.setIfInBounds_toArray, List.set_cons_zero, List.set_cons_succ]
    refine wpAnyS_take (i := 13) (v := ?_) rfl (by kernel_rfl) (by kernel_rfl) (by kernel_rfl) (by kernel_rfl) (fun _ _ _ h => h) (Or.inl ⟨by rfl, ?_⟩) (by assumption) ?_
    rotate_left
    · intro w hSw; (try dsimp only at hSw); go_simp; try with_reducible rfl
    try simp only [Act.put, List.getElem_toArray, List.getElem_cons_succ, List.getElem_cons_zero, List.setIfInBounds_toArray, List.set_cons_zero, List.set_cons_succ]
    refine wpAnyS_take (i := 14) (v := ?_) rfl (by kernel_rfl) (by kernel_rfl) (by kernel_rfl) (by kernel_rfl) (fun _ _ _ h => h) (Or.inl ⟨by rfl, ?_⟩) (by assumption) ?_
    rotate_left
    · intro w hSw; (try dsimp only at hSw); go_simp; try with_reducible rfl
    try simp only [Act.put, List.getElem_toArray, List.getElem_cons_succ, List.getElem_cons_zero, List.setIfInBounds_toArray, List.set_cons_zero, List.set_cons_succ]
    refine wpAnyS_take (i := 15) (v := ?_) rfl (by kernel_rfl) (by kernel_rfl) (by kernel_rfl) (by kernel_rfl) (fun _ _ _ h => h) (Or.inl ⟨by rfl, ?_⟩) (by assumption) ?_
    rotate_left
    · intro w hSw; (try dsimp only at hSw); go_simp; try with_reducible rfl
    try simp only [Act.put, List.getElem_toArray, List.getElem_cons_succ, List.getElem_cons_zero, List.setIfInBounds_toArray, List.set_cons_zero, List.set_cons_succ]
    refine wpAnyS_take (i := 16) (v := ?_) rfl (by kernel_rfl) (by kernel_rfl) (by kernel_rfl) (by kernel_rfl) (fun _ _ _ h => h) (Or.inl ⟨by rfl, ?_⟩) (by assumption) ?_
    rotate_left
    · intro w hSw; (try dsimp only at hSw); go_simp; try with_reducible rfl
    try simp only [Act.put, List.getElem_toArray, List.getElem_cons_succ, List.getElem_cons_zero, List.setIfInBounds_toArray, List.set_cons_zero, List.set_cons_succ]
    refine wpAnyS_take (i := 17) (v := ?_) rfl (by kernel_rfl) (by kernel_rfl) (by kernel_rfl) (by kernel_rfl) (fun _ _ _ h => h) (Or.inl ⟨by rfl, ?_⟩) (by assumption) ?_
    rotate_left
    · intro w hSw; (try dsimp only at hSw); go_simp; try with_reducible rfl
    try simp only [Act.put, List.getElem_toArray, List.getElem_cons_succ, List.getElem_cons_zero, List.setIfInBounds_toArray, List.set_cons_zero, List.set_cons_succ]
    refine wpAnyS_take (i := 18) (v := ?_) rfl (by kernel_rfl) (by kernel_rfl) (by kernel_rfl) (by kernel_rfl) (fun _ _ _ h => h) (Or.inl ⟨by rfl, ?_⟩) (by assumption) ?_
    rotate_left
    · intro w hSw; (try dsimp only at hSw); go_simp; try with_reducible rfl
    try simp only [Act.put, List.getElem_toArray, List.getElem_cons_succ, List.getElem_cons_zero, List.setIfInBounds_toArray, List.set_cons_zero, List.set_cons_succ]
    refine wpAnyS_one (i := 19) rfl (by kernel_rfl) (fun K hK => ?_)
    go_simp; go_at_call 32; refine (persistis_ok (some ⟨k3, 0, none⟩) 2 2 _ none [] ⟨S, S, S, V, 7⟩ D _ rfl (by omega) (hs2.later (by first | exact Below.refl _ _ | exact below_drewN (Below.refl _ _) _)).c (lt_some (hs2.later (by first | exact Below.refl _ _ | exact below_drewN (Below.refl _ _) _)).cl) (.inl ⟨rfl, rfl⟩) HRK.out a5 (by omega)).mono ?_; rintro z3 Z3 ⟨rfl, hz⟩; rw [HP3.out, HB3.out]; try dsimp only; rw [HT3.out, Bool.and_true]; have hs3 := (hs2.later (by first | exact Below.refl _ _ | exact below_drewN (Below.refl _ _) _)).later hz; clear hz
    refine hK.out _ _ (fun _ => hs3.cells) (fun hH => ?_)
    have hHeld := hH rfl
    clear hK K hH
    try simp only [Act.put, List.getElem_toArray, List.getElem_cons_succ, List.getElem_cons_zero, List.setIfInBounds_toArray, List.set_cons_zero, List.set_cons_succ]
    refine wpAnyS_take (i := 20) (v := ?_) rfl (by kernel_rfl) (by kernel_rfl) (by kernel_rfl) (by kernel_rfl) (fun _ _ _ h => h) (Or.inl ⟨by rfl, ?_⟩) (by assumption) ?_
    rotate_left
    · intro w hSw; (try dsimp only at hSw); go_simp; try with_reducible rfl
    try simp only [Act.put, List.getElem_toArray, List.getElem_cons_succ, List.getElem_cons_zero, List.setIfInBounds_toArray, List.set_cons_zero, List.set_cons_succ]
    refine wpAnyS_take (i := 21) (v := ?_) rfl (by kernel_rfl) (by kernel_rfl) (by kernel_rfl) (by kernel_rfl) (fun _ _ _ h => h) (Or.inl ⟨by rfl, ?_⟩) (by assumption) ?_
    rotate_left
    · intro w hSw; (try dsimp only at hSw); go_simp; try with_reducible rfl
    try simp only [Act.put, List.getElem_toArray, List.getElem_cons_succ, List.getElem_cons_zero, List.setIfInBounds_toArray, List.set_cons_zero, List.set_cons_succ]
    refine wpAnyS_take (i := 22) (v := ?_) rfl (by kernel_rfl) (by kernel_rfl) (by kernel_rfl) (by kernel_rfl) (fun _ _ _ h => h) (Or.inl ⟨by rfl, ?_⟩) (by assumption) ?_
    rotate_left
    · intro w hSw; (try dsimp only at hSw); go_simp; try with_reducible rfl
    try simp only [Act.put, List.getElem_toArray, List.getElem_cons_succ, List.getElem_cons_zero, List.setIfInBounds_toArray, List.set_cons_zero, List.set_cons_succ]
    refine wpAnyS_take (i := 23) (v := ?_) rfl (by kernel_rfl) (by kernel_rfl) (by kernel_rfl) (by kernel_rfl) (fun _ _ _ h => h) (Or.inl ⟨by rfl, ?_⟩) (by assumption) ?_
    rotate_left
    · intro w hSw; (try dsimp only at hSw); go_simp; try with_reducible rfl
    try simp only [Act.put, List.getElem_toArray, List.getElem_cons_succ, List.getElem_cons_zero, List.setIfInBounds_toArray, List.set_cons_zero, List.set_cons_succ]
    refine wpAnyS_take (i := 24) (v := ?_) rfl (by kernel_rfl) (by kernel_rfl) (by kernel_rfl) (by kernel_rfl) (fun _ _ _ h => h) (Or.inl ⟨by rfl, ?_⟩) (by assumption) ?_
    rotate_left
    · intro w hSw; (try dsimp only at hSw); go_simp; try with_reducible rfl
    try simp only [Act.put, List.getElem_toArray, List.getElem_cons_succ, List.getElem_cons_zero, List.setIfInBounds_toArray, List.set_cons_zero, List.set_cons_succ]
    refine wpAnyS_take (i := 25) (v := ?_) rfl (by kernel_rfl) (by kernel_rfl) (by kernel_rfl) (by kernel_rfl) (fun _ _ _ h => h) (Or.inl ⟨by rfl, ?_⟩) (by assumption) ?_
    rotate_left
    · intro w hSw; (try dsimp only at hSw); go_simp; try with_reducible rfl
    try simp only [Act.put, List.getElem_toArray, List.getElem_cons_succ, List.getElem_cons_zero, List.setIfInBounds_toArray, List.set_cons_zero, List.set_cons_succ]
    refine wpAnyS_one (i := 26) rfl (by kernel_rfl) (fun K hK => ?_)
    go_simp; go_at_call 32; refine (persistis_ok (some ⟨k3, 6, none⟩) 1 1 _ none [] ⟨S, S, S, V, 7⟩ D _ rfl (by omega) (pksAt_drop (hs3.later (by first | exact Below.refl _ _ | exact below_drewN (Below.refl _ _) _)).c) (lt_some (hs3.later (by first | exact Below.refl _ _ | exact below_drewN (Below.refl _ _) _)).cl) (.inl ⟨rfl, rfl⟩) HRK.out a5 (by omega)).mono ?_; rintro z4 Z4 ⟨rfl, hz⟩; rw [HP4.out, HB3.out]; try dsimp only; rw [Bool.false_and]; have hs4 := (hs3.later (by first | exact Below.refl _ _ | exact below_drewN (Below.refl _ _) _)).later hz; clear hz
    refine hK.out _ _ (fun _ => hs4.cells) (fun hH => ?_)
    have hHeld := hH rfl
    clear hK K hH
    try simp only [Act.put, List.getElem_toArray, List.getElem_cons_succ, List.getElem_cons_zero, List.setIfInBounds_toArray, List.set_cons_zero, List.set_cons_succ]
    refine wpAnyS_take (i := 27) (v := ?_) rfl (by kernel_rfl) (by kernel_rfl) (by kernel_rfl) (by kernel_rfl) (fun _ _ _ h => h) (Or.inl ⟨by rfl, ?_⟩) (by assumption) ?_
    rotate_left
    · intro w hSw; (try dsimp only at hSw); go_simp; try with_reducible rfl
    try simp only [Act.put, List.getElem_toArray, List.getElem_cons_succ, List.getElem_cons_zero, List.setIfInBounds_toArray, List.set_cons_zero, List.set_cons_succ]
    refine wpAnyS_take (i := 28) (v := ?_) rfl (by kernel_rfl) (by kernel_rfl) (by kernel_rfl) (by kernel_rfl) (fun _ _ _ h => h) (Or.inl ⟨by rfl, ?_⟩) (by assumption) ?_
    rotate_left
    · intro w hSw; (try dsimp only at hSw); go_simp; try with_reducible rfl
    try simp only [Act.put, List.getElem_toArray, List.getElem_cons_succ, List.getElem_cons_zero, List.setIfInBounds_toArray, List.set_cons_zero, List.set_cons_succ]
    refine wpAnyS_take (i := 29) (v := ?_) rfl (by kernel_rfl) (by kernel_rfl) (by kernel_rfl) (by kernel_rfl) (fun _ _ _ h => h) (Or.inl ⟨by rfl, ?_⟩) (by assumption) ?_
    rotate_left
    · intro w hSw; (try dsimp only at hSw); go_simp; try with_reducible rfl
    try simp only [Act.put, List.getElem_toArray, List.getElem_cons_succ, List.getElem_cons_zero, List.setIfInBounds_toArray, List.set_cons_zero, List.set_cons_succ]
    refine wpAnyS_one (i := 30) rfl (by kernel_rfl) (fun K hK => ?_)
    go_simp; go_at_call 30; refine (works10_any _).mono ?_; rintro z5 Z5 ⟨rfl, hz⟩; have hs6 := (hs4.later (by first | exact Below.refl _ _ | exact below_drewN (Below.refl _ _) _)).later hz; clear hz
    refine hK.out _ _ (fun _ => hs6.cells) (fun hH => ?_)
    have hHeld := hH rfl
    clear hK K hH
    try simp only [Act.put, List.getElem_toArray, List.getElem_cons_succ, List.getElem_cons_zero, List.setIfInBounds_toArray, List.set_cons_zero, List.set_cons_succ]
    refine wpAnyS_take (i := 31) (v := ?_) rfl (by kernel_rfl) (by kernel_rfl) (by kernel_rfl) (by kernel_rfl) (fun _ _ _ h => h) (Or.inl ⟨by rfl, ?_⟩) (by assumption) ?_
    rotate_left
    · intro w hSw; (try dsimp only at hSw); go_simp; try with_reducible rfl
    try simp only [Act.put, List.getElem_toArray, List.getElem_cons_succ, List.getElem_cons_zero, List.setIfInBounds_toArray, List.set_cons_zero, List.set_cons_succ]
    refine wpAnyS_take (i := 32) (v := ?_) rfl (by kernel_rfl) (by kernel_rfl) (by kernel_rfl) (by kernel_rfl) (fun _ _ _ h => h) (Or.inl ⟨by rfl, ?_⟩) (by assumption) ?_
    rotate_left
    · intro w hSw; (try dsimp only at hSw); go_simp; try with_reducible rfl
    try simp only [Act.put, List.getElem_toArray, List.getElem_cons_succ, List.getElem_cons_zero, List.setIfInBounds_toArray, List.set_cons_zero, List.set_cons_succ]
    refine wpAnyS_done (by kernel_rfl) ?_ _
    go_wp2_with fail
    go_ret
    exact ⟨rfl, hs6.below⟩
  · have HBO : Hid (baseOf ⟨S, S, S, V, 7⟩ D = S + 4 * V + D) := by show _ = _; unfold baseOf; dsimp only; rw [if_neg c]
    have c2 : 1000000 ≤ 4 * V := by omega
    go_enter Try.func6, Try.ntmps6
    go_wp2_with fail
    refine (B1.out _).mono ?_
    rintro e1 w1 ⟨rfl, rfl⟩
    obtain ⟨W0, hW0⟩ : ∃ W0, w.alloc (.cells #[.int .i64 m0, .int .i64 m1] 37) = W0 := ⟨_, rfl⟩
    rw [hW0] at HY HBW0 ⊢
    clear hW0
    have y0 := HY.out.cell 0
    have y1 := HY.out.cell 1
    go_wp2_with fail
    go_quiet ((go_at_call 13; first | with_reducible exact quiet_left (B2.out _) | with_reducible exact quiet_left (B3.out _)))
    have HBW1 := hide (below_drewN HBW0.out nq)
    obtain ⟨W1, hW1⟩ : ∃ W1, W0.drewN nq = W1 := ⟨_, rfl⟩
    rw [hW1] at HBW1
    try rw [hW1]
    have HWN := hide hW1
    clear hW1 y0 y1
    go_wp2_with fail
    have HR0 : Blk (W1.alloc (.cells #[.int .i64 S, .int .i64 S, .int .i64 S, .int .i64 V, .int .i64 7] 53)) W1.heap.size 53 #[.int .i64 S, .int .i64 S, .int .i64 S, .int .i64 V, .int .i64 7] := Blk.new _ _ _
    have HB0 := bw_below' HBW1.out ((Below.refl W1.heap.size W1).alloc (Nat.le_refl _) (.cells #[.int .i64 S, .int .i64 S, .int .i64 S, .int .i64 V, .int .i64 7] 53))
    obtain ⟨X9, hX9⟩ : ∃ X9, W1.heap.size = X9 := ⟨_, rfl⟩
    obtain ⟨W2, hW2⟩ : ∃ W2, W1.alloc (.cells #[.int .i64 S, .int .i64 S, .int .i64 S, .int .i64 V, .int .i64 7] 53) = W2 := ⟨_, rfl⟩
    rw [hX9, hW2] at HR0
    rw [hW2] at HB0
    rw [hX9, hW2]
    clear hX9 hW2
    obtain ⟨Wt, hWt⟩ : ∃ Wt, 3 * (S + 4 * V + D) = Wt := ⟨_, rfl⟩
    have hWt0 : 0 ≤ Wt ∧ Wt ≤ 34359738368 := by omega
    obtain ⟨hWt0, hWt1⟩ := hWt0
    have HB3 : Hid (3 * baseOf ⟨S, S, S, V, 7⟩ D = Wt) := by show _ = _; rw [HBO.out]; exact hWt
    rw [hWt]
    clear hWt c
    refine (B4.out _).mono ?_
    rintro e2 w2 ⟨rfl, rfl⟩
    have HR0 := hide HR0
    have HB0 := hide HB0
    go_wp2_with fail
    refine (at10_any _ _ _).mono ?_
    rintro x1 V1 ⟨rfl, b1⟩
    go_wp2_with fail
    refine (at10_any _ _ _).mono ?_
    rintro x2 V2 ⟨rfl, b2⟩
    have r2 := (b2.block _ (Nat.lt_of_lt_of_le HR0.out.lt b1.size)).trans ((b1.block _ HR0.out.lt).trans HR0.out)
    have f2 := bw_below' (bw_below' HB0.out b1) b2
    clear HR0 HB0 b1 b2
    have HR2 := hide r2
    have HF2 := hide f2
    clear r2 f2
    unfold pkV pkC atP
    go_wp2_with fail
    have bA : Below V2.heap.size V2 (V2.alloc (.cells #[.int .i64 1, .int .i64 8, .int .i64 100, .bool true, .bool true, .bool false, .int .i64 2, .int .i64 (8 + d'), .int .i64 100, .bool true, .bool true, .bool false] 55)) := (Below.refl _ _).alloc (Nat.le_refl _) _
    have pA : PksAt (V2.alloc (.cells #[.int .i64 1, .int .i64 8, .int .i64 100, .bool true, .bool true, .bool false, .int .i64 2, .int .i64 (8 + d'), .int .i64 100, .bool true, .bool true, .bool false] 55)) (some ⟨V2.heap.size, 0, none⟩) [atP 1 8, atP 2 (8 + d')] := pksAt_new (Blk.new V2 55 _) rfl (by intro p hp; simp at hp; rcases hp with rfl | rfl <;> exact atP_small (by omega) (by omega))
    have lA : V2.heap.size < (V2.alloc (.cells #[.int .i64 1, .int .i64 8, .int .i64 100, .bool true, .bool true, .bool false, .int .i64 2, .int .i64 (8 + d'), .int .i64 100, .bool true, .bool true, .bool false] 55)).heap.size := by rw [World.size_alloc]; omega
    have r3 := (bA.block _ (Blk.lt HR2.out)).trans HR2.out
    have f3 := bw_below' HF2.out bA
    obtain ⟨k1, hk1⟩ : ∃ k1, V2.heap.size = k1 := ⟨_, rfl⟩
    obtain ⟨V3, hV3⟩ : ∃ V3, V2.alloc (.cells #[.int .i64 1, .int .i64 8, .int .i64 100, .bool true, .bool true, .bool false, .int .i64 2, .int .i64 (8 + d'), .int .i64 100, .bool true, .bool true, .bool false] 55) = V3 := ⟨_, rfl⟩
    rw [hk1, hV3] at pA lA
    rw [hV3] at r3 f3
    rw [hk1, hV3]
    clear bA hk1 hV3 HR2 HF2
    refine (at10_any _ _ _).mono ?_
    rintro x3 V4 ⟨rfl, b1⟩
    go_wp2_with fail
    refine (at10_any _ _ _).mono ?_
    rintro x4 V5 ⟨rfl, b2⟩
    have b2 := bw_below' b1 b2
    have HR5 := hide ((b2.block _ (Blk.lt r3)).trans r3)
    have HF5 := hide (bw_below' f3 b2)
    have HA5 := hide (pA.below b2 (Nat.le_refl _))
    have HL5 := hide (Nat.lt_of_lt_of_le lA b2.size)
    clear b1 b2 r3 f3 pA lA
    unfold pkV pkC atP
    go_wp2_with fail
    have bA : Below V5.heap.size V5 (V5.alloc (.cells #[.int .i64 1, .int .i64 8, .int .i64 100, .bool true, .bool true, .bool false, .int .i64 2, .int .i64 (8 + Wt), .int .i64 100, .bool true, .bool true, .bool false] 55)) := (Below.refl _ _).alloc (Nat.le_refl _) _
    have pB : PksAt (V5.alloc (.cells #[.int .i64 1, .int .i64 8, .int .i64 100, .bool true, .bool true, .bool false, .int .i64 2, .int .i64 (8 + Wt), .int .i64 100, .bool true, .bool true, .bool false] 55)) (some ⟨V5.heap.size, 0, none⟩) [atP 1 8, atP 2 (8 + Wt)] := pksAt_new (Blk.new V5 55 _) rfl (by intro p hp; simp at hp; rcases hp with rfl | rfl <;> exact atP_small (by omega) (by omega))
    have lB : V5.heap.size < (V5.alloc (.cells #[.int .i64 1, .int .i64 8, .int .i64 100, .bool true, .bool true, .bool false, .int .i64 2, .int .i64 (8 + Wt), .int .i64 100, .bool true, .bool true, .bool false] 55)).heap.size := by rw [World.size_alloc]; omega
    have r6 := (bA.block _ (Blk.lt HR5.out)).trans HR5.out
    have f6 := bw_below' HF5.out bA
    have pA := HA5.out.below bA (Nat.le_refl _)
    have lA := Nat.lt_of_lt_of_le HL5.out bA.size
    obtain ⟨k2, hk2⟩ : ∃ k2, V5.heap.size = k2 := ⟨_, rfl⟩
    obtain ⟨V6, hV6⟩ : ∃ V6, V5.alloc (.cells #[.int .i64 1, .int .i64 8, .int .i64 100, .bool true, .bool true, .bool false, .int .i64 2, .int .i64 (8 + Wt), .int .i64 100, .bool true, .bool true, .bool false] 55) = V6 := ⟨_, rfl⟩
    rw [hk2, hV6] at pB lB
    rw [hV6] at r6 f6 pA lA
    rw [hk2, hV6]
    clear bA hk2 hV6 HR5 HF5 HA5 HL5
    refine (at10_any _ _ _).mono ?_
    rintro x5 V7 ⟨rfl, b1⟩
    go_wp2_with fail
    refine (at10_any _ _ _).mono ?_
    rintro x6 V8 ⟨rfl, b2⟩
    have b2 := bw_below' b1 b2
    have HR5 := hide ((b2.block _ (Blk.lt r6)).trans r6)
    have HF5 := hide (bw_below' f6 b2)
    have HA5 := hide (pA.below b2 (Nat.le_refl _))
    have HL5 := hide (Nat.lt_of_lt_of_le lA b2.size)
    have HC5 := hide (pB.below b2 (Nat.le_refl _))
    have HM5 := hide (Nat.lt_of_lt_of_le lB b2.size)
    clear b1 b2 r6 f6 pA lA pB lB
    unfold pkV pkC atP
    go_wp2_with fail
    have bA : Below V8.heap.size V8 (V8.alloc (.cells #[.int .i64 1, .int .i64 8, .int .i64 100, .bool true, .bool true, .bool false, .int .i64 2, .int .i64 (9 + Wt), .int .i64 100, .bool true, .bool true, .bool false] 55)) := (Below.refl _ _).alloc (Nat.le_refl _) _
    have pC : PksAt (V8.alloc (.cells #[.int .i64 1, .int .i64 8, .int .i64 100, .bool true, .bool true, .bool false, .int .i64 2, .int .i64 (9 + Wt), .int .i64 100, .bool true, .bool true, .bool false] 55)) (some ⟨V8.heap.size, 0, none⟩) [atP 1 8, atP 2 (9 + Wt)] := pksAt_new (Blk.new V8 55 _) rfl (by intro p hp; simp at hp; rcases hp with rfl | rfl <;> exact atP_small (by omega) (by omega))
    have lC : V8.heap.size < (V8.alloc (.cells #[.int .i64 1, .int .i64 8, .int .i64 100, .bool true, .bool true, .bool false, .int .i64 2, .int .i64 (9 + Wt), .int .i64 100, .bool true, .bool true, .bool false] 55)).heap.size := by rw [World.size_alloc]; omega
    have hs : PisAt w _ X9 k1 k2 V8.heap.size S V _ _ _ := ⟨(bA.block _ (Blk.lt HR5.out)).trans HR5.out, HA5.out.below bA (Nat.le_refl _), Nat.lt_of_lt_of_le HL5.out bA.size, HC5.out.below bA (Nat.le_refl _), Nat.lt_of_lt_of_le HM5.out bA.size, pC, lC, bw_below' HF5.out bA⟩
    obtain ⟨k3, hk3⟩ : ∃ k3, V8.heap.size = k3 := ⟨_, rfl⟩
    obtain ⟨V9, hV9⟩ : ∃ V9, V8.alloc (.cells #[.int .i64 1, .int .i64 8, .int .i64 100, .bool true, .bool true, .bool false, .int .i64 2, .int .i64 (9 + Wt), .int .i64 100, .bool true, .bool true, .bool false] 55) = V9 := ⟨_, rfl⟩
    rw [hk3, hV9] at hs
    rw [hk3, hV9]
    clear bA pC lC hk3 hV9 HR5 HF5 HA5 HL5 HC5 HM5
    have HP1 := hide (per_two (d := d') a7 (by omega))
    have HP2 := hide (per_two (d := Wt) hWt0 (by omega))
    have HP3 := hide (per_two (d := Wt + 1) (by omega) (by omega))
    rw [show 8 + (Wt + 1) = 9 + Wt by omega] at HP3
    have HP4 := hide (per_one (9 + Wt))
    have HT3 : Hid (decide (Wt < Wt + 1) = true) := decide_eq_true (by omega)
    have HT2 : Hid (decide (Wt < Wt) = false) := decide_eq_false (by omega)
    obtain ⟨T, hT⟩ : ∃ T, decide (Wt < d') = T := ⟨_, rfl⟩
    have HTT := hide hT
    refine wp_region_S (fun w' => w'.cell? ⟨X9, 0, none⟩ = some (.int .i64 S) ∧ w'.cell? ⟨X9, 1, none⟩ = some (.int .i64 S) ∧ w'.cell? ⟨X9, 2, none⟩ = some (.int .i64 S) ∧ w'.cell? ⟨X9, 3, none⟩ = some (.int .i64 V) ∧ w'.cell? ⟨X9, 4, none⟩ = some (.int .i64 7)) 1000 (by kernel_rfl) (by exact hs.cells) (fun hHeld => ?_)
    refine wpAnyS_take (i := 0) (v := ?_) rfl (by kernel_rfl) (by kernel_rfl) (by kernel_rfl) (by kernel_rfl) (fun _ _ _ h => h) (Or.inl ⟨by rfl, ?_⟩) (by assumption) ?_
    rotate_left
    · intro w hSw; (try dsimp only at hSw); go_simp; try with_reducible rfl
    try simp only [Act.put, List.getElem_toArray, List.getElem_cons_succ, List.getElem_cons_zero, List.setIfInBounds_toArray, List.set_cons_zero, List.set_cons_succ]
    refine wpAnyS_take (i := 1) (v := ?_) rfl (by kernel_rfl) (by kernel_rfl) (by kernel_rfl) (by kernel_rfl) (fun _ _ _ h => h) (Or.inl ⟨by rfl, ?_⟩) (by assumption) ?_
    rotate_left
    · intro w hSw; (try dsimp only at hSw); go_simp; try with_reducible rfl
    try simp only [Act.put, List.getElem_toArray, List.getElem_cons_succ, List.getElem_cons_zero, List.setIfInBounds_toArray, List.set_cons_zero, List.set_cons_succ]
    refine wpAnyS_take (i := 2) (v := ?_) rfl (by kernel_rfl) (by kernel_rfl) (by kernel_rfl) (by kernel_rfl) (fun _ _ _ h => h) (Or.inl ⟨by rfl, ?_⟩) (by assumption) ?_
    rotate_left
    · intro w hSw; (try dsimp only at hSw); go_simp; try with_reducible rfl
    try simp only [Act.put, List.getElem_toArray, List.getElem_cons_succ, List.getElem_cons_zero, List.setIfInBounds_toArray, List.set_cons_zero, List.set_cons_succ]
    refine wpAnyS_take (i := 4) (v := ?_) rfl (by kernel_rfl) (by kernel_rfl) (by kernel_rfl) (by kernel_rfl) (fun _ _ _ h => h) (Or.inl ⟨by rfl, ?_⟩) (by assumption) ?_
    rotate_left
    · intro w hSw; (try dsimp only at hSw); go_simp; try with_reducible rfl
    try simp only [Act.put, List.getElem_toArray, List.getElem_cons_succ, List.getElem_cons_zero, List.setIfInBounds_toArray, List.set_cons_zero, List.set_cons_succ]
    refine wpAnyS_take (i := 5) (v := ?_) rfl (by kernel_rfl) (by kernel_rfl) (by kernel_rfl) (by kernel_rfl) (fun _ _ _ h => h) (Or.inl ⟨by rfl, ?_⟩) (by assumption) ?_
    rotate_left
    · intro w hSw; (try dsimp only at hSw); go_simp; try with_reducible rfl
    try simp only [Act.put, List.getElem_toArray, List.getElem_cons_succ, List.getElem_cons_zero, List.setIfInBounds_toArray, List.set_cons_zero, List.set_cons_succ]
    refine wpAnyS_take (i := 6) (v := ?_) rfl (by kernel_rfl) (by kernel_rfl) (by kernel_rfl) (by kernel_rfl) (fun _ _ _ h => h) (Or.inl ⟨by rfl, ?_⟩) (by assumption) ?_
    rotate_left
    · intro w hSw; (try dsimp only at hSw); go_simp; try with_reducible rfl
    try simp only [Act.put, List.getElem_toArray, List.getElem_cons_succ, List.getElem_cons_zero, List.setIfInBounds_toArray, List.set_cons_zero, List.set_cons_succ]
    refine wpAnyS_one (i := 3) rfl (by kernel_rfl) (fun K hK => ?_)
    go_simp; go_at_call 32; refine (persistis_ok (some ⟨k1, 0, none⟩) 2 2 _ none [] ⟨S, S, S, V, 7⟩ D _ rfl (by omega) (hs.later (by first | exact Below.refl _ _ | exact below_drewN (Below.refl _ _) _)).a (lt_some (hs.later (by first | exact Below.refl _ _ | exact below_drewN (Below.refl _ _) _)).al) (.inl ⟨rfl, rfl⟩) HRK.out a5 (by omega)).mono ?_; rintro z1 Z1 ⟨rfl, hz⟩; rw [HP1.out, HB3.out]; try dsimp only; rw [HTT.out, Bool.true_and]; have hs1 := (hs.later (by first | exact Below.refl _ _ | exact below_drewN (Below.refl _ _) _)).later hz; clear hz
    refine hK.out _ _ (fun _ => hs1.cells) (fun hH => ?_)
    have hHeld := hH rfl
    clear hK K hH
    try simp only [Act.put, List.getElem_toArray, List.getElem_cons_succ, List.getElem_cons_zero, List.setIfInBounds_toArray, List.set_cons_zero, List.set_cons_succ]
    refine wpAnyS_take (i := 7) (v := ?_) rfl (by kernel_rfl) (by kernel_rfl) (by kernel_rfl) (by kernel_rfl) (fun _ _ _ h => h) (Or.inl ⟨by rfl, ?_⟩) (by assumption) ?_
    rotate_left
    · intro w hSw; (try dsimp only at hSw); go_simp; try with_reducible rfl
    try simp only [Act.put, List.getElem_toArray, List.getElem_cons_succ, List.getElem_cons_zero, List.setIfInBounds_toArray, List.set_cons_zero, List.set_cons_succ]
    refine wpAnyS_take (i := 8) (v := ?_) rfl (by kernel_rfl) (by kernel_rfl) (by kernel_rfl) (by kernel_rfl) (fun _ _ _ h => h) (Or.inl ⟨by rfl, ?_⟩) (by assumption) ?_
    rotate_left
    · intro w hSw; (try dsimp only at hSw); go_simp; try with_reducible rfl
    try simp only [Act.put, List.getElem_toArray, List.getElem_cons_succ, List.getElem_cons_zero, List.setIfInBounds_toArray, List.set_cons_zero, List.set_cons_succ]
    refine wpAnyS_take (i := 9) (v := ?_) rfl (by kernel_rfl) (by kernel_rfl) (by kernel_rfl) (by kernel_rfl) (fun _ _ _ h => h) (Or.inl ⟨by rfl, ?_⟩) (by assumption) ?_
    rotate_left
    · intro w hSw; (try dsimp only at hSw); go_simp; try with_reducible rfl
    try simp only [Act.put, List.getElem_toArray, List.getElem_cons_succ, List.getElem_cons_zero, List.setIfInBounds_toArray, List.set_cons_zero, List.set_cons_succ]
    refine wpAnyS_take (i := 10) (v := ?_) rfl (by kernel_rfl) (by kernel_rfl) (by kernel_rfl) (by kernel_rfl) (fun _ _ _ h => h) (Or.inl ⟨by rfl, ?_⟩) (by assumption) ?_
    rotate_left
    · intro w hSw; (try dsimp only at hSw); go_simp; try with_reducible rfl
    try simp only [Act.put, List.getElem_toArray, List.getElem_cons_succ, List.getElem_cons_zero, List.setIfInBounds_toArray, List.set_cons_zero, List.set_cons_succ]
    refine wpAnyS_take (i := 11) (v := ?_) rfl (by kernel_rfl) (by kernel_rfl) (by kernel_rfl) (by kernel_rfl) (fun _ _ _ h => h) (Or.inl ⟨by rfl, ?_⟩) (by assumption) ?_
    rotate_left
    · intro w hSw; (try dsimp only at hSw); go_simp; try with_reducible rfl
    try simp only [Act.put, List.getElem_toArray, List.getElem_cons_succ, List.getElem_cons_zero, List.setIfInBounds_toArray, List.set_cons_zero, List.set_cons_succ]
    refine wpAnyS_one (i := 12) rfl (by kernel_rfl) (fun K hK => ?_)
    go_simp; go_at_call 32; refine (persistis_ok (some ⟨k2, 0, none⟩) 2 2 _ none [] ⟨S, S, S, V, 7⟩ D _ rfl (by omega) (hs1.later (by first | exact Below.refl _ _ | exact below_drewN (Below.refl _ _) _)).b (lt_some (hs1.later (by first | exact Below.refl _ _ | exact below_drewN (Below.refl _ _) _)).bl) (.inl ⟨rfl, rfl⟩) HRK.out a5 (by omega)).mono ?_; rintro z2 Z2 ⟨rfl, hz⟩; rw [HP2.out, HB3.out]; try dsimp only; rw [HT2.out, Bool.and_false]; have hs2 := (hs1.later (by first | exact Below.refl _ _ | exact below_drewN (Below.refl _ _) _)).later hz; clear hz
    refine hK.out _ _ (fun _ => hs2.cells) (fun hH => ?_)
    have hHeld := hH rfl
    clear hK K hH
    try simp only [Act.put, List.getElem_toArray, List.getElem_cons_succ, List.getElem_cons_zero, List.setIfInBounds_toArray, List.set_cons_zero, List.set_cons_succ]
    refine wpAnyS_take (i := 13) (v := ?_) rfl (by kernel_rfl) (by kernel_rfl) (by kernel_rfl) (by kernel_rfl) (fun _ _ _ h => h) (Or.inl ⟨by rfl, ?_⟩) (by assumption) ?_
    rotate_left
    · intro w hSw; (try dsimp only at hSw); go_simp; try with_reducible rfl
    try simp only [Act.put, List.getElem_toArray, List.getElem_cons_succ, List.getElem_cons_zero, List.setIfInBounds_toArray, List.set_cons_zero, List.set_cons_succ]
    refine wpAnyS_take (i := 14) (v := ?_) rfl (by kernel_rfl) (by kernel_rfl) (by kernel_rfl) (by kernel_rfl) (fun _ _ _ h => h) (Or.inl ⟨by rfl, ?_⟩) (by assumption) ?_
    rotate_left
    · intro w hSw; (try dsimp only at hSw); go_simp; try with_reducible rfl
    try simp only [Act.put, List.getElem_toArray, List.getElem_cons_succ, List.getElem_cons_zero, List.setIfInBounds_toArray, List.set_cons_zero, List.set_cons_succ]
    refine wpAnyS_take (i := 15) (v := ?_) rfl (by kernel_rfl) (by kernel_rfl) (by kernel_rfl) (by kernel_rfl) (fun _ _ _ h => h) (Or.inl ⟨by rfl, ?_⟩) (by assumption) ?_
    rotate_left
    · intro w hSw; (try dsimp only at hSw); go_simp; try with_reducible rfl
    try simp only [Act.put, List.getElem_toArray, List.getElem_cons_succ, List.getElem_cons_zero, List.setIfInBounds_toArray, List.set_cons_zero, List.set_cons_succ]
    refine wpAnyS_take (i := 16) (v := ?_) rfl (by kernel_rfl) (by kernel_rfl) (by kernel_rfl) (by kernel_rfl) (fun _ _ _ h => h) (Or.inl ⟨by rfl, ?_⟩) (by assumption) ?_
    rotate_left
    · intro w hSw; (try dsimp only at hSw); go_simp; try with_reducible rfl
    try simp only [Act.put, List.getElem_toArray, List.getElem_cons_succ, List.getElem_cons_zero, List.setIfInBounds_toArray, List.set_cons_zero, List.set_cons_succ]
    refine wpAnyS_take (i := 17) (v := ?_) rfl (by kernel_rfl) (by kernel_rfl) (by kernel_rfl) (by kernel_rfl) (fun _ _ _ h => h) (Or.inl ⟨by rfl, ?_⟩) (by assumption) ?_
    rotate_left
    · intro w hSw; (try dsimp only at hSw); go_simp; try with_reducible rfl
    try simp only [Act.put, List.getElem_toArray, List.getElem_cons_succ, List.getElem_cons_zero, List.setIfInBounds_toArray, List.set_cons_zero, List.set_cons_succ]
    refine wpAnyS_take (i := 18) (v := ?_) rfl (by kernel_rfl) (by kernel_rfl) (by kernel_rfl) (by kernel_rfl) (fun _ _ _ h => h) (Or.inl ⟨by rfl, ?_⟩) (by assumption) ?_
    rotate_left
    · intro w hSw; (try dsimp only at hSw); go_simp; try with_reducible rfl
    try simp only [Act.put, List.getElem_toArray, List.getElem_cons_succ, List.getElem_cons_zero, List.setIfInBounds_toArray, List.set_cons_zero, List.set_cons_succ]
    refine wpAnyS_one (i := 19) rfl (by kernel_rfl) (fun K hK => ?_)
    go_simp; go_at_call 32; refine (persistis_ok (some ⟨k3, 0, none⟩) 2 2 _ none [] ⟨S, S, S, V, 7⟩ D _ rfl (by omega) (hs2.later (by first | exact Below.refl _ _ | exact below_drewN (Below.refl _ _) _)).c (lt_some (hs2.later (by first | exact Below.refl _ _ | exact below_drewN (Below.refl _ _) _)).cl) (.inl ⟨rfl, rfl⟩) HRK.out a5 (by omega)).mono ?_; rintro z3 Z3 ⟨rfl, hz⟩; rw [HP3.out, HB3.out]; try dsimp only; rw [HT3.out, Bool.and_true]; have hs3 := (hs2.later (by first | exact Below.refl _ _ | exact below_drewN (Below.refl _ _) _)).later hz; clear hz
    refine hK.out _ _ (fun _ => hs3.cells) (fun hH => ?_)
    have hHeld := hH rfl
    clear hK K hH
    try simp only [Act.put, List.getElem_toArray, List.getElem_cons_succ, List.getElem_cons_zero, List.setIfInBounds_toArray, List.set_cons_zero, List.set_cons_succ]
    refine wpAnyS_take (i := 20) (v := ?_) rfl (by kernel_rfl) (by kernel_rfl) (by kernel_rfl) (by kernel_rfl) (fun _ _ _ h => h) (Or.inl ⟨by rfl, ?_⟩) (by assumption) ?_
    rotate_left
    · intro w hSw; (try dsimp only at hSw); go_simp; try with_reducible rfl
    try simp only [Act.put, List.getElem_toArray, List.getElem_cons_succ, List.getElem_cons_zero, List.setIfInBounds_toArray, List.set_cons_zero, List.set_cons_succ]
    refine wpAnyS_take (i := 21) (v := ?_) rfl (by kernel_rfl) (by kernel_rfl) (by kernel_rfl) (by kernel_rfl) (fun _ _ _ h => h) (Or.inl ⟨by rfl, ?_⟩) (by assumption) ?_
    rotate_left
    · intro w hSw; (try dsimp only at hSw); go_simp; try with_reducible rfl
    try simp only [Act.put, List.getElem_toArray, List.getElem_cons_succ, List.getElem_cons_zero, List.setIfInBounds_toArray, List.set_cons_zero, List.set_cons_succ]
    refine wpAnyS_take (i := 22) (v := ?_) rfl (by kernel_rfl) (by kernel_rfl) (by kernel_rfl) (by kernel_rfl) (fun _ _ _ h => h) (Or.inl ⟨by rfl, ?_⟩) (by assumption) ?_
    rotate_left
    · intro w hSw; (try dsimp only at hSw); go_simp; try with_reducible rfl
    try simp only [Act.put, List.getElem_toArray, List.getElem_cons_succ, List.getElem_cons_zero, List.setIfInBounds_toArray, List.set_cons_zero, List.set_cons_succ]
    refine wpAnyS_take (i := 23) (v := ?_) rfl (by kernel_rfl) (by kernel_rfl) (by kernel_rfl) (by kernel_rfl) (fun _ _ _ h => h) (Or.inl ⟨by rfl, ?_⟩) (by assumption) ?_
    rotate_left
    · intro w hSw; (try dsimp only at hSw); go_simp; try with_reducible rfl
    try simp only [Act.put, List.getElem_toArray, List.getElem_cons_succ, List.getElem_cons_zero, List.setIfInBounds_toArray, List.set_cons_zero, List.set_cons_succ]
    refine wpAnyS_take (i := 24) (v := ?_) rfl (by kernel_rfl) (by kernel_rfl) (by kernel_rfl) (by kernel_rfl) (fun _ _ _ h => h) (Or.inl ⟨by rfl, ?_⟩) (by assumption) ?_
    rotate_left
    · intro w hSw; (try dsimp only at hSw); go_simp; try with_reducible rfl
    try simp only [Act.put, List.getElem_toArray, List.getElem_cons_succ, List.getElem_cons_zero, List.setIfInBounds_toArray, List.set_cons_zero, List.set_cons_succ]
    refine wpAnyS_take (i := 25) (v := ?_) rfl (by kernel_rfl) (by kernel_rfl) (by kernel_rfl) (by kernel_rfl) (fun _ _ _ h => h) (Or.inl ⟨by rfl, ?_⟩) (by assumption) ?_
    rotate_left
    · intro w hSw; (try dsimp only at hSw); go_simp; try with_reducible rfl
    try simp only [Act.put, List.getElem_toArray, List.getElem_cons_succ, List.getElem_cons_zero, List.setIfInBounds_toArray, List.set_cons_zero, List.set_cons_succ]
    refine wpAnyS_one (i := 26) rfl (by kernel_rfl) (fun K hK => ?_)
    go_simp; go_at_call 32; refine (persistis_ok (some ⟨k3, 6, none⟩) 1 1 _ none [] ⟨S, S, S, V, 7⟩ D _ rfl (by omega) (pksAt_drop (hs3.later (by first | exact Below.refl _ _ | exact below_drewN (Below.refl _ _) _)).c) (lt_some (hs3.later (by first | exact Below.refl _ _ | exact below_drewN (Below.refl _ _) _)).cl) (.inl ⟨rfl, rfl⟩) HRK.out a5 (by omega)).mono ?_; rintro z4 Z4 ⟨rfl, hz⟩; rw [HP4.out, HB3.out]; try dsimp only; rw [Bool.false_and]; have hs4 := (hs3.later (by first | exact Below.refl _ _ | exact below_drewN (Below.refl _ _) _)).later hz; clear hz
    refine hK.out _ _ (fun _ => hs4.cells) (fun hH => ?_)
    have hHeld := hH rfl
    clear hK K hH
    try simp only [Act.put, List.getElem_toArray, List.getElem_cons_succ, List.getElem_cons_zero, List.setIfInBounds_toArray, List.set_cons_zero, List.set_cons_succ]
    refine wpAnyS_take (i := 27) (v := ?_) rfl (by kernel_rfl) (by kernel_rfl) (by kernel_rfl) (by kernel_rfl) (fun _ _ _ h => h) (Or.inl ⟨by rfl, ?_⟩) (by assumption) ?_
    rotate_left
    · intro w hSw; (try dsimp only at hSw); go_simp; try with_reducible rfl
    try simp only [Act.put, List.getElem_toArray, List.getElem_cons_succ, List.getElem_cons_zero, List.setIfInBounds_toArray, List.set_cons_zero, List.set_cons_succ]
    refine wpAnyS_take (i := 28) (v := ?_) rfl (by kernel_rfl) (by kernel_rfl) (by kernel_rfl) (by kernel_rfl) (fun _ _ _ h => h) (Or.inl ⟨by rfl, ?_⟩) (by assumption) ?_
    rotate_left
    · intro w hSw; (try dsimp only at hSw); go_simp; try with_reducible rfl
    try simp only [Act.put, List.getElem_toArray, List.getElem_cons_succ, List.getElem_cons_zero, List.setIfInBounds_toArray, List.set_cons_zero, List.set_cons_succ]
    refine wpAnyS_take (i := 29) (v := ?_) rfl (by kernel_rfl) (by kernel_rfl) (by kernel_rfl) (by kernel_rfl) (fun _ _ _ h => h) (Or.inl ⟨by rfl, ?_⟩) (by assumption) ?_
    rotate_left
    · intro w hSw; (try dsimp only at hSw); go_simp; try with_reducible rfl
    try simp only [Act.put, List.getElem_toArray, List.getElem_cons_succ, List.getElem_cons_zero, List.setIfInBounds_toArray, List.set_cons_zero, List.set_cons_succ]
    refine wpAnyS_one (i := 30) rfl (by kernel_rfl) (fun K hK => ?_)
    go_simp; go_at_call 30; refine (works10_any _).mono ?_; rintro z5 Z5 ⟨rfl, hz⟩; have hs6 := (hs4.later (by first | exact Below.refl _ _ | exact below_drewN (Below.refl _ _) _)).later hz; clear hz
    refine hK.out _ _ (fun _ => hs6.cells) (fun hH => ?_)
    have hHeld := hH rfl
    clear hK K hH
    try simp only [Act.put, List.getElem_toArray, List.getElem_cons_succ, List.getElem_cons_zero, List.setIfInBounds_toArray, List.set_cons_zero, List.set_cons_succ]
    refine wpAnyS_take (i := 31) (v := ?_) rfl (by kernel_rfl) (by kernel_rfl) (by kernel_rfl) (by kernel_rfl) (fun _ _ _ h => h) (Or.inl ⟨by rfl, ?_⟩) (by assumption) ?_
    rotate_left
    · intro w hSw; (try dsimp only at hSw); go_simp; try with_reducible rfl
    try simp only [Act.put, List.getElem_toArray, List.getElem_cons_succ, List.getElem_cons_zero, List.setIfInBounds_toArray, List.set_cons_zero, List.set_cons_succ]
    refine wpAnyS_take (i := 32) (v := ?_) rfl (by kernel_rfl) (by kernel_rfl) (by kernel_rfl) (by kernel_rfl) (fun _ _ _ h => h) (Or.inl ⟨by rfl, ?_⟩) (by assumption) ?_
    rotate_left
    · intro w hSw; (try dsimp only at hSw); go_simp; try with_reducible rfl
    try simp only [Act.put, List.getElem_toArray, List.getElem_cons_succ, List.getElem_cons_zero, List.setIfInBounds_toArray, List.set_cons_zero, List.set_cons_succ]
    refine wpAnyS_done (by kernel_rfl) ?_ _
    go_wp2_with fail
    go_ret
    exact ⟨rfl, hs6.below⟩

end Go.Proofs.Ytkmfhcjdajbbhaa
