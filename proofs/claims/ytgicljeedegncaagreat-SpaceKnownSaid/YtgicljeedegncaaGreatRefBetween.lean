/-
 The document's answer: between (sounderref10). Printed by wip/genr10.py.
-/
import Derived.Test.YtgicljeedegncaaGreatRefCheck
import Derived.Test.YtgicljeedegncaaGreatTqFrameGaps
namespace Go.Proofs.YtgicljeedegncaaGreat
open List renaming getElem_toArray → ZA, getElem_cons_zero → ZB, getElem_cons_succ → ZC, setIfInBounds_toArray → ZD, set_cons_zero → ZE, set_cons_succ → ZF
open Go.Act renaming put → ZP
set_option linter.unusedSimpArgs false
set_option linter.unusedVariables false
open Go.RowKit

/-- The document's set: its list. -/
def RefL (w : World) (b : Nat) (xs : List Rg) : Prop := ∃ a c, w.cell? ⟨b, 1, none⟩ = some (.slice a xs.length c) ∧ RgAt w a xs
set_option maxRecDepth 100000 in
set_option maxHeartbeats 2000000 in
theorem between_ref (b : Nat) (xs : List Rg) (an bn : Int) (w : World) (h : RefL w b xs) (hl : xs.length ≤ 1000) (a0 : -1 ≤ an) (a1 : an ≤ 9007199254740991) (b0 : -1 ≤ bn) (b1 : bn ≤ 9007199254740991) :
  Calls Tryz.prog 186 #[.pointer (some ⟨b, 0, none⟩), .int .i64 an, .int .i64 bn] w fun e w' => e = .returned (.bool (xs.any (hitR an bn))) ∧ ∃ q, w' = w.drewN q := by
 obtain ⟨a, c, hc, hx⟩ := h
 obtain ⟨n, hn⟩ : ∃ n, xs.length = n := ⟨_, rfl⟩
 rw [hn] at hc hl
 have HN := hide hn
 have HX := hide hx
 obtain ⟨RS, hRS⟩ : ∃ RS, xs.any (hitR an bn) = RS := ⟨_, rfl⟩
 have HRS := hide hRS
 rw [hRS]
 clear hn hx hRS
 go_enter Tryz.func186, Tryz.ntmps186
 go_wp2_with fail
 go_loopg [7] n (fun kx s7 wr => ∃ i q : Nat, s7 = .int .i64 i ∧ i ≤ n ∧ n - i ≤ kx ∧ Hid (xs.any (hitR an bn) = (xs.drop i).any (hitR an bn)) ∧ wr = w.drewN q)
 case atStart => exact ⟨0, 0, rfl, by omega, by omega, rfl, rfl⟩
 case round =>
  obtain ⟨i, qd, rfl, hi, hkx, hok, rfl⟩ := hrel
  have hc1 : (w.drewN qd).cell? ⟨b, 1, none⟩ = some (.slice a n c) := hc
  by_cases hlt : i < n
  ·have hir : i < xs.length := by rw [HN.out]; exact hlt
   obtain ⟨x, hx⟩ : ∃ x, xs[i]? = some x := ⟨_, List.getElem?_eq_getElem hir⟩
   have hd : xs.drop i = x :: xs.drop (i + 1) := by
    rw [List.drop_eq_getElem_cons hir]
    congr 1
    rw [List.getElem?_eq_getElem hir] at hx
    exact Option.some.inj hx
   obtain ⟨k, rfl, hk, z0, z1⟩ := HX.out i x hx
   have HOK : Hid (xs.any (hitR an bn) = (hitR an bn x || (xs.drop (i + 1)).any (hitR an bn))) := by rw [hok, hd]; rfl
   obtain ⟨lo, hi'⟩ := x
   dsimp only at z0 z1
   have y0 : (w.drewN qd).cell? ⟨k, i * 2, none⟩ = some (.int .i64 lo) := z0
   have y1 : (w.drewN qd).cell? ⟨k, i * 2 + 1, none⟩ = some (.int .i64 hi') := z1
   have hin : (i : Int) < (n : Int) := by omega
   obtain ⟨m, hm⟩ : ∃ m, (if an + 1 < lo then lo else an + 1) = m := ⟨_, rfl⟩
   obtain ⟨q, hq⟩ : ∃ q, (if bn - 1 < hi' then bn - 1 else hi') = q := ⟨_, rfl⟩
   have hm2 : (if lo < an + 1 then an + 1 else lo) = m := by rw [← hm]; split <;> split <;> omega
   have w1 : IntKind.i64.wrap (an + 1) = an + 1 := IntWalk.i64_in _ ⟨by omega, by omega⟩
   have w2 : IntKind.i64.wrap (bn - 1) = bn - 1 := IntWalk.i64_in _ ⟨by omega, by omega⟩
   have HH : Hid (hitR an bn ⟨lo, hi'⟩ = decide (m ≤ q)) := by show _ = _; unfold hitR; rw [hm, hq]
   clear hok hx hd hir hm z0 z1
   by_cases hh : m ≤ q
   ·have d1 : decide (m ≤ q) = true := decide_eq_true hh
    have HF : Hid (RS = true) := by show _ = _; rw [← HRS.out, HOK.out, HH.out, d1]; rfl
    clear HOK hh
    go_wp2_with fail
    refine wp_region_S (fun w' => w'.cell? ⟨b, 1, none⟩ = some (.slice (some ⟨k, 0, none⟩) n c) ∧ w'.cell? ⟨k, i * 2, none⟩ = some (.int .i64 lo) ∧ w'.cell? ⟨k, i * 2 + 1, none⟩ = some (.int .i64 hi')) 1000 (by kernel_rfl) (by exact ⟨hc1, y0, y1⟩) (fun hHeld => ?_)
    refine tsP 0 ?_ rfl ?_ ?_
    rotate_left
    ·intro w hSw; (try dsimp only at hSw); go_simp; try with_reducible rfl
    try simp only [ZP, ZA, ZC, ZB, ZD, ZE, ZF]
    refine tsP 1 ?_ rfl ?_ ?_
    rotate_left
    ·intro w hSw; (try dsimp only at hSw); go_simp; try with_reducible rfl
    try simp only [ZP, ZA, ZC, ZB, ZD, ZE, ZF]
    refine tsP 2 ?_ rfl ?_ ?_
    rotate_left
    ·intro w hSw; (try dsimp only at hSw); go_simp; try with_reducible rfl
    try simp only [ZP, ZA, ZC, ZB, ZD, ZE, ZF]
    refine tsP 3 ?_ rfl ?_ ?_
    rotate_left
    ·intro w hSw; (try dsimp only at hSw); go_simp; try with_reducible rfl
    try simp only [ZP, ZA, ZC, ZB, ZD, ZE, ZF]
    refine tsP 4 ?_ rfl ?_ ?_
    rotate_left
    ·intro w hSw; (try dsimp only at hSw); go_simp; try with_reducible rfl
    try simp only [ZP, ZA, ZC, ZB, ZD, ZE, ZF]
    refine tsP 5 ?_ rfl ?_ ?_
    rotate_left
    ·intro w hSw; (try dsimp only at hSw); go_simp; try with_reducible rfl
    try simp only [ZP, ZA, ZC, ZB, ZD, ZE, ZF]
    refine tsP 6 ?_ rfl ?_ ?_
    rotate_left
    ·intro w hSw; (try dsimp only at hSw); go_simp; try with_reducible rfl
    try simp only [ZP, ZA, ZC, ZB, ZD, ZE, ZF]
    refine tsP 7 ?_ rfl ?_ ?_
    rotate_left
    ·intro w hSw; (try dsimp only at hSw); go_simp; try with_reducible rfl
    try simp only [ZP, ZA, ZC, ZB, ZD, ZE, ZF]
    refine tsP 8 ?_ rfl ?_ ?_
    rotate_left
    ·intro w hSw; (try dsimp only at hSw); go_simp; try with_reducible rfl
    try simp only [ZP, ZA, ZC, ZB, ZD, ZE, ZF]
    refine tsP 9 ?_ rfl ?_ ?_
    rotate_left
    ·intro w hSw; (try dsimp only at hSw); go_simp; try with_reducible rfl
    try simp only [ZP, ZA, ZC, ZB, ZD, ZE, ZF]
    refine tsP 10 ?_ rfl ?_ ?_
    rotate_left
    ·intro w hSw; (try dsimp only at hSw); go_simp; try with_reducible rfl
    try simp only [ZP, ZA, ZC, ZB, ZD, ZE, ZF]
    refine tsP 11 ?_ rfl ?_ ?_
    rotate_left
    ·intro w hSw; (try dsimp only at hSw); go_simp; try with_reducible rfl
    try simp only [ZP, ZA, ZC, ZB, ZD, ZE, ZF]
    refine tsP 12 ?_ rfl ?_ ?_
    rotate_left
    ·intro w hSw; (try dsimp only at hSw); go_simp; try with_reducible rfl
    try simp only [ZP, ZA, ZC, ZB, ZD, ZE, ZF]
    refine tsP 13 ?_ rfl ?_ ?_
    rotate_left
    ·intro w hSw; (try dsimp only at hSw); go_simp; try with_reducible rfl
    try simp only [ZP, ZA, ZC, ZB, ZD, ZE, ZF]
    refine tsP 14 ?_ rfl ?_ ?_
    rotate_left
    ·intro w hSw; (try dsimp only at hSw); go_simp; try with_reducible rfl
    try simp only [ZP, ZA, ZC, ZB, ZD, ZE, ZF]
    refine tsP 15 ?_ rfl ?_ ?_
    rotate_left
    ·intro w hSw; (try dsimp only at hSw); go_simp; try with_reducible rfl
    try simp only [ZP, ZA, ZC, ZB, ZD, ZE, ZF]
    refine tsP 16 ?_ rfl ?_ ?_
    rotate_left
    ·intro w hSw; (try dsimp only at hSw); go_simp; try with_reducible rfl
    try simp only [ZP, ZA, ZC, ZB, ZD, ZE, ZF]
    refine tsP 17 ?_ rfl ?_ ?_
    rotate_left
    ·intro w hSw; (try dsimp only at hSw); go_simp; try with_reducible rfl
    try simp only [ZP, ZA, ZC, ZB, ZD, ZE, ZF]
    refine tsP 18 ?_ rfl ?_ ?_
    rotate_left
    ·intro w hSw; (try dsimp only at hSw); go_simp; try with_reducible rfl
    try simp only [ZP, ZA, ZC, ZB, ZD, ZE, ZF]
    refine tsP 19 ?_ rfl ?_ ?_
    rotate_left
    ·intro w hSw; (try dsimp only at hSw); go_simp; try with_reducible rfl
    try simp only [ZP, ZA, ZC, ZB, ZD, ZE, ZF]
    refine tsP 20 ?_ rfl ?_ ?_
    rotate_left
    ·intro w hSw; (try dsimp only at hSw); go_simp; try with_reducible rfl
    try simp only [ZP, ZA, ZC, ZB, ZD, ZE, ZF]
    refine tsP 21 ?_ rfl ?_ ?_
    rotate_left
    ·intro w hSw; (try dsimp only at hSw); go_simp; try with_reducible rfl
    try simp only [ZP, ZA, ZC, ZB, ZD, ZE, ZF]
    refine tsP 22 ?_ rfl ?_ ?_
    rotate_left
    ·intro w hSw; (try dsimp only at hSw); go_simp; try with_reducible rfl
    try simp only [ZP, ZA, ZC, ZB, ZD, ZE, ZF]
    refine wpAnyS_done (by kernel_rfl) ?_ _
    go_wp2_with fail
    go_ret
    exact ⟨by rw [HF.out]; rfl, qd + 1, by simp⟩
   ·have d1 : decide (m ≤ q) = false := decide_eq_false hh
    have HF : Hid (xs.any (hitR an bn) = (xs.drop (i + 1)).any (hitR an bn)) := by show _ = _; rw [HOK.out, HH.out, d1]; rfl
    clear HOK hh
    go_wp2_with fail
    refine wp_region_S (fun w' => w'.cell? ⟨b, 1, none⟩ = some (.slice (some ⟨k, 0, none⟩) n c) ∧ w'.cell? ⟨k, i * 2, none⟩ = some (.int .i64 lo) ∧ w'.cell? ⟨k, i * 2 + 1, none⟩ = some (.int .i64 hi')) 1000 (by kernel_rfl) (by exact ⟨hc1, y0, y1⟩) (fun hHeld => ?_)
    refine tsP 0 ?_ rfl ?_ ?_
    rotate_left
    ·intro w hSw; (try dsimp only at hSw); go_simp; try with_reducible rfl
    try simp only [ZP, ZA, ZC, ZB, ZD, ZE, ZF]
    refine tsP 1 ?_ rfl ?_ ?_
    rotate_left
    ·intro w hSw; (try dsimp only at hSw); go_simp; try with_reducible rfl
    try simp only [ZP, ZA, ZC, ZB, ZD, ZE, ZF]
    refine tsP 2 ?_ rfl ?_ ?_
    rotate_left
    ·intro w hSw; (try dsimp only at hSw); go_simp; try with_reducible rfl
    try simp only [ZP, ZA, ZC, ZB, ZD, ZE, ZF]
    refine tsP 3 ?_ rfl ?_ ?_
    rotate_left
    ·intro w hSw; (try dsimp only at hSw); go_simp; try with_reducible rfl
    try simp only [ZP, ZA, ZC, ZB, ZD, ZE, ZF]
    refine tsP 4 ?_ rfl ?_ ?_
    rotate_left
    ·intro w hSw; (try dsimp only at hSw); go_simp; try with_reducible rfl
    try simp only [ZP, ZA, ZC, ZB, ZD, ZE, ZF]
    refine tsP 5 ?_ rfl ?_ ?_
    rotate_left
    ·intro w hSw; (try dsimp only at hSw); go_simp; try with_reducible rfl
    try simp only [ZP, ZA, ZC, ZB, ZD, ZE, ZF]
    refine tsP 6 ?_ rfl ?_ ?_
    rotate_left
    ·intro w hSw; (try dsimp only at hSw); go_simp; try with_reducible rfl
    try simp only [ZP, ZA, ZC, ZB, ZD, ZE, ZF]
    refine tsP 7 ?_ rfl ?_ ?_
    rotate_left
    ·intro w hSw; (try dsimp only at hSw); go_simp; try with_reducible rfl
    try simp only [ZP, ZA, ZC, ZB, ZD, ZE, ZF]
    refine tsP 8 ?_ rfl ?_ ?_
    rotate_left
    ·intro w hSw; (try dsimp only at hSw); go_simp; try with_reducible rfl
    try simp only [ZP, ZA, ZC, ZB, ZD, ZE, ZF]
    refine tsP 9 ?_ rfl ?_ ?_
    rotate_left
    ·intro w hSw; (try dsimp only at hSw); go_simp; try with_reducible rfl
    try simp only [ZP, ZA, ZC, ZB, ZD, ZE, ZF]
    refine tsP 10 ?_ rfl ?_ ?_
    rotate_left
    ·intro w hSw; (try dsimp only at hSw); go_simp; try with_reducible rfl
    try simp only [ZP, ZA, ZC, ZB, ZD, ZE, ZF]
    refine tsP 11 ?_ rfl ?_ ?_
    rotate_left
    ·intro w hSw; (try dsimp only at hSw); go_simp; try with_reducible rfl
    try simp only [ZP, ZA, ZC, ZB, ZD, ZE, ZF]
    refine tsP 12 ?_ rfl ?_ ?_
    rotate_left
    ·intro w hSw; (try dsimp only at hSw); go_simp; try with_reducible rfl
    try simp only [ZP, ZA, ZC, ZB, ZD, ZE, ZF]
    refine tsP 13 ?_ rfl ?_ ?_
    rotate_left
    ·intro w hSw; (try dsimp only at hSw); go_simp; try with_reducible rfl
    try simp only [ZP, ZA, ZC, ZB, ZD, ZE, ZF]
    refine tsP 14 ?_ rfl ?_ ?_
    rotate_left
    ·intro w hSw; (try dsimp only at hSw); go_simp; try with_reducible rfl
    try simp only [ZP, ZA, ZC, ZB, ZD, ZE, ZF]
    refine tsP 15 ?_ rfl ?_ ?_
    rotate_left
    ·intro w hSw; (try dsimp only at hSw); go_simp; try with_reducible rfl
    try simp only [ZP, ZA, ZC, ZB, ZD, ZE, ZF]
    refine tsP 16 ?_ rfl ?_ ?_
    rotate_left
    ·intro w hSw; (try dsimp only at hSw); go_simp; try with_reducible rfl
    try simp only [ZP, ZA, ZC, ZB, ZD, ZE, ZF]
    refine tsP 17 ?_ rfl ?_ ?_
    rotate_left
    ·intro w hSw; (try dsimp only at hSw); go_simp; try with_reducible rfl
    try simp only [ZP, ZA, ZC, ZB, ZD, ZE, ZF]
    refine tsP 18 ?_ rfl ?_ ?_
    rotate_left
    ·intro w hSw; (try dsimp only at hSw); go_simp; try with_reducible rfl
    try simp only [ZP, ZA, ZC, ZB, ZD, ZE, ZF]
    refine tsP 19 ?_ rfl ?_ ?_
    rotate_left
    ·intro w hSw; (try dsimp only at hSw); go_simp; try with_reducible rfl
    try simp only [ZP, ZA, ZC, ZB, ZD, ZE, ZF]
    refine tsP 20 ?_ rfl ?_ ?_
    rotate_left
    ·intro w hSw; (try dsimp only at hSw); go_simp; try with_reducible rfl
    try simp only [ZP, ZA, ZC, ZB, ZD, ZE, ZF]
    refine tsP 21 ?_ rfl ?_ ?_
    rotate_left
    ·intro w hSw; (try dsimp only at hSw); go_simp; try with_reducible rfl
    try simp only [ZP, ZA, ZC, ZB, ZD, ZE, ZF]
    refine tsP 22 ?_ rfl ?_ ?_
    rotate_left
    ·intro w hSw; (try dsimp only at hSw); go_simp; try with_reducible rfl
    try simp only [ZP, ZA, ZC, ZB, ZD, ZE, ZF]
    refine wpAnyS_done (by kernel_rfl) ?_ _
    go_wp2_with fail
    go_roundg (n - (i + 1))
    case rel => exact ⟨i + 1, qd + 1, by go_num, by omega, by omega, HF, by simp⟩
    case measure => omega
  ·obtain hie : i = n := by omega
   have hin : ¬ (i : Int) < (n : Int) := by omega
   have HF : Hid (RS = false) := by show _ = _; rw [← HRS.out, hok, List.drop_of_length_le (by rw [HN.out]; omega)]; rfl
   clear hok hie
   go_wp2_with fail
   go_ret
   exact ⟨by rw [HF.out]; rfl, qd, rfl⟩
theorem r10between_nil (an bn : Int) (w : World) : Calls Tryz.prog 186 #[.pointer none, .int .i64 an, .int .i64 bn] w fun e w' => e = .returned (.bool false) ∧ w = w' := by
 go_enter Tryz.func186, Tryz.ntmps186
 go_wp2
 go_ret
 exact ⟨rfl, rfl⟩
end Go.Proofs.YtgicljeedegncaaGreat
