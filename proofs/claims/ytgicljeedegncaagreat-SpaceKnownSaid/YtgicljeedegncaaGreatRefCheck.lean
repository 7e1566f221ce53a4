/-
 The document's answer: Check of lists of packets (sounderref09). Printed by wip/genr09.py.
-/
import Derived.Test.YtgicljeedegncaaGreatTqPersistIsAny
import Derived.Test.YtgicljeedegncaaGreatTqSpanAdd
namespace Go.Proofs.YtgicljeedegncaaGreat
open List renaming getElem_toArray → ZA, getElem_cons_zero → ZB, getElem_cons_succ → ZC, setIfInBounds_toArray → ZD, set_cons_zero → ZE, set_cons_succ → ZF
open Go.Act renaming put → ZP
open Go.Value renaming int → ZI
open Go.IntKind renaming i64 → ZQ
set_option linter.unusedSimpArgs false
set_option linter.unusedVariables false
open Go.RowKit

/-- The number ahead of a place. -/
def aheadN (ps : List PK) (i : Nat) : Int := match i with
 | 0 => -1
 | j + 1 => match ps[j]? with
  | some q => q.n
  | none => -1

set_option maxRecDepth 100000 in
set_option maxHeartbeats 8000000 in
theorem r09check_any (a : Option Addr) (len cap : Nat) (ps : List PK) (w : World) (hlen : ps.length = len) (hP : PksAt w a ps) (ha : ∀ k o, a = some ⟨k, o, none⟩ → k < w.heap.size) :
  Calls Tryz.prog 127 #[.slice a len cap] w fun e w' => e = .returned (ZI ZQ (checkL ps)) ∧ Below w.heap.size w w' := by
 subst hlen
 unfold checkL
 have HP := hide hP
 clear hP ha
 by_cases h256 : ps.length ≤ 256
 ·have h2 : ¬ (256 : Int) < (ps.length : Int) := by omega
  rw [show (if ps.length ≤ 256 ∧ okPks (-1) ps = true then (0 : Int) else 2) = if okPks (-1) ps = true then 0 else 2 by simp [h256]]
  obtain ⟨RS, hRS⟩ : ∃ RS, (if okPks (-1) ps = true then (0 : Int) else 2) = RS := ⟨_, rfl⟩
  have HRS := hide hRS
  rw [hRS]
  clear hRS
  go_enter Tryz.func127, Tryz.ntmps127
  go_wp2_with fail
  go_loopg [3] ps.length (fun kx s3 wr => ∃ i : Nat, s3 = ZI ZQ i ∧ i ≤ ps.length ∧ ps.length - i ≤ kx ∧ Hid (okPks (-1) ps = okPks (aheadN ps i) (ps.drop i)) ∧ -1 ≤ aheadN ps i ∧ Below w.heap.size w wr)
  case atStart => exact ⟨0, rfl, by omega, by omega, rfl, (by show (-1 : Int) ≤ -1; omega), Below.refl _ _⟩
  case round =>
   obtain ⟨i, rfl, hi, hkx, hok, hal, hW⟩ := hrel
   by_cases hlt : i < ps.length
   ·obtain ⟨p, hp⟩ : ∃ p, ps[i]? = some p := ⟨_, List.getElem?_eq_getElem hlt⟩
    have hd : ps.drop i = p :: ps.drop (i + 1) := by
     rw [List.drop_eq_getElem_cons hlt]
     congr 1
     rw [List.getElem?_eq_getElem hlt] at hp
     exact Option.some.inj hp
    have hPk := HP.out.below hW (Nat.le_refl _)
    obtain ⟨xb, xo, rfl, hxl, z0, z1, z2, z3, z4, z5⟩ := hPk.cells hp
    have HOK : Hid (okPks (-1) ps = (okPk (aheadN ps i) p && okPks p.n (ps.drop (i + 1)))) := by rw [hok, hd]; rfl
    have HAN : Hid (aheadN ps (i + 1) = p.n) := by show (match ps[i]? with | some q => q.n | none => -1) = _; rw [hp]
    have HPI := hide hp
    have hin : (i : Int) < (ps.length : Int) := by omega
    have HIT := hide (fun W => r09time_any p.t W)
    have hsz := hW.size
    have hy := Blk.new wr 40 (pkC p)
    have HY := hide hy
    have HWA := hide (hW.alloc hsz (.cells (pkC p) 40))
    have HPK := hide (HP.out.below (hW.alloc hsz (.cells (pkC p) 40)) (Nat.le_refl _))
    obtain ⟨X, hX⟩ : ∃ X, wr.heap.size = X := ⟨_, rfl⟩
    have HXE := hide hX
    rw [hX] at HY
    clear hok hp hd hPk hy hX hW
    go_upto_region 7 with (fail)
    obtain ⟨pn, pt, psz, pe, pf, pc⟩ := p
    unfold pkC at HY HWA HPK
    dsimp only at HY HWA HPK HIT HOK HAN HPI z0 z1 z2 z3 z4 z5 ⊢
    obtain ⟨W1, hW1⟩ : ∃ W1, wr.alloc (.cells #[ZI ZQ pn, ZI ZQ pt, ZI ZQ psz, .bool pe, .bool pf, .bool pc] 40) = W1 := ⟨_, rfl⟩
    rw [hW1] at HY HWA HPK
    rw [HXE.out, hW1]
    have y0 := HY.out.cell 0
    have y1 := HY.out.cell 1
    have y2 := HY.out.cell 2
    clear z0 z1 z2 z3 z4 z5 hW1
    by_cases hi0 : i = 0
    ·have hA1 : aheadN ps i = -1 := by rw [hi0]; rfl
     have g0 : decide ((0 : Int) < (i : Int)) = false := decide_eq_false (by omega)
     have g1 : decide (0 < i) = false := decide_eq_false (by omega)
     clear hi0
     as_aux_lemma =>
      by_cases c1 : pn < 0
      ·have HN1 : Hid (okPk (aheadN ps i) ⟨pn, pt, psz, pe, pf, pc⟩ = false) := by show _ = _; rw [Bool.eq_false_iff]; intro h; have h := okPk_iff.1 h; dsimp only at h; omega
       have d1 : decide (pn < 0) = true := decide_eq_true c1
       refine wp_region_S (fun w' => w'.cell? ⟨X, 0, none⟩ = some (ZI ZQ pn) ∧ w'.cell? ⟨X, 1, none⟩ = some (ZI ZQ pt) ∧ w'.cell? ⟨X, 2, none⟩ = some (ZI ZQ psz)) 1000 (by kernel_rfl) (by exact ⟨y0, y1, y2⟩) (fun hHeld => ?_)
       refine tsP 0 ?_ rfl ?_ ?_
       rotate_left
       ·intro w hSw; (try dsimp only at hSw); go_simp; try with_reducible rfl
       try simp only [ZP, ZA, ZC, ZB, ZD, ZE, ZF]
       refine tsP 1 ?_ rfl ?_ ?_
       rotate_left
       ·intro w hSw; (try dsimp only at hSw); go_simp; try with_reducible rfl
       try simp only [ZP, ZA, ZC, ZB, ZD, ZE, ZF]
       refine tsP 2 ?_ rfl ?_ ?_
       rotate_left
       ·intro w hSw; (try dsimp only at hSw); go_simp; try with_reducible rfl
       try simp only [ZP, ZA, ZC, ZB, ZD, ZE, ZF]
       refine tsP 3 ?_ rfl ?_ ?_
       rotate_left
       ·intro w hSw; (try dsimp only at hSw); go_simp; try with_reducible rfl
       try simp only [ZP, ZA, ZC, ZB, ZD, ZE, ZF]
       refine tsU 4 rfl ?_
       try simp only [ZP, ZA, ZC, ZB, ZD, ZE, ZF]
       refine tsU 5 rfl ?_
       try simp only [ZP, ZA, ZC, ZB, ZD, ZE, ZF]
       refine tsU 6 rfl ?_
       try simp only [ZP, ZA, ZC, ZB, ZD, ZE, ZF]
       refine tsP 7 ?_ rfl ?_ ?_
       rotate_left
       ·intro w hSw; (try dsimp only at hSw); go_simp; try with_reducible rfl
       try simp only [ZP, ZA, ZC, ZB, ZD, ZE, ZF]
       refine tsP 8 ?_ rfl ?_ ?_
       rotate_left
       ·intro w hSw; (try dsimp only at hSw); go_simp; try with_reducible rfl
       try simp only [ZP, ZA, ZC, ZB, ZD, ZE, ZF]
       refine tsU 9 rfl ?_
       try simp only [ZP, ZA, ZC, ZB, ZD, ZE, ZF]
       refine tsU 10 rfl ?_
       try simp only [ZP, ZA, ZC, ZB, ZD, ZE, ZF]
       refine tsU 11 rfl ?_
       try simp only [ZP, ZA, ZC, ZB, ZD, ZE, ZF]
       refine tsU 12 rfl ?_
       try simp only [ZP, ZA, ZC, ZB, ZD, ZE, ZF]
       refine tsU 13 rfl ?_
       try simp only [ZP, ZA, ZC, ZB, ZD, ZE, ZF]
       refine tsU 14 rfl ?_
       try simp only [ZP, ZA, ZC, ZB, ZD, ZE, ZF]
       refine tsU 15 rfl ?_
       try simp only [ZP, ZA, ZC, ZB, ZD, ZE, ZF]
       refine tsU 16 rfl ?_
       try simp only [ZP, ZA, ZC, ZB, ZD, ZE, ZF]
       refine tsU 17 rfl ?_
       try simp only [ZP, ZA, ZC, ZB, ZD, ZE, ZF]
       refine tsU 18 rfl ?_
       try simp only [ZP, ZA, ZC, ZB, ZD, ZE, ZF]
       refine tsU 19 rfl ?_
       try simp only [ZP, ZA, ZC, ZB, ZD, ZE, ZF]
       refine tsU 20 rfl ?_
       try simp only [ZP, ZA, ZC, ZB, ZD, ZE, ZF]
       refine tsU 21 rfl ?_
       try simp only [ZP, ZA, ZC, ZB, ZD, ZE, ZF]
       refine tsP 22 ?_ rfl ?_ ?_
       rotate_left
       ·intro w hSw; (try dsimp only at hSw); go_simp; try with_reducible rfl
       try simp only [ZP, ZA, ZC, ZB, ZD, ZE, ZF]
       refine tsP 23 ?_ rfl ?_ ?_
       rotate_left
       ·intro w hSw; (try dsimp only at hSw); go_simp; try with_reducible rfl
       try simp only [ZP, ZA, ZC, ZB, ZD, ZE, ZF]
       refine tsU 24 rfl ?_
       try simp only [ZP, ZA, ZC, ZB, ZD, ZE, ZF]
       refine tsU 25 rfl ?_
       try simp only [ZP, ZA, ZC, ZB, ZD, ZE, ZF]
       refine tsU 26 rfl ?_
       try simp only [ZP, ZA, ZC, ZB, ZD, ZE, ZF]
       refine tsU 27 rfl ?_
       try simp only [ZP, ZA, ZC, ZB, ZD, ZE, ZF]
       refine tsP 28 ?_ rfl ?_ ?_
       rotate_left
       ·intro w hSw; (try dsimp only at hSw); go_simp; try with_reducible rfl
       try simp only [ZP, ZA, ZC, ZB, ZD, ZE, ZF]
       refine tsP 29 ?_ rfl ?_ ?_
       rotate_left
       ·intro w hSw; (try dsimp only at hSw); go_simp; try with_reducible rfl
       try simp only [ZP, ZA, ZC, ZB, ZD, ZE, ZF]
       refine tsU 30 rfl ?_
       try simp only [ZP, ZA, ZC, ZB, ZD, ZE, ZF]
       refine tsU 31 rfl ?_
       try simp only [ZP, ZA, ZC, ZB, ZD, ZE, ZF]
       refine tsU 32 rfl ?_
       try simp only [ZP, ZA, ZC, ZB, ZD, ZE, ZF]
       refine tsP 33 ?_ rfl ?_ ?_
       rotate_left
       ·intro w hSw; (try dsimp only at hSw); go_simp; try with_reducible rfl
       try simp only [ZP, ZA, ZC, ZB, ZD, ZE, ZF]
       refine tsP 34 ?_ rfl ?_ ?_
       rotate_left
       ·intro w hSw; (try dsimp only at hSw); go_simp; try with_reducible rfl
       try simp only [ZP, ZA, ZC, ZB, ZD, ZE, ZF]
       refine tsU 35 rfl ?_
       try simp only [ZP, ZA, ZC, ZB, ZD, ZE, ZF]
       refine tsU 36 rfl ?_
       try simp only [ZP, ZA, ZC, ZB, ZD, ZE, ZF]
       refine tsU 37 rfl ?_
       try simp only [ZP, ZA, ZC, ZB, ZD, ZE, ZF]
       refine tsP 38 ?_ rfl ?_ ?_
       rotate_left
       ·intro w hSw; (try dsimp only at hSw); go_simp; try with_reducible rfl
       try simp only [ZP, ZA, ZC, ZB, ZD, ZE, ZF]
       refine wpAnyS_done (by kernel_rfl) ?_ _
       go_wp2_with fail
       go_ret
       exact ⟨by rw [← HRS.out, if_neg (by rw [HOK.out, HN1.out]; simp)]; rfl, by first | exact HWA.out | exact HWA.out.drew⟩
      ·have d1 : decide (pn < 0) = false := decide_eq_false c1
       by_cases c2 : 9007199254740991 < pn
       ·have HN1 : Hid (okPk (aheadN ps i) ⟨pn, pt, psz, pe, pf, pc⟩ = false) := by show _ = _; rw [Bool.eq_false_iff]; intro h; have h := okPk_iff.1 h; dsimp only at h; omega
        have d2 : decide (9007199254740991 < pn) = true := decide_eq_true c2
        refine wp_region_S (fun w' => w'.cell? ⟨X, 0, none⟩ = some (ZI ZQ pn) ∧ w'.cell? ⟨X, 1, none⟩ = some (ZI ZQ pt) ∧ w'.cell? ⟨X, 2, none⟩ = some (ZI ZQ psz)) 1000 (by kernel_rfl) (by exact ⟨y0, y1, y2⟩) (fun hHeld => ?_)
        refine tsP 0 ?_ rfl ?_ ?_
        rotate_left
        ·intro w hSw; (try dsimp only at hSw); go_simp; try with_reducible rfl
        try simp only [ZP, ZA, ZC, ZB, ZD, ZE, ZF]
        refine tsP 1 ?_ rfl ?_ ?_
        rotate_left
        ·intro w hSw; (try dsimp only at hSw); go_simp; try with_reducible rfl
        try simp only [ZP, ZA, ZC, ZB, ZD, ZE, ZF]
        refine tsP 2 ?_ rfl ?_ ?_
        rotate_left
        ·intro w hSw; (try dsimp only at hSw); go_simp; try with_reducible rfl
        try simp only [ZP, ZA, ZC, ZB, ZD, ZE, ZF]
        refine tsP 3 ?_ rfl ?_ ?_
        rotate_left
        ·intro w hSw; (try dsimp only at hSw); go_simp; try with_reducible rfl
        try simp only [ZP, ZA, ZC, ZB, ZD, ZE, ZF]
        refine tsP 4 ?_ rfl ?_ ?_
        rotate_left
        ·intro w hSw; (try dsimp only at hSw); go_simp; try with_reducible rfl
        try simp only [ZP, ZA, ZC, ZB, ZD, ZE, ZF]
        refine tsP 5 ?_ rfl ?_ ?_
        rotate_left
        ·intro w hSw; (try dsimp only at hSw); go_simp; try with_reducible rfl
        try simp only [ZP, ZA, ZC, ZB, ZD, ZE, ZF]
        refine tsP 6 ?_ rfl ?_ ?_
        rotate_left
        ·intro w hSw; (try dsimp only at hSw); go_simp; try with_reducible rfl
        try simp only [ZP, ZA, ZC, ZB, ZD, ZE, ZF]
        refine tsP 7 ?_ rfl ?_ ?_
        rotate_left
        ·intro w hSw; (try dsimp only at hSw); go_simp; try with_reducible rfl
        try simp only [ZP, ZA, ZC, ZB, ZD, ZE, ZF]
        refine tsP 8 ?_ rfl ?_ ?_
        rotate_left
        ·intro w hSw; (try dsimp only at hSw); go_simp; try with_reducible rfl
        try simp only [ZP, ZA, ZC, ZB, ZD, ZE, ZF]
        refine tsU 9 rfl ?_
        try simp only [ZP, ZA, ZC, ZB, ZD, ZE, ZF]
        refine tsU 10 rfl ?_
        try simp only [ZP, ZA, ZC, ZB, ZD, ZE, ZF]
        refine tsU 11 rfl ?_
        try simp only [ZP, ZA, ZC, ZB, ZD, ZE, ZF]
        refine tsU 12 rfl ?_
        try simp only [ZP, ZA, ZC, ZB, ZD, ZE, ZF]
        refine tsU 13 rfl ?_
        try simp only [ZP, ZA, ZC, ZB, ZD, ZE, ZF]
        refine tsU 14 rfl ?_
        try simp only [ZP, ZA, ZC, ZB, ZD, ZE, ZF]
        refine tsU 15 rfl ?_
        try simp only [ZP, ZA, ZC, ZB, ZD, ZE, ZF]
        refine tsU 16 rfl ?_
        try simp only [ZP, ZA, ZC, ZB, ZD, ZE, ZF]
        refine tsU 17 rfl ?_
        try simp only [ZP, ZA, ZC, ZB, ZD, ZE, ZF]
        refine tsU 18 rfl ?_
        try simp only [ZP, ZA, ZC, ZB, ZD, ZE, ZF]
        refine tsU 19 rfl ?_
        try simp only [ZP, ZA, ZC, ZB, ZD, ZE, ZF]
        refine tsU 20 rfl ?_
        try simp only [ZP, ZA, ZC, ZB, ZD, ZE, ZF]
        refine tsU 21 rfl ?_
        try simp only [ZP, ZA, ZC, ZB, ZD, ZE, ZF]
        refine tsP 22 ?_ rfl ?_ ?_
        rotate_left
        ·intro w hSw; (try dsimp only at hSw); go_simp; try with_reducible rfl
        try simp only [ZP, ZA, ZC, ZB, ZD, ZE, ZF]
        refine tsP 23 ?_ rfl ?_ ?_
        rotate_left
        ·intro w hSw; (try dsimp only at hSw); go_simp; try with_reducible rfl
        try simp only [ZP, ZA, ZC, ZB, ZD, ZE, ZF]
        refine tsU 24 rfl ?_
        try simp only [ZP, ZA, ZC, ZB, ZD, ZE, ZF]
        refine tsU 25 rfl ?_
        try simp only [ZP, ZA, ZC, ZB, ZD, ZE, ZF]
        refine tsU 26 rfl ?_
        try simp only [ZP, ZA, ZC, ZB, ZD, ZE, ZF]
        refine tsU 27 rfl ?_
        try simp only [ZP, ZA, ZC, ZB, ZD, ZE, ZF]
        refine tsP 28 ?_ rfl ?_ ?_
        rotate_left
        ·intro w hSw; (try dsimp only at hSw); go_simp; try with_reducible rfl
        try simp only [ZP, ZA, ZC, ZB, ZD, ZE, ZF]
        refine tsP 29 ?_ rfl ?_ ?_
        rotate_left
        ·intro w hSw; (try dsimp only at hSw); go_simp; try with_reducible rfl
        try simp only [ZP, ZA, ZC, ZB, ZD, ZE, ZF]
        refine tsU 30 rfl ?_
        try simp only [ZP, ZA, ZC, ZB, ZD, ZE, ZF]
        refine tsU 31 rfl ?_
        try simp only [ZP, ZA, ZC, ZB, ZD, ZE, ZF]
        refine tsU 32 rfl ?_
        try simp only [ZP, ZA, ZC, ZB, ZD, ZE, ZF]
        refine tsP 33 ?_ rfl ?_ ?_
        rotate_left
        ·intro w hSw; (try dsimp only at hSw); go_simp; try with_reducible rfl
        try simp only [ZP, ZA, ZC, ZB, ZD, ZE, ZF]
        refine tsP 34 ?_ rfl ?_ ?_
        rotate_left
        ·intro w hSw; (try dsimp only at hSw); go_simp; try with_reducible rfl
        try simp only [ZP, ZA, ZC, ZB, ZD, ZE, ZF]
        refine tsU 35 rfl ?_
        try simp only [ZP, ZA, ZC, ZB, ZD, ZE, ZF]
        refine tsU 36 rfl ?_
        try simp only [ZP, ZA, ZC, ZB, ZD, ZE, ZF]
        refine tsU 37 rfl ?_
        try simp only [ZP, ZA, ZC, ZB, ZD, ZE, ZF]
        refine tsP 38 ?_ rfl ?_ ?_
        rotate_left
        ·intro w hSw; (try dsimp only at hSw); go_simp; try with_reducible rfl
        try simp only [ZP, ZA, ZC, ZB, ZD, ZE, ZF]
        refine wpAnyS_done (by kernel_rfl) ?_ _
        go_wp2_with fail
        go_ret
        exact ⟨by rw [← HRS.out, if_neg (by rw [HOK.out, HN1.out]; simp)]; rfl, by first | exact HWA.out | exact HWA.out.drew⟩
       ·have d2 : decide (9007199254740991 < pn) = false := decide_eq_false c2
        cases ht : isT pt with
        | false =>
         have HN1 : Hid (okPk (aheadN ps i) ⟨pn, pt, psz, pe, pf, pc⟩ = false) := by show _ = _; rw [Bool.eq_false_iff]; intro h; have h := okPk_iff.1 h; dsimp only at h; (unfold isT at ht; rw [decide_eq_true h.2.2.1, decide_eq_true h.2.2.2.1] at ht; cases ht)
         rw [ht] at HIT
         clear ht
         refine wp_region_S (fun w' => w'.cell? ⟨X, 0, none⟩ = some (ZI ZQ pn) ∧ w'.cell? ⟨X, 1, none⟩ = some (ZI ZQ pt) ∧ w'.cell? ⟨X, 2, none⟩ = some (ZI ZQ psz)) 1000 (by kernel_rfl) (by exact ⟨y0, y1, y2⟩) (fun hHeld => ?_)
         refine tsP 0 ?_ rfl ?_ ?_
         rotate_left
         ·intro w hSw; (try dsimp only at hSw); go_simp; try with_reducible rfl
         try simp only [ZP, ZA, ZC, ZB, ZD, ZE, ZF]
         refine tsP 1 ?_ rfl ?_ ?_
         rotate_left
         ·intro w hSw; (try dsimp only at hSw); go_simp; try with_reducible rfl
         try simp only [ZP, ZA, ZC, ZB, ZD, ZE, ZF]
         refine tsP 2 ?_ rfl ?_ ?_
         rotate_left
         ·intro w hSw; (try dsimp only at hSw); go_simp; try with_reducible rfl
         try simp only [ZP, ZA, ZC, ZB, ZD, ZE, ZF]
         refine tsP 3 ?_ rfl ?_ ?_
         rotate_left
         ·intro w hSw; (try dsimp only at hSw); go_simp; try with_reducible rfl
         try simp only [ZP, ZA, ZC, ZB, ZD, ZE, ZF]
         refine tsP 4 ?_ rfl ?_ ?_
         rotate_left
         ·intro w hSw; (try dsimp only at hSw); go_simp; try with_reducible rfl
         try simp only [ZP, ZA, ZC, ZB, ZD, ZE, ZF]
         refine tsP 5 ?_ rfl ?_ ?_
         rotate_left
         ·intro w hSw; (try dsimp only at hSw); go_simp; try with_reducible rfl
         try simp only [ZP, ZA, ZC, ZB, ZD, ZE, ZF]
         refine tsP 6 ?_ rfl ?_ ?_
         rotate_left
         ·intro w hSw; (try dsimp only at hSw); go_simp; try with_reducible rfl
         try simp only [ZP, ZA, ZC, ZB, ZD, ZE, ZF]
         refine tsP 7 ?_ rfl ?_ ?_
         rotate_left
         ·intro w hSw; (try dsimp only at hSw); go_simp; try with_reducible rfl
         try simp only [ZP, ZA, ZC, ZB, ZD, ZE, ZF]
         refine tsP 8 ?_ rfl ?_ ?_
         rotate_left
         ·intro w hSw; (try dsimp only at hSw); go_simp; try with_reducible rfl
         try simp only [ZP, ZA, ZC, ZB, ZD, ZE, ZF]
         refine tsP 9 ?_ rfl ?_ ?_
         rotate_left
         ·intro w hSw; (try dsimp only at hSw); go_simp; try with_reducible rfl
         try simp only [ZP, ZA, ZC, ZB, ZD, ZE, ZF]
         refine tsP 10 ?_ rfl ?_ ?_
         rotate_left
         ·intro w hSw; (try dsimp only at hSw); go_simp; try with_reducible rfl
         try simp only [ZP, ZA, ZC, ZB, ZD, ZE, ZF]
         refine tsP 11 ?_ rfl ?_ ?_
         rotate_left
         ·intro w hSw; (try dsimp only at hSw); go_simp; try with_reducible rfl
         try simp only [ZP, ZA, ZC, ZB, ZD, ZE, ZF]
         refine tsU 12 rfl ?_
         try simp only [ZP, ZA, ZC, ZB, ZD, ZE, ZF]
         refine tsU 13 rfl ?_
         try simp only [ZP, ZA, ZC, ZB, ZD, ZE, ZF]
         refine tsU 14 rfl ?_
         try simp only [ZP, ZA, ZC, ZB, ZD, ZE, ZF]
         refine tsU 15 rfl ?_
         try simp only [ZP, ZA, ZC, ZB, ZD, ZE, ZF]
         refine tsU 16 rfl ?_
         try simp only [ZP, ZA, ZC, ZB, ZD, ZE, ZF]
         refine tsU 17 rfl ?_
         try simp only [ZP, ZA, ZC, ZB, ZD, ZE, ZF]
         refine tsU 18 rfl ?_
         try simp only [ZP, ZA, ZC, ZB, ZD, ZE, ZF]
         refine tsU 19 rfl ?_
         try simp only [ZP, ZA, ZC, ZB, ZD, ZE, ZF]
         refine tsU 20 rfl ?_
         try simp only [ZP, ZA, ZC, ZB, ZD, ZE, ZF]
         refine tsP 21 ?_ rfl ?_ ?_
         rotate_left
         ·intro w hSw; (try dsimp only at hSw); go_simp; try with_reducible rfl
         try simp only [ZP, ZA, ZC, ZB, ZD, ZE, ZF]
         refine tsP 22 ?_ rfl ?_ ?_
         rotate_left
         ·intro w hSw; (try dsimp only at hSw); go_simp; try with_reducible rfl
         try simp only [ZP, ZA, ZC, ZB, ZD, ZE, ZF]
         refine tsP 23 ?_ rfl ?_ ?_
         rotate_left
         ·intro w hSw; (try dsimp only at hSw); go_simp; try with_reducible rfl
         try simp only [ZP, ZA, ZC, ZB, ZD, ZE, ZF]
         refine tsP 24 ?_ rfl ?_ ?_
         rotate_left
         ·intro w hSw; (try dsimp only at hSw); go_simp; try with_reducible rfl
         try simp only [ZP, ZA, ZC, ZB, ZD, ZE, ZF]
         refine tsP 25 ?_ rfl ?_ ?_
         rotate_left
         ·intro w hSw; (try dsimp only at hSw); go_simp; try with_reducible rfl
         try simp only [ZP, ZA, ZC, ZB, ZD, ZE, ZF]
         refine wpAnyS_one (i := 26) rfl (by kernel_rfl) (fun K hK => ?_)
         go_simp; go_at_call 128; refine (HIT.out _).mono ?_; rintro z Z1 ⟨rfl, rfl⟩
         refine hK.out _ _ (fun _ => by exact ⟨y0, y1, y2⟩) (fun hH => ?_)
         have hHeld := hH rfl
         clear hK K hH
         try simp only [ZP, ZA, ZC, ZB, ZD, ZE, ZF]
         refine tsP 27 ?_ rfl ?_ ?_
         rotate_left
         ·intro w hSw; (try dsimp only at hSw); go_simp; try with_reducible rfl
         try simp only [ZP, ZA, ZC, ZB, ZD, ZE, ZF]
         refine tsP 28 ?_ rfl ?_ ?_
         rotate_left
         ·intro w hSw; (try dsimp only at hSw); go_simp; try with_reducible rfl
         try simp only [ZP, ZA, ZC, ZB, ZD, ZE, ZF]
         refine tsP 29 ?_ rfl ?_ ?_
         rotate_left
         ·intro w hSw; (try dsimp only at hSw); go_simp; try with_reducible rfl
         try simp only [ZP, ZA, ZC, ZB, ZD, ZE, ZF]
         refine tsU 30 rfl ?_
         try simp only [ZP, ZA, ZC, ZB, ZD, ZE, ZF]
         refine tsU 31 rfl ?_
         try simp only [ZP, ZA, ZC, ZB, ZD, ZE, ZF]
         refine tsU 32 rfl ?_
         try simp only [ZP, ZA, ZC, ZB, ZD, ZE, ZF]
         refine tsP 33 ?_ rfl ?_ ?_
         rotate_left
         ·intro w hSw; (try dsimp only at hSw); go_simp; try with_reducible rfl
         try simp only [ZP, ZA, ZC, ZB, ZD, ZE, ZF]
         refine tsP 34 ?_ rfl ?_ ?_
         rotate_left
         ·intro w hSw; (try dsimp only at hSw); go_simp; try with_reducible rfl
         try simp only [ZP, ZA, ZC, ZB, ZD, ZE, ZF]
         refine tsU 35 rfl ?_
         try simp only [ZP, ZA, ZC, ZB, ZD, ZE, ZF]
         refine tsU 36 rfl ?_
         try simp only [ZP, ZA, ZC, ZB, ZD, ZE, ZF]
         refine tsU 37 rfl ?_
         try simp only [ZP, ZA, ZC, ZB, ZD, ZE, ZF]
         refine tsP 38 ?_ rfl ?_ ?_
         rotate_left
         ·intro w hSw; (try dsimp only at hSw); go_simp; try with_reducible rfl
         try simp only [ZP, ZA, ZC, ZB, ZD, ZE, ZF]
         refine wpAnyS_done (by kernel_rfl) ?_ _
         go_wp2_with fail
         go_ret
         exact ⟨by rw [← HRS.out, if_neg (by rw [HOK.out, HN1.out]; simp)]; rfl, by first | exact HWA.out | exact HWA.out.drew⟩
        | true =>
         have hpt : 0 ≤ pt ∧ pt ≤ 9007199254740991 := by unfold isT at ht; simpa using ht
         rw [ht] at HIT
         clear ht
         by_cases c5 : psz < 1
         ·have HN1 : Hid (okPk (aheadN ps i) ⟨pn, pt, psz, pe, pf, pc⟩ = false) := by show _ = _; rw [Bool.eq_false_iff]; intro h; have h := okPk_iff.1 h; dsimp only at h; omega
          have d5 : decide (psz < 1) = true := decide_eq_true c5
          refine wp_region_S (fun w' => w'.cell? ⟨X, 0, none⟩ = some (ZI ZQ pn) ∧ w'.cell? ⟨X, 1, none⟩ = some (ZI ZQ pt) ∧ w'.cell? ⟨X, 2, none⟩ = some (ZI ZQ psz)) 1000 (by kernel_rfl) (by exact ⟨y0, y1, y2⟩) (fun hHeld => ?_)
          refine tsP 0 ?_ rfl ?_ ?_
          rotate_left
          ·intro w hSw; (try dsimp only at hSw); go_simp; try with_reducible rfl
          try simp only [ZP, ZA, ZC, ZB, ZD, ZE, ZF]
          refine tsP 1 ?_ rfl ?_ ?_
          rotate_left
          ·intro w hSw; (try dsimp only at hSw); go_simp; try with_reducible rfl
          try simp only [ZP, ZA, ZC, ZB, ZD, ZE, ZF]
          refine tsP 2 ?_ rfl ?_ ?_
          rotate_left
          ·intro w hSw; (try dsimp only at hSw); go_simp; try with_reducible rfl
          try simp only [ZP, ZA, ZC, ZB, ZD, ZE, ZF]
          refine tsP 3 ?_ rfl ?_ ?_
          rotate_left
          ·intro w hSw; (try dsimp only at hSw); go_simp; try with_reducible rfl
          try simp only [ZP, ZA, ZC, ZB, ZD, ZE, ZF]
          refine tsP 4 ?_ rfl ?_ ?_
          rotate_left
          ·intro w hSw; (try dsimp only at hSw); go_simp; try with_reducible rfl
          try simp only [ZP, ZA, ZC, ZB, ZD, ZE, ZF]
          refine tsP 5 ?_ rfl ?_ ?_
          rotate_left
          ·intro w hSw; (try dsimp only at hSw); go_simp; try with_reducible rfl
          try simp only [ZP, ZA, ZC, ZB, ZD, ZE, ZF]
          refine tsP 6 ?_ rfl ?_ ?_
          rotate_left
          ·intro w hSw; (try dsimp only at hSw); go_simp; try with_reducible rfl
          try simp only [ZP, ZA, ZC, ZB, ZD, ZE, ZF]
          refine tsP 7 ?_ rfl ?_ ?_
          rotate_left
          ·intro w hSw; (try dsimp only at hSw); go_simp; try with_reducible rfl
          try simp only [ZP, ZA, ZC, ZB, ZD, ZE, ZF]
          refine tsP 8 ?_ rfl ?_ ?_
          rotate_left
          ·intro w hSw; (try dsimp only at hSw); go_simp; try with_reducible rfl
          try simp only [ZP, ZA, ZC, ZB, ZD, ZE, ZF]
          refine tsP 9 ?_ rfl ?_ ?_
          rotate_left
          ·intro w hSw; (try dsimp only at hSw); go_simp; try with_reducible rfl
          try simp only [ZP, ZA, ZC, ZB, ZD, ZE, ZF]
          refine tsP 10 ?_ rfl ?_ ?_
          rotate_left
          ·intro w hSw; (try dsimp only at hSw); go_simp; try with_reducible rfl
          try simp only [ZP, ZA, ZC, ZB, ZD, ZE, ZF]
          refine tsP 11 ?_ rfl ?_ ?_
          rotate_left
          ·intro w hSw; (try dsimp only at hSw); go_simp; try with_reducible rfl
          try simp only [ZP, ZA, ZC, ZB, ZD, ZE, ZF]
          refine tsU 12 rfl ?_
          try simp only [ZP, ZA, ZC, ZB, ZD, ZE, ZF]
          refine tsU 13 rfl ?_
          try simp only [ZP, ZA, ZC, ZB, ZD, ZE, ZF]
          refine tsU 14 rfl ?_
          try simp only [ZP, ZA, ZC, ZB, ZD, ZE, ZF]
          refine tsU 15 rfl ?_
          try simp only [ZP, ZA, ZC, ZB, ZD, ZE, ZF]
          refine tsU 16 rfl ?_
          try simp only [ZP, ZA, ZC, ZB, ZD, ZE, ZF]
          refine tsU 17 rfl ?_
          try simp only [ZP, ZA, ZC, ZB, ZD, ZE, ZF]
          refine tsU 18 rfl ?_
          try simp only [ZP, ZA, ZC, ZB, ZD, ZE, ZF]
          refine tsU 19 rfl ?_
          try simp only [ZP, ZA, ZC, ZB, ZD, ZE, ZF]
          refine tsU 20 rfl ?_
          try simp only [ZP, ZA, ZC, ZB, ZD, ZE, ZF]
          refine tsP 21 ?_ rfl ?_ ?_
          rotate_left
          ·intro w hSw; (try dsimp only at hSw); go_simp; try with_reducible rfl
          try simp only [ZP, ZA, ZC, ZB, ZD, ZE, ZF]
          refine tsP 22 ?_ rfl ?_ ?_
          rotate_left
          ·intro w hSw; (try dsimp only at hSw); go_simp; try with_reducible rfl
          try simp only [ZP, ZA, ZC, ZB, ZD, ZE, ZF]
          refine tsP 23 ?_ rfl ?_ ?_
          rotate_left
          ·intro w hSw; (try dsimp only at hSw); go_simp; try with_reducible rfl
          try simp only [ZP, ZA, ZC, ZB, ZD, ZE, ZF]
          refine tsP 24 ?_ rfl ?_ ?_
          rotate_left
          ·intro w hSw; (try dsimp only at hSw); go_simp; try with_reducible rfl
          try simp only [ZP, ZA, ZC, ZB, ZD, ZE, ZF]
          refine tsP 25 ?_ rfl ?_ ?_
          rotate_left
          ·intro w hSw; (try dsimp only at hSw); go_simp; try with_reducible rfl
          try simp only [ZP, ZA, ZC, ZB, ZD, ZE, ZF]
          refine wpAnyS_one (i := 26) rfl (by kernel_rfl) (fun K hK => ?_)
          go_simp; go_at_call 128; refine (HIT.out _).mono ?_; rintro z Z1 ⟨rfl, rfl⟩
          refine hK.out _ _ (fun _ => by exact ⟨y0, y1, y2⟩) (fun hH => ?_)
          have hHeld := hH rfl
          clear hK K hH
          try simp only [ZP, ZA, ZC, ZB, ZD, ZE, ZF]
          refine tsP 27 ?_ rfl ?_ ?_
          rotate_left
          ·intro w hSw; (try dsimp only at hSw); go_simp; try with_reducible rfl
          try simp only [ZP, ZA, ZC, ZB, ZD, ZE, ZF]
          refine tsP 28 ?_ rfl ?_ ?_
          rotate_left
          ·intro w hSw; (try dsimp only at hSw); go_simp; try with_reducible rfl
          try simp only [ZP, ZA, ZC, ZB, ZD, ZE, ZF]
          refine tsP 29 ?_ rfl ?_ ?_
          rotate_left
          ·intro w hSw; (try dsimp only at hSw); go_simp; try with_reducible rfl
          try simp only [ZP, ZA, ZC, ZB, ZD, ZE, ZF]
          refine tsP 30 ?_ rfl ?_ ?_
          rotate_left
          ·intro w hSw; (try dsimp only at hSw); go_simp; try with_reducible rfl
          try simp only [ZP, ZA, ZC, ZB, ZD, ZE, ZF]
          refine tsP 31 ?_ rfl ?_ ?_
          rotate_left
          ·intro w hSw; (try dsimp only at hSw); go_simp; try with_reducible rfl
          try simp only [ZP, ZA, ZC, ZB, ZD, ZE, ZF]
          refine tsP 32 ?_ rfl ?_ ?_
          rotate_left
          ·intro w hSw; (try dsimp only at hSw); go_simp; try with_reducible rfl
          try simp only [ZP, ZA, ZC, ZB, ZD, ZE, ZF]
          refine tsP 33 ?_ rfl ?_ ?_
          rotate_left
          ·intro w hSw; (try dsimp only at hSw); go_simp; try with_reducible rfl
          try simp only [ZP, ZA, ZC, ZB, ZD, ZE, ZF]
          refine tsP 34 ?_ rfl ?_ ?_
          rotate_left
          ·intro w hSw; (try dsimp only at hSw); go_simp; try with_reducible rfl
          try simp only [ZP, ZA, ZC, ZB, ZD, ZE, ZF]
          refine tsU 35 rfl ?_
          try simp only [ZP, ZA, ZC, ZB, ZD, ZE, ZF]
          refine tsU 36 rfl ?_
          try simp only [ZP, ZA, ZC, ZB, ZD, ZE, ZF]
          refine tsU 37 rfl ?_
          try simp only [ZP, ZA, ZC, ZB, ZD, ZE, ZF]
          refine tsP 38 ?_ rfl ?_ ?_
          rotate_left
          ·intro w hSw; (try dsimp only at hSw); go_simp; try with_reducible rfl
          try simp only [ZP, ZA, ZC, ZB, ZD, ZE, ZF]
          refine wpAnyS_done (by kernel_rfl) ?_ _
          go_wp2_with fail
          go_ret
          exact ⟨by rw [← HRS.out, if_neg (by rw [HOK.out, HN1.out]; simp)]; rfl, by first | exact HWA.out | exact HWA.out.drew⟩
         ·have d5 : decide (psz < 1) = false := decide_eq_false c5
          by_cases c6 : 65535 < psz
          ·have HN1 : Hid (okPk (aheadN ps i) ⟨pn, pt, psz, pe, pf, pc⟩ = false) := by show _ = _; rw [Bool.eq_false_iff]; intro h; have h := okPk_iff.1 h; dsimp only at h; omega
           have d6 : decide (65535 < psz) = true := decide_eq_true c6
           refine wp_region_S (fun w' => w'.cell? ⟨X, 0, none⟩ = some (ZI ZQ pn) ∧ w'.cell? ⟨X, 1, none⟩ = some (ZI ZQ pt) ∧ w'.cell? ⟨X, 2, none⟩ = some (ZI ZQ psz)) 1000 (by kernel_rfl) (by exact ⟨y0, y1, y2⟩) (fun hHeld => ?_)
           refine tsP 0 ?_ rfl ?_ ?_
           rotate_left
           ·intro w hSw; (try dsimp only at hSw); go_simp; try with_reducible rfl
           try simp only [ZP, ZA, ZC, ZB, ZD, ZE, ZF]
           refine tsP 1 ?_ rfl ?_ ?_
           rotate_left
           ·intro w hSw; (try dsimp only at hSw); go_simp; try with_reducible rfl
           try simp only [ZP, ZA, ZC, ZB, ZD, ZE, ZF]
           refine tsP 2 ?_ rfl ?_ ?_
           rotate_left
           ·intro w hSw; (try dsimp only at hSw); go_simp; try with_reducible rfl
           try simp only [ZP, ZA, ZC, ZB, ZD, ZE, ZF]
           refine tsP 3 ?_ rfl ?_ ?_
           rotate_left
           ·intro w hSw; (try dsimp only at hSw); go_simp; try with_reducible rfl
           try simp only [ZP, ZA, ZC, ZB, ZD, ZE, ZF]
           refine tsP 4 ?_ rfl ?_ ?_
           rotate_left
           ·intro w hSw; (try dsimp only at hSw); go_simp; try with_reducible rfl
           try simp only [ZP, ZA, ZC, ZB, ZD, ZE, ZF]
           refine tsP 5 ?_ rfl ?_ ?_
           rotate_left
           ·intro w hSw; (try dsimp only at hSw); go_simp; try with_reducible rfl
           try simp only [ZP, ZA, ZC, ZB, ZD, ZE, ZF]
           refine tsP 6 ?_ rfl ?_ ?_
           rotate_left
           ·intro w hSw; (try dsimp only at hSw); go_simp; try with_reducible rfl
           try simp only [ZP, ZA, ZC, ZB, ZD, ZE, ZF]
           refine tsP 7 ?_ rfl ?_ ?_
           rotate_left
           ·intro w hSw; (try dsimp only at hSw); go_simp; try with_reducible rfl
           try simp only [ZP, ZA, ZC, ZB, ZD, ZE, ZF]
           refine tsP 8 ?_ rfl ?_ ?_
           rotate_left
           ·intro w hSw; (try dsimp only at hSw); go_simp; try with_reducible rfl
           try simp only [ZP, ZA, ZC, ZB, ZD, ZE, ZF]
           refine tsP 9 ?_ rfl ?_ ?_
           rotate_left
           ·intro w hSw; (try dsimp only at hSw); go_simp; try with_reducible rfl
           try simp only [ZP, ZA, ZC, ZB, ZD, ZE, ZF]
           refine tsP 10 ?_ rfl ?_ ?_
           rotate_left
           ·intro w hSw; (try dsimp only at hSw); go_simp; try with_reducible rfl
           try simp only [ZP, ZA, ZC, ZB, ZD, ZE, ZF]
           refine tsP 11 ?_ rfl ?_ ?_
           rotate_left
           ·intro w hSw; (try dsimp only at hSw); go_simp; try with_reducible rfl
           try simp only [ZP, ZA, ZC, ZB, ZD, ZE, ZF]
           refine tsU 12 rfl ?_
           try simp only [ZP, ZA, ZC, ZB, ZD, ZE, ZF]
           refine tsU 13 rfl ?_
           try simp only [ZP, ZA, ZC, ZB, ZD, ZE, ZF]
           refine tsU 14 rfl ?_
           try simp only [ZP, ZA, ZC, ZB, ZD, ZE, ZF]
           refine tsU 15 rfl ?_
           try simp only [ZP, ZA, ZC, ZB, ZD, ZE, ZF]
           refine tsU 16 rfl ?_
           try simp only [ZP, ZA, ZC, ZB, ZD, ZE, ZF]
           refine tsU 17 rfl ?_
           try simp only [ZP, ZA, ZC, ZB, ZD, ZE, ZF]
           refine tsU 18 rfl ?_
           try simp only [ZP, ZA, ZC, ZB, ZD, ZE, ZF]
           refine tsU 19 rfl ?_
           try simp only [ZP, ZA, ZC, ZB, ZD, ZE, ZF]
           refine tsU 20 rfl ?_
           try simp only [ZP, ZA, ZC, ZB, ZD, ZE, ZF]
           refine tsP 21 ?_ rfl ?_ ?_
           rotate_left
           ·intro w hSw; (try dsimp only at hSw); go_simp; try with_reducible rfl
           try simp only [ZP, ZA, ZC, ZB, ZD, ZE, ZF]
           refine tsP 22 ?_ rfl ?_ ?_
           rotate_left
           ·intro w hSw; (try dsimp only at hSw); go_simp; try with_reducible rfl
           try simp only [ZP, ZA, ZC, ZB, ZD, ZE, ZF]
           refine tsP 23 ?_ rfl ?_ ?_
           rotate_left
           ·intro w hSw; (try dsimp only at hSw); go_simp; try with_reducible rfl
           try simp only [ZP, ZA, ZC, ZB, ZD, ZE, ZF]
           refine tsP 24 ?_ rfl ?_ ?_
           rotate_left
           ·intro w hSw; (try dsimp only at hSw); go_simp; try with_reducible rfl
           try simp only [ZP, ZA, ZC, ZB, ZD, ZE, ZF]
           refine tsP 25 ?_ rfl ?_ ?_
           rotate_left
           ·intro w hSw; (try dsimp only at hSw); go_simp; try with_reducible rfl
           try simp only [ZP, ZA, ZC, ZB, ZD, ZE, ZF]
           refine wpAnyS_one (i := 26) rfl (by kernel_rfl) (fun K hK => ?_)
           go_simp; go_at_call 128; refine (HIT.out _).mono ?_; rintro z Z1 ⟨rfl, rfl⟩
           refine hK.out _ _ (fun _ => by exact ⟨y0, y1, y2⟩) (fun hH => ?_)
           have hHeld := hH rfl
           clear hK K hH
           try simp only [ZP, ZA, ZC, ZB, ZD, ZE, ZF]
           refine tsP 27 ?_ rfl ?_ ?_
           rotate_left
           ·intro w hSw; (try dsimp only at hSw); go_simp; try with_reducible rfl
           try simp only [ZP, ZA, ZC, ZB, ZD, ZE, ZF]
           refine tsP 28 ?_ rfl ?_ ?_
           rotate_left
           ·intro w hSw; (try dsimp only at hSw); go_simp; try with_reducible rfl
           try simp only [ZP, ZA, ZC, ZB, ZD, ZE, ZF]
           refine tsP 29 ?_ rfl ?_ ?_
           rotate_left
           ·intro w hSw; (try dsimp only at hSw); go_simp; try with_reducible rfl
           try simp only [ZP, ZA, ZC, ZB, ZD, ZE, ZF]
           refine tsP 30 ?_ rfl ?_ ?_
           rotate_left
           ·intro w hSw; (try dsimp only at hSw); go_simp; try with_reducible rfl
           try simp only [ZP, ZA, ZC, ZB, ZD, ZE, ZF]
           refine tsP 31 ?_ rfl ?_ ?_
           rotate_left
           ·intro w hSw; (try dsimp only at hSw); go_simp; try with_reducible rfl
           try simp only [ZP, ZA, ZC, ZB, ZD, ZE, ZF]
           refine tsP 32 ?_ rfl ?_ ?_
           rotate_left
           ·intro w hSw; (try dsimp only at hSw); go_simp; try with_reducible rfl
           try simp only [ZP, ZA, ZC, ZB, ZD, ZE, ZF]
           refine tsP 33 ?_ rfl ?_ ?_
           rotate_left
           ·intro w hSw; (try dsimp only at hSw); go_simp; try with_reducible rfl
           try simp only [ZP, ZA, ZC, ZB, ZD, ZE, ZF]
           refine tsP 34 ?_ rfl ?_ ?_
           rotate_left
           ·intro w hSw; (try dsimp only at hSw); go_simp; try with_reducible rfl
           try simp only [ZP, ZA, ZC, ZB, ZD, ZE, ZF]
           refine tsP 35 ?_ rfl ?_ ?_
           rotate_left
           ·intro w hSw; (try dsimp only at hSw); go_simp; try with_reducible rfl
           try simp only [ZP, ZA, ZC, ZB, ZD, ZE, ZF]
           refine tsP 36 ?_ rfl ?_ ?_
           rotate_left
           ·intro w hSw; (try dsimp only at hSw); go_simp; try with_reducible rfl
           try simp only [ZP, ZA, ZC, ZB, ZD, ZE, ZF]
           refine tsP 37 ?_ rfl ?_ ?_
           rotate_left
           ·intro w hSw; (try dsimp only at hSw); go_simp; try with_reducible rfl
           try simp only [ZP, ZA, ZC, ZB, ZD, ZE, ZF]
           refine tsP 38 ?_ rfl ?_ ?_
           rotate_left
           ·intro w hSw; (try dsimp only at hSw); go_simp; try with_reducible rfl
           try simp only [ZP, ZA, ZC, ZB, ZD, ZE, ZF]
           refine wpAnyS_done (by kernel_rfl) ?_ _
           go_wp2_with fail
           go_ret
           exact ⟨by rw [← HRS.out, if_neg (by rw [HOK.out, HN1.out]; simp)]; rfl, by first | exact HWA.out | exact HWA.out.drew⟩
          ·have d6 : decide (65535 < psz) = false := decide_eq_false c6
           have HY1 : Hid (okPk (aheadN ps i) ⟨pn, pt, psz, pe, pf, pc⟩ = true) := okPk_iff.2 (by dsimp only; omega)
           refine wp_region_S (fun w' => w'.cell? ⟨X, 0, none⟩ = some (ZI ZQ pn) ∧ w'.cell? ⟨X, 1, none⟩ = some (ZI ZQ pt) ∧ w'.cell? ⟨X, 2, none⟩ = some (ZI ZQ psz)) 1000 (by kernel_rfl) (by exact ⟨y0, y1, y2⟩) (fun hHeld => ?_)
           refine tsP 0 ?_ rfl ?_ ?_
           rotate_left
           ·intro w hSw; (try dsimp only at hSw); go_simp; try with_reducible rfl
           try simp only [ZP, ZA, ZC, ZB, ZD, ZE, ZF]
           refine tsP 1 ?_ rfl ?_ ?_
           rotate_left
           ·intro w hSw; (try dsimp only at hSw); go_simp; try with_reducible rfl
           try simp only [ZP, ZA, ZC, ZB, ZD, ZE, ZF]
           refine tsP 2 ?_ rfl ?_ ?_
           rotate_left
           ·intro w hSw; (try dsimp only at hSw); go_simp; try with_reducible rfl
           try simp only [ZP, ZA, ZC, ZB, ZD, ZE, ZF]
           refine tsP 3 ?_ rfl ?_ ?_
           rotate_left
           ·intro w hSw; (try dsimp only at hSw); go_simp; try with_reducible rfl
           try simp only [ZP, ZA, ZC, ZB, ZD, ZE, ZF]
           refine tsP 4 ?_ rfl ?_ ?_
           rotate_left
           ·intro w hSw; (try dsimp only at hSw); go_simp; try with_reducible rfl
           try simp only [ZP, ZA, ZC, ZB, ZD, ZE, ZF]
           refine tsP 5 ?_ rfl ?_ ?_
           rotate_left
           ·intro w hSw; (try dsimp only at hSw); go_simp; try with_reducible rfl
           try simp only [ZP, ZA, ZC, ZB, ZD, ZE, ZF]
           refine tsP 6 ?_ rfl ?_ ?_
           rotate_left
           ·intro w hSw; (try dsimp only at hSw); go_simp; try with_reducible rfl
           try simp only [ZP, ZA, ZC, ZB, ZD, ZE, ZF]
           refine tsP 7 ?_ rfl ?_ ?_
           rotate_left
           ·intro w hSw; (try dsimp only at hSw); go_simp; try with_reducible rfl
           try simp only [ZP, ZA, ZC, ZB, ZD, ZE, ZF]
           refine tsP 8 ?_ rfl ?_ ?_
           rotate_left
           ·intro w hSw; (try dsimp only at hSw); go_simp; try with_reducible rfl
           try simp only [ZP, ZA, ZC, ZB, ZD, ZE, ZF]
           refine tsP 9 ?_ rfl ?_ ?_
           rotate_left
           ·intro w hSw; (try dsimp only at hSw); go_simp; try with_reducible rfl
           try simp only [ZP, ZA, ZC, ZB, ZD, ZE, ZF]
           refine tsP 10 ?_ rfl ?_ ?_
           rotate_left
           ·intro w hSw; (try dsimp only at hSw); go_simp; try with_reducible rfl
           try simp only [ZP, ZA, ZC, ZB, ZD, ZE, ZF]
           refine tsP 11 ?_ rfl ?_ ?_
           rotate_left
           ·intro w hSw; (try dsimp only at hSw); go_simp; try with_reducible rfl
           try simp only [ZP, ZA, ZC, ZB, ZD, ZE, ZF]
           refine tsU 12 rfl ?_
           try simp only [ZP, ZA, ZC, ZB, ZD, ZE, ZF]
           refine tsU 13 rfl ?_
           try simp only [ZP, ZA, ZC, ZB, ZD, ZE, ZF]
           refine tsU 14 rfl ?_
           try simp only [ZP, ZA, ZC, ZB, ZD, ZE, ZF]
           refine tsU 15 rfl ?_
           try simp only [ZP, ZA, ZC, ZB, ZD, ZE, ZF]
           refine tsU 16 rfl ?_
           try simp only [ZP, ZA, ZC, ZB, ZD, ZE, ZF]
           refine tsU 17 rfl ?_
           try simp only [ZP, ZA, ZC, ZB, ZD, ZE, ZF]
           refine tsU 18 rfl ?_
           try simp only [ZP, ZA, ZC, ZB, ZD, ZE, ZF]
           refine tsU 19 rfl ?_
           try simp only [ZP, ZA, ZC, ZB, ZD, ZE, ZF]
           refine tsU 20 rfl ?_
           try simp only [ZP, ZA, ZC, ZB, ZD, ZE, ZF]
           refine tsP 21 ?_ rfl ?_ ?_
           rotate_left
           ·intro w hSw; (try dsimp only at hSw); go_simp; try with_reducible rfl
           try simp only [ZP, ZA, ZC, ZB, ZD, ZE, ZF]
           refine tsP 22 ?_ rfl ?_ ?_
           rotate_left
           ·intro w hSw; (try dsimp only at hSw); go_simp; try with_reducible rfl
           try simp only [ZP, ZA, ZC, ZB, ZD, ZE, ZF]
           refine tsP 23 ?_ rfl ?_ ?_
           rotate_left
           ·intro w hSw; (try dsimp only at hSw); go_simp; try with_reducible rfl
           try simp only [ZP, ZA, ZC, ZB, ZD, ZE, ZF]
           refine tsP 24 ?_ rfl ?_ ?_
           rotate_left
           ·intro w hSw; (try dsimp only at hSw); go_simp; try with_reducible rfl
           try simp only [ZP, ZA, ZC, ZB, ZD, ZE, ZF]
           refine tsP 25 ?_ rfl ?_ ?_
           rotate_left
           ·intro w hSw; (try dsimp only at hSw); go_simp; try with_reducible rfl
           try simp only [ZP, ZA, ZC, ZB, ZD, ZE, ZF]
           refine wpAnyS_one (i := 26) rfl (by kernel_rfl) (fun K hK => ?_)
           go_simp; go_at_call 128; refine (HIT.out _).mono ?_; rintro z Z1 ⟨rfl, rfl⟩
           refine hK.out _ _ (fun _ => by exact ⟨y0, y1, y2⟩) (fun hH => ?_)
           have hHeld := hH rfl
           clear hK K hH
           try simp only [ZP, ZA, ZC, ZB, ZD, ZE, ZF]
           refine tsP 27 ?_ rfl ?_ ?_
           rotate_left
           ·intro w hSw; (try dsimp only at hSw); go_simp; try with_reducible rfl
           try simp only [ZP, ZA, ZC, ZB, ZD, ZE, ZF]
           refine tsP 28 ?_ rfl ?_ ?_
           rotate_left
           ·intro w hSw; (try dsimp only at hSw); go_simp; try with_reducible rfl
           try simp only [ZP, ZA, ZC, ZB, ZD, ZE, ZF]
           refine tsP 29 ?_ rfl ?_ ?_
           rotate_left
           ·intro w hSw; (try dsimp only at hSw); go_simp; try with_reducible rfl
           try simp only [ZP, ZA, ZC, ZB, ZD, ZE, ZF]
           refine tsP 30 ?_ rfl ?_ ?_
           rotate_left
           ·intro w hSw; (try dsimp only at hSw); go_simp; try with_reducible rfl
           try simp only [ZP, ZA, ZC, ZB, ZD, ZE, ZF]
           refine tsP 31 ?_ rfl ?_ ?_
           rotate_left
           ·intro w hSw; (try dsimp only at hSw); go_simp; try with_reducible rfl
           try simp only [ZP, ZA, ZC, ZB, ZD, ZE, ZF]
           refine tsP 32 ?_ rfl ?_ ?_
           rotate_left
           ·intro w hSw; (try dsimp only at hSw); go_simp; try with_reducible rfl
           try simp only [ZP, ZA, ZC, ZB, ZD, ZE, ZF]
           refine tsP 33 ?_ rfl ?_ ?_
           rotate_left
           ·intro w hSw; (try dsimp only at hSw); go_simp; try with_reducible rfl
           try simp only [ZP, ZA, ZC, ZB, ZD, ZE, ZF]
           refine tsP 34 ?_ rfl ?_ ?_
           rotate_left
           ·intro w hSw; (try dsimp only at hSw); go_simp; try with_reducible rfl
           try simp only [ZP, ZA, ZC, ZB, ZD, ZE, ZF]
           refine tsP 35 ?_ rfl ?_ ?_
           rotate_left
           ·intro w hSw; (try dsimp only at hSw); go_simp; try with_reducible rfl
           try simp only [ZP, ZA, ZC, ZB, ZD, ZE, ZF]
           refine tsP 36 ?_ rfl ?_ ?_
           rotate_left
           ·intro w hSw; (try dsimp only at hSw); go_simp; try with_reducible rfl
           try simp only [ZP, ZA, ZC, ZB, ZD, ZE, ZF]
           refine tsP 37 ?_ rfl ?_ ?_
           rotate_left
           ·intro w hSw; (try dsimp only at hSw); go_simp; try with_reducible rfl
           try simp only [ZP, ZA, ZC, ZB, ZD, ZE, ZF]
           refine tsP 38 ?_ rfl ?_ ?_
           rotate_left
           ·intro w hSw; (try dsimp only at hSw); go_simp; try with_reducible rfl
           try simp only [ZP, ZA, ZC, ZB, ZD, ZE, ZF]
           refine wpAnyS_done (by kernel_rfl) ?_ _
           go_wp2_with fail
           go_roundg (ps.length - (i + 1))
           case rel => exact ⟨i + 1, by go_num, by omega, by omega, by show _ = _; rw [HOK.out, HAN.out, HY1.out]; rfl, by rw [HAN.out]; omega, by first | exact HWA.out | exact HWA.out.drew⟩
           case measure => omega
    ·obtain ⟨q, hq⟩ : ∃ q, ps[i - 1]? = some q := ⟨_, List.getElem?_eq_getElem (by omega)⟩
     have hA1 : aheadN ps i = q.n := by
      obtain ⟨j, rfl⟩ : ∃ j, i = j + 1 := ⟨i - 1, by omega⟩
      show (match ps[j]? with | some q => q.n | none => -1) = _
      rw [show j + 1 - 1 = j by omega] at hq
      rw [hq]
     obtain ⟨xb', xo', ex, _, v0, -⟩ := HPK.out.cells hq
     cases ex
     obtain ⟨qn, hqn⟩ : ∃ qn, q.n = qn := ⟨_, rfl⟩
     rw [hqn] at v0 hA1
     have g0 : decide ((0 : Int) < (i : Int)) = true := decide_eq_true (by omega)
     have g1 : decide (0 < i) = true := decide_eq_true (by omega)
     have w1 : IntKind.i64.wrap ((i : Int) - 1) = ((i - 1 : Nat) : Int) := by rw [IntWalk.i64_in _ ⟨by omega, by omega⟩]; omega
     have g2 : ((i - 1 : Nat) : Int) < (ps.length : Int) := by omega
     have g3 : (0 : Int) ≤ ((i - 1 : Nat) : Int) := by omega
     clear hi0 hq hqn
     as_aux_lemma =>
      by_cases c1 : pn < 0
      ·have HN1 : Hid (okPk (aheadN ps i) ⟨pn, pt, psz, pe, pf, pc⟩ = false) := by show _ = _; rw [Bool.eq_false_iff]; intro h; have h := okPk_iff.1 h; dsimp only at h; omega
       have d1 : decide (pn < 0) = true := decide_eq_true c1
       refine wp_region_S (fun w' => w'.cell? ⟨X, 0, none⟩ = some (ZI ZQ pn) ∧ w'.cell? ⟨X, 1, none⟩ = some (ZI ZQ pt) ∧ w'.cell? ⟨X, 2, none⟩ = some (ZI ZQ psz) ∧ w'.cell? ⟨xb, xo + (i - 1) * 6, none⟩ = some (ZI ZQ qn)) 1000 (by kernel_rfl) (by exact ⟨y0, y1, y2, v0⟩) (fun hHeld => ?_)
       refine tsP 0 ?_ rfl ?_ ?_
       rotate_left
       ·intro w hSw; (try dsimp only at hSw); go_simp; try with_reducible rfl
       try simp only [ZP, ZA, ZC, ZB, ZD, ZE, ZF]
       refine tsP 1 ?_ rfl ?_ ?_
       rotate_left
       ·intro w hSw; (try dsimp only at hSw); go_simp; try with_reducible rfl
       try simp only [ZP, ZA, ZC, ZB, ZD, ZE, ZF]
       refine tsP 2 ?_ rfl ?_ ?_
       rotate_left
       ·intro w hSw; (try dsimp only at hSw); go_simp; try with_reducible rfl
       try simp only [ZP, ZA, ZC, ZB, ZD, ZE, ZF]
       refine tsP 3 ?_ rfl ?_ ?_
       rotate_left
       ·intro w hSw; (try dsimp only at hSw); go_simp; try with_reducible rfl
       try simp only [ZP, ZA, ZC, ZB, ZD, ZE, ZF]
       refine tsU 4 rfl ?_
       try simp only [ZP, ZA, ZC, ZB, ZD, ZE, ZF]
       refine tsU 5 rfl ?_
       try simp only [ZP, ZA, ZC, ZB, ZD, ZE, ZF]
       refine tsU 6 rfl ?_
       try simp only [ZP, ZA, ZC, ZB, ZD, ZE, ZF]
       refine tsP 7 ?_ rfl ?_ ?_
       rotate_left
       ·intro w hSw; (try dsimp only at hSw); go_simp; try with_reducible rfl
       try simp only [ZP, ZA, ZC, ZB, ZD, ZE, ZF]
       refine tsP 8 ?_ rfl ?_ ?_
       rotate_left
       ·intro w hSw; (try dsimp only at hSw); go_simp; try with_reducible rfl
       try simp only [ZP, ZA, ZC, ZB, ZD, ZE, ZF]
       refine tsU 9 rfl ?_
       try simp only [ZP, ZA, ZC, ZB, ZD, ZE, ZF]
       refine tsU 10 rfl ?_
       try simp only [ZP, ZA, ZC, ZB, ZD, ZE, ZF]
       refine tsU 11 rfl ?_
       try simp only [ZP, ZA, ZC, ZB, ZD, ZE, ZF]
       refine tsU 12 rfl ?_
       try simp only [ZP, ZA, ZC, ZB, ZD, ZE, ZF]
       refine tsU 13 rfl ?_
       try simp only [ZP, ZA, ZC, ZB, ZD, ZE, ZF]
       refine tsU 14 rfl ?_
       try simp only [ZP, ZA, ZC, ZB, ZD, ZE, ZF]
       refine tsU 15 rfl ?_
       try simp only [ZP, ZA, ZC, ZB, ZD, ZE, ZF]
       refine tsU 16 rfl ?_
       try simp only [ZP, ZA, ZC, ZB, ZD, ZE, ZF]
       refine tsU 17 rfl ?_
       try simp only [ZP, ZA, ZC, ZB, ZD, ZE, ZF]
       refine tsU 18 rfl ?_
       try simp only [ZP, ZA, ZC, ZB, ZD, ZE, ZF]
       refine tsU 19 rfl ?_
       try simp only [ZP, ZA, ZC, ZB, ZD, ZE, ZF]
       refine tsU 20 rfl ?_
       try simp only [ZP, ZA, ZC, ZB, ZD, ZE, ZF]
       refine tsU 21 rfl ?_
       try simp only [ZP, ZA, ZC, ZB, ZD, ZE, ZF]
       refine tsP 22 ?_ rfl ?_ ?_
       rotate_left
       ·intro w hSw; (try dsimp only at hSw); go_simp; try with_reducible rfl
       try simp only [ZP, ZA, ZC, ZB, ZD, ZE, ZF]
       refine tsP 23 ?_ rfl ?_ ?_
       rotate_left
       ·intro w hSw; (try dsimp only at hSw); go_simp; try with_reducible rfl
       try simp only [ZP, ZA, ZC, ZB, ZD, ZE, ZF]
       refine tsU 24 rfl ?_
       try simp only [ZP, ZA, ZC, ZB, ZD, ZE, ZF]
       refine tsU 25 rfl ?_
       try simp only [ZP, ZA, ZC, ZB, ZD, ZE, ZF]
       refine tsU 26 rfl ?_
       try simp only [ZP, ZA, ZC, ZB, ZD, ZE, ZF]
       refine tsU 27 rfl ?_
       try simp only [ZP, ZA, ZC, ZB, ZD, ZE, ZF]
       refine tsP 28 ?_ rfl ?_ ?_
       rotate_left
       ·intro w hSw; (try dsimp only at hSw); go_simp; try with_reducible rfl
       try simp only [ZP, ZA, ZC, ZB, ZD, ZE, ZF]
       refine tsP 29 ?_ rfl ?_ ?_
       rotate_left
       ·intro w hSw; (try dsimp only at hSw); go_simp; try with_reducible rfl
       try simp only [ZP, ZA, ZC, ZB, ZD, ZE, ZF]
       refine tsU 30 rfl ?_
       try simp only [ZP, ZA, ZC, ZB, ZD, ZE, ZF]
       refine tsU 31 rfl ?_
       try simp only [ZP, ZA, ZC, ZB, ZD, ZE, ZF]
       refine tsU 32 rfl ?_
       try simp only [ZP, ZA, ZC, ZB, ZD, ZE, ZF]
       refine tsP 33 ?_ rfl ?_ ?_
       rotate_left
       ·intro w hSw; (try dsimp only at hSw); go_simp; try with_reducible rfl
       try simp only [ZP, ZA, ZC, ZB, ZD, ZE, ZF]
       refine tsP 34 ?_ rfl ?_ ?_
       rotate_left
       ·intro w hSw; (try dsimp only at hSw); go_simp; try with_reducible rfl
       try simp only [ZP, ZA, ZC, ZB, ZD, ZE, ZF]
       refine tsU 35 rfl ?_
       try simp only [ZP, ZA, ZC, ZB, ZD, ZE, ZF]
       refine tsU 36 rfl ?_
       try simp only [ZP, ZA, ZC, ZB, ZD, ZE, ZF]
       refine tsU 37 rfl ?_
       try simp only [ZP, ZA, ZC, ZB, ZD, ZE, ZF]
       refine tsP 38 ?_ rfl ?_ ?_
       rotate_left
       ·intro w hSw; (try dsimp only at hSw); go_simp; try with_reducible rfl
       try simp only [ZP, ZA, ZC, ZB, ZD, ZE, ZF]
       refine wpAnyS_done (by kernel_rfl) ?_ _
       go_wp2_with fail
       go_ret
       exact ⟨by rw [← HRS.out, if_neg (by rw [HOK.out, HN1.out]; simp)]; rfl, by first | exact HWA.out | exact HWA.out.drew⟩
      ·have d1 : decide (pn < 0) = false := decide_eq_false c1
       by_cases c2 : 9007199254740991 < pn
       ·have HN1 : Hid (okPk (aheadN ps i) ⟨pn, pt, psz, pe, pf, pc⟩ = false) := by show _ = _; rw [Bool.eq_false_iff]; intro h; have h := okPk_iff.1 h; dsimp only at h; omega
        have d2 : decide (9007199254740991 < pn) = true := decide_eq_true c2
        refine wp_region_S (fun w' => w'.cell? ⟨X, 0, none⟩ = some (ZI ZQ pn) ∧ w'.cell? ⟨X, 1, none⟩ = some (ZI ZQ pt) ∧ w'.cell? ⟨X, 2, none⟩ = some (ZI ZQ psz) ∧ w'.cell? ⟨xb, xo + (i - 1) * 6, none⟩ = some (ZI ZQ qn)) 1000 (by kernel_rfl) (by exact ⟨y0, y1, y2, v0⟩) (fun hHeld => ?_)
        refine tsP 0 ?_ rfl ?_ ?_
        rotate_left
        ·intro w hSw; (try dsimp only at hSw); go_simp; try with_reducible rfl
        try simp only [ZP, ZA, ZC, ZB, ZD, ZE, ZF]
        refine tsP 1 ?_ rfl ?_ ?_
        rotate_left
        ·intro w hSw; (try dsimp only at hSw); go_simp; try with_reducible rfl
        try simp only [ZP, ZA, ZC, ZB, ZD, ZE, ZF]
        refine tsP 2 ?_ rfl ?_ ?_
        rotate_left
        ·intro w hSw; (try dsimp only at hSw); go_simp; try with_reducible rfl
        try simp only [ZP, ZA, ZC, ZB, ZD, ZE, ZF]
        refine tsP 3 ?_ rfl ?_ ?_
        rotate_left
        ·intro w hSw; (try dsimp only at hSw); go_simp; try with_reducible rfl
        try simp only [ZP, ZA, ZC, ZB, ZD, ZE, ZF]
        refine tsP 4 ?_ rfl ?_ ?_
        rotate_left
        ·intro w hSw; (try dsimp only at hSw); go_simp; try with_reducible rfl
        try simp only [ZP, ZA, ZC, ZB, ZD, ZE, ZF]
        refine tsP 5 ?_ rfl ?_ ?_
        rotate_left
        ·intro w hSw; (try dsimp only at hSw); go_simp; try with_reducible rfl
        try simp only [ZP, ZA, ZC, ZB, ZD, ZE, ZF]
        refine tsP 6 ?_ rfl ?_ ?_
        rotate_left
        ·intro w hSw; (try dsimp only at hSw); go_simp; try with_reducible rfl
        try simp only [ZP, ZA, ZC, ZB, ZD, ZE, ZF]
        refine tsP 7 ?_ rfl ?_ ?_
        rotate_left
        ·intro w hSw; (try dsimp only at hSw); go_simp; try with_reducible rfl
        try simp only [ZP, ZA, ZC, ZB, ZD, ZE, ZF]
        refine tsP 8 ?_ rfl ?_ ?_
        rotate_left
        ·intro w hSw; (try dsimp only at hSw); go_simp; try with_reducible rfl
        try simp only [ZP, ZA, ZC, ZB, ZD, ZE, ZF]
        refine tsU 9 rfl ?_
        try simp only [ZP, ZA, ZC, ZB, ZD, ZE, ZF]
        refine tsU 10 rfl ?_
        try simp only [ZP, ZA, ZC, ZB, ZD, ZE, ZF]
        refine tsU 11 rfl ?_
        try simp only [ZP, ZA, ZC, ZB, ZD, ZE, ZF]
        refine tsU 12 rfl ?_
        try simp only [ZP, ZA, ZC, ZB, ZD, ZE, ZF]
        refine tsU 13 rfl ?_
        try simp only [ZP, ZA, ZC, ZB, ZD, ZE, ZF]
        refine tsU 14 rfl ?_
        try simp only [ZP, ZA, ZC, ZB, ZD, ZE, ZF]
        refine tsU 15 rfl ?_
        try simp only [ZP, ZA, ZC, ZB, ZD, ZE, ZF]
        refine tsU 16 rfl ?_
        try simp only [ZP, ZA, ZC, ZB, ZD, ZE, ZF]
        refine tsU 17 rfl ?_
        try simp only [ZP, ZA, ZC, ZB, ZD, ZE, ZF]
        refine tsU 18 rfl ?_
        try simp only [ZP, ZA, ZC, ZB, ZD, ZE, ZF]
        refine tsU 19 rfl ?_
        try simp only [ZP, ZA, ZC, ZB, ZD, ZE, ZF]
        refine tsU 20 rfl ?_
        try simp only [ZP, ZA, ZC, ZB, ZD, ZE, ZF]
        refine tsU 21 rfl ?_
        try simp only [ZP, ZA, ZC, ZB, ZD, ZE, ZF]
        refine tsP 22 ?_ rfl ?_ ?_
        rotate_left
        ·intro w hSw; (try dsimp only at hSw); go_simp; try with_reducible rfl
        try simp only [ZP, ZA, ZC, ZB, ZD, ZE, ZF]
        refine tsP 23 ?_ rfl ?_ ?_
        rotate_left
        ·intro w hSw; (try dsimp only at hSw); go_simp; try with_reducible rfl
        try simp only [ZP, ZA, ZC, ZB, ZD, ZE, ZF]
        refine tsU 24 rfl ?_
        try simp only [ZP, ZA, ZC, ZB, ZD, ZE, ZF]
        refine tsU 25 rfl ?_
        try simp only [ZP, ZA, ZC, ZB, ZD, ZE, ZF]
        refine tsU 26 rfl ?_
        try simp only [ZP, ZA, ZC, ZB, ZD, ZE, ZF]
        refine tsU 27 rfl ?_
        try simp only [ZP, ZA, ZC, ZB, ZD, ZE, ZF]
        refine tsP 28 ?_ rfl ?_ ?_
        rotate_left
        ·intro w hSw; (try dsimp only at hSw); go_simp; try with_reducible rfl
        try simp only [ZP, ZA, ZC, ZB, ZD, ZE, ZF]
        refine tsP 29 ?_ rfl ?_ ?_
        rotate_left
        ·intro w hSw; (try dsimp only at hSw); go_simp; try with_reducible rfl
        try simp only [ZP, ZA, ZC, ZB, ZD, ZE, ZF]
        refine tsU 30 rfl ?_
        try simp only [ZP, ZA, ZC, ZB, ZD, ZE, ZF]
        refine tsU 31 rfl ?_
        try simp only [ZP, ZA, ZC, ZB, ZD, ZE, ZF]
        refine tsU 32 rfl ?_
        try simp only [ZP, ZA, ZC, ZB, ZD, ZE, ZF]
        refine tsP 33 ?_ rfl ?_ ?_
        rotate_left
        ·intro w hSw; (try dsimp only at hSw); go_simp; try with_reducible rfl
        try simp only [ZP, ZA, ZC, ZB, ZD, ZE, ZF]
        refine tsP 34 ?_ rfl ?_ ?_
        rotate_left
        ·intro w hSw; (try dsimp only at hSw); go_simp; try with_reducible rfl
        try simp only [ZP, ZA, ZC, ZB, ZD, ZE, ZF]
        refine tsU 35 rfl ?_
        try simp only [ZP, ZA, ZC, ZB, ZD, ZE, ZF]
        refine tsU 36 rfl ?_
        try simp only [ZP, ZA, ZC, ZB, ZD, ZE, ZF]
        refine tsU 37 rfl ?_
        try simp only [ZP, ZA, ZC, ZB, ZD, ZE, ZF]
        refine tsP 38 ?_ rfl ?_ ?_
        rotate_left
        ·intro w hSw; (try dsimp only at hSw); go_simp; try with_reducible rfl
        try simp only [ZP, ZA, ZC, ZB, ZD, ZE, ZF]
        refine wpAnyS_done (by kernel_rfl) ?_ _
        go_wp2_with fail
        go_ret
        exact ⟨by rw [← HRS.out, if_neg (by rw [HOK.out, HN1.out]; simp)]; rfl, by first | exact HWA.out | exact HWA.out.drew⟩
       ·have d2 : decide (9007199254740991 < pn) = false := decide_eq_false c2
        by_cases c3 : pn ≤ qn
        ·have HN1 : Hid (okPk (aheadN ps i) ⟨pn, pt, psz, pe, pf, pc⟩ = false) := by show _ = _; rw [Bool.eq_false_iff]; intro h; have h := okPk_iff.1 h; dsimp only at h; omega
         have d3 : decide (pn ≤ qn) = true := decide_eq_true c3
         refine wp_region_S (fun w' => w'.cell? ⟨X, 0, none⟩ = some (ZI ZQ pn) ∧ w'.cell? ⟨X, 1, none⟩ = some (ZI ZQ pt) ∧ w'.cell? ⟨X, 2, none⟩ = some (ZI ZQ psz) ∧ w'.cell? ⟨xb, xo + (i - 1) * 6, none⟩ = some (ZI ZQ qn)) 1000 (by kernel_rfl) (by exact ⟨y0, y1, y2, v0⟩) (fun hHeld => ?_)
         refine tsP 0 ?_ rfl ?_ ?_
         rotate_left
         ·intro w hSw; (try dsimp only at hSw); go_simp; try with_reducible rfl
         try simp only [ZP, ZA, ZC, ZB, ZD, ZE, ZF]
         refine tsP 1 ?_ rfl ?_ ?_
         rotate_left
         ·intro w hSw; (try dsimp only at hSw); go_simp; try with_reducible rfl
         try simp only [ZP, ZA, ZC, ZB, ZD, ZE, ZF]
         refine tsP 2 ?_ rfl ?_ ?_
         rotate_left
         ·intro w hSw; (try dsimp only at hSw); go_simp; try with_reducible rfl
         try simp only [ZP, ZA, ZC, ZB, ZD, ZE, ZF]
         refine tsP 3 ?_ rfl ?_ ?_
         rotate_left
         ·intro w hSw; (try dsimp only at hSw); go_simp; try with_reducible rfl
         try simp only [ZP, ZA, ZC, ZB, ZD, ZE, ZF]
         refine tsP 4 ?_ rfl ?_ ?_
         rotate_left
         ·intro w hSw; (try dsimp only at hSw); go_simp; try with_reducible rfl
         try simp only [ZP, ZA, ZC, ZB, ZD, ZE, ZF]
         refine tsP 5 ?_ rfl ?_ ?_
         rotate_left
         ·intro w hSw; (try dsimp only at hSw); go_simp; try with_reducible rfl
         try simp only [ZP, ZA, ZC, ZB, ZD, ZE, ZF]
         refine tsP 6 ?_ rfl ?_ ?_
         rotate_left
         ·intro w hSw; (try dsimp only at hSw); go_simp; try with_reducible rfl
         try simp only [ZP, ZA, ZC, ZB, ZD, ZE, ZF]
         refine tsP 7 ?_ rfl ?_ ?_
         rotate_left
         ·intro w hSw; (try dsimp only at hSw); go_simp; try with_reducible rfl
         try simp only [ZP, ZA, ZC, ZB, ZD, ZE, ZF]
         refine tsP 8 ?_ rfl ?_ ?_
         rotate_left
         ·intro w hSw; (try dsimp only at hSw); go_simp; try with_reducible rfl
         try simp only [ZP, ZA, ZC, ZB, ZD, ZE, ZF]
         refine tsP 9 ?_ rfl ?_ ?_
         rotate_left
         ·intro w hSw; (try dsimp only at hSw); go_simp; try with_reducible rfl
         try simp only [ZP, ZA, ZC, ZB, ZD, ZE, ZF]
         refine tsP 10 ?_ rfl ?_ ?_
         rotate_left
         ·intro w hSw; (try dsimp only at hSw); go_simp; try with_reducible rfl
         try simp only [ZP, ZA, ZC, ZB, ZD, ZE, ZF]
         refine tsP 11 ?_ rfl ?_ ?_
         rotate_left
         ·intro w hSw; (try dsimp only at hSw); go_simp; try with_reducible rfl
         try simp only [ZP, ZA, ZC, ZB, ZD, ZE, ZF]
         refine tsP 12 ?_ rfl ?_ ?_
         rotate_left
         ·intro w hSw; (try dsimp only at hSw); go_simp; try with_reducible rfl
         try simp only [ZP, ZA, ZC, ZB, ZD, ZE, ZF]
         refine tsP 13 ?_ rfl ?_ ?_
         rotate_left
         ·intro w hSw; (try dsimp only at hSw); go_simp; try with_reducible rfl
         try simp only [ZP, ZA, ZC, ZB, ZD, ZE, ZF]
         refine tsP 14 ?_ rfl ?_ ?_
         rotate_left
         ·intro w hSw; (try dsimp only at hSw); go_simp; try with_reducible rfl
         try simp only [ZP, ZA, ZC, ZB, ZD, ZE, ZF]
         refine tsP 15 ?_ rfl ?_ ?_
         rotate_left
         ·intro w hSw; (try dsimp only at hSw); go_simp; try with_reducible rfl
         try simp only [ZP, ZA, ZC, ZB, ZD, ZE, ZF]
         refine tsP 16 ?_ rfl ?_ ?_
         rotate_left
         ·intro w hSw; (try dsimp only at hSw); go_simp; try with_reducible rfl
         try simp only [ZP, ZA, ZC, ZB, ZD, ZE, ZF]
         refine tsP 17 ?_ rfl ?_ ?_
         rotate_left
         ·intro w hSw; (try dsimp only at hSw); go_simp; try with_reducible rfl
         try simp only [ZP, ZA, ZC, ZB, ZD, ZE, ZF]
         refine tsP 18 ?_ rfl ?_ ?_
         rotate_left
         ·intro w hSw; (try dsimp only at hSw); go_simp; try with_reducible rfl
         try simp only [ZP, ZA, ZC, ZB, ZD, ZE, ZF]
         refine tsP 19 ?_ rfl ?_ ?_
         rotate_left
         ·intro w hSw; (try dsimp only at hSw); go_simp; try with_reducible rfl
         try simp only [ZP, ZA, ZC, ZB, ZD, ZE, ZF]
         refine tsP 20 ?_ rfl ?_ ?_
         rotate_left
         ·intro w hSw; (try dsimp only at hSw); go_simp; try with_reducible rfl
         try simp only [ZP, ZA, ZC, ZB, ZD, ZE, ZF]
         refine tsP 21 ?_ rfl ?_ ?_
         rotate_left
         ·intro w hSw; (try dsimp only at hSw); go_simp; try with_reducible rfl
         try simp only [ZP, ZA, ZC, ZB, ZD, ZE, ZF]
         refine tsP 22 ?_ rfl ?_ ?_
         rotate_left
         ·intro w hSw; (try dsimp only at hSw); go_simp; try with_reducible rfl
         try simp only [ZP, ZA, ZC, ZB, ZD, ZE, ZF]
         refine tsP 23 ?_ rfl ?_ ?_
         rotate_left
         ·intro w hSw; (try dsimp only at hSw); go_simp; try with_reducible rfl
         try simp only [ZP, ZA, ZC, ZB, ZD, ZE, ZF]
         refine tsU 24 rfl ?_
         try simp only [ZP, ZA, ZC, ZB, ZD, ZE, ZF]
         refine tsU 25 rfl ?_
         try simp only [ZP, ZA, ZC, ZB, ZD, ZE, ZF]
         refine tsU 26 rfl ?_
         try simp only [ZP, ZA, ZC, ZB, ZD, ZE, ZF]
         refine tsU 27 rfl ?_
         try simp only [ZP, ZA, ZC, ZB, ZD, ZE, ZF]
         refine tsP 28 ?_ rfl ?_ ?_
         rotate_left
         ·intro w hSw; (try dsimp only at hSw); go_simp; try with_reducible rfl
         try simp only [ZP, ZA, ZC, ZB, ZD, ZE, ZF]
         refine tsP 29 ?_ rfl ?_ ?_
         rotate_left
         ·intro w hSw; (try dsimp only at hSw); go_simp; try with_reducible rfl
         try simp only [ZP, ZA, ZC, ZB, ZD, ZE, ZF]
         refine tsU 30 rfl ?_
         try simp only [ZP, ZA, ZC, ZB, ZD, ZE, ZF]
         refine tsU 31 rfl ?_
         try simp only [ZP, ZA, ZC, ZB, ZD, ZE, ZF]
         refine tsU 32 rfl ?_
         try simp only [ZP, ZA, ZC, ZB, ZD, ZE, ZF]
         refine tsP 33 ?_ rfl ?_ ?_
         rotate_left
         ·intro w hSw; (try dsimp only at hSw); go_simp; try with_reducible rfl
         try simp only [ZP, ZA, ZC, ZB, ZD, ZE, ZF]
         refine tsP 34 ?_ rfl ?_ ?_
         rotate_left
         ·intro w hSw; (try dsimp only at hSw); go_simp; try with_reducible rfl
         try simp only [ZP, ZA, ZC, ZB, ZD, ZE, ZF]
         refine tsU 35 rfl ?_
         try simp only [ZP, ZA, ZC, ZB, ZD, ZE, ZF]
         refine tsU 36 rfl ?_
         try simp only [ZP, ZA, ZC, ZB, ZD, ZE, ZF]
         refine tsU 37 rfl ?_
         try simp only [ZP, ZA, ZC, ZB, ZD, ZE, ZF]
         refine tsP 38 ?_ rfl ?_ ?_
         rotate_left
         ·intro w hSw; (try dsimp only at hSw); go_simp; try with_reducible rfl
         try simp only [ZP, ZA, ZC, ZB, ZD, ZE, ZF]
         refine wpAnyS_done (by kernel_rfl) ?_ _
         go_wp2_with fail
         go_ret
         exact ⟨by rw [← HRS.out, if_neg (by rw [HOK.out, HN1.out]; simp)]; rfl, by first | exact HWA.out | exact HWA.out.drew⟩
        ·have d3 : decide (pn ≤ qn) = false := decide_eq_false c3
         cases ht : isT pt with
         | false =>
          have HN1 : Hid (okPk (aheadN ps i) ⟨pn, pt, psz, pe, pf, pc⟩ = false) := by show _ = _; rw [Bool.eq_false_iff]; intro h; have h := okPk_iff.1 h; dsimp only at h; (unfold isT at ht; rw [decide_eq_true h.2.2.1, decide_eq_true h.2.2.2.1] at ht; cases ht)
          rw [ht] at HIT
          clear ht
          refine wp_region_S (fun w' => w'.cell? ⟨X, 0, none⟩ = some (ZI ZQ pn) ∧ w'.cell? ⟨X, 1, none⟩ = some (ZI ZQ pt) ∧ w'.cell? ⟨X, 2, none⟩ = some (ZI ZQ psz) ∧ w'.cell? ⟨xb, xo + (i - 1) * 6, none⟩ = some (ZI ZQ qn)) 1000 (by kernel_rfl) (by exact ⟨y0, y1, y2, v0⟩) (fun hHeld => ?_)
          refine tsP 0 ?_ rfl ?_ ?_
          rotate_left
          ·intro w hSw; (try dsimp only at hSw); go_simp; try with_reducible rfl
          try simp only [ZP, ZA, ZC, ZB, ZD, ZE, ZF]
          refine tsP 1 ?_ rfl ?_ ?_
          rotate_left
          ·intro w hSw; (try dsimp only at hSw); go_simp; try with_reducible rfl
          try simp only [ZP, ZA, ZC, ZB, ZD, ZE, ZF]
          refine tsP 2 ?_ rfl ?_ ?_
          rotate_left
          ·intro w hSw; (try dsimp only at hSw); go_simp; try with_reducible rfl
          try simp only [ZP, ZA, ZC, ZB, ZD, ZE, ZF]
          refine tsP 3 ?_ rfl ?_ ?_
          rotate_left
          ·intro w hSw; (try dsimp only at hSw); go_simp; try with_reducible rfl
          try simp only [ZP, ZA, ZC, ZB, ZD, ZE, ZF]
          refine tsP 4 ?_ rfl ?_ ?_
          rotate_left
          ·intro w hSw; (try dsimp only at hSw); go_simp; try with_reducible rfl
          try simp only [ZP, ZA, ZC, ZB, ZD, ZE, ZF]
          refine tsP 5 ?_ rfl ?_ ?_
          rotate_left
          ·intro w hSw; (try dsimp only at hSw); go_simp; try with_reducible rfl
          try simp only [ZP, ZA, ZC, ZB, ZD, ZE, ZF]
          refine tsP 6 ?_ rfl ?_ ?_
          rotate_left
          ·intro w hSw; (try dsimp only at hSw); go_simp; try with_reducible rfl
          try simp only [ZP, ZA, ZC, ZB, ZD, ZE, ZF]
          refine tsP 7 ?_ rfl ?_ ?_
          rotate_left
          ·intro w hSw; (try dsimp only at hSw); go_simp; try with_reducible rfl
          try simp only [ZP, ZA, ZC, ZB, ZD, ZE, ZF]
          refine tsP 8 ?_ rfl ?_ ?_
          rotate_left
          ·intro w hSw; (try dsimp only at hSw); go_simp; try with_reducible rfl
          try simp only [ZP, ZA, ZC, ZB, ZD, ZE, ZF]
          refine tsP 9 ?_ rfl ?_ ?_
          rotate_left
          ·intro w hSw; (try dsimp only at hSw); go_simp; try with_reducible rfl
          try simp only [ZP, ZA, ZC, ZB, ZD, ZE, ZF]
          refine tsP 10 ?_ rfl ?_ ?_
          rotate_left
          ·intro w hSw; (try dsimp only at hSw); go_simp; try with_reducible rfl
          try simp only [ZP, ZA, ZC, ZB, ZD, ZE, ZF]
          refine tsP 11 ?_ rfl ?_ ?_
          rotate_left
          ·intro w hSw; (try dsimp only at hSw); go_simp; try with_reducible rfl
          try simp only [ZP, ZA, ZC, ZB, ZD, ZE, ZF]
          refine tsP 12 ?_ rfl ?_ ?_
          rotate_left
          ·intro w hSw; (try dsimp only at hSw); go_simp; try with_reducible rfl
          try simp only [ZP, ZA, ZC, ZB, ZD, ZE, ZF]
          refine tsP 13 ?_ rfl ?_ ?_
          rotate_left
          ·intro w hSw; (try dsimp only at hSw); go_simp; try with_reducible rfl
          try simp only [ZP, ZA, ZC, ZB, ZD, ZE, ZF]
          refine tsP 14 ?_ rfl ?_ ?_
          rotate_left
          ·intro w hSw; (try dsimp only at hSw); go_simp; try with_reducible rfl
          try simp only [ZP, ZA, ZC, ZB, ZD, ZE, ZF]
          refine tsP 15 ?_ rfl ?_ ?_
          rotate_left
          ·intro w hSw; (try dsimp only at hSw); go_simp; try with_reducible rfl
          try simp only [ZP, ZA, ZC, ZB, ZD, ZE, ZF]
          refine tsP 16 ?_ rfl ?_ ?_
          rotate_left
          ·intro w hSw; (try dsimp only at hSw); go_simp; try with_reducible rfl
          try simp only [ZP, ZA, ZC, ZB, ZD, ZE, ZF]
          refine tsP 17 ?_ rfl ?_ ?_
          rotate_left
          ·intro w hSw; (try dsimp only at hSw); go_simp; try with_reducible rfl
          try simp only [ZP, ZA, ZC, ZB, ZD, ZE, ZF]
          refine tsP 18 ?_ rfl ?_ ?_
          rotate_left
          ·intro w hSw; (try dsimp only at hSw); go_simp; try with_reducible rfl
          try simp only [ZP, ZA, ZC, ZB, ZD, ZE, ZF]
          refine tsP 19 ?_ rfl ?_ ?_
          rotate_left
          ·intro w hSw; (try dsimp only at hSw); go_simp; try with_reducible rfl
          try simp only [ZP, ZA, ZC, ZB, ZD, ZE, ZF]
          refine tsP 20 ?_ rfl ?_ ?_
          rotate_left
          ·intro w hSw; (try dsimp only at hSw); go_simp; try with_reducible rfl
          try simp only [ZP, ZA, ZC, ZB, ZD, ZE, ZF]
          refine tsP 21 ?_ rfl ?_ ?_
          rotate_left
          ·intro w hSw; (try dsimp only at hSw); go_simp; try with_reducible rfl
          try simp only [ZP, ZA, ZC, ZB, ZD, ZE, ZF]
          refine tsP 22 ?_ rfl ?_ ?_
          rotate_left
          ·intro w hSw; (try dsimp only at hSw); go_simp; try with_reducible rfl
          try simp only [ZP, ZA, ZC, ZB, ZD, ZE, ZF]
          refine tsP 23 ?_ rfl ?_ ?_
          rotate_left
          ·intro w hSw; (try dsimp only at hSw); go_simp; try with_reducible rfl
          try simp only [ZP, ZA, ZC, ZB, ZD, ZE, ZF]
          refine tsP 24 ?_ rfl ?_ ?_
          rotate_left
          ·intro w hSw; (try dsimp only at hSw); go_simp; try with_reducible rfl
          try simp only [ZP, ZA, ZC, ZB, ZD, ZE, ZF]
          refine tsP 25 ?_ rfl ?_ ?_
          rotate_left
          ·intro w hSw; (try dsimp only at hSw); go_simp; try with_reducible rfl
          try simp only [ZP, ZA, ZC, ZB, ZD, ZE, ZF]
          refine wpAnyS_one (i := 26) rfl (by kernel_rfl) (fun K hK => ?_)
          go_simp; go_at_call 128; refine (HIT.out _).mono ?_; rintro z Z1 ⟨rfl, rfl⟩
          refine hK.out _ _ (fun _ => by exact ⟨y0, y1, y2, v0⟩) (fun hH => ?_)
          have hHeld := hH rfl
          clear hK K hH
          try simp only [ZP, ZA, ZC, ZB, ZD, ZE, ZF]
          refine tsP 27 ?_ rfl ?_ ?_
          rotate_left
          ·intro w hSw; (try dsimp only at hSw); go_simp; try with_reducible rfl
          try simp only [ZP, ZA, ZC, ZB, ZD, ZE, ZF]
          refine tsP 28 ?_ rfl ?_ ?_
          rotate_left
          ·intro w hSw; (try dsimp only at hSw); go_simp; try with_reducible rfl
          try simp only [ZP, ZA, ZC, ZB, ZD, ZE, ZF]
          refine tsP 29 ?_ rfl ?_ ?_
          rotate_left
          ·intro w hSw; (try dsimp only at hSw); go_simp; try with_reducible rfl
          try simp only [ZP, ZA, ZC, ZB, ZD, ZE, ZF]
          refine tsU 30 rfl ?_
          try simp only [ZP, ZA, ZC, ZB, ZD, ZE, ZF]
          refine tsU 31 rfl ?_
          try simp only [ZP, ZA, ZC, ZB, ZD, ZE, ZF]
          refine tsU 32 rfl ?_
          try simp only [ZP, ZA, ZC, ZB, ZD, ZE, ZF]
          refine tsP 33 ?_ rfl ?_ ?_
          rotate_left
          ·intro w hSw; (try dsimp only at hSw); go_simp; try with_reducible rfl
          try simp only [ZP, ZA, ZC, ZB, ZD, ZE, ZF]
          refine tsP 34 ?_ rfl ?_ ?_
          rotate_left
          ·intro w hSw; (try dsimp only at hSw); go_simp; try with_reducible rfl
          try simp only [ZP, ZA, ZC, ZB, ZD, ZE, ZF]
          refine tsU 35 rfl ?_
          try simp only [ZP, ZA, ZC, ZB, ZD, ZE, ZF]
          refine tsU 36 rfl ?_
          try simp only [ZP, ZA, ZC, ZB, ZD, ZE, ZF]
          refine tsU 37 rfl ?_
          try simp only [ZP, ZA, ZC, ZB, ZD, ZE, ZF]
          refine tsP 38 ?_ rfl ?_ ?_
          rotate_left
          ·intro w hSw; (try dsimp only at hSw); go_simp; try with_reducible rfl
          try simp only [ZP, ZA, ZC, ZB, ZD, ZE, ZF]
          refine wpAnyS_done (by kernel_rfl) ?_ _
          go_wp2_with fail
          go_ret
          exact ⟨by rw [← HRS.out, if_neg (by rw [HOK.out, HN1.out]; simp)]; rfl, by first | exact HWA.out | exact HWA.out.drew⟩
         | true =>
          have hpt : 0 ≤ pt ∧ pt ≤ 9007199254740991 := by unfold isT at ht; simpa using ht
          rw [ht] at HIT
          clear ht
          by_cases c5 : psz < 1
          ·have HN1 : Hid (okPk (aheadN ps i) ⟨pn, pt, psz, pe, pf, pc⟩ = false) := by show _ = _; rw [Bool.eq_false_iff]; intro h; have h := okPk_iff.1 h; dsimp only at h; omega
           have d5 : decide (psz < 1) = true := decide_eq_true c5
           refine wp_region_S (fun w' => w'.cell? ⟨X, 0, none⟩ = some (ZI ZQ pn) ∧ w'.cell? ⟨X, 1, none⟩ = some (ZI ZQ pt) ∧ w'.cell? ⟨X, 2, none⟩ = some (ZI ZQ psz) ∧ w'.cell? ⟨xb, xo + (i - 1) * 6, none⟩ = some (ZI ZQ qn)) 1000 (by kernel_rfl) (by exact ⟨y0, y1, y2, v0⟩) (fun hHeld => ?_)
           refine tsP 0 ?_ rfl ?_ ?_
           rotate_left
           ·intro w hSw; (try dsimp only at hSw); go_simp; try with_reducible rfl
           try simp only [ZP, ZA, ZC, ZB, ZD, ZE, ZF]
           refine tsP 1 ?_ rfl ?_ ?_
           rotate_left
           ·intro w hSw; (try dsimp only at hSw); go_simp; try with_reducible rfl
           try simp only [ZP, ZA, ZC, ZB, ZD, ZE, ZF]
           refine tsP 2 ?_ rfl ?_ ?_
           rotate_left
           ·intro w hSw; (try dsimp only at hSw); go_simp; try with_reducible rfl
           try simp only [ZP, ZA, ZC, ZB, ZD, ZE, ZF]
           refine tsP 3 ?_ rfl ?_ ?_
           rotate_left
           ·intro w hSw; (try dsimp only at hSw); go_simp; try with_reducible rfl
           try simp only [ZP, ZA, ZC, ZB, ZD, ZE, ZF]
           refine tsP 4 ?_ rfl ?_ ?_
           rotate_left
           ·intro w hSw; (try dsimp only at hSw); go_simp; try with_reducible rfl
           try simp only [ZP, ZA, ZC, ZB, ZD, ZE, ZF]
           refine tsP 5 ?_ rfl ?_ ?_
           rotate_left
           ·intro w hSw; (try dsimp only at hSw); go_simp; try with_reducible rfl
           try simp only [ZP, ZA, ZC, ZB, ZD, ZE, ZF]
           refine tsP 6 ?_ rfl ?_ ?_
           rotate_left
           ·intro w hSw; (try dsimp only at hSw); go_simp; try with_reducible rfl
           try simp only [ZP, ZA, ZC, ZB, ZD, ZE, ZF]
           refine tsP 7 ?_ rfl ?_ ?_
           rotate_left
           ·intro w hSw; (try dsimp only at hSw); go_simp; try with_reducible rfl
           try simp only [ZP, ZA, ZC, ZB, ZD, ZE, ZF]
           refine tsP 8 ?_ rfl ?_ ?_
           rotate_left
           ·intro w hSw; (try dsimp only at hSw); go_simp; try with_reducible rfl
           try simp only [ZP, ZA, ZC, ZB, ZD, ZE, ZF]
           refine tsP 9 ?_ rfl ?_ ?_
           rotate_left
           ·intro w hSw; (try dsimp only at hSw); go_simp; try with_reducible rfl
           try simp only [ZP, ZA, ZC, ZB, ZD, ZE, ZF]
           refine tsP 10 ?_ rfl ?_ ?_
           rotate_left
           ·intro w hSw; (try dsimp only at hSw); go_simp; try with_reducible rfl
           try simp only [ZP, ZA, ZC, ZB, ZD, ZE, ZF]
           refine tsP 11 ?_ rfl ?_ ?_
           rotate_left
           ·intro w hSw; (try dsimp only at hSw); go_simp; try with_reducible rfl
           try simp only [ZP, ZA, ZC, ZB, ZD, ZE, ZF]
           refine tsP 12 ?_ rfl ?_ ?_
           rotate_left
           ·intro w hSw; (try dsimp only at hSw); go_simp; try with_reducible rfl
           try simp only [ZP, ZA, ZC, ZB, ZD, ZE, ZF]
           refine tsP 13 ?_ rfl ?_ ?_
           rotate_left
           ·intro w hSw; (try dsimp only at hSw); go_simp; try with_reducible rfl
           try simp only [ZP, ZA, ZC, ZB, ZD, ZE, ZF]
           refine tsP 14 ?_ rfl ?_ ?_
           rotate_left
           ·intro w hSw; (try dsimp only at hSw); go_simp; try with_reducible rfl
           try simp only [ZP, ZA, ZC, ZB, ZD, ZE, ZF]
           refine tsP 15 ?_ rfl ?_ ?_
           rotate_left
           ·intro w hSw; (try dsimp only at hSw); go_simp; try with_reducible rfl
           try simp only [ZP, ZA, ZC, ZB, ZD, ZE, ZF]
           refine tsP 16 ?_ rfl ?_ ?_
           rotate_left
           ·intro w hSw; (try dsimp only at hSw); go_simp; try with_reducible rfl
           try simp only [ZP, ZA, ZC, ZB, ZD, ZE, ZF]
           refine tsP 17 ?_ rfl ?_ ?_
           rotate_left
           ·intro w hSw; (try dsimp only at hSw); go_simp; try with_reducible rfl
           try simp only [ZP, ZA, ZC, ZB, ZD, ZE, ZF]
           refine tsP 18 ?_ rfl ?_ ?_
           rotate_left
           ·intro w hSw; (try dsimp only at hSw); go_simp; try with_reducible rfl
           try simp only [ZP, ZA, ZC, ZB, ZD, ZE, ZF]
           refine tsP 19 ?_ rfl ?_ ?_
           rotate_left
           ·intro w hSw; (try dsimp only at hSw); go_simp; try with_reducible rfl
           try simp only [ZP, ZA, ZC, ZB, ZD, ZE, ZF]
           refine tsP 20 ?_ rfl ?_ ?_
           rotate_left
           ·intro w hSw; (try dsimp only at hSw); go_simp; try with_reducible rfl
           try simp only [ZP, ZA, ZC, ZB, ZD, ZE, ZF]
           refine tsP 21 ?_ rfl ?_ ?_
           rotate_left
           ·intro w hSw; (try dsimp only at hSw); go_simp; try with_reducible rfl
           try simp only [ZP, ZA, ZC, ZB, ZD, ZE, ZF]
           refine tsP 22 ?_ rfl ?_ ?_
           rotate_left
           ·intro w hSw; (try dsimp only at hSw); go_simp; try with_reducible rfl
           try simp only [ZP, ZA, ZC, ZB, ZD, ZE, ZF]
           refine tsP 23 ?_ rfl ?_ ?_
           rotate_left
           ·intro w hSw; (try dsimp only at hSw); go_simp; try with_reducible rfl
           try simp only [ZP, ZA, ZC, ZB, ZD, ZE, ZF]
           refine tsP 24 ?_ rfl ?_ ?_
           rotate_left
           ·intro w hSw; (try dsimp only at hSw); go_simp; try with_reducible rfl
           try simp only [ZP, ZA, ZC, ZB, ZD, ZE, ZF]
           refine tsP 25 ?_ rfl ?_ ?_
           rotate_left
           ·intro w hSw; (try dsimp only at hSw); go_simp; try with_reducible rfl
           try simp only [ZP, ZA, ZC, ZB, ZD, ZE, ZF]
           refine wpAnyS_one (i := 26) rfl (by kernel_rfl) (fun K hK => ?_)
           go_simp; go_at_call 128; refine (HIT.out _).mono ?_; rintro z Z1 ⟨rfl, rfl⟩
           refine hK.out _ _ (fun _ => by exact ⟨y0, y1, y2, v0⟩) (fun hH => ?_)
           have hHeld := hH rfl
           clear hK K hH
           try simp only [ZP, ZA, ZC, ZB, ZD, ZE, ZF]
           refine tsP 27 ?_ rfl ?_ ?_
           rotate_left
           ·intro w hSw; (try dsimp only at hSw); go_simp; try with_reducible rfl
           try simp only [ZP, ZA, ZC, ZB, ZD, ZE, ZF]
           refine tsP 28 ?_ rfl ?_ ?_
           rotate_left
           ·intro w hSw; (try dsimp only at hSw); go_simp; try with_reducible rfl
           try simp only [ZP, ZA, ZC, ZB, ZD, ZE, ZF]
           refine tsP 29 ?_ rfl ?_ ?_
           rotate_left
           ·intro w hSw; (try dsimp only at hSw); go_simp; try with_reducible rfl
           try simp only [ZP, ZA, ZC, ZB, ZD, ZE, ZF]
           refine tsP 30 ?_ rfl ?_ ?_
           rotate_left
           ·intro w hSw; (try dsimp only at hSw); go_simp; try with_reducible rfl
           try simp only [ZP, ZA, ZC, ZB, ZD, ZE, ZF]
           refine tsP 31 ?_ rfl ?_ ?_
           rotate_left
           ·intro w hSw; (try dsimp only at hSw); go_simp; try with_reducible rfl
           try simp only [ZP, ZA, ZC, ZB, ZD, ZE, ZF]
           refine tsP 32 ?_ rfl ?_ ?_
           rotate_left
           ·intro w hSw; (try dsimp only at hSw); go_simp; try with_reducible rfl
           try simp only [ZP, ZA, ZC, ZB, ZD, ZE, ZF]
           refine tsP 33 ?_ rfl ?_ ?_
           rotate_left
           ·intro w hSw; (try dsimp only at hSw); go_simp; try with_reducible rfl
           try simp only [ZP, ZA, ZC, ZB, ZD, ZE, ZF]
           refine tsP 34 ?_ rfl ?_ ?_
           rotate_left
           ·intro w hSw; (try dsimp only at hSw); go_simp; try with_reducible rfl
           try simp only [ZP, ZA, ZC, ZB, ZD, ZE, ZF]
           refine tsU 35 rfl ?_
           try simp only [ZP, ZA, ZC, ZB, ZD, ZE, ZF]
           refine tsU 36 rfl ?_
           try simp only [ZP, ZA, ZC, ZB, ZD, ZE, ZF]
           refine tsU 37 rfl ?_
           try simp only [ZP, ZA, ZC, ZB, ZD, ZE, ZF]
           refine tsP 38 ?_ rfl ?_ ?_
           rotate_left
           ·intro w hSw; (try dsimp only at hSw); go_simp; try with_reducible rfl
           try simp only [ZP, ZA, ZC, ZB, ZD, ZE, ZF]
           refine wpAnyS_done (by kernel_rfl) ?_ _
           go_wp2_with fail
           go_ret
           exact ⟨by rw [← HRS.out, if_neg (by rw [HOK.out, HN1.out]; simp)]; rfl, by first | exact HWA.out | exact HWA.out.drew⟩
          ·have d5 : decide (psz < 1) = false := decide_eq_false c5
           by_cases c6 : 65535 < psz
           ·have HN1 : Hid (okPk (aheadN ps i) ⟨pn, pt, psz, pe, pf, pc⟩ = false) := by show _ = _; rw [Bool.eq_false_iff]; intro h; have h := okPk_iff.1 h; dsimp only at h; omega
            have d6 : decide (65535 < psz) = true := decide_eq_true c6
            refine wp_region_S (fun w' => w'.cell? ⟨X, 0, none⟩ = some (ZI ZQ pn) ∧ w'.cell? ⟨X, 1, none⟩ = some (ZI ZQ pt) ∧ w'.cell? ⟨X, 2, none⟩ = some (ZI ZQ psz) ∧ w'.cell? ⟨xb, xo + (i - 1) * 6, none⟩ = some (ZI ZQ qn)) 1000 (by kernel_rfl) (by exact ⟨y0, y1, y2, v0⟩) (fun hHeld => ?_)
            refine tsP 0 ?_ rfl ?_ ?_
            rotate_left
            ·intro w hSw; (try dsimp only at hSw); go_simp; try with_reducible rfl
            try simp only [ZP, ZA, ZC, ZB, ZD, ZE, ZF]
            refine tsP 1 ?_ rfl ?_ ?_
            rotate_left
            ·intro w hSw; (try dsimp only at hSw); go_simp; try with_reducible rfl
            try simp only [ZP, ZA, ZC, ZB, ZD, ZE, ZF]
            refine tsP 2 ?_ rfl ?_ ?_
            rotate_left
            ·intro w hSw; (try dsimp only at hSw); go_simp; try with_reducible rfl
            try simp only [ZP, ZA, ZC, ZB, ZD, ZE, ZF]
            refine tsP 3 ?_ rfl ?_ ?_
            rotate_left
            ·intro w hSw; (try dsimp only at hSw); go_simp; try with_reducible rfl
            try simp only [ZP, ZA, ZC, ZB, ZD, ZE, ZF]
            refine tsP 4 ?_ rfl ?_ ?_
            rotate_left
            ·intro w hSw; (try dsimp only at hSw); go_simp; try with_reducible rfl
            try simp only [ZP, ZA, ZC, ZB, ZD, ZE, ZF]
            refine tsP 5 ?_ rfl ?_ ?_
            rotate_left
            ·intro w hSw; (try dsimp only at hSw); go_simp; try with_reducible rfl
            try simp only [ZP, ZA, ZC, ZB, ZD, ZE, ZF]
            refine tsP 6 ?_ rfl ?_ ?_
            rotate_left
            ·intro w hSw; (try dsimp only at hSw); go_simp; try with_reducible rfl
            try simp only [ZP, ZA, ZC, ZB, ZD, ZE, ZF]
            refine tsP 7 ?_ rfl ?_ ?_
            rotate_left
            ·intro w hSw; (try dsimp only at hSw); go_simp; try with_reducible rfl
            try simp only [ZP, ZA, ZC, ZB, ZD, ZE, ZF]
            refine tsP 8 ?_ rfl ?_ ?_
            rotate_left
            ·intro w hSw; (try dsimp only at hSw); go_simp; try with_reducible rfl
            try simp only [ZP, ZA, ZC, ZB, ZD, ZE, ZF]
            refine tsP 9 ?_ rfl ?_ ?_
            rotate_left
            ·intro w hSw; (try dsimp only at hSw); go_simp; try with_reducible rfl
            try simp only [ZP, ZA, ZC, ZB, ZD, ZE, ZF]
            refine tsP 10 ?_ rfl ?_ ?_
            rotate_left
            ·intro w hSw; (try dsimp only at hSw); go_simp; try with_reducible rfl
            try simp only [ZP, ZA, ZC, ZB, ZD, ZE, ZF]
            refine tsP 11 ?_ rfl ?_ ?_
            rotate_left
            ·intro w hSw; (try dsimp only at hSw); go_simp; try with_reducible rfl
            try simp only [ZP, ZA, ZC, ZB, ZD, ZE, ZF]
            refine tsP 12 ?_ rfl ?_ ?_
            rotate_left
            ·intro w hSw; (try dsimp only at hSw); go_simp; try with_reducible rfl
            try simp only [ZP, ZA, ZC, ZB, ZD, ZE, ZF]
            refine tsP 13 ?_ rfl ?_ ?_
            rotate_left
            ·intro w hSw; (try dsimp only at hSw); go_simp; try with_reducible rfl
            try simp only [ZP, ZA, ZC, ZB, ZD, ZE, ZF]
            refine tsP 14 ?_ rfl ?_ ?_
            rotate_left
            ·intro w hSw; (try dsimp only at hSw); go_simp; try with_reducible rfl
            try simp only [ZP, ZA, ZC, ZB, ZD, ZE, ZF]
            refine tsP 15 ?_ rfl ?_ ?_
            rotate_left
            ·intro w hSw; (try dsimp only at hSw); go_simp; try with_reducible rfl
            try simp only [ZP, ZA, ZC, ZB, ZD, ZE, ZF]
            refine tsP 16 ?_ rfl ?_ ?_
            rotate_left
            ·intro w hSw; (try dsimp only at hSw); go_simp; try with_reducible rfl
            try simp only [ZP, ZA, ZC, ZB, ZD, ZE, ZF]
            refine tsP 17 ?_ rfl ?_ ?_
            rotate_left
            ·intro w hSw; (try dsimp only at hSw); go_simp; try with_reducible rfl
            try simp only [ZP, ZA, ZC, ZB, ZD, ZE, ZF]
            refine tsP 18 ?_ rfl ?_ ?_
            rotate_left
            ·intro w hSw; (try dsimp only at hSw); go_simp; try with_reducible rfl
            try simp only [ZP, ZA, ZC, ZB, ZD, ZE, ZF]
            refine tsP 19 ?_ rfl ?_ ?_
            rotate_left
            ·intro w hSw; (try dsimp only at hSw); go_simp; try with_reducible rfl
            try simp only [ZP, ZA, ZC, ZB, ZD, ZE, ZF]
            refine tsP 20 ?_ rfl ?_ ?_
            rotate_left
            ·intro w hSw; (try dsimp only at hSw); go_simp; try with_reducible rfl
            try simp only [ZP, ZA, ZC, ZB, ZD, ZE, ZF]
            refine tsP 21 ?_ rfl ?_ ?_
            rotate_left
            ·intro w hSw; (try dsimp only at hSw); go_simp; try with_reducible rfl
            try simp only [ZP, ZA, ZC, ZB, ZD, ZE, ZF]
            refine tsP 22 ?_ rfl ?_ ?_
            rotate_left
            ·intro w hSw; (try dsimp only at hSw); go_simp; try with_reducible rfl
            try simp only [ZP, ZA, ZC, ZB, ZD, ZE, ZF]
            refine tsP 23 ?_ rfl ?_ ?_
            rotate_left
            ·intro w hSw; (try dsimp only at hSw); go_simp; try with_reducible rfl
            try simp only [ZP, ZA, ZC, ZB, ZD, ZE, ZF]
            refine tsP 24 ?_ rfl ?_ ?_
            rotate_left
            ·intro w hSw; (try dsimp only at hSw); go_simp; try with_reducible rfl
            try simp only [ZP, ZA, ZC, ZB, ZD, ZE, ZF]
            refine tsP 25 ?_ rfl ?_ ?_
            rotate_left
            ·intro w hSw; (try dsimp only at hSw); go_simp; try with_reducible rfl
            try simp only [ZP, ZA, ZC, ZB, ZD, ZE, ZF]
            refine wpAnyS_one (i := 26) rfl (by kernel_rfl) (fun K hK => ?_)
            go_simp; go_at_call 128; refine (HIT.out _).mono ?_; rintro z Z1 ⟨rfl, rfl⟩
            refine hK.out _ _ (fun _ => by exact ⟨y0, y1, y2, v0⟩) (fun hH => ?_)
            have hHeld := hH rfl
            clear hK K hH
            try simp only [ZP, ZA, ZC, ZB, ZD, ZE, ZF]
            refine tsP 27 ?_ rfl ?_ ?_
            rotate_left
            ·intro w hSw; (try dsimp only at hSw); go_simp; try with_reducible rfl
            try simp only [ZP, ZA, ZC, ZB, ZD, ZE, ZF]
            refine tsP 28 ?_ rfl ?_ ?_
            rotate_left
            ·intro w hSw; (try dsimp only at hSw); go_simp; try with_reducible rfl
            try simp only [ZP, ZA, ZC, ZB, ZD, ZE, ZF]
            refine tsP 29 ?_ rfl ?_ ?_
            rotate_left
            ·intro w hSw; (try dsimp only at hSw); go_simp; try with_reducible rfl
            try simp only [ZP, ZA, ZC, ZB, ZD, ZE, ZF]
            refine tsP 30 ?_ rfl ?_ ?_
            rotate_left
            ·intro w hSw; (try dsimp only at hSw); go_simp; try with_reducible rfl
            try simp only [ZP, ZA, ZC, ZB, ZD, ZE, ZF]
            refine tsP 31 ?_ rfl ?_ ?_
            rotate_left
            ·intro w hSw; (try dsimp only at hSw); go_simp; try with_reducible rfl
            try simp only [ZP, ZA, ZC, ZB, ZD, ZE, ZF]
            refine tsP 32 ?_ rfl ?_ ?_
            rotate_left
            ·intro w hSw; (try dsimp only at hSw); go_simp; try with_reducible rfl
            try simp only [ZP, ZA, ZC, ZB, ZD, ZE, ZF]
            refine tsP 33 ?_ rfl ?_ ?_
            rotate_left
            ·intro w hSw; (try dsimp only at hSw); go_simp; try with_reducible rfl
            try simp only [ZP, ZA, ZC, ZB, ZD, ZE, ZF]
            refine tsP 34 ?_ rfl ?_ ?_
            rotate_left
            ·intro w hSw; (try dsimp only at hSw); go_simp; try with_reducible rfl
            try simp only [ZP, ZA, ZC, ZB, ZD, ZE, ZF]
            refine tsP 35 ?_ rfl ?_ ?_
            rotate_left
            ·intro w hSw; (try dsimp only at hSw); go_simp; try with_reducible rfl
            try simp only [ZP, ZA, ZC, ZB, ZD, ZE, ZF]
            refine tsP 36 ?_ rfl ?_ ?_
            rotate_left
            ·intro w hSw; (try dsimp only at hSw); go_simp; try with_reducible rfl
            try simp only [ZP, ZA, ZC, ZB, ZD, ZE, ZF]
            refine tsP 37 ?_ rfl ?_ ?_
            rotate_left
            ·intro w hSw; (try dsimp only at hSw); go_simp; try with_reducible rfl
            try simp only [ZP, ZA, ZC, ZB, ZD, ZE, ZF]
            refine tsP 38 ?_ rfl ?_ ?_
            rotate_left
            ·intro w hSw; (try dsimp only at hSw); go_simp; try with_reducible rfl
            try simp only [ZP, ZA, ZC, ZB, ZD, ZE, ZF]
            refine wpAnyS_done (by kernel_rfl) ?_ _
            go_wp2_with fail
            go_ret
            exact ⟨by rw [← HRS.out, if_neg (by rw [HOK.out, HN1.out]; simp)]; rfl, by first | exact HWA.out | exact HWA.out.drew⟩
           ·have d6 : decide (65535 < psz) = false := decide_eq_false c6
            have HY1 : Hid (okPk (aheadN ps i) ⟨pn, pt, psz, pe, pf, pc⟩ = true) := okPk_iff.2 (by dsimp only; omega)
            refine wp_region_S (fun w' => w'.cell? ⟨X, 0, none⟩ = some (ZI ZQ pn) ∧ w'.cell? ⟨X, 1, none⟩ = some (ZI ZQ pt) ∧ w'.cell? ⟨X, 2, none⟩ = some (ZI ZQ psz) ∧ w'.cell? ⟨xb, xo + (i - 1) * 6, none⟩ = some (ZI ZQ qn)) 1000 (by kernel_rfl) (by exact ⟨y0, y1, y2, v0⟩) (fun hHeld => ?_)
            refine tsP 0 ?_ rfl ?_ ?_
            rotate_left
            ·intro w hSw; (try dsimp only at hSw); go_simp; try with_reducible rfl
            try simp only [ZP, ZA, ZC, ZB, ZD, ZE, ZF]
            refine tsP 1 ?_ rfl ?_ ?_
            rotate_left
            ·intro w hSw; (try dsimp only at hSw); go_simp; try with_reducible rfl
            try simp only [ZP, ZA, ZC, ZB, ZD, ZE, ZF]
            refine tsP 2 ?_ rfl ?_ ?_
            rotate_left
            ·intro w hSw; (try dsimp only at hSw); go_simp; try with_reducible rfl
            try simp only [ZP, ZA, ZC, ZB, ZD, ZE, ZF]
            refine tsP 3 ?_ rfl ?_ ?_
            rotate_left
            ·intro w hSw; (try dsimp only at hSw); go_simp; try with_reducible rfl
            try simp only [ZP, ZA, ZC, ZB, ZD, ZE, ZF]
            refine tsP 4 ?_ rfl ?_ ?_
            rotate_left
            ·intro w hSw; (try dsimp only at hSw); go_simp; try with_reducible rfl
            try simp only [ZP, ZA, ZC, ZB, ZD, ZE, ZF]
            refine tsP 5 ?_ rfl ?_ ?_
            rotate_left
            ·intro w hSw; (try dsimp only at hSw); go_simp; try with_reducible rfl
            try simp only [ZP, ZA, ZC, ZB, ZD, ZE, ZF]
            refine tsP 6 ?_ rfl ?_ ?_
            rotate_left
            ·intro w hSw; (try dsimp only at hSw); go_simp; try with_reducible rfl
            try simp only [ZP, ZA, ZC, ZB, ZD, ZE, ZF]
            refine tsP 7 ?_ rfl ?_ ?_
            rotate_left
            ·intro w hSw; (try dsimp only at hSw); go_simp; try with_reducible rfl
            try simp only [ZP, ZA, ZC, ZB, ZD, ZE, ZF]
            refine tsP 8 ?_ rfl ?_ ?_
            rotate_left
            ·intro w hSw; (try dsimp only at hSw); go_simp; try with_reducible rfl
            try simp only [ZP, ZA, ZC, ZB, ZD, ZE, ZF]
            refine tsP 9 ?_ rfl ?_ ?_
            rotate_left
            ·intro w hSw; (try dsimp only at hSw); go_simp; try with_reducible rfl
            try simp only [ZP, ZA, ZC, ZB, ZD, ZE, ZF]
            refine tsP 10 ?_ rfl ?_ ?_
            rotate_left
            ·intro w hSw; (try dsimp only at hSw); go_simp; try with_reducible rfl
            try simp only [ZP, ZA, ZC, ZB, ZD, ZE, ZF]
            refine tsP 11 ?_ rfl ?_ ?_
            rotate_left
            ·intro w hSw; (try dsimp only at hSw); go_simp; try with_reducible rfl
            try simp only [ZP, ZA, ZC, ZB, ZD, ZE, ZF]
            refine tsP 12 ?_ rfl ?_ ?_
            rotate_left
            ·intro w hSw; (try dsimp only at hSw); go_simp; try with_reducible rfl
            try simp only [ZP, ZA, ZC, ZB, ZD, ZE, ZF]
            refine tsP 13 ?_ rfl ?_ ?_
            rotate_left
            ·intro w hSw; (try dsimp only at hSw); go_simp; try with_reducible rfl
            try simp only [ZP, ZA, ZC, ZB, ZD, ZE, ZF]
            refine tsP 14 ?_ rfl ?_ ?_
            rotate_left
            ·intro w hSw; (try dsimp only at hSw); go_simp; try with_reducible rfl
            try simp only [ZP, ZA, ZC, ZB, ZD, ZE, ZF]
            refine tsP 15 ?_ rfl ?_ ?_
            rotate_left
            ·intro w hSw; (try dsimp only at hSw); go_simp; try with_reducible rfl
            try simp only [ZP, ZA, ZC, ZB, ZD, ZE, ZF]
            refine tsP 16 ?_ rfl ?_ ?_
            rotate_left
            ·intro w hSw; (try dsimp only at hSw); go_simp; try with_reducible rfl
            try simp only [ZP, ZA, ZC, ZB, ZD, ZE, ZF]
            refine tsP 17 ?_ rfl ?_ ?_
            rotate_left
            ·intro w hSw; (try dsimp only at hSw); go_simp; try with_reducible rfl
            try simp only [ZP, ZA, ZC, ZB, ZD, ZE, ZF]
            refine tsP 18 ?_ rfl ?_ ?_
            rotate_left
            ·intro w hSw; (try dsimp only at hSw); go_simp; try with_reducible rfl
            try simp only [ZP, ZA, ZC, ZB, ZD, ZE, ZF]
            refine tsP 19 ?_ rfl ?_ ?_
            rotate_left
            ·intro w hSw; (try dsimp only at hSw); go_simp; try with_reducible rfl
            try simp only [ZP, ZA, ZC, ZB, ZD, ZE, ZF]
            refine tsP 20 ?_ rfl ?_ ?_
            rotate_left
            ·intro w hSw; (try dsimp only at hSw); go_simp; try with_reducible rfl
            try simp only [ZP, ZA, ZC, ZB, ZD, ZE, ZF]
            refine tsP 21 ?_ rfl ?_ ?_
            rotate_left
            ·intro w hSw; (try dsimp only at hSw); go_simp; try with_reducible rfl
            try simp only [ZP, ZA, ZC, ZB, ZD, ZE, ZF]
            refine tsP 22 ?_ rfl ?_ ?_
            rotate_left
            ·intro w hSw; (try dsimp only at hSw); go_simp; try with_reducible rfl
            try simp only [ZP, ZA, ZC, ZB, ZD, ZE, ZF]
            refine tsP 23 ?_ rfl ?_ ?_
            rotate_left
            ·intro w hSw; (try dsimp only at hSw); go_simp; try with_reducible rfl
            try simp only [ZP, ZA, ZC, ZB, ZD, ZE, ZF]
            refine tsP 24 ?_ rfl ?_ ?_
            rotate_left
            ·intro w hSw; (try dsimp only at hSw); go_simp; try with_reducible rfl
            try simp only [ZP, ZA, ZC, ZB, ZD, ZE, ZF]
            refine tsP 25 ?_ rfl ?_ ?_
            rotate_left
            ·intro w hSw; (try dsimp only at hSw); go_simp; try with_reducible rfl
            try simp only [ZP, ZA, ZC, ZB, ZD, ZE, ZF]
            refine wpAnyS_one (i := 26) rfl (by kernel_rfl) (fun K hK => ?_)
            go_simp; go_at_call 128; refine (HIT.out _).mono ?_; rintro z Z1 ⟨rfl, rfl⟩
            refine hK.out _ _ (fun _ => by exact ⟨y0, y1, y2, v0⟩) (fun hH => ?_)
            have hHeld := hH rfl
            clear hK K hH
            try simp only [ZP, ZA, ZC, ZB, ZD, ZE, ZF]
            refine tsP 27 ?_ rfl ?_ ?_
            rotate_left
            ·intro w hSw; (try dsimp only at hSw); go_simp; try with_reducible rfl
            try simp only [ZP, ZA, ZC, ZB, ZD, ZE, ZF]
            refine tsP 28 ?_ rfl ?_ ?_
            rotate_left
            ·intro w hSw; (try dsimp only at hSw); go_simp; try with_reducible rfl
            try simp only [ZP, ZA, ZC, ZB, ZD, ZE, ZF]
            refine tsP 29 ?_ rfl ?_ ?_
            rotate_left
            ·intro w hSw; (try dsimp only at hSw); go_simp; try with_reducible rfl
            try simp only [ZP, ZA, ZC, ZB, ZD, ZE, ZF]
            refine tsP 30 ?_ rfl ?_ ?_
            rotate_left
            ·intro w hSw; (try dsimp only at hSw); go_simp; try with_reducible rfl
            try simp only [ZP, ZA, ZC, ZB, ZD, ZE, ZF]
            refine tsP 31 ?_ rfl ?_ ?_
            rotate_left
            ·intro w hSw; (try dsimp only at hSw); go_simp; try with_reducible rfl
            try simp only [ZP, ZA, ZC, ZB, ZD, ZE, ZF]
            refine tsP 32 ?_ rfl ?_ ?_
            rotate_left
            ·intro w hSw; (try dsimp only at hSw); go_simp; try with_reducible rfl
            try simp only [ZP, ZA, ZC, ZB, ZD, ZE, ZF]
            refine tsP 33 ?_ rfl ?_ ?_
            rotate_left
            ·intro w hSw; (try dsimp only at hSw); go_simp; try with_reducible rfl
            try simp only [ZP, ZA, ZC, ZB, ZD, ZE, ZF]
            refine tsP 34 ?_ rfl ?_ ?_
            rotate_left
            ·intro w hSw; (try dsimp only at hSw); go_simp; try with_reducible rfl
            try simp only [ZP, ZA, ZC, ZB, ZD, ZE, ZF]
            refine tsP 35 ?_ rfl ?_ ?_
            rotate_left
            ·intro w hSw; (try dsimp only at hSw); go_simp; try with_reducible rfl
            try simp only [ZP, ZA, ZC, ZB, ZD, ZE, ZF]
            refine tsP 36 ?_ rfl ?_ ?_
            rotate_left
            ·intro w hSw; (try dsimp only at hSw); go_simp; try with_reducible rfl
            try simp only [ZP, ZA, ZC, ZB, ZD, ZE, ZF]
            refine tsP 37 ?_ rfl ?_ ?_
            rotate_left
            ·intro w hSw; (try dsimp only at hSw); go_simp; try with_reducible rfl
            try simp only [ZP, ZA, ZC, ZB, ZD, ZE, ZF]
            refine tsP 38 ?_ rfl ?_ ?_
            rotate_left
            ·intro w hSw; (try dsimp only at hSw); go_simp; try with_reducible rfl
            try simp only [ZP, ZA, ZC, ZB, ZD, ZE, ZF]
            refine wpAnyS_done (by kernel_rfl) ?_ _
            go_wp2_with fail
            go_roundg (ps.length - (i + 1))
            case rel => exact ⟨i + 1, by go_num, by omega, by omega, by show _ = _; rw [HOK.out, HAN.out, HY1.out]; rfl, by rw [HAN.out]; omega, by first | exact HWA.out | exact HWA.out.drew⟩
            case measure => omega
   ·obtain hie : i = ps.length := by omega
    have hin : ¬ (i : Int) < (ps.length : Int) := by omega
    have HF : Hid (okPks (-1) ps = true) := by show _ = _; rw [hok, List.drop_of_length_le (by omega)]; rfl
    clear hok hie
    go_wp2_with fail
    go_ret
    exact ⟨by rw [← HRS.out, if_pos HF.out]; rfl, hW⟩
 ·have h2 : (256 : Int) < (ps.length : Int) := by omega
  rw [if_neg (fun h => h256 h.1)]
  go_enter Tryz.func127, Tryz.ntmps127
  go_wp2_with fail
  go_ret
  exact ⟨rfl, Below.refl _ _⟩
end Go.Proofs.YtgicljeedegncaaGreat
