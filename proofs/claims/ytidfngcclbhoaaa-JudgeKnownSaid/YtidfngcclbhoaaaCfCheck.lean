/-
 conf.Check: whether a setting may be.
-/
import Derived.Test.YtidfngcclbhoaaaCfRows
namespace Go.Proofs.Ytidfngcclbhoaaa
set_option linter.unusedSimpArgs false
set_option linter.unusedVariables false
open Go.RowKit Go.Shelf

theorem err_row {c : CF} {i : Nat} (hi : i < 10) (h : rowOk c i = false) : errC c = 9 := by
 unfold errC okC
 by_cases hr : rowsOk c 10 = true
 ·have := rowsOk_row hr hi
  rw [h] at this
  cases this
 ·have hr : rowsOk c 10 = false := by simpa using hr
  rw [hr, Bool.and_false]
  rfl
set_option maxRecDepth 100000 in
set_option maxHeartbeats 4000000 in
/-- Check. -/
theorem check_any (c : CF) (w : World) : Calls Try.prog 14 #[.agg (confC c)] w fun e w' => e = .returned (.int .i64 (errC c)) ∧ Below w.heap.size w w' := by
 have hC0 : ConfAt (w.alloc (.cells (confC c) 24)) w.heap.size c := Blk.new _ _ _
 have hb0 : Below w.heap.size w (w.alloc (.cells (confC c) 24)) := (Below.refl _ _).alloc (Nat.le_refl _) _
 have HC0 := hide hC0
 have HB0 := hide hb0
 clear hC0 hb0
 have hop := fun W => opened_any c W
 have HOP := hide hop
 clear hop
 unfold confC at HC0 HB0 HOP ⊢
 go_enter Try.func14, Try.ntmps14
 go_wp2_with fail
 refine (HOP.out _).mono ?_
 rintro e1 w1 ⟨xb, rfl, hF1, hx1, hb1⟩
 have HC1 := hide (HC0.out.below hb1)
 have HF1 := hide hF1
 have HB1 := hide (below2 HB0.out hb1)
 have k1 := HC1.out.d
 clear hF1 hb1 HC0 HB0 HOP
 by_cases h1 : c.d < 1200
 ·have he : errC c = 9 := by unfold errC okC dOk; rw [decide_eq_false (by omega)]; rfl
  go_wp2_with fail
  go_ret
  exact ⟨by rw [he]; rfl, HB1.out⟩
 by_cases h2 : 65527 < c.d
 ·have he : errC c = 9 := by unfold errC okC dOk; rw [decide_eq_false (p := c.d ≤ 65527) (by omega), Bool.and_false]; rfl
  go_wp2_with fail
  go_ret
  exact ⟨by rw [he]; rfl, HB1.out⟩
 have hdk : dOk c = true := by unfold dOk; rw [decide_eq_true (by omega), decide_eq_true (by omega)]; rfl
 have hd : 1200 ≤ c.d ∧ c.d ≤ 65527 := by omega
 have HDK := hide hdk
 clear hdk
 go_wp2_with fail
 refine (rows_any _).mono ?_
 rintro e2 w2 ⟨A, rfl, hR, hA, hb2⟩
 have HR := hide hR
 have HC2 := hide (HC1.out.below hb2)
 have HF2 := hide (HF1.out.below hb2)
 have HB2 := hide (below2 HB1.out hb2)
 clear hR hb2 HC1 HF1 HB1 k1
 go_wp2_with fail
 go_loopg [20] 10 (fun kx s20 wr => ∃ i : Nat, s20 = .int .i64 i ∧ i ≤ 10 ∧ 10 - i ≤ kx ∧ Hid (rowsOk c i = true) ∧ Below w2.heap.size w2 wr)
 case atStart => exact ⟨0, rfl, by omega, by omega, rfl, Below.refl _ _⟩
 case round =>
  obtain ⟨i, rfl, hi, hkx, hok, hB⟩ := hrel
  have HB := hide hB
  by_cases hlt : i < 10
  ·have hin : (i : Int) < 10 := by omega
   have hi0 : (0 : Int) ≤ (i : Int) := by omega
   obtain ⟨v, u, z0, z1, z2, hN, hE⟩ := (HR.out.below HB.out).row hlt
   obtain ⟨g, lb, rfl, eg, cN⟩ := hN
   obtain ⟨g2, lb2, rfl, eg2, cE⟩ := hE
   have CN := hide cN
   have CE := hide (fun W b hB hC => cE W b c hB hC hd)
   have eg' : ∀ args w, (callFunc g args).run Try.prog w = .ok (.enter g args) w := eg
   have eg2' : ∀ args w, (callFunc g2 args).run Try.prog w = .ok (.enter g2 args) w := eg2
   have hbA : Below wr.heap.size wr (wr.alloc (.cells #[.string (nameB i), .func (.func g) #[] lb, .func (.func g2) #[] lb2] 74)) := (Below.refl _ _).alloc (Nat.le_refl _) _
   have hN : Blk (wr.alloc (.cells #[.string (nameB i), .func (.func g) #[] lb, .func (.func g2) #[] lb2] 74)) wr.heap.size 74 #[.string (nameB i), .func (.func g) #[] lb, .func (.func g2) #[] lb2] := Blk.new _ _ _
   have HBA := hide hbA
   have HNN := hide hN
   have hx := HF2.out.get hlt
   obtain ⟨x, hxe⟩ : ∃ x, c.vals.getD i 0 = x := ⟨_, rfl⟩
   obtain ⟨lo, hlo⟩ : ∃ x, loF c i = x := ⟨_, rfl⟩
   obtain ⟨hi_, hhi⟩ : ∃ x, hiF c i = x := ⟨_, rfl⟩
   have hrow : rowOk c i = (decide (lo ≤ x) && decide (x ≤ hi_)) := by unfold rowOk valF; rw [hxe, hlo, hhi]
   rw [hxe] at hx
   rw [hlo, hhi] at CE
   have HX := hide hx
   have HROW := hide hrow
   clear cN cE hB hbA hN hx hxe hlo hhi hrow eg eg2
   by_cases hc1 : x < lo
   ·have he := err_row hlt (by rw [HROW.out, decide_eq_false (by omega)]; rfl)
    go_wp2_with (first | (go_at_fn g2; refine (CE.out _ _ HBA.out (HC2.out.below (HB.out.trans (HBA.out.mono HB.out.size)))).mono ?_; rintro e3 w3 ⟨rfl, hb3⟩; have HB3 := hide (below2 HBA.out hb3); have y1 := (hb3.cell (p := ⟨wr.heap.size, 1, none⟩) HNN.out.lt).trans (HNN.out.cell 1); have xx := ((HB.out.trans (HB3.out.mono HB.out.size)).cell (p := ⟨xb, offF i, none⟩) HF2.out.blk.lt).trans HX.out) | (go_at_fn g; refine (CN.out _ _).mono ?_; rintro e4 w4 ⟨rfl, rfl⟩))
    go_ret
    exact ⟨by rw [he]; rfl, below2 HB2.out (below2 HB.out HB3.out)⟩
   by_cases hc2 : hi_ < x
   ·have he := err_row hlt (by rw [HROW.out, decide_eq_false (p := x ≤ hi_) (by omega), Bool.and_false])
    go_wp2_with (first | (go_at_fn g2; refine (CE.out _ _ HBA.out (HC2.out.below (HB.out.trans (HBA.out.mono HB.out.size)))).mono ?_; rintro e3 w3 ⟨rfl, hb3⟩; have HB3 := hide (below2 HBA.out hb3); have y1 := (hb3.cell (p := ⟨wr.heap.size, 1, none⟩) HNN.out.lt).trans (HNN.out.cell 1); have xx := ((HB.out.trans (HB3.out.mono HB.out.size)).cell (p := ⟨xb, offF i, none⟩) HF2.out.blk.lt).trans HX.out) | (go_at_fn g; refine (CN.out _ _).mono ?_; rintro e4 w4 ⟨rfl, rfl⟩))
    go_ret
    exact ⟨by rw [he]; rfl, below2 HB2.out (below2 HB.out HB3.out)⟩
   ·have hok2 : rowsOk c (i + 1) = true := by rw [rowsOk_succ, hok, HROW.out, decide_eq_true (by omega), decide_eq_true (by omega)]; rfl
    go_wp2_with (first | (go_at_fn g2; refine (CE.out _ _ HBA.out (HC2.out.below (HB.out.trans (HBA.out.mono HB.out.size)))).mono ?_; rintro e3 w3 ⟨rfl, hb3⟩; have HB3 := hide (below2 HBA.out hb3); have y1 := (hb3.cell (p := ⟨wr.heap.size, 1, none⟩) HNN.out.lt).trans (HNN.out.cell 1); have xx := ((HB.out.trans (HB3.out.mono HB.out.size)).cell (p := ⟨xb, offF i, none⟩) HF2.out.blk.lt).trans HX.out) | (go_at_fn g; refine (CN.out _ _).mono ?_; rintro e4 w4 ⟨rfl, rfl⟩))
    go_roundg (10 - (i + 1))
    case rel => exact ⟨i + 1, by go_num, by omega, by omega, hok2, below2 HB.out HB3.out⟩
    case measure => omega
  ·have hi10 : i = 10 := by omega
   subst hi10
   have he : errC c = 0 := by unfold errC okC; rw [HDK.out, hok]; rfl
   clear hlt hkx hok
   go_wp2_with fail
   go_ret
   exact ⟨by rw [he]; rfl, below2 HB2.out hB⟩
end Go.Proofs.Ytidfngcclbhoaaa
