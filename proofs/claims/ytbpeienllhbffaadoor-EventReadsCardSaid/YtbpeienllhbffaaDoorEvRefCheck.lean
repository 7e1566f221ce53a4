/-
  The document's answer for layer 22: in, Check: their walks.
-/
import Derived.Test.YtbpeienllhbffaaDoorEvMade
namespace Go.Proofs.YtbpeienllhbffaaDoor
set_option linter.unusedSimpArgs false
set_option linter.unusedVariables false
open Go.RowKit Go.Shelf
def inB (n lo hi : Int) : Bool := decide (lo ≤ n) && decide (n ≤ hi)
set_option maxHeartbeats 1000000 in
theorem in_any (n lo hi : Int) (w : World) : Calls Tryd.prog 53 #[.int .i64 n, .int .i64 lo, .int .i64 hi] w fun e w' => e = .returned (.bool (inB n lo hi)) ∧ w = w' := by
  by_cases h1 : lo ≤ n
  · by_cases h2 : n ≤ hi
    · have hr : inB n lo hi = true := by simp [inB, h1, h2]
      rw [hr]
      go_enter Tryd.func53, Tryd.ntmps53
      go_wp2_with fail
      go_ret
      exact ⟨rfl, rfl⟩
    · have hr : inB n lo hi = false := by simp [inB, h2]
      rw [hr]
      go_enter Tryd.func53, Tryd.ntmps53
      go_wp2_with fail
      go_ret
      exact ⟨rfl, rfl⟩
  · have hr : inB n lo hi = false := by simp [inB, h1]
    rw [hr]
    go_enter Tryd.func53, Tryd.ntmps53
    go_wp2_with fail
    go_ret
    exact ⟨rfl, rfl⟩

theorem okEV1 (sp num n : Int) : okEV ⟨1, sp, num, n⟩ = (inB sp 0 2 && inB num 0 9007199254740991 && inB n 1 65535) := by
  rw [Bool.eq_iff_iff]
  simp [okEV, kindOf, fieldsF, fSp, fNum, fSize, inF, EV.get, EV.set, strike, zeroEV, inB]
  omega
theorem okEV2 (sp num n : Int) : okEV ⟨2, sp, num, n⟩ = (inB sp 0 2 && inB num 0 9007199254740991 && inB n 1 65535) := by
  rw [Bool.eq_iff_iff]
  simp [okEV, kindOf, fieldsF, fSp, fNum, fSize, inF, EV.get, EV.set, strike, zeroEV, inB]
  omega
theorem okEV3 (sp num n : Int) : okEV ⟨3, sp, num, n⟩ = (inB sp 0 2 && decide (num = 0) && inB n 1 2) := by
  rw [Bool.eq_iff_iff]
  simp [okEV, kindOf, fieldsF, fSp, fNum, fSize, inF, EV.get, EV.set, strike, zeroEV, inB]
  omega
theorem okEV4 (sp num n : Int) : okEV ⟨4, sp, num, n⟩ = (decide (sp = 0) && decide (num = 0) && inB n 2400 1099511627776) := by
  rw [Bool.eq_iff_iff]
  simp [okEV, kindOf, fieldsF, fSp, fNum, fSize, inF, EV.get, EV.set, strike, zeroEV, inB]
  omega
theorem okEV5 (sp num n : Int) : okEV ⟨5, sp, num, n⟩ = (inB sp 0 2 && decide (num = 0) && decide (n = 0)) := by
  rw [Bool.eq_iff_iff]
  simp [okEV, kindOf, fieldsF, fSp, fNum, fSize, inF, EV.get, EV.set, strike, zeroEV, inB]
  omega
theorem okEV6 (sp num n : Int) : okEV ⟨6, sp, num, n⟩ = (decide (sp = 0) && decide (num = 0) && inB n 1 999) := by
  rw [Bool.eq_iff_iff]
  simp [okEV, kindOf, fieldsF, fSp, fNum, fSize, inF, EV.get, EV.set, strike, zeroEV, inB]
  omega
theorem okEVx {k : Int} (sp num n : Int) (h : ¬ (1 ≤ k ∧ k ≤ 6)) : okEV ⟨k, sp, num, n⟩ = false := by
  unfold okEV kindOf
  rw [if_neg h]
theorem errEV_yes {e : EV} (h : okEV e = true) : errEV e = 0 := by unfold errEV; rw [if_pos h]
theorem errEV_no {e : EV} (h : okEV e = false) : errEV e = 2 := by unfold errEV; rw [h]; rfl
set_option maxRecDepth 100000 in
set_option maxHeartbeats 8000000 in
theorem rcheck_any (e : EV) (w : World) : Calls Tryd.prog 25 #[.agg (evC e)] w fun x w' => x = .returned (.int .i64 (errEV e)) ∧ Below w.heap.size w w' := by
  obtain ⟨kind, sp, num, n⟩ := e
  have hB := Blk.new w 36 (evC ⟨kind, sp, num, n⟩)
  have q0 := hB.cell 0
  have q1 := hB.cell 1
  have q2 := hB.cell 2
  have q3 := hB.cell 3
  have ha : Below w.heap.size w (w.alloc (.cells (evC ⟨kind, sp, num, n⟩) 36)) := (Below.refl _ _).alloc (Nat.le_refl _) _
  have HA := hide ha
  simp only [evC] at q0 q1 q2 q3 HA ⊢
  clear hB ha
  by_cases k1 : kind = 1
  · subst k1
    have hok := okEV1 sp num n
    have Hsp := hide (fun W => in_any sp 0 2 W)
    have Hnum := hide (fun W => in_any num 0 9007199254740991 W)
    have Hn := hide (fun W => in_any n 1 65535 W)
    cases h0 : inB sp 0 2
    case false =>
      rw [h0] at hok Hsp
      rw [errEV_no (by rw [hok]; simp)]
      clear hok
      go_enter Tryd.func25, Tryd.ntmps25
      go_wp2_with fail
      refine (Hsp.out _).mono ?_
      rintro x0 W0 ⟨rfl, rfl⟩
      go_wp2_with fail
      exact bodyPost_ret (v := .int .i64 2) (by simp [results, Tryd.results25, go_sem]) rfl ⟨rfl, HA.out⟩
    case true =>
      rw [h0] at hok Hsp
      cases h1 : inB num 0 9007199254740991
      case false =>
        rw [h1] at hok Hnum
        rw [errEV_no (by rw [hok]; simp)]
        clear hok
        go_enter Tryd.func25, Tryd.ntmps25
        go_wp2_with fail
        refine (Hsp.out _).mono ?_
        rintro x0 W0 ⟨rfl, rfl⟩
        go_wp2_with fail
        refine (Hnum.out _).mono ?_
        rintro x1 W1 ⟨rfl, rfl⟩
        go_wp2_with fail
        exact bodyPost_ret (v := .int .i64 2) (by simp [results, Tryd.results25, go_sem]) rfl ⟨rfl, HA.out⟩
      case true =>
        rw [h1] at hok Hnum
        cases h2 : inB n 1 65535
        case false =>
          rw [h2] at hok Hn
          rw [errEV_no (by rw [hok]; simp)]
          clear hok
          go_enter Tryd.func25, Tryd.ntmps25
          go_wp2_with fail
          refine (Hsp.out _).mono ?_
          rintro x0 W0 ⟨rfl, rfl⟩
          go_wp2_with fail
          refine (Hnum.out _).mono ?_
          rintro x1 W1 ⟨rfl, rfl⟩
          go_wp2_with fail
          refine (Hn.out _).mono ?_
          rintro x2 W2 ⟨rfl, rfl⟩
          go_wp2_with fail
          exact bodyPost_ret (v := .int .i64 2) (by simp [results, Tryd.results25, go_sem]) rfl ⟨rfl, HA.out⟩
        case true =>
          rw [h2] at hok Hn
          rw [errEV_yes hok]
          go_enter Tryd.func25, Tryd.ntmps25
          go_wp2_with fail
          refine (Hsp.out _).mono ?_
          rintro x0 W0 ⟨rfl, rfl⟩
          go_wp2_with fail
          refine (Hnum.out _).mono ?_
          rintro x1 W1 ⟨rfl, rfl⟩
          go_wp2_with fail
          refine (Hn.out _).mono ?_
          rintro x2 W2 ⟨rfl, rfl⟩
          go_wp2_with fail
          exact bodyPost_ret (v := .int .i64 0) (by simp [results, Tryd.results25, go_sem]) rfl ⟨rfl, HA.out⟩
  have c1 : (kind == 1) = false := by rw [beq_eq_false_iff_ne]; exact k1
  by_cases k2 : kind = 2
  · subst k2
    have hok := okEV2 sp num n
    have Hsp := hide (fun W => in_any sp 0 2 W)
    have Hnum := hide (fun W => in_any num 0 9007199254740991 W)
    have Hn := hide (fun W => in_any n 1 65535 W)
    cases h0 : inB sp 0 2
    case false =>
      rw [h0] at hok Hsp
      rw [errEV_no (by rw [hok]; simp)]
      clear hok
      go_enter Tryd.func25, Tryd.ntmps25
      go_wp2_with fail
      refine (Hsp.out _).mono ?_
      rintro x0 W0 ⟨rfl, rfl⟩
      go_wp2_with fail
      exact bodyPost_ret (v := .int .i64 2) (by simp [results, Tryd.results25, go_sem]) rfl ⟨rfl, HA.out⟩
    case true =>
      rw [h0] at hok Hsp
      cases h1 : inB num 0 9007199254740991
      case false =>
        rw [h1] at hok Hnum
        rw [errEV_no (by rw [hok]; simp)]
        clear hok
        go_enter Tryd.func25, Tryd.ntmps25
        go_wp2_with fail
        refine (Hsp.out _).mono ?_
        rintro x0 W0 ⟨rfl, rfl⟩
        go_wp2_with fail
        refine (Hnum.out _).mono ?_
        rintro x1 W1 ⟨rfl, rfl⟩
        go_wp2_with fail
        exact bodyPost_ret (v := .int .i64 2) (by simp [results, Tryd.results25, go_sem]) rfl ⟨rfl, HA.out⟩
      case true =>
        rw [h1] at hok Hnum
        cases h2 : inB n 1 65535
        case false =>
          rw [h2] at hok Hn
          rw [errEV_no (by rw [hok]; simp)]
          clear hok
          go_enter Tryd.func25, Tryd.ntmps25
          go_wp2_with fail
          refine (Hsp.out _).mono ?_
          rintro x0 W0 ⟨rfl, rfl⟩
          go_wp2_with fail
          refine (Hnum.out _).mono ?_
          rintro x1 W1 ⟨rfl, rfl⟩
          go_wp2_with fail
          refine (Hn.out _).mono ?_
          rintro x2 W2 ⟨rfl, rfl⟩
          go_wp2_with fail
          exact bodyPost_ret (v := .int .i64 2) (by simp [results, Tryd.results25, go_sem]) rfl ⟨rfl, HA.out⟩
        case true =>
          rw [h2] at hok Hn
          rw [errEV_yes hok]
          go_enter Tryd.func25, Tryd.ntmps25
          go_wp2_with fail
          refine (Hsp.out _).mono ?_
          rintro x0 W0 ⟨rfl, rfl⟩
          go_wp2_with fail
          refine (Hnum.out _).mono ?_
          rintro x1 W1 ⟨rfl, rfl⟩
          go_wp2_with fail
          refine (Hn.out _).mono ?_
          rintro x2 W2 ⟨rfl, rfl⟩
          go_wp2_with fail
          exact bodyPost_ret (v := .int .i64 0) (by simp [results, Tryd.results25, go_sem]) rfl ⟨rfl, HA.out⟩
  have c2 : (kind == 2) = false := by rw [beq_eq_false_iff_ne]; exact k2
  by_cases k3 : kind = 3
  · subst k3
    have hok := okEV3 sp num n
    have Hsp := hide (fun W => in_any sp 0 2 W)
    have Hn := hide (fun W => in_any n 1 2 W)
    cases h0 : inB sp 0 2
    case false =>
      rw [h0] at hok Hsp
      rw [errEV_no (by rw [hok]; simp)]
      clear hok
      go_enter Tryd.func25, Tryd.ntmps25
      go_wp2_with fail
      refine (Hsp.out _).mono ?_
      rintro x0 W0 ⟨rfl, rfl⟩
      go_wp2_with fail
      exact bodyPost_ret (v := .int .i64 2) (by simp [results, Tryd.results25, go_sem]) rfl ⟨rfl, HA.out⟩
    case true =>
      rw [h0] at hok Hsp
      cases h1 : decide (num = 0)
      case false =>
        rw [h1] at hok
        have b1 : (num == 0) = false := by rw [beq_eq_false_iff_ne]; exact of_decide_eq_false h1
        have d1 : ¬ num = 0 := of_decide_eq_false h1
        rw [errEV_no (by rw [hok]; simp)]
        clear hok
        go_enter Tryd.func25, Tryd.ntmps25
        go_wp2_with fail
        refine (Hsp.out _).mono ?_
        rintro x0 W0 ⟨rfl, rfl⟩
        go_wp2_with fail
        exact bodyPost_ret (v := .int .i64 2) (by simp [results, Tryd.results25, go_sem]) rfl ⟨rfl, HA.out⟩
      case true =>
        rw [h1] at hok
        obtain rfl : num = 0 := of_decide_eq_true h1
        cases h2 : inB n 1 2
        case false =>
          rw [h2] at hok Hn
          rw [errEV_no (by rw [hok]; simp)]
          clear hok
          go_enter Tryd.func25, Tryd.ntmps25
          go_wp2_with fail
          refine (Hsp.out _).mono ?_
          rintro x0 W0 ⟨rfl, rfl⟩
          go_wp2_with fail
          refine (Hn.out _).mono ?_
          rintro x2 W2 ⟨rfl, rfl⟩
          go_wp2_with fail
          exact bodyPost_ret (v := .int .i64 2) (by simp [results, Tryd.results25, go_sem]) rfl ⟨rfl, HA.out⟩
        case true =>
          rw [h2] at hok Hn
          rw [errEV_yes hok]
          go_enter Tryd.func25, Tryd.ntmps25
          go_wp2_with fail
          refine (Hsp.out _).mono ?_
          rintro x0 W0 ⟨rfl, rfl⟩
          go_wp2_with fail
          refine (Hn.out _).mono ?_
          rintro x2 W2 ⟨rfl, rfl⟩
          go_wp2_with fail
          exact bodyPost_ret (v := .int .i64 0) (by simp [results, Tryd.results25, go_sem]) rfl ⟨rfl, HA.out⟩
  have c3 : (kind == 3) = false := by rw [beq_eq_false_iff_ne]; exact k3
  by_cases k4 : kind = 4
  · subst k4
    have hok := okEV4 sp num n
    have Hn := hide (fun W => in_any n 2400 1099511627776 W)
    cases h0 : decide (sp = 0)
    case false =>
      rw [h0] at hok
      have b0 : (sp == 0) = false := by rw [beq_eq_false_iff_ne]; exact of_decide_eq_false h0
      have d0 : ¬ sp = 0 := of_decide_eq_false h0
      rw [errEV_no (by rw [hok]; simp)]
      clear hok
      go_enter Tryd.func25, Tryd.ntmps25
      go_wp2_with fail
      exact bodyPost_ret (v := .int .i64 2) (by simp [results, Tryd.results25, go_sem]) rfl ⟨rfl, HA.out⟩
    case true =>
      rw [h0] at hok
      obtain rfl : sp = 0 := of_decide_eq_true h0
      cases h1 : decide (num = 0)
      case false =>
        rw [h1] at hok
        have b1 : (num == 0) = false := by rw [beq_eq_false_iff_ne]; exact of_decide_eq_false h1
        have d1 : ¬ num = 0 := of_decide_eq_false h1
        rw [errEV_no (by rw [hok]; simp)]
        clear hok
        go_enter Tryd.func25, Tryd.ntmps25
        go_wp2_with fail
        exact bodyPost_ret (v := .int .i64 2) (by simp [results, Tryd.results25, go_sem]) rfl ⟨rfl, HA.out⟩
      case true =>
        rw [h1] at hok
        obtain rfl : num = 0 := of_decide_eq_true h1
        cases h2 : inB n 2400 1099511627776
        case false =>
          rw [h2] at hok Hn
          rw [errEV_no (by rw [hok]; simp)]
          clear hok
          go_enter Tryd.func25, Tryd.ntmps25
          go_wp2_with fail
          refine (Hn.out _).mono ?_
          rintro x2 W2 ⟨rfl, rfl⟩
          go_wp2_with fail
          exact bodyPost_ret (v := .int .i64 2) (by simp [results, Tryd.results25, go_sem]) rfl ⟨rfl, HA.out⟩
        case true =>
          rw [h2] at hok Hn
          rw [errEV_yes hok]
          go_enter Tryd.func25, Tryd.ntmps25
          go_wp2_with fail
          refine (Hn.out _).mono ?_
          rintro x2 W2 ⟨rfl, rfl⟩
          go_wp2_with fail
          exact bodyPost_ret (v := .int .i64 0) (by simp [results, Tryd.results25, go_sem]) rfl ⟨rfl, HA.out⟩
  have c4 : (kind == 4) = false := by rw [beq_eq_false_iff_ne]; exact k4
  by_cases k5 : kind = 5
  · subst k5
    have hok := okEV5 sp num n
    have Hsp := hide (fun W => in_any sp 0 2 W)
    cases h0 : inB sp 0 2
    case false =>
      rw [h0] at hok Hsp
      rw [errEV_no (by rw [hok]; simp)]
      clear hok
      go_enter Tryd.func25, Tryd.ntmps25
      go_wp2_with fail
      refine (Hsp.out _).mono ?_
      rintro x0 W0 ⟨rfl, rfl⟩
      go_wp2_with fail
      exact bodyPost_ret (v := .int .i64 2) (by simp [results, Tryd.results25, go_sem]) rfl ⟨rfl, HA.out⟩
    case true =>
      rw [h0] at hok Hsp
      cases h1 : decide (num = 0)
      case false =>
        rw [h1] at hok
        have b1 : (num == 0) = false := by rw [beq_eq_false_iff_ne]; exact of_decide_eq_false h1
        have d1 : ¬ num = 0 := of_decide_eq_false h1
        rw [errEV_no (by rw [hok]; simp)]
        clear hok
        go_enter Tryd.func25, Tryd.ntmps25
        go_wp2_with fail
        refine (Hsp.out _).mono ?_
        rintro x0 W0 ⟨rfl, rfl⟩
        go_wp2_with fail
        exact bodyPost_ret (v := .int .i64 2) (by simp [results, Tryd.results25, go_sem]) rfl ⟨rfl, HA.out⟩
      case true =>
        rw [h1] at hok
        obtain rfl : num = 0 := of_decide_eq_true h1
        cases h2 : decide (n = 0)
        case false =>
          rw [h2] at hok
          have b2 : (n == 0) = false := by rw [beq_eq_false_iff_ne]; exact of_decide_eq_false h2
          have d2 : ¬ n = 0 := of_decide_eq_false h2
          rw [errEV_no (by rw [hok]; simp)]
          clear hok
          go_enter Tryd.func25, Tryd.ntmps25
          go_wp2_with fail
          refine (Hsp.out _).mono ?_
          rintro x0 W0 ⟨rfl, rfl⟩
          go_wp2_with fail
          exact bodyPost_ret (v := .int .i64 2) (by simp [results, Tryd.results25, go_sem]) rfl ⟨rfl, HA.out⟩
        case true =>
          rw [h2] at hok
          obtain rfl : n = 0 := of_decide_eq_true h2
          rw [errEV_yes hok]
          go_enter Tryd.func25, Tryd.ntmps25
          go_wp2_with fail
          refine (Hsp.out _).mono ?_
          rintro x0 W0 ⟨rfl, rfl⟩
          go_wp2_with fail
          exact bodyPost_ret (v := .int .i64 0) (by simp [results, Tryd.results25, go_sem]) rfl ⟨rfl, HA.out⟩
  have c5 : (kind == 5) = false := by rw [beq_eq_false_iff_ne]; exact k5
  by_cases k6 : kind = 6
  · subst k6
    have hok := okEV6 sp num n
    have Hn := hide (fun W => in_any n 1 999 W)
    cases h0 : decide (sp = 0)
    case false =>
      rw [h0] at hok
      have b0 : (sp == 0) = false := by rw [beq_eq_false_iff_ne]; exact of_decide_eq_false h0
      have d0 : ¬ sp = 0 := of_decide_eq_false h0
      rw [errEV_no (by rw [hok]; simp)]
      clear hok
      go_enter Tryd.func25, Tryd.ntmps25
      go_wp2_with fail
      exact bodyPost_ret (v := .int .i64 2) (by simp [results, Tryd.results25, go_sem]) rfl ⟨rfl, HA.out⟩
    case true =>
      rw [h0] at hok
      obtain rfl : sp = 0 := of_decide_eq_true h0
      cases h1 : decide (num = 0)
      case false =>
        rw [h1] at hok
        have b1 : (num == 0) = false := by rw [beq_eq_false_iff_ne]; exact of_decide_eq_false h1
        have d1 : ¬ num = 0 := of_decide_eq_false h1
        rw [errEV_no (by rw [hok]; simp)]
        clear hok
        go_enter Tryd.func25, Tryd.ntmps25
        go_wp2_with fail
        exact bodyPost_ret (v := .int .i64 2) (by simp [results, Tryd.results25, go_sem]) rfl ⟨rfl, HA.out⟩
      case true =>
        rw [h1] at hok
        obtain rfl : num = 0 := of_decide_eq_true h1
        cases h2 : inB n 1 999
        case false =>
          rw [h2] at hok Hn
          rw [errEV_no (by rw [hok]; simp)]
          clear hok
          go_enter Tryd.func25, Tryd.ntmps25
          go_wp2_with fail
          refine (Hn.out _).mono ?_
          rintro x2 W2 ⟨rfl, rfl⟩
          go_wp2_with fail
          exact bodyPost_ret (v := .int .i64 2) (by simp [results, Tryd.results25, go_sem]) rfl ⟨rfl, HA.out⟩
        case true =>
          rw [h2] at hok Hn
          rw [errEV_yes hok]
          go_enter Tryd.func25, Tryd.ntmps25
          go_wp2_with fail
          refine (Hn.out _).mono ?_
          rintro x2 W2 ⟨rfl, rfl⟩
          go_wp2_with fail
          exact bodyPost_ret (v := .int .i64 0) (by simp [results, Tryd.results25, go_sem]) rfl ⟨rfl, HA.out⟩
  have c6 : (kind == 6) = false := by rw [beq_eq_false_iff_ne]; exact k6
  have hok := okEVx sp num n (k := kind) (by omega)
  rw [errEV_no hok]
  go_enter Tryd.func25, Tryd.ntmps25
  go_wp2_with fail
  exact bodyPost_ret (v := .int .i64 2) (by simp [results, Tryd.results25, go_sem]) rfl ⟨rfl, HA.out⟩
end Go.Proofs.YtbpeienllhbffaaDoor
