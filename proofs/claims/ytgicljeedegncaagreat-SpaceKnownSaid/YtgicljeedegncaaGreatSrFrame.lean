/-
 The document's ACKs (sounderref05): Check, Has, Copy, whatever they hold. Printed by wip/gensrframe.py.
-/
import Derived.Test.YtgicljeedegncaaGreatSrSet
import Derived.Test.YtgicljeedegncaaGreatSpgCheck
namespace Go.Proofs.YtgicljeedegncaaGreat
open Go.Value renaming int → ZI
open Go.IntKind renaming i64 → ZQ
set_option linter.unusedSimpArgs false
set_option linter.unusedVariables false
open Go.RowKit

theorem quiet05 {P : Program} {f : FuncId} {args : Array Value} {w : World} {n : Nat} {v : Value}
  (h : Calls P f args (w.drewN n) fun e w' => e = .returned v ∧ w.drewN n = w') : Calls P f args (w.drewN n) fun e w'' => e = .returned v ∧ ∃ m, w'' = w.drewN m :=
 h.mono fun _ _ ⟨he, hm⟩ => ⟨he, n, hm.symm⟩
theorem r05number_any (n : Int) (w : World) : Calls Tryz.prog 125 #[ZI ZQ n] w fun e w' => e = .returned (.bool (isT n)) ∧ w = w' := by
 unfold isT
 by_cases h1 : 0 ≤ n
 ·by_cases h2 : n ≤ 9007199254740991
  ·go_enter Tryz.func125, Tryz.ntmps125
   go_wp2
   go_ret
   simp [h1, h2]
  ·go_enter Tryz.func125, Tryz.ntmps125
   go_wp2
   go_ret
   simp [h1, h2]
 ·go_enter Tryz.func125, Tryz.ntmps125
  go_wp2
  go_ret
  have h1 : ¬ 0 ≤ n := by omega
  simp [h1]
/-- An ACK in its box at block X, and its ranges. -/
structure FkAt (w W : World) (X : Nat) (a : Option Addr) (c : Nat) (ak : AK) : Prop where
 box : Blk W X 52 (akC ak a ak.rs.length c)
 row : RgAt W a ak.rs
 below : Below w.heap.size w W
theorem FkAt.later {w W W' : World} {X : Nat} {a : Option Addr} {c : Nat} {ak : AK} (h : FkAt w W X a c ak) (hb : Below W.heap.size W W') : FkAt w W' X a c ak := ⟨(hb.block _ h.box.lt).trans h.box, h.row.below hb, bw_below' h.below hb⟩
theorem FkAt.six {w W : World} {X : Nat} {a : Option Addr} {c : Nat} {ak : AK} (h : FkAt w W X a c ak) : W.cell? ⟨X, 0, none⟩ = some (ZI ZQ ak.delay) ∧ W.cell? ⟨X, 1, none⟩ = some (.slice a ak.rs.length c) ∧ W.cell? ⟨X, 2, none⟩ = some (.bool ak.marked) ∧ W.cell? ⟨X, 3, none⟩ = some (ZI ZQ ak.e0) ∧ W.cell? ⟨X, 4, none⟩ = some (ZI ZQ ak.e1) ∧ W.cell? ⟨X, 5, none⟩ = some (ZI ZQ ak.e2) := ⟨h.box.cell 0, h.box.cell 1, h.box.cell 2, h.box.cell 3, h.box.cell 4, h.box.cell 5⟩
def ok1 (n : Nat) (dl : Int) : Bool := decide (1 ≤ n) && decide (n ≤ 256) && isT dl
def mkTake (mk : Bool) (m0 m1 m2 : Int) : Nat → Bool
 | 0 => true
 | 1 => markB mk m0
 | 2 => markB mk m0 && markB mk m1
 | _ => markB mk m0 && markB mk m1 && markB mk m2
theorem okAk_eq (k : AK) : okAk k = (ok1 k.rs.length k.delay && okTake k.rs k.rs.length && mkTake k.marked k.e0 k.e1 k.e2 3) := by
 unfold okAk ok1
 show _ = (_ && (markB k.marked k.e0 && markB k.marked k.e1 && markB k.marked k.e2))
 simp only [Bool.and_assoc]
set_option maxRecDepth 100000 in
set_option maxHeartbeats 8000000 in
theorem r05check_any (ak : AK) (a : Option Addr) (c : Nat) (w : World) (hl : ak.rs.length ≤ 1000) (hR : RgAt w a ak.rs) :
  Calls Tryz.prog 76 #[.agg (akC ak a ak.rs.length c)] w fun e W' => e = .returned (ZI ZQ (ckA ak)) ∧ Below w.heap.size w W' := by
 obtain ⟨dl, rs, mk, m0, m1, m2⟩ := ak
 dsimp only at hR hl ⊢
 have hbw : Below w.heap.size w (w.alloc (.cells (akC ⟨dl, rs, mk, m0, m1, m2⟩ a rs.length c) 52)) := (Below.refl _ _).alloc (Nat.le_refl _) _
 have h0 : FkAt w (w.alloc (.cells (akC ⟨dl, rs, mk, m0, m1, m2⟩ a rs.length c) 52)) w.heap.size a c ⟨dl, rs, mk, m0, m1, m2⟩ := ⟨Blk.new _ _ _, hR.below hbw, hbw⟩
 obtain ⟨x0, x1, x2, x3, x4, x5⟩ := h0.six
 have HC := hide h0
 have HEQ := hide (okAk_eq ⟨dl, rs, mk, m0, m1, m2⟩)
 dsimp only at HEQ
 obtain ⟨cka, hcka⟩ : ∃ z, ckA ⟨dl, rs, mk, m0, m1, m2⟩ = z := ⟨_, rfl⟩
 have HBAD : Hid (okAk ⟨dl, rs, mk, m0, m1, m2⟩ = false → cka = 2) := fun h => by rw [← hcka, ckA_bad h]
 have HGOOD : Hid (okAk ⟨dl, rs, mk, m0, m1, m2⟩ = true → cka = 0) := fun h => by rw [← hcka, ckA_good h]
 rw [hcka]
 clear hcka hbw h0 hR
 obtain ⟨K, hK⟩ : ∃ K, rs.length = K := ⟨_, rfl⟩
 have HK := hide hK
 dsimp only at x0 x1 x2 x3 x4 x5
 rw [hK] at x0 x1 x2 x3 x4 x5 HC HEQ hl ⊢
 clear hK
 unfold akC at x0 x1 x2 x3 x4 x5 HC ⊢
 dsimp only at x0 x1 x2 x3 x4 x5 HC ⊢
 have HDL := hide (fun W => r05number_any dl W)
 go_enter Tryz.func76, Tryz.ntmps76
 go_upto_region 1 with (fail)
 go_cut [3] (fun s3 wx => s3 = .bool (ok1 K dl) ∧ FkAt w wx w.heap.size a c ⟨dl, rs, mk, m0, m1, m2⟩)
 case first =>
  by_cases k1 : (1 : Int) ≤ (K : Int)
  ·by_cases k2 : (K : Int) ≤ 256
   ·cases hd : isT dl with
    | false =>
     rw [hd] at HDL
     go_wp2_with fail
     refine (HDL.out _).mono ?_
     rintro e1 w1 ⟨rfl, rfl⟩
     go_wp2_with fail
     go_meet
     exact ⟨by unfold ok1; rw [hd]; simp, HC.out⟩
    | true =>
     rw [hd] at HDL
     go_wp2_with fail
     refine (HDL.out _).mono ?_
     rintro e1 w1 ⟨rfl, rfl⟩
     go_wp2_with fail
     go_meet
     exact ⟨by unfold ok1; rw [hd]; simp; omega, HC.out⟩
   ·go_wp2_with fail
    go_meet
    exact ⟨by unfold ok1; rw [decide_eq_false (p := K ≤ 256) (by omega)]; simp, HC.out⟩
  ·go_wp2_with fail
   go_meet
   exact ⟨by unfold ok1; rw [decide_eq_false (p := 1 ≤ K) (by omega)]; simp, HC.out⟩
 case rest =>
  obtain ⟨hu3, hC3⟩ := hcut
  subst hu3
  have HC3 := hide hC3
  clear hC3 x0 x1 x2 x3 x4 x5 HC
  obtain ⟨T1, hT1⟩ : ∃ T1, ok1 K dl = T1 := ⟨_, rfl⟩
  rw [hT1] at HEQ ⊢
  have HT1 := hide hT1
  clear hT1
  go_wp2_with fail
  go_loopg [3, 4] K (fun kx s3 s4 wr => ∃ i : Nat, s3 = .bool (T1 && okTake rs i) ∧ s4 = ZI ZQ i ∧ i ≤ K ∧ K - i ≤ kx ∧ FkAt w wr w.heap.size a c ⟨dl, rs, mk, m0, m1, m2⟩)
  case atStart => exact ⟨0, by simp [okTake], rfl, by omega, by omega, HC3.out⟩
  case round =>
   obtain ⟨i, rfl, rfl, hi, hkx, hC⟩ := hrel
   obtain ⟨x0, x1, x2, x3, x4, x5⟩ := hC.six
   dsimp only at x0 x1 x2 x3 x4 x5
   rw [HK.out] at x1
   by_cases hlt : i < K
   ·obtain ⟨r, hr⟩ : ∃ r, rs[i]? = some r := ⟨_, List.getElem?_eq_getElem (by rw [HK.out]; exact hlt)⟩
    obtain ⟨k, rfl, hk, z0, z1⟩ := hC.row i r hr
    have hin : (i : Int) < (K : Int) := by omega
    have hi0 : (0 : Int) ≤ (i : Int) := by omega
    have HV : Hid (okTake rs (i + 1) = (okTake rs i && okAt rs i)) := rfl
    have HAT := hide (okAt_some hr)
    have HRI := hide hr
    have HC0 := hide hC
    have hba : Below wr.heap.size wr (wr.alloc (.cells #[ZI ZQ r.lo, ZI ZQ r.hi] 93)) := (Below.refl _ _).alloc (Nat.le_refl _) _
    have HC1 := hide (hC.later hba)
    have hx := Blk.new wr 93 #[ZI ZQ r.lo, ZI ZQ r.hi]
    have HX := hide hx
    have HBA := hide hba
    have HLO := hide (fun W => r05number_any r.lo W)
    have HHI := hide (fun W => r05number_any r.hi W)
    clear hC hr hba hx
    go_upto_region 6 with (fail)
    obtain ⟨X, hX⟩ : ∃ X, wr.heap.size = X := ⟨_, rfl⟩
    obtain ⟨W1, hW1⟩ : ∃ y, wr.alloc (.cells #[ZI ZQ r.lo, ZI ZQ r.hi] 93) = y := ⟨_, rfl⟩
    rw [hW1] at HC1 HX HBA ⊢
    rw [hX] at HX ⊢
    clear x0 x1 x2 x3 x4 x5 z0 z1
    obtain ⟨x0, x1, x2, x3, x4, x5⟩ := HC1.out.six
    dsimp only at x0 x1 x2 x3 x4 x5
    rw [HK.out] at x1
    have y0 : W1.cell? ⟨X, 0, none⟩ = some (ZI ZQ r.lo) := HX.out.cell 0
    have y1 : W1.cell? ⟨X, 1, none⟩ = some (ZI ZQ r.hi) := HX.out.cell 1
    have HXE := hide hX
    clear hX hW1
    cases ht : (T1 && okTake rs i) with
    | false =>
     have HE : Hid ((T1 && (okTake rs i && (numB r && decide (0 ≤ gapAt rs i)))) = false) := by show _ = _; rw [← Bool.and_assoc, ht]; rfl
     clear ht
     go_quiet (first | (go_at_call 125; with_reducible exact quiet05 (HLO.out _)) | (go_at_call 125; with_reducible exact quiet05 (HHI.out _)))
     go_wp2_with fail
     go_roundg (K - (i + 1))
     case rel => exact ⟨i + 1, by rw [HV.out, HAT.out, HE.out], by go_num, by omega, by omega, HC1.out.later (below_drewN (Below.refl _ _) _)⟩
     case measure => omega
    | true =>
     have HTT := hide ht
     have HE : Hid (∀ b, (numB r && decide (0 ≤ gapAt rs i)) = b → (T1 && (okTake rs i && (numB r && decide (0 ≤ gapAt rs i)))) = b) := fun b hb => by rw [← Bool.and_assoc, ht, hb]; rfl
     clear ht
     cases hlo : isT r.lo with
     | false =>
      rw [hlo] at HLO
      go_quiet (first | (go_at_call 125; with_reducible exact quiet05 (HLO.out _)) | (go_at_call 125; with_reducible exact quiet05 (HHI.out _)))
      go_wp2_with fail
      go_roundg (K - (i + 1))
      case rel => exact ⟨i + 1, by rw [HV.out, HAT.out, HE.out false (by unfold numB; rw [hlo]; rfl)], by go_num, by omega, by omega, HC1.out.later (below_drewN (Below.refl _ _) _)⟩
      case measure => omega
     | true =>
      rw [hlo] at HLO
      cases hhi : isT r.hi with
      | false =>
       rw [hhi] at HHI
       go_quiet (first | (go_at_call 125; with_reducible exact quiet05 (HLO.out _)) | (go_at_call 125; with_reducible exact quiet05 (HHI.out _)))
       go_wp2_with fail
       go_roundg (K - (i + 1))
       case rel => exact ⟨i + 1, by rw [HV.out, HAT.out, HE.out false (by unfold numB; rw [hlo, hhi]; rfl)], by go_num, by omega, by omega, HC1.out.later (below_drewN (Below.refl _ _) _)⟩
       case measure => omega
      | true =>
       rw [hhi] at HHI
       have b1 := isT_iff.1 hlo
       have b2 := isT_iff.1 hhi
       by_cases hle : r.lo ≤ r.hi
       ·have HNB : Hid (numB r = true) := numB_iff.2 ⟨b1.1, hle, b2.2⟩
        cases i with
        | zero =>
         simp only [Int.natCast_zero] at hin hi0 ⊢
         go_quiet (first | (go_at_call 125; with_reducible exact quiet05 (HLO.out _)) | (go_at_call 125; with_reducible exact quiet05 (HHI.out _)))
         go_wp2_with fail
         go_roundg (K - (0 + 1))
         case rel => exact ⟨0 + 1, by rw [HV.out, HAT.out, HE.out true (by rw [HNB.out]; rfl)], by go_num, by omega, by omega, HC1.out.later (below_drewN (Below.refl _ _) _)⟩
         case measure => omega
        | succ m =>
         obtain ⟨q, hq⟩ : ∃ q, rs[m]? = some q := ⟨_, List.getElem?_eq_getElem (by rw [HK.out]; omega)⟩
         have hgq := gapAt_succ hq HRI.out
         obtain ⟨k', e', hk', q0, q1⟩ := HC1.out.row m q hq
         cases e'
         have HIA := HV.out
         have hc : T1 = true ∧ okTake rs (m + 1) = true := by have := HTT.out; simpa using this
         have hqn := okTake_iff.1 hc.2 m (by omega)
         rw [okAt_some hq, Bool.and_eq_true] at hqn
         have b3 := numB_iff.1 hqn.1
         have hw0 : IntKind.i64.wrap (m : Int) = m := by rw [IntKind.wrap_i64]; omega
         have hw1 : IntKind.i64.wrap (q.lo - 2) = q.lo - 2 := by rw [IntKind.wrap_i64]; omega
         have hm0 : (((m : Int) + 1) == 0) = false := by rw [beq_eq_false_iff_ne]; omega
         have hm1 : (m : Int) < (K : Int) := by omega
         have hm2 : (0 : Int) ≤ (m : Int) := by omega
         simp only [Int.natCast_add, Int.natCast_one] at hin hi0 ⊢
         have HGQ := hide hgq
         clear hgq hc hqn hq
         by_cases hgp : r.hi ≤ q.lo - 2
         ·skip
          go_quiet (first | (go_at_call 125; with_reducible exact quiet05 (HLO.out _)) | (go_at_call 125; with_reducible exact quiet05 (HHI.out _)))
          go_wp2_with fail
          go_roundg (K - ((m + 1) + 1))
          case rel => exact ⟨(m + 1) + 1, by rw [HV.out, HAT.out, HE.out true (by rw [HNB.out, HGQ.out, decide_eq_true (by omega)]; rfl)], by go_num, by omega, by omega, HC1.out.later (below_drewN (Below.refl _ _) _)⟩
          case measure => omega
         ·have hgn : q.lo - 2 < r.hi := by omega
          go_quiet (first | (go_at_call 125; with_reducible exact quiet05 (HLO.out _)) | (go_at_call 125; with_reducible exact quiet05 (HHI.out _)))
          go_wp2_with fail
          go_roundg (K - ((m + 1) + 1))
          case rel => exact ⟨(m + 1) + 1, by rw [HV.out, HAT.out, HE.out false (by rw [HGQ.out, decide_eq_false (by omega)]; simp)], by go_num, by omega, by omega, HC1.out.later (below_drewN (Below.refl _ _) _)⟩
          case measure => omega
       ·have hgt : ¬ r.lo ≤ r.hi := hle
        go_quiet (first | (go_at_call 125; with_reducible exact quiet05 (HLO.out _)) | (go_at_call 125; with_reducible exact quiet05 (HHI.out _)))
        go_wp2_with fail
        go_roundg (K - (i + 1))
        case rel => exact ⟨i + 1, by rw [HV.out, HAT.out, HE.out false (by unfold numB; rw [decide_eq_false (by omega)]; simp)], by go_num, by omega, by omega, HC1.out.later (below_drewN (Below.refl _ _) _)⟩
        case measure => omega
   ·obtain rfl : i = K := by omega
    have hin : ¬ (i : Int) < (i : Int) := by omega
    obtain ⟨T2, hT2⟩ : ∃ T2, (T1 && okTake rs i) = T2 := ⟨_, rfl⟩
    rw [hT2]
    rw [hT2] at HEQ
    have HC1 := hide hC
    clear hC hT2
    go_wp2_with fail
    go_loopg [3, 6] 3 (fun kx s3 s6 wl => ∃ j : Nat, s3 = .bool (T2 && mkTake mk m0 m1 m2 j) ∧ s6 = ZI ZQ j ∧ j ≤ 3 ∧ 3 - j ≤ kx ∧ FkAt w wl w.heap.size a c ⟨dl, rs, mk, m0, m1, m2⟩)
    case atStart => exact ⟨0, by simp [mkTake], rfl, by omega, by omega, HC1.out⟩
    case round =>
     clear x0 x1 x2 x3 x4 x5 HC1
     obtain ⟨j, rfl, rfl, hj, hkx, hC⟩ := hrel
     obtain ⟨x0, x1, x2, x3, x4, x5⟩ := hC.six
     dsimp only at x0 x1 x2 x3 x4 x5
     have HC1 := hide hC
     clear hC
     have hj4 : j = 0 ∨ j = 1 ∨ j = 2 ∨ j = 3 := by omega
     rcases hj4 with rfl | rfl | rfl | rfl
     ·have HV : Hid ((T2 && mkTake mk m0 m1 m2 1) = ((T2 && mkTake mk m0 m1 m2 0) && markB mk m0)) := by show _ = _; rw [Bool.and_assoc]; rfl
      simp only [Int.natCast_zero] at *
      cases ht : (T2 && mkTake mk m0 m1 m2 0) with
      | false =>
       rw [ht] at HV
       clear ht
       go_wp2_with fail
       go_roundg 2
       case rel => exact ⟨1, by rw [HV.out, Bool.false_and], by go_num, by omega, by omega, HC1.out⟩
       case measure => omega
      | true =>
       rw [ht] at HV
       clear ht
       have HN0 := hide (fun W => r05number_any m0 W)
       cases hn : isT m0 with
       | false =>
        rw [hn] at HN0
        go_wp2_with fail
        refine (HN0.out _).mono ?_
        rintro e1 w1 ⟨rfl, rfl⟩
        go_wp2_with fail
        go_roundg 2
        case rel => exact ⟨1, by rw [HV.out, show markB mk m0 = false by unfold markB; rw [hn]; rfl]; rfl, by go_num, by omega, by omega, HC1.out⟩
        case measure => omega
       | true =>
        rw [hn] at HN0
        cases mk with
        | true =>
         go_wp2_with fail
         refine (HN0.out _).mono ?_
         rintro e1 w1 ⟨rfl, rfl⟩
         go_wp2_with fail
         go_roundg 2
         case rel => exact ⟨1, by rw [HV.out, show markB true m0 = true by unfold markB; rw [hn]; rfl]; rfl, by go_num, by omega, by omega, HC1.out⟩
         case measure => omega
        | false =>
         by_cases hz : m0 = 0
         ·subst hz
          go_wp2_with fail
          refine (HN0.out _).mono ?_
          rintro e1 w1 ⟨rfl, rfl⟩
          go_wp2_with fail
          go_roundg 2
          case rel => exact ⟨1, by rw [HV.out, show markB false 0 = true by unfold markB; rw [hn, decide_eq_true rfl]; rfl]; rfl, by go_num, by omega, by omega, HC1.out⟩
          case measure => omega
         ·have hzb : (m0 == 0) = false := by simpa using hz
          go_wp2_with fail
          refine (HN0.out _).mono ?_
          rintro e1 w1 ⟨rfl, rfl⟩
          go_wp2_with fail
          go_roundg 2
          case rel => exact ⟨1, by rw [HV.out, show markB false m0 = false by unfold markB; rw [hn, decide_eq_false hz]; rfl]; rfl, by go_num, by omega, by omega, HC1.out⟩
          case measure => omega
     ·have HV : Hid ((T2 && mkTake mk m0 m1 m2 2) = ((T2 && mkTake mk m0 m1 m2 1) && markB mk m1)) := by show _ = _; rw [Bool.and_assoc]; rfl
      simp only [Int.natCast_one] at *
      cases ht : (T2 && mkTake mk m0 m1 m2 1) with
      | false =>
       rw [ht] at HV
       clear ht
       go_wp2_with fail
       go_roundg 1
       case rel => exact ⟨2, by rw [HV.out, Bool.false_and], by go_num, by omega, by omega, HC1.out⟩
       case measure => omega
      | true =>
       rw [ht] at HV
       clear ht
       have HN1 := hide (fun W => r05number_any m1 W)
       cases hn : isT m1 with
       | false =>
        rw [hn] at HN1
        go_wp2_with fail
        refine (HN1.out _).mono ?_
        rintro e1 w1 ⟨rfl, rfl⟩
        go_wp2_with fail
        go_roundg 1
        case rel => exact ⟨2, by rw [HV.out, show markB mk m1 = false by unfold markB; rw [hn]; rfl]; rfl, by go_num, by omega, by omega, HC1.out⟩
        case measure => omega
       | true =>
        rw [hn] at HN1
        cases mk with
        | true =>
         go_wp2_with fail
         refine (HN1.out _).mono ?_
         rintro e1 w1 ⟨rfl, rfl⟩
         go_wp2_with fail
         go_roundg 1
         case rel => exact ⟨2, by rw [HV.out, show markB true m1 = true by unfold markB; rw [hn]; rfl]; rfl, by go_num, by omega, by omega, HC1.out⟩
         case measure => omega
        | false =>
         by_cases hz : m1 = 0
         ·subst hz
          go_wp2_with fail
          refine (HN1.out _).mono ?_
          rintro e1 w1 ⟨rfl, rfl⟩
          go_wp2_with fail
          go_roundg 1
          case rel => exact ⟨2, by rw [HV.out, show markB false 0 = true by unfold markB; rw [hn, decide_eq_true rfl]; rfl]; rfl, by go_num, by omega, by omega, HC1.out⟩
          case measure => omega
         ·have hzb : (m1 == 0) = false := by simpa using hz
          go_wp2_with fail
          refine (HN1.out _).mono ?_
          rintro e1 w1 ⟨rfl, rfl⟩
          go_wp2_with fail
          go_roundg 1
          case rel => exact ⟨2, by rw [HV.out, show markB false m1 = false by unfold markB; rw [hn, decide_eq_false hz]; rfl]; rfl, by go_num, by omega, by omega, HC1.out⟩
          case measure => omega
     ·have HV : Hid ((T2 && mkTake mk m0 m1 m2 3) = ((T2 && mkTake mk m0 m1 m2 2) && markB mk m2)) := by show _ = _; rw [Bool.and_assoc]; rfl
      simp only [show ((2 : Nat) : Int) = 2 from rfl] at *
      cases ht : (T2 && mkTake mk m0 m1 m2 2) with
      | false =>
       rw [ht] at HV
       clear ht
       go_wp2_with fail
       go_roundg 0
       case rel => exact ⟨3, by rw [HV.out, Bool.false_and], by go_num, by omega, by omega, HC1.out⟩
       case measure => omega
      | true =>
       rw [ht] at HV
       clear ht
       have HN2 := hide (fun W => r05number_any m2 W)
       cases hn : isT m2 with
       | false =>
        rw [hn] at HN2
        go_wp2_with fail
        refine (HN2.out _).mono ?_
        rintro e1 w1 ⟨rfl, rfl⟩
        go_wp2_with fail
        go_roundg 0
        case rel => exact ⟨3, by rw [HV.out, show markB mk m2 = false by unfold markB; rw [hn]; rfl]; rfl, by go_num, by omega, by omega, HC1.out⟩
        case measure => omega
       | true =>
        rw [hn] at HN2
        cases mk with
        | true =>
         go_wp2_with fail
         refine (HN2.out _).mono ?_
         rintro e1 w1 ⟨rfl, rfl⟩
         go_wp2_with fail
         go_roundg 0
         case rel => exact ⟨3, by rw [HV.out, show markB true m2 = true by unfold markB; rw [hn]; rfl]; rfl, by go_num, by omega, by omega, HC1.out⟩
         case measure => omega
        | false =>
         by_cases hz : m2 = 0
         ·subst hz
          go_wp2_with fail
          refine (HN2.out _).mono ?_
          rintro e1 w1 ⟨rfl, rfl⟩
          go_wp2_with fail
          go_roundg 0
          case rel => exact ⟨3, by rw [HV.out, show markB false 0 = true by unfold markB; rw [hn, decide_eq_true rfl]; rfl]; rfl, by go_num, by omega, by omega, HC1.out⟩
          case measure => omega
         ·have hzb : (m2 == 0) = false := by simpa using hz
          go_wp2_with fail
          refine (HN2.out _).mono ?_
          rintro e1 w1 ⟨rfl, rfl⟩
          go_wp2_with fail
          go_roundg 0
          case rel => exact ⟨3, by rw [HV.out, show markB false m2 = false by unfold markB; rw [hn, decide_eq_false hz]; rfl]; rfl, by go_num, by omega, by omega, HC1.out⟩
          case measure => omega
     ·simp only [show ((3 : Nat) : Int) = 3 from rfl] at *
      cases ht : (T2 && mkTake mk m0 m1 m2 3) with
      | false =>
       have HB := hide (HBAD.out (by rw [HEQ.out, ht]))
       go_wp2_with fail
       go_ret
       exact ⟨by rw [HB.out]; rfl, HC1.out.below⟩
      | true =>
       have HB := hide (HGOOD.out (by rw [HEQ.out, ht]))
       go_wp2_with fail
       go_ret
       exact ⟨by rw [HB.out]; rfl, HC1.out.below⟩
end Go.Proofs.YtgicljeedegncaaGreat
