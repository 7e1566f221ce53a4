/-
 Layer 1 (sat), as layer 24 calls it: clamp, Num, Is, Add; nums, parts, back, MulDiv, MulUp, Mul, of products that fit into 64 bits.
-/
import Derived.Test.YtidfngcclbhoaaaBase
import Derived.Test.YtidfngcclbhoaaaReads
import Derived.Test.YtidfngcclbhoaaaRows
import Derived.Shelf.Small.Bits
import Derived.Shelf.Strconv.Itoa0
import Derived.Shelf.Bits.Mul64
import Derived.Deep.LoopGhost
import Derived.Deep.DeepCutAuto
import Derived.Deep.RegionHeld3
import Derived.Deep.RegionWith
namespace Go.Proofs
open Go.Shelf
def Try.lays264_ren : Go.Shelf.Ren := ⟨fun | 264 => 92 | n => n, fun | 53 => 122 | 46 => 135 | n => n, fun | n => n⟩
theorem Try.lays264 : Go.Proofs.Lays.n264 Try.prog Try.lays264_ren := {
 mixed := by kernel_rfl
 f264 := Try.func92.trans (congrArg some (by kernel_rfl))
 t46 := Try.underlying135
 a46 := Try.isAgg135
 z46 := Try.sizeOf135
 v46 := Try.zeroValue135
 t53 := Try.underlying122
 a53 := Try.isAgg122
 z53 := Try.sizeOf122
 v53 := Try.zeroValue122 }
theorem Try.bits_Mul64 (x y : Nat) (hx : x < 18446744073709551616) (hy : y < 18446744073709551616) (w : World) :
  Calls Try.prog 92 #[.int .u64 x, .int .u64 y] w fun e w' => e = .returned (.tuple #[.int .u64 ((x * y / 18446744073709551616 : Nat) : Int), .int .u64 ((x * y % 18446744073709551616 : Nat) : Int)]) ∧ w' = w := Any.bits_Mul64 Try.lays264 x y hx hy w
end Go.Proofs
namespace Go.Proofs.Ytidfngcclbhoaaa
open List renaming getElem?_toArray → ZG, getElem?_cons_zero → ZH, getElem?_cons_succ → ZJ
open Go.Value renaming int → ZI
open Go.IntKind renaming i64 → ZQ
set_option linter.unusedSimpArgs false
set_option linter.unusedVariables false
open Go.RowKit Go.Shelf
def numI (n : Int) : Int := if n < 0 then 0 else if 9007199254740991 < n then 9007199254740991 else n
theorem numI_bd (n : Int) : 0 ≤ numI n ∧ numI n ≤ 9007199254740991 := by unfold numI; split <;> (try split) <;> omega
theorem numI_in {n : Int} (h0 : 0 ≤ n) (h1 : n ≤ 9007199254740991) : numI n = n := by unfold numI; rw [if_neg (by omega), if_neg (by omega)]
set_option maxHeartbeats 1000000 in
theorem jclamp_any (n : Int) (w : World) : Calls Try.prog 68 #[ZI ZQ n, ZI ZQ 0, ZI ZQ 9007199254740991] w fun e w' => e = .returned (ZI ZQ (numI n)) ∧ w = w' := by
 unfold numI
 by_cases h0 : n < 0
 ·have h1 : ¬ 9007199254740991 < n := by omega
  rw [if_pos h0]
  go_enter Try.func68, Try.ntmps68
  go_wp2
  go_ret
  simp
  try omega
 ·rw [if_neg h0]
  by_cases h1 : 9007199254740991 < n
  ·rw [if_pos h1]
   go_enter Try.func68, Try.ntmps68
   go_wp2
   go_ret
   simp
   try omega
  ·rw [if_neg h1]
   go_enter Try.func68, Try.ntmps68
   go_wp2
   all_goals
    go_ret
    simp
    try omega
theorem jnum_any (n : Int) (w : World) : Calls Try.prog 52 #[ZI ZQ n] w fun e w' => e = .returned (ZI ZQ (numI n)) ∧ w = w' := by
 have HC := hide (jclamp_any n w)
 obtain ⟨m, hm⟩ : ∃ m, numI n = m := ⟨_, rfl⟩
 rw [hm] at HC ⊢
 clear hm
 go_enter Try.func52, Try.ntmps52
 go_wp2_with fail
 refine HC.out.mono ?_
 rintro e1 w1 ⟨rfl, rfl⟩
 go_wp2_with fail
 go_ret
 exact ⟨rfl, rfl⟩
theorem jis_any (n : Int) (w : World) : Calls Try.prog 25 #[ZI ZQ n] w fun e w' => e = .returned (.bool (decide (0 ≤ n) && decide (n ≤ 9007199254740991))) ∧ w = w' := by
 have HC := hide (jnum_any n w)
 have hv : (n == numI n) = (decide (0 ≤ n) && decide (n ≤ 9007199254740991)) := by
  unfold numI
  by_cases h0 : n < 0
  ·rw [if_pos h0, show decide (0 ≤ n) = false from decide_eq_false (by omega), Bool.false_and, beq_eq_false_iff_ne]; omega
  ·rw [if_neg h0, show decide (0 ≤ n) = true from decide_eq_true (by omega), Bool.true_and]
   by_cases h1 : 9007199254740991 < n
   ·rw [if_pos h1, show decide (n ≤ 9007199254740991) = false from decide_eq_false (by omega), beq_eq_false_iff_ne]; omega
   ·rw [if_neg h1, show decide (n ≤ 9007199254740991) = true from decide_eq_true (by omega), beq_self_eq_true]
 obtain ⟨m, hm⟩ : ∃ m, numI n = m := ⟨_, rfl⟩
 rw [hm] at HC hv
 rw [← hv]
 clear hm hv
 go_enter Try.func25, Try.ntmps25
 go_wp2_with fail
 refine HC.out.mono ?_
 rintro e1 w1 ⟨rfl, rfl⟩
 go_wp2_with fail
 go_ret
 exact ⟨rfl, rfl⟩
def addI (a b : Int) : Int := numI (numI a + numI b)
theorem addI_bd (a b : Int) : 0 ≤ addI a b ∧ addI a b ≤ 9007199254740991 := numI_bd _
theorem addI_in {a b : Int} (h0 : 0 ≤ a) (h1 : 0 ≤ b) (h2 : a + b ≤ 9007199254740991) : addI a b = a + b := by unfold addI; rw [numI_in h0 (by omega), numI_in h1 (by omega), numI_in (by omega) h2]
theorem jadd_any (a b : Int) (w : World) : Calls Try.prog 55 #[ZI ZQ a, ZI ZQ b] w fun e w' => e = .returned (ZI ZQ (addI a b)) ∧ w = w' := by
 have HA := hide (fun W => jnum_any a W)
 have HB := hide (fun W => jnum_any b W)
 have ha := numI_bd a
 have hb := numI_bd b
 have HC := hide (fun W => jnum_any (numI a + numI b) W)
 unfold addI
 obtain ⟨x, hx⟩ : ∃ m, numI a = m := ⟨_, rfl⟩
 obtain ⟨y, hy⟩ : ∃ m, numI b = m := ⟨_, rfl⟩
 rw [hx] at HA HC ha ⊢
 rw [hy] at HB HC hb ⊢
 obtain ⟨z, hz⟩ : ∃ m, numI (x + y) = m := ⟨_, rfl⟩
 rw [hz] at HC ⊢
 clear hx hy hz
 go_enter Try.func55, Try.ntmps55
 go_wp2_with fail
 with_reducible refine (HA.out _).mono ?_
 rintro e1 w1 ⟨rfl, rfl⟩
 go_wp2_with fail
 with_reducible refine (HB.out _).mono ?_
 rintro e1 w1 ⟨rfl, rfl⟩
 go_wp2_with fail
 with_reducible refine (HC.out _).mono ?_
 rintro e1 w1 ⟨rfl, rfl⟩
 go_wp2_with fail
 go_ret
 exact ⟨rfl, rfl⟩
set_option maxHeartbeats 1000000 in
theorem jclampu_any (n : Int) (h0 : 0 ≤ n) (w : World) : Calls Try.prog 94 #[.int .u64 n, .int .u64 0, .int .u64 9007199254740991] w fun e w' => e = .returned (.int .u64 (numI n)) ∧ w = w' := by
 unfold numI
 rw [if_neg (by omega)]
 by_cases h1 : 9007199254740991 < n
 ·rw [if_pos h1]
  have hm : min n 9007199254740991 = 9007199254740991 := by omega
  have hm2 : max (0 : Int) 9007199254740991 = 9007199254740991 := by omega
  go_enter Try.func94, Try.ntmps94
  go_wp2
  go_ret
  simp
 ·rw [if_neg h1]
  have hm : min n 9007199254740991 = n := by omega
  have hm2 : max (0 : Int) n = n := by omega
  go_enter Try.func94, Try.ntmps94
  go_wp2
  all_goals
   go_ret
   simp
   try omega
theorem jback_any (n : Int) (h0 : 0 ≤ n) (w : World) : Calls Try.prog 82 #[.int .u64 n] w fun e w' => e = .returned (ZI ZQ (numI n)) ∧ w = w' := by
 have HC := hide (jclampu_any n h0 w)
 have hb := numI_bd n
 obtain ⟨m, hm⟩ : ∃ m, numI n = m := ⟨_, rfl⟩
 rw [hm] at HC hb ⊢
 clear hm
 go_enter Try.func82, Try.ntmps82
 go_wp2_with fail
 refine HC.out.mono ?_
 rintro e1 w1 ⟨rfl, rfl⟩
 go_wp2_with fail
 go_ret
 exact ⟨rfl, rfl⟩
theorem u64_info : (Try.prog.info? 122).map (fun i => (i.zero, i.size, i.bytes)) = some (some (.int .u64 0), 1, 8) := by kernel_rfl
def uC (a b c : Int) (k : Nat) : Array Value := #[.int .u64 (if 0 < k then a else 0), .int .u64 (if 1 < k then b else 0), .int .u64 (if 2 < k then c else 0)]
set_option maxRecDepth 100000 in
set_option maxHeartbeats 4000000 in
theorem nums_any (g : Nat) (a b c : Int) (w : World) (hg : Blk w g 3 #[ZI ZQ a, ZI ZQ b, ZI ZQ c]) :
  Calls Try.prog 91 #[.slice (some ⟨g, 0, none⟩) 3 3] w fun e w' => e = .returned (.slice (some ⟨w.heap.size, 0, none⟩) 3 3) ∧ Blk w' w.heap.size 122 #[.int .u64 (numI a), .int .u64 (numI b), .int .u64 (numI c)] ∧ Below w.heap.size w w' := by
 obtain ⟨i0, hi0, hz0, hz1, hz2⟩ := info_parts u64_info
 have hmk := fun W => make_rows (P := Try.prog) 129 122 i0 _ 1 8 Try.underlying129 hi0 hz0 hz1 hz2 3 (by omega) (by omega) W
 have hmc : madeCells (Value.int .u64 0).cells (3 * 1) = #[.int .u64 0, .int .u64 0, .int .u64 0] := by kernel_rfl
 have hmk2 : (Instr.makeSlice 129 (ZI ZQ 3) (ZI ZQ 3)).run Try.prog w = .ok (.slice (some ⟨w.heap.size, 0, none⟩) 3 3) (w.alloc (.cells #[.int .u64 0, .int .u64 0, .int .u64 0] 122)) := by
  have := hmk w
  rw [hmc] at this
  exact this
 have HA := hide (fun W => jnum_any a W)
 have HB := hide (fun W => jnum_any b W)
 have HC := hide (fun W => jnum_any c W)
 have ba := numI_bd a
 have bb := numI_bd b
 have bc := numI_bd c
 obtain ⟨x, hx⟩ : ∃ m, numI a = m := ⟨_, rfl⟩
 obtain ⟨y, hy⟩ : ∃ m, numI b = m := ⟨_, rfl⟩
 obtain ⟨z, hz⟩ : ∃ m, numI c = m := ⟨_, rfl⟩
 rw [hx] at HA ba ⊢
 rw [hy] at HB bb ⊢
 rw [hz] at HC bc ⊢
 have HG := hide hg
 have hgl := hg.lt
 have HN := hide (Blk.new w 122 #[.int .u64 0, .int .u64 0, .int .u64 0])
 have HL := hide ((Below.refl w.heap.size w).alloc (Nat.le_refl _) (.cells #[.int .u64 0, .int .u64 0, .int .u64 0] 122))
 clear hmk hx hy hz hg hmc
 go_enter Try.func91, Try.ntmps91
 go_wp2_with fail
 clear hmk2
 go_loopg [11] 3 (fun kx s11 wr => ∃ k : Nat, s11 = ZI ZQ k ∧ k ≤ 3 ∧ 3 - k ≤ kx ∧ Blk wr w.heap.size 122 (uC x y z k) ∧ Below w.heap.size w wr)
 case atStart => exact ⟨0, rfl, by omega, by omega, HN.out, HL.out⟩
 case round =>
  obtain ⟨k, rfl, hk, hkx, hB, hW⟩ := hrel
  have hgw := (hW.block _ hgl).trans HG.out
  have hgb : Blk wr g 3 #[ZI ZQ a, ZI ZQ b, ZI ZQ c] := hgw
  have c0 := hgb.cell 0
  have c1 := hgb.cell 1
  have c2 := hgb.cell 2
  simp only [ZG, ZH, ZJ] at c0 c1 c2
  have f0 := hB.frozen 0
  have f1 := hB.frozen 1
  have f2 := hB.frozen 2
  have d0 := hB.cell 0
  have d1 := hB.cell 1
  have d2 := hB.cell 2
  clear hgw
  have hk4 : k = 0 ∨ k = 1 ∨ k = 2 ∨ k = 3 := by omega
  rcases hk4 with rfl | rfl | rfl | rfl
  ·go_wp2_with fail
   with_reducible refine (HA.out _).mono ?_
   rintro e1 w1 ⟨rfl, rfl⟩
   go_wp2_with fail
   go_roundg (3 - (0 + 1))
   case rel => exact ⟨1, rfl, by omega, by omega, (hB.set 0 (.int .u64 x)).eq (by simp [uC]), hW.setCell (p := ⟨w.heap.size, 0, none⟩) (Nat.le_refl _) _⟩
   case measure => omega
  ·go_wp2_with fail
   with_reducible refine (HB.out _).mono ?_
   rintro e1 w1 ⟨rfl, rfl⟩
   go_wp2_with fail
   go_roundg (3 - (1 + 1))
   case rel => exact ⟨2, rfl, by omega, by omega, (hB.set 1 (.int .u64 y)).eq (by simp [uC]), hW.setCell (p := ⟨w.heap.size, 1, none⟩) (Nat.le_refl _) _⟩
   case measure => omega
  ·go_wp2_with fail
   with_reducible refine (HC.out _).mono ?_
   rintro e1 w1 ⟨rfl, rfl⟩
   go_wp2_with fail
   go_roundg (3 - (2 + 1))
   case rel => exact ⟨3, rfl, by omega, by omega, (hB.set 2 (.int .u64 z)).eq (by simp [uC]), hW.setCell (p := ⟨w.heap.size, 2, none⟩) (Nat.le_refl _) _⟩
   case measure => omega
  ·go_wp2_with fail
   go_ret
   exact ⟨rfl, hB.eq (by simp [uC]), hW⟩
theorem quiet1 {P : Program} {f : FuncId} {args : Array Value} {w : World} {n : Nat} {v : Value}
  (h : Calls P f args (w.drewN n) fun e w' => e = .returned v ∧ w.drewN n = w') : Calls P f args (w.drewN n) fun e w'' => e = .returned v ∧ ∃ m, w'' = w.drewN m :=
 h.mono fun _ _ ⟨he, hm⟩ => ⟨he, n, hm.symm⟩
set_option maxRecDepth 100000 in
set_option maxHeartbeats 4000000 in
theorem div64_small (n c : Nat) (hn : n < 18446744073709551616) (hc : c ≤ 9007199254740991) (hc1 : 1 ≤ c) (w : World) :
  Calls Try.prog 93 #[.int .u64 0, .int .u64 n, .int .u64 c] w fun e w' => e = .returned (.tuple #[.int .u64 ((n / c : Nat) : Int), .int .u64 ((n % c : Nat) : Int)]) ∧ Below w.heap.size w w' := by
 have hcz : ((c : Int) == 0) = false := by rw [beq_eq_false_iff_ne]; omega
 have hc0 : ¬ (c : Int) = 0 := by omega
 have hci : ¬ (c : Int) ≤ 0 := by omega
 have hci2 : (0 : Int) < (c : Int) := by omega
 have hn0 : (0 : Int) ≤ (n : Int) := by omega
 have hq : (n : Int).tdiv (c : Int) = ((n / c : Nat) : Int) := rfl
 have hr : (n : Int).tmod (c : Int) = ((n % c : Nat) : Int) := rfl
 have hr2 : (n : Int) % (c : Int) = ((n % c : Nat) : Int) := rfl
 have hq2 : (n : Int) / (c : Int) = ((n / c : Nat) : Int) := rfl
 have b1 : n / c ≤ n := Nat.div_le_self _ _
 have b2 : n % c < c := Nat.mod_lt _ hc1
 obtain ⟨q, hqq⟩ : ∃ q, n / c = q := ⟨_, rfl⟩
 obtain ⟨r, hrr⟩ : ∃ q, n % c = q := ⟨_, rfl⟩
 rw [hqq] at hq hq2 b1 ⊢
 rw [hrr] at hr hr2 b2 ⊢
 clear hqq hrr
 go_enter Try.func93, Try.ntmps93
 go_wp2_with fail
 go_quiet (fail)
 go_wp2_with fail
 exact bodyPost_ret (v := .tuple #[.int .u64 (q : Int), .int .u64 (r : Int)]) (by simp [results, Try.results93, go_sem]) rfl ⟨rfl, below_drewN (Below.refl _ _) _⟩
-- Quotient and rest of a product that fits into 64 bits.
set_option maxRecDepth 100000 in
set_option maxHeartbeats 4000000 in
theorem parts_any (a b c : Nat) (ha : a ≤ 9007199254740991) (hb : b ≤ 9007199254740991) (hc : c ≤ 9007199254740991) (hc1 : 1 ≤ c) (hab : a * b < 18446744073709551616) (w : World) :
  Calls Try.prog 81 #[ZI ZQ a, ZI ZQ b, ZI ZQ c] w fun e w' => e = .returned (.tuple #[.int .u64 ((a * b / c : Nat) : Int), .int .u64 ((a * b % c : Nat) : Int), .bool true]) ∧ Below w.heap.size w w' := by
 have hB := Blk.new w 3 #[ZI ZQ (a : Int), ZI ZQ (b : Int), ZI ZQ (c : Int)]
 have hal : Below w.heap.size w (w.alloc (.cells #[ZI ZQ (a : Int), ZI ZQ (b : Int), ZI ZQ (c : Int)] 3)) := (Below.refl _ _).alloc (Nat.le_refl _) _
 have HN := hide (nums_any w.heap.size a b c _ hB)
 rw [numI_in (by omega) (by omega), numI_in (by omega) (by omega), numI_in (by omega) (by omega)] at HN
 simp only [World.size_alloc] at HN
 have HM := hide (fun W => Try.bits_Mul64 a b (by omega) (by omega) W)
 have hz : a * b / 18446744073709551616 = 0 := Nat.div_eq_of_lt hab
 have hy : a * b % 18446744073709551616 = a * b := Nat.mod_eq_of_lt hab
 rw [hz, hy] at HM
 have HAL := hide hal
 obtain ⟨n, hn⟩ : ∃ n, a * b = n := ⟨_, rfl⟩
 rw [hn] at HM hab ⊢
 have hcz : ((c : Int) == 0) = false := by rw [beq_eq_false_iff_ne]; omega
 have hc0 : ¬ (c : Int) = 0 := by omega
 have hci : (0 : Int) < (c : Int) := by omega
 clear hB hal hz hy hn
 go_enter Try.func81, Try.ntmps81
 go_wp2_with fail
 refine HN.out.mono ?_
 rintro e1 w1 ⟨rfl, hb1, hw1⟩
 have HW := hide (HAL.out.trans (hw1.mono (Nat.le_succ _)))
 have d0 := hb1.cell 0
 have d1 := hb1.cell 1
 have d2 := hb1.cell 2
 simp only [ZG, ZH, ZJ] at d0 d1 d2
 clear hb1 hw1 HN HAL
 go_wp2_with fail
 go_quiet ((go_at_call 92; with_reducible exact quiet1 ((HM.out _).mono fun _ _ h => ⟨h.1, h.2.symm⟩)))
 have HW2 := hide (below_drewN HW.out nq)
 have d21 : (w1.drewN nq).cell? ⟨w.heap.size + 1, 2, none⟩ = some (.int .u64 c) := d2
 obtain ⟨W1, hW11⟩ : ∃ W1, w1.drewN nq = W1 := ⟨_, rfl⟩
 rw [hW11] at HW2 d21
 try rw [hW11]
 have hci : ¬ (c : Int) ≤ 0 := by omega
 have HD := hide (fun W => div64_small n c hab hc hc1 W)
 clear hW11 d0 d1 d2 HW HM
 go_wp2_with fail
 with_reducible refine (HD.out _).mono ?_
 rintro e2 w2 ⟨rfl, hb2⟩
 have HW3 := hide (HW2.out.trans (hb2.mono HW2.out.size))
 clear hb2 HD HW2
 go_wp2_with fail
 exact bodyPost_ret (v := .tuple #[.int .u64 ((n / c : Nat) : Int), .int .u64 ((n % c : Nat) : Int), .bool true]) (by simp [results, Try.results81, go_sem]) rfl ⟨rfl, HW3.out⟩
-- a b / c, downwards, and upwards.
def divI (a b c : Nat) : Int := numI ((a * b / c : Nat) : Int)
def upI (a b c : Nat) : Int := if a * b % c = 0 then divI a b c else numI (divI a b c + 1)
set_option maxHeartbeats 2000000 in
theorem muldiv_any (a b c : Nat) (ha : a ≤ 9007199254740991) (hb : b ≤ 9007199254740991) (hc : c ≤ 9007199254740991) (hc1 : 1 ≤ c) (hab : a * b < 18446744073709551616) (w : World) :
  Calls Try.prog 69 #[ZI ZQ a, ZI ZQ b, ZI ZQ c] w fun e w' => e = .returned (ZI ZQ (divI a b c)) ∧ Below w.heap.size w w' := by
 have HP := hide (parts_any a b c ha hb hc hc1 hab w)
 unfold divI
 obtain ⟨q, hq⟩ : ∃ q, a * b / c = q := ⟨_, rfl⟩
 obtain ⟨r, hr⟩ : ∃ q, a * b % c = q := ⟨_, rfl⟩
 rw [hq, hr] at HP
 rw [hq]
 have HB := hide (fun W => jback_any (q : Int) (by omega) W)
 clear hq hr
 go_enter Try.func69, Try.ntmps69
 go_wp2_with fail
 with_reducible refine HP.out.mono ?_
 rintro e1 w1 ⟨rfl, hb1⟩
 go_wp2_with fail
 with_reducible refine (HB.out _).mono ?_
 rintro e2 w2 ⟨rfl, rfl⟩
 go_wp2_with fail
 go_ret
 exact ⟨rfl, hb1⟩
set_option maxHeartbeats 2000000 in
theorem mulup_any (a b c : Nat) (ha : a ≤ 9007199254740991) (hb : b ≤ 9007199254740991) (hc : c ≤ 9007199254740991) (hc1 : 1 ≤ c) (hab : a * b < 18446744073709551616) (w : World) :
  Calls Try.prog 84 #[ZI ZQ a, ZI ZQ b, ZI ZQ c] w fun e w' => e = .returned (ZI ZQ (upI a b c)) ∧ Below w.heap.size w w' := by
 have HP := hide (parts_any a b c ha hb hc hc1 hab w)
 unfold upI divI
 obtain ⟨q, hq⟩ : ∃ q, a * b / c = q := ⟨_, rfl⟩
 obtain ⟨r, hr⟩ : ∃ q, a * b % c = q := ⟨_, rfl⟩
 rw [hq, hr] at HP
 rw [hq, hr]
 have HB := hide (fun W => jback_any (q : Int) (by omega) W)
 have hbd := numI_bd (q : Int)
 obtain ⟨x, hx⟩ : ∃ m, numI (q : Int) = m := ⟨_, rfl⟩
 rw [hx] at HB hbd ⊢
 have HN := hide (fun W => jnum_any (x + 1) W)
 obtain ⟨y, hy⟩ : ∃ m, numI (x + 1) = m := ⟨_, rfl⟩
 rw [hy] at HN ⊢
 clear hq hr hx hy
 by_cases h0 : r = 0
 ·subst h0
  rw [if_pos rfl]
  go_enter Try.func84, Try.ntmps84
  go_wp2_with fail
  with_reducible refine HP.out.mono ?_
  rintro e1 w1 ⟨rfl, hb1⟩
  go_wp2_with fail
  with_reducible refine (HB.out _).mono ?_
  rintro e2 w2 ⟨rfl, rfl⟩
  go_wp2_with fail
  go_ret
  exact ⟨rfl, hb1⟩
 ·rw [if_neg h0]
  have h0i : (0 : Int) < (r : Int) := by omega
  go_enter Try.func84, Try.ntmps84
  go_wp2_with fail
  with_reducible refine HP.out.mono ?_
  rintro e1 w1 ⟨rfl, hb1⟩
  go_wp2_with fail
  with_reducible refine (HB.out _).mono ?_
  rintro e2 w2 ⟨rfl, rfl⟩
  go_wp2_with fail
  with_reducible refine (HN.out _).mono ?_
  rintro e2 w2 ⟨rfl, rfl⟩
  go_wp2_with fail
  go_ret
  exact ⟨rfl, hb1⟩
set_option maxHeartbeats 2000000 in
theorem jmul_any (a b : Nat) (ha : a ≤ 9007199254740991) (hb : b ≤ 9007199254740991) (hab : a * b < 18446744073709551616) (w : World) :
  Calls Try.prog 56 #[ZI ZQ a, ZI ZQ b] w fun e w' => e = .returned (ZI ZQ (numI ((a * b : Nat) : Int))) ∧ Below w.heap.size w w' := by
 have HP := hide (muldiv_any a b 1 ha hb (by omega) (by omega) hab w)
 unfold divI at HP
 rw [Nat.div_one] at HP
 obtain ⟨x, hx⟩ : ∃ m, numI ((a * b : Nat) : Int) = m := ⟨_, rfl⟩
 rw [hx] at HP ⊢
 clear hx
 go_enter Try.func56, Try.ntmps56
 go_wp2_with fail
 refine HP.out.mono ?_
 rintro e1 w1 ⟨rfl, hb1⟩
 go_wp2_with fail
 go_ret
 exact ⟨rfl, hb1⟩
end Go.Proofs.Ytidfngcclbhoaaa
