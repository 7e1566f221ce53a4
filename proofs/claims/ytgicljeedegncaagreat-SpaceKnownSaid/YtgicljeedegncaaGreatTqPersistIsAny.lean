/-
 3 texts in one (PtoAny, RefTimes, PersistIsAny).
-/
import Derived.Test.YtgicljeedegncaaGreatTqSpgGaps
namespace Go.Proofs.YtgicljeedegncaaGreat
open Go.Value renaming int → ZI
open Go.IntKind renaming i64 → ZQ
set_option linter.unusedSimpArgs false
set_option linter.unusedVariables false
open Go.RowKit

/-- A number, brought to be a time. -/
def timeOf (n : Int) : Int := if n < 0 then 0 else if 9007199254740991 < n then 9007199254740991 else n
theorem timeOf_le (n : Int) : 0 ≤ timeOf n ∧ timeOf n ≤ 9007199254740991 := by unfold timeOf; split; omega; split <;> omega
theorem ptotime_gen (n : Int) (w : World) : Calls Tryz.prog 168 #[ZI ZQ n] w fun e w' => e = .returned (ZI ZQ (timeOf n)) ∧ w = w' := by
 unfold timeOf
 by_cases h0 : n < 0
 ·rw [if_pos h0]
  have h1 : ¬ 9007199254740991 < n := by omega
  go_enter Tryz.func168, Tryz.ntmps168
  go_wp2
  all_goals
   go_ret
   simp
   try omega
 ·rw [if_neg h0]
  by_cases h1 : 9007199254740991 < n
  ·rw [if_pos h1]
   go_enter Tryz.func168, Tryz.ntmps168
   go_wp2
   all_goals
    go_ret
    simp
    try omega
  ·rw [if_neg h1]
   go_enter Tryz.func168, Tryz.ntmps168
   go_wp2
   all_goals
    go_ret
    simp
    try omega
/-- The wait of the application's space. -/
def baseAny (r : RT) (delay : Int) : Int := if rtC r = true then timeOf (r.smooth + (if 4 * r.var < 1000000 then 1000000 else 4 * r.var) + timeOf delay) else 0
theorem rtC_bounds {r : RT} (h : rtC r = true) : 0 ≤ r.smooth ∧ r.smooth ≤ 9007199254740991 ∧ 0 ≤ r.var ∧ r.var ≤ 9007199254740991 := by
 unfold rtC at h
 split at h
 ·simp only [Bool.and_eq_true, decide_eq_true_eq] at h
  obtain ⟨⟨⟨⟨h1, h2⟩, _⟩, _⟩, h5⟩ := h
  omega
 ·unfold isT at h
  simp only [Bool.and_eq_true, decide_eq_true_eq] at h
  obtain ⟨⟨⟨⟨_, h4⟩, h5⟩, _⟩, _⟩ := h
  omega
set_option maxRecDepth 100000 in
set_option maxHeartbeats 2000000 in
theorem ptobase_any (r : RT) (delay : Int) (w : World) (hs : (-9223372036854775808 ≤ r.smooth ∧ r.smooth ≤ 9223372036854775807)) : Calls Tryz.prog 169 #[rtV r, ZI ZQ 2, ZI ZQ delay] w fun e w' => e = .returned (ZI ZQ (baseAny r delay)) ∧ Below w.heap.size w w' := by
 have HCK := hide (rttcheck_any r (w.alloc (.cells #[ZI ZQ r.latest, ZI ZQ r.min, ZI ZQ r.smooth, ZI ZQ r.var, ZI ZQ r.first] 45)) hs)
 have hbw : Below w.heap.size w (w.alloc (.cells #[ZI ZQ r.latest, ZI ZQ r.min, ZI ZQ r.smooth, ZI ZQ r.var, ZI ZQ r.first] 45)) := (Below.refl _ _).alloc (Nat.le_refl _) _
 have hx := Blk.new w 45 #[ZI ZQ r.latest, ZI ZQ r.min, ZI ZQ r.smooth, ZI ZQ r.var, ZI ZQ r.first]
 have HRB := hide (fun h => rtC_bounds (r := r) h)
 unfold baseAny
 obtain ⟨T, hT⟩ : ∃ T, rtC r = T := ⟨_, rfl⟩
 rw [hT] at HCK HRB ⊢
 obtain ⟨la, mi, sm_, va, fi⟩ := r
 unfold rtV at *
 dsimp only at *
 have HBW := hide hbw
 have HX := hide hx
 clear hbw hx hT hs
 cases T with
 | false =>
  rw [if_neg (by simp)] at HCK ⊢
  go_enter Tryz.func169, Tryz.ntmps169
  go_wp2_with fail
  refine HCK.out.mono ?_
  rintro x1 w1 ⟨rfl, hb1⟩
  have HB1 := hide (bw_below' HBW.out hb1)
  clear hb1
  go_wp2_with fail
  go_ret
  exact ⟨rfl, HB1.out⟩
 | true =>
  rw [if_pos rfl] at HCK ⊢
  obtain ⟨b1, b2, b3, b4⟩ := HRB.out rfl
  obtain ⟨d0, d1⟩ := timeOf_le delay
  have HTD := hide (fun W => ptotime_gen delay W)
  obtain ⟨E, hE⟩ : ∃ E, timeOf delay = E := ⟨_, rfl⟩
  rw [hE] at HTD d0 d1 ⊢
  clear hE HRB
  by_cases c : 4 * va < 1000000
  ·rw [if_pos c]
   have c2 : ¬ 1000000 ≤ 4 * va := by omega
   have HTB := hide (fun W => ptotime_gen (sm_ + 1000000 + E) W)
   go_enter Tryz.func169, Tryz.ntmps169
   go_wp2_with fail
   refine HCK.out.mono ?_
   rintro x1 w1 ⟨rfl, hb1⟩
   have hx := (hb1.block _ HX.out.lt).trans HX.out
   have y2 := Blk.cell hx 2
   have y3 := Blk.cell hx 3
   have HB1 := hide (bw_below' HBW.out hb1)
   clear hb1 hx
   go_wp2_with fail
   all_goals
    refine (HTD.out _).mono ?_
    rintro x2 w2 ⟨rfl, rfl⟩
    go_wp2_with fail
    refine (HTB.out _).mono ?_
    rintro x3 w3 ⟨rfl, rfl⟩
    go_wp2_with fail
    go_ret
    exact ⟨rfl, HB1.out⟩
  ·rw [if_neg c]
   have c2 : 1000000 ≤ 4 * va := by omega
   have HTB := hide (fun W => ptotime_gen (sm_ + 4 * va + E) W)
   go_enter Tryz.func169, Tryz.ntmps169
   go_wp2_with fail
   refine HCK.out.mono ?_
   rintro x1 w1 ⟨rfl, hb1⟩
   have hx := (hb1.block _ HX.out.lt).trans HX.out
   have y2 := Blk.cell hx 2
   have y3 := Blk.cell hx 3
   have HB1 := hide (bw_below' HBW.out hb1)
   clear hb1 hx
   go_wp2_with fail
   all_goals
    refine (HTD.out _).mono ?_
    rintro x2 w2 ⟨rfl, rfl⟩
    go_wp2_with fail
    refine (HTB.out _).mono ?_
    rintro x3 w3 ⟨rfl, rfl⟩
    go_wp2_with fail
    go_ret
    exact ⟨rfl, HB1.out⟩
theorem baseAny_le (r : RT) (delay : Int) : 0 ≤ baseAny r delay ∧ baseAny r delay ≤ 9007199254740991 := by
 unfold baseAny
 split
 ·exact timeOf_le _
 ·omega
set_option maxRecDepth 100000 in
set_option maxHeartbeats 1000000 in
theorem ptopersist_any (r : RT) (delay : Int) (w : World) (hs : (-9223372036854775808 ≤ r.smooth ∧ r.smooth ≤ 9223372036854775807)) : Calls Tryz.prog 135 #[rtV r, ZI ZQ delay] w fun e w' => e = .returned (ZI ZQ (timeOf (3 * baseAny r delay))) ∧ Below w.heap.size w w' := by
 have HPB := hide (ptobase_any r delay (w.alloc (.cells #[ZI ZQ r.latest, ZI ZQ r.min, ZI ZQ r.smooth, ZI ZQ r.var, ZI ZQ r.first] 45)) hs)
 have hbw : Below w.heap.size w (w.alloc (.cells #[ZI ZQ r.latest, ZI ZQ r.min, ZI ZQ r.smooth, ZI ZQ r.var, ZI ZQ r.first] 45)) := (Below.refl _ _).alloc (Nat.le_refl _) _
 obtain ⟨hb0, hb1⟩ := baseAny_le r delay
 have HT := hide (fun W => ptotime_gen (3 * baseAny r delay) W)
 obtain ⟨B, hB⟩ : ∃ B, baseAny r delay = B := ⟨_, rfl⟩
 rw [hB] at HPB HT hb0 hb1 ⊢
 have HBW := hide hbw
 unfold rtV at *
 clear hbw hB hs
 go_enter Tryz.func135, Tryz.ntmps135
 go_wp2_with fail
 refine HPB.out.mono ?_
 rintro x1 w1 ⟨rfl, hb2⟩
 have HB1 := hide (bw_below' HBW.out hb2)
 clear hb2
 go_wp2_with fail
 refine (HT.out _).mono ?_
 rintro x2 w2 ⟨rfl, rfl⟩
 go_wp2_with fail
 go_ret
 exact ⟨rfl, HB1.out⟩
end Go.Proofs.YtgicljeedegncaaGreat

namespace Go.Proofs.YtgicljeedegncaaGreat
open Go.Value renaming int → ZI
open Go.IntKind renaming i64 → ZQ
set_option linter.unusedSimpArgs false
set_option linter.unusedVariables false
open Go.RowKit

theorem r07time_any (n : Int) (w : World) : Calls Tryz.prog 161 #[ZI ZQ n] w fun e w' => e = .returned (.bool (isT n)) ∧ w = w' := by
 unfold isT
 by_cases h1 : 0 ≤ n
 ·by_cases h2 : n ≤ 9007199254740991
  ·go_enter Tryz.func161, Tryz.ntmps161
   go_wp2
   go_ret
   simp [h1, h2]
  ·go_enter Tryz.func161, Tryz.ntmps161
   go_wp2
   go_ret
   simp [h1, h2]
 ·go_enter Tryz.func161, Tryz.ntmps161
  go_wp2
  go_ret
  have h1 : ¬ 0 ≤ n := by omega
  simp [h1]
theorem r09time_any (n : Int) (w : World) : Calls Tryz.prog 128 #[ZI ZQ n] w fun e w' => e = .returned (.bool (isT n)) ∧ w = w' := by
 unfold isT
 by_cases h1 : 0 ≤ n
 ·by_cases h2 : n ≤ 9007199254740991
  ·go_enter Tryz.func128, Tryz.ntmps128
   go_wp2
   go_ret
   simp [h1, h2]
  ·go_enter Tryz.func128, Tryz.ntmps128
   go_wp2
   go_ret
   simp [h1, h2]
 ·go_enter Tryz.func128, Tryz.ntmps128
  go_wp2
  go_ret
  have h1 : ¬ 0 ≤ n := by omega
  simp [h1]
theorem r01is_any (n : Int) (w : World) : Calls Tryz.prog 175 #[ZI ZQ n] w fun e w' => e = .returned (.bool (isT n)) ∧ w = w' := by
 unfold isT
 by_cases h1 : 0 ≤ n
 ·by_cases h2 : n ≤ 9007199254740991
  ·go_enter Tryz.func175, Tryz.ntmps175
   go_wp2
   go_ret
   simp [h1, h2]
  ·go_enter Tryz.func175, Tryz.ntmps175
   go_wp2
   go_ret
   simp [h1, h2]
 ·go_enter Tryz.func175, Tryz.ntmps175
  go_wp2
  go_ret
  have h1 : ¬ 0 ≤ n := by omega
  simp [h1]
set_option maxRecDepth 100000 in
set_option maxHeartbeats 2000000 in
theorem r07check_any (r : RT) (w : World) (hs : (-9223372036854775808 ≤ r.smooth ∧ r.smooth ≤ 9223372036854775807)) :
  Calls Tryz.prog 129 #[rtV r] w fun e w' => e = .returned (ZI ZQ (if rtC r = true then 0 else 2)) ∧ Below w.heap.size w w' := by
 have HBW := hide (show Below w.heap.size w (w.alloc (.cells #[ZI ZQ r.latest, ZI ZQ r.min, ZI ZQ r.smooth, ZI ZQ r.var, ZI ZQ r.first] 45)) from (Below.refl _ _).alloc (Nat.le_refl _) _)
 obtain ⟨la, mi, sm_, va, fi⟩ := r
 unfold rtC rtV
 dsimp only at *
 by_cases hf : fi = -1
 ·subst hf
  rw [if_pos rfl]
  obtain ⟨hs0, hs1⟩ := hs
  by_cases hr : 1000000 ≤ sm_ ∧ sm_ ≤ 60000000000
  ·obtain ⟨hr0, hr1⟩ := hr
   have n0 : ¬ sm_ < 1000000 := by omega
   have n1 : ¬ 60000000000 < sm_ := by omega
   by_cases e1 : la = 0
   ·by_cases e2 : mi = 0
    ·by_cases e3 : va = sm_ / 2
     ·subst e1 e2 e3
      rw [show (decide ((1000000 : Int) ≤ sm_) && decide (sm_ ≤ 60000000000) && decide ((0 : Int) = 0) && decide ((0 : Int) = 0) && decide (sm_ / 2 = sm_ / 2)) = true by simp [hr0, hr1], if_pos rfl]
      go_enter Tryz.func129, Tryz.ntmps129
      go_wp2_with fail
      go_ret
      exact ⟨rfl, HBW.out⟩
     ·have x3 : (va != sm_ / 2) = true := by rw [bne_iff_ne]; exact e3
      subst e1 e2
      rw [show (decide ((1000000 : Int) ≤ sm_) && decide (sm_ ≤ 60000000000) && decide ((0 : Int) = 0) && decide ((0 : Int) = 0) && decide (va = sm_ / 2)) = false by rw [decide_eq_false e3, Bool.and_false], if_neg (by simp)]
      clear e3
      go_enter Tryz.func129, Tryz.ntmps129
      go_wp2_with fail
      go_ret
      exact ⟨rfl, HBW.out⟩
    ·have x2 : (mi != 0) = true := by rw [bne_iff_ne]; exact e2
     subst e1
     rw [show (decide ((1000000 : Int) ≤ sm_) && decide (sm_ ≤ 60000000000) && decide ((0 : Int) = 0) && decide (mi = 0) && decide (va = sm_ / 2)) = false by rw [decide_eq_false e2, Bool.and_false, Bool.false_and], if_neg (by simp)]
     clear e2
     go_enter Tryz.func129, Tryz.ntmps129
     go_wp2_with fail
     go_ret
     exact ⟨rfl, HBW.out⟩
   ·have x1 : (la != 0) = true := by rw [bne_iff_ne]; exact e1
    rw [show (decide ((1000000 : Int) ≤ sm_) && decide (sm_ ≤ 60000000000) && decide (la = 0) && decide (mi = 0) && decide (va = sm_ / 2)) = false by rw [decide_eq_false e1, Bool.and_false, Bool.false_and, Bool.false_and], if_neg (by simp)]
    clear e1
    go_enter Tryz.func129, Tryz.ntmps129
    go_wp2_with fail
    go_ret
    exact ⟨rfl, HBW.out⟩
  ·have hno : (decide ((1000000 : Int) ≤ sm_) && decide (sm_ ≤ 60000000000) && decide (la = 0) && decide (mi = 0) && decide (va = sm_ / 2)) = false := by
    rw [Bool.eq_false_iff]
    intro h
    simp only [Bool.and_eq_true, decide_eq_true_eq] at h
    exact hr h.1.1.1
   rw [hno, if_neg (by simp)]
   have hr2 : sm_ < 1000000 ∨ (¬ sm_ < 1000000 ∧ 60000000000 < sm_) := by omega
   clear hno hr
   by_cases e1 : la = 0
   ·subst e1
    by_cases e2 : mi = 0
    ·subst e2
     rcases hr2 with hr2 | ⟨hr2, hr3⟩
     all_goals
      go_enter Tryz.func129, Tryz.ntmps129
      go_wp2_with fail
      go_ret
      exact ⟨rfl, HBW.out⟩
    ·have x2 : (mi != 0) = true := by rw [bne_iff_ne]; exact e2
     clear e2 hr2
     go_enter Tryz.func129, Tryz.ntmps129
     go_wp2_with fail
     go_ret
     exact ⟨rfl, HBW.out⟩
   ·have x1 : (la != 0) = true := by rw [bne_iff_ne]; exact e1
    clear e1 hr2
    go_enter Tryz.func129, Tryz.ntmps129
    go_wp2_with fail
    go_ret
    exact ⟨rfl, HBW.out⟩
 ·rw [if_neg hf]
  have hff : (fi == -1) = false := by rw [beq_eq_false_iff_ne]; exact hf
  have H1 := hide (fun W => r07time_any fi W)
  have H2 := hide (fun W => r07time_any la W)
  have H3 := hide (fun W => r07time_any mi W)
  have H4 := hide (fun W => r07time_any sm_ W)
  have H5 := hide (fun W => r07time_any va W)
  obtain ⟨t1, ht1⟩ : ∃ t, isT fi = t := ⟨_, rfl⟩
  obtain ⟨t2, ht2⟩ : ∃ t, isT la = t := ⟨_, rfl⟩
  obtain ⟨t3, ht3⟩ : ∃ t, isT mi = t := ⟨_, rfl⟩
  obtain ⟨t4, ht4⟩ : ∃ t, isT sm_ = t := ⟨_, rfl⟩
  obtain ⟨t5, ht5⟩ : ∃ t, isT va = t := ⟨_, rfl⟩
  rw [ht1] at H1
  rw [ht2] at H2
  rw [ht3] at H3
  rw [ht4] at H4
  rw [ht5] at H5
  rw [ht1, ht2, ht3, ht4, ht5]
  clear ht1 ht2 ht3 ht4 ht5 hf hs
  by_cases c1 : mi ≤ la <;> by_cases c2 : mi ≤ sm_
  all_goals
   first | rw [decide_eq_true c1] | rw [decide_eq_false c1]
   first | rw [decide_eq_true c2] | rw [decide_eq_false c2]
   go_enter Tryz.func129, Tryz.ntmps129
   go_wp2_with (first
    | (go_at_call 161; (with_reducible refine (H1.out _).mono ?_); rintro e1 w1 ⟨rfl, rfl⟩; cases t1)
    | (go_at_call 161; (with_reducible refine (H2.out _).mono ?_); rintro e1 w1 ⟨rfl, rfl⟩; cases t2)
    | (go_at_call 161; (with_reducible refine (H3.out _).mono ?_); rintro e1 w1 ⟨rfl, rfl⟩; cases t3)
    | (go_at_call 161; (with_reducible refine (H4.out _).mono ?_); rintro e1 w1 ⟨rfl, rfl⟩; cases t4)
    | (go_at_call 161; (with_reducible refine (H5.out _).mono ?_); rintro e1 w1 ⟨rfl, rfl⟩; cases t5))
   all_goals
    go_ret
    refine ⟨?_, HBW.out⟩
    simp
theorem r08time_gen (n : Int) (w : World) : Calls Tryz.prog 177 #[ZI ZQ n] w fun e w' => e = .returned (ZI ZQ (timeOf n)) ∧ w = w' := by
 unfold timeOf
 by_cases h0 : n < 0
 ·rw [if_pos h0]
  have h1 : ¬ 9007199254740991 < n := by omega
  go_enter Tryz.func177, Tryz.ntmps177
  go_wp2
  all_goals
   go_ret
   simp
   try omega
 ·rw [if_neg h0]
  by_cases h1 : 9007199254740991 < n
  ·rw [if_pos h1]
   go_enter Tryz.func177, Tryz.ntmps177
   go_wp2
   all_goals
    go_ret
    simp
    try omega
  ·rw [if_neg h1]
   go_enter Tryz.func177, Tryz.ntmps177
   go_wp2
   all_goals
    go_ret
    simp
    try omega
set_option maxRecDepth 100000 in
set_option maxHeartbeats 2000000 in
theorem r08base_any (r : RT) (delay : Int) (w : World) (hs : (-9223372036854775808 ≤ r.smooth ∧ r.smooth ≤ 9223372036854775807)) : Calls Tryz.prog 178 #[rtV r, ZI ZQ 2, ZI ZQ delay] w fun e w' => e = .returned (ZI ZQ (baseAny r delay)) ∧ Below w.heap.size w w' := by
 have HCK := hide (r07check_any r (w.alloc (.cells #[ZI ZQ r.latest, ZI ZQ r.min, ZI ZQ r.smooth, ZI ZQ r.var, ZI ZQ r.first] 45)) hs)
 have hbw : Below w.heap.size w (w.alloc (.cells #[ZI ZQ r.latest, ZI ZQ r.min, ZI ZQ r.smooth, ZI ZQ r.var, ZI ZQ r.first] 45)) := (Below.refl _ _).alloc (Nat.le_refl _) _
 have hx := Blk.new w 45 #[ZI ZQ r.latest, ZI ZQ r.min, ZI ZQ r.smooth, ZI ZQ r.var, ZI ZQ r.first]
 have HRB := hide (fun h => rtC_bounds (r := r) h)
 unfold baseAny
 obtain ⟨T, hT⟩ : ∃ T, rtC r = T := ⟨_, rfl⟩
 rw [hT] at HCK HRB ⊢
 obtain ⟨la, mi, sm_, va, fi⟩ := r
 unfold rtV at *
 dsimp only at *
 have HBW := hide hbw
 have HX := hide hx
 clear hbw hx hT hs
 cases T with
 | false =>
  rw [if_neg (by simp)] at HCK ⊢
  go_enter Tryz.func178, Tryz.ntmps178
  go_wp2_with fail
  refine HCK.out.mono ?_
  rintro x1 w1 ⟨rfl, hb1⟩
  have HB1 := hide (bw_below' HBW.out hb1)
  clear hb1
  go_wp2_with fail
  go_ret
  exact ⟨rfl, HB1.out⟩
 | true =>
  rw [if_pos rfl] at HCK ⊢
  obtain ⟨b1, b2, b3, b4⟩ := HRB.out rfl
  obtain ⟨d0, d1⟩ := timeOf_le delay
  have HTD := hide (fun W => r08time_gen delay W)
  obtain ⟨E, hE⟩ : ∃ E, timeOf delay = E := ⟨_, rfl⟩
  rw [hE] at HTD d0 d1 ⊢
  clear hE HRB
  by_cases c : 4 * va < 1000000
  ·rw [if_pos c]
   have c2 : ¬ 1000000 ≤ 4 * va := by omega
   have HTB := hide (fun W => r08time_gen (sm_ + 1000000 + E) W)
   go_enter Tryz.func178, Tryz.ntmps178
   go_wp2_with fail
   refine HCK.out.mono ?_
   rintro x1 w1 ⟨rfl, hb1⟩
   have hx := (hb1.block _ HX.out.lt).trans HX.out
   have y2 := Blk.cell hx 2
   have y3 := Blk.cell hx 3
   have HB1 := hide (bw_below' HBW.out hb1)
   clear hb1 hx
   go_wp2_with fail
   all_goals
    refine (HTD.out _).mono ?_
    rintro x2 w2 ⟨rfl, rfl⟩
    go_wp2_with fail
    refine (HTB.out _).mono ?_
    rintro x3 w3 ⟨rfl, rfl⟩
    go_wp2_with fail
    go_ret
    exact ⟨rfl, HB1.out⟩
  ·rw [if_neg c]
   have c2 : 1000000 ≤ 4 * va := by omega
   have HTB := hide (fun W => r08time_gen (sm_ + 4 * va + E) W)
   go_enter Tryz.func178, Tryz.ntmps178
   go_wp2_with fail
   refine HCK.out.mono ?_
   rintro x1 w1 ⟨rfl, hb1⟩
   have hx := (hb1.block _ HX.out.lt).trans HX.out
   have y2 := Blk.cell hx 2
   have y3 := Blk.cell hx 3
   have HB1 := hide (bw_below' HBW.out hb1)
   clear hb1 hx
   go_wp2_with fail
   all_goals
    refine (HTD.out _).mono ?_
    rintro x2 w2 ⟨rfl, rfl⟩
    go_wp2_with fail
    refine (HTB.out _).mono ?_
    rintro x3 w3 ⟨rfl, rfl⟩
    go_wp2_with fail
    go_ret
    exact ⟨rfl, HB1.out⟩
set_option maxRecDepth 100000 in
set_option maxHeartbeats 1000000 in
theorem r08persist_any (r : RT) (delay : Int) (w : World) (hs : (-9223372036854775808 ≤ r.smooth ∧ r.smooth ≤ 9223372036854775807)) : Calls Tryz.prog 164 #[rtV r, ZI ZQ delay] w fun e w' => e = .returned (ZI ZQ (timeOf (3 * baseAny r delay))) ∧ Below w.heap.size w w' := by
 have HPB := hide (r08base_any r delay (w.alloc (.cells #[ZI ZQ r.latest, ZI ZQ r.min, ZI ZQ r.smooth, ZI ZQ r.var, ZI ZQ r.first] 45)) hs)
 have hbw : Below w.heap.size w (w.alloc (.cells #[ZI ZQ r.latest, ZI ZQ r.min, ZI ZQ r.smooth, ZI ZQ r.var, ZI ZQ r.first] 45)) := (Below.refl _ _).alloc (Nat.le_refl _) _
 obtain ⟨hb0, hb1⟩ := baseAny_le r delay
 have HT := hide (fun W => r08time_gen (3 * baseAny r delay) W)
 obtain ⟨B, hB⟩ : ∃ B, baseAny r delay = B := ⟨_, rfl⟩
 rw [hB] at HPB HT hb0 hb1 ⊢
 have HBW := hide hbw
 unfold rtV at *
 clear hbw hB hs
 go_enter Tryz.func164, Tryz.ntmps164
 go_wp2_with fail
 refine HPB.out.mono ?_
 rintro x1 w1 ⟨rfl, hb2⟩
 have HB1 := hide (bw_below' HBW.out hb2)
 clear hb2
 go_wp2_with fail
 refine (HT.out _).mono ?_
 rintro x2 w2 ⟨rfl, rfl⟩
 go_wp2_with fail
 go_ret
 exact ⟨rfl, HB1.out⟩
end Go.Proofs.YtgicljeedegncaaGreat

namespace Go.Proofs.YtgicljeedegncaaGreat
open Go.Value renaming int → ZI
open Go.IntKind renaming i64 → ZQ
set_option linter.unusedSimpArgs false
set_option linter.unusedVariables false
open Go.RowKit

set_option maxRecDepth 100000 in
set_option maxHeartbeats 1000000 in
theorem persistis_any (a : Option Addr) (n cap : Nat) (ps : List PK) (q : Option Addr) (rs : List Rg) (r : RT) (delay : Int) (w : World) (hn : ps.length = n) (hcap : n ≤ cap) (hP : PksAt w a ps) (ha : ∀ k o, a = some ⟨k, o, none⟩ → k < w.heap.size) (hA : AckAt w (.pointer q) rs)
  (hsm : (-9223372036854775808 ≤ r.smooth ∧ r.smooth ≤ 9223372036854775807)) :
  Calls Tryz.prog 91 #[.slice a n cap, .pointer q, rtV r, ZI ZQ delay] w fun e w' => e = .returned (.bool ((periodOf rs r.first ps).some && rtC r && decide (timeOf (3 * baseAny r delay) < (periodOf rs r.first ps).d))) ∧ Below w.heap.size w w' := by
 have hbw : Below w.heap.size w (w.alloc (.cells #[ZI ZQ r.latest, ZI ZQ r.min, ZI ZQ r.smooth, ZI ZQ r.var, ZI ZQ r.first] 45)) := (Below.refl _ _).alloc (Nat.le_refl _) _
 have hx := Blk.new w 45 #[ZI ZQ r.latest, ZI ZQ r.min, ZI ZQ r.smooth, ZI ZQ r.var, ZI ZQ r.first]
 have HPE := hide (period_any a n cap ps q rs r.first (w.alloc (.cells #[ZI ZQ r.latest, ZI ZQ r.min, ZI ZQ r.smooth, ZI ZQ r.var, ZI ZQ r.first] 45)) hn hcap (hP.below hbw (Nat.le_refl _)) (fun k o e => Nat.lt_of_lt_of_le (ha k o e) hbw.size) (hA.below hbw))
 have HCK := hide (fun W => rttcheck_any r W hsm)
 have HPT := hide (fun W => ptopersist_any r delay W hsm)
 obtain ⟨st, hst⟩ : ∃ st, periodOf rs r.first ps = st := ⟨_, rfl⟩
 obtain ⟨V, hV⟩ : ∃ V, timeOf (3 * baseAny r delay) = V := ⟨_, rfl⟩
 obtain ⟨T, hT⟩ : ∃ T, rtC r = T := ⟨_, rfl⟩
 rw [hT] at HCK ⊢
 rw [hst] at HPE ⊢
 rw [hV] at HPT ⊢
 have HBW := hide hbw
 have HX := hide hx
 clear hbw hx hst hV hT hn hP ha hA hsm
 obtain ⟨la, mi, sm_, va, fi⟩ := r
 obtain ⟨d, lo, hi, sm⟩ := st
 unfold rtV perV at *
 dsimp only at *
 cases sm with
 | false =>
  go_enter Tryz.func91, Tryz.ntmps91
  go_wp2_with fail
  refine HPE.out.mono ?_
  rintro x1 w1 ⟨rfl, hb1⟩
  have HB1 := hide (bw_below' HBW.out hb1)
  clear hb1
  go_wp2_with fail
  go_ret
  exact ⟨rfl, HB1.out⟩
 | true =>
  cases T with
  | false =>
   simp only [Bool.false_eq_true, if_false] at HCK
   go_enter Tryz.func91, Tryz.ntmps91
   go_wp2_with fail
   refine HPE.out.mono ?_
   rintro x1 w1 ⟨rfl, hb1⟩
   have HX1 := hide ((hb1.block _ HX.out.lt).trans HX.out)
   have HB1 := hide (bw_below' HBW.out hb1)
   clear hb1 HX
   have c0 := Blk.cell HX1.out 0
   have c1 := Blk.cell HX1.out 1
   have c2 := Blk.cell HX1.out 2
   have c3 := Blk.cell HX1.out 3
   have c4 := Blk.cell HX1.out 4
   go_wp2_with fail
   refine (HCK.out _).mono ?_
   rintro x2 w2 ⟨rfl, hb2⟩
   have HB2 := hide (bw_below' HB1.out hb2)
   clear hb2 HX1 HB1 c0 c1 c2 c3 c4
   go_wp2_with fail
   go_ret
   exact ⟨rfl, HB2.out⟩
  | true =>
   simp only [if_true] at HCK
   go_enter Tryz.func91, Tryz.ntmps91
   go_wp2_with fail
   refine HPE.out.mono ?_
   rintro x1 w1 ⟨rfl, hb1⟩
   have HX1 := hide ((hb1.block _ HX.out.lt).trans HX.out)
   have HB1 := hide (bw_below' HBW.out hb1)
   clear hb1 HX
   have c0 := Blk.cell HX1.out 0
   have c1 := Blk.cell HX1.out 1
   have c2 := Blk.cell HX1.out 2
   have c3 := Blk.cell HX1.out 3
   have c4 := Blk.cell HX1.out 4
   go_wp2_with fail
   refine (HCK.out _).mono ?_
   rintro x2 w2 ⟨rfl, hb2⟩
   have HX2 := hide ((hb2.block _ (Blk.lt HX1.out)).trans HX1.out)
   have HB2 := hide (bw_below' HB1.out hb2)
   clear hb2 HX1 HB1 c0 c1 c2 c3 c4
   have c0 := Blk.cell HX2.out 0
   have c1 := Blk.cell HX2.out 1
   have c2 := Blk.cell HX2.out 2
   have c3 := Blk.cell HX2.out 3
   have c4 := Blk.cell HX2.out 4
   go_wp2_with fail
   refine (HPT.out _).mono ?_
   rintro x3 w3 ⟨rfl, hb3⟩
   have HB3 := hide (bw_below' HB2.out hb3)
   clear hb3 c0 c1 c2 c3 c4
   go_wp2_with fail
   go_ret
   exact ⟨rfl, HB3.out⟩
end Go.Proofs.YtgicljeedegncaaGreat
