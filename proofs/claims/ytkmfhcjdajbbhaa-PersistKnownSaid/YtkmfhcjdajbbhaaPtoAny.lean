/-
  Layer 8 (package pto), layer 10's Is: at any measure, any delay.
-/
import Derived.Test.YtkmfhcjdajbbhaaRttAny
namespace Go.Proofs.Ytkmfhcjdajbbhaa
set_option linter.unusedSimpArgs false
set_option linter.unusedVariables false
open Go.RowKit

/-- A number, brought to be a time. -/
def timeOf (n : Int) : Int := if n < 0 then 0 else if 9007199254740991 < n then 9007199254740991 else n
theorem timeOf_le (n : Int) : 0 ≤ timeOf n ∧ timeOf n ≤ 9007199254740991 := by unfold timeOf; split; omega; split <;> omega
theorem ptotime_gen (n : Int) (w : World) : Calls Try.prog 80 #[.int .i64 n] w fun e w' => e = .returned (.int .i64 (timeOf n)) ∧ w = w' := by
  unfold timeOf
  by_cases h0 : n < 0
  · rw [if_pos h0]
    have h1 : ¬ 9007199254740991 < n := by omega
    go_enter Try.func80, Try.ntmps80
    go_wp2
    all_goals
      go_ret
      simp
      try omega
  · rw [if_neg h0]
    by_cases h1 : 9007199254740991 < n
    · rw [if_pos h1]
      go_enter Try.func80, Try.ntmps80
      go_wp2
      all_goals
        go_ret
        simp
        try omega
    · rw [if_neg h1]
      go_enter Try.func80, Try.ntmps80
      go_wp2
      all_goals
        go_ret
        simp
        try omega
/-- The wait of the application's space. -/
def baseAny (r : RT) (delay : Int) : Int := if rtC r = true then timeOf (r.smooth + (if 4 * r.var < 1000000 then 1000000 else 4 * r.var) + timeOf delay) else 0
theorem rtC_bounds {r : RT} (h : rtC r = true) : 0 ≤ r.smooth ∧ r.smooth ≤ 9007199254740991 ∧ 0 ≤ r.var ∧ r.var ≤ 9007199254740991 := by
  unfold rtC at h
  split at h
  · simp only [Bool.and_eq_true, decide_eq_true_eq] at h
    obtain ⟨⟨⟨⟨h1, h2⟩, _⟩, _⟩, h5⟩ := h
    omega
  · unfold isT at h
    simp only [Bool.and_eq_true, decide_eq_true_eq] at h
    obtain ⟨⟨⟨⟨_, h4⟩, h5⟩, _⟩, _⟩ := h
    omega
set_option maxRecDepth 100000 in
set_option maxHeartbeats 2000000 in
theorem ptobase_any (r : RT) (delay : Int) (w : World) (hs : (-9223372036854775808 ≤ r.smooth ∧ r.smooth ≤ 9223372036854775807)) : Calls Try.prog 81 #[rtV r, .int .i64 2, .int .i64 delay] w fun e w' => e = .returned (.int .i64 (baseAny r delay)) ∧ Below w.heap.size w w' := by
  have HCK := hide (rttcheck_any r (w.alloc (.cells #[.int .i64 r.latest, .int .i64 r.min, .int .i64 r.smooth, .int .i64 r.var, .int .i64 r.first] 53)) hs)
  have hbw : Below w.heap.size w (w.alloc (.cells #[.int .i64 r.latest, .int .i64 r.min, .int .i64 r.smooth, .int .i64 r.var, .int .i64 r.first] 53)) := (Below.refl _ _).alloc (Nat.le_refl _) _
  have hx := Blk.new w 53 #[.int .i64 r.latest, .int .i64 r.min, .int .i64 r.smooth, .int .i64 r.var, .int .i64 r.first]
  have HRB := hide (fun h => rtC_bounds (r := r) h)
  unfold baseAny
  obtain ⟨T, hT⟩ : ∃ T, rtC r = T := ⟨_, rfl⟩
  rw [hT] at HCK HRB ⊢
  obtain ⟨la, mi, sm_, va, fi⟩ := r
  unfold rtV at *
  dsimp only at *
  have HBW := hide hbw
  have HX := hide hx
  clear hbw hx hT hs
  cases T with
  | false =>
    rw [if_neg (by simp)] at HCK ⊢
    go_enter Try.func81, Try.ntmps81
    go_wp2_with fail
    refine HCK.out.mono ?_
    rintro x1 w1 ⟨rfl, hb1⟩
    have HB1 := hide (bw_below' HBW.out hb1)
    clear hb1
    go_wp2_with fail
    go_ret
    exact ⟨rfl, HB1.out⟩
  | true =>
    rw [if_pos rfl] at HCK ⊢
    obtain ⟨b1, b2, b3, b4⟩ := HRB.out rfl
    obtain ⟨d0, d1⟩ := timeOf_le delay
    have HTD := hide (fun W => ptotime_gen delay W)
    obtain ⟨E, hE⟩ : ∃ E, timeOf delay = E := ⟨_, rfl⟩
    rw [hE] at HTD d0 d1 ⊢
    clear hE HRB
    by_cases c : 4 * va < 1000000
    · rw [if_pos c]
      have c2 : ¬ 1000000 ≤ 4 * va := by omega
      have HTB := hide (fun W => ptotime_gen (sm_ + 1000000 + E) W)
      go_enter Try.func81, Try.ntmps81
      go_wp2_with fail
      refine HCK.out.mono ?_
      rintro x1 w1 ⟨rfl, hb1⟩
      have hx := (hb1.block _ HX.out.lt).trans HX.out
      have y2 := Blk.cell hx 2
      have y3 := Blk.cell hx 3
      have HB1 := hide (bw_below' HBW.out hb1)
      clear hb1 hx
      go_wp2_with fail
      all_goals
        refine (HTD.out _).mono ?_
        rintro x2 w2 ⟨rfl, rfl⟩
        go_wp2_with fail
        refine (HTB.out _).mono ?_
        rintro x3 w3 ⟨rfl, rfl⟩
        go_wp2_with fail
        go_ret
        exact ⟨rfl, HB1.out⟩
    · rw [if_neg c]
      have c2 : 1000000 ≤ 4 * va := by omega
      have HTB := hide (fun W => ptotime_gen (sm_ + 4 * va + E) W)
      go_enter Try.func81, Try.ntmps81
      go_wp2_with fail
      refine HCK.out.mono ?_
      rintro x1 w1 ⟨rfl, hb1⟩
      have hx := (hb1.block _ HX.out.lt).trans HX.out
      have y2 := Blk.cell hx 2
      have y3 := Blk.cell hx 3
      have HB1 := hide (bw_below' HBW.out hb1)
      clear hb1 hx
      go_wp2_with fail
      all_goals
        refine (HTD.out _).mono ?_
        rintro x2 w2 ⟨rfl, rfl⟩
        go_wp2_with fail
        refine (HTB.out _).mono ?_
        rintro x3 w3 ⟨rfl, rfl⟩
        go_wp2_with fail
        go_ret
        exact ⟨rfl, HB1.out⟩
theorem baseAny_le (r : RT) (delay : Int) : 0 ≤ baseAny r delay ∧ baseAny r delay ≤ 9007199254740991 := by
  unfold baseAny
  split
  · exact timeOf_le _
  · omega
set_option maxRecDepth 100000 in
set_option maxHeartbeats 1000000 in
theorem ptopersist_any (r : RT) (delay : Int) (w : World) (hs : (-9223372036854775808 ≤ r.smooth ∧ r.smooth ≤ 9223372036854775807)) : Calls Try.prog 57 #[rtV r, .int .i64 delay] w fun e w' => e = .returned (.int .i64 (timeOf (3 * baseAny r delay))) ∧ Below w.heap.size w w' := by
  have HPB := hide (ptobase_any r delay (w.alloc (.cells #[.int .i64 r.latest, .int .i64 r.min, .int .i64 r.smooth, .int .i64 r.var, .int .i64 r.first] 53)) hs)
  have hbw : Below w.heap.size w (w.alloc (.cells #[.int .i64 r.latest, .int .i64 r.min, .int .i64 r.smooth, .int .i64 r.var, .int .i64 r.first] 53)) := (Below.refl _ _).alloc (Nat.le_refl _) _
  obtain ⟨hb0, hb1⟩ := baseAny_le r delay
  have HT := hide (fun W => ptotime_gen (3 * baseAny r delay) W)
  obtain ⟨B, hB⟩ : ∃ B, baseAny r delay = B := ⟨_, rfl⟩
  rw [hB] at HPB HT hb0 hb1 ⊢
  have HBW := hide hbw
  unfold rtV at *
  clear hbw hB hs
  go_enter Try.func57, Try.ntmps57
  go_wp2_with fail
  refine HPB.out.mono ?_
  rintro x1 w1 ⟨rfl, hb2⟩
  have HB1 := hide (bw_below' HBW.out hb2)
  clear hb2
  go_wp2_with fail
  refine (HT.out _).mono ?_
  rintro x2 w2 ⟨rfl, rfl⟩
  go_wp2_with fail
  go_ret
  exact ⟨rfl, HB1.out⟩
end Go.Proofs.Ytkmfhcjdajbbhaa
