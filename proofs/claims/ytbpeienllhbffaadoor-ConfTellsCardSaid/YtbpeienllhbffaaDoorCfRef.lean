/-
  The document's Check, numbers, names, digits, Text of layer 20: their walks.
-/
import Derived.Test.YtbpeienllhbffaaDoorCfWorks
import Derived.Test.YtbpeienllhbffaaDoorCfEdges
namespace Go.Proofs.YtbpeienllhbffaaDoor
set_option linter.unusedSimpArgs false
set_option linter.unusedVariables false
open Go.RowKit Go.Shelf

theorem in20_is (n lo hi : Int) (w : World) (b : Bool) (hb : (decide (lo ≤ n) && decide (n ≤ hi)) = b) : Calls Tryd.prog 59 #[.int .i64 n, .int .i64 lo, .int .i64 hi] w fun e w' => e = .returned (.bool b) ∧ w = w' := by
  subst hb
  by_cases h1 : lo ≤ n
  · by_cases h2 : n ≤ hi
    · rw [decide_eq_true h1, decide_eq_true h2]
      go_enter Tryd.func59, Tryd.ntmps59
      go_wp2
      go_ret
      exact ⟨rfl, rfl⟩
    · rw [decide_eq_true h1, decide_eq_false h2]
      go_enter Tryd.func59, Tryd.ntmps59
      go_wp2
      go_ret
      exact ⟨rfl, rfl⟩
  · rw [decide_eq_false h1]
    go_enter Tryd.func59, Tryd.ntmps59
    go_wp2
    go_ret
    exact ⟨rfl, rfl⟩
theorem in_yes {n lo hi : Int} (h : lo ≤ n ∧ n ≤ hi) : (decide (lo ≤ n) && decide (n ≤ hi)) = true := by rw [decide_eq_true h.1, decide_eq_true h.2]; rfl
theorem in_not {n lo hi : Int} (h : ¬ (lo ≤ n ∧ n ≤ hi)) : (decide (lo ≤ n) && decide (n ≤ hi)) = false := by
  rw [Bool.and_eq_false_iff, decide_eq_false_iff_not, decide_eq_false_iff_not]
  omega
set_option maxRecDepth 100000 in
set_option maxHeartbeats 4000000 in
theorem check20_any (c : CF) (w : World) : Calls Tryd.prog 32 #[.agg (confC c)] w fun e w' => e = .returned (.int .i64 (errC c)) ∧ Below w.heap.size w w' := by
  have hk := ok_rows (c := c)
  have h9 := fun (h : ¬ okC c = true) => err_no0 h
  have h0 := fun (h : okC c = true) => err_ok.2 h
  obtain ⟨er, her⟩ : ∃ er, errC c = er := ⟨_, rfl⟩
  rw [her] at h9 h0 ⊢
  obtain ⟨sv, d, first, most, rtt, delay, ex, burst, room, backs⟩ := c
  simp only [confC] at hk h9 h0 ⊢
  by_cases q0 : 1200 ≤ d ∧ d ≤ 65527
  · have I0 := hide (fun W => in20_is d (1200) (65527) W true (in_yes q0))
    by_cases q1 : 2 * d ≤ most ∧ most ≤ 1099511627776
    · have I1 := hide (fun W => in20_is most (2 * d) (1099511627776) W true (in_yes q1))
      by_cases q2 : 2 * d ≤ first ∧ first ≤ most
      · have I2 := hide (fun W => in20_is first (2 * d) (most) W true (in_yes q2))
        by_cases q3 : 1000000 ≤ rtt ∧ rtt ≤ 60000000000
        · have I3 := hide (fun W => in20_is rtt (1000000) (60000000000) W true (in_yes q3))
          by_cases q4 : 0 ≤ delay ∧ delay ≤ 16384000000
          · have I4 := hide (fun W => in20_is delay (0) (16384000000) W true (in_yes q4))
            by_cases q5 : 0 ≤ ex ∧ ex ≤ 20
            · have I5 := hide (fun W => in20_is ex (0) (20) W true (in_yes q5))
              by_cases q6 : d ≤ burst ∧ burst ≤ 1073741824
              · have I6 := hide (fun W => in20_is burst (d) (1073741824) W true (in_yes q6))
                by_cases q7 : 2 ≤ room ∧ room ≤ 256
                · have I7 := hide (fun W => in20_is room (2) (256) W true (in_yes q7))
                  by_cases q8 : 0 ≤ backs ∧ backs ≤ 10
                  · have I8 := hide (fun W => in20_is backs (0) (10) W true (in_yes q8))
                    obtain rfl : er = 0 := h0 (hk.2 ⟨q0, q2, q1, q3, q4, q5, q6, q7, q8⟩)
                    clear hk h9 h0 her q1 q2 q3 q4 q5 q6 q7 q8
                    go_enter Tryd.func32, Tryd.ntmps32
                    go_wp2_with fail
                    refine (I0.out _).mono ?_
                    rintro e0 w0 ⟨rfl, rfl⟩
                    go_wp2_with fail
                    refine (I1.out _).mono ?_
                    rintro e1 w1 ⟨rfl, rfl⟩
                    go_wp2_with fail
                    refine (I2.out _).mono ?_
                    rintro e2 w2 ⟨rfl, rfl⟩
                    go_wp2_with fail
                    refine (I3.out _).mono ?_
                    rintro e3 w3 ⟨rfl, rfl⟩
                    go_wp2_with fail
                    refine (I4.out _).mono ?_
                    rintro e4 w4 ⟨rfl, rfl⟩
                    go_wp2_with fail
                    refine (I5.out _).mono ?_
                    rintro e5 w5 ⟨rfl, rfl⟩
                    go_wp2_with fail
                    refine (I6.out _).mono ?_
                    rintro e6 w6 ⟨rfl, rfl⟩
                    go_wp2_with fail
                    refine (I7.out _).mono ?_
                    rintro e7 w7 ⟨rfl, rfl⟩
                    go_wp2_with fail
                    refine (I8.out _).mono ?_
                    rintro e8 w8 ⟨rfl, rfl⟩
                    go_wp2_with fail
                    go_ret
                    exact ⟨rfl, (Below.refl _ _).alloc (Nat.le_refl _) _⟩
                  · have I8 := hide (fun W => in20_is backs (0) (10) W false (in_not q8))
                    obtain rfl : er = 9 := h9 (fun e => q8 (hk.1 e).2.2.2.2.2.2.2.2)
                    clear hk h9 h0 her q1 q2 q3 q4 q5 q6 q7 q8
                    go_enter Tryd.func32, Tryd.ntmps32
                    go_wp2_with fail
                    refine (I0.out _).mono ?_
                    rintro e0 w0 ⟨rfl, rfl⟩
                    go_wp2_with fail
                    refine (I1.out _).mono ?_
                    rintro e1 w1 ⟨rfl, rfl⟩
                    go_wp2_with fail
                    refine (I2.out _).mono ?_
                    rintro e2 w2 ⟨rfl, rfl⟩
                    go_wp2_with fail
                    refine (I3.out _).mono ?_
                    rintro e3 w3 ⟨rfl, rfl⟩
                    go_wp2_with fail
                    refine (I4.out _).mono ?_
                    rintro e4 w4 ⟨rfl, rfl⟩
                    go_wp2_with fail
                    refine (I5.out _).mono ?_
                    rintro e5 w5 ⟨rfl, rfl⟩
                    go_wp2_with fail
                    refine (I6.out _).mono ?_
                    rintro e6 w6 ⟨rfl, rfl⟩
                    go_wp2_with fail
                    refine (I7.out _).mono ?_
                    rintro e7 w7 ⟨rfl, rfl⟩
                    go_wp2_with fail
                    refine (I8.out _).mono ?_
                    rintro e8 w8 ⟨rfl, rfl⟩
                    go_wp2_with fail
                    go_ret
                    exact ⟨rfl, (Below.refl _ _).alloc (Nat.le_refl _) _⟩
                · have I7 := hide (fun W => in20_is room (2) (256) W false (in_not q7))
                  obtain rfl : er = 9 := h9 (fun e => q7 (hk.1 e).2.2.2.2.2.2.2.1)
                  clear hk h9 h0 her q1 q2 q3 q4 q5 q6 q7
                  go_enter Tryd.func32, Tryd.ntmps32
                  go_wp2_with fail
                  refine (I0.out _).mono ?_
                  rintro e0 w0 ⟨rfl, rfl⟩
                  go_wp2_with fail
                  refine (I1.out _).mono ?_
                  rintro e1 w1 ⟨rfl, rfl⟩
                  go_wp2_with fail
                  refine (I2.out _).mono ?_
                  rintro e2 w2 ⟨rfl, rfl⟩
                  go_wp2_with fail
                  refine (I3.out _).mono ?_
                  rintro e3 w3 ⟨rfl, rfl⟩
                  go_wp2_with fail
                  refine (I4.out _).mono ?_
                  rintro e4 w4 ⟨rfl, rfl⟩
                  go_wp2_with fail
                  refine (I5.out _).mono ?_
                  rintro e5 w5 ⟨rfl, rfl⟩
                  go_wp2_with fail
                  refine (I6.out _).mono ?_
                  rintro e6 w6 ⟨rfl, rfl⟩
                  go_wp2_with fail
                  refine (I7.out _).mono ?_
                  rintro e7 w7 ⟨rfl, rfl⟩
                  go_wp2_with fail
                  go_ret
                  exact ⟨rfl, (Below.refl _ _).alloc (Nat.le_refl _) _⟩
              · have I6 := hide (fun W => in20_is burst (d) (1073741824) W false (in_not q6))
                obtain rfl : er = 9 := h9 (fun e => q6 (hk.1 e).2.2.2.2.2.2.1)
                clear hk h9 h0 her q1 q2 q3 q4 q5 q6
                go_enter Tryd.func32, Tryd.ntmps32
                go_wp2_with fail
                refine (I0.out _).mono ?_
                rintro e0 w0 ⟨rfl, rfl⟩
                go_wp2_with fail
                refine (I1.out _).mono ?_
                rintro e1 w1 ⟨rfl, rfl⟩
                go_wp2_with fail
                refine (I2.out _).mono ?_
                rintro e2 w2 ⟨rfl, rfl⟩
                go_wp2_with fail
                refine (I3.out _).mono ?_
                rintro e3 w3 ⟨rfl, rfl⟩
                go_wp2_with fail
                refine (I4.out _).mono ?_
                rintro e4 w4 ⟨rfl, rfl⟩
                go_wp2_with fail
                refine (I5.out _).mono ?_
                rintro e5 w5 ⟨rfl, rfl⟩
                go_wp2_with fail
                refine (I6.out _).mono ?_
                rintro e6 w6 ⟨rfl, rfl⟩
                go_wp2_with fail
                go_ret
                exact ⟨rfl, (Below.refl _ _).alloc (Nat.le_refl _) _⟩
            · have I5 := hide (fun W => in20_is ex (0) (20) W false (in_not q5))
              obtain rfl : er = 9 := h9 (fun e => q5 (hk.1 e).2.2.2.2.2.1)
              clear hk h9 h0 her q1 q2 q3 q4 q5
              go_enter Tryd.func32, Tryd.ntmps32
              go_wp2_with fail
              refine (I0.out _).mono ?_
              rintro e0 w0 ⟨rfl, rfl⟩
              go_wp2_with fail
              refine (I1.out _).mono ?_
              rintro e1 w1 ⟨rfl, rfl⟩
              go_wp2_with fail
              refine (I2.out _).mono ?_
              rintro e2 w2 ⟨rfl, rfl⟩
              go_wp2_with fail
              refine (I3.out _).mono ?_
              rintro e3 w3 ⟨rfl, rfl⟩
              go_wp2_with fail
              refine (I4.out _).mono ?_
              rintro e4 w4 ⟨rfl, rfl⟩
              go_wp2_with fail
              refine (I5.out _).mono ?_
              rintro e5 w5 ⟨rfl, rfl⟩
              go_wp2_with fail
              go_ret
              exact ⟨rfl, (Below.refl _ _).alloc (Nat.le_refl _) _⟩
          · have I4 := hide (fun W => in20_is delay (0) (16384000000) W false (in_not q4))
            obtain rfl : er = 9 := h9 (fun e => q4 (hk.1 e).2.2.2.2.1)
            clear hk h9 h0 her q1 q2 q3 q4
            go_enter Tryd.func32, Tryd.ntmps32
            go_wp2_with fail
            refine (I0.out _).mono ?_
            rintro e0 w0 ⟨rfl, rfl⟩
            go_wp2_with fail
            refine (I1.out _).mono ?_
            rintro e1 w1 ⟨rfl, rfl⟩
            go_wp2_with fail
            refine (I2.out _).mono ?_
            rintro e2 w2 ⟨rfl, rfl⟩
            go_wp2_with fail
            refine (I3.out _).mono ?_
            rintro e3 w3 ⟨rfl, rfl⟩
            go_wp2_with fail
            refine (I4.out _).mono ?_
            rintro e4 w4 ⟨rfl, rfl⟩
            go_wp2_with fail
            go_ret
            exact ⟨rfl, (Below.refl _ _).alloc (Nat.le_refl _) _⟩
        · have I3 := hide (fun W => in20_is rtt (1000000) (60000000000) W false (in_not q3))
          obtain rfl : er = 9 := h9 (fun e => q3 (hk.1 e).2.2.2.1)
          clear hk h9 h0 her q1 q2 q3
          go_enter Tryd.func32, Tryd.ntmps32
          go_wp2_with fail
          refine (I0.out _).mono ?_
          rintro e0 w0 ⟨rfl, rfl⟩
          go_wp2_with fail
          refine (I1.out _).mono ?_
          rintro e1 w1 ⟨rfl, rfl⟩
          go_wp2_with fail
          refine (I2.out _).mono ?_
          rintro e2 w2 ⟨rfl, rfl⟩
          go_wp2_with fail
          refine (I3.out _).mono ?_
          rintro e3 w3 ⟨rfl, rfl⟩
          go_wp2_with fail
          go_ret
          exact ⟨rfl, (Below.refl _ _).alloc (Nat.le_refl _) _⟩
      · have I2 := hide (fun W => in20_is first (2 * d) (most) W false (in_not q2))
        obtain rfl : er = 9 := h9 (fun e => q2 (hk.1 e).2.1)
        clear hk h9 h0 her q1 q2
        go_enter Tryd.func32, Tryd.ntmps32
        go_wp2_with fail
        refine (I0.out _).mono ?_
        rintro e0 w0 ⟨rfl, rfl⟩
        go_wp2_with fail
        refine (I1.out _).mono ?_
        rintro e1 w1 ⟨rfl, rfl⟩
        go_wp2_with fail
        refine (I2.out _).mono ?_
        rintro e2 w2 ⟨rfl, rfl⟩
        go_wp2_with fail
        go_ret
        exact ⟨rfl, (Below.refl _ _).alloc (Nat.le_refl _) _⟩
    · have I1 := hide (fun W => in20_is most (2 * d) (1099511627776) W false (in_not q1))
      obtain rfl : er = 9 := h9 (fun e => q1 (hk.1 e).2.2.1)
      clear hk h9 h0 her q1
      go_enter Tryd.func32, Tryd.ntmps32
      go_wp2_with fail
      refine (I0.out _).mono ?_
      rintro e0 w0 ⟨rfl, rfl⟩
      go_wp2_with fail
      refine (I1.out _).mono ?_
      rintro e1 w1 ⟨rfl, rfl⟩
      go_wp2_with fail
      go_ret
      exact ⟨rfl, (Below.refl _ _).alloc (Nat.le_refl _) _⟩
  · have I0 := hide (fun W => in20_is d (1200) (65527) W false (in_not q0))
    obtain rfl : er = 9 := h9 (fun e => q0 (hk.1 e).1)
    clear hk h9 h0 her q0
    go_enter Tryd.func32, Tryd.ntmps32
    go_wp2_with fail
    refine (I0.out _).mono ?_
    rintro e0 w0 ⟨rfl, rfl⟩
    go_wp2_with fail
    go_ret
    exact ⟨rfl, (Below.refl _ _).alloc (Nat.le_refl _) _⟩
theorem default20_any (sv : Bool) (w : World) : Calls Tryd.prog 34 #[.bool sv] w fun e w' => e = .returned (.agg (confC (defaultCF sv))) ∧ Below w.heap.size w w' := by
  go_enter Tryd.func34, Tryd.ntmps34
  go_wp2_with fail
  exact bodyPost_ret (v := .agg (confC (defaultCF sv))) (by simp [results, Tryd.results34, go_sem, confC, defaultCF]) rfl ⟨rfl, (Below.refl _ _).alloc (Nat.le_refl _) _⟩
theorem names20_any (w : World) : Calls Tryd.prog 57 #[] w fun e w' => e = .returned (.slice (some ⟨w.heap.size, 0, none⟩) 10 10) ∧ w' = w.alloc (.cells #[.string (nameB 0), .string (nameB 1), .string (nameB 2), .string (nameB 3), .string (nameB 4), .string (nameB 5), .string (nameB 6), .string (nameB 7), .string (nameB 8), .string (nameB 9)] 9) := by
  go_enter Tryd.func57, Tryd.ntmps57
  go_wp2_with fail
  go_ret
  exact ⟨rfl, rfl⟩
theorem blk_new2 (w : World) (x : Obj) (t : Nat) (cs : Array Value) : Blk ((w.alloc x).alloc (.cells cs t)) (w.heap.size + 1) t cs := by
  have h := Blk.new (w.alloc x) t cs
  simpa using h
theorem numbers20_any (c : CF) (w : World) : Calls Tryd.prog 56 #[.agg (confC c)] w fun e w' => ∃ L, e = .returned (.slice (some ⟨L, 0, none⟩) 10 10) ∧ Blk w' L 3 (c.vals.map (Value.int .i64)).toArray ∧ Below w.heap.size w w' := by
  obtain ⟨sv, d, first, most, rtt, delay, ex, burst, room, backs⟩ := c
  simp only [confC]
  cases sv with
  | true =>
    go_enter Tryd.func56, Tryd.ntmps56
    go_wp2_with fail
    go_ret
    exact ⟨_, rfl, blk_new2 _ _ _ _, ((Below.refl _ _).alloc (Nat.le_refl _) _).alloc (by simp) _⟩
  | false =>
    go_enter Tryd.func56, Tryd.ntmps56
    go_wp2_with fail
    go_ret
    exact ⟨_, rfl, blk_new2 _ _ _ _, ((Below.refl _ _).alloc (Nat.le_refl _) _).alloc (by simp) _⟩
theorem digit_one : ∀ n < 10, (⟨#[48, 49, 50, 51, 52, 53, 54, 55, 56, 57]⟩ : ByteArray).extract n (n + 1) = mkB [UInt8.ofNat (48 + n)] := by decide +kernel
theorem digits20_any (n : Nat) : n ≤ 9223372036854775807 → ∀ w : World, Calls Tryd.prog 58 #[.int .i64 n] w fun e w' => e = .returned (.string (mkB (Lib.decDigits n))) ∧ w = w' := by
  induction n using Nat.strongRecOn with
  | _ n ih =>
    intro hn w
    by_cases h : n < 10
    · have hi : (n : Int) < 10 := by omega
      have h0 : (0 : Int) ≤ (n : Int) := by omega
      have hd := digit_one n h
      rw [Lib.decDigits_one h]
      go_enter Tryd.func58, Tryd.ntmps58
      go_wp2_with fail
      go_ret
      refine ⟨?_, rfl⟩
      have e : (UInt8.ofNat (48 + n)) = 48 + UInt8.ofNat n := by simp
      rw [e]
      rfl
    · have hi : ¬ (n : Int) < 10 := by omega
      have h0 : (0 : Int) ≤ (n : Int) := by omega
      have I1 := hide (fun W => ih (n / 10) (by omega) (by omega) W)
      have I2 := hide (fun W => ih (n % 10) (by omega) (by omega) W)
      have hd : Lib.decDigits n = Lib.decDigits (n / 10) ++ Lib.decDigits (n % 10) := by
        rw [Lib.decDigits, dif_neg h, Lib.decDigits_one (i := n % 10) (by omega)]
      have hz1 : (mkB (Lib.decDigits (n / 10))).size ≤ 20 := by rw [Lib.size_eq, mkB_data, Lib.decDigits_length]; exact nDigits_le 19 _ (by omega)
      have hz2 : (mkB (Lib.decDigits (n % 10))).size ≤ 20 := by rw [Lib.size_eq, mkB_data, Lib.decDigits_length]; exact nDigits_le 19 _ (by omega)
      have hm : mkB (Lib.decDigits (n / 10)) ++ mkB (Lib.decDigits (n % 10)) = mkB (Lib.decDigits n) := by
        apply ba_eq
        rw [hd]
        simp [mkB_data]
      have hq : (n : Int) / 10 = ((n / 10 : Nat) : Int) := by omega
      have hr : (n : Int) % 10 = ((n % 10 : Nat) : Int) := by omega
      generalize n / 10 = q at I1 hz1 hm hq
      generalize n % 10 = r at I2 hz2 hm hr
      obtain ⟨a, ha⟩ : ∃ a, mkB (Lib.decDigits q) = a := ⟨_, rfl⟩
      obtain ⟨b, hb⟩ : ∃ a, mkB (Lib.decDigits r) = a := ⟨_, rfl⟩
      rw [ha] at I1 hz1 hm
      rw [hb] at I2 hz2 hm
      have HM := hide hm
      clear ih hd ha hb h hm
      go_enter Tryd.func58, Tryd.ntmps58
      go_wp2_with fail
      refine (I1.out _).mono ?_
      rintro e1 w1 ⟨rfl, rfl⟩
      go_wp2_with fail
      refine (I2.out _).mono ?_
      rintro e2 w2 ⟨rfl, rfl⟩
      go_wp2_with fail
      go_ret
      exact ⟨by rw [← HM.out]; rfl, rfl⟩
end Go.Proofs.YtbpeienllhbffaaDoor
