/-
  The statement ConfAgain: its plain law, and its walk.
-/
import Derived.Test.YtbpeienllhbffaaDoorCfWorks
import Derived.Test.YtbpeienllhbffaaDoorCfArgs
namespace Go.Proofs.YtbpeienllhbffaaDoor
set_option linter.unusedSimpArgs false
set_option linter.unusedVariables false
open Go.RowKit Go.Shelf

theorem run_inl : ∀ (ls : List ByteArray) (k : Nat) (st : PSt) (i : Nat), runC k st ls = .inl i → k ≤ i ∧ i < k + ls.length
  | [], k, st, i, h => by cases h
  | l :: ls, k, st, i, h => by
    rw [runC] at h
    cases hs : stepC st l with
    | none =>
      rw [hs] at h
      have : k = i := by injection h
      subst this
      simp
    | some st' =>
      rw [hs] at h
      have := run_inl ls (k + 1) st' i h
      rw [List.length_cons]
      omega
theorem err_no' {c : CF} (h : ¬ errC c = 0) : errC c = 9 := by
  unfold errC at h ⊢
  split at h
  · exact absurd rfl h
  · rename_i hc
    rw [if_neg hc]
/-- How a text of 65536 bytes at most is read: it may be; or a line is none; or a number may not be. -/
theorem parse_cases (s : ByteArray) (hs : s.size ≤ 65536) : (∃ c, parseC s = (c, 0, 0) ∧ okC c = true) ∨ (∃ n : Int, parseC s = (zeroCF, n, 4) ∧ 1 ≤ n ∧ n ≤ 1 + Lib.countB s nlB) ∨ parseC s = (zeroCF, 0, 9) := by
  unfold parseC
  rw [if_neg (by omega)]
  cases h : runC 0 pst0 (linesB s) with
  | inl i =>
    have := run_inl _ _ _ _ h
    rw [lines_length] at this
    exact .inr (.inl ⟨_, rfl, by omega, by omega⟩)
  | inr st =>
    simp only []
    by_cases he : errC (ofVals st.vs) = 0
    · rw [if_pos he]
      exact .inl ⟨_, rfl, err_ok.1 he⟩
    · rw [if_neg he, err_no' he]
      exact .inr (.inr rfl)
set_option maxRecDepth 100000 in
set_option maxHeartbeats 4000000 in
theorem cagain_any (s : ByteArray) (w : World) (hE : Env w) (hs : s.size ≤ maxLen) : Calls Tryd.prog 10 #[.string s] w fun e w' => e = .returned (.bool true) ∧ Below w.heap.size w w' := by
  have HE := hide hE
  unfold maxLen at hs
  obtain ⟨t, ht⟩ : ∃ t, s.extract 0 (min (s.size : Int) 2000).toNat = t := ⟨_, rfl⟩
  have htz : t.size ≤ 2000 := by rw [← ht, ByteArray.size_extract]; omega
  have HP := hide (fun W E => parse_any t (by omega) W E)
  have HCW := hide (fun W E => cworks_any W E)
  clear hE
  rcases parse_cases t (by omega) with ⟨c, hp, hc⟩ | ⟨n, hp, hn1, hn2⟩ | hp
  · rw [hp] at HP
    clear hp
    have HT := hide (fun W E => text_ok c W E hc)
    have HP2 := hide (fun W E => parse_any (mkB (textL c 10)) (by have := text_size hc; rw [Lib.size_eq, mkB_data]; omega) W E)
    rw [parse_text hc] at HP2
    obtain ⟨u, hu⟩ : ∃ u, mkB (textL c 10) = u := ⟨_, rfl⟩
    rw [hu] at HT HP2
    have HCK := hide (fun W => check_lit c W (err_ok.2 hc))
    clear hu hc
    obtain ⟨sv, d, first, most, rtt, delay, ex, burst, room, backs⟩ := c
    simp only [parseE, confC] at HP HP2 HT HCK
    go_enter Tryd.func10, Tryd.ntmps10
    go_wp2_with fail
    refine (HP.out _ HE.out).mono ?_
    rintro e1 w1 ⟨rfl, hb1⟩
    have ha1 := hb1.trans (((Below.refl w1.heap.size w1).alloc (Nat.le_refl _) (.cells #[.bool sv, .int .i64 d, .int .i64 first, .int .i64 most, .int .i64 rtt, .int .i64 delay, .int .i64 ex, .int .i64 burst, .int .i64 room, .int .i64 backs] 46)).mono hb1.size)
    have HK1 := hide (Blk.new w1 46 (confC ⟨sv, d, first, most, rtt, delay, ex, burst, room, backs⟩))
    have HA1 := hide ha1
    have HEA := hide (HE.out.later ha1)
    clear hb1 ha1 HP
    go_wp2_with fail
    refine (HT.out _ HEA.out).mono ?_
    rintro e2 w2 ⟨rfl, hb2⟩
    have HK2 := hide ((hb2.block _ (Blk.lt HK1.out)).trans HK1.out : Blk w2 w1.heap.size 46 (confC ⟨sv, d, first, most, rtt, delay, ex, burst, room, backs⟩))
    have HA2 := hide (below2 HA1.out hb2)
    have HE2 := hide (HEA.out.later hb2)
    clear hb2 HK1 HA1 HEA HT
    go_wp2_with fail
    refine (HP2.out _ HE2.out).mono ?_
    rintro e3 w3 ⟨rfl, hb3⟩
    have ha3 := hb3.trans (((Below.refl w3.heap.size w3).alloc (Nat.le_refl _) (.cells #[.bool sv, .int .i64 d, .int .i64 first, .int .i64 most, .int .i64 rtt, .int .i64 delay, .int .i64 ex, .int .i64 burst, .int .i64 room, .int .i64 backs] 46)).mono hb3.size)
    have HK3 := hide ((ha3.block _ (Blk.lt HK2.out)).trans HK2.out : Blk _ w1.heap.size 46 (confC ⟨sv, d, first, most, rtt, delay, ex, burst, room, backs⟩))
    have HA3 := hide (below2 HA2.out ha3)
    have HE3 := hide (HE2.out.later ha3)
    clear hb3 ha3 HK2 HA2 HE2 HP2
    obtain ⟨c0, c1, c2, c3, c4, c5, c6, c7, c8, c9, _⟩ := conf_facts HK3.out
    go_wp2_with fail
    refine (HCK.out _).mono ?_
    rintro e4 w4 ⟨rfl, hb4⟩
    have HA4 := hide (below2 HA3.out hb4)
    have HE4 := hide (HE3.out.later hb4)
    clear hb4 HA3 HE3 HK3 c0 c1 c2 c3 c4 c5 c6 c7 c8 c9
    go_wp2_with fail
    refine (HCW.out _ HE4.out).mono ?_
    rintro e5 w5 ⟨rfl, hb5⟩
    have HA5 := hide (below2 HA4.out hb5)
    clear hb5
    go_wp2_with fail
    go_ret
    exact ⟨rfl, HA5.out⟩
  · rw [hp] at HP
    have hcb : Lib.countB t nlB ≤ 2000 := by
      have := Lib.countB_le nlB (by decide) t.size t (Nat.le_refl _)
      omega
    obtain ⟨m, hm⟩ := HE.out.max
    have HM := hide hm
    have HCN := hide (fun m W hm => Tryd.strings_Count_any t nlB m W (by omega) hm (by decide))
    obtain ⟨cb, hcbe⟩ : ∃ cb, Lib.countB t nlB = cb := ⟨_, rfl⟩
    rw [hcbe] at hn2 hcb HCN
    unfold nlB at HCN
    simp only [parseE, confC, zeroCF] at HP
    have hn0 : 0 ≤ n := by omega
    have hn3 : n ≤ 2001 := by omega
    clear hp hcbe hm
    go_enter Tryd.func10, Tryd.ntmps10
    go_wp2_with fail
    refine (HP.out _ HE.out).mono ?_
    rintro e1 w1 ⟨rfl, hb1⟩
    have ha1 := hb1.trans (((Below.refl w1.heap.size w1).alloc (Nat.le_refl _) (.cells #[.bool false, .int .i64 0, .int .i64 0, .int .i64 0, .int .i64 0, .int .i64 0, .int .i64 0, .int .i64 0, .int .i64 0, .int .i64 0] 46)).mono hb1.size)
    have HA1 := hide ha1
    have HEA := hide (HE.out.later ha1)
    clear hb1 ha1 HP
    obtain ⟨m1, hm1⟩ := HEA.out.max
    go_wp2_with fail
    refine (HCN.out m1 _ hm1).mono ?_
    rintro e2 w2 ⟨rfl, rfl⟩
    clear HCN hm1
    go_wp2_with fail
    refine (HCW.out _ HEA.out).mono ?_
    rintro e3 w3 ⟨rfl, hb3⟩
    have HA3 := hide (below2 HA1.out hb3)
    clear hb3
    go_wp2_with fail
    go_ret
    exact ⟨rfl, HA3.out⟩
  · rw [hp] at HP
    simp only [parseE, confC, zeroCF] at HP
    clear hp
    go_enter Tryd.func10, Tryd.ntmps10
    go_wp2_with fail
    refine (HP.out _ HE.out).mono ?_
    rintro e1 w1 ⟨rfl, hb1⟩
    have ha1 := hb1.trans (((Below.refl w1.heap.size w1).alloc (Nat.le_refl _) (.cells #[.bool false, .int .i64 0, .int .i64 0, .int .i64 0, .int .i64 0, .int .i64 0, .int .i64 0, .int .i64 0, .int .i64 0, .int .i64 0] 46)).mono hb1.size)
    have HA1 := hide ha1
    have HEA := hide (HE.out.later ha1)
    clear hb1 ha1 HP
    go_wp2_with fail
    refine (HCW.out _ HEA.out).mono ?_
    rintro e3 w3 ⟨rfl, hb3⟩
    have HA3 := hide (below2 HA1.out hb3)
    clear hb3
    go_wp2_with fail
    go_ret
    exact ⟨rfl, HA3.out⟩
end Go.Proofs.YtbpeienllhbffaaDoor
