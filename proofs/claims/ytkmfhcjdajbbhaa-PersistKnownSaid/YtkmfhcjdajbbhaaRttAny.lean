/-
  Layer 7 (package rtt): Check, at any measure.
-/
import Derived.Test.YtkmfhcjdajbbhaaPersistAny
namespace Go.Proofs.Ytkmfhcjdajbbhaa
set_option linter.unusedSimpArgs false
set_option linter.unusedVariables false
open Go.RowKit

def isT (z : Int) : Bool := decide (0 ≤ z) && decide (z ≤ 9007199254740991)
set_option maxHeartbeats 1000000 in
theorem rtttime_gen (k : Nat) (zs : List Int) (n cap : Nat) (t : TypeId) (w : World) (hB : Blk w k t (zs.map fun z => Value.int .i64 z).toArray) (hn : zs.length = n) (hl : n ≤ 100) :
    Calls Try.prog 79 #[.slice (some ⟨k, 0, none⟩) n cap] w fun e w' => e = .returned (.bool (zs.all isT)) ∧ w = w' := by
  have HB := hide hB
  have HN := hide hn
  clear hB hn
  go_enter Try.func79, Try.ntmps79
  go_wp2_with fail
  go_loopg [7] n (fun kx s7 wr => ∃ i : Nat, s7 = .int .i64 i ∧ i ≤ n ∧ n - i ≤ kx ∧ Hid (zs.all isT = (zs.drop i).all isT) ∧ wr = w)
  case atStart => exact ⟨0, rfl, by omega, by omega, rfl, rfl⟩
  case round =>
    obtain ⟨i, rfl, hi, hkx, hok, rfl⟩ := hrel
    by_cases hlt : i < n
    · have hir : i < zs.length := by rw [HN.out]; exact hlt
      obtain ⟨z, hz⟩ : ∃ z, zs[i]? = some z := ⟨_, List.getElem?_eq_getElem hir⟩
      have hd : zs.drop i = z :: zs.drop (i + 1) := by
        rw [List.drop_eq_getElem_cons hir]
        congr 1
        rw [List.getElem?_eq_getElem hir] at hz
        exact Option.some.inj hz
      have HOK : Hid (zs.all isT = (isT z && (zs.drop (i + 1)).all isT)) := by rw [hok, hd]; rfl
      have hc := HB.out.cell i
      rw [List.getElem?_toArray, List.getElem?_map, hz] at hc
      have hin : (i : Int) < (n : Int) := by omega
      clear hz hok hd hir
      by_cases h0 : z < 0
      · have HF : Hid (zs.all isT = false) := by
          show _ = _
          rw [HOK.out]
          unfold isT
          rw [decide_eq_false (by omega)]
          rfl
        clear HOK
        go_wp2_with fail
        go_ret
        exact ⟨by rw [HF.out]; rfl, rfl⟩
      · by_cases h1 : 9007199254740991 < z
        · have HF : Hid (zs.all isT = false) := by
            show _ = _
            rw [HOK.out]
            unfold isT
            rw [decide_eq_false (show ¬ z ≤ 9007199254740991 by omega), Bool.and_false]
            rfl
          clear HOK
          go_wp2_with fail
          go_ret
          exact ⟨by rw [HF.out]; rfl, rfl⟩
        · have HF : Hid (zs.all isT = (zs.drop (i + 1)).all isT) := by
            show _ = _
            rw [HOK.out]
            unfold isT
            rw [decide_eq_true (by omega), decide_eq_true (by omega)]
            rfl
          clear HOK
          go_wp2_with fail
          go_roundg (n - (i + 1))
          case rel => exact ⟨i + 1, by go_num, by omega, by omega, HF, rfl⟩
          case measure => omega
    · obtain rfl : i = n := by omega
      have hin : ¬ (i : Int) < (i : Int) := by omega
      have HF : Hid (zs.all isT = true) := by show _ = _; rw [hok, List.drop_of_length_le (by rw [HN.out]; exact Nat.le_refl _)]; rfl
      clear hok
      go_wp2_with fail
      go_ret
      exact ⟨by rw [HF.out]; rfl, rfl⟩

/-- May a measure be? -/
def rtC (r : RT) : Bool := if r.first = -1 then decide (1000000 ≤ r.smooth) && decide (r.smooth ≤ 60000000000) && decide (r.latest = 0) && decide (r.min = 0) && decide (r.var = r.smooth / 2)
  else isT r.first && isT r.latest && isT r.min && isT r.smooth && isT r.var && decide (r.min ≤ r.latest) && decide (r.min ≤ r.smooth)
set_option maxHeartbeats 1000000 in
theorem rttnew_ok (f : Int) (w : World) (h0 : 1000000 ≤ f) (h1 : f ≤ 60000000000) : Calls Try.prog 78 #[.int .i64 f] w fun e w' => e = .returned (.tuple #[rtV ⟨0, 0, f, f / 2, -1⟩, .int .i64 0]) ∧ Below w.heap.size w w' := by
  unfold rtV
  have n0 : ¬ f < 1000000 := by omega
  have n1 : ¬ 60000000000 < f := by omega
  go_enter Try.func78, Try.ntmps78
  go_wp2_with fail
  exact bodyPost_ret (v := .tuple #[.agg #[.int .i64 0, .int .i64 0, .int .i64 f, .int .i64 (f / 2), .int .i64 (-1)], .int .i64 0]) (by simp [results, Try.results78, go_sem]) rfl ⟨rfl, (Below.refl _ _).alloc (Nat.le_refl _) _⟩
set_option maxHeartbeats 1000000 in
theorem rttnew_no (f : Int) (w : World) (h : f < 1000000 ∨ 60000000000 < f) : Calls Try.prog 78 #[.int .i64 f] w fun e w' => e = .returned (.tuple #[rtV ⟨0, 0, 0, 0, 0⟩, .int .i64 9]) ∧ Below w.heap.size w w' := by
  unfold rtV
  rcases h with h | h
  all_goals
    have n0 : f < 1000000 ∨ 60000000000 < f := by omega
    go_enter Try.func78, Try.ntmps78
    go_wp2_with fail
    exact bodyPost_ret (v := .tuple #[.agg #[.int .i64 0, .int .i64 0, .int .i64 0, .int .i64 0, .int .i64 0], .int .i64 9]) (by simp [results, Try.results78, go_sem]) rfl ⟨rfl, (Below.refl _ _).alloc (Nat.le_refl _) _⟩
set_option maxRecDepth 100000 in
set_option maxHeartbeats 2000000 in
theorem rttcheck_any (r : RT) (w : World) (hs : (-9223372036854775808 ≤ r.smooth ∧ r.smooth ≤ 9223372036854775807)) :
    Calls Try.prog 56 #[rtV r] w fun e w' => e = .returned (.int .i64 (if rtC r = true then 0 else 2)) ∧ Below w.heap.size w w' := by
  have hbw : Below w.heap.size w (w.alloc (.cells #[.int .i64 r.latest, .int .i64 r.min, .int .i64 r.smooth, .int .i64 r.var, .int .i64 r.first] 53)) := (Below.refl _ _).alloc (Nat.le_refl _) _
  have hx := Blk.new w 53 #[.int .i64 r.latest, .int .i64 r.min, .int .i64 r.smooth, .int .i64 r.var, .int .i64 r.first]
  obtain ⟨la, mi, sm_, va, fi⟩ := r
  unfold rtC rtV
  dsimp only at *
  have HBW := hide hbw
  have HX := hide hx
  clear hbw hx
  by_cases hf : fi = -1
  · subst hf
    rw [if_pos rfl]
    by_cases hr : 1000000 ≤ sm_ ∧ sm_ ≤ 60000000000
    · have HN := hide (rttnew_ok sm_ (w.alloc (.cells #[.int .i64 la, .int .i64 mi, .int .i64 sm_, .int .i64 va, .int .i64 (-1)] 53)) hr.1 hr.2)
      unfold rtV at HN
      dsimp only at HN
      by_cases he : la = 0 ∧ mi = 0 ∧ va = sm_ / 2
      · obtain ⟨rfl, rfl, rfl⟩ := he
        rw [show (decide ((1000000 : Int) ≤ sm_) && decide (sm_ ≤ 60000000000) && decide ((0 : Int) = 0) && decide ((0 : Int) = 0) && decide (sm_ / 2 = sm_ / 2)) = true by simp [hr.1, hr.2], if_pos rfl]
        clear hr hs
        go_enter Try.func56, Try.ntmps56
        go_wp2_with fail
        refine HN.out.mono ?_
        rintro e1 w1 ⟨rfl, hb1⟩
        have hx1 := (hb1.block _ HX.out.lt).trans HX.out
        have c0 := Blk.cell hx1 0
        have c1 := Blk.cell hx1 1
        have c2 := Blk.cell hx1 2
        have c3 := Blk.cell hx1 3
        have c4 := Blk.cell hx1 4
        have hlt := Blk.lt hx1
        have HB1 := hide (bw_below' HBW.out hb1)
        clear hb1 hx1
        go_wp2_with fail
        go_ret
        exact ⟨rfl, HB1.out.alloc HB1.out.size _⟩
      · have hno : (decide ((1000000 : Int) ≤ sm_) && decide (sm_ ≤ 60000000000) && decide (la = 0) && decide (mi = 0) && decide (va = sm_ / 2)) = false := by
          rw [Bool.eq_false_iff]
          intro h
          simp only [Bool.and_eq_true, decide_eq_true_eq] at h
          exact he ⟨h.1.1.2, h.1.2, h.2⟩
        rw [hno, if_neg (by simp)]
        have hne : ((0 : Int) == la) = false ∨ (((0 : Int) == la) = true ∧ ((0 : Int) == mi) = false) ∨ (((0 : Int) == la) = true ∧ ((0 : Int) == mi) = true ∧ (sm_ / 2 == va) = false) := by
          simp only [beq_eq_false_iff_ne, beq_iff_eq]
          omega
        clear hr hs hno he
        go_enter Try.func56, Try.ntmps56
        go_wp2_with fail
        refine HN.out.mono ?_
        rintro e1 w1 ⟨rfl, hb1⟩
        have hx1 := (hb1.block _ HX.out.lt).trans HX.out
        have c0 := Blk.cell hx1 0
        have c1 := Blk.cell hx1 1
        have c2 := Blk.cell hx1 2
        have c3 := Blk.cell hx1 3
        have c4 := Blk.cell hx1 4
        have hlt := Blk.lt hx1
        have HB1 := hide (bw_below' HBW.out hb1)
        clear hb1 hx1
        rcases hne with h1 | ⟨h1, h2⟩ | ⟨h1, h2, h3⟩
        all_goals
          go_wp2_with fail
          go_ret
          exact ⟨rfl, HB1.out.alloc HB1.out.size _⟩
    · have HN := hide (rttnew_no sm_ (w.alloc (.cells #[.int .i64 la, .int .i64 mi, .int .i64 sm_, .int .i64 va, .int .i64 (-1)] 53)) (by omega))
      unfold rtV at HN
      dsimp only at HN
      have hno : (decide ((1000000 : Int) ≤ sm_) && decide (sm_ ≤ 60000000000) && decide (la = 0) && decide (mi = 0) && decide (va = sm_ / 2)) = false := by
        rw [Bool.eq_false_iff]
        intro h
        simp only [Bool.and_eq_true, decide_eq_true_eq] at h
        exact hr h.1.1.1
      rw [hno, if_neg (by simp)]
      clear hr hs hno
      go_enter Try.func56, Try.ntmps56
      go_wp2_with fail
      refine HN.out.mono ?_
      rintro e1 w1 ⟨rfl, hb1⟩
      have HB1 := hide (bw_below' HBW.out hb1)
      clear hb1
      go_wp2_with fail
      go_ret
      exact ⟨rfl, HB1.out.alloc HB1.out.size _⟩
  · rw [if_neg hf]
    have hff : (fi == -1) = false := by rw [beq_eq_false_iff_ne]; exact hf
    have hbw : Below w.heap.size w ((w.alloc (.cells #[.int .i64 la, .int .i64 mi, .int .i64 sm_, .int .i64 va, .int .i64 fi] 53)).alloc (.cells #[.int .i64 fi, .int .i64 la, .int .i64 mi, .int .i64 sm_, .int .i64 va] 3)) := ((Below.refl _ _).alloc (Nat.le_refl _) _).alloc (by simp) _
    have HT := hide (rtttime_gen (w.heap.size + 1) [fi, la, mi, sm_, va] 5 5 3 ((w.alloc (.cells #[.int .i64 la, .int .i64 mi, .int .i64 sm_, .int .i64 va, .int .i64 fi] 53)).alloc (.cells #[.int .i64 fi, .int .i64 la, .int .i64 mi, .int .i64 sm_, .int .i64 va] 3)) (by
      have := Blk.new (w.alloc (.cells #[.int .i64 la, .int .i64 mi, .int .i64 sm_, .int .i64 va, .int .i64 fi] 53)) 3 #[.int .i64 fi, .int .i64 la, .int .i64 mi, .int .i64 sm_, .int .i64 va]
      rw [World.size_alloc] at this
      exact this) rfl (by omega))
    have HBW2 := hide hbw
    have hall : [fi, la, mi, sm_, va].all isT = (isT fi && isT la && isT mi && isT sm_ && isT va) := by simp [Bool.and_assoc]
    rw [hall] at HT
    obtain ⟨T, hT⟩ : ∃ T, (isT fi && isT la && isT mi && isT sm_ && isT va) = T := ⟨_, rfl⟩
    rw [hT] at HT ⊢
    clear hbw hall hT HX hf hs
    cases T with
    | false =>
      rw [Bool.false_and, Bool.false_and, if_neg (by simp)]
      go_enter Try.func56, Try.ntmps56
      go_wp2_with fail
      refine HT.out.mono ?_
      rintro e1 w1 ⟨rfl, rfl⟩
      go_wp2_with fail
      all_goals
        go_ret
        exact ⟨rfl, HBW2.out⟩
    | true =>
      rw [Bool.true_and]
      by_cases h1 : mi ≤ la
      · by_cases h2 : mi ≤ sm_
        · rw [decide_eq_true h1, decide_eq_true h2, if_pos (by rfl)]
          have h3 : ¬ la < mi := by omega
          have h4 : ¬ sm_ < mi := by omega
          go_enter Try.func56, Try.ntmps56
          go_wp2_with fail
          refine HT.out.mono ?_
          rintro e1 w1 ⟨rfl, rfl⟩
          go_wp2_with fail
          all_goals
            go_ret
            exact ⟨rfl, HBW2.out⟩
        · rw [decide_eq_true h1, decide_eq_false h2, if_neg (by simp)]
          have h3 : sm_ < la := by omega
          go_enter Try.func56, Try.ntmps56
          go_wp2_with fail
          refine HT.out.mono ?_
          rintro e1 w1 ⟨rfl, rfl⟩
          go_wp2_with fail
          all_goals
            go_ret
            exact ⟨rfl, HBW2.out⟩
      · rw [decide_eq_false h1, Bool.false_and, if_neg (by simp)]
        by_cases h2 : sm_ < la
        · have h3 : sm_ < mi := by omega
          go_enter Try.func56, Try.ntmps56
          go_wp2_with fail
          refine HT.out.mono ?_
          rintro e1 w1 ⟨rfl, rfl⟩
          go_wp2_with fail
          all_goals
            go_ret
            exact ⟨rfl, HBW2.out⟩
        · go_enter Try.func56, Try.ntmps56
          go_wp2_with fail
          refine HT.out.mono ?_
          rintro e1 w1 ⟨rfl, rfl⟩
          go_wp2_with fail
          all_goals
            go_ret
            exact ⟨rfl, HBW2.out⟩
end Go.Proofs.Ytkmfhcjdajbbhaa
