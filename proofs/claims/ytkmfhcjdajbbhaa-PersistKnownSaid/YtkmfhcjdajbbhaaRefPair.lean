/-
  The document's answer: pair, Period and Is (sounderref10). Printed by wip/genr10p.py.
-/
import Derived.Test.YtkmfhcjdajbbhaaRefBetween
import Derived.Test.YtkmfhcjdajbbhaaPersistPeriod
namespace Go.Proofs.Ytkmfhcjdajbbhaa
set_option linter.unusedSimpArgs false
set_option linter.unusedVariables false
open Go.RowKit

/-- The document's set, or none. -/
def RefAt (w : World) (v : Value) (rs : List Rg) : Prop := (v = .pointer none ∧ rs = []) ∨ ∃ b, v = .pointer (some ⟨b, 0, none⟩) ∧ b < w.heap.size ∧ RefL w b rs
theorem RefAt.below {w w' : World} {v : Value} {rs : List Rg} (h : RefAt w v rs) (hb : Below w.heap.size w w') : RefAt w' v rs := by
  rcases h with ⟨rfl, rfl⟩ | ⟨b, rfl, hl, a, c, hc, hx⟩
  · exact Or.inl ⟨rfl, rfl⟩
  · exact Or.inr ⟨b, rfl, Nat.lt_of_lt_of_le hl hb.size, a, c, (hb.cell (p := ⟨b, 1, none⟩) hl).trans hc, hx.below hb⟩
theorem between_at (v : Value) (rs : List Rg) (an bn : Int) (w : World) (h : RefAt w v rs) (hl : rs.length ≤ 1000) (a0 : -1 ≤ an) (a1 : an ≤ 9007199254740991) (b0 : -1 ≤ bn) (b1 : bn ≤ 9007199254740991) :
    Calls Try.prog 97 #[v, .int .i64 an, .int .i64 bn] w fun e w' => e = .returned (.bool (rs.any (hitR an bn))) ∧ Below w.heap.size w w' := by
  rcases h with ⟨rfl, rfl⟩ | ⟨b, rfl, hb, hL⟩
  · refine (between_nil an bn w).mono ?_
    rintro e w' ⟨rfl, rfl⟩
    exact ⟨rfl, Below.refl _ _⟩
  · refine (between_ref b rs an bn w hL hl a0 a1 b0 b1).mono ?_
    rintro e w' ⟨rfl, q, rfl⟩
    exact ⟨rfl, below_drewN (Below.refl _ _) _⟩

set_option maxHeartbeats 2000000 in
theorem pair_ref (a b : PK) (v : Value) (rs : List Rg) (first : Int) (w : World) (h : RefAt w v rs) (hl : rs.length ≤ 1000) (a0 : -1 ≤ a.n) (a1 : a.n ≤ 9007199254740991) (b0 : -1 ≤ b.n) (b1 : b.n ≤ 9007199254740991) :
    Calls Try.prog 86 #[pkV a, pkV b, v, .int .i64 first] w fun e w' => e = .returned (.bool (pairOk rs first a b)) ∧ Below w.heap.size w w' := by
  have hbw : Below w.heap.size w ((w.alloc (.cells (pkC a) 55)).alloc (.cells (pkC b) 55)) := ((Below.refl _ _).alloc (Nat.le_refl _) _).alloc (by simp) _
  have HBT := hide (between_at v rs a.n b.n _ (h.below hbw) hl a0 a1 b0 b1)
  have HT : Hid (freeR rs a b = !(rs.any (hitR a.n b.n))) := by show _ = _; rw [freeR_hit, List.any_reverse]
  obtain ⟨T, hT⟩ : ∃ T, rs.any (hitR a.n b.n) = T := ⟨_, rfl⟩
  rw [hT] at HBT HT
  have HBW := hide hbw
  clear hT hbw h
  unfold pairOk counts
  rw [HT.out]
  clear HT
  obtain ⟨an, at', asz, ae, af, ac⟩ := a
  obtain ⟨bn, bt, bsz, be, bf, bc⟩ := b
  unfold pkV pkC at *
  dsimp only at *
  cases ae with
  | false =>
    go_enter Try.func86, Try.ntmps86
    go_wp2_with fail
    go_ret
    exact ⟨by simp, HBW.out⟩
  | true =>
    cases be with
    | false =>
      go_enter Try.func86, Try.ntmps86
      go_wp2_with fail
      go_ret
      exact ⟨by simp, HBW.out⟩
    | true =>
      by_cases c1 : first < at'
      · by_cases c2 : first < bt
        · by_cases c3 : at' ≤ bt
          · have k1 : decide (first < at') = true := decide_eq_true c1
            have k2 : decide (first < bt) = true := decide_eq_true c2
            have k3 : decide (at' ≤ bt) = true := decide_eq_true c3
            rw [k1, k2, k3]
            clear k1 k2 k3
            go_enter Try.func86, Try.ntmps86
            go_wp2_with fail
            refine HBT.out.mono ?_
            rintro e1 w1 ⟨rfl, hb1⟩
            go_wp2_with fail
            go_ret
            exact ⟨by simp, bw_below' HBW.out hb1⟩
          · go_enter Try.func86, Try.ntmps86
            go_wp2_with fail
            go_ret
            exact ⟨by rw [show decide (at' ≤ bt) = false from decide_eq_false (by omega)]; simp, HBW.out⟩
        · go_enter Try.func86, Try.ntmps86
          go_wp2_with fail
          go_ret
          exact ⟨by rw [show decide (first < bt) = false from decide_eq_false (by omega)]; simp, HBW.out⟩
      · go_enter Try.func86, Try.ntmps86
        go_wp2_with fail
        go_ret
        exact ⟨by rw [show decide (first < at') = false from decide_eq_false (by omega)]; simp, HBW.out⟩
end Go.Proofs.Ytkmfhcjdajbbhaa
