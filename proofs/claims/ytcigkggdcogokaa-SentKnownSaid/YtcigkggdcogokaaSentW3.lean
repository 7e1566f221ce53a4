/-
  The packets' log: walks of the totals, of 'may'.
-/
import Derived.Test.YtcigkggdcogokaaSentW2
import Derived.RegionTactic
import Derived.ChangeAlike
import Derived.BigRegion
namespace Go.Proofs.Ytcigkggdcogokaa
open Go.RowKit

set_option maxHeartbeats 1000000 in
theorem count_any {w : World} {b rb m room : Nat} {last : Int} {fr long many : Nat} {fl el : Int} {ring : List Sl} (hL : LogC w b rb m room last fr long many fl el ring)
    (n t s : Int) (e f c : Bool) (by_ : Int) (many' : Nat) (hm : (many : Int) + by_ = (many' : Int)) (hby : -1 ≤ by_) (hby2 : by_ ≤ 1) (hm1 : many' ≤ 1000) (hm0 : many ≤ 1000)
    (hfl : 0 ≤ fl) (hfl2 : fl ≤ 1000000000) (hel : 0 ≤ el) (hel2 : el ≤ 1000) (hp1 : -65535 ≤ by_ * s) (hp2 : by_ * s ≤ 65535) :
    Calls Try.prog 54 #[.pointer (some ⟨b, 0, none⟩), .agg #[.int .i64 n, .int .i64 t, .int .i64 s, .bool e, .bool f, .bool c], .int .i64 by_] w fun e' w' => e' = .returned (.tuple #[]) ∧
      LogC w' b rb m room last fr long many' (totF f fl (by_ * s)) (totE f e el by_) ring ∧ Only [b] w w' := by
  have hne := hL.ne
  have hne' := hL.ne.symm
  have hb := hL.blk.lt
  have hrb := hL.rng.lt
  have h5 : w.cell? ⟨b, 5, none⟩ = some (.int .i64 many) := hL.cell 5
  have h6 : w.cell? ⟨b, 6, none⟩ = some (.int .i64 fl) := hL.cell 6
  have h7 : w.cell? ⟨b, 7, none⟩ = some (.int .i64 el) := hL.cell 7
  have hf := hL.blk.frozen
  have HM := hide hm
  have hm2 : 0 ≤ (many : Int) + by_ := by omega
  clear hm
  cases f
  · go_enter Try.func54, Try.ntmps54
    go_wp2
    refine bodyPost_ret (results_none rfl _ _ _) rfl ?_
    exact ⟨rfl, ((hL.setMany HM.out).alloc _), ((Only.refl _ _).setCell (.inl (by simp)) _).alloc _⟩
  · cases e
    · go_enter Try.func54, Try.ntmps54
      go_wp2
      go_region
      all_goals go_wp2
      all_goals go_end0
      all_goals exact ⟨rfl, (((hL.setMany HM.out).setFlight _).alloc _).drew, ((((Only.refl _ _).setCell (.inl (by simp)) _).setCell (.inl (by simp)) _).alloc _).drew⟩
    · go_enter Try.func54, Try.ntmps54
      go_wp2
      go_region
      all_goals go_wp2
      all_goals go_end0
      all_goals exact ⟨rfl, ((((hL.setMany HM.out).setFlight _).setElic _).alloc _).drew, (((((Only.refl _ _).setCell (.inl (by simp)) _).setCell (.inl (by simp)) _).setCell (.inl (by simp)) _).alloc _).drew⟩

theorem more_any {w : World} {b rb m room : Nat} {last : Int} {fr long many : Nat} {fl el : Int} {ring : List Sl} (hL : LogC w b rb m room last fr long many fl el ring)
    (n t s : Int) (e f c : Bool) (hm0 : many ≤ 512)
    (hfl : 0 ≤ fl) (hfl2 : fl ≤ 1000000000) (hel : 0 ≤ el) (hel2 : el ≤ 1000) (hp1 : 1 ≤ s) (hp2 : s ≤ 65535) :
    Calls Try.prog 37 #[.pointer (some ⟨b, 0, none⟩), .agg #[.int .i64 n, .int .i64 t, .int .i64 s, .bool e, .bool f, .bool c]] w fun e' w' => e' = .returned (.tuple #[]) ∧
      LogC w' b rb m room last fr long (many + 1) (totF f fl s) (totE f e el 1) ring ∧ Only [b] w w' := by
  have hc := count_any (hL.alloc (.cells #[.int .i64 n, .int .i64 t, .int .i64 s, .bool e, .bool f, .bool c] 30)) n t s e f c 1 (many + 1) (by omega) (by omega) (by omega) (by omega) (by omega) hfl hfl2 hel hel2 (by omega) (by omega)
  rw [show (1 : Int) * s = s by omega] at hc
  have HC := hide hc
  clear hc
  go_enter Try.func37, Try.ntmps37
  go_wp2_with (go_at_call 54; refine HC.out.mono ?_; rintro e1 w1 ⟨rfl, hL1, hO1⟩)
  go_end0
  exact ⟨rfl, hL1, ((Only.refl _ _).alloc _).trans hO1 (by simp)⟩

theorem less_any {w : World} {b rb m room : Nat} {last : Int} {fr long many : Nat} {fl el : Int} {ring : List Sl} (hL : LogC w b rb m room last fr long (many + 1) fl el ring)
    (n t s : Int) (e f c : Bool) (hm0 : many ≤ 512)
    (hfl : 0 ≤ fl) (hfl2 : fl ≤ 1000000000) (hel : 0 ≤ el) (hel2 : el ≤ 1000) (hp1 : 1 ≤ s) (hp2 : s ≤ 65535) :
    Calls Try.prog 39 #[.pointer (some ⟨b, 0, none⟩), .agg #[.int .i64 n, .int .i64 t, .int .i64 s, .bool e, .bool f, .bool c]] w fun e' w' => e' = .returned (.tuple #[]) ∧
      LogC w' b rb m room last fr long many (totF f fl (-s)) (totE f e el (-1)) ring ∧ Only [b] w w' := by
  have hc := count_any (hL.alloc (.cells #[.int .i64 n, .int .i64 t, .int .i64 s, .bool e, .bool f, .bool c] 30)) n t s e f c (-1) many (by omega) (by omega) (by omega) (by omega) (by omega) hfl hfl2 hel hel2 (by omega) (by omega)
  rw [show (-1 : Int) * s = -s by omega] at hc
  have HC := hide hc
  clear hc
  go_enter Try.func39, Try.ntmps39
  go_wp2_with (go_at_call 54; refine HC.out.mono ?_; rintro e1 w1 ⟨rfl, hL1, hO1⟩)
  go_end0
  exact ⟨rfl, hL1, ((Only.refl _ _).alloc _).trans hO1 (by simp)⟩

/-- The closure of 'may'. -/
theorem in_yes (n lo hi : Int) (w : World) (h1 : lo ≤ n) (h2 : n ≤ hi) :
    Calls Try.prog 53 #[.int .i64 n, .int .i64 lo, .int .i64 hi] w fun e w' => e = .returned (.bool true) ∧ w = w' := by
  go_enter Try.func53, Try.ntmps53
  go_wp2
  go_ret
  exact ⟨rfl, rfl⟩
theorem in_no (n lo hi : Int) (w : World) (h : n < lo ∨ hi < n) :
    Calls Try.prog 53 #[.int .i64 n, .int .i64 lo, .int .i64 hi] w fun e w' => e = .returned (.bool false) ∧ w = w' := by
  by_cases h1 : n < lo
  · go_enter Try.func53, Try.ntmps53
    go_wp2
    go_ret
    exact ⟨rfl, rfl⟩
  · have h2 : hi < n := by omega
    have h3 : lo ≤ n := by omega
    have h4 : decide (n ≤ hi) = false := by simp; omega
    clear h
    go_enter Try.func53, Try.ntmps53
    go_wp2
    go_ret
    exact ⟨rfl, rfl⟩

set_option maxHeartbeats 1000000 in
theorem may_yes (n t s : Int) (e f c : Bool) (w : World) (h : (Pk.mk n t s e f c).may) :
    Calls Try.prog 34 #[.agg #[.int .i64 n, .int .i64 t, .int .i64 s, .bool e, .bool f, .bool c]] w fun e' w' => e' = .returned (.bool true) ∧ Below w.heap.size w w' := by
  obtain ⟨h1, h2, h3, h4, h5, h6⟩ := h
  simp only at h1 h2 h3 h4 h5 h6
  go_enter Try.func34, Try.ntmps34
  go_wp2_with (go_at_call 53; refine (in_yes _ _ _ _ (by omega) (by omega)).mono ?_; rintro e1 w1 ⟨rfl, rfl⟩)
  go_ret
  exact ⟨rfl, (Below.refl _ _).alloc (Nat.le_refl _) _⟩

set_option maxHeartbeats 1000000 in
theorem may_no (n t s : Int) (e f c : Bool) (w : World) (h : ¬ (Pk.mk n t s e f c).may) :
    Calls Try.prog 34 #[.agg #[.int .i64 n, .int .i64 t, .int .i64 s, .bool e, .bool f, .bool c]] w fun e' w' => e' = .returned (.bool false) ∧ Below w.heap.size w w' := by
  unfold Pk.may at h
  simp only at h
  by_cases h1 : 0 ≤ n ∧ n ≤ 9007199254740991
  · obtain ⟨h1, h2⟩ := h1
    by_cases h3 : 0 ≤ t ∧ t ≤ 9007199254740991
    · obtain ⟨h3, h4⟩ := h3
      have h5 : s < 1 ∨ 65535 < s := by omega
      clear h
      go_enter Try.func34, Try.ntmps34
      go_wp2_with (go_at_call 53; first | (refine (in_yes _ _ _ _ (by omega) (by omega)).mono ?_; rintro e1 w1 ⟨rfl, rfl⟩) | (refine (in_no _ _ _ _ (by omega)).mono ?_; rintro e1 w1 ⟨rfl, rfl⟩))
      go_ret
      exact ⟨rfl, (Below.refl _ _).alloc (Nat.le_refl _) _⟩
    · have h5 : t < 0 ∨ 9007199254740991 < t := by omega
      clear h h3
      go_enter Try.func34, Try.ntmps34
      go_wp2_with (go_at_call 53; first | (refine (in_yes _ _ _ _ (by omega) (by omega)).mono ?_; rintro e1 w1 ⟨rfl, rfl⟩) | (refine (in_no _ _ _ _ (by omega)).mono ?_; rintro e1 w1 ⟨rfl, rfl⟩))
      go_ret
      exact ⟨rfl, (Below.refl _ _).alloc (Nat.le_refl _) _⟩
  · have h5 : n < 0 ∨ 9007199254740991 < n := by omega
    clear h h1
    go_enter Try.func34, Try.ntmps34
    go_wp2_with (go_at_call 53; refine (in_no _ _ _ _ (by omega)).mono ?_; rintro e1 w1 ⟨rfl, rfl⟩)
    go_ret
    exact ⟨rfl, (Below.refl _ _).alloc (Nat.le_refl _) _⟩
end Go.Proofs.Ytcigkggdcogokaa
