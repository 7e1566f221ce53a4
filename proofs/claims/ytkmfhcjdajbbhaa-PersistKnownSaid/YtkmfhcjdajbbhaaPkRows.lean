/-
  Layer 9 and 10: rows of packets in memory; loss.Check.
-/
import Derived.Test.YtkmfhcjdajbbhaaPersistPlain
import Derived.Test.YtkmfhcjdajbbhaaSpanMany
namespace Go.Proofs.Ytkmfhcjdajbbhaa
set_option linter.unusedSimpArgs false
set_option linter.unusedVariables false
open Go.RowKit

/-- A slice of packets reads as ps. -/
def PksAt (w : World) (a : Option Addr) (ps : List PK) : Prop := (∀ p ∈ ps, p.small) ∧ ∀ (i : Nat) (p : PK), ps[i]? = some p → ∃ k o, a = some ⟨k, o, none⟩ ∧ k < w.heap.size ∧ ∀ (j : Nat) (v : Value), (pkC p)[j]? = some v → w.cell? ⟨k, o + (i * 6 + j), none⟩ = some v
theorem PksAt.below {w w' : World} {B : Nat} {a : Option Addr} {ps : List PK} (h : PksAt w a ps) (hb : Below B w w') (hB : w.heap.size ≤ B) : PksAt w' a ps := ⟨h.1, fun i p hi => by
  obtain ⟨k, o, e, hk, hc⟩ := h.2 i p hi
  exact ⟨k, o, e, Nat.lt_of_lt_of_le hk hb.size, fun j v hj => (hb.cell (p := ⟨k, _, none⟩) (Nat.lt_of_lt_of_le hk hB)).trans (hc j v hj)⟩⟩
theorem PksAt.only {w w' : World} {S : List Nat} {a : Option Addr} {ps : List PK} (h : PksAt w a ps) (ho : Only S w w') (hS : ∀ k o, a = some ⟨k, o, none⟩ → k ∉ S) : PksAt w' a ps := ⟨h.1, fun i p hi => by
  obtain ⟨k, o, e, hk, hc⟩ := h.2 i p hi
  exact ⟨k, o, e, Nat.lt_of_lt_of_le hk ho.size, fun j v hj => (ho.cell (p := ⟨k, _, none⟩) hk (hS k o e)).trans (hc j v hj)⟩⟩
theorem PksAt.cells {w : World} {a : Option Addr} {ps : List PK} (h : PksAt w a ps) {i : Nat} {p : PK} (hi : ps[i]? = some p) : ∃ k o, a = some ⟨k, o, none⟩ ∧ k < w.heap.size ∧
    w.cell? ⟨k, o + i * 6, none⟩ = some (.int .i64 p.n) ∧ w.cell? ⟨k, o + i * 6 + 1, none⟩ = some (.int .i64 p.t) ∧ w.cell? ⟨k, o + i * 6 + 2, none⟩ = some (.int .i64 p.s) ∧
    w.cell? ⟨k, o + i * 6 + 3, none⟩ = some (.bool p.e) ∧ w.cell? ⟨k, o + i * 6 + 4, none⟩ = some (.bool p.f) ∧ w.cell? ⟨k, o + i * 6 + 5, none⟩ = some (.bool p.c) := by
  obtain ⟨k, o, e, hk, hc⟩ := h.2 i p hi
  exact ⟨k, o, e, hk, hc 0 _ rfl, hc 1 _ rfl, hc 2 _ rfl, hc 3 _ rfl, hc 4 _ rfl, hc 5 _ rfl⟩

theorem istime_any (n : Int) (w : World) : Calls Try.prog 70 #[.int .i64 n] w fun e w' => e = .returned (.bool (decide (0 ≤ n) && decide (n ≤ 9007199254740991))) ∧ w = w' := by
  by_cases h1 : 0 ≤ n
  · by_cases h2 : n ≤ 9007199254740991
    · go_enter Try.func70, Try.ntmps70
      go_wp2
      go_ret
      simp [h1, h2]
    · go_enter Try.func70, Try.ntmps70
      go_wp2
      go_ret
      simp [h1, h2]
  · go_enter Try.func70, Try.ntmps70
    go_wp2
    go_ret
    have h1 : ¬ 0 ≤ n := by omega
    simp [h1]

set_option maxHeartbeats 1000000 in
/-- Check's closure: is a packet wrong? The number of the last one lies in a box. -/
theorem wrong_any (p : PK) (last : Int) (Bl : Nat) (w : World) (hB : Blk w Bl 3 #[.int .i64 last]) :
    Calls Try.prog 69 #[pkV p, .pointer (some ⟨Bl, 0, none⟩)] w fun e w' => e = .returned (.bool (!okPk last p)) ∧ Only [Bl] w w' ∧ Blk w' Bl 3 #[.int .i64 p.n] := by
  have c0 := hB.cell 0
  have f0 := hB.frozen 0
  have hl := hB.lt
  have hO : Only [Bl] w ((w.setCell ⟨Bl, 0, none⟩ (.int .i64 p.n)).alloc (.cells (pkC p) 55)) := ((only_of_below (Below.refl _ _)).setCell (.inl (by simp)) _).alloc _
  have hX : Blk ((w.setCell ⟨Bl, 0, none⟩ (.int .i64 p.n)).alloc (.cells (pkC p) 55)) Bl 3 #[.int .i64 p.n] := (hB.set 0 _).alloc _
  have HO := hide hO
  have HX := hide hX
  obtain ⟨T, hT⟩ : ∃ T, (decide (0 ≤ p.t) && decide (p.t ≤ 9007199254740991)) = T := ⟨_, rfl⟩
  have hv : (decide (p.n ≤ last) || decide (9007199254740991 < p.n) || !T || decide (p.s < 1) || decide (65535 < p.s)) = !okPk last p := by
    unfold okPk
    rw [hT]
    have e1 : decide (p.n ≤ last) = !decide (last < p.n) := by rw [← decide_not]; congr 1; simp only [Int.not_lt]
    have e2 : decide (9007199254740991 < p.n) = !decide (p.n ≤ 9007199254740991) := by rw [← decide_not]; congr 1; simp only [Int.not_le]
    have e3 : decide (p.s < 1) = !decide (1 ≤ p.s) := by rw [← decide_not]; congr 1; simp only [Int.not_le]
    have e4 : decide (65535 < p.s) = !decide (p.s ≤ 65535) := by rw [← decide_not]; congr 1; simp only [Int.not_le]
    rw [e1, e2, e3, e4]
    simp only [Bool.not_and]
  rw [← hv]
  have HIT := hide (fun W => istime_any p.t W)
  rw [hT] at HIT
  clear hO hX hv hT
  obtain ⟨n, t, s, e, f, c⟩ := p
  unfold pkV pkC at *
  dsimp only at *
  clear hB
  cases T with
  | true =>
    go_enter Try.func69, Try.ntmps69
    go_wp2_with (go_at_call 70; refine (HIT.out _).mono ?_; rintro e1 w1 ⟨rfl, rfl⟩)
    all_goals
      go_ret
      refine ⟨?_, HO.out, HX.out⟩
      first | rfl | simp
  | false =>
    go_enter Try.func69, Try.ntmps69
    go_wp2_with (go_at_call 70; refine (HIT.out _).mono ?_; rintro e1 w1 ⟨rfl, rfl⟩)
    all_goals
      go_ret
      refine ⟨?_, HO.out, HX.out⟩
      first | rfl | simp
end Go.Proofs.Ytkmfhcjdajbbhaa
