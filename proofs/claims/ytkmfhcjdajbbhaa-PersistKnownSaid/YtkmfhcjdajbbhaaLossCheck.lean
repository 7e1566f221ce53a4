/-
  Layer 9 (package loss): Check; layer 1: sat.Is.
-/
import Derived.Test.YtkmfhcjdajbbhaaPkRows
namespace Go.Proofs.Ytkmfhcjdajbbhaa
set_option linter.unusedSimpArgs false
set_option linter.unusedVariables false
open Go.RowKit

def IdxPost (ok : Bool) (Bl : Nat) (w : World) (e : Ending) (w' : World) : Prop := ∃ R : Int, e = .returned (.int .i64 R) ∧ (ok = true → R = -1) ∧ (ok = false → 0 ≤ R) ∧ Only [Bl] w w'
set_option maxRecDepth 100000 in
set_option maxHeartbeats 2000000 in
theorem index_wrong (a : Option Addr) (len cap : Nat) (ps : List PK) (Bl : Nat) (w : World) (hlen : ps.length = len) (hl2 : len ≤ 256) (hP : PksAt w a ps) (hB : Blk w Bl 3 #[.int .i64 (-1)]) (hne : ∀ k o, a = some ⟨k, o, none⟩ → k ≠ Bl) :
    Calls Try.prog 91 #[.slice a len cap, .func (.func 69) #[] #[.pointer (some ⟨Bl, 0, none⟩)]] w (IdxPost (okPks (-1) ps) Bl w) := by
  have HP := hide hP
  have HNE := hide hne
  have HL := hide hlen
  clear hP hne hlen
  go_enter Try.func91, Try.ntmps91
  go_wp2_with fail
  go_loopg [8] len (fun kx s8 wr => ∃ (i : Nat) (last : Int), s8 = .int .i64 i ∧ i ≤ len ∧ len - i ≤ kx ∧ Hid (okPks (-1) ps = okPks last (ps.drop i)) ∧ Only [Bl] w wr ∧ Blk wr Bl 3 #[.int .i64 last])
  case atStart => exact ⟨0, -1, rfl, by omega, by omega, rfl, only_of_below (Below.refl _ _), hB⟩
  case round =>
    clear hB
    obtain ⟨i, last, rfl, hi, hkx, hok, hO, hB⟩ := hrel
    by_cases hlt : i < len
    · have hir : i < ps.length := by rw [HL.out]; exact hlt
      obtain ⟨p, hp⟩ : ∃ p, ps[i]? = some p := ⟨_, List.getElem?_eq_getElem hir⟩
      have hd : ps.drop i = p :: ps.drop (i + 1) := by
        rw [List.drop_eq_getElem_cons hir]
        congr 1
        rw [List.getElem?_eq_getElem hir] at hp
        exact Option.some.inj hp
      have hP2 := HP.out.only hO (fun k o e => by simp; exact HNE.out k o e)
      obtain ⟨k, o, rfl, hk, z0, z1, z2, z3, z4, z5⟩ := hP2.cells hp
      have hw := wrong_any p last Bl wr hB
      have HOK : Hid (okPks (-1) ps = (okPk last p && okPks p.n (ps.drop (i + 1)))) := by rw [hok, hd]; rfl
      have HW := hide hw
      unfold pkV pkC at HW
      clear hw hp hd hir hP2 hok hB
      have hin : (i : Int) < (len : Int) := by omega
      cases hq : okPk last p with
      | true =>
        have HQ := hide hq
        rw [hq] at HW HOK
        clear hq
        go_wp2_with fail
        refine HW.out.mono ?_
        rintro e1 w1 ⟨rfl, hO1, hB1⟩
        rw [show (!true) = false from rfl]
        go_wp2_with fail
        go_roundg (len - (i + 1))
        case rel => exact ⟨i + 1, p.n, by go_num, by omega, by omega, HOK.out, hO.trans hO1 (by simp), hB1⟩
        case measure => omega
      | false =>
        have HQ := hide hq
        rw [hq] at HW HOK
        clear hq
        go_wp2_with fail
        refine HW.out.mono ?_
        rintro e1 w1 ⟨rfl, hO1, hB1⟩
        rw [show (!false) = true from rfl]
        go_wp2_with fail
        go_ret
        exact ⟨i, rfl, fun h => (by rw [HOK.out] at h; cases h), fun _ => by omega, hO.trans hO1 (by simp)⟩
    · obtain rfl : i = len := by omega
      have hin : ¬ (i : Int) < (i : Int) := by omega
      have HOK : Hid (okPks (-1) ps = true) := by rw [hok, List.drop_of_length_le (by rw [HL.out]; exact Nat.le_refl _)]; rfl
      clear hok hB
      go_wp2_with fail
      go_ret
      exact ⟨-1, rfl, fun _ => rfl, fun h => (by rw [HOK.out] at h; cases h), hO⟩

set_option maxHeartbeats 1000000 in
theorem contains_wrong (a : Option Addr) (len cap : Nat) (ps : List PK) (Bl : Nat) (w : World) (hlen : ps.length = len) (hl2 : len ≤ 256) (hP : PksAt w a ps) (hB : Blk w Bl 3 #[.int .i64 (-1)]) (hne : ∀ k o, a = some ⟨k, o, none⟩ → k ≠ Bl) :
    Calls Try.prog 71 #[.slice a len cap, .func (.func 69) #[] #[.pointer (some ⟨Bl, 0, none⟩)]] w fun e w' => e = .returned (.bool (!okPks (-1) ps)) ∧ Only [Bl] w w' := by
  have HI := hide (index_wrong a len cap ps Bl w hlen hl2 hP hB hne)
  clear hlen hP hB hne
  cases hq : okPks (-1) ps with
  | true =>
    have HQ := hide hq
    rw [hq] at HI
    clear hq
    go_enter Try.func71, Try.ntmps71
    go_wp2_with fail
    refine HI.out.mono ?_
    rintro e1 w1 ⟨R, rfl, h1, _, hO⟩
    obtain rfl := h1 rfl
    clear h1
    go_wp2_with fail
    go_ret
    exact ⟨rfl, hO⟩
  | false =>
    have HQ := hide hq
    rw [hq] at HI
    clear hq
    go_enter Try.func71, Try.ntmps71
    go_wp2_with fail
    refine HI.out.mono ?_
    rintro e1 w1 ⟨R, rfl, _, h1, hO⟩
    have h0 := h1 rfl
    clear h1
    go_wp2_with fail
    go_ret
    exact ⟨rfl, hO⟩

/-- What Check answers. -/
def checkL (ps : List PK) : Int := if ps.length ≤ 256 ∧ okPks (-1) ps = true then 0 else 2
set_option maxHeartbeats 1000000 in
theorem losscheck_any (a : Option Addr) (len cap : Nat) (ps : List PK) (w : World) (hlen : ps.length = len) (hP : PksAt w a ps) (ha : ∀ k o, a = some ⟨k, o, none⟩ → k < w.heap.size) :
    Calls Try.prog 52 #[.slice a len cap] w fun e w' => e = .returned (.int .i64 (checkL ps)) ∧ Below w.heap.size w w' := by
  subst hlen
  unfold checkL
  by_cases h256 : ps.length ≤ 256
  · have HC := hide (contains_wrong a ps.length cap ps w.heap.size (w.alloc (.cells #[.int .i64 (-1)] 3)) rfl h256 (hP.below ((Below.refl _ _).alloc (Nat.le_refl _) _) (Nat.le_refl _)) (Blk.new _ _ _) (fun k o e => by have := ha k o e; omega))
    have h2 : ¬ (256 : Int) < (ps.length : Int) := by omega
    cases hq : okPks (-1) ps with
    | true =>
      have HQ := hide hq
      rw [hq] at HC
      rw [if_pos ⟨h256, rfl⟩]
      clear hq hP ha
      go_enter Try.func52, Try.ntmps52
      go_wp2_with fail
      refine HC.out.mono ?_
      rintro e1 w1 ⟨rfl, hO⟩
      rw [show (!true) = false from rfl]
      go_wp2_with fail
      go_ret
      exact ⟨rfl, ((Below.refl _ _).alloc (Nat.le_refl _) _).trans (hO.below (by simp) (by simp))⟩
    | false =>
      have HQ := hide hq
      rw [hq] at HC
      rw [if_neg (by simp)]
      clear hq hP ha
      go_enter Try.func52, Try.ntmps52
      go_wp2_with fail
      refine HC.out.mono ?_
      rintro e1 w1 ⟨rfl, hO⟩
      rw [show (!false) = true from rfl]
      go_wp2_with fail
      go_ret
      exact ⟨rfl, ((Below.refl _ _).alloc (Nat.le_refl _) _).trans (hO.below (by simp) (by simp))⟩
  · rw [if_neg (fun h => h256 h.1)]
    have h2 : (256 : Int) < (ps.length : Int) := by omega
    clear hP ha
    go_enter Try.func52, Try.ntmps52
    go_wp2_with fail
    go_ret
    exact ⟨rfl, (Below.refl _ _).alloc (Nat.le_refl _) _⟩

set_option maxHeartbeats 1000000 in
theorem clamp_any (n : Int) (w : World) : Calls Try.prog 92 #[.int .i64 n, .int .i64 0, .int .i64 9007199254740991] w fun e w' => e = .returned (.int .i64 (if n < 0 then 0 else if 9007199254740991 < n then 9007199254740991 else n)) ∧ w = w' := by
  by_cases h0 : n < 0
  · have h1 : ¬ 9007199254740991 < n := by omega
    rw [if_pos h0]
    go_enter Try.func92, Try.ntmps92
    go_wp2
    go_ret
    simp
  · rw [if_neg h0]
    by_cases h1 : 9007199254740991 < n
    · rw [if_pos h1]
      go_enter Try.func92, Try.ntmps92
      go_wp2
      go_ret
      simp
    · rw [if_neg h1]
      go_enter Try.func92, Try.ntmps92
      go_wp2
      all_goals
        go_ret
        simp
        try omega
theorem satnum_any (n : Int) (w : World) : Calls Try.prog 72 #[.int .i64 n] w fun e w' => e = .returned (.int .i64 (if n < 0 then 0 else if 9007199254740991 < n then 9007199254740991 else n)) ∧ w = w' := by
  obtain ⟨m, hm⟩ : ∃ m, (if n < 0 then 0 else if 9007199254740991 < n then 9007199254740991 else n) = m := ⟨_, rfl⟩
  have HC := hide (clamp_any n w)
  rw [hm] at HC ⊢
  clear hm
  go_enter Try.func72, Try.ntmps72
  go_wp2_with fail
  refine HC.out.mono ?_
  rintro e1 w1 ⟨rfl, rfl⟩
  go_wp2_with fail
  go_ret
  exact ⟨rfl, rfl⟩
theorem satis_any (n : Int) (w : World) : Calls Try.prog 53 #[.int .i64 n] w fun e w' => e = .returned (.bool (decide (0 ≤ n) && decide (n ≤ 9007199254740991))) ∧ w = w' := by
  have HC := hide (satnum_any n w)
  obtain ⟨m, hm⟩ : ∃ m, (if n < 0 then 0 else if 9007199254740991 < n then 9007199254740991 else n) = m := ⟨_, rfl⟩
  have hv : (n == m) = (decide (0 ≤ n) && decide (n ≤ 9007199254740991)) := by
    rw [← hm]
    by_cases h0 : n < 0
    · rw [if_pos h0, show decide (0 ≤ n) = false from decide_eq_false (by omega), Bool.false_and, beq_eq_false_iff_ne]; omega
    · rw [if_neg h0, show decide (0 ≤ n) = true from decide_eq_true (by omega), Bool.true_and]
      by_cases h1 : 9007199254740991 < n
      · rw [if_pos h1, show decide (n ≤ 9007199254740991) = false from decide_eq_false (by omega), beq_eq_false_iff_ne]; omega
      · rw [if_neg h1, show decide (n ≤ 9007199254740991) = true from decide_eq_true (by omega), beq_self_eq_true]
  have HV := hide hv
  rw [hm] at HC
  rw [← hv]
  clear hm hv
  go_enter Try.func53, Try.ntmps53
  go_wp2_with fail
  refine HC.out.mono ?_
  rintro e1 w1 ⟨rfl, rfl⟩
  go_wp2_with fail
  go_ret
  exact ⟨rfl, rfl⟩
end Go.Proofs.Ytkmfhcjdajbbhaa
