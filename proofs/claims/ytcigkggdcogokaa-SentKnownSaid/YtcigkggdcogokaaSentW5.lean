/-
  The packets' log: walks of slot, Get, Oldest, Clear, Last, of the totals, of New.
-/
import Derived.Test.YtcigkggdcogokaaSentW4
import Derived.Test.YtcigkggdcogokaaSentPlain
namespace Go.Proofs.Ytcigkggdcogokaa
open Go.RowKit

set_option maxHeartbeats 1000000 in
theorem slot_is {w : World} {b rb m room : Nat} {last : Int} {fr many : Nat} {fl el : Int} {ring q : List Sl} (n : Int) (p : Pk) (hC : LogC w b rb m room last fr q.length many fl el ring) (hR : Ring m fr ring q)
    (hs : q.Pairwise fun a b => a.1.num < b.1.num) (hq : q[firstAt n q]? = some (p, true)) (hn : p.num = n) :
    Calls Try.prog 38 #[.pointer (some ⟨b, 0, none⟩), .int .i64 n] w fun e w' => e = .returned (.pointer (some ⟨rb, (fr + firstAt n q) % m * 7, none⟩)) ∧ Below w.heap.size w w' := by
  have hr1 := hC.r1
  have hr2 := hC.r2
  have hm2 := hC.m2
  have hfm := hR.frm
  have hqm := hR.long
  have hi : firstAt n q < q.length := (List.getElem?_eq_some_iff.1 hq).1
  have hat := hR.at_ _ hi
  rw [hq] at hat
  have hF := find_any n hC hR hs
  obtain ⟨i, hie⟩ : ∃ i, firstAt n q = i := ⟨_, rfl⟩
  rw [hie] at hi hat hF ⊢
  have e4 : ((i : Int) == (q.length : Int)) = false := by rw [beq_eq_false_iff_ne]; omega
  have HF := hide hF
  have HI := hide hie
  have hn' : (p.num == n) = true := by rw [beq_iff_eq]; exact hn
  have HN := hide hn
  have HM := hide hm2
  have hm3 : m ≤ 512 := by omega
  have hm4 : 1 ≤ m := by omega
  clear hF hie hq hn hm2
  go_enter Try.func38, Try.ntmps38
  go_wp2_with (first | (go_at_call 33; refine (none_no b room _ (hC.cell 0) hr1).mono ?_; rintro e1 w1 ⟨rfl, rfl⟩) | (go_at_call 55; refine HF.out.mono ?_; rintro e1 w1 ⟨rfl, hb1⟩; have hC1 := hC.below hb1; have c2 : w1.cell? ⟨b, 2, none⟩ = some (.slice (some ⟨rb, 0, none⟩) m hC1.cap) := hC1.cell 2; have c3 : w1.cell? ⟨b, 3, none⟩ = some (.int .i64 fr) := hC1.cell 3; have c4 : w1.cell? ⟨b, 4, none⟩ = some (.int .i64 q.length) := hC1.cell 4; obtain ⟨z0, z1, z2, z3, z4, z5, z6⟩ := hC1.slot hat; simp only at z0 z6) | (go_at_call 36; refine (at_any b rb m fr i _ c2 c3 (by omega) (by omega) (by omega) (by omega)).mono ?_; rintro e2 w2 ⟨rfl, nq, rfl⟩))
  go_ret
  exact ⟨rfl, below_drewN hb1 _⟩

/-- The three ways to no slot. -/
def NoSlot (n : Int) (q : List Sl) : Prop := ∀ s, q[firstAt n q]? = some s → s.1.num ≠ n ∨ s.2 = false

set_option maxHeartbeats 1000000 in
theorem slot_none {w : World} {b rb m room : Nat} {last : Int} {fr many : Nat} {fl el : Int} {ring q : List Sl} (n : Int) (hC : LogC w b rb m room last fr q.length many fl el ring) (hR : Ring m fr ring q)
    (hs : q.Pairwise fun a b => a.1.num < b.1.num) (hq : NoSlot n q) :
    Calls Try.prog 38 #[.pointer (some ⟨b, 0, none⟩), .int .i64 n] w fun e w' => e = .returned (.pointer none) ∧ Below w.heap.size w w' := by
  have hr1 := hC.r1
  have hr2 := hC.r2
  have hm2 := hC.m2
  have hfm := hR.frm
  have hqm := hR.long
  have hF := find_any n hC hR hs
  have hle := firstAt_le n q
  have hm3 : m ≤ 512 := by omega
  have hm4 : 1 ≤ m := by omega
  rcases Nat.lt_or_ge (firstAt n q) q.length with hi | hi
  · have hat := hR.at_ _ hi
    have hqs : q[firstAt n q]? = some q[firstAt n q] := List.getElem?_eq_getElem hi
    have hno := hq _ hqs
    rw [hqs] at hat
    obtain ⟨p, hp⟩ : ∃ p, q[firstAt n q] = p := ⟨_, rfl⟩
    rw [hp] at hat hno
    obtain ⟨i, hie⟩ : ∃ i, firstAt n q = i := ⟨_, rfl⟩
    rw [hie] at hi hat hF hle
    have e4 : ((i : Int) == (q.length : Int)) = false := by rw [beq_eq_false_iff_ne]; omega
    have HF := hide hF
    have HI := hide hie
    have HM := hide hm2
    have HQ := hide hq
    clear hF hie hq hm2 hqs hp
    by_cases hn : p.1.num = n
    · have hth : p.2 = false := hno.resolve_left (fun h => h hn)
      have hn' : (p.1.num == n) = true := by rw [beq_iff_eq]; exact hn
      have HN := hide hn
      have HT := hide hth
      clear hn hno hth
      go_enter Try.func38, Try.ntmps38
      go_wp2_with (first | (go_at_call 33; refine (none_no b room _ (hC.cell 0) hr1).mono ?_; rintro e1 w1 ⟨rfl, rfl⟩) | (go_at_call 55; refine HF.out.mono ?_; rintro e1 w1 ⟨rfl, hb1⟩; have hC1 := hC.below hb1; have c2 : w1.cell? ⟨b, 2, none⟩ = some (.slice (some ⟨rb, 0, none⟩) m hC1.cap) := hC1.cell 2; have c3 : w1.cell? ⟨b, 3, none⟩ = some (.int .i64 fr) := hC1.cell 3; have c4 : w1.cell? ⟨b, 4, none⟩ = some (.int .i64 q.length) := hC1.cell 4; obtain ⟨z0, z1, z2, z3, z4, z5, z6⟩ := hC1.slot hat; rw [HT.out] at z6) | (go_at_call 36; refine (at_any b rb m fr i _ c2 c3 (by omega) (by omega) (by omega) (by omega)).mono ?_; rintro e2 w2 ⟨rfl, nq, rfl⟩))
      go_ret
      exact ⟨rfl, below_drewN hb1 _⟩
    · have hn' : (p.1.num == n) = false := by rw [beq_eq_false_iff_ne]; exact hn
      have HN := hide hn
      clear hn hno
      go_enter Try.func38, Try.ntmps38
      go_wp2_with (first | (go_at_call 33; refine (none_no b room _ (hC.cell 0) hr1).mono ?_; rintro e1 w1 ⟨rfl, rfl⟩) | (go_at_call 55; refine HF.out.mono ?_; rintro e1 w1 ⟨rfl, hb1⟩; have hC1 := hC.below hb1; have c2 : w1.cell? ⟨b, 2, none⟩ = some (.slice (some ⟨rb, 0, none⟩) m hC1.cap) := hC1.cell 2; have c3 : w1.cell? ⟨b, 3, none⟩ = some (.int .i64 fr) := hC1.cell 3; have c4 : w1.cell? ⟨b, 4, none⟩ = some (.int .i64 q.length) := hC1.cell 4; obtain ⟨z0, z1, z2, z3, z4, z5, z6⟩ := hC1.slot hat) | (go_at_call 36; refine (at_any b rb m fr i _ c2 c3 (by omega) (by omega) (by omega) (by omega)).mono ?_; rintro e2 w2 ⟨rfl, nq, rfl⟩))
      go_ret
      exact ⟨rfl, below_drewN hb1 _⟩
  · have hie : firstAt n q = q.length := by omega
    rw [hie] at hF
    have HF := hide hF
    have HI := hide hie
    have HM := hide hm2
    have HQ := hide hq
    clear hF hie hq hm2
    go_enter Try.func38, Try.ntmps38
    go_wp2_with (first | (go_at_call 33; refine (none_no b room _ (hC.cell 0) hr1).mono ?_; rintro e1 w1 ⟨rfl, rfl⟩) | (go_at_call 55; refine HF.out.mono ?_; rintro e1 w1 ⟨rfl, hb1⟩; have hC1 := hC.below hb1; have c4 : w1.cell? ⟨b, 4, none⟩ = some (.int .i64 q.length) := hC1.cell 4))
    go_ret
    exact ⟨rfl, hb1⟩
end Go.Proofs.Ytcigkggdcogokaa
