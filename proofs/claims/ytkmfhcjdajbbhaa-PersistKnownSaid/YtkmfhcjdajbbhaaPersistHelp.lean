/-
  The statements of layer 10: persist.Is; at, four, is, none.
-/
import Derived.Test.YtkmfhcjdajbbhaaEq3
namespace Go.Proofs.Ytkmfhcjdajbbhaa
set_option linter.unusedSimpArgs false
set_option linter.unusedVariables false
open Go.RowKit

set_option maxRecDepth 100000 in
set_option maxHeartbeats 1000000 in
theorem persistis_ok (a : Option Addr) (n cap : Nat) (ps : List PK) (q : Option Addr) (rs : List Rg) (r : RT) (delay : Int) (w : World) (hn : ps.length = n) (hcap : n ≤ cap) (hP : PksAt w a ps) (ha : ∀ k o, a = some ⟨k, o, none⟩ → k < w.heap.size) (hA : AckAt w (.pointer q) rs)
    (h : r.ok) (d0 : 0 ≤ delay) (d1 : delay ≤ 1099511627776) :
    Calls Try.prog 32 #[.slice a n cap, .pointer q, rtV r, .int .i64 delay] w fun e w' => e = .returned (.bool ((periodOf rs r.first ps).some && decide (3 * baseOf r delay < (periodOf rs r.first ps).d))) ∧ Below w.heap.size w w' := by
  have hbw : Below w.heap.size w (w.alloc (.cells #[.int .i64 r.latest, .int .i64 r.min, .int .i64 r.smooth, .int .i64 r.var, .int .i64 r.first] 53)) := (Below.refl _ _).alloc (Nat.le_refl _) _
  have hx := Blk.new w 53 #[.int .i64 r.latest, .int .i64 r.min, .int .i64 r.smooth, .int .i64 r.var, .int .i64 r.first]
  have HPE := hide (period_any a n cap ps q rs r.first (w.alloc (.cells #[.int .i64 r.latest, .int .i64 r.min, .int .i64 r.smooth, .int .i64 r.var, .int .i64 r.first] 53)) hn hcap (hP.below hbw (Nat.le_refl _)) (fun k o e => Nat.lt_of_lt_of_le (ha k o e) hbw.size) (hA.below hbw))
  have HCK := hide (fun W => rttcheck_ok r W h)
  have HPT := hide (fun W => ptopersist_ok r delay W h d0 d1)
  obtain ⟨st, hst⟩ : ∃ st, periodOf rs r.first ps = st := ⟨_, rfl⟩
  obtain ⟨V, hV⟩ : ∃ V, 3 * baseOf r delay = V := ⟨_, rfl⟩
  rw [hst] at HPE ⊢
  rw [hV] at HPT ⊢
  have HBW := hide hbw
  have HX := hide hx
  clear hbw hx hst hV hn hP ha hA h
  obtain ⟨la, mi, sm_, va, fi⟩ := r
  obtain ⟨d, lo, hi, sm⟩ := st
  unfold rtV perV at *
  dsimp only at *
  cases sm with
  | false =>
    go_enter Try.func32, Try.ntmps32
    go_wp2_with fail
    refine HPE.out.mono ?_
    rintro x1 w1 ⟨rfl, hb1⟩
    have HB1 := hide (bw_below' HBW.out hb1)
    clear hb1
    go_wp2_with fail
    go_ret
    exact ⟨rfl, HB1.out⟩
  | true =>
    go_enter Try.func32, Try.ntmps32
    go_wp2_with fail
    refine HPE.out.mono ?_
    rintro x1 w1 ⟨rfl, hb1⟩
    have HX1 := hide ((hb1.block _ HX.out.lt).trans HX.out)
    have HB1 := hide (bw_below' HBW.out hb1)
    clear hb1 HX
    have c0 := Blk.cell HX1.out 0
    have c1 := Blk.cell HX1.out 1
    have c2 := Blk.cell HX1.out 2
    have c3 := Blk.cell HX1.out 3
    have c4 := Blk.cell HX1.out 4
    go_wp2_with fail
    refine (HCK.out _).mono ?_
    rintro x2 w2 ⟨rfl, hb2⟩
    have HX2 := hide ((hb2.block _ (Blk.lt HX1.out)).trans HX1.out)
    have HB2 := hide (bw_below' HB1.out hb2)
    clear hb2 HX1 HB1 c0 c1 c2 c3 c4
    have c0 := Blk.cell HX2.out 0
    have c1 := Blk.cell HX2.out 1
    have c2 := Blk.cell HX2.out 2
    have c3 := Blk.cell HX2.out 3
    have c4 := Blk.cell HX2.out 4
    go_wp2_with fail
    refine (HPT.out _).mono ?_
    rintro x3 w3 ⟨rfl, hb3⟩
    have HB3 := hide (bw_below' HB2.out hb3)
    clear hb3 c0 c1 c2 c3 c4
    go_wp2_with fail
    go_ret
    exact ⟨rfl, HB3.out⟩

theorem rgAt_cells10 {W : World} {k : Nat} {rs : List Rg} (h : RgAt W (some ⟨k, 0, none⟩) rs) {i : Nat} {r : Rg} (hi : rs[i]? = some r) :
    W.cell? ⟨k, i * 2, none⟩ = some (.int .i64 r.lo) ∧ W.cell? ⟨k, i * 2 + 1, none⟩ = some (.int .i64 r.hi) := by
  obtain ⟨k', e, _, z0, z1⟩ := h i r hi
  cases e
  exact ⟨z0, z1⟩
/-- A lost packet, to be acknowledged. -/
def atP (n t : Int) : PK := ⟨n, t, 100, true, true, false⟩
set_option maxHeartbeats 1000000 in
theorem at10_any (n t : Int) (w : World) : Calls Try.prog 31 #[.int .i64 n, .int .i64 t] w fun e w' => e = .returned (pkV (atP n t)) ∧ Below w.heap.size w w' := by
  unfold pkV pkC atP
  go_enter Try.func31, Try.ntmps31
  go_wp2_with fail
  exact bodyPost_ret (v := .agg #[.int .i64 n, .int .i64 t, .int .i64 100, .bool true, .bool true, .bool false]) (by simp [results, Try.results31, go_sem]) rfl ⟨rfl, (Below.refl _ _).alloc (Nat.le_refl _) _⟩

set_option maxRecDepth 100000 in
set_option maxHeartbeats 1000000 in
theorem is10_yes (a : Option Addr) (n cap : Nat) (ps : List PK) (q : Option Addr) (rs : List Rg) (first : Int) (d lo hi : Int) (w : World) (hn : ps.length = n) (hcap : n ≤ cap) (hP : PksAt w a ps) (ha : ∀ k o, a = some ⟨k, o, none⟩ → k < w.heap.size) (hA : AckAt w (.pointer q) rs)
    (h : periodOf rs first ps = ⟨d, lo, hi, true⟩) :
    Calls Try.prog 35 #[.slice a n cap, .pointer q, .int .i64 first, .agg #[.int .i64 d, .int .i64 lo, .int .i64 hi]] w fun e w' => e = .returned (.bool true) ∧ Below w.heap.size w w' := by
  have hbw : Below w.heap.size w (w.alloc (.cells #[.int .i64 d, .int .i64 lo, .int .i64 hi] 45)) := (Below.refl _ _).alloc (Nat.le_refl _) _
  have HX := hide (Blk.new w 45 #[.int .i64 d, .int .i64 lo, .int .i64 hi])
  have HPE := hide (period_any a n cap ps q rs first (w.alloc (.cells #[.int .i64 d, .int .i64 lo, .int .i64 hi] 45)) hn hcap (hP.below hbw (Nat.le_refl _)) (fun k o e => Nat.lt_of_lt_of_le (ha k o e) hbw.size) (hA.below hbw))
  rw [h] at HPE
  have HBW := hide hbw
  clear hbw hn hP ha hA h
  unfold perV at HPE
  dsimp only at HPE
  go_enter Try.func35, Try.ntmps35
  go_wp2_with fail
  refine HPE.out.mono ?_
  rintro x1 w1 ⟨rfl, hb1⟩
  have hx1 := (hb1.block _ HX.out.lt).trans HX.out
  have HB1 := hide (bw_below' HBW.out hb1)
  have c0 := Blk.cell hx1 0
  have c1 := Blk.cell hx1 1
  have c2 := Blk.cell hx1 2
  have he3 := eq3 d lo hi w1
  clear hb1 hx1
  go_wp2_with fail

  go_ret
  exact ⟨by simp, HB1.out⟩
set_option maxRecDepth 100000 in
set_option maxHeartbeats 1000000 in
theorem none10_yes (a : Option Addr) (n cap : Nat) (ps : List PK) (q : Option Addr) (rs : List Rg) (first : Int) (w : World) (hn : ps.length = n) (hcap : n ≤ cap) (hP : PksAt w a ps) (ha : ∀ k o, a = some ⟨k, o, none⟩ → k < w.heap.size) (hA : AckAt w (.pointer q) rs)
    (h : periodOf rs first ps = Per.none) :
    Calls Try.prog 37 #[.slice a n cap, .pointer q, .int .i64 first] w fun e w' => e = .returned (.bool true) ∧ Below w.heap.size w w' := by
  have HPE := hide (period_any a n cap ps q rs first w hn hcap hP ha hA)
  rw [h] at HPE
  clear hn hP ha hA h
  unfold perV Per.none at HPE
  dsimp only at HPE
  go_enter Try.func37, Try.ntmps37
  go_wp2_with fail
  refine HPE.out.mono ?_
  rintro x1 w1 ⟨rfl, hb1⟩
  go_wp2_with fail
  go_ret
  exact ⟨rfl, hb1⟩
end Go.Proofs.Ytkmfhcjdajbbhaa
