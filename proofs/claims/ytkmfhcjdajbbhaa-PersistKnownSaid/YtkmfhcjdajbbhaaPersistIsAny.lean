/-
  Layer 10 (package persist): Is, at any measure.
-/
import Derived.Test.YtkmfhcjdajbbhaaPtoAny
import Derived.Test.YtkmfhcjdajbbhaaPersistHelp
namespace Go.Proofs.Ytkmfhcjdajbbhaa
set_option linter.unusedSimpArgs false
set_option linter.unusedVariables false
open Go.RowKit

set_option maxRecDepth 100000 in
set_option maxHeartbeats 1000000 in
theorem persistis_any (a : Option Addr) (n cap : Nat) (ps : List PK) (q : Option Addr) (rs : List Rg) (r : RT) (delay : Int) (w : World) (hn : ps.length = n) (hcap : n ≤ cap) (hP : PksAt w a ps) (ha : ∀ k o, a = some ⟨k, o, none⟩ → k < w.heap.size) (hA : AckAt w (.pointer q) rs)
    (hsm : (-9223372036854775808 ≤ r.smooth ∧ r.smooth ≤ 9223372036854775807)) :
    Calls Try.prog 32 #[.slice a n cap, .pointer q, rtV r, .int .i64 delay] w fun e w' => e = .returned (.bool ((periodOf rs r.first ps).some && rtC r && decide (timeOf (3 * baseAny r delay) < (periodOf rs r.first ps).d))) ∧ Below w.heap.size w w' := by
  have hbw : Below w.heap.size w (w.alloc (.cells #[.int .i64 r.latest, .int .i64 r.min, .int .i64 r.smooth, .int .i64 r.var, .int .i64 r.first] 53)) := (Below.refl _ _).alloc (Nat.le_refl _) _
  have hx := Blk.new w 53 #[.int .i64 r.latest, .int .i64 r.min, .int .i64 r.smooth, .int .i64 r.var, .int .i64 r.first]
  have HPE := hide (period_any a n cap ps q rs r.first (w.alloc (.cells #[.int .i64 r.latest, .int .i64 r.min, .int .i64 r.smooth, .int .i64 r.var, .int .i64 r.first] 53)) hn hcap (hP.below hbw (Nat.le_refl _)) (fun k o e => Nat.lt_of_lt_of_le (ha k o e) hbw.size) (hA.below hbw))
  have HCK := hide (fun W => rttcheck_any r W hsm)
  have HPT := hide (fun W => ptopersist_any r delay W hsm)
  obtain ⟨st, hst⟩ : ∃ st, periodOf rs r.first ps = st := ⟨_, rfl⟩
  obtain ⟨V, hV⟩ : ∃ V, timeOf (3 * baseAny r delay) = V := ⟨_, rfl⟩
  obtain ⟨T, hT⟩ : ∃ T, rtC r = T := ⟨_, rfl⟩
  rw [hT] at HCK ⊢
  rw [hst] at HPE ⊢
  rw [hV] at HPT ⊢
  have HBW := hide hbw
  have HX := hide hx
  clear hbw hx hst hV hT hn hP ha hA hsm
  obtain ⟨la, mi, sm_, va, fi⟩ := r
  obtain ⟨d, lo, hi, sm⟩ := st
  unfold rtV perV at *
  dsimp only at *
  cases sm with
  | false =>
    go_enter Try.func32, Try.ntmps32
    go_wp2_with fail
    refine HPE.out.mono ?_
    rintro x1 w1 ⟨rfl, hb1⟩
    have HB1 := hide (bw_below' HBW.out hb1)
    clear hb1
    go_wp2_with fail
    go_ret
    exact ⟨rfl, HB1.out⟩
  | true =>
    cases T with
    | false =>
      simp only [Bool.false_eq_true, if_false] at HCK
      go_enter Try.func32, Try.ntmps32
      go_wp2_with fail
      refine HPE.out.mono ?_
      rintro x1 w1 ⟨rfl, hb1⟩
      have HX1 := hide ((hb1.block _ HX.out.lt).trans HX.out)
      have HB1 := hide (bw_below' HBW.out hb1)
      clear hb1 HX
      have c0 := Blk.cell HX1.out 0
      have c1 := Blk.cell HX1.out 1
      have c2 := Blk.cell HX1.out 2
      have c3 := Blk.cell HX1.out 3
      have c4 := Blk.cell HX1.out 4
      go_wp2_with fail
      refine (HCK.out _).mono ?_
      rintro x2 w2 ⟨rfl, hb2⟩
      have HB2 := hide (bw_below' HB1.out hb2)
      clear hb2 HX1 HB1 c0 c1 c2 c3 c4
      go_wp2_with fail
      go_ret
      exact ⟨rfl, HB2.out⟩
    | true =>
      simp only [if_true] at HCK
      go_enter Try.func32, Try.ntmps32
      go_wp2_with fail
      refine HPE.out.mono ?_
      rintro x1 w1 ⟨rfl, hb1⟩
      have HX1 := hide ((hb1.block _ HX.out.lt).trans HX.out)
      have HB1 := hide (bw_below' HBW.out hb1)
      clear hb1 HX
      have c0 := Blk.cell HX1.out 0
      have c1 := Blk.cell HX1.out 1
      have c2 := Blk.cell HX1.out 2
      have c3 := Blk.cell HX1.out 3
      have c4 := Blk.cell HX1.out 4
      go_wp2_with fail
      refine (HCK.out _).mono ?_
      rintro x2 w2 ⟨rfl, hb2⟩
      have HX2 := hide ((hb2.block _ (Blk.lt HX1.out)).trans HX1.out)
      have HB2 := hide (bw_below' HB1.out hb2)
      clear hb2 HX1 HB1 c0 c1 c2 c3 c4
      have c0 := Blk.cell HX2.out 0
      have c1 := Blk.cell HX2.out 1
      have c2 := Blk.cell HX2.out 2
      have c3 := Blk.cell HX2.out 3
      have c4 := Blk.cell HX2.out 4
      go_wp2_with fail
      refine (HPT.out _).mono ?_
      rintro x3 w3 ⟨rfl, hb3⟩
      have HB3 := hide (bw_below' HB2.out hb3)
      clear hb3 c0 c1 c2 c3 c4
      go_wp2_with fail
      go_ret
      exact ⟨rfl, HB3.out⟩
end Go.Proofs.Ytkmfhcjdajbbhaa
