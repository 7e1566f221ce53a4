/-
  The law's own works: its walk.
-/
import Derived.Test.YtbpeienllhbffaaDoorCfParse
import Derived.Test.YtbpeienllhbffaaDoorCfExamples
namespace Go.Proofs.YtbpeienllhbffaaDoor
set_option linter.unusedSimpArgs false
set_option linter.unusedVariables false
open Go.RowKit Go.Shelf

theorem text_ok (c : CF) (w : World) (hE : Env w) (hc : okC c = true) : Calls Tryd.prog 29 #[.agg (confC c)] w fun e w' => e = .returned (.tuple #[.string (mkB (textL c 10)), .int .i64 0]) ∧ Below w.heap.size w w' := by
  have h := text_any c w hE (ok_small hc)
  rw [err_ok.2 hc] at h
  exact h
theorem check_lit (c : CF) (w : World) {er : Int} (h : errC c = er) : Calls Tryd.prog 31 #[.agg (confC c)] w fun e w' => e = .returned (.int .i64 er) ∧ Below w.heap.size w w' := by
  subst h
  exact check_any c w
set_option maxRecDepth 100000 in
set_option maxHeartbeats 4000000 in
theorem cworks_any (w : World) (hE : Env w) : Calls Tryd.prog 35 #[] w fun e w' => e = .returned (.bool true) ∧ Below w.heap.size w w' := by
  have HE := hide hE
  have p1 := fun W E => parse_any ⟨#[114, 111, 111, 109, 32, 52]⟩ (by decide) W E
  have p2 := fun W E => parse_any ⟨#[114, 111, 111, 109, 32, 48, 52]⟩ (by decide) W E
  have p3 := fun W E => parse_any ⟨#[114, 111, 111, 109, 32, 49]⟩ (by decide) W E
  have p4 := fun W E => parse_any ⟨#[102, 105, 114, 115, 116, 32, 50, 52, 48, 48, 10, 102, 105, 114, 115, 116, 32, 50, 52, 48, 48]⟩ (by decide) W E
  rw [ex_room4] at p1
  rw [ex_room04] at p2
  rw [ex_room1] at p3
  rw [ex_twice] at p4
  simp only [parseE, confC, zeroCF, defaultCF] at p1 p2 p3 p4
  have P1 := hide p1
  have P2 := hide p2
  have P3 := hide p3
  have P4 := hide p4
  clear p1 p2 p3 p4
  have T1 := hide (fun W E => text_ok (defaultCF true) W E (ex_ok true))
  have PF := hide ex_prefix
  obtain ⟨t, ht⟩ : ∃ t, mkB (textL (defaultCF true) 10) = t := ⟨_, rfl⟩
  have htd : t.data.toList = textL (defaultCF true) 10 := by rw [← ht]; rfl
  rw [← htd] at PF
  rw [ht] at T1
  clear hE ht htd
  go_enter Tryd.func35, Tryd.ntmps35
  go_wp2_with fail
  refine (default_any true _).mono ?_
  rintro e1 w1 ⟨rfl, hb1⟩
  have HE1 := hide (HE.out.later hb1)
  have HB1 := hide hb1
  clear hb1
  go_wp2_with fail
  refine (T1.out _ HE1.out).mono ?_
  rintro e2 w2 ⟨rfl, hb2⟩
  have HE2 := hide (HE1.out.later hb2)
  have HB2 := hide (below2 HB1.out hb2)
  clear hb2 HB1 HE1 T1
  go_wp2_with fail
  refine (P1.out _ HE2.out).mono ?_
  rintro e3 w3 ⟨rfl, hb3⟩
  have HE3 := hide (HE2.out.later hb3)
  have HB3 := hide (below2 HB2.out hb3)
  have ha3 : Below w3.heap.size w3 (w3.alloc (.cells #[.bool false, .int .i64 1200, .int .i64 12000, .int .i64 16777216, .int .i64 333000000, .int .i64 25000000, .int .i64 3, .int .i64 12000, .int .i64 4, .int .i64 6] 46)) := (Below.refl _ _).alloc (Nat.le_refl _) _
  have hk3 : Blk (w3.alloc (.cells #[.bool false, .int .i64 1200, .int .i64 12000, .int .i64 16777216, .int .i64 333000000, .int .i64 25000000, .int .i64 3, .int .i64 12000, .int .i64 4, .int .i64 6] 46)) w3.heap.size 46 #[.bool false, .int .i64 1200, .int .i64 12000, .int .i64 16777216, .int .i64 333000000, .int .i64 25000000, .int .i64 3, .int .i64 12000, .int .i64 4, .int .i64 6] := Blk.new _ _ _
  have HA3 := hide (HE3.out.later ha3)
  have HBA3 := hide (below2 HB3.out ha3)
  have HK3 := hide hk3
  clear hb3 HB2 HE2 P1 HE3 HB3 ha3 hk3
  obtain ⟨rb, hrb⟩ : ∃ rb, w3.heap.size = rb := ⟨_, rfl⟩
  rw [hrb] at HK3
  go_wp2_with fail
  refine (P2.out _ HA3.out).mono ?_
  rintro e4 w4 ⟨rfl, hb4⟩
  have ha4 := hb4.trans (((Below.refl w4.heap.size w4).alloc (Nat.le_refl _) (.cells #[.bool false, .int .i64 0, .int .i64 0, .int .i64 0, .int .i64 0, .int .i64 0, .int .i64 0, .int .i64 0, .int .i64 0, .int .i64 0] 46)).mono hb4.size)
  have HA4 := hide (HA3.out.later ha4)
  have HBA4 := hide (below2 HBA3.out ha4)
  have HK4 := hide ((ha4.block _ (Blk.lt HK3.out)).trans HK3.out : Blk _ rb 46 _)
  clear ha4 hb4 HA3 HBA3 HK3 P2
  go_wp2_with fail
  refine (P3.out _ HA4.out).mono ?_
  rintro e5 w5 ⟨rfl, hb5⟩
  have ha5 := hb5.trans (((Below.refl w5.heap.size w5).alloc (Nat.le_refl _) (.cells #[.bool false, .int .i64 0, .int .i64 0, .int .i64 0, .int .i64 0, .int .i64 0, .int .i64 0, .int .i64 0, .int .i64 0, .int .i64 0] 46)).mono hb5.size)
  have HA5 := hide (HA4.out.later ha5)
  have HBA5 := hide (below2 HBA4.out ha5)
  have HK5 := hide ((ha5.block _ (Blk.lt HK4.out)).trans HK4.out : Blk _ rb 46 _)
  clear ha5 hb5 HA4 HBA4 HK4 P3
  go_wp2_with fail
  refine (P4.out _ HA5.out).mono ?_
  rintro e6 w6 ⟨rfl, hb6⟩
  have ha6 := hb6.trans (((Below.refl w6.heap.size w6).alloc (Nat.le_refl _) (.cells #[.bool false, .int .i64 0, .int .i64 0, .int .i64 0, .int .i64 0, .int .i64 0, .int .i64 0, .int .i64 0, .int .i64 0, .int .i64 0] 46)).mono hb6.size)
  have HBA6 := hide (below2 HBA5.out ha6)
  have HK6 := hide ((ha6.block _ (Blk.lt HK5.out)).trans HK5.out : Blk _ rb 46 _)
  clear ha6 hb6 HA5 HBA5 HK5 P4
  have y4 := Blk.cell HK6.out 4
  have y8 := Blk.cell HK6.out 8
  have HX := hide (fun W => Tryd.strings_HasPrefix t ⟨#[115, 101, 114, 118, 101, 114, 32, 49, 10, 100, 97, 116, 97, 103, 114, 97, 109, 32, 49, 50, 48, 48, 10, 102, 105, 114, 115, 116, 32, 49, 50, 48, 48, 48, 10, 109, 111, 115, 116, 32, 49, 54, 55, 55, 55, 50, 49, 54, 10, 114, 116, 116, 32, 51, 51, 51, 48, 48, 48, 48, 48, 48, 10]⟩ W)
  go_wp2_with fail
  refine (HX.out _).mono ?_
  rintro e7 w7 ⟨rfl, rfl⟩
  have hpf : Lib.hasPrefix t.data.toList [115, 101, 114, 118, 101, 114, 32, 49, 10, 100, 97, 116, 97, 103, 114, 97, 109, 32, 49, 50, 48, 48, 10, 102, 105, 114, 115, 116, 32, 49, 50, 48, 48, 48, 10, 109, 111, 115, 116, 32, 49, 54, 55, 55, 55, 50, 49, 54, 10, 114, 116, 116, 32, 51, 51, 51, 48, 48, 48, 48, 48, 48, 10] = true := PF.out
  rw [hpf]
  clear hpf PF
  go_wp2_with fail
  go_ret
  exact ⟨rfl, HBA6.out⟩
end Go.Proofs.YtbpeienllhbffaaDoor
