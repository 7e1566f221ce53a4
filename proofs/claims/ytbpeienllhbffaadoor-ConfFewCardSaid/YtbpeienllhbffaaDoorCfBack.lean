/-
  The statement ConfBack: its walk.
-/
import Derived.Test.YtbpeienllhbffaaDoorCfTurn
import Derived.Test.YtbpeienllhbffaaDoorCfWorks
import Derived.Test.YtbpeienllhbffaaDoorCfMade
import Derived.Test.YtbpeienllhbffaaDoorCfArgs
namespace Go.Proofs.YtbpeienllhbffaaDoor
set_option linter.unusedSimpArgs false
set_option linter.unusedVariables false
open Go.RowKit Go.Shelf

/-- The lines of a setting's text. -/
theorem text_lines {c : CF} (h : okC c = true) : linesB (mkB (textL c 10)) = ((List.range 10).map fun i => mkB (rowL i (valF c i))) ++ [mkB []] := by
  rw [lines_list, textL_closed, linesL_closed _ (fun x hx => ?_), List.map_append, List.map_map]
  · rfl
  · obtain ⟨i, hi, rfl⟩ := List.mem_map.1 hx
    exact rowL_no (List.mem_range.1 hi) (ok_vals h i (List.mem_range.1 hi)).1
theorem text_count {c : CF} (h : okC c = true) : Lib.countB (mkB (textL c 10)) nlB + 1 = 11 := by
  rw [← lines_length, text_lines h]
  rfl
/-- The lines of a setting's text, in memory. -/
def RowsOf (w : World) (A : Nat) (c : CF) : Prop := A < w.heap.size ∧ ∀ i < 10, w.cell? ⟨A, i, none⟩ = some (.string (mkB (rowL i (valF c i))))
theorem RowsOf.below {w w' : World} {A : Nat} {c : CF} (h : RowsOf w A c) (hb : Below w.heap.size w w') : RowsOf w' A c := ⟨Nat.lt_of_lt_of_le h.1 hb.size, fun i hi => (hb.cell (p := ⟨A, i, none⟩) h.1).trans (h.2 i hi)⟩
theorem split_text {c : CF} (h : okC c = true) (w : World) (hE : Env w) : Calls Tryd.prog 38 #[.string (mkB (textL c 10)), .string ⟨#[10]⟩] w fun e w' => e = .returned (.slice (some ⟨w.heap.size, 0, none⟩) 11 11) ∧ RowsOf w' w.heap.size c ∧ Below w.heap.size w w' := by
  obtain ⟨m, hm⟩ := hE.max
  have hz := text_size h
  have hs := Tryd.strings_Split (mkB (textL c 10)) nlB m w (by rw [Lib.size_eq, mkB_data]; omega) hm (by decide)
  refine hs.mono ?_
  rintro e w' ⟨rfl, rfl⟩
  have hc := text_count h
  have hc10 : Lib.countB (mkB (textL c 10)) nlB = 10 := by omega
  have hl : Lib.splitB nlB 0 (Lib.countB (mkB (textL c 10)) nlB) (mkB (textL c 10)) = ((List.range 10).map fun i => mkB (rowL i (valF c i))) ++ [mkB []] := text_lines h
  rw [hl, hc10]
  refine ⟨rfl, ⟨by simp, fun i hi => ?_⟩, (Below.refl _ _).alloc (Nat.le_refl _) _⟩
  rw [(Blk.new _ _ _).cell, List.getElem?_toArray, List.getElem?_map, List.getElem?_append_left (by simpa using hi), List.getElem?_map, List.getElem?_range hi]
  rfl
set_option maxRecDepth 100000 in
set_option maxHeartbeats 4000000 in
theorem cback_any (l : L9) (sv : Bool) (from_ : Int) (w : World) (hE : Env w) (hl : l.Fits) (hw : i64 from_) : Calls Tryd.prog 13 #[.agg l.arr, .bool sv, .int .i64 from_] w fun e w' => e = .returned (.bool true) ∧ Below w.heap.size w w' := by
  have HE := hide hE
  have HM := hide (fun W => made_any l sv W hl)
  have hok := made_ok l sv
  have HB := hide (fun W => bring_any from_ 10 W (by omega) (by omega) hw.1 hw.2)
  have hf := em_bd from_ 10 (by omega)
  obtain ⟨f, hff⟩ : ∃ f : Nat, from_ % 10 = f := ⟨(from_ % 10).toNat, by omega⟩
  rw [hff] at HB hf
  have hf10 : f < 10 := by omega
  obtain ⟨c, hc⟩ : ∃ c, madeC l sv = c := ⟨_, rfl⟩
  rw [hc] at HM hok
  have HOK := hide hok
  have HCW := hide (fun W E => cworks_any W E)
  have HT := hide (fun W E => text_ok c W E hok)
  have HCK := hide (fun W => check_lit c W (err_ok.2 hok))
  have HS := hide (fun W E => split_text hok W E)
  have hz := text_size hok
  have HP1 := hide (fun W E => parse_any (mkB (textL c 10)) (by rw [Lib.size_eq, mkB_data]; omega) W E)
  rw [parse_text hok] at HP1
  have hz2 := turned_size hok f 10
  have HP2 := hide (fun W E => parse_any (mkB (closed (turnedL c f 10))) (by rw [Lib.size_eq, mkB_data]; omega) W E)
  rw [parse_turned hok hf10] at HP2
  obtain ⟨t, ht⟩ : ∃ t, mkB (textL c 10) = t := ⟨_, rfl⟩
  rw [ht] at HT HP1 HS
  obtain ⟨arr, harr⟩ : ∃ a, l.arr = a := ⟨_, rfl⟩
  have ha9 : ∃ x0 x1 x2 x3 x4 x5 x6 x7 x8, arr = #[.int .i64 x0, .int .i64 x1, .int .i64 x2, .int .i64 x3, .int .i64 x4, .int .i64 x5, .int .i64 x6, .int .i64 x7, .int .i64 x8] := ⟨_, _, _, _, _, _, _, _, _, harr.symm⟩
  rw [harr] at HM ⊢
  obtain ⟨x0, x1, x2, x3, x4, x5, x6, x7, x8, rfl⟩ := ha9
  obtain ⟨carr, hcarr⟩ : ∃ a, confC c = a := ⟨_, rfl⟩
  have HCA := hide hcarr
  have ha10 : ∃ sv d first most rtt delay ex burst room backs, carr = #[.bool sv, .int .i64 d, .int .i64 first, .int .i64 most, .int .i64 rtt, .int .i64 delay, .int .i64 ex, .int .i64 burst, .int .i64 room, .int .i64 backs] := ⟨_, _, _, _, _, _, _, _, _, _, hcarr.symm⟩
  simp only [parseE] at HP1 HP2
  rw [hcarr] at HM HT HCK HP1 HP2
  obtain ⟨sv1, d, first, most, rtt, delay, ex, burst, room, backs, rfl⟩ := ha10
  clear hE hok hw hff hc harr hcarr ht hz hz2
  go_enter Tryd.func13, Tryd.ntmps13
  go_wp2_with fail
  refine (HCW.out _ (HE.out.later ((Below.refl _ _).alloc (Nat.le_refl _) _))).mono ?_
  rintro e1 w1 ⟨rfl, hb1⟩
  have HB1 := hide (below2 ((Below.refl w.heap.size w).alloc (Nat.le_refl _) (.cells #[.int .i64 x0, .int .i64 x1, .int .i64 x2, .int .i64 x3, .int .i64 x4, .int .i64 x5, .int .i64 x6, .int .i64 x7, .int .i64 x8] 53)) hb1)
  have HX1 := hide ((hb1.block _ (Blk.lt (Blk.new w 53 #[.int .i64 x0, .int .i64 x1, .int .i64 x2, .int .i64 x3, .int .i64 x4, .int .i64 x5, .int .i64 x6, .int .i64 x7, .int .i64 x8]))).trans (Blk.new w 53 #[.int .i64 x0, .int .i64 x1, .int .i64 x2, .int .i64 x3, .int .i64 x4, .int .i64 x5, .int .i64 x6, .int .i64 x7, .int .i64 x8]))
  clear hb1 HCW
  have y0 := Blk.cell HX1.out 0
  have y1 := Blk.cell HX1.out 1
  have y2 := Blk.cell HX1.out 2
  have y3 := Blk.cell HX1.out 3
  have y4 := Blk.cell HX1.out 4
  have y5 := Blk.cell HX1.out 5
  have y6 := Blk.cell HX1.out 6
  have y7 := Blk.cell HX1.out 7
  have y8 := Blk.cell HX1.out 8
  go_wp2_with fail
  refine (HM.out _).mono ?_
  rintro e2 w2 ⟨rfl, hb2⟩
  clear y0 y1 y2 y3 y4 y5 y6 y7 y8 HX1 HM
  have ha2 := hb2.trans (((Below.refl w2.heap.size w2).alloc (Nat.le_refl _) (.cells #[.bool sv1, .int .i64 d, .int .i64 first, .int .i64 most, .int .i64 rtt, .int .i64 delay, .int .i64 ex, .int .i64 burst, .int .i64 room, .int .i64 backs] 46)).mono hb2.size)
  have HK2 := hide (Blk.new w2 46 #[.bool sv1, .int .i64 d, .int .i64 first, .int .i64 most, .int .i64 rtt, .int .i64 delay, .int .i64 ex, .int .i64 burst, .int .i64 room, .int .i64 backs])
  have HB2 := hide (below2 HB1.out ha2)
  clear hb2 ha2 HB1
  obtain ⟨cb, hcb⟩ : ∃ b, w2.heap.size = b := ⟨_, rfl⟩
  rw [hcb] at HK2
  go_wp2_with fail
  refine (HT.out _ (HE.out.later HB2.out)).mono ?_
  rintro e3 w3 ⟨rfl, hb3⟩
  have HK3 := hide ((hb3.block _ (Blk.lt HK2.out)).trans HK2.out : Blk w3 cb 46 #[.bool sv1, .int .i64 d, .int .i64 first, .int .i64 most, .int .i64 rtt, .int .i64 delay, .int .i64 ex, .int .i64 burst, .int .i64 room, .int .i64 backs])
  have HB3 := hide (below2 HB2.out hb3)
  clear hb3 HB2 HK2 HT
  obtain ⟨c0, c1, c2, c3, c4, c5, c6, c7, c8, c9, _⟩ := conf_facts (c := ⟨sv1, d, first, most, rtt, delay, ex, burst, room, backs⟩) HK3.out
  go_wp2_with fail
  refine (HCK.out _).mono ?_
  rintro e4 w4 ⟨rfl, hb4⟩
  have HK4 := hide ((hb4.block _ (Blk.lt HK3.out)).trans HK3.out : Blk w4 cb 46 #[.bool sv1, .int .i64 d, .int .i64 first, .int .i64 most, .int .i64 rtt, .int .i64 delay, .int .i64 ex, .int .i64 burst, .int .i64 room, .int .i64 backs])
  have HB4 := hide (below2 HB3.out hb4)
  clear hb4 HB3 HK3 HCK c0 c1 c2 c3 c4 c5 c6 c7 c8 c9
  go_wp2_with fail
  refine (HS.out _ (HE.out.later HB4.out)).mono ?_
  rintro e5 w5 ⟨rfl, hR5, hb5⟩
  obtain ⟨A, hA⟩ : ∃ A, w4.heap.size = A := ⟨_, rfl⟩
  rw [hA] at hR5 ⊢
  have HR5 := hide hR5
  have HK5 := hide ((hb5.block _ (Blk.lt HK4.out)).trans HK4.out : Blk w5 cb 46 #[.bool sv1, .int .i64 d, .int .i64 first, .int .i64 most, .int .i64 rtt, .int .i64 delay, .int .i64 ex, .int .i64 burst, .int .i64 room, .int .i64 backs])
  have HB5 := hide (below2 HB4.out hb5)
  clear hb5 HB4 HK4 HS hA hR5 hcb
  go_wp2_with fail
  go_loopg [11, 12] 10 (fun kx s11 s12 wr => ∃ k : Nat, s12 = .int .i64 k ∧ s11 = .string (mkB (closed (turnedL c f k))) ∧ k ≤ 10 ∧ 10 - k ≤ kx ∧ RowsOf wr A c ∧ Blk wr cb 46 #[.bool sv1, .int .i64 d, .int .i64 first, .int .i64 most, .int .i64 rtt, .int .i64 delay, .int .i64 ex, .int .i64 burst, .int .i64 room, .int .i64 backs] ∧ Below w.heap.size w wr)
  case atStart => exact ⟨0, rfl, rfl, by omega, by omega, HR5.out, HK5.out, HB5.out⟩
  case round =>
    clear HR5 HK5 HB5
    obtain ⟨k, rfl, rfl, hk, hkx, hR, hK, hB⟩ := hrel
    have HR := hide hR
    have HK := hide hK
    have HBL := hide hB
    clear hR hK hB
    by_cases hlt : k < 10
    · have hlti : (k : Int) < 10 := by omega
      obtain ⟨j, hj⟩ : ∃ j : Nat, (k + f) % 10 = j := ⟨_, rfl⟩
      have hj10 : j < 10 := by omega
      have hji : ((k : Int) + f) % 10 = j := by omega
      have zj := HR.out.2 j hj10
      obtain ⟨m, hm⟩ := (HE.out.later HBL.out).max
      have hv := (ok_vals HOK.out j hj10).1
      have hsz := row_size HOK.out hj10
      have HRA := hide (Tryd.strings_ReplaceAll (mkB (rowL j (valF c j))) ⟨#[32]⟩ ⟨#[32, 32, 32]⟩ m wr (by rw [Lib.size_eq, mkB_data]; omega) hm (by decide) (by
        have h1 := Lib.countB_le ⟨#[32]⟩ (by decide) _ (mkB (rowL j (valF c j))) (Nat.le_refl _)
        have h2 : (mkB (rowL j (valF c j))).size ≤ 30 := by rw [Lib.size_eq, mkB_data]; exact hsz
        rw [show (⟨#[32, 32, 32]⟩ : ByteArray).size = 3 from rfl]
        omega))
      have hnx : (mkB (closed (turnedL c f k)) ++ (⟨#[32, 32]⟩ : ByteArray)) ++ ⟨(Lib.replaceAll (mkB (rowL j (valF c j))).data.toList [32] [32, 32, 32]).toArray⟩ ++ (⟨#[32, 10, 32, 35, 10]⟩ : ByteArray) = mkB (closed (turnedL c f (k + 1))) := by
        apply ba_eq
        rw [turned_succ, hj, ← turn_rep hj10 hv]
        simp [mkB_data]
      have HNX := hide hnx
      obtain ⟨rp, hrp⟩ : ∃ r : ByteArray, (⟨(Lib.replaceAll (mkB (rowL j (valF c j))).data.toList [32] [32, 32, 32]).toArray⟩ : ByteArray) = r := ⟨_, rfl⟩
      have hrp2 : (⟨(Lib.replaceAll (mkB (rowL j (valF c j))).data.toList (⟨#[32]⟩ : ByteArray).data.toList (⟨#[32, 32, 32]⟩ : ByteArray).data.toList).toArray⟩ : ByteArray) = rp := hrp
      rw [hrp] at HNX
      rw [hrp2] at HRA
      obtain ⟨tk, htk⟩ : ∃ z, mkB (closed (turnedL c f k)) = z := ⟨_, rfl⟩
      rw [htk] at HNX ⊢
      obtain ⟨rl, hrl⟩ : ∃ z, mkB (rowL j (valF c j)) = z := ⟨_, rfl⟩
      rw [hrl] at HRA zj
      have htkz : tk.size ≤ 600 := by
        have := turned_size HOK.out f k
        rw [← htk, Lib.size_eq, mkB_data]
        omega
      have hrpz : rp.size ≤ 100 := by
        have h1 := turn_rep (n := valF c j) hj10 hv
        have h2 := turn_size HOK.out hj10
        rw [← h1] at h2
        rw [← hrp, Lib.size_eq]
        simp only [List.length_append, List.length_cons, List.length_nil] at h2
        show (Lib.replaceAll (rowL j (valF c j)) [32] [32, 32, 32]).length ≤ 100
        omega
      clear hnx hrp hrp2 htk hrl hv hsz hm hj
      go_wp2_with fail
      refine (HB.out _).mono ?_
      rintro e6 w6 ⟨rfl, rfl⟩
      go_wp2_with fail
      refine HRA.out.mono ?_
      rintro e7 w7 ⟨rfl, hb7⟩
      have HR7 := hide (HR.out.below hb7)
      have HK7 := hide ((hb7.block _ (Blk.lt HK.out)).trans HK.out : Blk w7 cb 46 #[.bool sv1, .int .i64 d, .int .i64 first, .int .i64 most, .int .i64 rtt, .int .i64 delay, .int .i64 ex, .int .i64 burst, .int .i64 room, .int .i64 backs])
      have HB7 := hide (below2 HBL.out hb7)
      clear hb7 HR HK HBL HRA
      go_wp2_with fail
      go_roundg (10 - (k + 1))
      case rel => exact ⟨k + 1, by go_num, by rw [HNX.out], by omega, by omega, HR7.out, HK7.out, HB7.out⟩
      case measure => omega
    · have hk10 : k = 10 := by omega
      subst hk10
      clear hlt hkx hk HR
      go_wp2_with fail
      refine (HP1.out _ (HE.out.later HBL.out)).mono ?_
      rintro e8 w8 ⟨rfl, hb8⟩
      have ha8 := hb8.trans (((Below.refl w8.heap.size w8).alloc (Nat.le_refl _) (.cells #[.bool sv1, .int .i64 d, .int .i64 first, .int .i64 most, .int .i64 rtt, .int .i64 delay, .int .i64 ex, .int .i64 burst, .int .i64 room, .int .i64 backs] 46)).mono hb8.size)
      have HK8 := hide ((ha8.block _ (Blk.lt HK.out)).trans HK.out : Blk _ cb 46 #[.bool sv1, .int .i64 d, .int .i64 first, .int .i64 most, .int .i64 rtt, .int .i64 delay, .int .i64 ex, .int .i64 burst, .int .i64 room, .int .i64 backs])
      have HN8 := hide (Blk.new w8 46 #[.bool sv1, .int .i64 d, .int .i64 first, .int .i64 most, .int .i64 rtt, .int .i64 delay, .int .i64 ex, .int .i64 burst, .int .i64 room, .int .i64 backs])
      have HB8 := hide (below2 HBL.out ha8)
      clear hb8 ha8 HBL HK HP1
      obtain ⟨nb, hnb⟩ : ∃ b, w8.heap.size = b := ⟨_, rfl⟩
      rw [hnb] at HN8
      go_wp2_with fail
      refine (HP2.out _ (HE.out.later HB8.out)).mono ?_
      rintro e9 w9 ⟨rfl, hb9⟩
      have ha9 := hb9.trans (((Below.refl w9.heap.size w9).alloc (Nat.le_refl _) (.cells #[.bool sv1, .int .i64 d, .int .i64 first, .int .i64 most, .int .i64 rtt, .int .i64 delay, .int .i64 ex, .int .i64 burst, .int .i64 room, .int .i64 backs] 46)).mono hb9.size)
      have HK9 := hide ((ha9.block _ (Blk.lt HK8.out)).trans HK8.out : Blk _ cb 46 #[.bool sv1, .int .i64 d, .int .i64 first, .int .i64 most, .int .i64 rtt, .int .i64 delay, .int .i64 ex, .int .i64 burst, .int .i64 room, .int .i64 backs])
      have HN9 := hide ((ha9.block _ (Blk.lt HN8.out)).trans HN8.out : Blk _ nb 46 #[.bool sv1, .int .i64 d, .int .i64 first, .int .i64 most, .int .i64 rtt, .int .i64 delay, .int .i64 ex, .int .i64 burst, .int .i64 room, .int .i64 backs])
      have HB9 := hide (below2 HB8.out ha9)
      clear hb9 ha9 HB8 HK8 HN8 HP2 hnb
      obtain ⟨c0, c1, c2, c3, c4, c5, c6, c7, c8, c9, _⟩ := conf_facts (c := ⟨sv1, d, first, most, rtt, delay, ex, burst, room, backs⟩) HK9.out
      obtain ⟨g0, g1, g2, g3, g4, g5, g6, g7, g8, g9, _⟩ := conf_facts (c := ⟨sv1, d, first, most, rtt, delay, ex, burst, room, backs⟩) HN9.out
      go_wp2_with fail
      go_ret
      exact ⟨rfl, HB9.out⟩
end Go.Proofs.YtbpeienllhbffaaDoor
