/-
  The chapter's settings, in plain Lean: four short texts, read.
-/
import Derived.Test.YtbpeienllhbffaaDoorCfLaws
namespace Go.Proofs.YtbpeienllhbffaaDoor
set_option linter.unusedSimpArgs false
set_option linter.unusedVariables false
open Go

theorem parse_reads {l : List UInt8} {ls : List (List UInt8)} {ps : List (Nat × Int)} (hl : linesL l = ls) (h : LinesRead ls ps) (hs : l.length ≤ 65536) :
    parseC (mkB l) = if errC (ofVals (setAll (defaultCF false).vals ps)) = 0 then (ofVals (setAll (defaultCF false).vals ps), 0, 0) else (zeroCF, 0, errC (ofVals (setAll (defaultCF false).vals ps))) := by
  obtain ⟨had, hr⟩ := h.run 0 pst0 (fun i _ _ => by simp [pst0])
  unfold parseC
  have hz : ¬ 65536 < (mkB l).size := by rw [Lib.size_eq, mkB_data]; omega
  rw [if_neg hz, lines_list, hl, hr]
  rfl
theorem itoa_one {u : Nat} (h : u < 10) : Lib.itoa (u : Int) = [UInt8.ofNat (48 + u)] := by
  rw [itoa_pos (by omega), Int.toNat_natCast, Lib.decDigits_one h]
theorem room_row (u : Nat) (hu : u < 10) : rowL 8 (u : Int) = [114, 111, 111, 109, 32, UInt8.ofNat (48 + u)] := by
  unfold rowL
  rw [itoa_one hu]
  rfl
theorem parse_room (u : Nat) (hu : u < 10) : parseC (mkB [114, 111, 111, 109, 32, UInt8.ofNat (48 + u)]) = if errC { defaultCF false with room := (u : Int) } = 0 then ({ defaultCF false with room := (u : Int) }, 0, 0) else (zeroCF, 0, errC { defaultCF false with room := (u : Int) }) := by
  have hr : LinesRead [rowL 8 (u : Int)] [(8, (u : Int))] := reads_rows (fun _ => (u : Int)) [8] (by simp) (fun i hi => by simp at hi; subst hi; omega)
  have hl : linesL (rowL 8 (u : Int)) = [rowL 8 (u : Int)] := linesL_one _ (rowL_no (by omega) (by omega))
  have h := parse_reads hl hr (by rw [room_row u hu]; simp)
  rw [room_row u hu] at h
  rw [h]
  rfl
theorem ex_room4 : parseC ⟨#[114, 111, 111, 109, 32, 52]⟩ = ({ defaultCF false with room := 4 }, 0, 0) := by
  have h := parse_room 4 (by omega)
  rw [if_pos (by decide +kernel)] at h
  exact h
theorem ex_room1 : parseC ⟨#[114, 111, 111, 109, 32, 49]⟩ = (zeroCF, 0, 9) := by
  have h := parse_room 1 (by omega)
  rw [if_neg (by decide +kernel)] at h
  rw [show errC { defaultCF false with room := ((1 : Nat) : Int) } = 9 by decide +kernel] at h
  exact h
theorem ex_num : numberB (mkB [48, 52]) = none := by
  rw [numberB_ok (s := mkB [48, 52]) (v := 4) (by decide +kernel), if_neg]
  rintro ⟨_, _, h⟩
  have := itoa_one (u := 4) (by omega)
  rw [show ((4 : Nat) : Int) = 4 from rfl] at this
  rw [this] at h
  exact absurd h (by decide)
theorem step_had {st : PSt} {x a b : ByteArray} (hw : wordsB x = [a, b]) (h : a.data.toList.head? ≠ some 35) (hm : a ∈ st.had) : stepC st x = none := by
  have hw0 : wordAt x 0 = a := by unfold wordAt; rw [hw]; rfl
  unfold stepC
  rw [hw0, hw, if_neg (fun e => e.elim (fun e => by cases e) h)]
  cases placeN a 10 with
  | none => rfl
  | some k => exact if_pos (.inl (memB_iff.2 hm))
theorem step_num {st : PSt} {x a b : ByteArray} (hw : wordsB x = [a, b]) (h : a.data.toList.head? ≠ some 35) (hn : numberB b = none) : stepC st x = none := by
  have hw0 : wordAt x 0 = a := by unfold wordAt; rw [hw]; rfl
  have hw1 : wordAt x 1 = b := by unfold wordAt; rw [hw]; rfl
  unfold stepC
  rw [hw0, hw1, hw, hn, if_neg (fun e => e.elim (fun e => by cases e) h)]
  cases placeN a 10 with
  | none => rfl
  | some k => simp
theorem ex_room04 : parseC ⟨#[114, 111, 111, 109, 32, 48, 52]⟩ = (zeroCF, 1, 4) := by
  have hl : linesL [114, 111, 111, 109, 32, 48, 52] = [[114, 111, 111, 109, 32, 48, 52]] := linesL_one _ (by decide)
  have hw : wordsB (mkB [114, 111, 111, 109, 32, 48, 52]) = [nameB 8, mkB [48, 52]] := by
    rw [words_wl _ (by intro b hb; simp at hb; rcases hb with rfl | rfl | rfl | rfl | rfl | rfl <;> decide), show wl [] [114, 111, 111, 109, 32, 48, 52] = [[114, 111, 111, 109], [48, 52]] by decide +kernel]
    rfl
  have hst : stepC pst0 (mkB [114, 111, 111, 109, 32, 48, 52]) = none := by
    exact step_num hw (by decide +kernel) ex_num
  have hb : parseC (mkB [114, 111, 111, 109, 32, 48, 52]) = (zeroCF, 1, 4) := by
    unfold parseC
    rw [if_neg (by decide), lines_list, hl, List.map_cons, runC_bad hst]
    rfl
  exact hb
theorem itoa_2400 : Lib.itoa 2400 = [50, 52, 48, 48] := by
  rw [itoa_pos (by omega), show (2400 : Int).toNat = 2400 from rfl, Lib.decDigits, dif_neg (by omega), Lib.decDigits, dif_neg (by omega), Lib.decDigits, dif_neg (by omega), Lib.decDigits_one (by omega)]
  decide
theorem ex_twice : parseC ⟨#[102, 105, 114, 115, 116, 32, 50, 52, 48, 48, 10, 102, 105, 114, 115, 116, 32, 50, 52, 48, 48]⟩ = (zeroCF, 2, 4) := by
  have hrow : rowL 2 2400 = [102, 105, 114, 115, 116, 32, 50, 52, 48, 48] := by
    unfold rowL
    rw [itoa_2400]
    rfl
  have hno : 10 ∉ rowL 2 2400 := rowL_no (by omega) (by omega)
  have hl : linesL (rowL 2 2400 ++ 10 :: rowL 2 2400) = [rowL 2 2400, rowL 2 2400] := by rw [linesL_cons _ _ hno, linesL_one _ hno]
  have ha : Asc (rowL 2 2400) := rowL_asc (by omega) (by omega)
  have h1 : stepC pst0 (mkB (rowL 2 2400)) = some ⟨pst0.vs.set 2 2400, pst0.had ++ [nameB 2]⟩ := step_row ha (by omega) (by omega) (by omega) (by omega) (wl_row (by omega) (by omega)) pst0 (by simp [pst0])
  have h2 : stepC ⟨pst0.vs.set 2 2400, pst0.had ++ [nameB 2]⟩ (mkB (rowL 2 2400)) = none := by
    have hw : wordsB (mkB (rowL 2 2400)) = [nameB 2, mkB (Lib.itoa 2400)] := by
      rw [words_wl _ ha, wl_row (by omega) (by omega)]
      rfl
    exact step_had hw (by decide +kernel) (by simp)
  have hb : parseC (mkB (rowL 2 2400 ++ 10 :: rowL 2 2400)) = (zeroCF, 2, 4) := by
    unfold parseC
    rw [if_neg (by rw [Lib.size_eq, mkB_data, hrow]; decide), lines_list, hl, List.map_cons, runC_cons h1, List.map_cons, runC_bad h2]
    rfl
  rw [hrow] at hb
  exact hb
theorem ex_ok (b : Bool) : okC (defaultCF b) = true := by cases b <;> decide +kernel
theorem ex_prefix : (⟨#[115, 101, 114, 118, 101, 114, 32, 49, 10, 100, 97, 116, 97, 103, 114, 97, 109, 32, 49, 50, 48, 48, 10, 102, 105, 114, 115, 116, 32, 49, 50, 48, 48, 48, 10, 109, 111, 115, 116, 32, 49, 54, 55, 55, 55, 50, 49, 54, 10, 114, 116, 116, 32, 51, 51, 51, 48, 48, 48, 48, 48, 48, 10]⟩ : ByteArray).data.toList.isPrefixOf (textL (defaultCF true) 10) = true := by
  have d1 : Lib.itoa 1 = [49] := itoa_one (u := 1) (by omega)
  have d2 : Lib.itoa 1200 = [49, 50, 48, 48] := by
    rw [itoa_pos (by omega), show (1200 : Int).toNat = 1200 from rfl, Lib.decDigits, dif_neg (by omega), Lib.decDigits, dif_neg (by omega), Lib.decDigits, dif_neg (by omega), Lib.decDigits_one (by omega)]
    decide
  have d3 : Lib.itoa 12000 = [49, 50, 48, 48, 48] := by
    rw [itoa_pos (by omega), show (12000 : Int).toNat = 12000 from rfl, Lib.decDigits, dif_neg (by omega), Lib.decDigits, dif_neg (by omega), Lib.decDigits, dif_neg (by omega), Lib.decDigits, dif_neg (by omega), Lib.decDigits_one (by omega)]
    decide
  have d4 : Lib.itoa 16777216 = [49, 54, 55, 55, 55, 50, 49, 54] := by
    rw [itoa_pos (by omega), show (16777216 : Int).toNat = 16777216 from rfl]
    repeat (rw [Lib.decDigits, dif_neg (by omega)])
    rw [Lib.decDigits_one (by omega)]
    decide
  have d5 : Lib.itoa 333000000 = [51, 51, 51, 48, 48, 48, 48, 48, 48] := by
    rw [itoa_pos (by omega), show (333000000 : Int).toNat = 333000000 from rfl]
    repeat (rw [Lib.decDigits, dif_neg (by omega)])
    rw [Lib.decDigits_one (by omega)]
    decide
  have l0 : lineL (defaultCF true) 0 = [115, 101, 114, 118, 101, 114, 32, 49, 10] := by
    unfold lineL
    rw [show valF (defaultCF true) 0 = 1 from rfl, d1]
    rfl
  have l1 : lineL (defaultCF true) 1 = [100, 97, 116, 97, 103, 114, 97, 109, 32, 49, 50, 48, 48, 10] := by
    unfold lineL
    rw [show valF (defaultCF true) 1 = 1200 from rfl, d2]
    rfl
  have l2 : lineL (defaultCF true) 2 = [102, 105, 114, 115, 116, 32, 49, 50, 48, 48, 48, 10] := by
    unfold lineL
    rw [show valF (defaultCF true) 2 = 12000 from rfl, d3]
    rfl
  have l3 : lineL (defaultCF true) 3 = [109, 111, 115, 116, 32, 49, 54, 55, 55, 55, 50, 49, 54, 10] := by
    unfold lineL
    rw [show valF (defaultCF true) 3 = 16777216 from rfl, d4]
    rfl
  have l4 : lineL (defaultCF true) 4 = [114, 116, 116, 32, 51, 51, 51, 48, 48, 48, 48, 48, 48, 10] := by
    unfold lineL
    rw [show valF (defaultCF true) 4 = 333000000 from rfl, d5]
    rfl
  have e : textL (defaultCF true) 10 = lineL (defaultCF true) 0 ++ (lineL (defaultCF true) 1 ++ (lineL (defaultCF true) 2 ++ (lineL (defaultCF true) 3 ++ (lineL (defaultCF true) 4 ++ (List.range' 5 5).flatMap (lineL (defaultCF true)))))) := by
    unfold textL
    rfl
  rw [e, l0, l1, l2, l3, l4]
  rfl
end Go.Proofs.YtbpeienllhbffaaDoor
