/-
  The document's answer for layer 22: digits, Line: their walks.
-/
import Derived.Test.YtbpeienllhbffaaDoorEvRefCheck
import Derived.Test.YtbpeienllhbffaaDoorEvBackLaw
namespace Go.Proofs.YtbpeienllhbffaaDoor
set_option linter.unusedSimpArgs false
set_option linter.unusedVariables false
open Go.RowKit Go.Shelf
theorem itoa_small : ∀ u : Nat, u < 10 → Lib.itoa (u : Int) = [UInt8.ofNat (48 + u)] := fun u h => itoa_one h
theorem dig_cut : ∀ u : Nat, u < 10 → (⟨#[48, 49, 50, 51, 52, 53, 54, 55, 56, 57]⟩ : ByteArray).extract u (u + 1) = mkB [UInt8.ofNat (48 + u)] := by decide +kernel
theorem itoa_big {n : Int} (h : 10 ≤ n) : Lib.itoa n = Lib.itoa (n.tdiv 10) ++ Lib.itoa (n.tmod 10) := by
  obtain ⟨u, rfl⟩ : ∃ u : Nat, n = (u : Int) := ⟨n.toNat, by omega⟩
  have hu : 10 ≤ u := by omega
  have h1 : (u : Int).tdiv 10 = ((u / 10 : Nat) : Int) := rfl
  have h2 : (u : Int).tmod 10 = ((u % 10 : Nat) : Int) := rfl
  rw [h1, h2, itoa_one (Nat.mod_lt _ (by omega)), itoa_pos (Int.natCast_nonneg _), itoa_pos (Int.natCast_nonneg _), Int.toNat_natCast, Int.toNat_natCast]
  rw [Lib.decDigits, dif_neg (by omega)]
theorem itoa_len16 {n : Int} (h0 : 0 ≤ n) (h1 : n < 10000000000000000) : (Lib.itoa n).length ≤ 16 := by
  rw [itoa_pos h0, Lib.decDigits_length]
  exact nDigits_le 15 n.toNat (by omega)
set_option maxRecDepth 100000 in
set_option maxHeartbeats 4000000 in
theorem digits_any (n : Int) (h0 : 0 ≤ n) (h1 : n < 10000000000000000) (w : World) : Calls Tryd.prog 52 #[.int .i64 n] w fun e w' => e = .returned (.string (mkB (Lib.itoa n))) ∧ w = w' := by
  obtain ⟨m, hm⟩ : ∃ m, n.toNat = m := ⟨_, rfl⟩
  induction m using Nat.strongRecOn generalizing n w with
  | _ m ih =>
    by_cases h : n < 10
    · obtain ⟨u, rfl⟩ : ∃ u : Nat, n = (u : Int) := ⟨n.toNat, by omega⟩
      have hu : u < 10 := by omega
      have hr : mkB (Lib.itoa (u : Int)) = (⟨#[48, 49, 50, 51, 52, 53, 54, 55, 56, 57]⟩ : ByteArray).extract u (u + 1) := by rw [itoa_small u hu, dig_cut u hu]
      rw [hr]
      clear hr ih hm
      go_enter Tryd.func52, Tryd.ntmps52
      go_wp2_with fail
      go_ret
      exact ⟨rfl, rfl⟩
    · have hd : 0 ≤ n.tdiv 10 ∧ n.tdiv 10 < 1000000000000000 ∧ (n.tdiv 10).toNat < m := by
        obtain ⟨u, rfl⟩ : ∃ u : Nat, n = (u : Int) := ⟨n.toNat, by omega⟩
        have : (u : Int).tdiv 10 = ((u / 10 : Nat) : Int) := rfl
        omega
      have hm2 : 0 ≤ n.tmod 10 ∧ n.tmod 10 < 10 ∧ (n.tmod 10).toNat < m := by
        obtain ⟨u, rfl⟩ : ∃ u : Nat, n = (u : Int) := ⟨n.toNat, by omega⟩
        have : (u : Int).tmod 10 = ((u % 10 : Nat) : Int) := rfl
        omega
      have HA := hide (fun W => ih _ hd.2.2 (n.tdiv 10) hd.1 (by omega) W rfl)
      have HB := hide (fun W => ih _ hm2.2.2 (n.tmod 10) hm2.1 (by omega) W rfl)
      have hr := itoa_big (show 10 ≤ n by omega)
      have l1 := itoa_len16 hd.1 (show n.tdiv 10 < 10000000000000000 by omega)
      have l2 := itoa_len16 hm2.1 (show n.tmod 10 < 10000000000000000 by omega)
      have hcat : mkB (Lib.itoa (n.tdiv 10)) ++ mkB (Lib.itoa (n.tmod 10)) = mkB (Lib.itoa n) := ba_eq (by rw [ba_app, mkB_data, mkB_data, mkB_data, hr])
      have z1 : (mkB (Lib.itoa (n.tdiv 10))).size ≤ 16 := by rw [Lib.size_eq, mkB_data]; exact l1
      have z2 : (mkB (Lib.itoa (n.tmod 10))).size ≤ 16 := by rw [Lib.size_eq, mkB_data]; exact l2
      obtain ⟨A, hA⟩ : ∃ x, mkB (Lib.itoa (n.tdiv 10)) = x := ⟨_, rfl⟩
      obtain ⟨B, hB⟩ : ∃ x, mkB (Lib.itoa (n.tmod 10)) = x := ⟨_, rfl⟩
      obtain ⟨C, hC⟩ : ∃ x, mkB (Lib.itoa n) = x := ⟨_, rfl⟩
      rw [hA] at hcat z1 HA
      rw [hB] at hcat z2 HB
      rw [hC] at hcat ⊢
      rw [Int.tmod_eq_emod_of_nonneg h0] at HB
      have hw1 : -9223372036854775808 ≤ n.tdiv 10 ∧ n.tdiv 10 ≤ 9223372036854775807 := by omega
      clear ih hr l1 l2 hA hB hC hm hd hm2
      go_enter Tryd.func52, Tryd.ntmps52
      go_wp2_with fail
      with_reducible refine (HA.out w).mono ?_
      rintro x1 W1 ⟨rfl, rfl⟩
      go_wp2_with fail
      with_reducible refine (HB.out w).mono ?_
      rintro x2 W2 ⟨rfl, rfl⟩
      go_wp2_with fail
      go_ret
      exact ⟨rfl, rfl⟩
theorem itoa_B {n : Int} (h0 : 0 ≤ n) (h1 : n < 10000000000000000) : (mkB (Lib.itoa n)).size ≤ 16 := by rw [Lib.size_eq, mkB_data]; exact itoa_len16 h0 h1
/-- What Line answers. -/
def lineRes (e : EV) : Value := if okEV e then .tuple #[.string (mkB (lineE e)), .int .i64 0] else .tuple #[.string ⟨#[]⟩, .int .i64 2]
set_option maxRecDepth 100000 in
set_option maxHeartbeats 8000000 in
theorem rline_any (e : EV) (w : World) : Calls Tryd.prog 24 #[.agg (evC e)] w fun x w' => x = .returned (lineRes e) ∧ Below w.heap.size w w' := by
  have HC := hide (fun W => rcheck_any e W)
  have hB := Blk.new w 36 (evC e)
  have q0 := hB.cell 0
  have q1 := hB.cell 1
  have q2 := hB.cell 2
  have q3 := hB.cell 3
  have ha : Below w.heap.size w (w.alloc (.cells (evC e) 36)) := (Below.refl _ _).alloc (Nat.le_refl _) _
  have HA := hide ha
  have hlt : w.heap.size < (w.alloc (.cells (evC e) 36)).heap.size := by simp
  clear hB ha
  by_cases hok : okEV e = true
  · rw [errEV_yes hok] at HC
    have hres : lineRes e = .tuple #[.string (mkB (lineE e)), .int .i64 0] := by unfold lineRes; rw [if_pos hok]
    rw [hres]
    obtain ⟨k, hk, ⟨k1, k2⟩, hkk, hf⟩ := okEV_cases hok
    have hln := line_row hk
    obtain ⟨kind, sp, num, n⟩ := e
    simp only at hkk
    clear hok hk hres
    simp only [evC] at q0 q1 q2 q3 HA HC hlt ⊢
    have : k = 1 ∨ k = 2 ∨ k = 3 ∨ k = 4 ∨ k = 5 ∨ k = 6 := by omega
    rcases this with rfl | rfl | rfl | rfl | rfl | rfl
    · obtain rfl : kind = 1 := hkk
      simp [fieldsF, fSp, fNum, fSize, EV.get] at hf
      obtain ⟨⟨g1, l1⟩, ⟨g2, l2⟩, ⟨g3, l3⟩⟩ := hf
      have Hsp := hide (fun W => digits_any sp g1 l1 W)
      have z1 := itoa_B g1 l1
      have Hnum := hide (fun W => digits_any num g2 l2 W)
      have z2 := itoa_B g2 l2
      have Hn := hide (fun W => digits_any n g3 l3 W)
      have z3 := itoa_B g3 l3
      have hcat : (((((((⟨#[97, 99, 107, 101, 100, 32]⟩ : ByteArray) ++ mkB (Lib.itoa sp)) ++ (⟨#[32]⟩ : ByteArray)) ++ mkB (Lib.itoa num)) ++ (⟨#[32]⟩ : ByteArray)) ++ mkB (Lib.itoa n)) ++ (⟨#[10]⟩ : ByteArray)) = mkB (lineE ⟨1, sp, num, n⟩) := ba_eq (by
        rw [show lineE ⟨1, sp, num, n⟩ = rowE ⟨1, sp, num, n⟩ 1 ++ [10] from hln]
        simp [ba_app, mkB_data, rowE, wordF, numsL, fieldsF, fSp, fNum, fSize, EV.get])
      obtain ⟨B1, hB1⟩ : ∃ x, mkB (Lib.itoa sp) = x := ⟨_, rfl⟩
      rw [hB1] at hcat z1 Hsp
      obtain ⟨B2, hB2⟩ : ∃ x, mkB (Lib.itoa num) = x := ⟨_, rfl⟩
      rw [hB2] at hcat z2 Hnum
      obtain ⟨B3, hB3⟩ : ∃ x, mkB (Lib.itoa n) = x := ⟨_, rfl⟩
      rw [hB3] at hcat z3 Hn
      have s1 : ((⟨#[97, 99, 107, 101, 100, 32]⟩ : ByteArray) ++ B1).size ≤ 22 := by rw [ByteArray.size_append]; have : (⟨#[97, 99, 107, 101, 100, 32]⟩ : ByteArray).size = 6 := rfl; omega
      obtain ⟨y1, hy1⟩ : ∃ x, (⟨#[97, 99, 107, 101, 100, 32]⟩ : ByteArray) ++ B1 = x := ⟨_, rfl⟩
      rw [hy1] at hcat s1
      have s2 : (y1 ++ (⟨#[32]⟩ : ByteArray)).size ≤ 23 := by rw [ByteArray.size_append]; have : (⟨#[32]⟩ : ByteArray).size = 1 := rfl; omega
      obtain ⟨y2, hy2⟩ : ∃ x, y1 ++ (⟨#[32]⟩ : ByteArray) = x := ⟨_, rfl⟩
      rw [hy2] at hcat s2
      have s3 : (y2 ++ B2).size ≤ 39 := by rw [ByteArray.size_append]; have : y2.size ≤ 23 := s2; omega
      obtain ⟨y3, hy3⟩ : ∃ x, y2 ++ B2 = x := ⟨_, rfl⟩
      rw [hy3] at hcat s3
      have s4 : (y3 ++ (⟨#[32]⟩ : ByteArray)).size ≤ 40 := by rw [ByteArray.size_append]; have : (⟨#[32]⟩ : ByteArray).size = 1 := rfl; omega
      obtain ⟨y4, hy4⟩ : ∃ x, y3 ++ (⟨#[32]⟩ : ByteArray) = x := ⟨_, rfl⟩
      rw [hy4] at hcat s4
      have s5 : (y4 ++ B3).size ≤ 56 := by rw [ByteArray.size_append]; have : y4.size ≤ 40 := s4; omega
      obtain ⟨y5, hy5⟩ : ∃ x, y4 ++ B3 = x := ⟨_, rfl⟩
      rw [hy5] at hcat s5
      have s6 : (y5 ++ (⟨#[10]⟩ : ByteArray)).size ≤ 57 := by rw [ByteArray.size_append]; have : (⟨#[10]⟩ : ByteArray).size = 1 := rfl; omega
      obtain ⟨y6, hy6⟩ : ∃ x, y5 ++ (⟨#[10]⟩ : ByteArray) = x := ⟨_, rfl⟩
      rw [hy6] at hcat s6
      rw [← hcat]
      clear hcat hln
      go_enter Tryd.func24, Tryd.ntmps24
      go_wp2_with fail
      refine (HC.out _).mono ?_
      rintro x1 w1 ⟨rfl, hb1⟩
      have HW := hide (below2 HA.out hb1)
      have c0 := (hb1.cell (p := ⟨w.heap.size, 0, none⟩) hlt).trans q0
      have c1 := (hb1.cell (p := ⟨w.heap.size, 1, none⟩) hlt).trans q1
      have c2 := (hb1.cell (p := ⟨w.heap.size, 2, none⟩) hlt).trans q2
      have c3 := (hb1.cell (p := ⟨w.heap.size, 3, none⟩) hlt).trans q3
      simp only [List.getElem?_toArray, List.getElem?_cons_zero, List.getElem?_cons_succ] at c0 c1 c2 c3
      clear q0 q1 q2 q3 hb1 hlt HC HA
      go_wp2_with fail
      go_quiet ((go_at_call 52; first | with_reducible exact quiet22 (Hsp.out _) | with_reducible exact quiet22 (Hnum.out _) | with_reducible exact quiet22 (Hn.out _)))
      go_wp2_with fail
      exact bodyPost_ret (v := .tuple #[.string y6, .int .i64 0]) (by simp [results, Tryd.results24, go_sem]) rfl ⟨rfl, below_drewN HW.out _⟩
    · obtain rfl : kind = 2 := hkk
      simp [fieldsF, fSp, fNum, fSize, EV.get] at hf
      obtain ⟨⟨g1, l1⟩, ⟨g2, l2⟩, ⟨g3, l3⟩⟩ := hf
      have Hsp := hide (fun W => digits_any sp g1 l1 W)
      have z1 := itoa_B g1 l1
      have Hnum := hide (fun W => digits_any num g2 l2 W)
      have z2 := itoa_B g2 l2
      have Hn := hide (fun W => digits_any n g3 l3 W)
      have z3 := itoa_B g3 l3
      have hcat : (((((((⟨#[108, 111, 115, 116, 32]⟩ : ByteArray) ++ mkB (Lib.itoa sp)) ++ (⟨#[32]⟩ : ByteArray)) ++ mkB (Lib.itoa num)) ++ (⟨#[32]⟩ : ByteArray)) ++ mkB (Lib.itoa n)) ++ (⟨#[10]⟩ : ByteArray)) = mkB (lineE ⟨2, sp, num, n⟩) := ba_eq (by
        rw [show lineE ⟨2, sp, num, n⟩ = rowE ⟨2, sp, num, n⟩ 2 ++ [10] from hln]
        simp [ba_app, mkB_data, rowE, wordF, numsL, fieldsF, fSp, fNum, fSize, EV.get])
      obtain ⟨B1, hB1⟩ : ∃ x, mkB (Lib.itoa sp) = x := ⟨_, rfl⟩
      rw [hB1] at hcat z1 Hsp
      obtain ⟨B2, hB2⟩ : ∃ x, mkB (Lib.itoa num) = x := ⟨_, rfl⟩
      rw [hB2] at hcat z2 Hnum
      obtain ⟨B3, hB3⟩ : ∃ x, mkB (Lib.itoa n) = x := ⟨_, rfl⟩
      rw [hB3] at hcat z3 Hn
      have s1 : ((⟨#[108, 111, 115, 116, 32]⟩ : ByteArray) ++ B1).size ≤ 21 := by rw [ByteArray.size_append]; have : (⟨#[108, 111, 115, 116, 32]⟩ : ByteArray).size = 5 := rfl; omega
      obtain ⟨y1, hy1⟩ : ∃ x, (⟨#[108, 111, 115, 116, 32]⟩ : ByteArray) ++ B1 = x := ⟨_, rfl⟩
      rw [hy1] at hcat s1
      have s2 : (y1 ++ (⟨#[32]⟩ : ByteArray)).size ≤ 22 := by rw [ByteArray.size_append]; have : (⟨#[32]⟩ : ByteArray).size = 1 := rfl; omega
      obtain ⟨y2, hy2⟩ : ∃ x, y1 ++ (⟨#[32]⟩ : ByteArray) = x := ⟨_, rfl⟩
      rw [hy2] at hcat s2
      have s3 : (y2 ++ B2).size ≤ 38 := by rw [ByteArray.size_append]; have : y2.size ≤ 22 := s2; omega
      obtain ⟨y3, hy3⟩ : ∃ x, y2 ++ B2 = x := ⟨_, rfl⟩
      rw [hy3] at hcat s3
      have s4 : (y3 ++ (⟨#[32]⟩ : ByteArray)).size ≤ 39 := by rw [ByteArray.size_append]; have : (⟨#[32]⟩ : ByteArray).size = 1 := rfl; omega
      obtain ⟨y4, hy4⟩ : ∃ x, y3 ++ (⟨#[32]⟩ : ByteArray) = x := ⟨_, rfl⟩
      rw [hy4] at hcat s4
      have s5 : (y4 ++ B3).size ≤ 55 := by rw [ByteArray.size_append]; have : y4.size ≤ 39 := s4; omega
      obtain ⟨y5, hy5⟩ : ∃ x, y4 ++ B3 = x := ⟨_, rfl⟩
      rw [hy5] at hcat s5
      have s6 : (y5 ++ (⟨#[10]⟩ : ByteArray)).size ≤ 56 := by rw [ByteArray.size_append]; have : (⟨#[10]⟩ : ByteArray).size = 1 := rfl; omega
      obtain ⟨y6, hy6⟩ : ∃ x, y5 ++ (⟨#[10]⟩ : ByteArray) = x := ⟨_, rfl⟩
      rw [hy6] at hcat s6
      rw [← hcat]
      clear hcat hln
      go_enter Tryd.func24, Tryd.ntmps24
      go_wp2_with fail
      refine (HC.out _).mono ?_
      rintro x1 w1 ⟨rfl, hb1⟩
      have HW := hide (below2 HA.out hb1)
      have c0 := (hb1.cell (p := ⟨w.heap.size, 0, none⟩) hlt).trans q0
      have c1 := (hb1.cell (p := ⟨w.heap.size, 1, none⟩) hlt).trans q1
      have c2 := (hb1.cell (p := ⟨w.heap.size, 2, none⟩) hlt).trans q2
      have c3 := (hb1.cell (p := ⟨w.heap.size, 3, none⟩) hlt).trans q3
      simp only [List.getElem?_toArray, List.getElem?_cons_zero, List.getElem?_cons_succ] at c0 c1 c2 c3
      clear q0 q1 q2 q3 hb1 hlt HC HA
      go_wp2_with fail
      go_quiet ((go_at_call 52; first | with_reducible exact quiet22 (Hsp.out _) | with_reducible exact quiet22 (Hnum.out _) | with_reducible exact quiet22 (Hn.out _)))
      go_wp2_with fail
      exact bodyPost_ret (v := .tuple #[.string y6, .int .i64 0]) (by simp [results, Tryd.results24, go_sem]) rfl ⟨rfl, below_drewN HW.out _⟩
    · obtain rfl : kind = 3 := hkk
      simp [fieldsF, fSp, fNum, fSize, EV.get] at hf
      obtain ⟨⟨g1, l1⟩, ⟨g3, l3⟩⟩ := hf
      have Hsp := hide (fun W => digits_any sp g1 l1 W)
      have z1 := itoa_B g1 l1
      have Hn := hide (fun W => digits_any n g3 l3 W)
      have z3 := itoa_B g3 l3
      have hcat : (((((⟨#[112, 114, 111, 98, 101, 32]⟩ : ByteArray) ++ mkB (Lib.itoa sp)) ++ (⟨#[32]⟩ : ByteArray)) ++ mkB (Lib.itoa n)) ++ (⟨#[10]⟩ : ByteArray)) = mkB (lineE ⟨3, sp, num, n⟩) := ba_eq (by
        rw [show lineE ⟨3, sp, num, n⟩ = rowE ⟨3, sp, num, n⟩ 3 ++ [10] from hln]
        simp [ba_app, mkB_data, rowE, wordF, numsL, fieldsF, fSp, fNum, fSize, EV.get])
      obtain ⟨B1, hB1⟩ : ∃ x, mkB (Lib.itoa sp) = x := ⟨_, rfl⟩
      rw [hB1] at hcat z1 Hsp
      obtain ⟨B3, hB3⟩ : ∃ x, mkB (Lib.itoa n) = x := ⟨_, rfl⟩
      rw [hB3] at hcat z3 Hn
      have s1 : ((⟨#[112, 114, 111, 98, 101, 32]⟩ : ByteArray) ++ B1).size ≤ 22 := by rw [ByteArray.size_append]; have : (⟨#[112, 114, 111, 98, 101, 32]⟩ : ByteArray).size = 6 := rfl; omega
      obtain ⟨y1, hy1⟩ : ∃ x, (⟨#[112, 114, 111, 98, 101, 32]⟩ : ByteArray) ++ B1 = x := ⟨_, rfl⟩
      rw [hy1] at hcat s1
      have s2 : (y1 ++ (⟨#[32]⟩ : ByteArray)).size ≤ 23 := by rw [ByteArray.size_append]; have : (⟨#[32]⟩ : ByteArray).size = 1 := rfl; omega
      obtain ⟨y2, hy2⟩ : ∃ x, y1 ++ (⟨#[32]⟩ : ByteArray) = x := ⟨_, rfl⟩
      rw [hy2] at hcat s2
      have s3 : (y2 ++ B3).size ≤ 39 := by rw [ByteArray.size_append]; have : y2.size ≤ 23 := s2; omega
      obtain ⟨y3, hy3⟩ : ∃ x, y2 ++ B3 = x := ⟨_, rfl⟩
      rw [hy3] at hcat s3
      have s4 : (y3 ++ (⟨#[10]⟩ : ByteArray)).size ≤ 40 := by rw [ByteArray.size_append]; have : (⟨#[10]⟩ : ByteArray).size = 1 := rfl; omega
      obtain ⟨y4, hy4⟩ : ∃ x, y3 ++ (⟨#[10]⟩ : ByteArray) = x := ⟨_, rfl⟩
      rw [hy4] at hcat s4
      rw [← hcat]
      clear hcat hln
      go_enter Tryd.func24, Tryd.ntmps24
      go_wp2_with fail
      refine (HC.out _).mono ?_
      rintro x1 w1 ⟨rfl, hb1⟩
      have HW := hide (below2 HA.out hb1)
      have c0 := (hb1.cell (p := ⟨w.heap.size, 0, none⟩) hlt).trans q0
      have c1 := (hb1.cell (p := ⟨w.heap.size, 1, none⟩) hlt).trans q1
      have c2 := (hb1.cell (p := ⟨w.heap.size, 2, none⟩) hlt).trans q2
      have c3 := (hb1.cell (p := ⟨w.heap.size, 3, none⟩) hlt).trans q3
      simp only [List.getElem?_toArray, List.getElem?_cons_zero, List.getElem?_cons_succ] at c0 c1 c2 c3
      clear q0 q1 q2 q3 hb1 hlt HC HA
      go_wp2_with fail
      go_quiet ((go_at_call 52; first | with_reducible exact quiet22 (Hsp.out _) | with_reducible exact quiet22 (Hn.out _)))
      go_wp2_with fail
      exact bodyPost_ret (v := .tuple #[.string y4, .int .i64 0]) (by simp [results, Tryd.results24, go_sem]) rfl ⟨rfl, below_drewN HW.out _⟩
    · obtain rfl : kind = 4 := hkk
      simp [fieldsF, fSp, fNum, fSize, EV.get] at hf
      obtain ⟨g3, l3⟩ := hf
      have Hn := hide (fun W => digits_any n g3 l3 W)
      have z3 := itoa_B g3 l3
      have hcat : (((⟨#[119, 105, 110, 100, 111, 119, 32]⟩ : ByteArray) ++ mkB (Lib.itoa n)) ++ (⟨#[10]⟩ : ByteArray)) = mkB (lineE ⟨4, sp, num, n⟩) := ba_eq (by
        rw [show lineE ⟨4, sp, num, n⟩ = rowE ⟨4, sp, num, n⟩ 4 ++ [10] from hln]
        simp [ba_app, mkB_data, rowE, wordF, numsL, fieldsF, fSp, fNum, fSize, EV.get])
      obtain ⟨B3, hB3⟩ : ∃ x, mkB (Lib.itoa n) = x := ⟨_, rfl⟩
      rw [hB3] at hcat z3 Hn
      have s1 : ((⟨#[119, 105, 110, 100, 111, 119, 32]⟩ : ByteArray) ++ B3).size ≤ 23 := by rw [ByteArray.size_append]; have : (⟨#[119, 105, 110, 100, 111, 119, 32]⟩ : ByteArray).size = 7 := rfl; omega
      obtain ⟨y1, hy1⟩ : ∃ x, (⟨#[119, 105, 110, 100, 111, 119, 32]⟩ : ByteArray) ++ B3 = x := ⟨_, rfl⟩
      rw [hy1] at hcat s1
      have s2 : (y1 ++ (⟨#[10]⟩ : ByteArray)).size ≤ 24 := by rw [ByteArray.size_append]; have : (⟨#[10]⟩ : ByteArray).size = 1 := rfl; omega
      obtain ⟨y2, hy2⟩ : ∃ x, y1 ++ (⟨#[10]⟩ : ByteArray) = x := ⟨_, rfl⟩
      rw [hy2] at hcat s2
      rw [← hcat]
      clear hcat hln
      go_enter Tryd.func24, Tryd.ntmps24
      go_wp2_with fail
      refine (HC.out _).mono ?_
      rintro x1 w1 ⟨rfl, hb1⟩
      have HW := hide (below2 HA.out hb1)
      have c0 := (hb1.cell (p := ⟨w.heap.size, 0, none⟩) hlt).trans q0
      have c1 := (hb1.cell (p := ⟨w.heap.size, 1, none⟩) hlt).trans q1
      have c2 := (hb1.cell (p := ⟨w.heap.size, 2, none⟩) hlt).trans q2
      have c3 := (hb1.cell (p := ⟨w.heap.size, 3, none⟩) hlt).trans q3
      simp only [List.getElem?_toArray, List.getElem?_cons_zero, List.getElem?_cons_succ] at c0 c1 c2 c3
      clear q0 q1 q2 q3 hb1 hlt HC HA
      go_wp2_with fail
      with_reducible refine (Hn.out _).mono ?_
      rintro x2 w2 ⟨rfl, rfl⟩
      go_wp2_with fail
      exact bodyPost_ret (v := .tuple #[.string y2, .int .i64 0]) (by simp [results, Tryd.results24, go_sem]) rfl ⟨rfl, HW.out⟩
    · obtain rfl : kind = 5 := hkk
      simp [fieldsF, fSp, fNum, fSize, EV.get] at hf
      obtain ⟨g1, l1⟩ := hf
      have Hsp := hide (fun W => digits_any sp g1 l1 W)
      have z1 := itoa_B g1 l1
      have hcat : (((⟨#[99, 111, 108, 108, 97, 112, 115, 101, 32]⟩ : ByteArray) ++ mkB (Lib.itoa sp)) ++ (⟨#[10]⟩ : ByteArray)) = mkB (lineE ⟨5, sp, num, n⟩) := ba_eq (by
        rw [show lineE ⟨5, sp, num, n⟩ = rowE ⟨5, sp, num, n⟩ 5 ++ [10] from hln]
        simp [ba_app, mkB_data, rowE, wordF, numsL, fieldsF, fSp, fNum, fSize, EV.get])
      obtain ⟨B1, hB1⟩ : ∃ x, mkB (Lib.itoa sp) = x := ⟨_, rfl⟩
      rw [hB1] at hcat z1 Hsp
      have s1 : ((⟨#[99, 111, 108, 108, 97, 112, 115, 101, 32]⟩ : ByteArray) ++ B1).size ≤ 25 := by rw [ByteArray.size_append]; have : (⟨#[99, 111, 108, 108, 97, 112, 115, 101, 32]⟩ : ByteArray).size = 9 := rfl; omega
      obtain ⟨y1, hy1⟩ : ∃ x, (⟨#[99, 111, 108, 108, 97, 112, 115, 101, 32]⟩ : ByteArray) ++ B1 = x := ⟨_, rfl⟩
      rw [hy1] at hcat s1
      have s2 : (y1 ++ (⟨#[10]⟩ : ByteArray)).size ≤ 26 := by rw [ByteArray.size_append]; have : (⟨#[10]⟩ : ByteArray).size = 1 := rfl; omega
      obtain ⟨y2, hy2⟩ : ∃ x, y1 ++ (⟨#[10]⟩ : ByteArray) = x := ⟨_, rfl⟩
      rw [hy2] at hcat s2
      rw [← hcat]
      clear hcat hln
      go_enter Tryd.func24, Tryd.ntmps24
      go_wp2_with fail
      refine (HC.out _).mono ?_
      rintro x1 w1 ⟨rfl, hb1⟩
      have HW := hide (below2 HA.out hb1)
      have c0 := (hb1.cell (p := ⟨w.heap.size, 0, none⟩) hlt).trans q0
      have c1 := (hb1.cell (p := ⟨w.heap.size, 1, none⟩) hlt).trans q1
      have c2 := (hb1.cell (p := ⟨w.heap.size, 2, none⟩) hlt).trans q2
      have c3 := (hb1.cell (p := ⟨w.heap.size, 3, none⟩) hlt).trans q3
      simp only [List.getElem?_toArray, List.getElem?_cons_zero, List.getElem?_cons_succ] at c0 c1 c2 c3
      clear q0 q1 q2 q3 hb1 hlt HC HA
      go_wp2_with fail
      with_reducible refine (Hsp.out _).mono ?_
      rintro x2 w2 ⟨rfl, rfl⟩
      go_wp2_with fail
      exact bodyPost_ret (v := .tuple #[.string y2, .int .i64 0]) (by simp [results, Tryd.results24, go_sem]) rfl ⟨rfl, HW.out⟩
    · obtain rfl : kind = 6 := hkk
      simp [fieldsF, fSp, fNum, fSize, EV.get] at hf
      obtain ⟨g3, l3⟩ := hf
      have Hn := hide (fun W => digits_any n g3 l3 W)
      have z3 := itoa_B g3 l3
      have hcat : (((⟨#[99, 108, 111, 115, 101, 100, 32]⟩ : ByteArray) ++ mkB (Lib.itoa n)) ++ (⟨#[10]⟩ : ByteArray)) = mkB (lineE ⟨6, sp, num, n⟩) := ba_eq (by
        rw [show lineE ⟨6, sp, num, n⟩ = rowE ⟨6, sp, num, n⟩ 6 ++ [10] from hln]
        simp [ba_app, mkB_data, rowE, wordF, numsL, fieldsF, fSp, fNum, fSize, EV.get])
      obtain ⟨B3, hB3⟩ : ∃ x, mkB (Lib.itoa n) = x := ⟨_, rfl⟩
      rw [hB3] at hcat z3 Hn
      have s1 : ((⟨#[99, 108, 111, 115, 101, 100, 32]⟩ : ByteArray) ++ B3).size ≤ 23 := by rw [ByteArray.size_append]; have : (⟨#[99, 108, 111, 115, 101, 100, 32]⟩ : ByteArray).size = 7 := rfl; omega
      obtain ⟨y1, hy1⟩ : ∃ x, (⟨#[99, 108, 111, 115, 101, 100, 32]⟩ : ByteArray) ++ B3 = x := ⟨_, rfl⟩
      rw [hy1] at hcat s1
      have s2 : (y1 ++ (⟨#[10]⟩ : ByteArray)).size ≤ 24 := by rw [ByteArray.size_append]; have : (⟨#[10]⟩ : ByteArray).size = 1 := rfl; omega
      obtain ⟨y2, hy2⟩ : ∃ x, y1 ++ (⟨#[10]⟩ : ByteArray) = x := ⟨_, rfl⟩
      rw [hy2] at hcat s2
      rw [← hcat]
      clear hcat hln
      go_enter Tryd.func24, Tryd.ntmps24
      go_wp2_with fail
      refine (HC.out _).mono ?_
      rintro x1 w1 ⟨rfl, hb1⟩
      have HW := hide (below2 HA.out hb1)
      have c0 := (hb1.cell (p := ⟨w.heap.size, 0, none⟩) hlt).trans q0
      have c1 := (hb1.cell (p := ⟨w.heap.size, 1, none⟩) hlt).trans q1
      have c2 := (hb1.cell (p := ⟨w.heap.size, 2, none⟩) hlt).trans q2
      have c3 := (hb1.cell (p := ⟨w.heap.size, 3, none⟩) hlt).trans q3
      simp only [List.getElem?_toArray, List.getElem?_cons_zero, List.getElem?_cons_succ] at c0 c1 c2 c3
      clear q0 q1 q2 q3 hb1 hlt HC HA
      go_wp2_with fail
      with_reducible refine (Hn.out _).mono ?_
      rintro x2 w2 ⟨rfl, rfl⟩
      go_wp2_with fail
      exact bodyPost_ret (v := .tuple #[.string y2, .int .i64 0]) (by simp [results, Tryd.results24, go_sem]) rfl ⟨rfl, HW.out⟩
  · have hno : okEV e = false := by simpa using hok
    rw [errEV_no hno] at HC
    have hres : lineRes e = .tuple #[.string ⟨#[]⟩, .int .i64 2] := by unfold lineRes; rw [if_neg hok]
    rw [hres]
    obtain ⟨kind, sp, num, n⟩ := e
    clear hok hno hres
    simp only [evC] at q0 q1 q2 q3 HA HC hlt ⊢
    go_enter Tryd.func24, Tryd.ntmps24
    go_wp2_with fail
    refine (HC.out _).mono ?_
    rintro x1 w1 ⟨rfl, hb1⟩
    have HW := hide (below2 HA.out hb1)
    clear hb1
    go_wp2_with fail
    exact bodyPost_ret (v := .tuple #[.string ⟨#[]⟩, .int .i64 2]) (by simp [results, Tryd.results24, go_sem]) rfl ⟨rfl, HW.out⟩
end Go.Proofs.YtbpeienllhbffaaDoor
