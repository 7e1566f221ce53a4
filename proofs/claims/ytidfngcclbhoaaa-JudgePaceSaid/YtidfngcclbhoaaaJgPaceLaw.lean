/-
  sounderlaw24: JudgePace: its walk.
-/
import Derived.Test.YtidfngcclbhoaaaJgPacePlain
import Derived.Test.YtidfngcclbhoaaaJgWorks
import Derived.Test.YtidfngcclbhoaaaBring
namespace Go.Proofs.Ytidfngcclbhoaaa
set_option linter.unusedSimpArgs false
set_option linter.unusedVariables false
open Go.RowKit Go.Shelf
theorem row_info : (Try.prog.info? 36).map (fun i => (i.zero, i.size, i.bytes)) = some (some (.agg #[.int .i64 0, .int .i64 0, .int .i64 0, .int .i64 0, .int .i64 0, .int .i64 0, .int .i64 0, .bool false, .bool false, .bool false, .bool false, .int .i64 0, .slice none 0 0, .bool false, .int .i64 0, .int .i64 0, .int .i64 0, .slice none 0 0, .int .i64 0, .int .i64 0]), 20, 168) := by kernel_rfl
theorem rows_first (s t : Int) (n : Nat) : rowsP s 0 0 n = rowsP s t n n := by
  unfold rowsP
  refine List.map_congr_left fun j hj => ?_
  rw [List.mem_range] at hj
  unfold tmJ
  rw [if_pos hj]
  split <;> rfl
theorem look_pace {s t : Int} {n1 N cap : Nat} {A : Option Addr} {W : World} {a b : Int} (hs : 100 ≤ s ∧ s ≤ 1200) (ht : 0 ≤ t ∧ t < 1048576) (hN : N ≤ 300) (hL : LieAt rrL 20 W W.heap.size A (rowsP s t n1 N)) (hres : lookP rowQ (K0 pC 3) (rowsP s t n1 N) 0 = (a, b)) :
    Calls Try.prog 7 #[.agg #[.bool false, .int .i64 1200, .int .i64 1048576, .int .i64 16777216, .int .i64 333000000, .int .i64 25000000, .int .i64 3, .int .i64 12000, .int .i64 256, .int .i64 6], .slice A N cap] W fun e w' => e = .returned (.tuple #[.agg #[.int .i64 a, .int .i64 b], .int .i64 0]) ∧ Below W.heap.size W w' := by
  have h := look_any (fun j k => PcSt s t n1 j k) rowQ pC rfl A N cap (rowsP s t n1 N) W (rows_length _ _ _ _) (by omega) hL ?_ (pc_start s t n1) ?_ ?_ ?_
  · rw [hres] at h
    exact h
  · intro x hx
    obtain ⟨j, hj⟩ := List.getElem?_of_mem hx
    rw [(rows_at hj).2]
    exact ⟨.inl rfl, .inl rfl⟩
  · intro j x k b W' vf vp vd hq hx hK hE hR
    obtain ⟨hj, rfl⟩ := rows_at hx
    have hok := pc_ok hs ht (by omega) hq
    exact rowq_any b _ _ vf vp vd _ W' hK hE hR hok.1 hok.2
  · intro j x k k' hq hx h
    obtain ⟨hj, rfl⟩ := rows_at hx
    cases hF : okJ s t n1 j with
    | true =>
      obtain ⟨k2, h1, h2⟩ := (pc_step hs ht hq).1 hF
      rw [h1] at h
      injection h with h
      subst h
      exact h2
    | false =>
      rw [(pc_step hs ht hq).2 hF] at h
      cases h
  · intro j x k m hq hx h
    obtain ⟨hj, rfl⟩ := rows_at hx
    cases hF : okJ s t n1 j with
    | true =>
      obtain ⟨k2, h1, h2⟩ := (pc_step hs ht hq).1 hF
      rw [h1] at h
      cases h
    | false =>
      rw [(pc_step hs ht hq).2 hF] at h
      injection h with h
      subst h
      omega
set_option maxRecDepth 100000 in
set_option maxHeartbeats 8000000 in
theorem pace_law (size many later : Int) (w : World) (h1 : -9223372036854775808 ≤ size ∧ size ≤ 9223372036854775807) (h2 : -9223372036854775808 ≤ many ∧ many ≤ 9223372036854775807) (h3 : -9223372036854775808 ≤ later ∧ later ≤ 9223372036854775807) :
    Calls Try.prog 3 #[.int .i64 size, .int .i64 many, .int .i64 later] w fun e w' => e = .returned (.bool true) ∧ Below w.heap.size w w' := by
  have HB1 := hide (fun W => bring_any size 1101 W (by omega) (by omega) h1.1 h1.2)
  have HB2 := hide (fun W => bring_any many 200 W (by omega) (by omega) h2.1 h2.2)
  have HB3 := hide (fun W => bring_any later 1048576 W (by omega) (by omega) h3.1 h3.2)
  have b1 := Int.emod_nonneg size (show (1101 : Int) ≠ 0 by omega)
  have b2 := Int.emod_lt_of_pos size (show (0 : Int) < 1101 by omega)
  have b3 := Int.emod_nonneg many (show (200 : Int) ≠ 0 by omega)
  have b4 := Int.emod_lt_of_pos many (show (0 : Int) < 200 by omega)
  have b5 := Int.emod_nonneg later (show (1048576 : Int) ≠ 0 by omega)
  have b6 := Int.emod_lt_of_pos later (show (0 : Int) < 1048576 by omega)
  obtain ⟨s0, hs0⟩ : ∃ x, size % 1101 = x := ⟨_, rfl⟩
  obtain ⟨m, hm⟩ : ∃ x, many % 200 = x := ⟨_, rfl⟩
  obtain ⟨t, ht⟩ : ∃ x, later % 1048576 = x := ⟨_, rfl⟩
  rw [hs0] at HB1 b1 b2
  rw [hm] at HB2 b3 b4
  rw [ht] at HB3 b5 b6
  have HSE := hide (fun W => setting_any W)
  have HWK := hide (fun W => works_any W)
  clear hs0 hm ht h1 h2 h3
  go_enter Try.func3, Try.ntmps3
  go_wp2_with fail
  with_reducible refine (HB1.out _).mono ?_
  rintro y1 u1 ⟨rfl, rfl⟩
  go_wp2_with fail
  with_reducible refine (HSE.out _).mono ?_
  rintro y2 W1 ⟨rfl, hb1⟩
  go_upto_region 4 with (fail)
  have hcb := Blk.new W1 24 #[.bool false, .int .i64 1200, .int .i64 1048576, .int .i64 16777216, .int .i64 333000000, .int .i64 25000000, .int .i64 3, .int .i64 12000, .int .i64 256, .int .i64 6]
  have hb2 : Below w.heap.size w (W1.alloc (.cells #[.bool false, .int .i64 1200, .int .i64 1048576, .int .i64 16777216, .int .i64 333000000, .int .i64 25000000, .int .i64 3, .int .i64 12000, .int .i64 256, .int .i64 6] 24)) := hb1.alloc hb1.size _
  obtain ⟨W2, hW2⟩ : ∃ x, W1.alloc (.cells #[.bool false, .int .i64 1200, .int .i64 1048576, .int .i64 16777216, .int .i64 333000000, .int .i64 25000000, .int .i64 3, .int .i64 12000, .int .i64 256, .int .i64 6] 24) = x := ⟨_, rfl⟩
  obtain ⟨C, hC⟩ : ∃ x, W1.heap.size = x := ⟨_, rfl⟩
  obtain ⟨s, hs⟩ : ∃ x, 100 + s0 = x := ⟨_, rfl⟩
  have hsb : 100 ≤ s ∧ s ≤ 1200 := by omega
  rw [hW2, hC] at hcb
  rw [hW2] at hb2
  rw [hW2, hC, hs]
  have HCB := hide hcb
  have HBW := hide hb2
  clear hW2 hC hs hcb hb1 hb2 b1 b2 HSE HB1
  go_wp2_with fail
  go_loopg [8, 9, 10] 300 (fun kx s8 s9 s10 wr => ∃ (i : Nat) (A : Option Addr) (c : Nat) (S : Int), s8 = .slice A i c ∧ s9 = .int .i64 S ∧ s10 = .int .i64 i ∧ Hid (S = i * s) ∧ (0 ≤ S ∧ S ≤ 12000) ∧ i ≤ 200 ∧ 300 - i ≤ kx ∧ wr.ownsRow w.heap.size 36 20 (.slice A i c) i ((rowsP s 0 0 i).flatMap rrL) ∧ Blk wr C 24 #[.bool false, .int .i64 1200, .int .i64 1048576, .int .i64 16777216, .int .i64 333000000, .int .i64 25000000, .int .i64 3, .int .i64 12000, .int .i64 256, .int .i64 6] ∧ Below w.heap.size w wr)
  case atStart => exact ⟨0, none, 0, 0, rfl, rfl, rfl, by show _ = _; simp, by omega, by omega, by omega, ⟨rfl, .inl ⟨rfl, rfl⟩⟩, HCB.out, HBW.out⟩
  case round =>
    clear HCB HBW
    obtain ⟨i, A, c, S, rfl, rfl, rfl, hS, hSb, hi, hkx, hown, hcb, hbw⟩ := hrel
    have HOWN := hide hown
    have HCB := hide hcb
    have HBW := hide hbw
    clear hown hcb hbw
    by_cases hgo : S + s ≤ 12000 ∧ (i : Int) ≤ m
    · obtain ⟨hg1, hg2⟩ := hgo
      obtain ⟨i0, hi0, hz0, hz1, hz2⟩ := info_parts row_info
      have hbase := HBW.out.size
      have hrow : (rowsP s 0 0 (i + 1)).flatMap rrL = (rowsP s 0 0 i).flatMap rrL ++ [.int .i64 1, .int .i64 0, .int .i64 0, .int .i64 0, .int .i64 0, .int .i64 i, .int .i64 s, .bool false, .bool true, .bool false, .bool false, .int .i64 0, .slice none 0 0, .bool false, .int .i64 0, .int .i64 0, .int .i64 0, .slice none 0 0, .int .i64 0, .int .i64 333000000] := by
        rw [rows_succ, List.flatMap_append, show tmJ 0 0 i = 0 by unfold tmJ; split <;> rfl]
        rfl
      obtain ⟨xs, hxs⟩ : ∃ x, (rowsP s 0 0 i).flatMap rrL = x := ⟨_, rfl⟩
      have HROW := hide hrow
      rw [hxs] at HOWN HROW
      have ho := HOWN.out
      clear hrow hxs
      have hi2 : i ≤ 199 := by omega
      go_wp2_with (first
        | (go_at_call 5; with_reducible refine (HB2.out _).mono ?_; rintro y3 u3 ⟨rfl, rfl⟩)
        | (at_builtin; refine wpList_append_any _ rfl (.tmp 35) (.tmp 40) _ rfl w.heap.size 36 i0 _ 20 168 Try.underlying26 hi0 hz0 hz1 hz2 rfl (by decide) (.slice A i c) i xs rfl (by exact ho.alloc _) (wr.heap.size + 1) (some ⟨wr.heap.size, 0, none⟩) 1 1 [.int .i64 1, .int .i64 0, .int .i64 0, .int .i64 0, .int .i64 0, .int .i64 i, .int .i64 s, .bool false, .bool true, .bool false, .bool false, .int .i64 0, .slice none 0 0, .bool false, .int .i64 0, .int .i64 0, .int .i64 0, .slice none 0 0, .int .i64 0, .int .i64 333000000] rfl (by exact reads_lit (blk_new_at (by simp)) (by simp) rfl) (by simp [Value.oneCell']) (by unfold maxLen; omega) (by omega) (by simp; omega) ?_; intro v8 w8 hown8 hg8 hat8; obtain ⟨g8, cap8, rfl⟩ := own_form hown8))
      go_roundg (300 - (i + 1))
      case rel => exact ⟨i + 1, _, _, S + s, rfl, rfl, by go_num, by show _ = _; rw [show S = i * s from hS, Int.natCast_add, Int.add_mul]; omega, by omega, by omega, by omega, by rw [HROW.out]; exact hown8, blk_grown (HCB.out.alloc _) hg8 (own_ne ho HCB.out (by decide)), Below.grown (HBW.out.alloc hbase _) hg8 (by simp; omega) (fun g e => (ho.lt g e).1)⟩
      case measure => omega
    · have hSi : S = i * s := hS
      have hi1 : 1 ≤ i := by
        rcases Nat.eq_zero_or_pos i with h0 | h0
        · subst h0
          exact absurd ⟨by rw [hSi]; simp; omega, by simp; omega⟩ hgo
        · exact h0
      have HI1 := hide hi1
      have HOKF := hide (show ∀ j, j < i → okJ s t i j = true from fun j hj => okJ_first (by omega) hj (by
        have : ((j + 1 : Nat) : Int) * s ≤ (i : Int) * s := Int.mul_le_mul_of_nonneg_right (by omega) (by omega)
        omega))
      have HFI := hide (show (rowsP s 0 0 i).flatMap rrL = (rowsP s t i i).flatMap rrL by rw [rows_first])
      have hq0 : 0 ≤ (5242880 * t + 1332000000 - 1) / 1332000000 ∧ (5242880 * t + 1332000000 - 1) / 1332000000 ≤ 5000 := by omega
      rw [HFI.out] at HOWN
      have HSI := hide hSi
      clear hi1 hSi hS HFI
      rcases (by omega : ¬ (S + s ≤ 12000) ∨ (S + s ≤ 12000 ∧ ¬ (i : Int) ≤ m)) with hg | ⟨hg, hg'⟩
      all_goals
        clear hgo
        go_upto_if 48 with (first
          | (go_at_call 5; with_reducible refine (HB2.out _).mono ?_; rintro y3 u3 ⟨rfl, rfl⟩)
          | (go_at_call 5; with_reducible refine (HB3.out _).mono ?_; rintro y4 u4 ⟨rfl, rfl⟩))
        go_cut [12] (fun s12 wx => s12 = .int .i64 (mayP t) ∧ wx = wr)
        case first =>
          by_cases h0 : 0 < t
          · go_wp2_with fail
            go_meet
            exact ⟨by rw [mayP, if_pos h0], rfl⟩
          · go_wp2_with fail
            go_meet
            exact ⟨by rw [mayP, if_neg (by omega)], rfl⟩
        case rest =>
          obtain ⟨rfl, rfl⟩ := hcut
          clear hq0
          obtain ⟨M, hM⟩ : ∃ x, mayP t = x := ⟨_, rfl⟩
          rw [hM]
          have HM := hide hM
          have hMb : M ≤ 20000 := by
            rw [← hM]
            unfold mayP
            split <;> omega
          clear hM
          go_wp2_with fail
          have HS0 := hide (show S = ((i : Nat) : Int) * s from HSI.out)
          go_loopg [8, 9, 13] 30 (fun kx s8 s9 s13 wq => ∃ (q N : Nat) (A2 : Option Addr) (c2 : Nat) (S2 : Int), s8 = .slice A2 N c2 ∧ s9 = .int .i64 S2 ∧ s13 = .int .i64 q ∧ Hid (N = i + q ∧ S2 = N * s) ∧ (0 ≤ S2 ∧ S2 ≤ 300000) ∧ q ≤ 30 ∧ N ≤ 230 ∧ 30 - q ≤ kx ∧ Hid (∀ j, j < N → okJ s t i j = true) ∧ wq.ownsRow w.heap.size 36 20 (.slice A2 N c2) N ((rowsP s t i N).flatMap rrL) ∧ Blk wq C 24 #[.bool false, .int .i64 1200, .int .i64 1048576, .int .i64 16777216, .int .i64 333000000, .int .i64 25000000, .int .i64 3, .int .i64 12000, .int .i64 256, .int .i64 6] ∧ Below w.heap.size w wq)
          case atStart => exact ⟨0, i, A, c, S, rfl, rfl, rfl, ⟨rfl, HS0.out⟩, by omega, by omega, by omega, by omega, HOKF.out, HOWN.out, HCB.out, HBW.out⟩
          case round =>
            clear HOWN HCB HBW HOKF HS0
            obtain ⟨q, N, A2, c2, S2, rfl, rfl, rfl, hNS, hS2b, hq, hN, hkq, hok, hown, hcb, hbw⟩ := hrel
            have HOWN := hide hown
            have HCB := hide hcb
            have HBW := hide hbw
            clear hown hcb hbw
            by_cases hlt : q < 30
            · have hqi : (q : Int) < 30 := by omega
              obtain ⟨i0, hi0, hz0, hz1, hz2⟩ := info_parts row_info
              have hbase := HBW.out.size
              have hrow : (rowsP s t i (N + 1)).flatMap rrL = (rowsP s t i N).flatMap rrL ++ [.int .i64 1, .int .i64 t, .int .i64 0, .int .i64 0, .int .i64 0, .int .i64 N, .int .i64 s, .bool false, .bool true, .bool false, .bool false, .int .i64 0, .slice none 0 0, .bool false, .int .i64 0, .int .i64 0, .int .i64 0, .slice none 0 0, .int .i64 0, .int .i64 333000000] := by
                rw [rows_succ, List.flatMap_append, show tmJ i t N = t by unfold tmJ; rw [if_neg (by have := hNS.1; omega)]]
                rfl
              obtain ⟨xs, hxs⟩ : ∃ x, (rowsP s t i N).flatMap rrL = x := ⟨_, rfl⟩
              have HROW := hide hrow
              rw [hxs] at HOWN HROW
              have ho := HOWN.out
              have hHI := HI1.out
              have hlater := okJ_later (s := s) (t := t) (n1 := i) (j := N) (by omega) ⟨b5, b6⟩ hHI (by have := hNS.1; omega)
              have hSN : S2 + s = ((N + 1 : Nat) : Int) * s := by rw [hNS.2, Int.natCast_add, Int.add_mul]; omega
              have hPN : ((q : Int) + 1) * s = ((N + 1 - i : Nat) : Int) * s := by rw [show N + 1 - i = q + 1 by have := hNS.1; omega]; rfl
              rw [← hSN, ← hPN] at hlater
              obtain ⟨P, hP⟩ : ∃ x, ((q : Int) + 1) * s = x := ⟨_, rfl⟩
              have hPb : 0 ≤ P ∧ P ≤ 36000 := by
                rw [← hP]
                exact ⟨Int.mul_nonneg (by omega) (by omega), Int.le_trans (Int.mul_le_mul (show (q : Int) + 1 ≤ 30 by omega) hsb.2 (by omega) (by omega)) (by omega)⟩
              have hPS : P ≤ S2 + s := by
                rw [← hP, hSN]
                exact Int.mul_le_mul_of_nonneg_right (by have := hNS.1; omega) (by omega)
              have hwP : IntKind.i64.wrap (((q : Int) + 1) * s) = P := by rw [hP]; exact IntWalk.i64_in _ ⟨by omega, by omega⟩
              rw [hP] at hlater
              rw [HM.out] at hlater
              have hMt : t = 0 → M = 12000 := fun h => by rw [← HM.out, h]; rfl
              have hLen : (rowsP s t i (N + 1)).length = N + 1 := rows_length _ _ _ _
              have HOK := hide hok
              have HLAT := hide hlater
              have HMT := hide hMt
              have HNS := hide hNS
              clear hrow hxs hlater hSN hPN hP hMt hok hNS hHI
              go_wp2_with (at_builtin; refine wpList_append_any _ rfl (.tmp 60) (.tmp 67) _ rfl w.heap.size 36 i0 _ 20 168 Try.underlying26 hi0 hz0 hz1 hz2 rfl (by decide) (.slice A2 N c2) N xs rfl (by exact ho.alloc _) (wr.heap.size + 1) (some ⟨wr.heap.size, 0, none⟩) 1 1 [.int .i64 1, .int .i64 t, .int .i64 0, .int .i64 0, .int .i64 0, .int .i64 N, .int .i64 s, .bool false, .bool true, .bool false, .bool false, .int .i64 0, .slice none 0 0, .bool false, .int .i64 0, .int .i64 0, .int .i64 0, .slice none 0 0, .int .i64 0, .int .i64 333000000] rfl (by exact reads_lit (blk_new_at (by simp)) (by simp) rfl) (by simp [Value.oneCell']) (by unfold maxLen; omega) (by omega) (by simp; omega) ?_; intro v8 w8 hown8 hg8 hat8; obtain ⟨g8, cap8, rfl⟩ := own_form hown8; have hcb8 := hide (blk_grown (HCB.out.alloc _) hg8 (own_ne ho HCB.out (by decide))); have k0 := hcb8.out.cell 0; have k1 := hcb8.out.cell 1; have k2 := hcb8.out.cell 2; have k3 := hcb8.out.cell 3; have k4 := hcb8.out.cell 4; have k5 := hcb8.out.cell 5; have k6 := hcb8.out.cell 6; have k7 := hcb8.out.cell 7; have k8 := hcb8.out.cell 8; have k9 := hcb8.out.cell 9; simp only [List.getElem?_toArray, List.getElem?_cons_zero, List.getElem?_cons_succ] at k0 k1 k2 k3 k4 k5 k6 k7 k8 k9)
              clear k0 k1 k2 k3 k4 k5 k6 k7 k8 k9
              have hown9 : w8.ownsRow w.heap.size 36 20 (.slice (some ⟨g8, 0, none⟩) (N + 1) cap8) (N + 1) ((rowsP s t i (N + 1)).flatMap rrL) := by rw [HROW.out]; exact hown8
              have HB8 := hide (Below.grown (HBW.out.alloc hbase _) hg8 (by simp; omega) (fun g e => (ho.lt g e).1))
              have HLIE := hide (lie_own rrL_length hown9 hLen)
              have HOWN9 := hide hown9
              clear hown9 hown8 hg8 hat8 ho HROW HOWN HCB HBW hi0 hz0 hz1 hz2 hbase
              cases hF : okJ s t i N with
              | true =>
                have hall : ∀ j, j < N + 1 → okJ s t i j = true := fun j hj => by
                  rcases (by omega : j < N ∨ j = N) with h | rfl
                  · exact HOK.out j h
                  · exact hF
                have HLK := hide (look_pace (cap := cap8) hsb ⟨b5, b6⟩ (by omega) HLIE.out (look_fits hsb ⟨b5, b6⟩ (N + 1) 0 _ (by omega) (pc_start s t i) (fun j _ hj => hall j hj)))
                have HALL := hide hall
                have hd := HLAT.out
                rw [hF] at hd
                have hd' : P ≤ 12000 ∧ S2 + s ≤ M := by simpa using hd.symm
                obtain ⟨d1, d2⟩ := hd'
                clear hall hd hF HLAT HOK HLIE hLen
                refine HLK.out.mono ?_
                rintro y5 W5 ⟨rfl, hb5⟩
                have HB5 := hide (HB8.out.trans (hb5.mono HB8.out.size))
                have HOWN5 := hide (own_below HOWN9.out hb5)
                have HCB5 := hide ((hb5.block _ hcb8.out.lt).trans hcb8.out)
                clear hb5 HB8 HOWN9 hcb8 HLK
                go_wp2_with fail
                go_roundg (30 - (q + 1))
                case rel => exact ⟨q + 1, N + 1, _, _, S2 + s, rfl, rfl, by go_num, ⟨by have := HNS.out.1; omega, by rw [show S2 = N * s from HNS.out.2, Int.natCast_add, Int.add_mul]; omega⟩, by omega, by omega, by have := HNS.out.1; omega, by omega, HALL.out, own_below HOWN5.out ((Below.refl _ _).alloc (Nat.le_refl _) _), Blk.alloc HCB5.out _, HB5.out.alloc HB5.out.size _⟩
                case measure => omega
              | false =>
                have HLK := hide (look_pace (cap := cap8) hsb ⟨b5, b6⟩ (by omega) HLIE.out (look_finds hsb ⟨b5, b6⟩ hF N 0 _ (by omega) (pc_start s t i) (fun j _ hj => HOK.out j hj)))
                have hd := HLAT.out
                rw [hF] at hd
                have hd' : ¬ (P ≤ 12000 ∧ S2 + s ≤ M) := by
                  intro h
                  rw [decide_eq_true h.1, decide_eq_true h.2] at hd
                  cases hd
                have hways : (S2 + s ≤ M ∧ 12000 < P ∧ (t == 0) = false) ∨ (M < S2 + s ∧ (t == 0) = false) ∨ (M < S2 + s ∧ (t == 0) = true ∧ 12000 < S2 + s) := by
                  by_cases h0 : t = 0
                  · have hM := HMT.out h0
                    rw [show (t == 0) = true by simpa using h0]
                    exact .inr (.inr ⟨by omega, rfl, by omega⟩)
                  · rw [show (t == 0) = false by simpa using h0]
                    by_cases hm : S2 + s ≤ M
                    · exact .inl ⟨hm, by omega, rfl⟩
                    · exact .inr (.inl ⟨by omega, rfl⟩)
                clear hd hd' hF HLAT HOK HLIE hLen HOWN9 hcb8
                refine HLK.out.mono ?_
                rintro y5 W5 ⟨rfl, hb5⟩
                have HB5 := hide (HB8.out.trans (hb5.mono HB8.out.size))
                clear hb5 HB8 HLK
                rcases hways with ⟨d1, d2, d3⟩ | ⟨d1, d3⟩ | ⟨d1, d3, d2⟩
                all_goals
                  go_wp2_with fail
                  with_reducible refine (HWK.out _).mono ?_
                  rintro y6 W6 ⟨rfl, hb6⟩
                  go_wp2_with fail
                  go_ret
                  exact ⟨rfl, (HB5.out.alloc HB5.out.size _).trans (hb6.mono (HB5.out.alloc HB5.out.size _).size)⟩
            · obtain rfl : q = 30 := by omega
              go_wp2_with fail
              with_reducible refine (HWK.out _).mono ?_
              rintro y6 W6 ⟨rfl, hb6⟩
              go_wp2_with fail
              go_ret
              exact ⟨rfl, HBW.out.trans (hb6.mono HBW.out.size)⟩
end Go.Proofs.Ytidfngcclbhoaaa
