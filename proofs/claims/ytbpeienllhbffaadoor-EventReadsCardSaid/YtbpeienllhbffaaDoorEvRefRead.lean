/-
  The document's answer for layer 22: read: its walk.
-/
import Derived.Test.YtbpeienllhbffaaDoorEvRefWords
namespace Go.Proofs.YtbpeienllhbffaaDoor
set_option linter.unusedSimpArgs false
set_option linter.unusedVariables false
open Go.RowKit Go.Shelf
theorem getD_pad (us : List (List UInt8)) (j : Nat) : (us ++ [[]]).getD j [] = us.getD j [] := by
  rw [List.getD_eq_getElem?_getD, List.getD_eq_getElem?_getD]
  by_cases h : j < us.length
  · rw [List.getElem?_append_left h]
  · rw [List.getElem?_append_right (by omega), List.getElem?_eq_none (show us.length ≤ j by omega)]
    by_cases h2 : j - us.length = 0
    · rw [h2]; rfl
    · rw [List.getElem?_eq_none (by simp; omega)]
theorem strs_cell {w : World} {base g n c : Nat} {us : List (List UInt8)} (h : w.ownsRow base 9 1 (.slice (some ⟨g, 0, none⟩) n c) n (strsV us)) {j : Nat} (hj : j < us.length) : w.cell? ⟨g, j, none⟩ = some (.string (mkB (us.getD j []))) := by
  have hl : us.length = n := by have := h.1; unfold strsV at this; rw [List.length_map] at this; omega
  obtain ⟨g', cap, rest, hv, _, hc, hb⟩ := own_blk h (by omega)
  cases hv
  rw [hb.cell, List.getElem?_toArray, List.getElem?_append_left (by unfold strsV; rw [List.length_map]; exact hj)]
  unfold strsV
  rw [List.getElem?_map, List.getD_eq_getElem?_getD, List.getElem?_eq_getElem hj]
  rfl
theorem blk4 {W : World} {g : Nat} {t : TypeId} {z0 z1 z2 z3 : Value} (h : Blk W g t #[z0, z1, z2, z3]) (v0 v1 v2 v3 : Value) : Blk ((((W.setCell ⟨g, 0, none⟩ v0).setCell ⟨g, 1, none⟩ v1).setCell ⟨g, 2, none⟩ v2).setCell ⟨g, 3, none⟩ v3) g t #[v0, v1, v2, v3] := ((((h.set 0 v0).set 1 v1).set 2 v2).set 3 v3).eq rfl
theorem bel4 {w W : World} {g : Nat} (h : Below g w W) (v0 v1 v2 v3 : Value) : Below g w ((((W.setCell ⟨g, 0, none⟩ v0).setCell ⟨g, 1, none⟩ v1).setCell ⟨g, 2, none⟩ v2).setCell ⟨g, 3, none⟩ v3) :=
  (((h.setCell (p := ⟨g, 0, none⟩) (Nat.le_refl _) v0).setCell (p := ⟨g, 1, none⟩) (Nat.le_refl _) v1).setCell (p := ⟨g, 2, none⟩) (Nat.le_refl _) v2).setCell (p := ⟨g, 3, none⟩) (Nat.le_refl _) v3
theorem word0 {l : List UInt8} {c : Array UInt8} (h : mkB l = ⟨c⟩) : l = c.toList := congrArg (fun x => x.data.toList) h
theorem word0n {l : List UInt8} {c : Array UInt8} (h : ¬ mkB l = ⟨c⟩) : ¬ l = c.toList := fun e => h (by rw [e]; rfl)
set_option maxRecDepth 100000 in
set_option maxHeartbeats 8000000 in
theorem rread_any (s : ByteArray) (hs : s.size ≤ 4096) (w : World) : Calls Tryd.prog 44 #[.string s] w fun e w' => e = .returned (.agg (evC (readR s.data.toList))) ∧ Below w.heap.size w w' := by
  have hres : readR s.data.toList = readV (splitR [] s.data.toList) (numR ((splitR [] s.data.toList).getD 1 [])) (numR ((splitR [] s.data.toList).getD 2 [])) (numR ((splitR [] s.data.toList).getD 3 [])) := rfl
  rw [hres]
  have HWD := hide (fun W => rwords_any s hs W)
  have hWl := splitR_len s.data.toList []
  have hWs := splitR_size s.data.toList []
  rw [← Lib.size_eq] at hWl hWs
  simp only [List.length_nil, Nat.zero_add] at hWs
  obtain ⟨WS, hWS⟩ : ∃ x, splitR [] s.data.toList = x := ⟨_, rfl⟩
  rw [hWS] at hWl hWs HWD ⊢
  have HWS := hide hWs
  have hB := Blk.new w 36 #[.int .i64 0, .int .i64 0, .int .i64 0, .int .i64 0]
  have HB := hide hB
  have hl0 : Below w.heap.size w (w.alloc (.cells #[.int .i64 0, .int .i64 0, .int .i64 0, .int .i64 0] 36)) := (Below.refl _ _).alloc (Nat.le_refl _) _
  have HL0 := hide hl0
  have hsz0 : (w.alloc (.cells #[.int .i64 0, .int .i64 0, .int .i64 0, .int .i64 0] 36)).heap.size = w.heap.size + 1 := by simp
  have HSZ := hide hsz0
  obtain ⟨i0, hi0, hz0, hz1, hz2⟩ := info_parts str_info
  clear hres hWS hWs hB hl0 hsz0
  go_enter Tryd.func44, Tryd.ntmps44
  go_wp2_with fail
  obtain ⟨W0, hW0⟩ : ∃ x, w.alloc (.cells #[.int .i64 0, .int .i64 0, .int .i64 0, .int .i64 0] 36) = x := ⟨_, rfl⟩
  rw [hW0] at HB HL0 HSZ
  rw [hW0]
  clear hW0
  refine (HWD.out W0).mono ?_
  rintro x1 w1 ⟨v1, rfl, hown1, hb1⟩
  have HO1 := hide hown1
  have HB1 := hide hb1
  clear hown1 hb1 HWD
  go_wp2_with fail
  go_loopg [3] 4 (fun kx s3 wr => ∃ us : List (List UInt8), WS.length ≤ us.length ∧ us.length ≤ 4100 ∧ 4 - us.length ≤ kx ∧ Hid (∀ j, us.getD j [] = WS.getD j []) ∧ wr.ownsRow W0.heap.size 9 1 s3 us.length (strsV us) ∧ Below W0.heap.size W0 wr)
  case atStart => exact ⟨WS, by omega, by omega, by omega, fun _ => rfl, HO1.out, HB1.out⟩
  case round =>
    obtain ⟨us, hul, hum, hkx, hget, hown, hB⟩ := hrel
    obtain ⟨A8, c8, rfl⟩ := own_slice6 hown
    obtain ⟨M, hM⟩ : ∃ x, us.length = x := ⟨_, rfl⟩
    have HM := hide hM
    have HS := hide (fun j (h : j < us.length) (g : Nat) (e : A8 = some ⟨g, 0, none⟩) => strs_cell (e ▸ hown) h)
    rw [hM] at hul hum hkx hown HS ⊢
    obtain ⟨xs, hxs⟩ : ∃ x, strsV us = x := ⟨_, rfl⟩
    have HXS := hide hxs
    rw [hxs] at hown
    have hszw := hB.size
    clear hM hxs HO1 HB1
    by_cases h4 : M < 4
    · have h4i : (M : Int) < 4 := by omega
      clear HS
      go_wp2_with (at_builtin; refine wpList_append_any _ rfl (.tmp 12) (.tmp 13) _ rfl W0.heap.size 9 i0 _ 1 16 Tryd.underlying39 hi0 hz0 hz1 hz2 rfl (by decide) (.slice A8 M c8) M xs rfl (by exact hown.alloc _) (wr.heap.size + 1) (some ⟨wr.heap.size, 0, none⟩) 1 1 [.string ⟨#[]⟩] rfl (by exact reads_lit (blk_new_at (by simp)) (by simp) rfl) (by simp [Value.oneCell']) (by unfold maxLen; omega) (by omega) (by simp; omega) ?_; intro v5 w5 hown5 hg5 hat5)
      go_roundg (4 - (M + 1))
      case rel =>
        refine ⟨us ++ [[]], by rw [List.length_append, HM.out]; simp; omega, by rw [List.length_append, HM.out]; simp; omega, by rw [List.length_append, HM.out]; simp, fun j => by rw [getD_pad]; exact hget.out j, ?_, ?_⟩
        · rw [List.length_append, HM.out]
          have : strsV (us ++ [[]]) = xs ++ [.string ⟨#[]⟩] := by rw [← HXS.out]; unfold strsV; rw [List.map_append]; rfl
          rw [this]
          exact hown5
        · exact Below.grown (hB.alloc hszw _) hg5 (by simp; omega) (fun x hx => (hown.lt x hx).1)
      case measure => omega
    · have h4i : ¬ (M : Int) < 4 := by omega
      have hml1 : (1 : Int) < (M : Int) := by omega
      have hml2 : (2 : Int) < (M : Int) := by omega
      have hml3 : (3 : Int) < (M : Int) := by omega
      have hml0 : (0 : Int) < (M : Int) := by omega
      obtain ⟨g, rfl⟩ : ∃ g, A8 = some ⟨g, 0, none⟩ := by
        rcases own_split hown with ⟨h0, h00, _⟩ | ⟨k, cp, cur, e, _⟩
        · omega
        · cases e
          exact ⟨k, rfl⟩
      have c0 := HS.out 0 (by omega) g rfl
      have c1 := HS.out 1 (by omega) g rfl
      have c2 := HS.out 2 (by omega) g rfl
      have c3 := HS.out 3 (by omega) g rfl
      rw [hget.out] at c0 c1 c2 c3
      have hlen : ∀ j, (mkB (WS.getD j [])).size ≤ 4096 := fun j => by
        rw [Lib.size_eq, mkB_data, List.getD_eq_getElem?_getD]
        cases hj : WS[j]? with
        | none => simp
        | some x =>
          have := HWS.out x (List.mem_of_getElem? hj)
          simp only [Option.getD_some]
          omega
      have N1 := hide (fun W => rnumber_any _ (hlen 1) W)
      have N2 := hide (fun W => rnumber_any _ (hlen 2) W)
      have N3 := hide (fun W => rnumber_any _ (hlen 3) W)
      simp only [mkB_data] at N1 N2 N3
      obtain ⟨a, ha⟩ : ∃ x, numR (WS.getD 1 []) = x := ⟨_, rfl⟩
      obtain ⟨b, hb⟩ : ∃ x, numR (WS.getD 2 []) = x := ⟨_, rfl⟩
      obtain ⟨c, hc⟩ : ∃ x, numR (WS.getD 3 []) = x := ⟨_, rfl⟩
      rw [ha] at N1
      rw [hb] at N2
      rw [hc] at N3
      have HR := hide (show readV WS (numR (WS.getD 1 [])) (numR (WS.getD 2 [])) (numR (WS.getD 3 [])) = readV WS a b c by rw [ha, hb, hc])
      obtain ⟨m1, hm1⟩ : ∃ x, mkB (WS.getD 1 []) = x := ⟨_, rfl⟩
      obtain ⟨m2, hm2⟩ : ∃ x, mkB (WS.getD 2 []) = x := ⟨_, rfl⟩
      obtain ⟨m3, hm3⟩ : ∃ x, mkB (WS.getD 3 []) = x := ⟨_, rfl⟩
      obtain ⟨m0, hm0⟩ : ∃ x, mkB (WS.getD 0 []) = x := ⟨_, rfl⟩
      rw [hm0] at c0
      rw [hm1] at c1 N1
      rw [hm2] at c2 N2
      rw [hm3] at c3 N3
      have HM0 := hide hm0
      have hblk : Blk wr w.heap.size 36 #[.int .i64 0, .int .i64 0, .int .i64 0, .int .i64 0] := (hB.block _ (by have := HSZ.out; omega)).trans HB.out
      have hbel : Below w.heap.size w wr := HL0.out.trans (hB.mono (by have := HSZ.out; omega))
      have HBLK := hide hblk
      have HBEL := hide hbel
      clear ha hb hc hm0 hm1 hm2 hm3 hlen hget HS hown hB hblk hbel hszw hul hum
      go_wp2_with fail
      go_quiet ((go_at_call 70; first | with_reducible exact quiet22 (N1.out _) | with_reducible exact quiet22 (N2.out _) | with_reducible exact quiet22 (N3.out _)))
      have c01 : (wr.drewN nq).cell? ⟨g, 0, none⟩ = some (.string m0) := c0
      have hblk1 := HBLK.out.drewN nq
      have HBEL1 := hide (below_drewN HBEL.out nq)
      obtain ⟨W1, hW11⟩ : ∃ W1, wr.drewN nq = W1 := ⟨_, rfl⟩
      rw [hW11] at c01 hblk1 HBEL1
      try rw [hW11]
      clear hW11 c0 c1 c2 c3 N1 N2 N3 HBLK HBEL
      have f0 := hblk1.frozen 0
      have f1 := hblk1.frozen 1
      have f2 := hblk1.frozen 2
      have f3 := hblk1.frozen 3
      have d0 := hblk1.cell 0
      have d1 := hblk1.cell 1
      have d2 := hblk1.cell 2
      have d3 := hblk1.cell 3
      simp only [List.getElem?_toArray, List.getElem?_cons_zero, List.getElem?_cons_succ] at d0 d1 d2 d3
      by_cases q1 : m0 = ⟨#[97, 99, 107, 101, 100]⟩
      · subst q1
        have HV := hide (show readV WS a b c = ⟨1, a, b, c⟩ by
          have h0 := word0 HM0.out
          unfold readV
          rw [h0]
          rw [if_pos rfl])
        go_wp2_with fail
        have hend := blk4 hblk1 (.int .i64 1) (.int .i64 a) (.int .i64 b) (.int .i64 c)
        have hbl := bel4 HBEL1.out (.int .i64 1) (.int .i64 a) (.int .i64 b) (.int .i64 c)
        obtain ⟨WF, hWF⟩ : ∃ x, ((((W1.setCell ⟨w.heap.size, 0, none⟩ (.int .i64 1)).setCell ⟨w.heap.size, 1, none⟩ (.int .i64 a)).setCell ⟨w.heap.size, 2, none⟩ (.int .i64 b)).setCell ⟨w.heap.size, 3, none⟩ (.int .i64 c)) = x := ⟨_, rfl⟩
        rw [hWF] at hend hbl
        rw [hWF]
        have e0 := hend.cell 0
        have e1 := hend.cell 1
        have e2 := hend.cell 2
        have e3 := hend.cell 3
        simp only [List.getElem?_toArray, List.getElem?_cons_zero, List.getElem?_cons_succ] at e0 e1 e2 e3
        exact bodyPost_ret (v := .agg #[.int .i64 1, .int .i64 a, .int .i64 b, .int .i64 c]) (by simp [results, Tryd.results44, go_sem, e0, e1, e2, e3]) rfl ⟨by rw [HR.out, HV.out]; rfl, hbl⟩
      have p1 : (m0.toList == [97, 99, 107, 101, 100]) = false := by have := str_ne q1; simpa using this
      by_cases q2 : m0 = ⟨#[108, 111, 115, 116]⟩
      · subst q2
        have HV := hide (show readV WS a b c = ⟨2, a, b, c⟩ by
          have h0 := word0 HM0.out
          unfold readV
          rw [h0]
          rw [if_neg (by decide)]
          rw [if_pos rfl])
        go_wp2_with fail
        have hend := blk4 hblk1 (.int .i64 2) (.int .i64 a) (.int .i64 b) (.int .i64 c)
        have hbl := bel4 HBEL1.out (.int .i64 2) (.int .i64 a) (.int .i64 b) (.int .i64 c)
        obtain ⟨WF, hWF⟩ : ∃ x, ((((W1.setCell ⟨w.heap.size, 0, none⟩ (.int .i64 2)).setCell ⟨w.heap.size, 1, none⟩ (.int .i64 a)).setCell ⟨w.heap.size, 2, none⟩ (.int .i64 b)).setCell ⟨w.heap.size, 3, none⟩ (.int .i64 c)) = x := ⟨_, rfl⟩
        rw [hWF] at hend hbl
        rw [hWF]
        have e0 := hend.cell 0
        have e1 := hend.cell 1
        have e2 := hend.cell 2
        have e3 := hend.cell 3
        simp only [List.getElem?_toArray, List.getElem?_cons_zero, List.getElem?_cons_succ] at e0 e1 e2 e3
        exact bodyPost_ret (v := .agg #[.int .i64 2, .int .i64 a, .int .i64 b, .int .i64 c]) (by simp [results, Tryd.results44, go_sem, e0, e1, e2, e3]) rfl ⟨by rw [HR.out, HV.out]; rfl, hbl⟩
      have p2 : (m0.toList == [108, 111, 115, 116]) = false := by have := str_ne q2; simpa using this
      by_cases q3 : m0 = ⟨#[112, 114, 111, 98, 101]⟩
      · subst q3
        have HV := hide (show readV WS a b c = ⟨3, a, 0, b⟩ by
          have h0 := word0 HM0.out
          unfold readV
          rw [h0]
          rw [if_neg (by decide)]
          rw [if_neg (by decide)]
          rw [if_pos rfl])
        go_wp2_with fail
        have hend := blk4 hblk1 (.int .i64 3) (.int .i64 a) (.int .i64 0) (.int .i64 b)
        have hbl := bel4 HBEL1.out (.int .i64 3) (.int .i64 a) (.int .i64 0) (.int .i64 b)
        obtain ⟨WF, hWF⟩ : ∃ x, ((((W1.setCell ⟨w.heap.size, 0, none⟩ (.int .i64 3)).setCell ⟨w.heap.size, 1, none⟩ (.int .i64 a)).setCell ⟨w.heap.size, 2, none⟩ (.int .i64 0)).setCell ⟨w.heap.size, 3, none⟩ (.int .i64 b)) = x := ⟨_, rfl⟩
        rw [hWF] at hend hbl
        rw [hWF]
        have e0 := hend.cell 0
        have e1 := hend.cell 1
        have e2 := hend.cell 2
        have e3 := hend.cell 3
        simp only [List.getElem?_toArray, List.getElem?_cons_zero, List.getElem?_cons_succ] at e0 e1 e2 e3
        exact bodyPost_ret (v := .agg #[.int .i64 3, .int .i64 a, .int .i64 0, .int .i64 b]) (by simp [results, Tryd.results44, go_sem, e0, e1, e2, e3]) rfl ⟨by rw [HR.out, HV.out]; rfl, hbl⟩
      have p3 : (m0.toList == [112, 114, 111, 98, 101]) = false := by have := str_ne q3; simpa using this
      by_cases q4 : m0 = ⟨#[119, 105, 110, 100, 111, 119]⟩
      · subst q4
        have HV := hide (show readV WS a b c = ⟨4, 0, 0, a⟩ by
          have h0 := word0 HM0.out
          unfold readV
          rw [h0]
          rw [if_neg (by decide)]
          rw [if_neg (by decide)]
          rw [if_neg (by decide)]
          rw [if_pos rfl])
        go_wp2_with fail
        have hend := blk4 hblk1 (.int .i64 4) (.int .i64 0) (.int .i64 0) (.int .i64 a)
        have hbl := bel4 HBEL1.out (.int .i64 4) (.int .i64 0) (.int .i64 0) (.int .i64 a)
        obtain ⟨WF, hWF⟩ : ∃ x, ((((W1.setCell ⟨w.heap.size, 0, none⟩ (.int .i64 4)).setCell ⟨w.heap.size, 1, none⟩ (.int .i64 0)).setCell ⟨w.heap.size, 2, none⟩ (.int .i64 0)).setCell ⟨w.heap.size, 3, none⟩ (.int .i64 a)) = x := ⟨_, rfl⟩
        rw [hWF] at hend hbl
        rw [hWF]
        have e0 := hend.cell 0
        have e1 := hend.cell 1
        have e2 := hend.cell 2
        have e3 := hend.cell 3
        simp only [List.getElem?_toArray, List.getElem?_cons_zero, List.getElem?_cons_succ] at e0 e1 e2 e3
        exact bodyPost_ret (v := .agg #[.int .i64 4, .int .i64 0, .int .i64 0, .int .i64 a]) (by simp [results, Tryd.results44, go_sem, e0, e1, e2, e3]) rfl ⟨by rw [HR.out, HV.out]; rfl, hbl⟩
      have p4 : (m0.toList == [119, 105, 110, 100, 111, 119]) = false := by have := str_ne q4; simpa using this
      by_cases q5 : m0 = ⟨#[99, 111, 108, 108, 97, 112, 115, 101]⟩
      · subst q5
        have HV := hide (show readV WS a b c = ⟨5, a, 0, 0⟩ by
          have h0 := word0 HM0.out
          unfold readV
          rw [h0]
          rw [if_neg (by decide)]
          rw [if_neg (by decide)]
          rw [if_neg (by decide)]
          rw [if_neg (by decide)]
          rw [if_pos rfl])
        go_wp2_with fail
        have hend := blk4 hblk1 (.int .i64 5) (.int .i64 a) (.int .i64 0) (.int .i64 0)
        have hbl := bel4 HBEL1.out (.int .i64 5) (.int .i64 a) (.int .i64 0) (.int .i64 0)
        obtain ⟨WF, hWF⟩ : ∃ x, ((((W1.setCell ⟨w.heap.size, 0, none⟩ (.int .i64 5)).setCell ⟨w.heap.size, 1, none⟩ (.int .i64 a)).setCell ⟨w.heap.size, 2, none⟩ (.int .i64 0)).setCell ⟨w.heap.size, 3, none⟩ (.int .i64 0)) = x := ⟨_, rfl⟩
        rw [hWF] at hend hbl
        rw [hWF]
        have e0 := hend.cell 0
        have e1 := hend.cell 1
        have e2 := hend.cell 2
        have e3 := hend.cell 3
        simp only [List.getElem?_toArray, List.getElem?_cons_zero, List.getElem?_cons_succ] at e0 e1 e2 e3
        exact bodyPost_ret (v := .agg #[.int .i64 5, .int .i64 a, .int .i64 0, .int .i64 0]) (by simp [results, Tryd.results44, go_sem, e0, e1, e2, e3]) rfl ⟨by rw [HR.out, HV.out]; rfl, hbl⟩
      have p5 : (m0.toList == [99, 111, 108, 108, 97, 112, 115, 101]) = false := by have := str_ne q5; simpa using this
      have HV := hide (show readV WS a b c = ⟨6, 0, 0, a⟩ by
        unfold readV
        rw [if_neg (word0n (fun h => q1 (HM0.out.symm.trans h)))]
        rw [if_neg (word0n (fun h => q2 (HM0.out.symm.trans h)))]
        rw [if_neg (word0n (fun h => q3 (HM0.out.symm.trans h)))]
        rw [if_neg (word0n (fun h => q4 (HM0.out.symm.trans h)))]
        rw [if_neg (word0n (fun h => q5 (HM0.out.symm.trans h)))])
      go_wp2_with fail
      have hend := blk4 hblk1 (.int .i64 6) (.int .i64 0) (.int .i64 0) (.int .i64 a)
      have hbl := bel4 HBEL1.out (.int .i64 6) (.int .i64 0) (.int .i64 0) (.int .i64 a)
      obtain ⟨WF, hWF⟩ : ∃ x, ((((W1.setCell ⟨w.heap.size, 0, none⟩ (.int .i64 6)).setCell ⟨w.heap.size, 1, none⟩ (.int .i64 0)).setCell ⟨w.heap.size, 2, none⟩ (.int .i64 0)).setCell ⟨w.heap.size, 3, none⟩ (.int .i64 a)) = x := ⟨_, rfl⟩
      rw [hWF] at hend hbl
      rw [hWF]
      have e0 := hend.cell 0
      have e1 := hend.cell 1
      have e2 := hend.cell 2
      have e3 := hend.cell 3
      simp only [List.getElem?_toArray, List.getElem?_cons_zero, List.getElem?_cons_succ] at e0 e1 e2 e3
      exact bodyPost_ret (v := .agg #[.int .i64 6, .int .i64 0, .int .i64 0, .int .i64 a]) (by simp [results, Tryd.results44, go_sem, e0, e1, e2, e3]) rfl ⟨by rw [HR.out, HV.out]; rfl, hbl⟩
end Go.Proofs.YtbpeienllhbffaaDoor
