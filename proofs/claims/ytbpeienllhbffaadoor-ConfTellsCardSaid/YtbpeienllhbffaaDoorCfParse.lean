/-
  conf.Parse: its walk.
-/
import Derived.Test.YtbpeienllhbffaaDoorCfParseA
namespace Go.Proofs.YtbpeienllhbffaaDoor
set_option linter.unusedSimpArgs false
set_option linter.unusedVariables false
open Go.RowKit Go.Shelf Go.WideMaps Go.Maps

set_option maxRecDepth 100000 in
set_option maxHeartbeats 8000000 in
theorem parse_any (s : ByteArray) (hs : s.size < 4294967281) (w : World) (hE : Env w) : Calls Tryd.prog 36 #[.string s] w fun e w' => e = parseE (parseC s) ∧ Below w.heap.size w w' := by
  have HE := hide hE
  have hmm := @run_makeMap Tryd.prog
  obtain ⟨r, hr⟩ : ∃ r, parseC s = r := ⟨_, rfl⟩
  have HR := hide hr
  rw [hr]
  clear hE hr
  go_enter Tryd.func36, Tryd.ntmps36
  by_cases hbig : 65536 < s.size
  · have hbi : (65536 : Int) < (s.size : Int) := by omega
    have hr : r = (zeroCF, 0, 5) := by
      rw [← HR.out]
      unfold parseC
      rw [if_pos hbig]
    subst hr
    go_wp2_with fail
    go_step3
    go_wp2_with fail
    rw [Exit.noGoto_ret]
    exact bodyPost_ret (v := .tuple #[.agg (confC zeroCF), .int .i64 0, .int .i64 5]) (by simp [results, Tryd.results36, go_sem, confC, zeroCF]) rfl ⟨rfl, (Below.refl _ _).alloc (Nat.le_refl _) _⟩
  · have hbi : ¬ (65536 : Int) < (s.size : Int) := by omega
    have hr : r = (match runC 0 pst0 (linesB s) with
        | .inl i => (zeroCF, (i : Int) + 1, 4)
        | .inr st => if errC (ofVals st.vs) = 0 then (ofVals st.vs, 0, 0) else (zeroCF, 0, errC (ofVals st.vs))) := by
      rw [← HR.out]
      unfold parseC
      rw [if_neg hbig]
      rfl
    clear HR
    have HR := hide hr
    clear hr hbig
    go_wp2_with fail
    go_step3
    go_wp2_with fail
    refine (default_any false _).mono ?_
    rintro e1 w1 ⟨rfl, hb1⟩
    go_wp2_with fail
    refine (opened_any (defaultCF false) _).mono ?_
    rintro e2 w2 ⟨xb, rfl, hF2, hx2, hb2⟩
    go_wp2_with fail
    refine (rows_any _).mono ?_
    rintro e3 w3 ⟨A, rfl, hR3, hA3, hb3⟩
    obtain ⟨mx, hmx⟩ := HE.out.max
    have hz1 := hb1.size
    have hz2 := hb2.size
    have hz1 : w.heap.size + 1 ≤ w1.heap.size := by simpa using hz1
    have hA3 : w2.heap.size + 1 ≤ A := by simpa using hA3
    have hb0 : Below w.heap.size w (w.alloc (.cells (confC zeroCF) 46)) := (Below.refl _ _).alloc (Nat.le_refl _) _
    have hrb : Blk (w.alloc (.cells (confC zeroCF) 46)) w.heap.size 46 (confC zeroCF) := Blk.new _ _ _
    have hbm : Below w2.heap.size w2 (w2.alloc (.map #[] 0)) := (Below.refl _ _).alloc (Nat.le_refl _) _
    have hB2 : Below w.heap.size w w2 := below2 (below2 hb0 hb1) hb2
    have hB3 : Below w.heap.size w w3 := below2 (below2 hB2 hbm) hb3
    have hrb3 : Blk w3 w.heap.size 46 (confC zeroCF) := by
      have h1 := (hb1.block _ hrb.lt).trans hrb
      have h2 := (hb2.block _ (Blk.lt h1)).trans h1
      have h3 := (hbm.block _ (Blk.lt h2)).trans h2
      exact (hb3.block _ (Blk.lt h3)).trans h3
    have hH3 : HadAt w3 w2.heap.size [] 0 := HadAt.below ⟨.map [], World.ownsMap_made _ _ _ _, fun s _ => rfl⟩ hb3
    have hF3 := (hF2.below hbm).below hb3
    have hge : w.heap.size < xb ∧ xb < w2.heap.size ∧ w2.heap.size < A ∧ A < w3.heap.size := ⟨by omega, hF2.blk.lt, by omega, hR3.names.lt⟩
    have hmx3 := (hB3.cell (p := ⟨0, 0, none⟩) (by show 0 < w.heap.size; have := HE.out.size; omega)).trans hmx
    have hP3 : ∀ ls, PaAt w (w3.alloc (.cells (ls.map Value.string).toArray 9)) xb w2.heap.size A w3.heap.size ls pst0 0 := fun ls => by
      have hbl : Below w3.heap.size w3 (w3.alloc (.cells (ls.map Value.string).toArray 9)) := (Below.refl _ _).alloc (Nat.le_refl _) _
      refine ⟨(HE.out.later hB3).later hbl, hF3.below hbl, hH3.below hbl, hR3.names.below hbl, ⟨by simp, fun i x hi => ?_⟩, (hbl.block _ (Blk.lt hrb3)).trans hrb3, below2 hB3 hbl, hge, HE.out.size⟩
      rw [(Blk.new w3 9 (ls.map Value.string).toArray).cell, List.getElem?_toArray, List.getElem?_map, hi]
      rfl
    have HP3 := hide (hP3 (linesB s))
    have HSP := hide (Tryd.strings_Split s nlB mx w3 hs hmx3 (by decide))
    have hlen := lines_length s
    obtain ⟨M, hM⟩ : ∃ M, w2.heap.size = M := ⟨_, rfl⟩
    obtain ⟨LB, hLB⟩ : ∃ LB, w3.heap.size = LB := ⟨_, rfl⟩
    obtain ⟨N, hN⟩ : ∃ N, Lib.countB s nlB + 1 = N := ⟨_, rfl⟩
    obtain ⟨ls, hls⟩ : ∃ ls, linesB s = ls := ⟨_, rfl⟩
    have hsz : s.size ≤ 65536 := by omega
    have hlsz : ∀ x ∈ ls, x.size ≤ 65536 := fun x hx => by
      rw [← hls] at hx
      have := lines_size hx
      omega
    have hN2 : N ≤ 65537 := by
      have := Lib.countB_le nlB (by decide) s.size s (Nat.le_refl _)
      omega
    have hL := hls
    unfold linesB at hL
    rw [hL, hN] at HSP
    rw [hls] at HP3 HR hlen
    rw [hN] at hlen
    rw [hM, hLB] at HP3
    rw [hLB] at HSP
    rw [hM]
    have HLZ := hide hlsz
    have HLEN := hide hlen
    clear hF2 hR3 hA3 hb1 hb2 hb3 hb0 hrb hbm hB2 hB3 hrb3 hH3 hF3 hge hmx hmx3 hP3 hM hN hls hL hlsz hlen hx2 hz1 hz2
    unfold nlB at HSP
    go_wp2_with fail
    go_step3
    go_wp2_with fail
    refine HSP.out.mono ?_
    rintro e4 w4 ⟨rfl, rfl⟩
    clear HSP
    go_wp2_with fail
    go_loopg [26] N (fun kx s26 wr => ∃ (k : Nat) (st : PSt), s26 = .int .i64 k ∧ k ≤ N ∧ N - k ≤ kx ∧ Hid (runC k st (ls.drop k) = runC 0 pst0 ls) ∧ PaAt w wr xb M A LB ls st k)
    case atStart => exact ⟨0, pst0, rfl, by omega, by omega, rfl, HP3.out⟩
    case round =>
      clear HP3
      obtain ⟨k, st, rfl, hk, hkx, hrun, hP⟩ := hrel
      have HP := hide hP
      have HRUN := hide hrun
      by_cases hlt : k < N
      · have hin : (k : Int) < (N : Int) := by omega
        have hk0 : (0 : Int) ≤ (k : Int) := by omega
        obtain ⟨l, hl⟩ : ∃ l, ls[k]? = some l := ⟨_, List.getElem?_eq_getElem (by rw [HLEN.out]; exact hlt)⟩
        have zl := hP.ln.2 k l hl
        have hdrop : ls.drop k = l :: ls.drop (k + 1) := by
          obtain ⟨h1, h2⟩ := List.getElem?_eq_some_iff.1 hl
          rw [List.drop_eq_getElem_cons h1, h2]
        rw [hdrop] at HRUN
        have hlz := HLZ.out l (List.mem_of_getElem? hl)
        have HW := hide (fun W => words_any l hlz W)
        obtain ⟨n, hn⟩ : ∃ n, (wordsB l).length = n := ⟨_, rfl⟩
        rw [hn] at HW
        have HNW := hide hn
        clear hn hl hdrop hrun hP
        go_wp2_with fail
        refine (HW.out _).mono ?_
        rintro e5 w5 ⟨W0, rfl, hS5, hW0, hb5⟩
        have HS5 := hide hS5
        have HP5 := hide (HP.out.below hb5)
        have hMW : M < W0 := Nat.lt_of_lt_of_le HP.out.lt.1 hW0
        have hM5 : M < w5.heap.size := HP5.out.lt.1
        clear HW hS5 hb5 HP zl
        by_cases hn0 : n = 0
        · subst hn0
          have hst : stepC st l = some st := by unfold stepC; rw [if_pos (.inl HNW.out)]
          rw [runC_cons hst] at HRUN
          have HP6 := hide (HP5.out.below ((Below.refl _ _).alloc (Nat.le_refl _) (.cells #[.slice (some ⟨W0, 0, none⟩) 0 0] 39)))
          go_wp2_with fail
          go_roundg (N - (k + 1))
          case rel => exact ⟨k + 1, st, by go_num, by omega, by omega, HRUN.out, HP6.out.mono (by omega)⟩
          case measure => omega
        · have hni : ¬ (n : Int) = 0 := by omega
          have hnp : (0 : Int) < (n : Int) := by omega
          obtain ⟨w0, hw0⟩ : ∃ x, wordAt l 0 = x := ⟨_, rfl⟩
          have hg0 : (wordsB l)[0]? = some w0 := by
            rw [← hw0]
            unfold wordAt
            rw [List.getD_eq_getElem?_getD, List.getElem?_eq_getElem (by rw [HNW.out]; omega)]
            rfl
          have z0 := HS5.out.2 0 w0 hg0
          have hwok := words_ok l w0 (List.mem_of_getElem? hg0)
          have hw0p : (0 : Int) < (w0.size : Int) := by omega
          have hWl := HS5.out.1
          have hnb : ((n : Int) == 0) = false := by rw [beq_eq_false_iff_ne]; exact hni
          have HG0 := hide hg0
          have HW0 := hide hw0
          have hwp := hwok.1
          have hfb := first_byte hwp
          have HWS := hide hwok
          clear hg0 hw0 hwok
          by_cases hh : w0.data.toList.head? = some 35
          · rw [decide_eq_true hh] at hfb
            have hst : stepC st l = some st := by unfold stepC; rw [HW0.out, if_pos (.inr hh)]
            rw [runC_cons hst] at HRUN
            have HP6 := hide (HP5.out.below ((Below.refl _ _).alloc (Nat.le_refl _) (.cells #[.slice (some ⟨W0, 0, none⟩) n n] 39)))
            clear hh
            go_wp2_with fail
            go_roundg (N - (k + 1))
            case rel => exact ⟨k + 1, st, by go_num, by omega, by omega, HRUN.out, HP6.out.mono (by omega)⟩
            case measure => omega
          · rw [decide_eq_false hh] at hfb
            have hst : stepC st l = (match placeN w0 10 with
              | none => none
              | some j => if memB w0 st.had = true ∨ n ≠ 2 then none else
                match numberB (wordAt l 1) with
                | none => none
                | some x => if j = 0 ∧ 1 < x then none else some ⟨st.vs.set j x, st.had ++ [w0]⟩) := by
              unfold stepC
              rw [HW0.out, HNW.out, if_neg (fun h => h.elim hn0 hh)]
              rfl
            have HST := hide hst
            have HP6 := hide (HP5.out.below ((Below.refl _ _).alloc (Nat.le_refl _) (.cells #[.slice (some ⟨W0, 0, none⟩) n n] 39)))
            have HS6 := hide (HS5.out.below ((Below.refl _ _).alloc (Nat.le_refl _) (.cells #[.slice (some ⟨W0, 0, none⟩) n n] 39)))
            have hwb : Blk (w5.alloc (.cells #[.slice (some ⟨W0, 0, none⟩) n n] 39)) w5.heap.size 39 #[.slice (some ⟨W0, 0, none⟩) n n] := Blk.new _ _ _
            have HWB := hide hwb
            have HIX := hide (index_any A w5.heap.size W0 n n w0 _ HP6.out.nm (by omega) (hwb.cell 0) ((((Below.refl w5.heap.size w5).alloc (Nat.le_refl _) _).cell (p := ⟨W0, 0, none⟩) hWl).trans z0) hwb.lt HS6.out.1)
            obtain ⟨pi, hpi⟩ : ∃ z, placeI w0 = z := ⟨_, rfl⟩
            rw [hpi] at HIX
            clear hh hst hwb HP5
            go_wp2_with fail
            refine HIX.out.mono ?_
            rintro e7 w7 ⟨rfl, hb7⟩
            have HP7 := hide (HP6.out.below hb7)
            have HS7 := hide (HS6.out.below hb7)
            have HB7 := hide ((hb7.block _ HWB.out.lt).trans HWB.out : Blk w7 w5.heap.size 39 #[.slice (some ⟨W0, 0, none⟩) n n])
            clear HIX HP6 HS6 HWB hb7 z0
            obtain ⟨D, hown, hat0⟩ := HP7.out.had
            have hkey : keyOf Tryd.prog 9 (.string w0) = some (.string w0.data.toList) := keyOf_string_mk Tryd.underlying9 (by unfold maxLen; have := HWS.out; omega)
            have hat := hat0 w0 (by unfold maxLen; have := HWS.out; omega)
            obtain ⟨m, hm⟩ : ∃ m : Int, (if memB w0 st.had then 1 else 0) = m := ⟨_, rfl⟩
            rw [hm] at hat
            have hm2 : 0 ≤ m ∧ m ≤ 1 := by rw [← hm]; split <;> omega
            have HM := hide hm
            have HAT := hide hat
            have HAT0 := hide hat0
            have y0 := Blk.cell HB7.out 0
            have z0 := HS7.out.2 0 w0 HG0.out
            clear hm hat hat0
            cases hpl : placeN w0 10 with
            | none =>
              have hpn : pi = -1 := by rw [← hpi]; unfold placeI; rw [hpl]
              subst hpn
              have hst := HST.out
              rw [hpl] at hst
              rw [runC_bad hst] at HRUN
              clear hst hpi hpl
              go_wp2_with (first
                | (at_lookup; refine wpList_lookup_own_int _ rfl _ _ 106 rfl 9 3 .i64 strLaw Tryd.underlying106 Tryd.underlying3 (zeroInt _) M k D rfl hown _ (.string w0.data.toList) rfl hkey ?_; intro c hc _; rw [HAT.out] at hc; obtain rfl : m = c := by injection hc with hc; injection hc)
                | (at_mapUpdate; refine wpList_mapUpdate_own _ rfl _ _ _ 106 rfl 9 3 strLaw Tryd.underlying106 _ M k _ rfl hown (by unfold maxLen; omega) _ _ _ rfl rfl hkey _ [] (plainElem_int Tryd.underlying3 (WalkArith.wf_i64 (by omega))) ?_; intro w8 hown8 hgrow8; have HP8 := hide (HP7.out.left hgrow8); obtain ⟨c0, c1, c2, c3, c4, c5, c6, c7, c8, c9, f0, f1, f2, f3, f4, f5, f6, f7, f8, f9, s0, s1, s2, s3, s4, s5, s6, s7, s8, s9⟩ := zero_facts HP8.out.rb))
              have HBL := hide HP8.out.bl
              have hres : r = (zeroCF, (k : Int) + 1, 4) := by rw [HR.out, ← HRUN.out]
              exact bodyPost_ret (v := .tuple #[.agg (confC zeroCF), .int .i64 ((k : Int) + 1), .int .i64 4]) (by simp [results, Tryd.results36, go_sem, confC, zeroCF, c0, c1, c2, c3, c4, c5, c6, c7, c8, c9]) rfl ⟨by rw [hres]; rfl, HBL.out⟩
            | some j =>
              obtain ⟨hj, hjn⟩ := placeN_lt hpl
              have hpj : pi = (j : Int) := by rw [← hpi]; unfold placeI; rw [hpl]
              subst hpj
              have hj0 : (0 : Int) ≤ (j : Int) := by omega
              have hjlt : (j : Int) < 10 := by omega
              have hst := HST.out
              rw [hpl] at hst
              clear hjn hpi hpl
              cases hmem : memB w0 st.had with
              | true =>
                have hm1 : m = 1 := by rw [← HM.out, hmem]; rfl
                subst hm1
                rw [hmem] at hst
                have hst : stepC st l = none := by rw [hst]; exact if_pos (.inl rfl)
                rw [runC_bad hst] at HRUN
                clear hst hmem
                go_wp2_with (first
                  | (at_lookup; refine wpList_lookup_own_int _ rfl _ _ 106 rfl 9 3 .i64 strLaw Tryd.underlying106 Tryd.underlying3 (zeroInt _) M k D rfl hown _ (.string w0.data.toList) rfl hkey ?_; intro c hc _; rw [HAT.out] at hc; obtain rfl : (1 : Int) = c := by injection hc with hc; injection hc)
                  | (at_mapUpdate; go_loud (refine wpList_mapUpdate_own _ rfl _ _ _ 106 rfl 9 3 strLaw Tryd.underlying106 _ M k _ rfl hown (by unfold maxLen; omega) _ _ _ rfl rfl hkey _ [] (plainElem_int Tryd.underlying3 (WalkArith.wf_i64 (by omega))) ?_; intro w8 hown8 hgrow8; have HP8 := hide (HP7.out.left hgrow8); obtain ⟨v2, hrun2, hat2, _⟩ := hown8.lookup_int strLaw Tryd.underlying106 Tryd.underlying3 (zeroInt _) hkey; rw [atKey_put_same (ownsMap_isMap hown) (by trivial)] at hat2; cases hat2; have y8 := Blk.cell ((hgrow8.block _ (Blk.lt HB7.out) (fun e => by (injection e with e; omega))).trans HB7.out : Blk w8 w5.heap.size 39 #[.slice (some ⟨W0, 0, none⟩) n n]) 0; have z8 := (World.cell?_of_block (w := w7) (a := ⟨W0, 0, none⟩) (hgrow8.block W0 HS7.out.1 (fun e => by (injection e with e; omega)))).trans z0; obtain ⟨c0, c1, c2, c3, c4, c5, c6, c7, c8, c9, f0, f1, f2, f3, f4, f5, f6, f7, f8, f9, s0, s1, s2, s3, s4, s5, s6, s7, s8, s9⟩ := zero_facts HP8.out.rb)))
                have HBL := hide HP8.out.bl
                have hres : r = (zeroCF, (k : Int) + 1, 4) := by rw [HR.out, ← HRUN.out]
                exact bodyPost_ret (v := .tuple #[.agg (confC zeroCF), .int .i64 ((k : Int) + 1), .int .i64 4]) (by simp [results, Tryd.results36, go_sem, confC, zeroCF, c0, c1, c2, c3, c4, c5, c6, c7, c8, c9]) rfl ⟨by rw [hres]; rfl, HBL.out⟩
              | false =>
                have hm0 : m = 0 := by rw [← HM.out, hmem]; rfl
                subst hm0
                rw [hmem] at hst
                by_cases hn2 : n = 2
                · subst hn2
                  obtain ⟨w1_, hw1⟩ : ∃ x, wordAt l 1 = x := ⟨_, rfl⟩
                  have hg1 : (wordsB l)[1]? = some w1_ := by
                    rw [← hw1]
                    unfold wordAt
                    rw [List.getD_eq_getElem?_getD, List.getElem?_eq_getElem (by rw [HNW.out]; omega)]
                    rfl
                  have z1 := HS7.out.2 1 w1_ hg1
                  have hw1z : w1_.size ≤ 65536 := by have := (words_ok l w1_ (List.mem_of_getElem? hg1)).2; omega
                  have hst : stepC st l = (match numberB w1_ with
                    | none => none
                    | some x => if j = 0 ∧ 1 < x then none else some ⟨st.vs.set j x, st.had ++ [w0]⟩) := by rw [hst, ← hw1]; exact if_neg (fun h => h.elim (fun h => by cases h) (fun h => h rfl))
                  have HN1 := hide (fun W E => number_any w1_ hw1z W E)
                  clear hw1 hg1
                  go_wp2_with (first
                    | (at_lookup; refine wpList_lookup_own_int _ rfl _ _ 106 rfl 9 3 .i64 strLaw Tryd.underlying106 Tryd.underlying3 (zeroInt _) M k D rfl hown _ (.string w0.data.toList) rfl hkey ?_; intro c hc _; rw [HAT.out] at hc; obtain rfl : (0 : Int) = c := by injection hc with hc; injection hc)
                    | (at_mapUpdate; go_loud (refine wpList_mapUpdate_own _ rfl _ _ _ 106 rfl 9 3 strLaw Tryd.underlying106 _ M k _ rfl hown (by unfold maxLen; omega) _ _ _ rfl rfl hkey _ [] (plainElem_int Tryd.underlying3 (WalkArith.wf_i64 (by omega))) ?_; intro w8 hown8 hgrow8; have HP8 := hide (HP7.out.left hgrow8); obtain ⟨v2, hrun2, hat2, _⟩ := hown8.lookup_int strLaw Tryd.underlying106 Tryd.underlying3 (zeroInt _) hkey; rw [atKey_put_same (ownsMap_isMap hown) (by trivial)] at hat2; cases hat2; have y8 := Blk.cell ((hgrow8.block _ (Blk.lt HB7.out) (fun e => by (injection e with e; omega))).trans HB7.out : Blk w8 w5.heap.size 39 #[.slice (some ⟨W0, 0, none⟩) 2 2]) 0; have z8 := (World.cell?_of_block (w := w7) (a := ⟨W0, 0, none⟩) (hgrow8.block W0 HS7.out.1 (fun e => by (injection e with e; omega)))).trans z0; have z8b := (World.cell?_of_block (w := w7) (a := ⟨W0, 1, none⟩) (hgrow8.block W0 HS7.out.1 (fun e => by (injection e with e; omega)))).trans z1; have HPA8 := hide (HP7.out.grow hgrow8 (HadAt.put (ownsMap_isMap hown) HAT0.out hown8)))))
                  refine (HN1.out _ HP8.out.env).mono ?_
                  rintro e9 w9 ⟨hne, hb9⟩
                  have HP9 := hide (HPA8.out.below hb9)
                  unfold NumEnds at hne
                  clear hb9 HN1 HP8 HPA8
                  cases hnb : numberB w1_ with
                  | none =>
                    rw [hnb] at hne hst
                    obtain ⟨z, rfl⟩ := hne
                    rw [runC_bad hst] at HRUN
                    clear hst hmem
                    obtain ⟨c0, c1, c2, c3, c4, c5, c6, c7, c8, c9, f0, f1, f2, f3, f4, f5, f6, f7, f8, f9, s0, s1, s2, s3, s4, s5, s6, s7, s8, s9⟩ := zero_facts HP9.out.rb
                    have HBL := hide HP9.out.bl
                    go_wp2_with fail
                    rw [Exit.noGoto_ret]
                    have hres : r = (zeroCF, (k : Int) + 1, 4) := by rw [HR.out, ← HRUN.out]
                    exact bodyPost_ret (v := .tuple #[.agg (confC zeroCF), .int .i64 ((k : Int) + 1), .int .i64 4]) (by simp [results, Tryd.results36, go_sem, confC, zeroCF, c0, c1, c2, c3, c4, c5, c6, c7, c8, c9]) rfl ⟨by rw [hres]; rfl, HBL.out⟩
                  | some x =>
                    rw [hnb] at hne hst
                    obtain rfl := hne
                    by_cases hjz : j = 0
                    · subst hjz
                      by_cases hx1 : 1 < x
                      · have hst : stepC st l = none := by rw [hst]; exact if_pos ⟨rfl, hx1⟩
                        rw [runC_bad hst] at HRUN
                        clear hst hmem
                        obtain ⟨c0, c1, c2, c3, c4, c5, c6, c7, c8, c9, f0, f1, f2, f3, f4, f5, f6, f7, f8, f9, s0, s1, s2, s3, s4, s5, s6, s7, s8, s9⟩ := zero_facts HP9.out.rb
                        have HBL := hide HP9.out.bl
                        go_wp2_with fail
                        rw [Exit.noGoto_ret]
                        have hres : r = (zeroCF, (k : Int) + 1, 4) := by rw [HR.out, ← HRUN.out]
                        exact bodyPost_ret (v := .tuple #[.agg (confC zeroCF), .int .i64 ((k : Int) + 1), .int .i64 4]) (by simp [results, Tryd.results36, go_sem, confC, zeroCF, c0, c1, c2, c3, c4, c5, c6, c7, c8, c9]) rfl ⟨by rw [hres]; rfl, HBL.out⟩
                      · have hst : stepC st l = some ⟨st.vs.set 0 x, st.had ++ [w0]⟩ := by rw [hst]; exact if_neg (fun h => hx1 h.2)
                        have HRUN := hide ((runC_cons hst).symm.trans HRUN.out)
                        obtain ⟨v, u, q0, q1, q2, hN, _⟩ := HP9.out.nm.row hj
                        obtain ⟨g, lb, rfl, eg, cN⟩ := hN
                        have CN := hide cN
                        have eg' : ∀ args w, (callFunc g args).run Tryd.prog w = .ok (.enter g args) w := eg
                        have hxc := HP9.out.fs.get hj
                        have hxf := HP9.out.fs.blk.frozen (offF 0)
                        obtain ⟨oldv, holdv⟩ : ∃ z, st.vs.getD 0 0 = z := ⟨_, rfl⟩
                        change w9.cell? ⟨xb, offF 0, none⟩ = some (.int .i64 (st.vs.getD 0 0)) at hxc
                        rw [holdv] at hxc
                        have HPN := hide (HP9.out.put hj x)
                        clear hst hmem cN eg holdv
                        go_wp2_with (first | (go_at_fn g; refine (CN.out _ _).mono ?_; rintro e10 w10 ⟨rfl, rfl⟩))
                        go_roundg (N - (k + 1))
                        case rel => exact ⟨k + 1, ⟨st.vs.set 0 x, st.had ++ [w0]⟩, by go_num, by omega, by omega, HRUN.out, HPN.out⟩
                        case measure => omega
                    · have hst : stepC st l = some ⟨st.vs.set j x, st.had ++ [w0]⟩ := by rw [hst]; exact if_neg (fun h => hjz h.1)
                      have hjz2 : ¬ (j : Int) = 0 := by omega
                      have hjz3 : ((j : Int) == 0) = false := by rw [beq_eq_false_iff_ne]; exact hjz2
                      have HRUN := hide ((runC_cons hst).symm.trans HRUN.out)
                      obtain ⟨v, u, q0, q1, q2, hN, _⟩ := HP9.out.nm.row hj
                      obtain ⟨g, lb, rfl, eg, cN⟩ := hN
                      have CN := hide cN
                      have eg' : ∀ args w, (callFunc g args).run Tryd.prog w = .ok (.enter g args) w := eg
                      have hxc := HP9.out.fs.get hj
                      have hxf := HP9.out.fs.blk.frozen (offF j)
                      obtain ⟨oldv, holdv⟩ : ∃ z, st.vs.getD j 0 = z := ⟨_, rfl⟩
                      change w9.cell? ⟨xb, offF j, none⟩ = some (.int .i64 (st.vs.getD j 0)) at hxc
                      rw [holdv] at hxc
                      have HPN := hide (HP9.out.put hj x)
                      clear hst hmem cN eg holdv
                      go_wp2_with (first | (go_at_fn g; refine (CN.out _ _).mono ?_; rintro e10 w10 ⟨rfl, rfl⟩))
                      go_roundg (N - (k + 1))
                      case rel => exact ⟨k + 1, ⟨st.vs.set j x, st.had ++ [w0]⟩, by go_num, by omega, by omega, HRUN.out, HPN.out⟩
                      case measure => omega
                · have hst : stepC st l = none := by rw [hst]; exact if_pos (.inr hn2)
                  rw [runC_bad hst] at HRUN
                  have hn2i : ((n : Int) == 2) = false := by rw [beq_eq_false_iff_ne]; omega
                  have hn2a : ¬ (n : Int) = 2 := by omega
                  have hn2b : ((n : Int) != 2) = true := by rw [bne_iff_ne]; omega
                  clear hst hmem
                  go_wp2_with (first
                    | (at_lookup; refine wpList_lookup_own_int _ rfl _ _ 106 rfl 9 3 .i64 strLaw Tryd.underlying106 Tryd.underlying3 (zeroInt _) M k D rfl hown _ (.string w0.data.toList) rfl hkey ?_; intro c hc _; rw [HAT.out] at hc; obtain rfl : (0 : Int) = c := by injection hc with hc; injection hc)
                    | (at_mapUpdate; go_loud (refine wpList_mapUpdate_own _ rfl _ _ _ 106 rfl 9 3 strLaw Tryd.underlying106 _ M k _ rfl hown (by unfold maxLen; omega) _ _ _ rfl rfl hkey _ [] (plainElem_int Tryd.underlying3 (WalkArith.wf_i64 (by omega))) ?_; intro w8 hown8 hgrow8; have HP8 := hide (HP7.out.left hgrow8); obtain ⟨v2, hrun2, hat2, _⟩ := hown8.lookup_int strLaw Tryd.underlying106 Tryd.underlying3 (zeroInt _) hkey; rw [atKey_put_same (ownsMap_isMap hown) (by trivial)] at hat2; cases hat2; have y8 := Blk.cell ((hgrow8.block _ (Blk.lt HB7.out) (fun e => by (injection e with e; omega))).trans HB7.out : Blk w8 w5.heap.size 39 #[.slice (some ⟨W0, 0, none⟩) n n]) 0; have z8 := (World.cell?_of_block (w := w7) (a := ⟨W0, 0, none⟩) (hgrow8.block W0 HS7.out.1 (fun e => by (injection e with e; omega)))).trans z0; obtain ⟨c0, c1, c2, c3, c4, c5, c6, c7, c8, c9, f0, f1, f2, f3, f4, f5, f6, f7, f8, f9, s0, s1, s2, s3, s4, s5, s6, s7, s8, s9⟩ := zero_facts HP8.out.rb)))
                  have HBL := hide HP8.out.bl
                  have hres : r = (zeroCF, (k : Int) + 1, 4) := by rw [HR.out, ← HRUN.out]
                  exact bodyPost_ret (v := .tuple #[.agg (confC zeroCF), .int .i64 ((k : Int) + 1), .int .i64 4]) (by simp [results, Tryd.results36, go_sem, confC, zeroCF, c0, c1, c2, c3, c4, c5, c6, c7, c8, c9]) rfl ⟨by rw [hres]; rfl, HBL.out⟩
      · have hkN : k = N := by omega
        subst hkN
        have hd : ls.drop k = [] := List.drop_eq_nil_of_le (by rw [HLEN.out]; exact Nat.le_refl _)
        rw [hd] at hrun
        have hres : r = (if errC (ofVals st.vs) = 0 then (ofVals st.vs, 0, 0) else (zeroCF, 0, errC (ofVals st.vs))) := by
          rw [HR.out, ← hrun]
          rfl
        obtain ⟨c, hc⟩ : ∃ c, ofVals st.vs = c := ⟨_, rfl⟩
        rw [hc] at hres
        have HC := hide hc
        have HRES := hide hres
        have hbf : Blk wr xb 113 (fieldsC false fun i => st.vs.getD i 0) := hP.fs.blk
        unfold fieldsC at hbf
        have d0 := hbf.cell 0
        have d1 := hbf.cell 1
        have d2 := hbf.cell 2
        have d3 := hbf.cell 3
        have d4 := hbf.cell 4
        have d5 := hbf.cell 5
        have d6 := hbf.cell 6
        have d7 := hbf.cell 7
        have d8 := hbf.cell 8
        have d9 := hbf.cell 9
        have d10 := hbf.cell 10
        simp only [List.getElem?_toArray, List.getElem?_cons_zero, List.getElem?_cons_succ] at d0 d1 d2 d3 d4 d5 d6 d7 d8 d9 d10
        obtain ⟨v0, hv0⟩ : ∃ z, st.vs.getD 0 0 = z := ⟨_, rfl⟩
        obtain ⟨v1, hv1⟩ : ∃ z, st.vs.getD 1 0 = z := ⟨_, rfl⟩
        obtain ⟨v2, hv2⟩ : ∃ z, st.vs.getD 2 0 = z := ⟨_, rfl⟩
        obtain ⟨v3, hv3⟩ : ∃ z, st.vs.getD 3 0 = z := ⟨_, rfl⟩
        obtain ⟨v4, hv4⟩ : ∃ z, st.vs.getD 4 0 = z := ⟨_, rfl⟩
        obtain ⟨v5, hv5⟩ : ∃ z, st.vs.getD 5 0 = z := ⟨_, rfl⟩
        obtain ⟨v6, hv6⟩ : ∃ z, st.vs.getD 6 0 = z := ⟨_, rfl⟩
        obtain ⟨v7, hv7⟩ : ∃ z, st.vs.getD 7 0 = z := ⟨_, rfl⟩
        obtain ⟨v8, hv8⟩ : ∃ z, st.vs.getD 8 0 = z := ⟨_, rfl⟩
        obtain ⟨v9, hv9⟩ : ∃ z, st.vs.getD 9 0 = z := ⟨_, rfl⟩
        simp only [hv0, hv1, hv2, hv3, hv4, hv5, hv6, hv7, hv8, hv9] at d0 d1 d2 d3 d4 d5 d6 d7 d8 d9 d10
        obtain ⟨c0, c1, c2, c3, c4, c5, c6, c7, c8, c9, f0, f1, f2, f3, f4, f5, f6, f7, f8, f9, s0, s1, s2, s3, s4, s5, s6, s7, s8, s9⟩ := zero_facts hP.rb
        clear s1 s2 s3 s4 s5 s6 s7 s8 s9
        have hcc : confC c = #[.bool (v0 == 1), .int .i64 v1, .int .i64 v2, .int .i64 v3, .int .i64 v4, .int .i64 v5, .int .i64 v6, .int .i64 v7, .int .i64 v8, .int .i64 v9] := by
          rw [← hc]
          unfold confC ofVals
          simp only [hv0, hv1, hv2, hv3, hv4, hv5, hv6, hv7, hv8, hv9]
          rfl
        have HCC := hide hcc
        have hch := fun W => check_any c W
        rw [hcc] at hch
        have HCH := hide hch
        have hB9 := (chain_blk (b := (v0 == 1)) (v1 := v1) (v2 := v2) (v3 := v3) (v4 := v4) (v5 := v5) (v6 := v6) (v7 := v7) (v8 := v8) (v9 := v9) hP.rb).eq hcc.symm
        have hO9 := chain_only (W := wr) (rb := w.heap.size) (b := (v0 == 1)) (v1 := v1) (v2 := v2) (v3 := v3) (v4 := v4) (v5 := v5) (v6 := v6) (v7 := v7) (v8 := v8) (v9 := v9)
        have hbl9 := hP.bl.trans (hO9.below (B := w.heap.size) (fun x hx => by simp at hx; omega) hP.bl.size)
        have HB9 := hide hB9
        have HBL9 := hide hbl9
        clear hrun hd hres hc hbf hlt hP hkx hcc hch hB9 hO9 hbl9 hv0 hv1 hv2 hv3 hv4 hv5 hv6 hv7 hv8 hv9
        go_wp2_with fail
        refine (HCH.out _).mono ?_
        rintro e10 w10 ⟨rfl, hb10⟩
        have HB10 := hide ((hb10.block _ (Blk.lt HB9.out)).trans HB9.out : Blk w10 w.heap.size 46 (confC c))
        have HBL10 := hide (below2 HBL9.out hb10)
        obtain ⟨er, her⟩ : ∃ er, errC c = er := ⟨_, rfl⟩
        rw [her]
        rw [her] at HRES
        clear HB9 HBL9 hb10 HCH c0 c1 c2 c3 c4 c5 c6 c7 c8 c9 f0 f1 f2 f3 f4 f5 f6 f7 f8 f9 s0 d0 d1 d2 d3 d4 d5 d6 d7 d8 d9 d10 her
        by_cases h0 : er = 0
        · subst h0
          have hres := HRES.out
          rw [if_pos rfl] at hres
          obtain ⟨c0, c1, c2, c3, c4, c5, c6, c7, c8, c9, f0, f1, f2, f3, f4, f5, f6, f7, f8, f9, s0, s1, s2, s3, s4, s5, s6, s7, s8, s9⟩ := conf_facts HB10.out
          have HRS := hide hres
          clear hres HRES HCC HC HR HRUN HLZ HLEN HE
          go_wp2_with fail
          rw [Exit.noGoto_ret]
          exact bodyPost_ret (v := .tuple #[.agg (confC c), .int .i64 0, .int .i64 0]) (by simp [results, Tryd.results36, go_sem, confC, c0, c1, c2, c3, c4, c5, c6, c7, c8, c9]) rfl ⟨by rw [HRS.out]; rfl, HBL10.out⟩
        · have hne : (er == 0) = false := by rw [beq_eq_false_iff_ne]; exact h0
          have hres := HRES.out
          rw [if_neg h0] at hres
          obtain ⟨c0, c1, c2, c3, c4, c5, c6, c7, c8, c9, f0, f1, f2, f3, f4, f5, f6, f7, f8, f9, s0, s1, s2, s3, s4, s5, s6, s7, s8, s9⟩ := conf_facts HB10.out
          have HRS := hide hres
          clear hres HRES HCC HC HR HRUN HLZ HLEN HE
          go_wp2_with fail
          rw [Exit.noGoto_ret]
          have HB11 := hide (chain0_blk HB10.out)
          have HBL11 := hide (HBL10.out.trans ((chain0_only (W := w10) (rb := w.heap.size)).below (B := w.heap.size) (fun x hx => by simp at hx; omega) HBL10.out.size))
          clear c0 c1 c2 c3 c4 c5 c6 c7 c8 c9 f0 f1 f2 f3 f4 f5 f6 f7 f8 f9 s0 s1 s2 s3 s4 s5 s6 s7 s8 s9
          obtain ⟨c0, c1, c2, c3, c4, c5, c6, c7, c8, c9, f0, f1, f2, f3, f4, f5, f6, f7, f8, f9, s0, s1, s2, s3, s4, s5, s6, s7, s8, s9⟩ := zero_facts HB11.out
          exact bodyPost_ret (v := .tuple #[.agg (confC zeroCF), .int .i64 0, .int .i64 er]) (by simp [results, Tryd.results36, go_sem, confC, zeroCF, c0, c1, c2, c3, c4, c5, c6, c7, c8, c9]) rfl ⟨by rw [HRS.out]; rfl, HBL11.out⟩
end Go.Proofs.YtbpeienllhbffaaDoor
