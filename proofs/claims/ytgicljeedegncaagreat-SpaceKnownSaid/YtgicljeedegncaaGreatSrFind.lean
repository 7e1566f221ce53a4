/-
 The document's answer: Greatest (sounderref07), Wait and Find (sounderref09). Printed by wip/gensrfind.py.
-/
import Derived.Test.YtgicljeedegncaaGreatSpgLose
import Derived.Test.YtgicljeedegncaaGreatRefCheck
namespace Go.Proofs.YtgicljeedegncaaGreat
open List renaming getElem_toArray → ZA, getElem_cons_zero → ZB, getElem_cons_succ → ZC, setIfInBounds_toArray → ZD, set_cons_zero → ZE, set_cons_succ → ZF
open Go.AllReadyH renaming cons → ZS, nil → ZN
open Go.Act renaming put → ZP
open Go.Value renaming int → ZI
open Go.IntKind renaming i64 → ZQ
set_option linter.unusedSimpArgs false
set_option linter.unusedVariables false
open Go.RowKit

theorem r07checkq (r : RT) (w : World) (h : rtC r = true) : Calls Tryz.prog 129 #[rtV r] w fun e w' => e = .returned (ZI ZQ 0) ∧ Below w.heap.size w w' := by
 have := r07check_any r w (by have := rtC_bd h; omega)
 rw [if_pos h] at this
 exact this
set_option maxHeartbeats 1000000 in
theorem r07great_any (r : RT) (w : World) (h : rtC r = true) : Calls Tryz.prog 162 #[rtV r] w fun e w' => e = .returned (ZI ZQ (greatR r)) ∧ Below w.heap.size w w' := by
 have HC := hide (fun W => r07checkq r W h)
 obtain ⟨G, hG⟩ : ∃ G, greatR r = G := ⟨_, rfl⟩
 have hg := hG
 unfold greatR at hg
 rw [hG]
 clear hG h
 obtain ⟨rl, rm, rz, rv, rf⟩ := r
 unfold rtV at HC ⊢
 dsimp only at HC hg ⊢
 have hx := Blk.new w 45 #[ZI ZQ rl, ZI ZQ rm, ZI ZQ rz, ZI ZQ rv, ZI ZQ rf]
 have hba : Below w.heap.size w (w.alloc (.cells #[ZI ZQ rl, ZI ZQ rm, ZI ZQ rz, ZI ZQ rv, ZI ZQ rf] 45)) := (Below.refl _ _).alloc (Nat.le_refl _) _
 have HX := hide hx
 have HB := hide hba
 clear hx hba
 go_enter Tryz.func162, Tryz.ntmps162
 go_wp2_with fail
 refine (HC.out _).mono ?_
 rintro e1 w1 ⟨rfl, hb⟩
 have hx1 := (hb.block _ HX.out.lt).trans HX.out
 have x0 : w1.cell? ⟨w.heap.size, 0, none⟩ = some (ZI ZQ rl) := Blk.cell (g := w.heap.size) hx1 0
 have x2 : w1.cell? ⟨w.heap.size, 2, none⟩ = some (ZI ZQ rz) := Blk.cell (g := w.heap.size) hx1 2
 go_wp2_with fail
 go_ret
 exact ⟨rfl, bw_below' HB.out hb⟩
set_option maxHeartbeats 1000000 in
theorem r09wait_any (r : RT) (w : World) (h : rtC r = true) : Calls Tryz.prog 130 #[rtV r] w fun e w' => e = .returned (ZI ZQ (waitR r)) ∧ Below w.heap.size w w' := by
 have HC := hide (fun W => r07checkq r W h)
 have HG := hide (fun W => r07great_any r W h)
 have hgb := greatR_le h
 unfold waitR
 rw [if_pos h]
 obtain ⟨G, hG⟩ : ∃ G, greatR r = G := ⟨_, rfl⟩
 rw [hG] at HG hgb ⊢
 clear hG h
 have hq : -9223372036854775808 ≤ (9 * G).tdiv 8 ∧ (9 * G).tdiv 8 ≤ 9223372036854775807 := by
  have e : (9 * G).tdiv 8 = (9 * G) / 8 := Int.tdiv_eq_ediv_of_nonneg (by omega)
  rw [e]
  omega
 obtain ⟨T1, hT1⟩ : ∃ T1, (if 9007199254740991 < (9 * G).tdiv 8 then 9007199254740991 else (9 * G).tdiv 8) = T1 := ⟨_, rfl⟩
 obtain ⟨T2, hT2⟩ : ∃ T2, (if 1000000 < T1 then T1 else 1000000) = T2 := ⟨_, rfl⟩
 rw [hT1, hT2]
 have hw9 : IntKind.i64.wrap (9 * G) = 9 * G := by rw [IntKind.wrap_i64]; omega
 obtain ⟨rl, rm, rz, rv, rf⟩ := r
 unfold rtV at HC HG ⊢
 dsimp only at HC HG ⊢
 have hx := Blk.new w 45 #[ZI ZQ rl, ZI ZQ rm, ZI ZQ rz, ZI ZQ rv, ZI ZQ rf]
 have hba : Below w.heap.size w (w.alloc (.cells #[ZI ZQ rl, ZI ZQ rm, ZI ZQ rz, ZI ZQ rv, ZI ZQ rf] 45)) := (Below.refl _ _).alloc (Nat.le_refl _) _
 have HX := hide hx
 have HB := hide hba
 clear hx hba
 go_enter Tryz.func130, Tryz.ntmps130
 go_wp2_with fail
 refine (HC.out _).mono ?_
 rintro e1 w1 ⟨rfl, hb⟩
 have hx1 := (hb.block _ HX.out.lt).trans HX.out
 have x0 : w1.cell? ⟨w.heap.size, 0, none⟩ = some (ZI ZQ rl) := Blk.cell (g := w.heap.size) hx1 0
 have x1 : w1.cell? ⟨w.heap.size, 1, none⟩ = some (ZI ZQ rm) := Blk.cell (g := w.heap.size) hx1 1
 have x2 : w1.cell? ⟨w.heap.size, 2, none⟩ = some (ZI ZQ rz) := Blk.cell (g := w.heap.size) hx1 2
 have x3 : w1.cell? ⟨w.heap.size, 3, none⟩ = some (ZI ZQ rv) := Blk.cell (g := w.heap.size) hx1 3
 have x4 : w1.cell? ⟨w.heap.size, 4, none⟩ = some (ZI ZQ rf) := Blk.cell (g := w.heap.size) hx1 4
 go_wp2_with fail
 refine (HG.out _).mono ?_
 rintro e2 w2 ⟨rfl, hb2⟩
 go_wp2_with fail
 go_ret
 exact ⟨by first | rfl | (congr 3; done), bw_below' (bw_below' HB.out hb) hb2⟩
def RFindPost (w : World) (wt acked now : Int) (qs : List PK) (e : Ending) (w' : World) : Prop := ∃ v1 v2, e = .returned (.tuple #[v1, v2, ZI ZQ (atG wt acked now qs), ZI ZQ 0]) ∧ w'.ownsRow w.heap.size 40 6 v1 (qs.filter (lostG wt acked now)).length (pkcs (qs.filter (lostG wt acked now))) ∧ Below w.heap.size w w'
set_option maxRecDepth 100000 in
set_option maxHeartbeats 8000000 in
theorem r09find_ok (a : Option Addr) (n cap : Nat) (qs : List PK) (acked now : Int) (r : RT) (w : World) (hrt : rtC r = true) (hn : qs.length = n) (hl : n ≤ 256) (hP : PksAt w a qs) (ha : ∀ k o, a = some ⟨k, o, none⟩ → k < w.heap.size) (hck : checkL qs = 0) (ht : ∀ q ∈ qs, 0 ≤ q.n ∧ q.n ≤ 9007199254740991 ∧ 0 ≤ q.t ∧ q.t ≤ 9007199254740991)
  (a0 : -1 ≤ acked) (a1 : acked ≤ 9007199254740991) (n0 : 0 ≤ now) (n1 : now ≤ 9007199254740991) :
  Calls Tryz.prog 83 #[.slice a n cap, ZI ZQ acked, ZI ZQ now, rtV r] w (RFindPost w (waitR r) acked now qs) := by
 have HCR := hide (fun W => r07checkq r W hrt)
 have HWT := hide (fun W => r09wait_any r W hrt)
 have hwb := waitR_le r
 obtain ⟨wt, hwt⟩ : ∃ z, waitR r = z := ⟨_, rfl⟩
 rw [hwt] at HWT hwb ⊢
 obtain ⟨wt0, wt1⟩ := hwb
 clear hrt hwt
 obtain ⟨rl, rm, rz, rv, rf⟩ := r
 unfold rtV at HCR HWT ⊢
 dsimp only at HCR HWT ⊢
 have hba : Below w.heap.size w (w.alloc (.cells #[ZI ZQ rl, ZI ZQ rm, ZI ZQ rz, ZI ZQ rv, ZI ZQ rf] 45)) := (Below.refl _ _).alloc (Nat.le_refl _) _
 have hx := Blk.new w 45 #[ZI ZQ rl, ZI ZQ rm, ZI ZQ rz, ZI ZQ rv, ZI ZQ rf]
 have HCK := hide (r09check_any a n cap qs (w.alloc (.cells #[ZI ZQ rl, ZI ZQ rm, ZI ZQ rz, ZI ZQ rv, ZI ZQ rf] 45)) hn (hP.below hba (Nat.le_refl _)) (fun k o e => Nat.lt_of_lt_of_le (ha k o e) hba.size))
 rw [hck] at HCK
 have HN := hide hn
 have HP := hide hP
 have HT := hide ht
 have HB := hide hba
 have HX := hide hx
 have HIT := hide (fun W => r09time_any now W)
 rw [isT_iff.2 ⟨n0, n1⟩] at HIT
 have na0 : ¬ acked < -1 := by omega
 have na1 : ¬ 9007199254740991 < acked := by omega
 obtain ⟨i0, hi0, hz0, hz1, hz2⟩ := info_parts pk_info3
 clear hn hP ha hck ht hba hx
 go_enter Tryz.func83, Tryz.ntmps83
 go_wp2_with fail
 refine HCK.out.mono ?_
 rintro e1 w1 ⟨rfl, hb1⟩
 have hx1 : Blk w1 w.heap.size 45 #[ZI ZQ rl, ZI ZQ rm, ZI ZQ rz, ZI ZQ rv, ZI ZQ rf] := (hb1.block _ HX.out.lt).trans HX.out
 have HB1 := hide (bw_below' HB.out hb1)
 have HX1 := hide hx1
 clear hb1 hx1 HCK HB HX
 go_wp2_with fail
 refine (HIT.out _).mono ?_
 rintro e2 w2 ⟨rfl, rfl⟩
 have x0 := HX1.out.cell 0
 have x1 := HX1.out.cell 1
 have x2 := HX1.out.cell 2
 have x3 := HX1.out.cell 3
 have x4 := HX1.out.cell 4
 go_wp2_with fail
 refine (HCR.out _).mono ?_
 rintro e3 w0 ⟨rfl, hb3⟩
 have hx3 : Blk w0 w.heap.size 45 #[ZI ZQ rl, ZI ZQ rm, ZI ZQ rz, ZI ZQ rv, ZI ZQ rf] := (hb3.block _ HX1.out.lt).trans HX1.out
 have HB3 := hide (bw_below' HB1.out hb3)
 have HX3 := hide hx3
 clear hb3 hx3 HB1 HX1 x0 x1 x2 x3 x4
 go_wp2_with fail
 go_loopg [14, 15, 16, 17] n (fun kx s14 s15 s16 s17 wr => ∃ i : Nat, s17 = ZI ZQ i ∧ i ≤ n ∧ n - i ≤ kx ∧ s16 = ZI ZQ (atG wt acked now (qs.take i)) ∧ FdAt w0 wr s14 s15 ((qs.take i).filter (lostG wt acked now)) ((qs.take i).filter fun q => !lostG wt acked now q))
 case atStart => exact ⟨0, rfl, by omega, by omega, rfl, Below.refl _ _, ⟨rfl, .inl ⟨rfl, rfl⟩⟩, ⟨rfl, .inl ⟨rfl, rfl⟩⟩, fun k hk => by simp [Value.ownBlock] at hk⟩
 case round =>
  obtain ⟨i, rfl, hi, hkx, hs16, hF⟩ := hrel
  obtain ⟨A, hA⟩ : ∃ A, atG wt acked now (qs.take i) = A := ⟨_, rfl⟩
  rw [hA] at hs16
  subst hs16
  have HA := hide hA
  clear hA
  by_cases hlt : i < n
  ·obtain ⟨q, hq⟩ : ∃ q, qs[i]? = some q := ⟨_, List.getElem?_eq_getElem (by rw [HN.out]; exact hlt)⟩
   obtain ⟨t0, t1, t2, t3⟩ := HT.out q (List.mem_of_getElem? hq)
   have hPw := (HP.out.below HB3.out (Nat.le_refl _)).below hF.below (Nat.le_refl _)
   obtain ⟨k, o, rfl, hk, z0, z1, z2, z3, z4, z5⟩ := hPw.cells hq
   have HTK : Hid (qs.take (i + 1) = qs.take i ++ [q]) := by show _ = _; rw [List.take_add_one, hq]; rfl
   have hin : (i : Int) < (n : Int) := by omega
   have hin0 : (0 : Int) ≤ (i : Int) := by omega
   have hln : ((qs.take i).filter (lostG wt acked now)).length ≤ i := Nat.le_trans (List.length_filter_le _ _) (by rw [List.length_take]; omega)
   have hln9 : ((qs.take i).filter fun q => !lostG wt acked now q).length ≤ i := Nat.le_trans (List.length_filter_le _ _) (by rw [List.length_take]; omega)
   have hxr : Blk wr w.heap.size 45 #[ZI ZQ rl, ZI ZQ rm, ZI ZQ rz, ZI ZQ rv, ZI ZQ rf] := (hF.below.block _ HX3.out.lt).trans HX3.out
   have HF := hide hF
   obtain ⟨qn, qt, qz, qe, qf, qc⟩ := q
   dsimp only at z0 z1 z2 z3 z4 z5 t0 t1 t2 t3
   have CC : Hid (∀ W', Below wr.heap.size wr W' → W'.cell? ⟨k, o + i * 6, none⟩ = some (ZI ZQ qn) ∧ W'.cell? ⟨k, o + i * 6 + 1, none⟩ = some (ZI ZQ qt) ∧ W'.cell? ⟨k, o + i * 6 + 2, none⟩ = some (ZI ZQ qz) ∧ W'.cell? ⟨k, o + i * 6 + 3, none⟩ = some (.bool qe) ∧ W'.cell? ⟨k, o + i * 6 + 4, none⟩ = some (.bool qf) ∧ W'.cell? ⟨k, o + i * 6 + 5, none⟩ = some (.bool qc) ∧ W'.cell? ⟨w.heap.size, 0, none⟩ = some (ZI ZQ rl) ∧ W'.cell? ⟨w.heap.size, 1, none⟩ = some (ZI ZQ rm) ∧ W'.cell? ⟨w.heap.size, 2, none⟩ = some (ZI ZQ rz) ∧ W'.cell? ⟨w.heap.size, 3, none⟩ = some (ZI ZQ rv) ∧ W'.cell? ⟨w.heap.size, 4, none⟩ = some (ZI ZQ rf)) := fun W' hb => by
    have hx := (hb.block _ hxr.lt).trans hxr
    exact ⟨(hb.cell (p := ⟨k, _, none⟩) hk).trans z0, (hb.cell (p := ⟨k, _, none⟩) hk).trans z1, (hb.cell (p := ⟨k, _, none⟩) hk).trans z2, (hb.cell (p := ⟨k, _, none⟩) hk).trans z3, (hb.cell (p := ⟨k, _, none⟩) hk).trans z4, (hb.cell (p := ⟨k, _, none⟩) hk).trans z5, Blk.cell (g := w.heap.size) hx 0, Blk.cell (g := w.heap.size) hx 1, Blk.cell (g := w.heap.size) hx 2, Blk.cell (g := w.heap.size) hx 3, Blk.cell (g := w.heap.size) hx 4⟩
   have hw1 : IntKind.i64.wrap (qt + wt) = qt + wt := by rw [IntKind.wrap_i64]; omega
   have hw2 : IntKind.i64.wrap (acked - 3) = acked - 3 := by rw [IntKind.wrap_i64]; omega
   obtain ⟨D, hD⟩ : ∃ D, (if 9007199254740991 < qt + wt then 9007199254740991 else qt + wt) = D := ⟨_, rfl⟩
   have HDU : Hid (dueG wt ⟨qn, qt, qz, qe, qf, qc⟩ = D) := hD
   have HDM : Hid ((if 9007199254740991 < qt + wt then 9007199254740991 else qt + wt) = D) := hD
   have CD : Hid (∀ W', Below w0.heap.size w0 W' → W'.cell? ⟨k, o + i * 6, none⟩ = some (ZI ZQ qn)) := fun W' hb => by
    have hPw := (HP.out.below HB3.out (Nat.le_refl _)).below hb (Nat.le_refl _)
    obtain ⟨k', o', e, _, y0, _⟩ := hPw.cells hq
    cases e
    exact y0
   clear hPw hF hq hxr z0 z1 z2 z3 z4 z5 hk
   ·go_upto_region 14 with (fail)
    refine wp_region_held_drew (S := (fun w' => Below wr.heap.size wr w')) (by kernel_rfl) (by exact (Below.refl _ _).drew) (fun hHeld => ?_)
    refine tkP 0 ?_ rfl ?_ ?_
    rotate_left
    ·intro w' hSw; (try dsimp only at hSw); go_simp; try with_reducible rfl
    try simp only [ZP, ZA, ZB, ZC, ZD, ZE, ZF]
    refine tkP 1 ?_ rfl ?_ ?_
    rotate_left
    ·intro w' hSw; (try dsimp only at hSw); go_simp; try with_reducible rfl
    try simp only [ZP, ZA, ZB, ZC, ZD, ZE, ZF]
    refine tkP 2 ?_ rfl ?_ ?_
    rotate_left
    ·intro w' hSw; (try dsimp only at hSw); go_simp; try with_reducible rfl
    try simp only [ZP, ZA, ZB, ZC, ZD, ZE, ZF]
    refine tkP 3 ?_ rfl ?_ ?_
    rotate_left
    ·intro w' hSw; (try dsimp only at hSw); go_simp; try with_reducible rfl
    try simp only [ZP, ZA, ZB, ZC, ZD, ZE, ZF]
    refine tkP 4 ?_ rfl ?_ ?_
    rotate_left
    ·intro w' hSw; (try dsimp only at hSw); obtain ⟨z0, z1, z2, z3, z4, z5, x0, x1, x2, x3, x4⟩ := CC.out _ hSw; go_simp; try with_reducible rfl
    try simp only [ZP, ZA, ZB, ZC, ZD, ZE, ZF]
    refine tkP 5 ?_ rfl ?_ ?_
    rotate_left
    ·intro w' hSw; (try dsimp only at hSw); obtain ⟨z0, z1, z2, z3, z4, z5, x0, x1, x2, x3, x4⟩ := CC.out _ hSw; go_simp; try with_reducible rfl
    try simp only [ZP, ZA, ZB, ZC, ZD, ZE, ZF]
    refine tkR [6] ?_
    refine ZS rfl (fun K hK => ?_) ZN
    go_simp; go_at_call 130; refine (HWT.out _).mono ?_; rintro e6 w6 ⟨rfl, hb6⟩
    have HB6 := hide (hHeld.trans (hb6.mono hHeld.size))
    clear hb6 hHeld
    refine hK.out _ _ (HB6.out) (fun hHeld => ?_)
    clear hK K
    try simp only [ZP, ZA, ZB, ZC, ZD, ZE, ZF]
    refine tkP 7 ?_ rfl ?_ ?_
    rotate_left
    ·intro w' hSw; (try dsimp only at hSw); go_simp; try with_reducible rfl
    try simp only [ZP, ZA, ZB, ZC, ZD, ZE, ZF]
    refine tkP 8 ?_ rfl ?_ ?_
    rotate_left
    ·intro w' hSw; (try dsimp only at hSw); go_simp; try with_reducible rfl
    try simp only [ZP, ZA, ZB, ZC, ZD, ZE, ZF]
    refine wpAnyH_done (by kernel_rfl) ?_ _
    clear hHeld
    obtain ⟨wd, hwd⟩ : ∃ y, w6 = y := ⟨_, rfl⟩
    rw [hwd] at HB6 ⊢
    clear hwd
    have hF := HF.out.later HB6.out
    obtain ⟨z0, z1, z2, z3, z4, z5, x0, x1, x2, x3, x4⟩ := CC.out _ HB6.out
    have HF := hide hF
    have hs0 : w0.heap.size ≤ wd.heap.size := hF.below.size
    clear hF
    by_cases hm : qn ≤ acked
    ·cases hlb : lostB acked now wt (⟨qn, qt, qz, qe, qf, qc⟩ : PK) with
     | true =>
      have HYL : Hid (lostG wt acked now (⟨qn, qt, qz, qe, qf, qc⟩ : PK) = true) := by show _ = _; unfold lostG; rw [hlb, decide_eq_true hm]; rfl
      have hor : qn ≤ acked - 3 ∨ (¬ qn ≤ acked - 3 ∧ qt + wt ≤ now) := by
       unfold lostB at hlb
       simp only [Bool.or_eq_true, decide_eq_true_iff] at hlb
       omega
      obtain ⟨A8, c8, hv8⟩ := own_slice' HF.out.own8
      subst hv8
      obtain ⟨M, hM⟩ : ∃ M, ((qs.take i).filter (lostG wt acked now)).length = M := ⟨_, rfl⟩
      obtain ⟨xs, hxs⟩ : ∃ xs, pkcs ((qs.take i).filter (lostG wt acked now)) = xs := ⟨_, rfl⟩
      have hown := HF.out.own8
      rw [hM, hxs] at hown
      rw [hM] at hln
      have HOW := hide hown
      have HM := hide hM
      have HXS := hide hxs
      rw [hM]
      clear hown hM hxs
      clear hlb
      rcases hor with ho | ⟨ho, ho2⟩
      all_goals
       go_wp2_with (at_builtin; refine wpList_append_any _ rfl (.tmp 76) (.tmp 81) _ rfl w0.heap.size 40 i0 _ 6 32 Tryz.underlying37 hi0 hz0 hz1 hz2 rfl (by decide) (.slice A8 M c8) M xs rfl (by exact HOW.out.alloc _) (wd.heap.size + 1) (some ⟨wd.heap.size, 0, none⟩) 1 1 [ZI ZQ qn, ZI ZQ qt, ZI ZQ qz, .bool qe, .bool qf, .bool qc] rfl (by exact reads_lit (blk_new_at (by simp)) (by simp) rfl) (by simp [Value.oneCell']) (by unfold maxLen; omega) (by omega) (by simp; omega) ?_; intro v5 w5 hown5 hg5 hat5)
       go_roundg (n - (i + 1))
       case rel =>
        refine ⟨i + 1, by go_num, by omega, by omega, by rw [HTK.out, atG_snoc, HYL.out, HA.out]; rfl, ?_⟩
        rw [HTK.out, filt_yes _ _ _ HYL.out, filt_no _ _ _ (by simp [HYL.out])]
        exact FdAt.push8 (out' := ((qs.take i).filter (lostG wt acked now)) ++ [(⟨qn, qt, qz, qe, qf, qc⟩ : PK)]) (by have h := HF.out.later ((Below.refl _ _).alloc (Nat.le_refl _) (.cells #[ZI ZQ qn, ZI ZQ qt, ZI ZQ qz, .bool qe, .bool qf, .bool qc] 40)); rw [HM.out] at h; exact h) hg5 hat5 (by rw [show (((qs.take i).filter (lostG wt acked now)) ++ [(⟨qn, qt, qz, qe, qf, qc⟩ : PK)]).length = M + 1 by simp; exact HM.out, pkcs_snoc, HXS.out]; exact hown5)
       case measure => omega
     | false =>
      have HNL : Hid (lostG wt acked now (⟨qn, qt, qz, qe, qf, qc⟩ : PK) = false) := by show _ = _; unfold lostG; rw [hlb, Bool.and_false]
      have ho : ¬ qn ≤ acked - 3 ∧ ¬ qt + wt ≤ now := by
       unfold lostB at hlb
       simp only [Bool.or_eq_false_iff, decide_eq_false_iff_not] at hlb
       omega
      obtain ⟨ho1, ho2⟩ := ho
      obtain ⟨A8, c8, hv8⟩ := own_slice' HF.out.own9
      subst hv8
      obtain ⟨M, hM⟩ : ∃ M, ((qs.take i).filter (fun q => !lostG wt acked now q)).length = M := ⟨_, rfl⟩
      obtain ⟨xs, hxs⟩ : ∃ xs, pkcs ((qs.take i).filter (fun q => !lostG wt acked now q)) = xs := ⟨_, rfl⟩
      have hown := HF.out.own9
      rw [hM, hxs] at hown
      rw [hM] at hln9
      have HOW := hide hown
      have HM := hide hM
      have HXS := hide hxs
      rw [hM]
      clear hown hM hxs
      clear hlb
      by_cases ha1 : A = -1
      ·have hab : (A == -1) = true := by simpa using ha1
       have HST : Hid (qn ≤ acked ∧ (A = -1 ∨ D < A)) := ⟨hm, .inl ha1⟩
       have HA1 := hide ha1
       clear ha1
       go_upto_region 18 with (at_builtin; refine wpList_append_any _ rfl (.tmp 83) (.tmp 88) _ rfl w0.heap.size 40 i0 _ 6 32 Tryz.underlying37 hi0 hz0 hz1 hz2 rfl (by decide) (.slice A8 M c8) M xs rfl (by exact HOW.out.alloc _) (wd.heap.size + 1) (some ⟨wd.heap.size, 0, none⟩) 1 1 [ZI ZQ qn, ZI ZQ qt, ZI ZQ qz, .bool qe, .bool qf, .bool qc] rfl (by exact reads_lit (blk_new_at (by simp)) (by simp) rfl) (by simp [Value.oneCell']) (by unfold maxLen; omega) (by omega) (by simp; omega) ?_; intro v5 w5 hown5 hg5 hat5)
       have hF5 : FdAt w0 w5 _ v5 ((qs.take i).filter (lostG wt acked now)) (((qs.take i).filter fun q => !lostG wt acked now q) ++ [(⟨qn, qt, qz, qe, qf, qc⟩ : PK)]) := FdAt.push9 (by have h := HF.out.later ((Below.refl _ _).alloc (Nat.le_refl _) (.cells #[ZI ZQ qn, ZI ZQ qt, ZI ZQ qz, .bool qe, .bool qf, .bool qc] 40)); rw [HM.out] at h; exact h) hg5 hat5 (by rw [show (((qs.take i).filter fun q => !lostG wt acked now q) ++ [(⟨qn, qt, qz, qe, qf, qc⟩ : PK)]).length = M + 1 by simp; exact HM.out, pkcs_snoc, HXS.out]; exact hown5)
       have z0 := CD.out _ hF5.below
       have HF5 := hide hF5
       have hDM : (if 9007199254740991 < qt + wt then 9007199254740991 else qt + wt) = D := HDM.out
       clear hF5 hg5 hat5 hown5
       go_wp2_with fail
       go_roundg (n - (i + 1))
       case rel =>
        refine ⟨i + 1, by go_num, by omega, by omega, by rw [HTK.out, atG_snoc, HNL.out, HA.out, HDU.out]; rw [if_neg (by simp), if_pos HST.out], ?_⟩
        rw [HTK.out, filt_no _ _ _ HNL.out, filt_yes _ _ _ (by simp [HNL.out])]
        exact HF5.out
       case measure => omega
      ·have hab : (A == -1) = false := by simpa using ha1
       by_cases ha2 : D < A
       ·have HST : Hid (qn ≤ acked ∧ (A = -1 ∨ D < A)) := ⟨hm, .inr ha2⟩
        go_upto_region 18 with (at_builtin; refine wpList_append_any _ rfl (.tmp 83) (.tmp 88) _ rfl w0.heap.size 40 i0 _ 6 32 Tryz.underlying37 hi0 hz0 hz1 hz2 rfl (by decide) (.slice A8 M c8) M xs rfl (by exact HOW.out.alloc _) (wd.heap.size + 1) (some ⟨wd.heap.size, 0, none⟩) 1 1 [ZI ZQ qn, ZI ZQ qt, ZI ZQ qz, .bool qe, .bool qf, .bool qc] rfl (by exact reads_lit (blk_new_at (by simp)) (by simp) rfl) (by simp [Value.oneCell']) (by unfold maxLen; omega) (by omega) (by simp; omega) ?_; intro v5 w5 hown5 hg5 hat5)
        have hF5 : FdAt w0 w5 _ v5 ((qs.take i).filter (lostG wt acked now)) (((qs.take i).filter fun q => !lostG wt acked now q) ++ [(⟨qn, qt, qz, qe, qf, qc⟩ : PK)]) := FdAt.push9 (by have h := HF.out.later ((Below.refl _ _).alloc (Nat.le_refl _) (.cells #[ZI ZQ qn, ZI ZQ qt, ZI ZQ qz, .bool qe, .bool qf, .bool qc] 40)); rw [HM.out] at h; exact h) hg5 hat5 (by rw [show (((qs.take i).filter fun q => !lostG wt acked now q) ++ [(⟨qn, qt, qz, qe, qf, qc⟩ : PK)]).length = M + 1 by simp; exact HM.out, pkcs_snoc, HXS.out]; exact hown5)
        have z0 := CD.out _ hF5.below
        have HF5 := hide hF5
        have hDM : (if 9007199254740991 < qt + wt then 9007199254740991 else qt + wt) = D := HDM.out
        clear hF5 hg5 hat5 hown5
        go_wp2_with fail
        go_roundg (n - (i + 1))
        case rel =>
         refine ⟨i + 1, by go_num, by omega, by omega, by rw [HTK.out, atG_snoc, HNL.out, HA.out, HDU.out]; rw [if_neg (by simp), if_pos HST.out], ?_⟩
         rw [HTK.out, filt_no _ _ _ HNL.out, filt_yes _ _ _ (by simp [HNL.out])]
         exact HF5.out
        case measure => omega
       ·have HST : Hid (¬ (qn ≤ acked ∧ (A = -1 ∨ D < A))) := fun h => by omega
        go_upto_region 18 with (at_builtin; refine wpList_append_any _ rfl (.tmp 83) (.tmp 88) _ rfl w0.heap.size 40 i0 _ 6 32 Tryz.underlying37 hi0 hz0 hz1 hz2 rfl (by decide) (.slice A8 M c8) M xs rfl (by exact HOW.out.alloc _) (wd.heap.size + 1) (some ⟨wd.heap.size, 0, none⟩) 1 1 [ZI ZQ qn, ZI ZQ qt, ZI ZQ qz, .bool qe, .bool qf, .bool qc] rfl (by exact reads_lit (blk_new_at (by simp)) (by simp) rfl) (by simp [Value.oneCell']) (by unfold maxLen; omega) (by omega) (by simp; omega) ?_; intro v5 w5 hown5 hg5 hat5)
        have hF5 : FdAt w0 w5 _ v5 ((qs.take i).filter (lostG wt acked now)) (((qs.take i).filter fun q => !lostG wt acked now q) ++ [(⟨qn, qt, qz, qe, qf, qc⟩ : PK)]) := FdAt.push9 (by have h := HF.out.later ((Below.refl _ _).alloc (Nat.le_refl _) (.cells #[ZI ZQ qn, ZI ZQ qt, ZI ZQ qz, .bool qe, .bool qf, .bool qc] 40)); rw [HM.out] at h; exact h) hg5 hat5 (by rw [show (((qs.take i).filter fun q => !lostG wt acked now q) ++ [(⟨qn, qt, qz, qe, qf, qc⟩ : PK)]).length = M + 1 by simp; exact HM.out, pkcs_snoc, HXS.out]; exact hown5)
        have z0 := CD.out _ hF5.below
        have HF5 := hide hF5
        have hDM : (if 9007199254740991 < qt + wt then 9007199254740991 else qt + wt) = D := HDM.out
        clear hF5 hg5 hat5 hown5
        go_wp2_with fail
        go_roundg (n - (i + 1))
        case rel =>
         refine ⟨i + 1, by go_num, by omega, by omega, by rw [HTK.out, atG_snoc, HNL.out, HA.out, HDU.out]; rw [if_neg (by simp), if_neg HST.out], ?_⟩
         rw [HTK.out, filt_no _ _ _ HNL.out, filt_yes _ _ _ (by simp [HNL.out])]
         exact HF5.out
        case measure => omega
    ·have HNL : Hid (lostG wt acked now (⟨qn, qt, qz, qe, qf, qc⟩ : PK) = false) := by show _ = _; unfold lostG; rw [decide_eq_false hm]; rfl
     have HST : Hid (¬ (qn ≤ acked ∧ (A = -1 ∨ D < A))) := fun h => hm h.1
     obtain ⟨A8, c8, hv8⟩ := own_slice' HF.out.own9
     subst hv8
     obtain ⟨M, hM⟩ : ∃ M, ((qs.take i).filter (fun q => !lostG wt acked now q)).length = M := ⟨_, rfl⟩
     obtain ⟨xs, hxs⟩ : ∃ xs, pkcs ((qs.take i).filter (fun q => !lostG wt acked now q)) = xs := ⟨_, rfl⟩
     have hown := HF.out.own9
     rw [hM, hxs] at hown
     rw [hM] at hln9
     have HOW := hide hown
     have HM := hide hM
     have HXS := hide hxs
     rw [hM]
     clear hown hM hxs
     go_upto_region 18 with (at_builtin; refine wpList_append_any _ rfl (.tmp 83) (.tmp 88) _ rfl w0.heap.size 40 i0 _ 6 32 Tryz.underlying37 hi0 hz0 hz1 hz2 rfl (by decide) (.slice A8 M c8) M xs rfl (by exact HOW.out.alloc _) (wd.heap.size + 1) (some ⟨wd.heap.size, 0, none⟩) 1 1 [ZI ZQ qn, ZI ZQ qt, ZI ZQ qz, .bool qe, .bool qf, .bool qc] rfl (by exact reads_lit (blk_new_at (by simp)) (by simp) rfl) (by simp [Value.oneCell']) (by unfold maxLen; omega) (by omega) (by simp; omega) ?_; intro v5 w5 hown5 hg5 hat5)
     have hF5 : FdAt w0 w5 _ v5 ((qs.take i).filter (lostG wt acked now)) (((qs.take i).filter fun q => !lostG wt acked now q) ++ [(⟨qn, qt, qz, qe, qf, qc⟩ : PK)]) := FdAt.push9 (by have h := HF.out.later ((Below.refl _ _).alloc (Nat.le_refl _) (.cells #[ZI ZQ qn, ZI ZQ qt, ZI ZQ qz, .bool qe, .bool qf, .bool qc] 40)); rw [HM.out] at h; exact h) hg5 hat5 (by rw [show (((qs.take i).filter fun q => !lostG wt acked now q) ++ [(⟨qn, qt, qz, qe, qf, qc⟩ : PK)]).length = M + 1 by simp; exact HM.out, pkcs_snoc, HXS.out]; exact hown5)
     have z0 := CD.out _ hF5.below
     have HF5 := hide hF5
     have hDM : (if 9007199254740991 < qt + wt then 9007199254740991 else qt + wt) = D := HDM.out
     clear hF5 hg5 hat5 hown5
     go_wp2_with fail
     go_roundg (n - (i + 1))
     case rel =>
      refine ⟨i + 1, by go_num, by omega, by omega, by rw [HTK.out, atG_snoc, HNL.out, HA.out, HDU.out]; rw [if_neg (by simp), if_neg HST.out], ?_⟩
      rw [HTK.out, filt_no _ _ _ HNL.out, filt_yes _ _ _ (by simp [HNL.out])]
      exact HF5.out
     case measure => omega
  ·obtain rfl : i = n := by omega
   have hin : ¬ (i : Int) < (i : Int) := by omega
   rw [List.take_of_length_le (by rw [HN.out]; exact Nat.le_refl _)] at hF HA
   have HF := hide hF
   clear hF
   go_wp2_with fail
   rw [← HA.out]
   exact bodyPost_ret (v := .tuple #[u14, u15, ZI ZQ (atG wt acked now qs), ZI ZQ 0]) (by simp [results, Tryz.results83, go_sem]) rfl ⟨_, _, rfl, own_lower HF.out.own8 HB3.out.size, bw_below' HB3.out HF.out.below⟩
end Go.Proofs.YtgicljeedegncaaGreat
