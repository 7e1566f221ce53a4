/-
 JudgeLooks, the calls of JudgeKnown: 2 texts in one (JrLooks, JrKnownA).
-/
import Derived.Test.YtidfngcclbhoaaaMjPlain
import Derived.Deep.RegionHeld3
namespace Go.Proofs.Ytidfngcclbhoaaa
open List renaming getElem_toArray → ZA, getElem_cons_zero → ZB, getElem_cons_succ → ZC, setIfInBounds_toArray → ZD, set_cons_zero → ZE, set_cons_succ → ZF, getElem?_toArray → ZG, getElem?_cons_zero → ZH, getElem?_cons_succ → ZJ
open Go.AllReadyH renaming cons → ZS, nil → ZN
open Go.Act renaming put → ZP
open Go.Value renaming int → ZI
open Go.IntKind renaming i64 → ZQ
set_option linter.unusedSimpArgs false
set_option linter.unusedVariables false
open Go.RowKit Go.Shelf
set_option maxRecDepth 100000 in
set_option maxHeartbeats 8000000 in
theorem looks_law (c : CF) (A : Option Addr) (n cap : Nat) (l : List RR) (rule : Int) (w : World) (hc : errC c = 0) (hn : l.length = n) (hl : n ≤ 199) (hL : LieAt rrL 20 w w.heap.size A l)
  (hE : ∀ x ∈ l, LieAt evL 4 w w.heap.size x.r.ea x.es ∧ LieAt rgL 2 w w.heap.size x.r.ra x.rs) (hs : ∀ x ∈ l, (x.r.en ≤ 20 ∧ x.r.en ≤ x.r.ec) ∧ (x.r.rn ≤ 20 ∧ x.r.rn ≤ x.r.rc)) (hB : listB true (K0 c 3) l = true) :
  Calls Try.prog 11 #[.agg (confC c), .slice A n cap, ZI ZQ rule] w fun e w' => e = .returned (.bool true) ∧ Below w.heap.size w w' := by
 have HL := hide hL
 have HN := hide hn
 have HSH := hide hs
 have HLK := hide (fun A' n' cap' W (hL' : LieAt rrL 20 W W.heap.size A' l) (hn' : l.length = n') (h3 : n' ≤ 199) (hb : Below w.heap.size w W) => look_list true c hc A' n' cap' l W hn' (by omega) hL' (fun x hx => ⟨((hE x hx).1.later hb).up hb.size, ((hE x hx).2.later hb).up hb.size⟩) hB)
 have HRK := hide (fun A' n' cap' W (hL' : LieAt rrL 20 W W.heap.size A' l) (hn' : l.length = n') (h3 : n' ≤ 199) (hb : Below w.heap.size w W) => rlook_list c hc A' n' cap' l W hn' (by omega) hL' (fun x hx => ⟨((hE x hx).1.later hb).up hb.size, ((hE x hx).2.later hb).up hb.size⟩) hB)
 have HOA := hide (fun A' n' cap' W (hL' : LieAt rrL 20 W W.heap.size A' l) (hn' : l.length = n') (h3 : n' ≤ 199) => own_any A' n' cap' l W hn' (by omega) hL')
 obtain ⟨res, hres⟩ : ∃ x, lookP rowG (K0 c 3) l 0 = x := ⟨_, rfl⟩
 rw [hres] at HLK HRK
 have HN1 := hide (fun m W => name_any m W)
 have HN2 := hide (fun m W => rname_any m W)
 have HWK := hide (fun W => works_any W)
 clear hL hn hs hres hB hE hc
 obtain ⟨sv, d, first, most, rtt, cdelay, ex, burst, room, backs⟩ := c
 unfold confC at HLK HRK ⊢
 go_enter Try.func11, Try.ntmps11
 go_upto_region 1 with (fail)
 have hcb := Blk.new w 24 #[.bool sv, ZI ZQ d, ZI ZQ first, ZI ZQ most, ZI ZQ rtt, ZI ZQ cdelay, ZI ZQ ex, ZI ZQ burst, ZI ZQ room, ZI ZQ backs]
 have hb0 : Below w.heap.size w (w.alloc (.cells #[.bool sv, ZI ZQ d, ZI ZQ first, ZI ZQ most, ZI ZQ rtt, ZI ZQ cdelay, ZI ZQ ex, ZI ZQ burst, ZI ZQ room, ZI ZQ backs] 24)) := (Below.refl _ _).alloc (Nat.le_refl _) _
 obtain ⟨W1, hW1⟩ : ∃ x, w.alloc (.cells #[.bool sv, ZI ZQ d, ZI ZQ first, ZI ZQ most, ZI ZQ rtt, ZI ZQ cdelay, ZI ZQ ex, ZI ZQ burst, ZI ZQ room, ZI ZQ backs] 24) = x := ⟨_, rfl⟩
 obtain ⟨B, hBq⟩ : ∃ x, w.heap.size = x := ⟨_, rfl⟩
 rw [hW1] at hcb hb0
 rw [hBq] at hcb hb0 HL HLK HRK
 rw [hW1, hBq]
 have HCB := hide hcb
 have HB0 := hide hb0
 have HBQ := hide hBq
 clear hW1 hcb hb0 hBq
 go_wp2_with fail
 go_loopg [7, 8, 9] n (fun kx s7 s8 s9 wr => ∃ (i : Nat) (A' : Option Addr) (c' : Nat), s7 = .slice A' i c' ∧ s8 = ZI ZQ i ∧ i ≤ n ∧ n - i ≤ kx ∧ wr.ownsRow B 36 20 (.slice A' i c') i ((l.take i).flatMap rrL) ∧ Blk wr B 24 #[.bool sv, ZI ZQ d, ZI ZQ first, ZI ZQ most, ZI ZQ rtt, ZI ZQ cdelay, ZI ZQ ex, ZI ZQ burst, ZI ZQ room, ZI ZQ backs] ∧ Below B w wr)
 case atStart => exact ⟨0, none, 0, rfl, rfl, by omega, by omega, own_nil _ _ _ _, HCB.out, HB0.out⟩
 case round =>
  clear HCB HB0
  obtain ⟨i, A', c', rfl, rfl, hi, hkx, hown, hcb, hbw⟩ := hrel
  by_cases hlt : i < n
  ·have hir : i < l.length := by rw [HN.out]; exact hlt
   obtain ⟨x, hx⟩ : ∃ x, l[i]? = some x := ⟨_, List.getElem?_eq_getElem hir⟩
   obtain ⟨g, o, rfl, hg, hz⟩ := (HL.out.later hbw).at hx
   have HC := hide (hc_row hz)
   have HTK := hide (take_next hx)
   have hin : (i : Int) < (n : Int) := by omega
   have hin2 : (i : Int) < 200 := by omega
   have HA := hide (Blk.new wr 36 #[ZI ZQ 0, ZI ZQ 0, ZI ZQ 0, ZI ZQ 0, ZI ZQ 0, ZI ZQ 0, ZI ZQ 0, .bool false, .bool false, .bool false, .bool false, ZI ZQ 0, .slice none 0 0, .bool false, ZI ZQ 0, ZI ZQ 0, ZI ZQ 0, .slice none 0 0, ZI ZQ 0, ZI ZQ 0])
   have HONE := hide (show (rwC x.r).all (·.oneCell') = true by simp [rwC, Value.oneCell'])
   have hsh := HSH.out x (List.mem_of_getElem? hx)
   obtain ⟨xs, hxs⟩ : ∃ z, (l.take i).flatMap rrL = z := ⟨_, rfl⟩
   rw [hxs] at hown HTK
   have HOWN := hide hown
   have HCB := hide hcb
   have HBW := hide hbw
   obtain ⟨i0, hi0, hz0, hz1, hz2⟩ := info_parts jrow_info
   clear hx hir hz hown hbw hxs hcb
   obtain ⟨⟨kind, rt, rsp, rsize, ⟨osp, onum, osize, oel, ofl, opr, oect⟩, delay, ra, rn, rc, marked, e0, e1, e2, ea, en, ec, err, smooth⟩, es, rs⟩ := x
   simp only at hsh
   obtain ⟨⟨en20, enc⟩, rn20, rnc⟩ := hsh
   have hm1 : min (en : Int) 20 = (en : Int) := by omega
   have hm2 : min (rn : Int) 20 = (rn : Int) := by omega
   go_upto_region 6 with (first
    | (refine wpList_load_at rfl 36 (.tmp 27) rfl ⟨g, o + i * 20, none⟩ rfl (rwC ⟨kind, rt, rsp, rsize, ⟨osp, onum, osize, oel, ofl, opr, oect⟩, delay, ra, rn, rc, marked, e0, e1, e2, ea, en, ec, err, smooth⟩) _ HC.out Try.underlying36 rfl row_size ?_)
    | (refine wpList_store_row rfl 36 (.tmp 9) (.tmp 28) rfl wr.heap.size (rwC ⟨kind, rt, rsp, rsize, ⟨osp, onum, osize, oel, ofl, opr, oect⟩, delay, ra, rn, rc, marked, e0, e1, e2, ea, en, ec, err, smooth⟩) rfl rfl 36 #[ZI ZQ 0, ZI ZQ 0, ZI ZQ 0, ZI ZQ 0, ZI ZQ 0, ZI ZQ 0, ZI ZQ 0, .bool false, .bool false, .bool false, .bool false, ZI ZQ 0, .slice none 0 0, .bool false, ZI ZQ 0, ZI ZQ 0, ZI ZQ 0, .slice none 0 0, ZI ZQ 0, ZI ZQ 0] HA.out row_size rfl HONE.out ?_))
   have hb4 : Below wr.heap.size wr ((wr.alloc (.cells #[ZI ZQ 0, ZI ZQ 0, ZI ZQ 0, ZI ZQ 0, ZI ZQ 0, ZI ZQ 0, ZI ZQ 0, .bool false, .bool false, .bool false, .bool false, ZI ZQ 0, .slice none 0 0, .bool false, ZI ZQ 0, ZI ZQ 0, ZI ZQ 0, .slice none 0 0, ZI ZQ 0, ZI ZQ 0] 36)).setRow wr.heap.size (rwC ⟨kind, rt, rsp, rsize, ⟨osp, onum, osize, oel, ofl, opr, oect⟩, delay, ra, rn, rc, marked, e0, e1, e2, ea, en, ec, err, smooth⟩)) := row_new wr _ _ _
   have hxr4 : Blk ((wr.alloc (.cells #[ZI ZQ 0, ZI ZQ 0, ZI ZQ 0, ZI ZQ 0, ZI ZQ 0, ZI ZQ 0, ZI ZQ 0, .bool false, .bool false, .bool false, .bool false, ZI ZQ 0, .slice none 0 0, .bool false, ZI ZQ 0, ZI ZQ 0, ZI ZQ 0, .slice none 0 0, ZI ZQ 0, ZI ZQ 0] 36)).setRow wr.heap.size (rwC ⟨kind, rt, rsp, rsize, ⟨osp, onum, osize, oel, ofl, opr, oect⟩, delay, ra, rn, rc, marked, e0, e1, e2, ea, en, ec, err, smooth⟩)) wr.heap.size 36 (rwC ⟨kind, rt, rsp, rsize, ⟨osp, onum, osize, oel, ofl, opr, oect⟩, delay, ra, rn, rc, marked, e0, e1, e2, ea, en, ec, err, smooth⟩) := blk_setRow HA.out
   have ho := own_below HOWN.out hb4
   have hcb4 : Blk ((wr.alloc (.cells #[ZI ZQ 0, ZI ZQ 0, ZI ZQ 0, ZI ZQ 0, ZI ZQ 0, ZI ZQ 0, ZI ZQ 0, .bool false, .bool false, .bool false, .bool false, ZI ZQ 0, .slice none 0 0, .bool false, ZI ZQ 0, ZI ZQ 0, ZI ZQ 0, .slice none 0 0, ZI ZQ 0, ZI ZQ 0] 36)).setRow wr.heap.size (rwC ⟨kind, rt, rsp, rsize, ⟨osp, onum, osize, oel, ofl, opr, oect⟩, delay, ra, rn, rc, marked, e0, e1, e2, ea, en, ec, err, smooth⟩)) B 24 #[.bool sv, ZI ZQ d, ZI ZQ first, ZI ZQ most, ZI ZQ rtt, ZI ZQ cdelay, ZI ZQ ex, ZI ZQ burst, ZI ZQ room, ZI ZQ backs] := (hb4.block _ HCB.out.lt).trans HCB.out
   have hXB : B ≤ wr.heap.size := by have := HBW.out.size; have := HBQ.out; omega
   have hbw4 := HBW.out.trans (hb4.mono hXB)
   have hXne : some wr.heap.size ≠ (Value.slice A' i c').ownBlock := own_old HOWN.out (Nat.le_refl _)
   have hXc : wr.heap.size ≠ B := by have := HCB.out.lt; omega
   obtain ⟨W4, hW4⟩ : ∃ y, (wr.alloc (.cells #[ZI ZQ 0, ZI ZQ 0, ZI ZQ 0, ZI ZQ 0, ZI ZQ 0, ZI ZQ 0, ZI ZQ 0, .bool false, .bool false, .bool false, .bool false, ZI ZQ 0, .slice none 0 0, .bool false, ZI ZQ 0, ZI ZQ 0, ZI ZQ 0, .slice none 0 0, ZI ZQ 0, ZI ZQ 0] 36)).setRow wr.heap.size (rwC ⟨kind, rt, rsp, rsize, ⟨osp, onum, osize, oel, ofl, opr, oect⟩, delay, ra, rn, rc, marked, e0, e1, e2, ea, en, ec, err, smooth⟩) = y := ⟨_, rfl⟩
   obtain ⟨X, hX⟩ : ∃ y, wr.heap.size = y := ⟨_, rfl⟩
   rw [hW4] at hxr4 ho hbw4 hcb4
   rw [hX] at hxr4 hXB hXne hXc
   rw [hW4, hX]
   have r12 := hxr4.cell 12
   have r17 := hxr4.cell 17
   have f12 := hxr4.frozen 12
   have f17 := hxr4.frozen 17
   simp only [rwC, ZG, ZH, ZJ] at r12 r17
   have HX4 := hide hxr4
   have HO4 := hide ho
   have HC4 := hide hcb4
   have HB4 := hide hbw4
   clear hW4 hX hb4 HA HC HONE hxr4 HOWN HBW HCB ho hcb4 hbw4
   go_upto_region 8 with (fail)
   have hx5 : Blk ((W4.setCell ⟨X, 17, none⟩ (.slice ea en ec)).setCell ⟨X, 12, none⟩ (.slice ra rn rc)) X 36 (rwC ⟨kind, rt, rsp, rsize, ⟨osp, onum, osize, oel, ofl, opr, oect⟩, delay, ra, rn, rc, marked, e0, e1, e2, ea, en, ec, err, smooth⟩) := ((HX4.out.set 17 (.slice ea en ec)).set 12 (.slice ra rn rc)).eq rfl
   have ho5 := own_far (p := ⟨X, 12, none⟩) (own_far (p := ⟨X, 17, none⟩) HO4.out hXne (.slice ea en ec)) hXne (.slice ra rn rc)
   have hcb5 := ((show Blk W4 B 24 #[.bool sv, ZI ZQ d, ZI ZQ first, ZI ZQ most, ZI ZQ rtt, ZI ZQ cdelay, ZI ZQ ex, ZI ZQ burst, ZI ZQ room, ZI ZQ backs] from HC4.out).far (p := ⟨X, 17, none⟩) (by exact Ne.symm hXc) (.slice ea en ec)).far (p := ⟨X, 12, none⟩) (by exact Ne.symm hXc) (.slice ra rn rc)
   have hb5 := (HB4.out.setCell (p := ⟨X, 17, none⟩) hXB (.slice ea en ec)).setCell (p := ⟨X, 12, none⟩) hXB (.slice ra rn rc)
   obtain ⟨W5, hW5⟩ : ∃ y, (W4.setCell ⟨X, 17, none⟩ (.slice ea en ec)).setCell ⟨X, 12, none⟩ (.slice ra rn rc) = y := ⟨_, rfl⟩
   rw [hW5] at hx5 ho5 hcb5 hb5
   rw [hW5]
   have ho := ho5
   have HX5 := hide hx5
   have HC5 := hide hcb5
   have HB5 := hide hb5
   have hz5 : B ≤ W5.heap.size := by have := hb5.size; have := HBQ.out; omega
   clear hW5 hx5 ho5 hcb5 hb5 HX4 HO4 HC4 HB4 r12 r17 f12 f17
   go_wp2_with (first
    | (refine wpList_load_row rfl 36 (.tmp 9) rfl X rfl 36 #[ZI ZQ kind, ZI ZQ rt, ZI ZQ rsp, ZI ZQ rsize, ZI ZQ osp, ZI ZQ onum, ZI ZQ osize, .bool oel, .bool ofl, .bool opr, .bool oect, ZI ZQ delay, .slice ra rn rc, .bool marked, ZI ZQ e0, ZI ZQ e1, ZI ZQ e2, .slice ea en ec, ZI ZQ err, ZI ZQ smooth] (0, 0) _ HX5.out Try.underlying36 rfl row_size ?_)
    | (at_builtin; refine wpList_append_any _ rfl (.tmp 48) (.tmp 50) _ rfl B 36 i0 _ 20 168 Try.underlying26 hi0 hz0 hz1 hz2 rfl (by decide) (.slice A' i c') i xs rfl (by exact ho.alloc _) (W5.heap.size + 1) (some ⟨W5.heap.size, 0, none⟩) 1 1 [ZI ZQ kind, ZI ZQ rt, ZI ZQ rsp, ZI ZQ rsize, ZI ZQ osp, ZI ZQ onum, ZI ZQ osize, .bool oel, .bool ofl, .bool opr, .bool oect, ZI ZQ delay, .slice ra rn rc, .bool marked, ZI ZQ e0, ZI ZQ e1, ZI ZQ e2, .slice ea en ec, ZI ZQ err, ZI ZQ smooth] rfl (by exact reads_lit (blk_new_at (by simp)) (by simp) rfl) (by simp [Value.oneCell']) (by unfold maxLen; omega) (by omega) (by simp; omega) ?_; intro v8 w8 hown8 hg8 hat8; obtain ⟨g8, cap8, rfl⟩ := own_form hown8))
   go_roundg (n - (i + 1))
   case rel => exact ⟨i + 1, _, _, rfl, by go_num, by omega, by omega, by rw [HTK.out]; exact hown8, blk_grown (HC5.out.alloc _) hg8 (own_ne ho HC5.out (by decide)), Below.grown (HB5.out.alloc hz5 _) hg8 (by simp; omega) (fun g e => (ho.lt g e).1)⟩
   case measure => omega
  ·obtain rfl : i = n := by omega
   have hin : ¬ (i : Int) < (i : Int) := by omega
   have hz : B ≤ wr.heap.size := by have := hbw.size; have := HBQ.out; omega
   have hLi : LieAt rrL 20 wr wr.heap.size A' l := by
    rw [List.take_of_length_le (by rw [HN.out]; exact Nat.le_refl _)] at hown
    exact lie_own rrL_length hown HN.out
   have HLI := hide hLi
   have HCB := hide hcb
   have HBW := hide hbw
   clear hown hcb hbw hLi
   go_wp2_with (refine wpList_load_row rfl 24 (.tmp 3) rfl B rfl 24 #[.bool sv, ZI ZQ d, ZI ZQ first, ZI ZQ most, ZI ZQ rtt, ZI ZQ cdelay, ZI ZQ ex, ZI ZQ burst, ZI ZQ room, ZI ZQ backs] (0, 0) _ HCB.out Try.underlying24 rfl conf_size ?_)
   with_reducible refine (HLK.out A' _ c' _ HLI.out HN.out hl HBW.out).mono ?_
   rintro y2 W2 ⟨rfl, hb2⟩
   have HLI2 := hide ((HLI.out.later hb2).up hb2.size)
   have HCB2 := hide (show Blk W2 B 24 #[.bool sv, ZI ZQ d, ZI ZQ first, ZI ZQ most, ZI ZQ rtt, ZI ZQ cdelay, ZI ZQ ex, ZI ZQ burst, ZI ZQ room, ZI ZQ backs] from (hb2.block _ HCB.out.lt).trans HCB.out)
   have HBW2 := hide (HBW.out.trans (hb2.mono hz))
   have hz2 : wr.heap.size ≤ W2.heap.size := hb2.size
   clear hb2 HLI HCB HBW
   go_upto_region 10 with (fail)
   have hb3 : Below W2.heap.size W2 (W2.alloc (.cells #[ZI ZQ res.1, ZI ZQ res.2] 38)) := (Below.refl _ _).alloc (Nat.le_refl _) _
   have hF := Blk.new W2 38 #[ZI ZQ res.1, ZI ZQ res.2]
   have hL3 := (HLI2.out.later hb3).up hb3.size
   have hC3 := (hb3.block _ HCB2.out.lt).trans HCB2.out
   have hB3 := HBW2.out.trans (hb3.mono (by omega))
   obtain ⟨W3, hW3⟩ : ∃ y, W2.alloc (.cells #[ZI ZQ res.1, ZI ZQ res.2] 38) = y := ⟨_, rfl⟩
   obtain ⟨F, hFq⟩ : ∃ y, W2.heap.size = y := ⟨_, rfl⟩
   rw [hW3] at hF hL3 hC3 hB3 hb3
   rw [hFq] at hF
   rw [hW3, hFq]
   have hC3' : Blk W3.drew B 24 #[.bool sv, ZI ZQ d, ZI ZQ first, ZI ZQ most, ZI ZQ rtt, ZI ZQ cdelay, ZI ZQ ex, ZI ZQ burst, ZI ZQ room, ZI ZQ backs] := hC3
   have hz3 : B ≤ W3.heap.size := by have := hb3.size; omega
   have HF := hide hF
   have HL3 := hide (show LieAt rrL 20 W3.drew W3.drew.heap.size A' l from hL3)
   have HC3 := hide hC3'
   have HB3 := hide (show Below B w W3.drew from below_drewN hB3 1)
   clear hW3 hb3 hFq hF hL3 hC3 hC3' hB3 HLI2 HCB2 HBW2 hz2 hz
   refine wp_region_held_drew (S := (fun w' => Below W3.heap.size W3.drew w')) (by kernel_rfl) (Below.refl _ _) (fun hHeld => ?_)
   refine wpAnyH_take (i := 0) (v := .agg #[.bool sv, ZI ZQ d, ZI ZQ first, ZI ZQ most, ZI ZQ rtt, ZI ZQ cdelay, ZI ZQ ex, ZI ZQ burst, ZI ZQ room, ZI ZQ backs]) rfl (by kernel_rfl) (by kernel_rfl) (by kernel_rfl) (fun _ _ _ h => h) (Or.inl ⟨by rfl, fun w' hw => exec_load_row 24 (.tmp 3) rfl B rfl 24 #[.bool sv, ZI ZQ d, ZI ZQ first, ZI ZQ most, ZI ZQ rtt, ZI ZQ cdelay, ZI ZQ ex, ZI ZQ burst, ZI ZQ room, ZI ZQ backs] (0, 0) _ ((hw.block _ HC3.out.lt).trans HC3.out) Try.underlying24 rfl conf_size⟩) (by assumption) ?_
   try simp only [ZP, ZA, ZB, ZC, ZD, ZE, ZF]
   refine tkP 1 ?_ rfl ?_ ?_
   rotate_left
   ·intro w' hSw; (try dsimp only at hSw); go_simp; try with_reducible rfl
   try simp only [ZP, ZA, ZB, ZC, ZD, ZE, ZF]
   refine tkR [2] ?_
   refine ZS rfl (fun K hK => ?_) ZN
   go_simp
   go_at_call 17
   with_reducible refine (HOA.out A' _ c' _ HL3.out HN.out hl).mono ?_
   rintro y4 W4 ⟨A2, c2, rfl, hL4, hb4⟩
   have hk4 : Below W3.heap.size W3.drew W4 := hb4
   refine hK.out _ _ (hk4) (fun hHeld => ?_)
   clear hK K
   try simp only [ZP, ZA, ZB, ZC, ZD, ZE, ZF]
   refine tkR [3] ?_
   refine ZS rfl (fun K hK => ?_) ZN
   go_simp
   go_at_call 16
   with_reducible refine (HRK.out A2 _ c2 _ hL4 HN.out hl (HB3.out.trans (hb4.mono (by have := HB3.out.size; have := HBQ.out; omega)))).mono ?_
   rintro y5 W5 ⟨rfl, hb5⟩
   have hk5 : Below W3.heap.size W3.drew W5 := hk4.trans (hb5.mono hk4.size)
   refine hK.out _ _ (hk5) (fun hHeld => ?_)
   clear hK K
   try simp only [ZP, ZA, ZB, ZC, ZD, ZE, ZF]
   refine tkP 4 ?_ rfl ?_ ?_
   rotate_left
   ·intro w' hSw; (try dsimp only at hSw); go_simp; try with_reducible rfl
   try simp only [ZP, ZA, ZB, ZC, ZD, ZE, ZF]
   refine tkP 5 ?_ rfl ?_ ?_
   rotate_left
   ·intro w' hSw; (try dsimp only at hSw); go_simp; try with_reducible rfl
   try simp only [ZP, ZA, ZB, ZC, ZD, ZE, ZF]
   refine tkP 6 ?_ rfl ?_ ?_
   rotate_left
   ·intro w' hSw; (try dsimp only at hSw); go_simp; try with_reducible rfl
   try simp only [ZP, ZA, ZB, ZC, ZD, ZE, ZF]
   refine tkP 7 ?_ rfl ?_ ?_
   rotate_left
   ·intro w' hSw; (try dsimp only at hSw); go_simp; try with_reducible rfl
   try simp only [ZP, ZA, ZB, ZC, ZD, ZE, ZF]
   refine tkP 8 ?_ rfl ?_ ?_
   rotate_left
   ·intro w' hSw; (try dsimp only at hSw); go_simp; try with_reducible rfl
   try simp only [ZP, ZA, ZB, ZC, ZD, ZE, ZF]
   refine tkP 9 ?_ rfl ?_ ?_
   rotate_left
   ·intro w' hSw; (try dsimp only at hSw); go_simp; try with_reducible rfl
   try simp only [ZP, ZA, ZB, ZC, ZD, ZE, ZF]
   refine tkP 10 ?_ rfl ?_ ?_
   rotate_left
   ·intro w' hSw; (try dsimp only at hSw); go_simp; try with_reducible rfl
   try simp only [ZP, ZA, ZB, ZC, ZD, ZE, ZF]
   refine wpAnyH_done (by kernel_rfl) ?_ _
   have hF5 : Blk W5 F 38 #[ZI ZQ res.1, ZI ZQ res.2] := (hk5.block _ HF.out.lt).trans HF.out
   have F0 := hF5.cell 0
   have F1 := hF5.cell 1
   simp only [ZG, ZH, ZJ] at F0 F1
   have HB5 := hide (HB3.out.trans (hk5.mono hz3))
   obtain ⟨q0, q1⟩ := res
   simp only at F0 F1
   clear hF5 hk5 hb5 hk4 hb4 hL4 HF HL3 HC3 HB3 hHeld HRK HLK HOA
   go_upto_region 11 with (fail)
   have hz5 : w.heap.size ≤ W5.heap.size := HB5.out.size
   go_wp2_with fail
   with_reducible refine (HN1.out rule _).mono ?_
   rintro y6 W6 ⟨rfl, hb6⟩
   go_wp2_with fail
   with_reducible refine (HN2.out rule _).mono ?_
   rintro y7 W7 ⟨rfl, hb7⟩
   go_wp2_with fail
   with_reducible refine (HN1.out q1 _).mono ?_
   rintro y8 W8 ⟨rfl, hb8⟩
   go_wp2_with fail
   with_reducible refine (HN2.out q1 _).mono ?_
   rintro y9 W9 ⟨rfl, hb9⟩
   go_wp2_with fail
   with_reducible refine (HWK.out _).mono ?_
   rintro y10 W10 ⟨rfl, hb10⟩
   go_wp2_with fail
   go_ret
   have h1 := HB5.out.trans (hb6.mono (by have := HBQ.out; omega))
   have h2 := h1.trans (hb7.mono (by have := hb6.size; have := HBQ.out; omega))
   have h3 := h2.trans (hb8.mono (by have := hb7.size; have := hb6.size; have := HBQ.out; omega))
   have h4 := h3.trans (hb9.mono (by have := hb8.size; have := hb7.size; have := hb6.size; have := HBQ.out; omega))
   have h5 := h4.trans (hb10.mono (by have := hb9.size; have := hb8.size; have := hb7.size; have := hb6.size; have := HBQ.out; omega))
   exact ⟨rfl, by first | (rw [HBQ.out]; exact h5) | exact h5⟩
end Go.Proofs.Ytidfngcclbhoaaa

namespace Go.Proofs.Ytidfngcclbhoaaa
open List renaming getElem_toArray → ZA, getElem_cons_zero → ZB, getElem_cons_succ → ZC, setIfInBounds_toArray → ZD, set_cons_zero → ZE, set_cons_succ → ZF, getElem?_toArray → ZG, getElem?_cons_zero → ZH, getElem?_cons_succ → ZJ
open Go.AllReadyH renaming cons → ZS, nil → ZN
open Go.Act renaming put → ZP
open Go.Value renaming int → ZI
open Go.IntKind renaming i64 → ZQ
set_option linter.unusedSimpArgs false
set_option linter.unusedVariables false
open Go.RowKit Go.Shelf
section
variable {P : Program} {w : World}
theorem exec_load_at {o : Oper} {a : Act} (ty : TypeId) (x : Operand) (ho : o.op = .load ty x)
  (p : Addr) (hx : a.eval x = .pointer (some p)) (cs : Array Value) (d : TypeDesc) (hc : ∀ j v, cs[j]? = some v → w.cell? (p.add j) = some v)
  (hu : P.underlying ty = some d) (hd : (match d with | .struct _ | .array _ _ => true | _ => false) = true) (hi : (P.info? ty).map (·.size) = some cs.size) : (execOp a.eval o).run P w = .ok (.value (.agg cs)) w := by
 unfold execOp
 simp only [ho, hx, Instr.loadAt, Instr.sureAddr, Sem.run_bind, Sem.run_pure, Result.andThen_ok, run_loadVar_at p ty cs d hc hu hd hi]
theorem step_make_full {ops : Array Oper} {o : Oper} {a : Act} {K : Act → World → Prop} {Q : Exit → Act → World → Prop} {E : Prop} (hgd : o.guard = none) (l c : Operand) (t : TypeId) (hop : o.op = Op.makeSlice t l c)
  (base : Nat) (e : TypeId) (i : TypeInfo) (z : Value) (size bytes : Nat) (h1 : P.underlying t = some (.slice e)) (h2 : P.info? e = some i) (h3 : i.zero = some z) (h4 : i.size = size) (hby : i.bytes = bytes)
  (kl kc : IntKind) (n : Nat) (hl : a.eval l = .int kl (n : Int)) (hc : a.eval c = .int kc (n : Int)) (b2 : bytes * n ≤ 281474976710656) (b3 : n ≤ maxLen) (b4 : base ≤ w.heap.size)
  (hK : ∀ w', w'.ownsRow base e size (.slice (some ⟨w.heap.size, 0, none⟩) n n) n (madeCells z.cells (n * size)).toList → w.grownBy w' none → K (a.put o.dst (.slice (some ⟨w.heap.size, 0, none⟩) n n)) w') :
  if Region.wanted o (yielded ops a.tmps) = true then Oper.wp P o a w K Q else E := by
 have hw : Region.wanted o (yielded ops a.tmps) = true := by simp [Region.wanted, hgd]
 rw [if_pos hw]
 subst hby
 obtain ⟨w', hrun, r1, r2⟩ := run_make_full (P := P) w base t e i z size h1 h2 h3 h4 kl kc n b2 b3 b4
 unfold Oper.wp
 simp [execOp, hop, hl, hc, hrun, Result.andThen]
 exact hK w' r1 r2
end
def xz : RR := xZ 0 0
def kz : KN := { K0 setC 3 with told := false }
theorem zero_first : rowG (tellK (K0 setC 3) xz) xz = .ok kz := by rfl
theorem zero_next : rowG (tellK kz xz) xz = .ok kz := by rfl
theorem zero_list : ∀ n, listB true kz (List.replicate n xz) = true
 | 0 => rfl
 | n + 1 => by
  rw [List.replicate_succ]
  unfold listB
  rw [zero_next, show knB (tellK kz xz) = true from rfl, show rowB true (tellK kz xz) xz = true from rfl]
  exact zero_list n
theorem zero_all (n : Nat) : listB true (K0 setC 3) (List.replicate n xz) = true := by
 cases n with
 | zero => rfl
 | succ n =>
  rw [List.replicate_succ]
  unfold listB
  rw [zero_first, show knB (tellK (K0 setC 3) xz) = true from rfl, show rowB true (tellK (K0 setC 3) xz) xz = true from rfl]
  exact zero_list n
theorem zero_look : ∀ n i, lookP rowG kz (List.replicate n xz) i = (-1, 0)
 | 0, _ => rfl
 | n + 1, i => by
  rw [List.replicate_succ]
  unfold lookP
  rw [zero_next]
  exact zero_look n (i + 1)
theorem zero_looks (n : Nat) : lookP rowG (K0 setC 3) (List.replicate n xz) 0 = (-1, 0) := by
 cases n with
 | zero => rfl
 | succ n =>
  rw [List.replicate_succ]
  unfold lookP
  rw [zero_first]
  exact zero_look n 1
theorem made_rows (n : Nat) : (madeCells (rwC (zR 0 0)) (n * 20)).toList = (List.replicate n xz).flatMap rrL := by
 apply List.ext_getElem?
 intro m
 have hm : m = (m / 20) * 20 + m % 20 := by omega
 rw [Array.getElem?_toList]
 by_cases h : m < n * 20
 ·have hr : ((List.replicate n xz).flatMap rrL)[m]? = (rwC (zR 0 0))[m % 20]? := by
   rw [hm, flat_cell rrL 20 rrL_length _ (m / 20) (m % 20) (Nat.mod_lt _ (by omega)), List.getElem?_replicate, if_pos (by omega)]
   rw [← hm]
   show (rwC (zR 0 0)).toList[m % 20]? = _
   rw [Array.getElem?_toList]
  rw [hr]
  unfold madeCells
  rw [Array.getElem?_map, Array.getElem?_range, if_pos h]
  have hs : (rwC (zR 0 0)).size = 20 := rfl
  show some ((rwC (zR 0 0))[m % 20]!) = _
  obtain ⟨j, hj⟩ : ∃ j, m % 20 = j := ⟨_, rfl⟩
  have hj2 : j < 20 := by omega
  rw [hj]
  rcases (by omega : j = 0 ∨ j = 1 ∨ j = 2 ∨ j = 3 ∨ j = 4 ∨ j = 5 ∨ j = 6 ∨ j = 7 ∨ j = 8 ∨ j = 9 ∨ j = 10 ∨ j = 11 ∨ j = 12 ∨ j = 13 ∨ j = 14 ∨ j = 15 ∨ j = 16 ∨ j = 17 ∨ j = 18 ∨ j = 19) with h0 | h0 | h0 | h0 | h0 | h0 | h0 | h0 | h0 | h0 | h0 | h0 | h0 | h0 | h0 | h0 | h0 | h0 | h0 | h0
  all_goals (rw [h0]; rfl)
 ·rw [Array.getElem?_eq_none (by rw [size_madeCells]; omega), List.getElem?_eq_none]
  rw [flat_length rrL 20 rrL_length, List.length_replicate]
  omega
/-- What lies while JudgeKnown goes. -/
structure KhSt (w W : World) (X1 X2 a1 a2 X3 X4 X5 a3 N : Nat) : Prop where
 s : Blk W X1 36 (rwC (xS 0 0).r)
 a : Blk W X2 36 (rwC (xA a1 a2).r)
 rg : Blk W a1 61 #[ZI ZQ 0, ZI ZQ 0]
 ev : Blk W a2 46 #[ZI ZQ 1, ZI ZQ 0, ZI ZQ 0, ZI ZQ 1200, ZI ZQ 4, ZI ZQ 0, ZI ZQ 0, ZI ZQ 13200]
 pr : Blk W X3 36 (rwC (xPr 1).r)
 ot : Blk W X4 36 (rwC (xPr 2).r)
 ak : Blk W X5 36 (rwC (xE 4 0 0 a3 [⟨3, 0, 0, 1⟩]).r)
 e3 : Blk W a3 46 #[ZI ZQ 3, ZI ZQ 0, ZI ZQ 0, ZI ZQ 1]
 b0 : Blk W (N + 0) 46 #[ZI ZQ 7, ZI ZQ 0, ZI ZQ 0, ZI ZQ 0]
 b1 : Blk W (N + 1) 46 #[ZI ZQ 6, ZI ZQ 0, ZI ZQ 0, ZI ZQ 0]
 b2 : Blk W (N + 2) 46 #[ZI ZQ 5, ZI ZQ 9, ZI ZQ 0, ZI ZQ 0]
 b3 : Blk W (N + 3) 46 #[ZI ZQ 3, ZI ZQ 3, ZI ZQ 0, ZI ZQ 1]
 b4 : Blk W (N + 4) 46 #[ZI ZQ 4, ZI ZQ 0, ZI ZQ 0, ZI ZQ 2400, ZI ZQ 4, ZI ZQ 0, ZI ZQ 0, ZI ZQ 2400]
 b5 : Blk W (N + 5) 46 #[ZI ZQ 6, ZI ZQ 0, ZI ZQ 0, ZI ZQ 8]
 big : Blk W (N + 6) 36 ((bigL (fun j => N + j)).flatMap rrL).toArray
 bl : Below w.heap.size w W
theorem KhSt.later {w W : World} {X1 X2 a1 a2 X3 X4 X5 a3 N : Nat} {W' : World} (h : KhSt w W X1 X2 a1 a2 X3 X4 X5 a3 N) (hb : Below W.heap.size W W') : KhSt w W' X1 X2 a1 a2 X3 X4 X5 a3 N :=
 ⟨(hb.block _ h.s.lt).trans h.s, (hb.block _ h.a.lt).trans h.a, (hb.block _ h.rg.lt).trans h.rg, (hb.block _ h.ev.lt).trans h.ev, (hb.block _ h.pr.lt).trans h.pr, (hb.block _ h.ot.lt).trans h.ot, (hb.block _ h.ak.lt).trans h.ak, (hb.block _ h.e3.lt).trans h.e3, (hb.block _ h.b0.lt).trans h.b0, (hb.block _ h.b1.lt).trans h.b1, (hb.block _ h.b2.lt).trans h.b2, (hb.block _ h.b3.lt).trans h.b3, (hb.block _ h.b4.lt).trans h.b4, (hb.block _ h.b5.lt).trans h.b5, (hb.block _ h.big.lt).trans h.big, h.bl.trans (hb.mono h.bl.size)⟩
theorem KhSt.big_lie {w W : World} {X1 X2 a1 a2 X3 X4 X5 a3 N : Nat} (h : KhSt w W X1 X2 a1 a2 X3 X4 X5 a3 N) : ∀ x ∈ bigL (fun j => N + j), LieAt evL 4 W W.heap.size x.r.ea x.es ∧ LieAt rgL 2 W W.heap.size x.r.ra x.rs := by
 intro x hx
 unfold bigL at hx
 simp only [List.mem_cons, List.not_mem_nil, or_false] at hx
 rcases hx with rfl | rfl | rfl | rfl | rfl | rfl | rfl | rfl | rfl | rfl | rfl | rfl | rfl | rfl | rfl | rfl | rfl
 ·exact ⟨.inl rfl, .inl rfl⟩
 ·exact ⟨.inl rfl, .inl rfl⟩
 ·exact ⟨.inl rfl, .inl rfl⟩
 ·exact ⟨.inl rfl, .inl rfl⟩
 ·exact ⟨.inl rfl, .inl rfl⟩
 ·exact ⟨.inl rfl, .inl rfl⟩
 ·exact ⟨.inl rfl, .inl rfl⟩
 ·exact ⟨.inl rfl, .inl rfl⟩
 ·exact ⟨.inl rfl, .inl rfl⟩
 ·exact ⟨.inl rfl, .inl rfl⟩
 ·exact ⟨.inl rfl, .inl rfl⟩
 ·exact ⟨lie_blk evL_length h.b0 rfl, .inl rfl⟩
 ·exact ⟨lie_blk evL_length h.b1 rfl, .inl rfl⟩
 ·exact ⟨lie_blk evL_length h.b2 rfl, .inl rfl⟩
 ·exact ⟨lie_blk evL_length h.b3 rfl, .inl rfl⟩
 ·exact ⟨lie_blk evL_length h.b4 rfl, .inl rfl⟩
 ·exact ⟨lie_blk evL_length h.b5 rfl, .inl rfl⟩
theorem big_short (bb : Nat → Nat) : ∀ x ∈ bigL bb, (x.r.en ≤ 20 ∧ x.r.en ≤ x.r.ec) ∧ (x.r.rn ≤ 20 ∧ x.r.rn ≤ x.r.rc) := by
 intro x hx
 unfold bigL at hx
 simp only [List.mem_cons, List.not_mem_nil, or_false] at hx
 rcases hx with rfl | rfl | rfl | rfl | rfl | rfl | rfl | rfl | rfl | rfl | rfl | rfl | rfl | rfl | rfl | rfl | rfl
 all_goals exact ⟨⟨Nat.le_of_ble_eq_true rfl, Nat.le_of_ble_eq_true rfl⟩, Nat.le_of_ble_eq_true rfl, Nat.le_of_ble_eq_true rfl⟩
theorem big_len (bb : Nat → Nat) : (bigL bb).length = 17 := rfl
theorem set_ok (sv : Bool) : errC (setB sv) = 0 := by cases sv <;> rfl
theorem one_call {w W : World} {X1 X2 a1 a2 X3 X4 X5 a3 N : Nat} (h : KhSt w W X1 X2 a1 a2 X3 X4 X5 a3 N) {i : Nat} {x : RR} (hx : (bigL (fun j => N + j))[i]? = some x) (sv : Bool) (hsv : sv = (i % 2 == 0)) (g : Nat) (hg : Blk W g 36 ((oneL a1 a2 x).flatMap rrL).toArray) (rule : Int) :
  Calls Try.prog 11 #[.agg (confC (setB sv)), .slice (some ⟨g, 0, none⟩) 4 4, ZI ZQ rule] W fun e w' => e = .returned (.bool true) ∧ Below W.heap.size W w' := by
 have hi : i < 17 := (List.getElem?_eq_some_iff.1 hx).1
 have hm := List.mem_of_getElem? hx
 refine looks_law (setB sv) _ 4 4 (oneL a1 a2 x) rule W (set_ok sv) rfl (by omega) (lie_blk rrL_length hg rfl) ?_ ?_ ?_
 ·intro y hy
  unfold oneL at hy
  simp only [List.mem_cons, List.not_mem_nil, or_false] at hy
  rcases hy with rfl | rfl | rfl | rfl
  ·exact lie_s 0 0
  ·exact h.big_lie _ hm
  ·exact ⟨lie_blk evL_length h.ev rfl, lie_blk rgL_length h.rg rfl⟩
  ·exact h.big_lie _ hm
 ·intro y hy
  unfold oneL at hy
  simp only [List.mem_cons, List.not_mem_nil, or_false] at hy
  rcases hy with rfl | rfl | rfl | rfl
  ·exact ⟨⟨Nat.le_of_ble_eq_true rfl, Nat.le_of_ble_eq_true rfl⟩, Nat.le_of_ble_eq_true rfl, Nat.le_of_ble_eq_true rfl⟩
  ·exact big_short _ _ hm
  ·exact ⟨⟨Nat.le_of_ble_eq_true rfl, Nat.le_of_ble_eq_true rfl⟩, Nat.le_of_ble_eq_true rfl, Nat.le_of_ble_eq_true rfl⟩
  ·exact big_short _ _ hm
 ·have := List.all_eq_true.1 (big_one (fun j => N + j) a1 a2) i (List.mem_range.2 hi)
  rw [hx, ← hsv] at this
  exact this
theorem two_call {w W : World} {X1 X2 a1 a2 X3 X4 X5 a3 N : Nat} (h : KhSt w W X1 X2 a1 a2 X3 X4 X5 a3 N) {i : Nat} {x : RR} (hx : (bigL (fun j => N + j))[i]? = some x) (sv : Bool) (hsv : sv = (i % 2 == 1)) (g : Nat) (hg : Blk W g 36 ((twoL a3 x).flatMap rrL).toArray) (rule : Int) :
  Calls Try.prog 11 #[.agg (confC (setB sv)), .slice (some ⟨g, 0, none⟩) 7 7, ZI ZQ rule] W fun e w' => e = .returned (.bool true) ∧ Below W.heap.size W w' := by
 have hi : i < 17 := (List.getElem?_eq_some_iff.1 hx).1
 have hm := List.mem_of_getElem? hx
 refine looks_law (setB sv) _ 7 7 (twoL a3 x) rule W (set_ok sv) rfl (by omega) (lie_blk rrL_length hg rfl) ?_ ?_ ?_
 ·intro y hy
  unfold twoL at hy
  simp only [List.mem_cons, List.not_mem_nil, or_false] at hy
  rcases hy with rfl | rfl | rfl | rfl | rfl | rfl | rfl
  ·exact ⟨.inl rfl, .inl rfl⟩
  ·exact h.big_lie _ hm
  ·exact lie_s 0 0
  ·exact ⟨lie_blk evL_length h.e3 rfl, .inl rfl⟩
  ·exact ⟨.inl rfl, .inl rfl⟩
  ·exact ⟨.inl rfl, .inl rfl⟩
  ·exact h.big_lie _ hm
 ·intro y hy
  unfold twoL at hy
  simp only [List.mem_cons, List.not_mem_nil, or_false] at hy
  rcases hy with rfl | rfl | rfl | rfl | rfl | rfl | rfl
  ·exact ⟨⟨Nat.le_of_ble_eq_true rfl, Nat.le_of_ble_eq_true rfl⟩, Nat.le_of_ble_eq_true rfl, Nat.le_of_ble_eq_true rfl⟩
  ·exact big_short _ _ hm
  ·exact ⟨⟨Nat.le_of_ble_eq_true rfl, Nat.le_of_ble_eq_true rfl⟩, Nat.le_of_ble_eq_true rfl, Nat.le_of_ble_eq_true rfl⟩
  ·exact ⟨⟨Nat.le_of_ble_eq_true rfl, Nat.le_of_ble_eq_true rfl⟩, Nat.le_of_ble_eq_true rfl, Nat.le_of_ble_eq_true rfl⟩
  ·exact ⟨⟨Nat.le_of_ble_eq_true rfl, Nat.le_of_ble_eq_true rfl⟩, Nat.le_of_ble_eq_true rfl, Nat.le_of_ble_eq_true rfl⟩
  ·exact ⟨⟨Nat.le_of_ble_eq_true rfl, Nat.le_of_ble_eq_true rfl⟩, Nat.le_of_ble_eq_true rfl, Nat.le_of_ble_eq_true rfl⟩
  ·exact big_short _ _ hm
 ·have := List.all_eq_true.1 (big_two (fun j => N + j) a3) i (List.mem_range.2 hi)
  rw [hx, ← hsv] at this
  exact this
def manyL (n : Nat) : List RR := (List.range n).map fun (j : Nat) => xS (j : Int) 0
theorem many_next (n : Nat) : (manyL (n + 1)).flatMap rrL = (manyL n).flatMap rrL ++ rrL (xS (n : Int) 0) := by
 unfold manyL
 rw [List.range_succ, List.map_append, List.flatMap_append]
 simp
theorem many_call {W : World} {A : Option Addr} {c : Nat} (hL : LieAt rrL 20 W W.heap.size A (manyL 12)) : Calls Try.prog 12 #[.slice A 12 c, ZI ZQ 10, ZI ZQ 5] W fun e w' => e = .returned (.bool true) ∧ Below W.heap.size W w' :=
 finds_list true A 12 c (manyL 12) 10 5 W rfl (by omega) hL (fun x hx => by
  unfold manyL at hx
  obtain ⟨j, _, rfl⟩ := List.mem_map.1 hx
  exact lie_s _ 0) (by rfl) (by rfl)
def probL (a3 : Nat) : List RR := [xS 0 0, xE 4 0 0 a3 [⟨3, 0, 0, 1⟩], xPr 1, xPr 2]
theorem prob_call {w W : World} {X1 X2 a1 a2 X3 X4 X5 a3 N : Nat} (h : KhSt w W X1 X2 a1 a2 X3 X4 X5 a3 N) (g : Nat) (hg : Blk W g 36 ((probL a3).flatMap rrL).toArray) : Calls Try.prog 12 #[.slice (some ⟨g, 0, none⟩) 4 4, ZI ZQ 3, ZI ZQ 6] W fun e w' => e = .returned (.bool true) ∧ Below W.heap.size W w' :=
 finds_list true _ 4 4 (probL a3) 3 6 W rfl (by omega) (lie_blk rrL_length hg rfl) (fun x hx => by
  unfold probL at hx
  simp only [List.mem_cons, List.not_mem_nil, or_false] at hx
  rcases hx with rfl | rfl | rfl | rfl
  ·exact lie_s 0 0
  ·exact ⟨lie_blk evL_length h.e3 rfl, .inl rfl⟩
  ·exact ⟨.inl rfl, .inl rfl⟩
  ·exact ⟨.inl rfl, .inl rfl⟩) (by rfl) (by rfl)
def lostL (a4 : Nat) : List RR := [xS 0 0, xE 4 1000000 0 a4 [⟨2, 0, 0, 1200⟩]]
theorem lost_call {W : World} {a4 : Nat} (he : Blk W a4 46 #[ZI ZQ 2, ZI ZQ 0, ZI ZQ 0, ZI ZQ 1200]) (g : Nat) (hg : Blk W g 36 ((lostL a4).flatMap rrL).toArray) : Calls Try.prog 12 #[.slice (some ⟨g, 0, none⟩) 2 2, ZI ZQ 1, ZI ZQ 10] W fun e w' => e = .returned (.bool true) ∧ Below W.heap.size W w' :=
 finds_list false _ 2 2 (lostL a4) 1 10 W rfl (by omega) (lie_blk rrL_length hg rfl) (fun x hx => by
  unfold lostL at hx
  simp only [List.mem_cons, List.not_mem_nil, or_false] at hx
  rcases hx with rfl | rfl
  ·exact lie_s 0 0
  ·exact ⟨lie_blk evL_length he rfl, .inl rfl⟩) (by rfl) (by rfl)
def servL : List RR := [xP 3 0 400, xS 0 0, xS 1 0]
theorem serv_call {W : World} (g : Nat) (hg : Blk W g 36 (servL.flatMap rrL).toArray) : Calls Try.prog 7 #[.agg (confC (setB true)), .slice (some ⟨g, 0, none⟩) 3 3] W fun e w' => e = .returned (.tuple #[.agg #[ZI ZQ 2, ZI ZQ 7], ZI ZQ 0]) ∧ Below W.heap.size W w' :=
 look_list true (setB true) rfl _ 3 3 servL W rfl (by omega) (lie_blk rrL_length hg rfl) (fun x hx => by
  unfold servL at hx
  simp only [List.mem_cons, List.not_mem_nil, or_false] at hx
  rcases hx with rfl | rfl | rfl
  ·exact ⟨.inl rfl, .inl rfl⟩
  ·exact lie_s 0 0
  ·exact lie_s 1 0) (by rfl)
theorem zeros_call {W : World} {A : Option Addr} (n c : Nat) (hn : n ≤ 1000) (hL : LieAt rrL 20 W W.heap.size A (List.replicate n xz)) : Calls Try.prog 7 #[.agg (confC (setB false)), .slice A n c] W fun e w' => e = .returned (.tuple #[.agg #[ZI ZQ (-1), ZI ZQ 0], ZI ZQ 0]) ∧ Below W.heap.size W w' := by
 have h := look_list true setC rfl A n c (List.replicate n xz) W (List.length_replicate ..) hn hL (fun x hx => by
  rw [List.eq_of_mem_replicate hx]
  exact ⟨.inl rfl, .inl rfl⟩) (zero_all n)
 rw [zero_looks] at h
 exact h
end Go.Proofs.Ytidfngcclbhoaaa
