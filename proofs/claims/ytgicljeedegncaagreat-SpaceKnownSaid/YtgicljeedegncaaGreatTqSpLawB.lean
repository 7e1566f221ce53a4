/-
 3 texts in one (SpcLose, SpLawA, SpLawB).
-/
import Derived.Test.YtgicljeedegncaaGreatLossFind
namespace Go.Proofs.YtgicljeedegncaaGreat
open List renaming getElem_toArray → ZA, getElem_cons_zero → ZB, getElem_cons_succ → ZC, setIfInBounds_toArray → ZD, set_cons_zero → ZE, set_cons_succ → ZF, getElem?_toArray → ZG
open Go.Act renaming put → ZP
open Go.Value renaming int → ZI
open Go.IntKind renaming i64 → ZQ
set_option linter.unusedSimpArgs false
set_option linter.unusedVariables false
open Go.RowKit

theorem okPks_map : ∀ (ps : List Pk) (l : Int), -1 ≤ l → (∀ p ∈ ps, p.may) → (∀ p ∈ ps, l < p.num) → (ps.Pairwise fun a b => a.num < b.num) → okPks l (ps.map toPK) = true
 | [], _, _, _, _, _ => rfl
 | p :: ps, l, hl, hm, hlt, hs => by
  have h1 := hm p (by simp)
  have h2 := hlt p (by simp)
  have h3 := okPks_map ps p.num (by unfold Pk.may at h1; omega) (fun q hq => hm q (by simp [hq])) (fun q hq => (List.pairwise_cons.1 hs).1 q hq) (List.pairwise_cons.1 hs).2
  show (okPk l (toPK p) && okPks (toPK p).n (ps.map toPK)) = true
  have h4 : okPk l (toPK p) = true := by
   unfold Pk.may at h1
   exact okPk_iff.2 (by unfold toPK; dsimp only; omega)
  rw [h4]
  exact h3
theorem log_ok {w : World} {b rb room : Nat} {last : Int} {ps : List Pk} (h : IsLog w b rb room last ps) : checkL (ps.map toPK) = 0 := by
 unfold checkL
 rw [if_pos ⟨by have := h.room; simp; omega, okPks_map ps (-1) (by omega) h.may (fun p hp => by have := h.may p hp; unfold Pk.may at this; omega) h.sorted⟩]
theorem log_num {w : World} {b rb room : Nat} {last : Int} {ps : List Pk} (h : IsLog w b rb room last ps) : ∀ q ∈ ps.map toPK, 0 ≤ q.n ∧ q.n ≤ 9007199254740991 ∧ 0 ≤ q.t ∧ q.t ≤ 9007199254740991 := by
 intro q hq
 obtain ⟨p, hp, rfl⟩ := List.mem_map.1 hq
 have := h.may p hp
 unfold Pk.may at this
 unfold toPK
 dsimp only
 omega
structure LqAt (w W : World) (f : Ft) (s : SpSt) : Prop where
 sp : IsSp W f s
 box : Blk W w.heap.size 45 #[ZI ZQ 100, ZI ZQ 1, ZI ZQ 100, ZI ZQ 0, ZI ZQ 0]
 below : Below w.heap.size w W
section
variable {w W W' : World} {f : Ft} {s : SpSt}
theorem LqAt.later (h : LqAt w W f s) (hb : Below W.heap.size W W') : LqAt w W' f s := ⟨h.sp.below hb, (hb.block _ h.box.lt).trans h.box, bw_below' h.below hb⟩
theorem LqAt.seven (h : LqAt w W f s) : W.cell? ⟨f.b, 0, none⟩ = some (.pointer (some ⟨f.lb, 0, none⟩)) ∧ W.cell? ⟨f.b, 3, none⟩ = some (ZI ZQ s.great) ∧ W.cell? ⟨w.heap.size, 0, none⟩ = some (ZI ZQ 100) ∧ W.cell? ⟨w.heap.size, 1, none⟩ = some (ZI ZQ 1) ∧ W.cell? ⟨w.heap.size, 2, none⟩ = some (ZI ZQ 100) ∧ W.cell? ⟨w.heap.size, 3, none⟩ = some (ZI ZQ 0) ∧ W.cell? ⟨w.heap.size, 4, none⟩ = some (ZI ZQ 0) := ⟨h.sp.blk.cell 0, h.sp.blk.cell 3, h.box.cell 0, h.box.cell 1, h.box.cell 2, h.box.cell 3, h.box.cell 4⟩
end
set_option maxRecDepth 100000 in
set_option maxHeartbeats 4000000 in
theorem splose_any (f : Ft) (s : SpSt) (now : Int) (w : World) (h : IsSp w f s) (g0 : -1 ≤ s.great) (g1 : s.great ≤ 9007199254740991) (n0 : 0 ≤ now) (n1 : now ≤ 9007199254740991) :
  Calls Tryz.prog 17 #[.pointer (some ⟨f.b, 0, none⟩), ZI ZQ now, .agg #[ZI ZQ 100, ZI ZQ 1, ZI ZQ 100, ZI ZQ 0, ZI ZQ 0]] w
   (ToldPost w f { s with loss := atF s.great now (s.ps.map toPK), ps := dropL allP ((s.ps.map toPK).filter (lostF s.great now)) s.ps } ((s.ps.map toPK).filter (lostF s.great now))) := by
 have hb0 : Below w.heap.size w (w.alloc (.cells #[ZI ZQ 100, ZI ZQ 1, ZI ZQ 100, ZI ZQ 0, ZI ZQ 0] 45)) := (Below.refl _ _).alloc (Nat.le_refl _) _
 have h1 : LqAt w (w.alloc (.cells #[ZI ZQ 100, ZI ZQ 1, ZI ZQ 100, ZI ZQ 0, ZI ZQ 0] 45)) f s := ⟨h.below hb0, Blk.new _ _ _, hb0⟩
 have HLT := hide h.lt
 have HMAY := hide h.log.may
 have HRM := hide h.log.room
 have HCK := hide (log_ok h.log)
 have HNM := hide (log_num h.log)
 obtain ⟨y0, y3, x0, x1, x2, x3, x4⟩ := h1.seven
 have HQ := hide h1
 clear h hb0 h1
 go_enter Tryz.func17, Tryz.ntmps17
 go_wp2_with fail
 refine (spnone f s _ HQ.out.sp).mono ?_
 rintro e1 w1 ⟨rfl, rfl⟩
 go_wp2_with fail
 refine wp_region_S (fun w' => w'.cell? ⟨f.b, 0, none⟩ = some (.pointer (some ⟨f.lb, 0, none⟩)) ∧ w'.cell? ⟨f.b, 3, none⟩ = some (ZI ZQ s.great) ∧ w'.cell? ⟨w.heap.size, 0, none⟩ = some (ZI ZQ 100) ∧ w'.cell? ⟨w.heap.size, 1, none⟩ = some (ZI ZQ 1) ∧ w'.cell? ⟨w.heap.size, 2, none⟩ = some (ZI ZQ 100) ∧ w'.cell? ⟨w.heap.size, 3, none⟩ = some (ZI ZQ 0) ∧ w'.cell? ⟨w.heap.size, 4, none⟩ = some (ZI ZQ 0)) 1000 (by kernel_rfl) (by exact ⟨y0, y3, x0, x1, x2, x3, x4⟩) (fun hHeld => ?_)
 refine tsP 0 ?_ rfl ?_ ?_
 rotate_left
 ·intro w hSw; (try dsimp only at hSw); go_simp; try with_reducible rfl
 try simp only [ZP, ZA, ZC, ZB, ZD, ZE, ZF]
 refine tsP 1 ?_ rfl ?_ ?_
 rotate_left
 ·intro w hSw; (try dsimp only at hSw); go_simp; try with_reducible rfl
 try simp only [ZP, ZA, ZC, ZB, ZD, ZE, ZF]
 refine tsP 2 ?_ rfl ?_ ?_
 rotate_left
 ·intro w hSw; (try dsimp only at hSw); go_simp; try with_reducible rfl
 try simp only [ZP, ZA, ZC, ZB, ZD, ZE, ZF]
 refine tsP 3 ?_ rfl ?_ ?_
 rotate_left
 ·intro w hSw; (try dsimp only at hSw); go_simp; try with_reducible rfl
 try simp only [ZP, ZA, ZC, ZB, ZD, ZE, ZF]
 refine tsP 5 ?_ rfl ?_ ?_
 rotate_left
 ·intro w hSw; (try dsimp only at hSw); go_simp; try with_reducible rfl
 try simp only [ZP, ZA, ZC, ZB, ZD, ZE, ZF]
 refine tsP 6 ?_ rfl ?_ ?_
 rotate_left
 ·intro w hSw; (try dsimp only at hSw); go_simp; try with_reducible rfl
 try simp only [ZP, ZA, ZC, ZB, ZD, ZE, ZF]
 refine tsP 7 ?_ rfl ?_ ?_
 rotate_left
 ·intro w hSw; (try dsimp only at hSw); go_simp; try with_reducible rfl
 try simp only [ZP, ZA, ZC, ZB, ZD, ZE, ZF]
 refine tsP 8 ?_ rfl ?_ ?_
 rotate_left
 ·intro w hSw; (try dsimp only at hSw); go_simp; try with_reducible rfl
 try simp only [ZP, ZA, ZC, ZB, ZD, ZE, ZF]
 refine tsP 9 ?_ rfl ?_ ?_
 rotate_left
 ·intro w hSw; (try dsimp only at hSw); go_simp; try with_reducible rfl
 try simp only [ZP, ZA, ZC, ZB, ZD, ZE, ZF]
 refine tsP 10 ?_ rfl ?_ ?_
 rotate_left
 ·intro w hSw; (try dsimp only at hSw); go_simp; try with_reducible rfl
 try simp only [ZP, ZA, ZC, ZB, ZD, ZE, ZF]
 refine wpAnyS_one (i := 4) rfl (by kernel_rfl) (fun K hK => ?_)
 go_simp; go_at_call 50; refine (all_any _ _ _ _ _ _ (LqAt.sp (by first | exact HQ.out | exact HQ.out.later (Below.refl _ _).drew)).log).mono ?_; rintro e2 w2 ⟨v2, rfl, hv2, hb2⟩; have HQ2 := hide (LqAt.later (by first | exact HQ.out | exact HQ.out.later (Below.refl _ _).drew) hb2); obtain ⟨a2, c2, rfl⟩ := own_slice' hv2; rw [← pkcs_toPK] at hv2; have hpk2 := own_pk3 (by simp) hv2 (fun p hp => by obtain ⟨q, hq, rfl⟩ := List.mem_map.1 hp; exact toPK_small (HMAY.out q hq)); have HP2 := hide hpk2; clear hv2 hb2 hpk2
 refine hK.out _ _ (fun _ => HQ2.out.seven) (fun hH => ?_)
 have hHeld := hH rfl
 clear hK K hH
 try simp only [ZP, ZA, ZC, ZB, ZD, ZE, ZF]
 refine wpAnyS_one (i := 11) rfl (by kernel_rfl) (fun K hK => ?_)
 go_simp; go_at_call 52; refine (lossfind_any a2 s.ps.length c2 (s.ps.map toPK) s.great now _ (by simp) (by have := HRM.out; omega) (HP2.out.1.below (by first | exact Below.refl _ _ | exact (Below.refl _ _).drew) (Nat.le_refl _)) (fun k o e => (HP2.out.2.2 k o e).2) HCK.out HNM.out g0 g1 n0 n1).mono ?_; rintro e3 w3 ⟨v3, v4, rfl, hv3, hb3⟩; have HQ3 := hide (LqAt.later (by first | exact HQ2.out | exact HQ2.out.later (Below.refl _ _).drew) hb3); have HV3 := hide (And.intro hv3 (show w.heap.size ≤ w2.heap.size from HQ2.out.below.size)); clear hv3 hb3
 refine hK.out _ _ (fun _ => HQ3.out.seven) (fun hH => ?_)
 have hHeld := hH rfl
 clear hK K hH
 try simp only [ZP, ZA, ZC, ZB, ZD, ZE, ZF]
 refine tsP 12 ?_ rfl ?_ ?_
 rotate_left
 ·intro w hSw; (try dsimp only at hSw); go_simp; try with_reducible rfl
 try simp only [ZP, ZA, ZC, ZB, ZD, ZE, ZF]
 refine tsP 13 ?_ rfl ?_ ?_
 rotate_left
 ·intro w hSw; (try dsimp only at hSw); go_simp; try with_reducible rfl
 try simp only [ZP, ZA, ZC, ZB, ZD, ZE, ZF]
 refine tsP 14 ?_ rfl ?_ ?_
 rotate_left
 ·intro w hSw; (try dsimp only at hSw); go_simp; try with_reducible rfl
 try simp only [ZP, ZA, ZC, ZB, ZD, ZE, ZF]
 refine tsP 15 ?_ rfl ?_ ?_
 rotate_left
 ·intro w hSw; (try dsimp only at hSw); go_simp; try with_reducible rfl
 try simp only [ZP, ZA, ZC, ZB, ZD, ZE, ZF]
 refine tsP 16 ?_ rfl ?_ ?_
 rotate_left
 ·intro w hSw; (try dsimp only at hSw); go_simp; try with_reducible rfl
 try simp only [ZP, ZA, ZC, ZB, ZD, ZE, ZF]
 refine tsP 17 ?_ rfl ?_ ?_
 rotate_left
 ·intro w hSw; (try dsimp only at hSw); go_simp; try with_reducible rfl
 try simp only [ZP, ZA, ZC, ZB, ZD, ZE, ZF]
 refine tsP 18 ?_ rfl ?_ ?_
 rotate_left
 ·intro w hSw; (try dsimp only at hSw); go_simp; try with_reducible rfl
 try simp only [ZP, ZA, ZC, ZB, ZD, ZE, ZF]
 refine tsP 19 ?_ rfl ?_ ?_
 rotate_left
 ·intro w hSw; (try dsimp only at hSw); go_simp; try with_reducible rfl
 try simp only [ZP, ZA, ZC, ZB, ZD, ZE, ZF]
 refine tsP 20 ?_ rfl ?_ ?_
 rotate_left
 ·intro w hSw; (try dsimp only at hSw); go_simp; try with_reducible rfl
 try simp only [ZP, ZA, ZC, ZB, ZD, ZE, ZF]
 refine wpAnyS_done (by kernel_rfl) ?_ _
 obtain ⟨a3, c3, hv3⟩ := own_slice' HV3.out.1
 subst hv3
 have hpk3 := own_pk3 rfl HV3.out.1 (fun p hp => by
  obtain ⟨q, hq, rfl⟩ := List.mem_map.1 (List.mem_filter.1 hp).1
  exact toPK_small (HMAY.out q hq))
 have HP3 := hide hpk3
 have hl3 : ((s.ps.map toPK).filter (lostF s.great now)).length ≤ 256 := Nat.le_trans (List.length_filter_le _ _) (by have := HRM.out; simp; omega)
 have hw23 := HV3.out.2
 have y4 : w3.cell? ⟨f.b, 4, none⟩ = some (ZI ZQ s.loss) := HQ3.out.sp.blk.cell 4
 have f4 : w3.frozen? ⟨f.b, 4, none⟩ = false := HQ3.out.sp.blk.frozen 4
 have ht := HQ3.out.sp.turnOwn (j := 4) (u := ZI ZQ (atF s.great now (s.ps.map toPK))) (great := s.great) (loss := atF s.great now (s.ps.map toPK)) (time := s.time) rfl
 have hbn : ∀ k o, a3 = some ⟨k, o, none⟩ → k ∉ f.all := fun k o e hm => by
  have h1 := HLT.out _ hm
  have h2 := (hpk3.2.2 k o e).1
  omega
 have hpk4 : PksAt (w3.setCell ⟨f.b, 4, none⟩ (ZI ZQ (atF s.great now (s.ps.map toPK)))) a3 ((s.ps.map toPK).filter (lostF s.great now)) := hpk3.1.only ht.only hbn
 have HDR := hide (dropped_all f { s with great := s.great, loss := atF s.great now (s.ps.map toPK), time := s.time } a3 _ c3 _ _ ht.sp rfl hl3 ⟨hpk4, hbn⟩)
 have HT := hide ht
 have HBN := hide (And.intro hbn (show w3.heap.size ≤ w3.heap.size from Nat.le_refl _))
 obtain ⟨A, hA⟩ : ∃ A, atF s.great now (s.ps.map toPK) = A := ⟨_, rfl⟩
 obtain ⟨out, hout⟩ : ∃ out, (s.ps.map toPK).filter (lostF s.great now) = out := ⟨_, rfl⟩
 have HOUT := hide hout
 have HA := hide hA
 rw [hA] at HDR HT ⊢
 rw [hout] at HDR hl3 ⊢
 have HL3 := hide hl3
 clear hHeld y0 y3 x0 x1 x2 x3 x4 hpk3 ht hbn hpk4 hA hout hl3 HP2 HQ2 HQ HV3
 go_wp2_with fail
 refine HDR.out.mono ?_
 rintro e5 w5 ⟨v5, f5, rfl, hD⟩
 have hfa : out.filter allP = out := List.filter_eq_self.2 (fun _ _ => rfl)
 rw [hfa] at hD
 obtain ⟨a5, c5, hv5⟩ := own_slice' hD.own
 subst hv5
 obtain ⟨hp5, hc5, hk5⟩ := own_pk3 rfl hD.own (fun p hp => by
  rw [← HOUT.out] at hp
  obtain ⟨q, hq, rfl⟩ := List.mem_map.1 (List.mem_filter.1 hp).1
  exact toPK_small (HMAY.out q hq))
 have hpost := (SpPost.ahead HQ3.out.below HT.out).trans hD.post
 have hoff := hD.off
 have hz := HQ3.out.below.size
 clear hD
 go_wp2_with fail
 go_ret2
 rw [HOUT.out, HA.out]
 exact ⟨a5, c5, f5, rfl, hp5, hc5, fun k o e => by
  subst e
  have h1 := hk5 k o rfl
  rw [World.size_setCell] at h1
  exact ⟨by omega, h1.2, hoff k rfl⟩, hpost⟩
end Go.Proofs.YtgicljeedegncaaGreat

namespace Go.Proofs.YtgicljeedegncaaGreat
open List renaming getElem_toArray → ZA, getElem_cons_zero → ZB, getElem_cons_succ → ZC, setIfInBounds_toArray → ZD, set_cons_zero → ZE, set_cons_succ → ZF, getElem?_toArray → ZG
open Go.Act renaming put → ZP
open Go.Value renaming int → ZI
open Go.IntKind renaming i64 → ZQ
set_option linter.unusedSimpArgs false
set_option linter.unusedVariables false
open Go.RowKit

theorem packet17_any (n t : Int) (w : World) : Calls Tryz.prog 26 #[ZI ZQ n, ZI ZQ t] w fun e w' => e = .returned (pkA ⟨n, t, 100, true, true, false⟩) ∧ Below w.heap.size w w' := by
 unfold pkA
 go_enter Tryz.func26, Tryz.ntmps26
 go_wp2_with fail
 exact bodyPost_ret (v := .agg #[ZI ZQ n, ZI ZQ t, ZI ZQ 100, .bool true, .bool true, .bool false]) (by simp [results, Tryz.results26, go_sem]) rfl ⟨rfl, (Below.refl _ _).alloc (Nat.le_refl _) _⟩
theorem steady17_any (w : World) : Calls Tryz.prog 18 #[] w fun e w' => e = .returned (.agg #[ZI ZQ 100, ZI ZQ 1, ZI ZQ 100, ZI ZQ 0, ZI ZQ 0]) ∧ Below w.heap.size w w' := by
 go_enter Tryz.func18, Tryz.ntmps18
 go_wp2_with fail
 exact bodyPost_ret (v := .agg #[ZI ZQ 100, ZI ZQ 1, ZI ZQ 100, ZI ZQ 0, ZI ZQ 0]) (by simp [results, Tryz.results18, go_sem]) rfl ⟨rfl, (Below.refl _ _).alloc (Nat.le_refl _) _⟩
theorem rg_info17 : (Tryz.prog.info? 93).map (fun i => (i.zero, i.size, i.bytes)) = some (some (.agg #[ZI ZQ 0, ZI ZQ 0]), 2, 16) := by kernel_rfl
theorem int_info17 : (Tryz.prog.info? 3).map (fun i => (i.zero, i.size, i.bytes)) = some (some (ZI ZQ 0), 1, 8) := by kernel_rfl
/-- A row of integers. -/
def NumsAt (w : World) (a : Option Addr) (ns : List Int) : Prop := ∀ (i : Nat) (z : Int), ns[i]? = some z → ∃ k, a = some ⟨k, 0, none⟩ ∧ k < w.heap.size ∧ w.cell? ⟨k, i, none⟩ = some (ZI ZQ z)
theorem NumsAt.below {w w' : World} {a : Option Addr} {ns : List Int} (h : NumsAt w a ns) (hb : Below w.heap.size w w') : NumsAt w' a ns := fun i z hi => by
 obtain ⟨k, e, hk, hc⟩ := h i z hi
 exact ⟨k, e, Nat.lt_of_lt_of_le hk hb.size, (hb.cell (p := ⟨k, i, none⟩) hk).trans hc⟩
def intVs (ns : List Int) : List Value := ns.map fun z => ZI ZQ z
theorem numsAt_new {w : World} {k t : Nat} {cs : Array Value} {ns : List Int} (h : Blk w k t cs) (e : cs = (intVs ns).toArray) : NumsAt w (some ⟨k, 0, none⟩) ns := fun i z hi => by
 subst e
 exact ⟨k, rfl, h.lt, by rw [h.cell, ZG]; simp [intVs, hi]⟩
theorem own_ints17 {w : World} {base n c : Nat} {a : Option Addr} {ns : List Int} (hn : ns.length = n) (h : w.ownsRow base 3 1 (.slice a n c) n (intVs ns)) : NumsAt w a ns ∧ n ≤ c ∧ ∀ k o, a = some ⟨k, o, none⟩ → base ≤ k ∧ k < w.heap.size := by
 have hlt := h.lt
 rcases own_split h with ⟨h1, h0, _⟩ | ⟨k, cap, cur, e, hbk, hk, hc, hm, hcl, ht⟩
 ·have : ns = [] := List.eq_nil_of_length_eq_zero (by omega)
  subst this
  cases h1
  exact ⟨fun i r hi => by simp at hi, by omega, fun k o e => by cases e⟩
 ·cases e
  refine ⟨fun i z hi => ⟨k, rfl, hk.lt, ?_⟩, hc, fun x o e => by cases e; exact hlt k rfl⟩
  have hil : i < ns.length := (List.getElem?_eq_some_iff.1 hi).1
  rw [hk.cell, ZG]
  have e : (cur.take (n * 1))[i]? = (intVs ns)[i]? := by rw [ht]
  rw [List.getElem?_take, if_pos (by omega)] at e
  rw [e]
  simp [intVs, hi]
set_option maxHeartbeats 2000000 in
theorem numbers17_any (a : Option Addr) (n cap : Nat) (qs : List PK) (w : World) (hn : qs.length = n) (hl : n ≤ 256) (hP : PksAt w a qs) :
  Calls Tryz.prog 24 #[.slice a n cap] w fun e w' => ∃ a2 c2, e = .returned (.slice a2 n c2) ∧ NumsAt w' a2 (qs.map PK.n) ∧ n ≤ c2 ∧ (∀ k o, a2 = some ⟨k, o, none⟩ → w.heap.size ≤ k ∧ k < w'.heap.size) ∧ Below w.heap.size w w' := by
 have HN := hide hn
 have HP := hide hP
 obtain ⟨i0, hi0, hz0, hz1, hz2⟩ := info_parts int_info17
 clear hn hP
 go_enter Tryz.func24, Tryz.ntmps24
 go_wp2_with fail
 go_loopg [3, 4] n (fun kx s3 s4 wr => ∃ i : Nat, s4 = ZI ZQ i ∧ i ≤ n ∧ n - i ≤ kx ∧ wr.ownsRow w.heap.size 3 1 s3 i (intVs ((qs.take i).map PK.n)) ∧ Below w.heap.size w wr)
 case atStart => exact ⟨0, rfl, by omega, by omega, ⟨rfl, .inl ⟨rfl, rfl⟩⟩, Below.refl _ _⟩
 case round =>
  obtain ⟨i, rfl, hi, hkx, hown, hB⟩ := hrel
  by_cases hlt : i < n
  ·obtain ⟨q, hq⟩ : ∃ q, qs[i]? = some q := ⟨_, List.getElem?_eq_getElem (by rw [HN.out]; exact hlt)⟩
   obtain ⟨k, o, rfl, hk, z0, z1, z2, z3, z4, z5⟩ := (HP.out.below hB (Nat.le_refl _)).cells hq
   have HTK : Hid (qs.take (i + 1) = qs.take i ++ [q]) := by show _ = _; rw [List.take_add_one, hq]; rfl
   have hin : (i : Int) < (n : Int) := by omega
   obtain ⟨A8, c8, hv8⟩ := own_slice' hown
   subst hv8
   have hsz := hB.size
   have HOW := hide hown
   have HB := hide hB
   obtain ⟨qn, qt, qz, qe, qf, qc⟩ := q
   dsimp only at z0
   obtain ⟨xs, hxs⟩ : ∃ xs, intVs ((qs.take i).map PK.n) = xs := ⟨_, rfl⟩
   rw [hxs] at HOW
   have HXS := hide hxs
   clear hown hB hq hxs z1 z2 z3 z4 z5
   go_wp2_with (at_builtin; refine wpList_append_any _ rfl (.tmp 11) (.tmp 17) _ rfl w.heap.size 3 i0 _ 1 8 Tryz.underlying29 hi0 hz0 hz1 hz2 rfl (by decide) (.slice A8 i c8) i xs rfl (by exact HOW.out.alloc _) (wr.heap.size + 1) (some ⟨wr.heap.size, 0, none⟩) 1 1 [ZI ZQ qn] rfl (by exact reads_lit (blk_new_at (by simp)) (by simp) rfl) (by simp [Value.oneCell']) (by unfold maxLen; omega) (by omega) (by simp; omega) ?_; intro v8 w8 hown8 hg8 hat8)
   go_roundg (n - (i + 1))
   case rel =>
    refine ⟨i + 1, by go_num, by omega, by omega, ?_, Below.grown (HB.out.alloc hsz _) hg8 (by simp; omega) (fun x hx => (HOW.out.lt x hx).1)⟩
    rw [HTK.out, List.map_append]
    unfold intVs at *
    rw [List.map_append, HXS.out]
    exact hown8
   case measure => omega
  ·obtain rfl : i = n := by omega
   have hin : ¬ (i : Int) < (i : Int) := by omega
   rw [List.take_of_length_le (by rw [HN.out]; exact Nat.le_refl _)] at hown
   obtain ⟨A8, c8, hv8⟩ := own_slice' hown
   subst hv8
   obtain ⟨h1, h2, h3⟩ := own_ints17 (by simp [HN.out]) hown
   go_wp2_with fail
   go_ret
   exact ⟨A8, c8, rfl, h1, h2, h3, hB⟩
set_option maxHeartbeats 2000000 in
theorem eqints_any (a b : Option Addr) (n m c d : Nat) (xs ys : List Int) (w : World) (hn : xs.length = n) (hm : ys.length = m) (hl : n ≤ 1000) (hA : NumsAt w a xs) (hB : NumsAt w b ys) :
  Calls Tryz.prog 23 #[.slice a n c, .slice b m d] w fun e w' => e = .returned (.bool (decide (xs = ys))) ∧ Below w.heap.size w w' := by
 by_cases hnm : n = m
 ·subst hnm
  have HN := hide hn
  have HM := hide hm
  have HA := hide hA
  have HB := hide hB
  clear hn hm hA hB
  go_enter Tryz.func23, Tryz.ntmps23
  go_wp2_with fail
  go_loopg [5] n (fun kx s5 wr => ∃ i : Nat, s5 = ZI ZQ i ∧ i ≤ n ∧ n - i ≤ kx ∧ Hid (xs.take i = ys.take i) ∧ Below w.heap.size w wr)
  case atStart => exact ⟨0, rfl, by omega, by omega, rfl, Below.refl _ _⟩
  case round =>
   obtain ⟨i, rfl, hi, hkx, heq, hW⟩ := hrel
   by_cases hlt : i < n
   ·obtain ⟨x, hx⟩ : ∃ x, xs[i]? = some x := ⟨_, List.getElem?_eq_getElem (by rw [HN.out]; exact hlt)⟩
    obtain ⟨y, hy⟩ : ∃ y, ys[i]? = some y := ⟨_, List.getElem?_eq_getElem (by rw [HM.out]; exact hlt)⟩
    obtain ⟨k, rfl, hk, z0⟩ := (HA.out.below hW) i x hx
    obtain ⟨k2, rfl, hk2, z1⟩ := (HB.out.below hW) i y hy
    have hin : (i : Int) < (n : Int) := by omega
    have HX := hide hx
    have HY := hide hy
    have HE := heq
    have HW := hide hW
    clear hx hy heq hW
    by_cases hxy : x = y
    ·subst hxy
     go_wp2_with fail
     go_quiet (fail)
     go_wp2_with fail
     go_roundg (n - (i + 1))
     case rel => exact ⟨i + 1, by go_num, by omega, by omega, (by show _ = _; rw [List.take_add_one, List.take_add_one, HX.out, HY.out, HE.out]), below_drewN HW.out _⟩
     case measure => omega
    ·have hne : (x == y) = false := by simpa using hxy
     go_wp2_with fail
     go_quiet (fail)
     go_wp2_with fail
     go_ret
     refine ⟨?_, below_drewN HW.out _⟩
     rw [decide_eq_false (fun e => hxy (by have h1 := HX.out; rw [e, HY.out] at h1; exact (Option.some.inj h1).symm))]
     rfl
   ·obtain rfl : i = n := by omega
    have hin : ¬ (i : Int) < (i : Int) := by omega
    have HE := heq
    clear heq
    go_wp2_with fail
    go_ret
    refine ⟨?_, hW⟩
    have h1 : xs.take i = ys.take i := HE.out
    rw [List.take_of_length_le (by rw [HN.out]; exact Nat.le_refl _), List.take_of_length_le (by rw [HM.out]; exact Nat.le_refl _)] at h1
    rw [decide_eq_true h1]
    rfl
 ·have hne : (n : Int) ≠ (m : Int) := by omega
  have HN := hide hn
  have HM := hide hm
  clear hn hm hA hB
  go_enter Tryz.func23, Tryz.ntmps23
  go_wp2_with fail
  go_ret
  refine ⟨?_, Below.refl _ _⟩
  rw [decide_eq_false (fun e => hnm (by rw [← HN.out, ← HM.out, e]))]
  rfl
end Go.Proofs.YtgicljeedegncaaGreat

namespace Go.Proofs.YtgicljeedegncaaGreat
open List renaming getElem_toArray → ZA, getElem_cons_zero → ZB, getElem_cons_succ → ZC, setIfInBounds_toArray → ZD, set_cons_zero → ZE, set_cons_succ → ZF, getElem?_toArray → ZG
open Go.Act renaming put → ZP
open Go.Value renaming int → ZI
open Go.IntKind renaming i64 → ZQ
set_option linter.unusedSimpArgs false
set_option linter.unusedVariables false
open Go.RowKit

structure AkL (w W : World) (v : Value) (i : Nat) (xs : List Value) : Prop where
 res : Blk W w.heap.size 52 #[ZI ZQ 0, .slice none 0 0, .bool false, ZI ZQ 0, ZI ZQ 0, ZI ZQ 0]
 cur : Blk W (w.heap.size + 1) 52 #[ZI ZQ 0, v, .bool false, ZI ZQ 0, ZI ZQ 0, ZI ZQ 0]
 own : W.ownsRow (w.heap.size + 2) 93 2 v i xs
 below : Below w.heap.size w W
theorem AkL.push {w W Wa W' : World} {v v' : Value} {i : Nat} {xs xs' : List Value} (h : AkL w W v i xs) (hsz : w.heap.size + 2 ≤ W.heap.size) (hW : Below W.heap.size W Wa) (hg : Wa.grownBy W' v.ownBlock) (hown : W'.ownsRow (w.heap.size + 2) 93 2 v' (i + 1) xs') :
  AkL w (W'.setCell ⟨w.heap.size + 1, 1, none⟩ v') v' (i + 1) xs' ∧ w.heap.size + 2 ≤ (W'.setCell ⟨w.heap.size + 1, 1, none⟩ v').heap.size := by
 have hlt : ∀ k, v.ownBlock = some k → w.heap.size + 2 ≤ k := fun k hk => (h.own.lt k hk).1
 have h1 := blk_grown (show Blk Wa _ _ _ from (hW.block _ h.res.lt).trans h.res) hg (fun e => by have := hlt _ e.symm; omega)
 have h2 := blk_grown (show Blk Wa _ _ _ from (hW.block _ h.cur.lt).trans h.cur) hg (fun e => by have := hlt _ e.symm; omega)
 have hz := hW.size
 have hz2 := hg.size
 have hb : Below w.heap.size w W' := Below.grown (bw_below' h.below hW) hg (by omega) (fun k hk => by have := hlt k hk; omega)
 refine ⟨⟨h1.far (by simp) _, (h2.set 1 v').eq rfl, own_only2 (S := [w.heap.size + 1]) hown ((Only.refl _ _).setCell (.inl (by simp)) _) (fun k hk hm => by simp at hm; have := (hown.lt k hk).1; omega), hb.setCell (p := ⟨w.heap.size + 1, 1, none⟩) (by simp) _⟩, by rw [World.size_setCell]; omega⟩
def Ack17Post (w : World) (n : Nat) (rs : List Rg) (e : Ending) (w' : World) : Prop := ∃ a2 c2, e = .returned (.agg (ackC a2 n c2)) ∧ RgAt w' a2 rs ∧ (∀ k o, a2 = some ⟨k, o, none⟩ → w.heap.size ≤ k ∧ k < w'.heap.size) ∧ Below w.heap.size w w'
theorem own_rg17 {w : World} {base n c : Nat} {a : Option Addr} {rs : List Rg} (hn : rs.length = n) (h : w.ownsRow base 93 2 (.slice a n c) n (rgsCells rs)) : RgAt w a rs ∧ ∀ k o, a = some ⟨k, o, none⟩ → base ≤ k ∧ k < w.heap.size := ⟨own_rgat hn h, fun k o e => by subst e; exact h.lt k rfl⟩
set_option maxRecDepth 100000 in
set_option maxHeartbeats 4000000 in
theorem ack17_any (a : Option Addr) (n cap : Nat) (rs : List Rg) (w : World) (hn : rs.length = n) (hl : n ≤ 3) (hR : RgAt w a rs) :
  Calls Tryz.prog 22 #[.slice a n cap] w (Ack17Post w n rs) := by
 have HN := hide hn
 have HR := hide hR
 obtain ⟨i0, hi0, hz0, hz1, hz2⟩ := info_parts rg_info17
 have h0 : AkL w ((w.alloc (.cells #[ZI ZQ 0, .slice none 0 0, .bool false, ZI ZQ 0, ZI ZQ 0, ZI ZQ 0] 52)).alloc (.cells #[ZI ZQ 0, .slice none 0 0, .bool false, ZI ZQ 0, ZI ZQ 0, ZI ZQ 0] 52)) (.slice none 0 0) 0 (rgsCells (rs.take 0)) :=
  ⟨(Blk.new _ _ _).alloc _, blk_new_at (by simp), ⟨rfl, .inl ⟨rfl, rfl⟩⟩, ((Below.refl _ _).alloc (Nat.le_refl _) _).alloc (by simp) _⟩
 have H0 := hide h0
 have hs0 : w.heap.size + 2 ≤ ((w.alloc (.cells #[ZI ZQ 0, .slice none 0 0, .bool false, ZI ZQ 0, ZI ZQ 0, ZI ZQ 0] 52)).alloc (.cells #[ZI ZQ 0, .slice none 0 0, .bool false, ZI ZQ 0, ZI ZQ 0, ZI ZQ 0] 52)).heap.size := by simp
 have HS0 := hide hs0
 clear hn hR h0 hs0
 go_enter Tryz.func22, Tryz.ntmps22
 go_wp2_with fail
 go_loopg [4] n (fun kx s4 wr => ∃ (i : Nat) (v : Value), s4 = ZI ZQ i ∧ i ≤ n ∧ n - i ≤ kx ∧ AkL w wr v i (rgsCells (rs.take i)) ∧ w.heap.size + 2 ≤ wr.heap.size)
 case atStart => exact ⟨0, _, rfl, by omega, by omega, H0.out, HS0.out⟩
 case round =>
  clear H0 HS0
  obtain ⟨i, v, rfl, hi, hkx, hA, hsz⟩ := hrel
  by_cases hlt : i < n
  ·obtain ⟨r, hr⟩ : ∃ r, rs[i]? = some r := ⟨_, List.getElem?_eq_getElem (by rw [HN.out]; exact hlt)⟩
   obtain ⟨k, rfl, hk, z0, z1⟩ := (HR.out.below hA.below) i r hr
   have HTK : Hid (rs.take (i + 1) = rs.take i ++ [r]) := by show _ = _; rw [List.take_add_one, hr]; rfl
   have hin : (i : Int) < (n : Int) := by omega
   obtain ⟨A8, c8, hv8⟩ := own_slice' hA.own
   subst hv8
   have x1 : wr.cell? ⟨w.heap.size + 1, 1, none⟩ = some (.slice A8 i c8) := hA.cur.cell 1
   have f1 := hA.cur.frozen 1
   have hcl := hA.cur.lt
   have hcur := hA.cur
   have hneo : some (w.heap.size + 1) ≠ (Value.slice A8 i c8).ownBlock := fun e => by
    have := (hA.own.lt _ e.symm).1
    omega
   obtain ⟨xs, hxs⟩ : ∃ xs, rgsCells (rs.take i) = xs := ⟨_, rfl⟩
   have hown := hA.own
   rw [hxs] at hown
   have HXS := hide hxs
   have HA := hide hA
   obtain ⟨rlo, rhi⟩ := r
   dsimp only at z0 z1
   clear hA hr hxs
   go_wp2_with fail
   go_region_law (refine step_append_any _ rfl (.tmp 12) (.tmp 24) _ rfl (w.heap.size + 2) 93 i0 _ 2 16 Tryz.underlying50 hi0 hz0 hz1 hz2 rfl (by decide) (.slice A8 i c8) i xs rfl (by exact hown.alloc _) (wr.heap.size + 1) (some ⟨wr.heap.size, 0, none⟩) 1 1 [ZI ZQ rlo, ZI ZQ rhi] rfl (by exact reads_lit (blk_new_at (by simp)) (by simp) rfl) (by simp [Value.oneCell']) (by unfold maxLen; omega) (by omega) (by simp; omega) ?_; intro v8 w8 hown8 hg8 hat8; obtain ⟨g8, cap8, rfl⟩ := own_form hown8; have hcur8 := blk_grown (t := 52) (by exact (hcur.alloc _)) hg8 hneo; have d0 : w8.cell? ⟨w.heap.size + 1, 1, none⟩ = some (.slice A8 i c8) := hcur8.cell 1; have d1 := hcur8.frozen 1)
   all_goals
    have hpush := HA.out.push (v' := .slice (some ⟨g8, 0, none⟩) (i + 1) cap8) (xs' := rgsCells (rs.take (i + 1))) hsz (by first | exact ((Below.refl _ _).alloc (Nat.le_refl _) _).drew | exact (Below.refl _ _).alloc (Nat.le_refl _) _ | exact ((Below.refl _ _).drew.alloc (Nat.le_refl _) _)) hg8 (by
     have e1 : rgsCells (rs.take (i + 1)) = xs ++ [ZI ZQ rlo, ZI ZQ rhi] := by
      rw [HTK.out]
      unfold rgsCells at *
      rw [List.flatMap_append, HXS.out]
      rfl
     rw [e1]
     exact hown8)
    go_wp2_with fail
    go_roundg (n - (i + 1))
    case rel => exact ⟨i + 1, _, by go_num, by omega, by omega, hpush.1, hpush.2⟩
    case measure => omega
  ·obtain rfl : i = n := by omega
   have hin : ¬ (i : Int) < (i : Int) := by omega
   rw [List.take_of_length_le (by rw [HN.out]; exact Nat.le_refl _)] at hA
   obtain ⟨A8, c8, hv8⟩ := own_slice' hA.own
   subst hv8
   have x0 : wr.cell? ⟨w.heap.size + 1, 0, none⟩ = some (ZI ZQ 0) := hA.cur.cell 0
   have x1 : wr.cell? ⟨w.heap.size + 1, 1, none⟩ = some (.slice A8 i c8) := hA.cur.cell 1
   have x2 : wr.cell? ⟨w.heap.size + 1, 2, none⟩ = some (.bool false) := hA.cur.cell 2
   have x3 : wr.cell? ⟨w.heap.size + 1, 3, none⟩ = some (ZI ZQ 0) := hA.cur.cell 3
   have x4 : wr.cell? ⟨w.heap.size + 1, 4, none⟩ = some (ZI ZQ 0) := hA.cur.cell 4
   have x5 : wr.cell? ⟨w.heap.size + 1, 5, none⟩ = some (ZI ZQ 0) := hA.cur.cell 5
   have y0 : wr.cell? ⟨w.heap.size, 0, none⟩ = some (ZI ZQ 0) := hA.res.cell 0
   have f0 : wr.frozen? ⟨w.heap.size, 0, none⟩ = false := hA.res.frozen 0
   have y1 : wr.cell? ⟨w.heap.size, 1, none⟩ = some (.slice none 0 0) := hA.res.cell 1
   have f1 : wr.frozen? ⟨w.heap.size, 1, none⟩ = false := hA.res.frozen 1
   have y2 : wr.cell? ⟨w.heap.size, 2, none⟩ = some (.bool false) := hA.res.cell 2
   have f2 : wr.frozen? ⟨w.heap.size, 2, none⟩ = false := hA.res.frozen 2
   have y3 : wr.cell? ⟨w.heap.size, 3, none⟩ = some (ZI ZQ 0) := hA.res.cell 3
   have f3 : wr.frozen? ⟨w.heap.size, 3, none⟩ = false := hA.res.frozen 3
   have y4 : wr.cell? ⟨w.heap.size, 4, none⟩ = some (ZI ZQ 0) := hA.res.cell 4
   have f4 : wr.frozen? ⟨w.heap.size, 4, none⟩ = false := hA.res.frozen 4
   have y5 : wr.cell? ⟨w.heap.size, 5, none⟩ = some (ZI ZQ 0) := hA.res.cell 5
   have f5 : wr.frozen? ⟨w.heap.size, 5, none⟩ = false := hA.res.frozen 5
   obtain ⟨h1, h2⟩ := own_rg17 HN.out hA.own
   have HA := hide hA
   clear hA
   go_wp2_with fail
   have hfin : Blk ((((((wr.setCell ⟨w.heap.size, 0, none⟩ (ZI ZQ 0)).setCell ⟨w.heap.size, 1, none⟩ (.slice A8 i c8)).setCell ⟨w.heap.size, 2, none⟩ (.bool false)).setCell ⟨w.heap.size, 3, none⟩ (ZI ZQ 0)).setCell ⟨w.heap.size, 4, none⟩ (ZI ZQ 0)).setCell ⟨w.heap.size, 5, none⟩ (ZI ZQ 0)) w.heap.size 52 #[ZI ZQ 0, .slice A8 i c8, .bool false, ZI ZQ 0, ZI ZQ 0, ZI ZQ 0] := ((((((HA.out.res.set 0 _).set 1 _).set 2 _).set 3 _).set 4 _).set 5 _).eq rfl
   have hO : Only [w.heap.size] wr ((((((wr.setCell ⟨w.heap.size, 0, none⟩ (ZI ZQ 0)).setCell ⟨w.heap.size, 1, none⟩ (.slice A8 i c8)).setCell ⟨w.heap.size, 2, none⟩ (.bool false)).setCell ⟨w.heap.size, 3, none⟩ (ZI ZQ 0)).setCell ⟨w.heap.size, 4, none⟩ (ZI ZQ 0)).setCell ⟨w.heap.size, 5, none⟩ (ZI ZQ 0)) := ((((((Only.refl _ _).setCell (.inl (by simp)) _).setCell (.inl (by simp)) _).setCell (.inl (by simp)) _).setCell (.inl (by simp)) _).setCell (.inl (by simp)) _).setCell (.inl (by simp)) _
   generalize ((((((wr.setCell ⟨w.heap.size, 0, none⟩ (ZI ZQ 0)).setCell ⟨w.heap.size, 1, none⟩ (.slice A8 i c8)).setCell ⟨w.heap.size, 2, none⟩ (.bool false)).setCell ⟨w.heap.size, 3, none⟩ (ZI ZQ 0)).setCell ⟨w.heap.size, 4, none⟩ (ZI ZQ 0)).setCell ⟨w.heap.size, 5, none⟩ (ZI ZQ 0)) = W9 at *
   have c0 : W9.cell? ⟨w.heap.size, 0, none⟩ = some (ZI ZQ 0) := hfin.cell 0
   have c1 : W9.cell? ⟨w.heap.size, 1, none⟩ = some (.slice A8 i c8) := hfin.cell 1
   have c2 : W9.cell? ⟨w.heap.size, 2, none⟩ = some (.bool false) := hfin.cell 2
   have c3 : W9.cell? ⟨w.heap.size, 3, none⟩ = some (ZI ZQ 0) := hfin.cell 3
   have c4 : W9.cell? ⟨w.heap.size, 4, none⟩ = some (ZI ZQ 0) := hfin.cell 4
   have c5 : W9.cell? ⟨w.heap.size, 5, none⟩ = some (ZI ZQ 0) := hfin.cell 5
   exact bodyPost_ret (v := .agg (ackC A8 i c8)) (by simp [results, Tryz.results22, go_sem, c0, c1, c2, c3, c4, c5, ackC]) rfl ⟨A8, c8, rfl, h1.only hO (fun k e hm => by simp at hm; have := (h2 k 0 e).1; omega), fun k o e => by have h3 := h2 k o e; have := hO.size; omega, HA.out.below.trans (hO.below (fun x hx => by simp at hx; omega) HA.out.below.size)⟩
end Go.Proofs.YtgicljeedegncaaGreat
