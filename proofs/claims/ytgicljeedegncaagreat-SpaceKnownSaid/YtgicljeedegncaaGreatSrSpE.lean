/-
 The document's answer: Find where it answers a code, and Lose. Printed by wip/gensrspe.py.
-/
import Derived.Test.YtgicljeedegncaaGreatSrSpD
namespace Go.Proofs.YtgicljeedegncaaGreat
open List renaming getElem_toArray → ZA, getElem_cons_zero → ZB, getElem_cons_succ → ZC, setIfInBounds_toArray → ZD, set_cons_zero → ZE, set_cons_succ → ZF
open Go.AllReadyH renaming cons → ZS, nil → ZN
open Go.Act renaming put → ZP
open Go.Value renaming int → ZI
open Go.IntKind renaming i64 → ZQ
set_option linter.unusedSimpArgs false
set_option linter.unusedVariables false
open Go.RowKit

set_option maxRecDepth 100000 in
set_option maxHeartbeats 2000000 in
theorem r09find_no (a : Option Addr) (n cap : Nat) (qs : List PK) (acked now : Int) (r : RT) (w : World) (z : Int) (hz : loseE now r = z) (hz0 : z ≠ 0) (hsm : -9223372036854775808 ≤ r.smooth ∧ r.smooth ≤ 9223372036854775807) (hn : qs.length = n) (hl : n ≤ 256) (hP : PksAt w a qs) (ha : ∀ k o, a = some ⟨k, o, none⟩ → k < w.heap.size) (hck : checkL qs = 0)
  (a0 : -1 ≤ acked) (a1 : acked ≤ 9007199254740991) :
  Calls Tryz.prog 83 #[.slice a n cap, ZI ZQ acked, ZI ZQ now, rtV r] w fun e w' => e = .returned (.tuple #[.slice none 0 0, .slice none 0 0, ZI ZQ 0, ZI ZQ z]) ∧ Below w.heap.size w w' := by
 have HCR := hide (fun W => r07check_any r W hsm)
 have HIT := hide (fun W => r09time_any now W)
 unfold loseE at hz
 obtain ⟨rl, rm, rz, rv, rf⟩ := r
 unfold rtV at HCR ⊢
 dsimp only at HCR hz hsm ⊢
 have hba : Below w.heap.size w (w.alloc (.cells #[ZI ZQ rl, ZI ZQ rm, ZI ZQ rz, ZI ZQ rv, ZI ZQ rf] 45)) := (Below.refl _ _).alloc (Nat.le_refl _) _
 have hx := Blk.new w 45 #[ZI ZQ rl, ZI ZQ rm, ZI ZQ rz, ZI ZQ rv, ZI ZQ rf]
 have HCK := hide (r09check_any a n cap qs (w.alloc (.cells #[ZI ZQ rl, ZI ZQ rm, ZI ZQ rz, ZI ZQ rv, ZI ZQ rf] 45)) hn (hP.below hba (Nat.le_refl _)) (fun k o e => Nat.lt_of_lt_of_le (ha k o e) hba.size))
 rw [hck] at HCK
 have HB := hide hba
 have HX := hide hx
 have na0 : ¬ acked < -1 := by omega
 have na1 : ¬ 9007199254740991 < acked := by omega
 clear hn hP ha hck hba hx
 cases hit : isT now with
 | false =>
  rw [hit] at hz
  have hz9 : z = 9 := by rw [← hz]; rfl
  subst hz9
  rw [hit] at HIT
  clear hz hit
  go_enter Tryz.func83, Tryz.ntmps83
  go_wp2_with fail
  refine HCK.out.mono ?_
  rintro e1 w1 ⟨rfl, hb1⟩
  have HB1 := hide (bw_below' HB.out hb1)
  clear hb1 HCK HB HX
  go_wp2_with fail
  refine (HIT.out _).mono ?_
  rintro e2 w2 ⟨rfl, rfl⟩
  go_wp2_with fail
  exact bodyPost_ret (v := .tuple #[.slice none 0 0, .slice none 0 0, ZI ZQ 0, ZI ZQ 9]) (by simp [results, Tryz.results83, go_sem]) rfl ⟨rfl, HB1.out⟩
 | true =>
  rw [hit] at hz
  have hrt : ¬ rtC ⟨rl, rm, rz, rv, rf⟩ = true := fun h => by rw [if_pos rfl, if_pos h] at hz; exact hz0 hz.symm
  have hz2 : z = 2 := by rw [← hz, if_pos rfl, if_neg hrt]
  subst hz2
  rw [if_neg hrt] at HCR
  rw [hit] at HIT
  clear hz hit hrt
  go_enter Tryz.func83, Tryz.ntmps83
  go_wp2_with fail
  refine HCK.out.mono ?_
  rintro e1 w1 ⟨rfl, hb1⟩
  have hx1 : Blk w1 w.heap.size 45 #[ZI ZQ rl, ZI ZQ rm, ZI ZQ rz, ZI ZQ rv, ZI ZQ rf] := (hb1.block _ HX.out.lt).trans HX.out
  have HB1 := hide (bw_below' HB.out hb1)
  have HX1 := hide hx1
  clear hb1 hx1 HCK HB HX
  go_wp2_with fail
  refine (HIT.out _).mono ?_
  rintro e2 w2 ⟨rfl, rfl⟩
  have x0 := HX1.out.cell 0
  have x1 := HX1.out.cell 1
  have x2 := HX1.out.cell 2
  have x3 := HX1.out.cell 3
  have x4 := HX1.out.cell 4
  go_wp2_with fail
  refine (HCR.out _).mono ?_
  rintro e3 w3 ⟨rfl, hb3⟩
  have HB3 := hide (bw_below' HB1.out hb3)
  clear hb3 HB1 HX1 x0 x1 x2 x3 x4
  go_wp2_with fail
  exact bodyPost_ret (v := .tuple #[.slice none 0 0, .slice none 0 0, ZI ZQ 0, ZI ZQ 2]) (by simp [results, Tryz.results83, go_sem]) rfl ⟨rfl, HB3.out⟩
/-- The document's space on the way; the measures' box lies as it lay. -/
structure RlAt (w1 W : World) (d : Dt) (s' : SpSt) (X : Nat) (r : RT) : Prop where
 post : RsPost w1 d s' d W
 box : Blk w1 X 45 #[ZI ZQ r.latest, ZI ZQ r.min, ZI ZQ r.smooth, ZI ZQ r.var, ZI ZQ r.first]
 nx : X ∉ d.own
section
variable {w1 W W' : World} {d : Dt} {s' s2 : SpSt} {X : Nat} {r : RT}
theorem RlAt.later (h : RlAt w1 W d s' X r) (hb : Below W.heap.size W W') : RlAt w1 W' d s' X r := ⟨h.post.below hb, h.box, h.nx⟩
theorem RlAt.step (h : RlAt w1 W d s' X r) (hp : RsPost W d s2 d W') : RlAt w1 W' d s2 X r := ⟨h.post.trans hp, h.box, h.nx⟩
theorem RlAt.cells (h : RlAt w1 W d s' X r) : W.cell? ⟨d.m, 0, none⟩ = some (.pointer (some ⟨d.lb, 0, none⟩)) ∧ W.cell? ⟨d.m, 3, none⟩ = some (ZI ZQ s'.great) ∧ W.cell? ⟨X, 0, none⟩ = some (ZI ZQ r.latest) ∧ W.cell? ⟨X, 1, none⟩ = some (ZI ZQ r.min) ∧ W.cell? ⟨X, 2, none⟩ = some (ZI ZQ r.smooth) ∧ W.cell? ⟨X, 3, none⟩ = some (ZI ZQ r.var) ∧ W.cell? ⟨X, 4, none⟩ = some (ZI ZQ r.first) := by
 have hc := h.post.rs.six
 have hb : Blk W X 45 #[ZI ZQ r.latest, ZI ZQ r.min, ZI ZQ r.smooth, ZI ZQ r.var, ZI ZQ r.first] := h.post.only.blk h.box h.nx
 exact ⟨hc.1, hc.2.2.2.1, hb.cell 0, hb.cell 1, hb.cell 2, hb.cell 3, hb.cell 4⟩
end
theorem dropL_all (qs : List PK) (q : PK) (ps : List Pk) : dropL allP (qs ++ [q]) ps = without q.n (dropL allP qs ps) := by rw [dropL_snoc]; rfl
set_option maxRecDepth 100000 in
set_option maxHeartbeats 8000000 in
theorem r17lose_any (d : Dt) (s : SpSt) (now : Int) (r : RT) (w : World) (h : IsRs w d s) (g0 : -1 ≤ s.great) (g1 : s.great ≤ 9007199254740991) (hsm : -9223372036854775808 ≤ r.smooth ∧ r.smooth ≤ 9223372036854775807) (hmay : ∀ p ∈ s.ps, p.may) (hln : s.ps.length ≤ 256) (hck : checkL (s.ps.map toPK) = 0) :
  Calls Tryz.prog 35 #[.pointer (some ⟨d.m, 0, none⟩), ZI ZQ now, rtV r] w (ToldrPost w d (loseS s now r) (loseL s now r) (loseE now r)) := by
 have hnm : ∀ q ∈ s.ps.map toPK, 0 ≤ q.n ∧ q.n ≤ 9007199254740991 ∧ 0 ≤ q.t ∧ q.t ≤ 9007199254740991 := fun q hq => by
  obtain ⟨p, hp, rfl⟩ := List.mem_map.1 hq
  have := hmay p hp
  unfold Pk.may at this
  unfold toPK
  dsimp only
  omega
 have hb0 : Below w.heap.size w (w.alloc (.cells #[ZI ZQ r.latest, ZI ZQ r.min, ZI ZQ r.smooth, ZI ZQ r.var, ZI ZQ r.first] 45)) := (Below.refl _ _).alloc (Nat.le_refl _) _
 have h1 : RlAt (w.alloc (.cells #[ZI ZQ r.latest, ZI ZQ r.min, ZI ZQ r.smooth, ZI ZQ r.var, ZI ZQ r.first] 45)) (w.alloc (.cells #[ZI ZQ r.latest, ZI ZQ r.min, ZI ZQ r.smooth, ZI ZQ r.var, ZI ZQ r.first] 45)) d s w.heap.size r :=
  ⟨RsPost.refl (h.below hb0), Blk.new _ _ _, fun hm => by have := h.lt _ (.inl hm); omega⟩
 have HB0 := hide hb0
 have HMAY := hide hmay
 have HLN := hide hln
 have HH := hide h
 obtain ⟨y0, y3, x0, x1, x2, x3, x4⟩ := h1.cells
 have HQ := hide h1
 clear h hb0 h1 hmay
 by_cases hz : loseE now r = 0
 ·have he1 : isT now = true := by
   cases e : isT now with
   | true => rfl
   | false => unfold loseE at hz; rw [e] at hz; cases hz
  have he2 : rtC r = true := by
   cases e : rtC r with
   | true => rfl
   | false => unfold loseE at hz; rw [he1, e] at hz; cases hz
  have hbt := isT_iff.1 he1
  have HFN := hide (fun W a n cap qs hn hl hP ha hck ht => r09find_ok a n cap qs s.great now r W he2 hn hl hP ha hck ht g0 g1 hbt.1 hbt.2)
  unfold loseS loseL
  rw [if_pos hz, if_pos hz, hz]
  clear hz he1 he2 hbt
  unfold rtV at HFN ⊢
  go_enter Tryz.func35, Tryz.ntmps35
  go_upto_region 1 with (fail)
  refine wp_region_held_drew (S := (fun w' => w'.cell? ⟨d.m, 0, none⟩ = some (.pointer (some ⟨d.lb, 0, none⟩)) ∧ w'.cell? ⟨d.m, 3, none⟩ = some (ZI ZQ s.great) ∧ w'.cell? ⟨w.heap.size, 0, none⟩ = some (ZI ZQ r.latest) ∧ w'.cell? ⟨w.heap.size, 1, none⟩ = some (ZI ZQ r.min) ∧ w'.cell? ⟨w.heap.size, 2, none⟩ = some (ZI ZQ r.smooth) ∧ w'.cell? ⟨w.heap.size, 3, none⟩ = some (ZI ZQ r.var) ∧ w'.cell? ⟨w.heap.size, 4, none⟩ = some (ZI ZQ r.first))) (by kernel_rfl) (by exact (HQ.out.later (Below.refl _ _).drew).cells) (fun hHeld => ?_)
  refine tkP 0 ?_ rfl ?_ ?_
  rotate_left
  ·intro w' hSw; (try dsimp only at hSw); go_simp; try with_reducible rfl
  try simp only [ZP, ZA, ZB, ZC, ZD, ZE, ZF]
  refine tkP 1 ?_ rfl ?_ ?_
  rotate_left
  ·intro w' hSw; (try dsimp only at hSw); go_simp; try with_reducible rfl
  try simp only [ZP, ZA, ZB, ZC, ZD, ZE, ZF]
  refine tkP 2 ?_ rfl ?_ ?_
  rotate_left
  ·intro w' hSw; (try dsimp only at hSw); go_simp; try with_reducible rfl
  try simp only [ZP, ZA, ZB, ZC, ZD, ZE, ZF]
  refine tkP 3 ?_ rfl ?_ ?_
  rotate_left
  ·intro w' hSw; (try dsimp only at hSw); obtain ⟨y0, y3, x0, x1, x2, x3, x4⟩ := hSw; go_simp; try with_reducible rfl
  try simp only [ZP, ZA, ZB, ZC, ZD, ZE, ZF]
  refine tkP 5 ?_ rfl ?_ ?_
  rotate_left
  ·intro w' hSw; (try dsimp only at hSw); go_simp; try with_reducible rfl
  try simp only [ZP, ZA, ZB, ZC, ZD, ZE, ZF]
  refine tkP 6 ?_ rfl ?_ ?_
  rotate_left
  ·intro w' hSw; (try dsimp only at hSw); go_simp; try with_reducible rfl
  try simp only [ZP, ZA, ZB, ZC, ZD, ZE, ZF]
  refine tkP 7 ?_ rfl ?_ ?_
  rotate_left
  ·intro w' hSw; (try dsimp only at hSw); go_simp; try with_reducible rfl
  try simp only [ZP, ZA, ZB, ZC, ZD, ZE, ZF]
  refine tkP 8 ?_ rfl ?_ ?_
  rotate_left
  ·intro w' hSw; (try dsimp only at hSw); obtain ⟨y0, y3, x0, x1, x2, x3, x4⟩ := hSw; go_simp; try with_reducible rfl
  try simp only [ZP, ZA, ZB, ZC, ZD, ZE, ZF]
  refine tkP 9 ?_ rfl ?_ ?_
  rotate_left
  ·intro w' hSw; (try dsimp only at hSw); go_simp; try with_reducible rfl
  try simp only [ZP, ZA, ZB, ZC, ZD, ZE, ZF]
  refine tkP 10 ?_ rfl ?_ ?_
  rotate_left
  ·intro w' hSw; (try dsimp only at hSw); obtain ⟨y0, y3, x0, x1, x2, x3, x4⟩ := hSw; go_simp; try with_reducible rfl
  try simp only [ZP, ZA, ZB, ZC, ZD, ZE, ZF]
  refine tkR [4] ?_
  refine ZS rfl (fun K hK => ?_) ZN
  go_simp; go_at_call 80; refine (rall_any _ _ _ _ _ (HQ.out.later (Below.refl _ _).drew).post.rs.log).mono ?_; rintro e2 w2 ⟨v2, rfl, hv2, hb2⟩
  obtain ⟨a2, c2, rfl⟩ := own_slice' hv2
  rw [← pkcs_toPK] at hv2
  have HQ2 := hide ((HQ.out.later (Below.refl _ _).drew).later hb2)
  have HP2 := hide (own_pk3 (by simp) hv2 (fun p hp => by obtain ⟨q, hq, rfl⟩ := List.mem_map.1 hp; exact toPK_small (HMAY.out q hq)))
  clear hv2 hb2 hHeld
  refine hK.out _ _ (HQ2.out.cells) (fun hHeld => ?_)
  clear hK K
  try simp only [ZP, ZA, ZB, ZC, ZD, ZE, ZF]
  refine tkR [11] ?_
  refine ZS rfl (fun K hK => ?_) ZN
  go_simp; go_at_call 83; refine (HFN.out _ a2 s.ps.length c2 (s.ps.map toPK) (by simp) HLN.out HP2.out.1 (fun k o e => (HP2.out.2.2 k o e).2) hck hnm).mono ?_; rintro e3 w3 ⟨v3, v4, rfl, hv3, hb3⟩
  have HQ3 := hide (HQ2.out.later hb3)
  have HV3 := hide (And.intro hv3 (show d.lb < w2.heap.size from HQ2.out.post.rs.log.lt))
  have HZ3 := hide (And.intro (show (w.alloc (.cells #[ZI ZQ r.latest, ZI ZQ r.min, ZI ZQ r.smooth, ZI ZQ r.var, ZI ZQ r.first] 45)).heap.size ≤ w2.heap.size from HQ2.out.post.only.size) (show w2.heap.size ≤ w3.heap.size from hb3.size))
  clear hv3 hb3 hHeld
  refine hK.out _ _ (HQ3.out.cells) (fun hHeld => ?_)
  clear hK K
  try simp only [ZP, ZA, ZB, ZC, ZD, ZE, ZF]
  refine tkP 12 ?_ rfl ?_ ?_
  rotate_left
  ·intro w' hSw; (try dsimp only at hSw); go_simp; try with_reducible rfl
  try simp only [ZP, ZA, ZB, ZC, ZD, ZE, ZF]
  refine tkP 13 ?_ rfl ?_ ?_
  rotate_left
  ·intro w' hSw; (try dsimp only at hSw); go_simp; try with_reducible rfl
  try simp only [ZP, ZA, ZB, ZC, ZD, ZE, ZF]
  refine tkP 14 ?_ rfl ?_ ?_
  rotate_left
  ·intro w' hSw; (try dsimp only at hSw); go_simp; try with_reducible rfl
  try simp only [ZP, ZA, ZB, ZC, ZD, ZE, ZF]
  refine tkP 15 ?_ rfl ?_ ?_
  rotate_left
  ·intro w' hSw; (try dsimp only at hSw); go_simp; try with_reducible rfl
  try simp only [ZP, ZA, ZB, ZC, ZD, ZE, ZF]
  refine tkP 16 ?_ rfl ?_ ?_
  rotate_left
  ·intro w' hSw; (try dsimp only at hSw); go_simp; try with_reducible rfl
  try simp only [ZP, ZA, ZB, ZC, ZD, ZE, ZF]
  refine tkP 17 ?_ rfl ?_ ?_
  rotate_left
  ·intro w' hSw; (try dsimp only at hSw); go_simp; try with_reducible rfl
  try simp only [ZP, ZA, ZB, ZC, ZD, ZE, ZF]
  refine tkP 18 ?_ rfl ?_ ?_
  rotate_left
  ·intro w' hSw; (try dsimp only at hSw); go_simp; try with_reducible rfl
  try simp only [ZP, ZA, ZB, ZC, ZD, ZE, ZF]
  refine tkP 19 ?_ rfl ?_ ?_
  rotate_left
  ·intro w' hSw; (try dsimp only at hSw); go_simp; try with_reducible rfl
  try simp only [ZP, ZA, ZB, ZC, ZD, ZE, ZF]
  refine tkP 20 ?_ rfl ?_ ?_
  rotate_left
  ·intro w' hSw; (try dsimp only at hSw); go_simp; try with_reducible rfl
  try simp only [ZP, ZA, ZB, ZC, ZD, ZE, ZF]
  refine wpAnyH_done (by kernel_rfl) ?_ _
  clear hHeld
  obtain ⟨A, hA⟩ : ∃ A, atG (waitR r) s.great now (s.ps.map toPK) = A := ⟨_, rfl⟩
  have hl3 : ((s.ps.map toPK).filter (lostG (waitR r) s.great now)).length ≤ 256 := Nat.le_trans (List.length_filter_le _ _) (by simp; exact hln)
  have hsm3 : ∀ p ∈ (s.ps.map toPK).filter (lostG (waitR r) s.great now), p.small := fun p hp => by
   obtain ⟨q, hq, rfl⟩ := List.mem_map.1 (List.mem_filter.1 hp).1
   exact toPK_small (HMAY.out q hq)
  obtain ⟨qs, hqs⟩ : ∃ qs, (s.ps.map toPK).filter (lostG (waitR r) s.great now) = qs := ⟨_, rfl⟩
  rw [hqs] at HV3 hl3 hsm3 ⊢
  try rw [hA]
  obtain ⟨a3, c3, hv3⟩ := own_slice' HV3.out.1
  subst hv3
  obtain ⟨hp3, hc3, hk3⟩ := own_pk3 rfl HV3.out.1 hsm3
  obtain ⟨N, hN⟩ : ∃ N, qs.length = N := ⟨_, rfl⟩
  have HP3 := hide hp3
  have HK3 : Hid (∀ k o, a3 = some ⟨k, o, none⟩ → k ≠ d.lb) := fun k o e h => by have h1 := (hk3 k o e).1; have h2 := HV3.out.2; omega
  have HF3 : Hid (qs.length ≤ c3 ∧ ∀ k o, a3 = some ⟨k, o, none⟩ → w.heap.size ≤ k ∧ k < w3.heap.size) := ⟨hc3, fun k o e => ⟨by have h1 := (hk3 k o e).1; have h2 := HZ3.out.1; rw [World.size_alloc] at h2; omega, (hk3 k o e).2⟩⟩
  have HQN := hide hN
  have HQS := hide hqs
  have HAA := hide hA
  try rw [hN]
  rw [hN] at hl3
  clear hqs hA hp3 hc3 hk3 hN hsm3 y0 y3 x0 x1 x2 x3 x4 HQ HQ2 HP2 HFN
  go_wp2_with fail
  go_loopg [12] N (fun kx s12 wr => ∃ q : Nat, s12 = ZI ZQ q ∧ q ≤ N ∧ N - q ≤ kx ∧ RlAt (w.alloc (.cells #[ZI ZQ r.latest, ZI ZQ r.min, ZI ZQ r.smooth, ZI ZQ r.var, ZI ZQ r.first] 45)) wr d { s with ps := dropL allP (qs.take q) s.ps } w.heap.size r ∧ Only [d.lb] w3 wr)
  case atStart => exact ⟨0, rfl, by omega, by omega, HQ3.out, Only.refl _ _⟩
  case round =>
   obtain ⟨q, rfl, hq, hkq, hR9, hO9⟩ := hrel
   by_cases hlq : q < N
   ·obtain ⟨g, hg⟩ : ∃ g, qs[q]? = some g := ⟨_, List.getElem?_eq_getElem (by rw [HQN.out]; exact hlq)⟩
    have HT : Hid (qs.take (q + 1) = qs.take q ++ [g]) := by show _ = _; rw [List.take_add_one, hg]; rfl
    obtain ⟨kb, ko, rfl, hkb, z0, z1, z2, z3, z4, z5⟩ := (HP3.out.only hO9 (fun k o e => by simpa using HK3.out k o e)).cells hg
    have hinq : (q : Int) < (N : Int) := by omega
    have hq0 : (0 : Int) ≤ (q : Int) := by omega
    have CG : Hid (∀ W', Only [d.lb] w3 W' → W'.cell? ⟨kb, ko + q * 6, none⟩ = some (ZI ZQ g.n)) := fun W' hO => by
     obtain ⟨kb', ko', e, _, u0, u1, u2, u3, u4, u5⟩ := (HP3.out.only hO (fun k o e => by simpa using HK3.out k o e)).cells hg
     cases e
     exact u0
    obtain ⟨ps9, hps9⟩ : ∃ y, dropL allP (qs.take q) s.ps = y := ⟨_, rfl⟩
    rw [hps9] at hR9
    have HPS := hide hps9
    have HR9 := hide hR9
    have HO9 := hide hO9
    clear hR9 hO9 hg z0 z1 z2 z3 z4 z5 hkb hps9
    go_upto_region 7 with (fail)
    obtain ⟨gp, hgp⟩ : ∃ gp, getOf g.n ps9 = gp := ⟨_, rfl⟩
    obtain ⟨gp, gt⟩ := gp
    refine wp_region_held_drew (S := (fun w' => w'.cell? ⟨d.m, 0, none⟩ = some (.pointer (some ⟨d.lb, 0, none⟩)) ∧ w'.cell? ⟨kb, ko + q * 6, none⟩ = some (ZI ZQ g.n))) (by kernel_rfl) (by exact ⟨(HR9.out.later (Below.refl _ _).drew).cells.1, (CG.out _ (HO9.out.trans (only_of_below (S := []) (Below.refl _ _).drew) (by simp)))⟩) (fun hHeld => ?_)
    refine tkP 0 ?_ rfl ?_ ?_
    rotate_left
    ·intro w' hSw; (try dsimp only at hSw); go_simp; try with_reducible rfl
    try simp only [ZP, ZA, ZB, ZC, ZD, ZE, ZF]
    refine tkP 1 ?_ rfl ?_ ?_
    rotate_left
    ·intro w' hSw; (try dsimp only at hSw); go_simp; try with_reducible rfl
    try simp only [ZP, ZA, ZB, ZC, ZD, ZE, ZF]
    refine tkP 2 ?_ rfl ?_ ?_
    rotate_left
    ·intro w' hSw; (try dsimp only at hSw); go_simp; try with_reducible rfl
    try simp only [ZP, ZA, ZB, ZC, ZD, ZE, ZF]
    refine tkP 3 ?_ rfl ?_ ?_
    rotate_left
    ·intro w' hSw; (try dsimp only at hSw); obtain ⟨c0, c1⟩ := hSw; go_simp; try with_reducible rfl
    try simp only [ZP, ZA, ZB, ZC, ZD, ZE, ZF]
    refine tkP 4 ?_ rfl ?_ ?_
    rotate_left
    ·intro w' hSw; (try dsimp only at hSw); go_simp; try with_reducible rfl
    try simp only [ZP, ZA, ZB, ZC, ZD, ZE, ZF]
    refine tkP 5 ?_ rfl ?_ ?_
    rotate_left
    ·intro w' hSw; (try dsimp only at hSw); go_simp; try with_reducible rfl
    try simp only [ZP, ZA, ZB, ZC, ZD, ZE, ZF]
    refine tkP 6 ?_ rfl ?_ ?_
    rotate_left
    ·intro w' hSw; (try dsimp only at hSw); go_simp; try with_reducible rfl
    try simp only [ZP, ZA, ZB, ZC, ZD, ZE, ZF]
    refine tkP 7 ?_ rfl ?_ ?_
    rotate_left
    ·intro w' hSw; (try dsimp only at hSw); go_simp; try with_reducible rfl
    try simp only [ZP, ZA, ZB, ZC, ZD, ZE, ZF]
    refine tkP 8 ?_ rfl ?_ ?_
    rotate_left
    ·intro w' hSw; (try dsimp only at hSw); obtain ⟨c0, c1⟩ := hSw; go_simp; try with_reducible rfl
    try simp only [ZP, ZA, ZB, ZC, ZD, ZE, ZF]
    refine tkR [9] ?_
    refine ZS rfl (fun K hK => ?_) ZN
    go_simp; go_at_call 82; refine (rdrop_any _ _ _ g.n ps9 gp gt _ (HR9.out.later (Below.refl _ _).drew).post.rs.log hgp).mono ?_; rintro e12 w12 ⟨rfl, hl12, ho12⟩
    have HR12 := hide ((HR9.out.later (Below.refl _ _).drew).step ((HR9.out.later (Below.refl _ _).drew).post.rs.turnLog hl12 ho12))
    have HO12 := hide ((HO9.out.trans (only_of_below (S := []) (Below.refl _ _).drew) (by simp)).trans ho12 (fun x hx => .inl hx))
    clear hl12 ho12 hHeld
    refine hK.out _ _ (⟨HR12.out.cells.1, CG.out _ HO12.out⟩) (fun hHeld => ?_)
    clear hK K
    try simp only [ZP, ZA, ZB, ZC, ZD, ZE, ZF]
    refine wpAnyH_done (by kernel_rfl) ?_ _
    clear hHeld
    go_wp2_with fail
    go_roundg (N - (q + 1))
    case rel => exact ⟨q + 1, by go_num, by omega, by omega, by rw [HT.out, dropL_all, HPS.out]; exact HR12.out, HO12.out⟩
    case measure => omega
   ·obtain rfl : q = N := by omega
    have hinq : ¬ (q : Int) < (q : Int) := by omega
    rw [List.take_of_length_le (by rw [HQN.out]; exact Nat.le_refl _)] at hR9
    have HR9 := hide hR9
    have HO9 := hide hO9
    obtain ⟨y0, y3, x0, x1, x2, x3, x4⟩ := hR9.cells
    have y4 := hR9.post.rs.six.2.2.2.2.1
    have f4 : wr.frozen? ⟨d.m, 4, none⟩ = false := hR9.post.rs.blk.frozen 4
    clear hR9 hO9
    go_wp2_with fail
    have hq7 := HR9.out.post.rs.turnOwn (j := 4) (u := ZI ZQ A) (great := s.great) (loss := A) (time := s.time) rfl
    have hfin : ToldrPost w d { s with loss := A, ps := dropL allP qs s.ps } qs 0 (.returned (.tuple #[.slice a3 qs.length c3, ZI ZQ 0])) (wr.setCell ⟨d.m, 4, none⟩ (ZI ZQ A)) := by
     refine ⟨a3, c3, d, rfl, (HP3.out.only HO9.out (fun k o e => by simpa using HK3.out k o e)).only hq7.only ?_, HF3.out.1, fun k o e => ⟨(HF3.out.2 k o e).1, ?_⟩, RsPost.ahead HB0.out (HR9.out.post.trans hq7)⟩
     ·intro k o e hm
      have h1 := (HF3.out.2 k o e).1
      have h2 := HH.out.lt k (.inl hm)
      omega
     ·rw [World.size_setCell]
      exact Nat.lt_of_lt_of_le (HF3.out.2 k o e).2 HO9.out.size
    rw [HQN.out] at hfin
    try rw [HQS.out]
    try rw [HAA.out]
    first
    | exact hfin
    | (go_ret2; exact hfin)
 ·have HFN := hide (fun W a n cap qs hn hl hP ha hck => r09find_no a n cap qs s.great now r W _ rfl hz hsm hn hl hP ha hck g0 g1)
  unfold loseS loseL
  rw [if_neg hz, if_neg hz]
  obtain ⟨z, hzz⟩ : ∃ z, loseE now r = z := ⟨_, rfl⟩
  rw [hzz] at HFN hz ⊢
  have hz1 : (z == 0) = false := by simpa using hz
  clear hzz
  unfold rtV at HFN ⊢
  go_enter Tryz.func35, Tryz.ntmps35
  go_upto_region 1 with (fail)
  refine wp_region_held_drew (S := (fun w' => w'.cell? ⟨d.m, 0, none⟩ = some (.pointer (some ⟨d.lb, 0, none⟩)) ∧ w'.cell? ⟨d.m, 3, none⟩ = some (ZI ZQ s.great) ∧ w'.cell? ⟨w.heap.size, 0, none⟩ = some (ZI ZQ r.latest) ∧ w'.cell? ⟨w.heap.size, 1, none⟩ = some (ZI ZQ r.min) ∧ w'.cell? ⟨w.heap.size, 2, none⟩ = some (ZI ZQ r.smooth) ∧ w'.cell? ⟨w.heap.size, 3, none⟩ = some (ZI ZQ r.var) ∧ w'.cell? ⟨w.heap.size, 4, none⟩ = some (ZI ZQ r.first))) (by kernel_rfl) (by exact (HQ.out.later (Below.refl _ _).drew).cells) (fun hHeld => ?_)
  refine tkP 0 ?_ rfl ?_ ?_
  rotate_left
  ·intro w' hSw; (try dsimp only at hSw); go_simp; try with_reducible rfl
  try simp only [ZP, ZA, ZB, ZC, ZD, ZE, ZF]
  refine tkP 1 ?_ rfl ?_ ?_
  rotate_left
  ·intro w' hSw; (try dsimp only at hSw); go_simp; try with_reducible rfl
  try simp only [ZP, ZA, ZB, ZC, ZD, ZE, ZF]
  refine tkP 2 ?_ rfl ?_ ?_
  rotate_left
  ·intro w' hSw; (try dsimp only at hSw); go_simp; try with_reducible rfl
  try simp only [ZP, ZA, ZB, ZC, ZD, ZE, ZF]
  refine tkP 3 ?_ rfl ?_ ?_
  rotate_left
  ·intro w' hSw; (try dsimp only at hSw); obtain ⟨y0, y3, x0, x1, x2, x3, x4⟩ := hSw; go_simp; try with_reducible rfl
  try simp only [ZP, ZA, ZB, ZC, ZD, ZE, ZF]
  refine tkP 5 ?_ rfl ?_ ?_
  rotate_left
  ·intro w' hSw; (try dsimp only at hSw); go_simp; try with_reducible rfl
  try simp only [ZP, ZA, ZB, ZC, ZD, ZE, ZF]
  refine tkP 6 ?_ rfl ?_ ?_
  rotate_left
  ·intro w' hSw; (try dsimp only at hSw); go_simp; try with_reducible rfl
  try simp only [ZP, ZA, ZB, ZC, ZD, ZE, ZF]
  refine tkP 7 ?_ rfl ?_ ?_
  rotate_left
  ·intro w' hSw; (try dsimp only at hSw); go_simp; try with_reducible rfl
  try simp only [ZP, ZA, ZB, ZC, ZD, ZE, ZF]
  refine tkP 8 ?_ rfl ?_ ?_
  rotate_left
  ·intro w' hSw; (try dsimp only at hSw); obtain ⟨y0, y3, x0, x1, x2, x3, x4⟩ := hSw; go_simp; try with_reducible rfl
  try simp only [ZP, ZA, ZB, ZC, ZD, ZE, ZF]
  refine tkP 9 ?_ rfl ?_ ?_
  rotate_left
  ·intro w' hSw; (try dsimp only at hSw); go_simp; try with_reducible rfl
  try simp only [ZP, ZA, ZB, ZC, ZD, ZE, ZF]
  refine tkP 10 ?_ rfl ?_ ?_
  rotate_left
  ·intro w' hSw; (try dsimp only at hSw); obtain ⟨y0, y3, x0, x1, x2, x3, x4⟩ := hSw; go_simp; try with_reducible rfl
  try simp only [ZP, ZA, ZB, ZC, ZD, ZE, ZF]
  refine tkR [4] ?_
  refine ZS rfl (fun K hK => ?_) ZN
  go_simp; go_at_call 80; refine (rall_any _ _ _ _ _ (HQ.out.later (Below.refl _ _).drew).post.rs.log).mono ?_; rintro e2 w2 ⟨v2, rfl, hv2, hb2⟩
  obtain ⟨a2, c2, rfl⟩ := own_slice' hv2
  rw [← pkcs_toPK] at hv2
  have HQ2 := hide ((HQ.out.later (Below.refl _ _).drew).later hb2)
  have HP2 := hide (own_pk3 (by simp) hv2 (fun p hp => by obtain ⟨q, hq, rfl⟩ := List.mem_map.1 hp; exact toPK_small (HMAY.out q hq)))
  clear hv2 hb2 hHeld
  refine hK.out _ _ (HQ2.out.cells) (fun hHeld => ?_)
  clear hK K
  try simp only [ZP, ZA, ZB, ZC, ZD, ZE, ZF]
  refine tkR [11] ?_
  refine ZS rfl (fun K hK => ?_) ZN
  go_simp; go_at_call 83; refine (HFN.out _ a2 s.ps.length c2 (s.ps.map toPK) (by simp) HLN.out HP2.out.1 (fun k o e => (HP2.out.2.2 k o e).2) hck).mono ?_; rintro e3 w3 ⟨rfl, hb3⟩
  have HQ3 := hide (HQ2.out.later hb3)
  clear hb3 hHeld
  refine hK.out _ _ (HQ3.out.cells) (fun hHeld => ?_)
  clear hK K
  try simp only [ZP, ZA, ZB, ZC, ZD, ZE, ZF]
  refine tkP 12 ?_ rfl ?_ ?_
  rotate_left
  ·intro w' hSw; (try dsimp only at hSw); go_simp; try with_reducible rfl
  try simp only [ZP, ZA, ZB, ZC, ZD, ZE, ZF]
  refine tkP 13 ?_ rfl ?_ ?_
  rotate_left
  ·intro w' hSw; (try dsimp only at hSw); go_simp; try with_reducible rfl
  try simp only [ZP, ZA, ZB, ZC, ZD, ZE, ZF]
  refine tkP 14 ?_ rfl ?_ ?_
  rotate_left
  ·intro w' hSw; (try dsimp only at hSw); go_simp; try with_reducible rfl
  try simp only [ZP, ZA, ZB, ZC, ZD, ZE, ZF]
  refine tkP 15 ?_ rfl ?_ ?_
  rotate_left
  ·intro w' hSw; (try dsimp only at hSw); go_simp; try with_reducible rfl
  try simp only [ZP, ZA, ZB, ZC, ZD, ZE, ZF]
  refine tkP 16 ?_ rfl ?_ ?_
  rotate_left
  ·intro w' hSw; (try dsimp only at hSw); go_simp; try with_reducible rfl
  try simp only [ZP, ZA, ZB, ZC, ZD, ZE, ZF]
  refine tkP 17 ?_ rfl ?_ ?_
  rotate_left
  ·intro w' hSw; (try dsimp only at hSw); go_simp; try with_reducible rfl
  try simp only [ZP, ZA, ZB, ZC, ZD, ZE, ZF]
  refine tkP 18 ?_ rfl ?_ ?_
  rotate_left
  ·intro w' hSw; (try dsimp only at hSw); go_simp; try with_reducible rfl
  try simp only [ZP, ZA, ZB, ZC, ZD, ZE, ZF]
  refine tkP 19 ?_ rfl ?_ ?_
  rotate_left
  ·intro w' hSw; (try dsimp only at hSw); go_simp; try with_reducible rfl
  try simp only [ZP, ZA, ZB, ZC, ZD, ZE, ZF]
  refine tkP 20 ?_ rfl ?_ ?_
  rotate_left
  ·intro w' hSw; (try dsimp only at hSw); go_simp; try with_reducible rfl
  try simp only [ZP, ZA, ZB, ZC, ZD, ZE, ZF]
  refine wpAnyH_done (by kernel_rfl) ?_ _
  clear hHeld
  have hbf := RsPost.ahead HB0.out HQ3.out.post
  clear y0 y3 x0 x1 x2 x3 x4 HQ HQ2 HP2 HFN
  go_wp2_with fail
  have hfin : ToldrPost w d s [] z (.returned (.tuple #[.slice none 0 0, ZI ZQ z])) w3 := ⟨none, 0, d, rfl, ⟨by simp, by simp⟩, by simp, by simp, hbf⟩
  first
  | exact hfin
  | (go_ret2; exact hfin)
end Go.Proofs.YtgicljeedegncaaGreat
