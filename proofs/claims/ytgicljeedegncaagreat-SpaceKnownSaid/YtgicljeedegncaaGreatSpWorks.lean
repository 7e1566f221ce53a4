/-
 The statements of layer 17: works.
-/
import Derived.Test.YtgicljeedegncaaGreatTqSpLawB
namespace Go.Proofs.YtgicljeedegncaaGreat
open Go.Value renaming int → ZI
open Go.IntKind renaming i64 → ZQ
set_option linter.unusedSimpArgs false
set_option linter.unusedVariables false
open Go.RowKit

/-- A space of the law's own. -/
structure SpL (w W : World) (f : Ft) (s : SpSt) : Prop where
 sp : IsSp W f s
 nb : ∀ x ∈ f.all, w.heap.size ≤ x
 below : Below w.heap.size w W
section
variable {w W W' : World} {f f' : Ft} {s s' : SpSt}
theorem SpL.later (h : SpL w W f s) (hb : Below W.heap.size W W') : SpL w W' f s := ⟨h.sp.below hb, h.nb, bw_below' h.below hb⟩
theorem SpL.alloc (h : SpL w W f s) (o : Obj) : SpL w (W.alloc o) f s := h.later ((Below.refl _ _).alloc (Nat.le_refl _) o)
theorem SpL.step (h : SpL w W f s) (hp : SpPost W f s' f' W') : SpL w W' f' s' := ⟨hp.sp, fun x hx => by
 rcases hp.new x hx with h1 | h1
 ·exact h.nb x h1
 ·exact Nat.le_trans h.below.size h1, h.below.trans (hp.only.below h.nb h.below.size)⟩
end
def p17 (n t : Int) : Pk := ⟨n, t, 100, true, true, false⟩
theorem p17_may {n t : Int} (h0 : 0 ≤ n) (h1 : n ≤ 9007199254740991) (h2 : 0 ≤ t) (h3 : t ≤ 9007199254740991) : (p17 n t).may := by
 unfold Pk.may p17
 simp
 omega
def numW : Nat → Int
 | 0 => 0
 | 1 => 1
 | 2 => 2
 | _ => 5
def stW : Nat → SpSt
 | 0 => ⟨4, -1, [], [], [], -1, -1, -1⟩
 | i + 1 => sentSt (stW i) (p17 (numW i) (10 + 10 * i))
theorem ackOk1 {lo hi : Int} (h0 : 0 ≤ lo) (h1 : lo ≤ hi) (h2 : hi ≤ 9007199254740991) : AckOk [⟨lo, hi⟩] := ⟨by simp, by simp, fun r hr => by simp at hr; subst hr; exact ⟨h0, h1, h2⟩, fun i p q hp hq => by
 cases i with
 | zero => simp at hq
 | succ i => simp at hp⟩
/-- A call of ack, of one range. -/
theorem ack1_17 {w W : World} {f : Ft} {s : SpSt} (lo hi : Int) (cs : Array Value) (h : SpL w W f s) (hc : cs = #[ZI ZQ lo, ZI ZQ hi]) :
  Calls Tryz.prog 22 #[.slice (some ⟨W.heap.size, 0, none⟩) 1 1] (W.alloc (.cells cs 54)) fun e w' => ∃ a2 c2, e = .returned (.agg (ackC a2 1 c2)) ∧ RgAt w' a2 [⟨lo, hi⟩] ∧ (∀ k, a2 = some ⟨k, 0, none⟩ → k ∉ f.all) ∧ SpL w w' f s ∧ Below W.heap.size W w' := by
 subst hc
 have hr : RgAt (W.alloc (.cells #[ZI ZQ lo, ZI ZQ hi] 54)) (some ⟨W.heap.size, 0, none⟩) [⟨lo, hi⟩] := rgat_new (Blk.new _ _ _) rfl
 refine (ack17_any _ 1 1 [⟨lo, hi⟩] _ rfl (by omega) hr).mono ?_
 rintro e w' ⟨a2, c2, rfl, h1, h2, h3⟩
 have hba : Below W.heap.size W (W.alloc (.cells #[ZI ZQ lo, ZI ZQ hi] 54)) := (Below.refl _ _).alloc (Nat.le_refl _) _
 refine ⟨a2, c2, rfl, h1, fun k e hm => ?_, (h.later hba).later h3, bw_below' hba h3⟩
 have := h.sp.lt k hm
 have h4 := (h2 k 0 e).1
 have := hba.size
 omega
/-- The two rows that were told, and the space. -/
structure WkS (w W : World) (f : Ft) (s : SpSt) (a6 : Option Addr) (l6 : List PK) (a8 : Option Addr) (l8 : List PK) : Prop where
 sp : SpL w W f s
 p6 : PksAt W a6 l6
 n6 : ∀ k o, a6 = some ⟨k, o, none⟩ → k ∉ f.all
 p8 : PksAt W a8 l8
 n8 : ∀ k o, a8 = some ⟨k, o, none⟩ → k ∉ f.all
theorem WkS.later {w W W' : World} {f : Ft} {s : SpSt} {a6 a8 : Option Addr} {l6 l8 : List PK} (h : WkS w W f s a6 l6 a8 l8) (hb : Below W.heap.size W W') : WkS w W' f s a6 l6 a8 l8 := ⟨h.sp.later hb, h.p6.below hb (Nat.le_refl _), h.n6, h.p8.below hb (Nat.le_refl _), h.n8⟩
theorem WkS.alloc {w W : World} {f : Ft} {s : SpSt} {a6 a8 : Option Addr} {l6 l8 : List PK} (h : WkS w W f s a6 l6 a8 l8) (o : Obj) : WkS w (W.alloc o) f s a6 l6 a8 l8 := h.later ((Below.refl _ _).alloc (Nat.le_refl _) o)
def pk5 : PK := ⟨5, 40, 100, true, true, false⟩
def lost3 : List PK := [⟨0, 10, 100, true, true, false⟩, ⟨1, 20, 100, true, true, false⟩, ⟨2, 30, 100, true, true, false⟩]
def st6 (R : List Rg) : SpSt := ⟨4, 5, [p17 0 10, p17 1 20, p17 2 30], (stW 4).K, R, 5, -1, 40⟩
def st8 (R : List Rg) : SpSt := ⟨4, 5, [], (stW 4).K, R, 5, -1, 40⟩
set_option maxRecDepth 100000 in
set_option maxHeartbeats 8000000 in
theorem works17_any (w : World) : Calls Tryz.prog 16 #[] w fun e w' => e = .returned (.bool true) ∧ Below w.heap.size w w' := by
 go_enter Tryz.func16, Tryz.ntmps16
 go_wp2_with fail
 refine (spnew_ok 4 _ (by omega) (by omega)).mono ?_
 rintro e1 w1 ⟨f1, rfl, hs1, hn1, hb1⟩
 have H1 := hide (SpL.mk hs1 hn1 hb1)
 clear hs1 hn1 hb1
 go_wp2_with fail
 go_loopg [3] 4 (fun kx s3 wr => ∃ (i : Nat) (f : Ft), s3 = ZI ZQ i ∧ i ≤ 4 ∧ 4 - i ≤ kx ∧ f.b = f1.b ∧ SpL w wr f (stW i))
 case atStart => exact ⟨0, f1, rfl, by omega, by omega, rfl, H1.out⟩
 case round =>
  clear H1
  obtain ⟨i, f, rfl, hi, hkx, hfb, hS⟩ := hrel
  have hi4 : i = 0 ∨ i = 1 ∨ i = 2 ∨ i = 3 ∨ i = 4 := by omega
  rcases hi4 with rfl | rfl | rfl | rfl | rfl
  ·simp only [show ((0 : Nat) : Int) = 0 from rfl] at *
   have HS := hide hS
   clear hS
   go_wp2_with fail
   refine (packet17_any _ _ _).mono ?_
   rintro e2 w2 ⟨rfl, hb2⟩
   have hS2 := (HS.out.alloc (.cells #[ZI ZQ 0, ZI ZQ 1, ZI ZQ 2, ZI ZQ 5] 3)).later hb2
   have HC := hide (spsent_ok f (stW 0) (p17 0 10) w2 hS2.sp (p17_may (by decide) (by decide) (by decide) (by decide)) (by decide) (by decide) (by decide))
   rw [hfb] at HC
   have HS2 := hide hS2
   clear hS2 hb2 HS
   go_wp2_with fail
   refine HC.out.mono ?_
   rintro e3 w3 ⟨rfl, f3, hp3⟩
   have hS3 := HS2.out.step hp3
   go_wp2_with fail
   go_roundg 3
   case rel => exact ⟨1, f3, by go_num, by omega, by omega, hp3.b.trans hfb, hS3⟩
   case measure => omega
  ·simp only [show ((1 : Nat) : Int) = 1 from rfl] at *
   have HS := hide hS
   clear hS
   go_wp2_with fail
   refine (packet17_any _ _ _).mono ?_
   rintro e2 w2 ⟨rfl, hb2⟩
   have hS2 := (HS.out.alloc (.cells #[ZI ZQ 0, ZI ZQ 1, ZI ZQ 2, ZI ZQ 5] 3)).later hb2
   have HC := hide (spsent_ok f (stW 1) (p17 1 20) w2 hS2.sp (p17_may (by decide) (by decide) (by decide) (by decide)) (by decide) (by decide) (by decide))
   rw [hfb] at HC
   have HS2 := hide hS2
   clear hS2 hb2 HS
   go_wp2_with fail
   refine HC.out.mono ?_
   rintro e3 w3 ⟨rfl, f3, hp3⟩
   have hS3 := HS2.out.step hp3
   go_wp2_with fail
   go_roundg 2
   case rel => exact ⟨2, f3, by go_num, by omega, by omega, hp3.b.trans hfb, hS3⟩
   case measure => omega
  ·simp only [show ((2 : Nat) : Int) = 2 from rfl] at *
   have HS := hide hS
   clear hS
   go_wp2_with fail
   refine (packet17_any _ _ _).mono ?_
   rintro e2 w2 ⟨rfl, hb2⟩
   have hS2 := (HS.out.alloc (.cells #[ZI ZQ 0, ZI ZQ 1, ZI ZQ 2, ZI ZQ 5] 3)).later hb2
   have HC := hide (spsent_ok f (stW 2) (p17 2 30) w2 hS2.sp (p17_may (by decide) (by decide) (by decide) (by decide)) (by decide) (by decide) (by decide))
   rw [hfb] at HC
   have HS2 := hide hS2
   clear hS2 hb2 HS
   go_wp2_with fail
   refine HC.out.mono ?_
   rintro e3 w3 ⟨rfl, f3, hp3⟩
   have hS3 := HS2.out.step hp3
   go_wp2_with fail
   go_roundg 1
   case rel => exact ⟨3, f3, by go_num, by omega, by omega, hp3.b.trans hfb, hS3⟩
   case measure => omega
  ·simp only [show ((3 : Nat) : Int) = 3 from rfl] at *
   have HS := hide hS
   clear hS
   go_wp2_with fail
   refine (packet17_any _ _ _).mono ?_
   rintro e2 w2 ⟨rfl, hb2⟩
   have hS2 := (HS.out.alloc (.cells #[ZI ZQ 0, ZI ZQ 1, ZI ZQ 2, ZI ZQ 5] 3)).later hb2
   have HC := hide (spsent_ok f (stW 3) (p17 5 40) w2 hS2.sp (p17_may (by decide) (by decide) (by decide) (by decide)) (by decide) (by decide) (by decide))
   rw [hfb] at HC
   have HS2 := hide hS2
   clear hS2 hb2 HS
   go_wp2_with fail
   refine HC.out.mono ?_
   rintro e3 w3 ⟨rfl, f3, hp3⟩
   have hS3 := HS2.out.step hp3
   go_wp2_with fail
   go_roundg 0
   case rel => exact ⟨4, f3, by go_num, by omega, by omega, hp3.b.trans hfb, hS3⟩
   case measure => omega
  ·simp only [show ((4 : Nat) : Int) = 4 from rfl] at *
   have HS := hide hS
   clear hS
   go_wp2_with fail
   refine (packet17_any _ _ _).mono ?_
   rintro e2 w2 ⟨rfl, hb2⟩
   have HS2 := hide (HS.out.later hb2)
   have HC := hide (spsent_no f (stW 4) (p17 6 50) 5 w2 HS2.out.sp (.inl ⟨.inr (.inr (.inl ⟨p17_may (by decide) (by decide) (by decide) (by decide), by decide, by decide, rfl⟩)), by decide⟩) (by decide))
   rw [hfb] at HC
   clear hb2 HS
   go_wp2_with fail
   refine HC.out.mono ?_
   rintro e3 w3 ⟨rfl, hb3⟩
   have HS3 := hide (HS2.out.later hb3)
   clear hb3 HS2 HC
   go_wp2_with fail
   refine (packet17_any _ _ _).mono ?_
   rintro e4 w4 ⟨rfl, hb4⟩
   have HS4 := hide (HS3.out.later hb4)
   have HC := hide (spsent_no f (stW 4) (p17 5 50) 60 w4 HS4.out.sp (.inl ⟨.inr (.inl ⟨p17_may (by decide) (by decide) (by decide) (by decide), by decide, rfl⟩), by decide⟩) (by decide))
   rw [hfb] at HC
   clear hb4 HS3
   go_wp2_with fail
   refine HC.out.mono ?_
   rintro e5 w5 ⟨rfl, hb5⟩
   have HS5 := hide (HS4.out.later hb5)
   have HC := hide (splast_any f (stW 4) w5 HS5.out.sp)
   rw [hfb] at HC
   clear hb5 HS4
   go_wp2_with fail
   refine HC.out.mono ?_
   rintro e6 w6 ⟨rfl, hb6⟩
   rw [show (stW 4).last = 5 from rfl]
   have HS6 := hide (HS5.out.later hb6)
   have HC := hide (spflight_any f (stW 4) w6 HS6.out.sp)
   rw [hfb] at HC
   clear hb6 HS5
   go_wp2_with fail
   refine HC.out.mono ?_
   rintro e7 w7 ⟨rfl, hb7⟩
   rw [show flightOf (stW 4).ps = 400 from rfl]
   have HS7 := hide (HS6.out.later hb7)
   have HC := hide (sptime_any f (stW 4) w7 HS7.out.sp)
   rw [hfb] at HC
   clear hb7 HS6
   go_wp2_with fail
   refine HC.out.mono ?_
   rintro e8 w8 ⟨rfl, hb8⟩
   rw [show (stW 4).time = 40 from rfl]
   have HS8 := hide (HS7.out.later hb8)
   clear hb8 HS7 HC
   go_wp2_with fail
   refine (ack1_17 4 5 _ HS8.out rfl).mono ?_
   rintro e9 w9 ⟨a9, c9, rfl, hr9, hna9, hS9, _⟩
   have HS9 := hide hS9
   have HC := hide (spack_any f (stW 4) a9 c9 [⟨4, 5⟩] ⟨4, 5⟩ 5 w9 hS9.sp (ackOk1 (by decide) (by decide) (by decide)) rfl hr9 hna9 rfl)
   rw [hfb] at HC
   clear HS8 hr9 hna9 hS9
   unfold ackC at *
   go_wp2_with fail
   refine HC.out.mono ?_
   rintro e10 w10 (⟨hall, _⟩ | ⟨_, rfl, hb10⟩)
   ·exact absurd (hall ⟨4, 5⟩ (by simp)) (by decide)
   have HS10 := hide (HS9.out.later hb10)
   clear hb10 HS9 HC
   go_wp2_with fail
   refine (ack1_17 5 5 _ HS10.out rfl).mono ?_
   rintro e11 w11 ⟨a11, c11, rfl, hr11, hna11, hS11, _⟩
   have HS11 := hide hS11
   have HC := hide (spack_any f (stW 4) a11 c11 [⟨5, 5⟩] ⟨5, 5⟩ 5 w11 hS11.sp (ackOk1 (by decide) (by decide) (by decide)) rfl hr11 hna11 rfl)
   rw [hfb] at HC
   clear HS10 hr11 hna11 hS11
   unfold ackC at *
   go_wp2_with fail
   refine HC.out.mono ?_
   rintro e12 w12 (⟨_, R12, a12, c12, f12, rfl, hp12, hc12, hk12, hq12⟩ | ⟨⟨r, hr, hf⟩, _⟩)
   rotate_left
   ·simp at hr
    subst hr
    exact absurd hf (by decide)
   have ho12 : ((stW 4).ps.map toPK).filter (ackP [⟨5, 5⟩]) = [pk5] := rfl
   rw [ho12] at hp12 hc12 ⊢
   have hS12 : SpL w w12 f12 (st6 R12) := HS11.out.step hq12
   have hfb12 : f12.b = f1.b := hq12.b.trans hfb
   have HK12 := hide (And.intro hp12 (fun k o e => (hk12 k o e).2.2))
   have HS12 := hide hS12
   clear HC HS11 hS12 hq12 hp12 hk12 hc12 ho12
   go_wp2_with fail
   refine (steady17_any _).mono ?_
   rintro e13 w13 ⟨rfl, hb13⟩
   have HS13 := hide (HS12.out.later hb13)
   have HP13 := hide (HK12.out.1.below hb13 (Nat.le_refl _))
   have HC := hide (splose_any f12 (st6 R12) 50 w13 HS13.out.sp (show -1 ≤ (5 : Int) by decide) (show (5 : Int) ≤ 9007199254740991 by decide) (by decide) (by decide))
   rw [hfb12] at HC
   clear hb13 HS12
   go_wp2_with fail
   refine HC.out.mono ?_
   rintro e14 w14 ⟨a14, c14, f14, rfl, hp14, hc14, hk14, hq14⟩
   have ho14 : ((st6 R12).ps.map toPK).filter (lostF (st6 R12).great 50) = lost3 := rfl
   rw [ho14] at hp14 hc14 ⊢
   have hS14 : SpL w w14 f14 (st8 R12) := HS13.out.step hq14
   have hfb14 : f14.b = f1.b := hq14.b.trans hfb12
   have h6 : PksAt w14 a12 [pk5] := HP13.out.only hq14.only HK12.out.2
   have hn6 : ∀ k o, a12 = some ⟨k, o, none⟩ → k ∉ f14.all := fun k o e => by
    obtain ⟨k', o', e', hk', _⟩ := HP13.out.2 0 pk5 rfl
    rw [e] at e'
    cases e'
    exact hq14.off hk' (HK12.out.2 k o e)
   have HW := hide (WkS.mk hS14 h6 hn6 hp14 (fun k o e => (hk14 k o e).2.2))
   clear HC HS13 hS14 hq14 hp14 hk14 hc14 ho14 h6 hn6 HP13 HK12
   rw [show lost3.length = 3 from rfl]
   go_wp2_with fail
   refine (numbers17_any a12 _ c12 [pk5] _ rfl (by decide) HW.out.p6).mono ?_
   rintro e15 w15 ⟨a15, c15, rfl, hi15, _, _, hb15⟩
   have HW15 := hide (HW.out.later hb15)
   have HI15 := hide hi15
   clear hb15 HW hi15
   go_wp2_with fail
   refine (eqints_any a15 (some ⟨w15.heap.size, 0, none⟩) 1 1 c15 1 [5] [5] _ rfl rfl (by decide) (NumsAt.below HI15.out ((Below.refl _ _).alloc (Nat.le_refl _) _)) (numsAt_new (Blk.new _ _ _) rfl)).mono ?_
   rintro e16 w16 ⟨rfl, hb16⟩
   rw [show decide ([(5 : Int)] = [5]) = true from rfl]
   have HW16 := hide ((HW15.out.alloc _).later hb16)
   clear HW15 HI15 hb16
   have HC := hide (spgreat_any f14 (st8 R12) w16 HW16.out.sp.sp)
   rw [hfb14] at HC
   go_wp2_with fail
   refine HC.out.mono ?_
   rintro e17 w17 ⟨rfl, hb17⟩
   rw [show (st8 R12).great = 5 from rfl]
   have HW17 := hide (HW16.out.later hb17)
   clear HW16 hb17 HC
   go_wp2_with fail
   refine (numbers17_any a14 3 c14 lost3 _ rfl (by decide) HW17.out.p8).mono ?_
   rintro e18 w18 ⟨a18, c18, rfl, hi18, _, _, hb18⟩
   have HW18 := hide (HW17.out.later hb18)
   have HI18 := hide hi18
   clear hb18 HW17 hi18
   go_wp2_with fail
   refine (eqints_any a18 (some ⟨w18.heap.size, 0, none⟩) 3 3 c18 3 [0, 1, 2] [0, 1, 2] _ rfl rfl (by decide) (NumsAt.below HI18.out ((Below.refl _ _).alloc (Nat.le_refl _) _)) (numsAt_new (Blk.new _ _ _) rfl)).mono ?_
   rintro e19 w19 ⟨rfl, hb19⟩
   rw [show decide ([(0 : Int), 1, 2] = [0, 1, 2]) = true from rfl]
   have HW19 := hide ((HW18.out.alloc _).later hb19)
   clear HW18 HI18 hb19
   have HC := hide (sploss_any f14 (st8 R12) w19 HW19.out.sp.sp)
   rw [hfb14] at HC
   go_wp2_with fail
   refine HC.out.mono ?_
   rintro e20 w20 ⟨rfl, hb20⟩
   rw [show (st8 R12).loss = -1 from rfl]
   have HW20 := hide (HW19.out.later hb20)
   clear HW19 hb20 HC
   have HC := hide (spflight_any f14 (st8 R12) w20 HW20.out.sp.sp)
   rw [hfb14] at HC
   go_wp2_with fail
   refine HC.out.mono ?_
   rintro e21 w21 ⟨rfl, hb21⟩
   rw [show flightOf (st8 R12).ps = 0 from rfl]
   have HS21 := hide (HW20.out.sp.later hb21)
   clear HW20 hb21 HC
   go_wp2_with fail
   refine (ack1_17 0 2 _ HS21.out rfl).mono ?_
   rintro e22 w22 ⟨a22, c22, rfl, hr22, hna22, hS22, _⟩
   have HS22 := hide hS22
   have HC := hide (spack_any f14 (st8 R12) a22 c22 [⟨0, 2⟩] ⟨0, 2⟩ 5 w22 hS22.sp (ackOk1 (by decide) (by decide) (by decide)) rfl hr22 hna22 rfl)
   rw [hfb14] at HC
   clear HS21 hr22 hna22 hS22
   unfold ackC at *
   go_wp2_with fail
   refine HC.out.mono ?_
   rintro e23 w23 (⟨_, R23, a23, c23, f23, rfl, hp23, hc23, hk23, hq23⟩ | ⟨⟨r, hr, hf⟩, _⟩)
   rotate_left
   ·simp at hr
    subst hr
    exact absurd hf (show ¬ ((stW 4).K.any (inP ⟨0, 2⟩) = false) by decide)
   have ho23 : ((st8 R12).ps.map toPK).filter (ackP [⟨0, 2⟩]) = [] := rfl
   rw [ho23]
   have hS23 : SpL w w23 f23 (st8 R23) := HS22.out.step hq23
   have hfb23 : f23.b = f1.b := hq23.b.trans hfb14
   have HS23 := hide hS23
   clear HC HS22 hS23 hq23 hp23 hk23 hc23 ho23
   have HC := hide (spgreat_any f23 (st8 R23) w23 HS23.out.sp)
   rw [hfb23] at HC
   go_wp2_with fail
   refine HC.out.mono ?_
   rintro e24 w24 ⟨rfl, hb24⟩
   rw [show (st8 R23).great = 5 from rfl]
   have HS24 := hide (HS23.out.later hb24)
   clear HS23 hb24 HC
   have HC := hide (spall_any f23 (st8 R23) w24 HS24.out.sp)
   rw [hfb23] at HC
   go_wp2_with fail
   refine HC.out.mono ?_
   rintro e25 w25 ⟨v25, rfl, hv25, hb25⟩
   obtain ⟨a25, c25, rfl⟩ := own_slice' hv25
   rw [show (st8 R23).ps.length = 0 from rfl]
   have HS25 := hide (HS24.out.later hb25)
   clear HS24 hb25 HC hv25
   go_wp2_with fail
   go_ret
   exact ⟨rfl, HS25.out.below⟩
end Go.Proofs.YtgicljeedegncaaGreat
