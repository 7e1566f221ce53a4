/-
 4 texts in one (SrHas, SentRef4, SpgPers, SrRep).
-/
import Derived.Test.YtgicljeedegncaaGreatSrFrame
import Derived.Test.YtgicljeedegncaaGreatTqFrameHas
import Derived.Test.YtgicljeedegncaaGreatSentRef3
import Derived.Test.YtgicljeedegncaaGreatTqSentEq
import Derived.Test.YtgicljeedegncaaGreatSpgCopy
namespace Go.Proofs.YtgicljeedegncaaGreat
open List renaming getElem_toArray → ZA, getElem_cons_zero → ZB, getElem_cons_succ → ZC, setIfInBounds_toArray → ZD, set_cons_zero → ZE, set_cons_succ → ZF, getElem?_toArray → ZG, getElem?_cons_zero → ZH, getElem?_cons_succ → ZJ
open Go.AllReadyH renaming cons → ZS, nil → ZN
open Go.Act renaming put → ZP
open Go.Value renaming int → ZI
open Go.IntKind renaming i64 → ZQ
set_option linter.unusedSimpArgs false
set_option linter.unusedVariables false
open Go.RowKit

set_option maxRecDepth 100000 in
set_option maxHeartbeats 4000000 in
theorem r05has_any (ak : AK) (a : Option Addr) (c : Nat) (n : Int) (w : World) (hok : okAk ak = true) (hR : RgAt w a ak.rs) :
  Calls Tryz.prog 81 #[.agg (akC ak a ak.rs.length c), ZI ZQ n] w fun e W' => e = .returned (.bool (ak.rs.any (hasP n))) ∧ Below w.heap.size w W' := by
 have hle := (ackOk_of hok).le
 have HCK : Hid (∀ W, Below w.heap.size w W → Calls Tryz.prog 76 #[.agg (akC ak a ak.rs.length c)] W fun e W' => e = .returned (ZI ZQ 0) ∧ Below W.heap.size W W') := fun W hW => by
  have := r05check_any ak a c W (by omega) (hR.below hW)
  rw [ckA_good hok] at this
  exact this
 obtain ⟨dl, rs, mk, m0, m1, m2⟩ := ak
 dsimp only at hR hle HCK ⊢
 have hbw : Below w.heap.size w (w.alloc (.cells (akC ⟨dl, rs, mk, m0, m1, m2⟩ a rs.length c) 52)) := (Below.refl _ _).alloc (Nat.le_refl _) _
 have h0 : FkAt w (w.alloc (.cells (akC ⟨dl, rs, mk, m0, m1, m2⟩ a rs.length c) 52)) w.heap.size a c ⟨dl, rs, mk, m0, m1, m2⟩ := ⟨Blk.new _ _ _, hR.below hbw, hbw⟩
 have HC := hide h0
 clear hbw h0 hR hok
 obtain ⟨K, hK⟩ : ∃ K, rs.length = K := ⟨_, rfl⟩
 have HK := hide hK
 rw [hK] at HC HCK hle ⊢
 clear hK
 unfold akC at HC HCK ⊢
 dsimp only at HC HCK ⊢
 go_enter Tryz.func81, Tryz.ntmps81
 go_wp2_with fail
 go_loopg [5] K (fun kx s5 wr => ∃ i : Nat, s5 = ZI ZQ i ∧ i ≤ K ∧ K - i ≤ kx ∧ Hid (rs.any (hasP n) = (rs.drop i).any (hasP n)) ∧ FkAt w wr w.heap.size a c ⟨dl, rs, mk, m0, m1, m2⟩)
 case atStart => exact ⟨0, rfl, by omega, by omega, rfl, HC.out⟩
 case round =>
  clear HC
  obtain ⟨i, rfl, hi, hkx, hany, hC⟩ := hrel
  obtain ⟨x0, x1, x2, x3, x4, x5⟩ := hC.six
  dsimp only at x0 x1 x2 x3 x4 x5
  rw [HK.out] at x1
  by_cases hlt : i < K
  ·have hir : i < rs.length := by rw [HK.out]; exact hlt
   obtain ⟨r, hr⟩ : ∃ r, rs[i]? = some r := ⟨_, List.getElem?_eq_getElem hir⟩
   have hd : rs.drop i = r :: rs.drop (i + 1) := by
    rw [List.drop_eq_getElem_cons hir]
    congr 1
    rw [List.getElem?_eq_getElem hir] at hr
    exact Option.some.inj hr
   obtain ⟨k, rfl, hk, z0, z1⟩ := hC.row i r hr
   have HA : Hid (rs.any (hasP n) = (hasP n r || (rs.drop (i + 1)).any (hasP n))) := by show _ = _; rw [hany, hd]; rfl
   have hin : (i : Int) < (K : Int) := by omega
   have hi0 : (0 : Int) ≤ (i : Int) := by omega
   have HCW := hide (HCK.out wr hC.below)
   have HC0 := hide hC
   have HRI := hide hr
   clear hany hd hr hC
   go_wp2_with fail
   refine HCW.out.mono ?_
   rintro e1 w1 ⟨rfl, hb⟩
   have hC1 := HC0.out.later hb
   clear x0 x1 x2 x3 x4 x5 z0 z1 hk
   obtain ⟨x0, x1, x2, x3, x4, x5⟩ := hC1.six
   dsimp only at x0 x1 x2 x3 x4 x5
   rw [HK.out] at x1
   obtain ⟨k', e', hk, z0, z1⟩ := hC1.row i r HRI.out
   cases e'
   have HC1 := hide hC1
   clear hC1 hb HC0 HCW
   by_cases c1 : r.lo ≤ n
   ·by_cases c2 : n ≤ r.hi
    ·have HT : Hid (rs.any (hasP n) = true) := by show _ = _; rw [HA.out]; simp [hasP, c1, c2]
     go_wp2_with fail
     go_ret
     exact ⟨by rw [HT.out]; rfl, HC1.out.below⟩
    ·have HT : Hid (rs.any (hasP n) = (rs.drop (i + 1)).any (hasP n)) := by show _ = _; rw [HA.out]; simp [hasP, c2]
     go_wp2_with fail
     go_roundg (K - (i + 1))
     case rel => exact ⟨i + 1, by go_num, by omega, by omega, HT, HC1.out⟩
     case measure => omega
   ·have HT : Hid (rs.any (hasP n) = (rs.drop (i + 1)).any (hasP n)) := by show _ = _; rw [HA.out]; simp [hasP, c1]
    go_wp2_with fail
    go_roundg (K - (i + 1))
    case rel => exact ⟨i + 1, by go_num, by omega, by omega, HT, HC1.out⟩
    case measure => omega
  ·obtain rfl : i = K := by omega
   have hin : ¬ (i : Int) < (i : Int) := by omega
   have HT : Hid (rs.any (hasP n) = false) := by show _ = _; rw [hany, List.drop_of_length_le (by rw [HK.out]; exact Nat.le_refl _)]; rfl
   have HC1 := hide hC
   clear hC hany
   go_wp2_with fail
   go_ret
   exact ⟨by rw [HT.out]; rfl, HC1.out.below⟩
/-- What Copy of an ACK leaves: the same, its ranges in a row of their own. -/
def CopyAkPost (w : World) (ak : AK) (e : Ending) (w' : World) : Prop := ∃ a' c', e = .returned (.agg (akC ak a' ak.rs.length c')) ∧ RgAt w' a' ak.rs ∧ ak.rs.length ≤ c' ∧ (∀ k, a' = some ⟨k, 0, none⟩ → w.heap.size ≤ k ∧ k < w'.heap.size) ∧ Below w.heap.size w w'
set_option maxHeartbeats 2000000 in
set_option maxRecDepth 100000 in
theorem r05copy_any (ak : AK) (a : Option Addr) (c : Nat) (w : World) (hl : ak.rs.length * 16 ≤ 140737488351232) (hR : Reads w w.heap.size 2 a ak.rs.length (rgsCells ak.rs)) :
  Calls Tryz.prog 32 #[.agg (akC ak a ak.rs.length c)] w (CopyAkPost w ak) := by
 obtain ⟨i0, hi0, hz0, hz1, hz2⟩ := info_parts rg_info04
 obtain ⟨dl, rs, mk, m0, m1, m2⟩ := ak
 dsimp only at hR hl ⊢
 have HR := hide hR
 obtain ⟨K, hK⟩ : ∃ K, rs.length = K := ⟨_, rfl⟩
 have HK := hide hK
 unfold CopyAkPost
 dsimp only
 rw [hK] at HR hl ⊢
 clear hK hR
 unfold akC
 dsimp only
 go_enter Tryz.func32, Tryz.ntmps32
 have hz : Blk ((w.alloc (.cells #[ZI ZQ dl, .slice a K c, .bool mk, ZI ZQ m0, ZI ZQ m1, ZI ZQ m2] 52)).alloc (.cells #[ZI ZQ 0, .slice none 0 0, .bool false, ZI ZQ 0, ZI ZQ 0, ZI ZQ 0] 52)) (w.heap.size + 1) 52 #[ZI ZQ 0, .slice none 0 0, .bool false, ZI ZQ 0, ZI ZQ 0, ZI ZQ 0] := blk_new_at (by simp)
 have hx := (Blk.new w 52 #[ZI ZQ dl, .slice a K c, .bool mk, ZI ZQ m0, ZI ZQ m1, ZI ZQ m2]).alloc (.cells #[ZI ZQ 0, .slice none 0 0, .bool false, ZI ZQ 0, ZI ZQ 0, ZI ZQ 0] 52)
 have hbw : Below w.heap.size w ((w.alloc (.cells #[ZI ZQ dl, .slice a K c, .bool mk, ZI ZQ m0, ZI ZQ m1, ZI ZQ m2] 52)).alloc (.cells #[ZI ZQ 0, .slice none 0 0, .bool false, ZI ZQ 0, ZI ZQ 0, ZI ZQ 0] 52)) := ((Below.refl _ _).alloc (Nat.le_refl _) _).alloc (by simp) _
 have HZ := hide hz
 have HX := hide hx
 have HBW := hide hbw
 clear hz hx hbw
 go_wp2_with (at_builtin; refine wpList_append_any _ rfl (.tmp 4) (.tmp 6) _ rfl (w.heap.size + 2) 93 i0 _ 2 16 Tryz.underlying50 hi0 hz0 hz1 hz2 rfl (by decide) (.slice none 0 0) 0 [] rfl (by exact ⟨by simp, .inl ⟨rfl, rfl⟩⟩) w.heap.size a K c (rgsCells rs) rfl (by exact (HR.out.alloc (Nat.le_refl _) _).alloc (by simp) _) rgs_one (by unfold maxLen; omega) (by omega) (by simp) ?_; intro v' w1 hown1 hg1 hat1; rw [Nat.zero_add, List.nil_append] at hown1; obtain ⟨a1, c1, rfl⟩ := own_slice' hown1; have hX1 := blk_grown HX.out hg1 (fun e => by simp [Value.ownBlock] at e); have hZ1 := blk_grown HZ.out hg1 (fun e => by simp [Value.ownBlock] at e); have HB1 := hide (Below.grown HBW.out hg1 (by simp; omega) (fun k hk => by simp [Value.ownBlock] at hk)); have HOW := hide hown1; have HX1 := hide hX1; have HZ1 := hide hZ1; have x0 := hX1.cell 0; have x1 := hX1.cell 1; have x2 := hX1.cell 2; have x3 := hX1.cell 3; have x4 := hX1.cell 4; have x5 := hX1.cell 5; have xf := hX1.frozen; have zf : ∀ j, w1.frozen? ⟨w.heap.size + 1, j, none⟩ = false := hZ1.frozen; have y0 : w1.cell? ⟨w.heap.size + 1, 0, none⟩ = some (ZI ZQ 0) := hZ1.cell 0; have y1 : w1.cell? ⟨w.heap.size + 1, 1, none⟩ = some (.slice none 0 0) := hZ1.cell 1; have y2 : w1.cell? ⟨w.heap.size + 1, 2, none⟩ = some (.bool false) := hZ1.cell 2; have y3 : w1.cell? ⟨w.heap.size + 1, 3, none⟩ = some (ZI ZQ 0) := hZ1.cell 3; have y4 : w1.cell? ⟨w.heap.size + 1, 4, none⟩ = some (ZI ZQ 0) := hZ1.cell 4; have y5 : w1.cell? ⟨w.heap.size + 1, 5, none⟩ = some (ZI ZQ 0) := hZ1.cell 5; clear hown1 hg1 hat1 hX1 hZ1)
 have hW1 : Only [w.heap.size, w.heap.size + 1] w1 (((((((w1.setCell ⟨w.heap.size, 1, none⟩ (.slice a1 K c1)).setCell ⟨w.heap.size + 1, 0, none⟩ (ZI ZQ dl)).setCell ⟨w.heap.size + 1, 1, none⟩ (.slice a1 K c1)).setCell ⟨w.heap.size + 1, 2, none⟩ (.bool mk)).setCell ⟨w.heap.size + 1, 3, none⟩ (ZI ZQ m0)).setCell ⟨w.heap.size + 1, 4, none⟩ (ZI ZQ m1)).setCell ⟨w.heap.size + 1, 5, none⟩ (ZI ZQ m2)) :=
  (((((((Only.refl _ _).setCell (.inl (by simp)) _).setCell (.inl (by simp)) _).setCell (.inl (by simp)) _).setCell (.inl (by simp)) _).setCell (.inl (by simp)) _).setCell (.inl (by simp)) _).setCell (.inl (by simp)) _
 have hZW : Blk (((((((w1.setCell ⟨w.heap.size, 1, none⟩ (.slice a1 K c1)).setCell ⟨w.heap.size + 1, 0, none⟩ (ZI ZQ dl)).setCell ⟨w.heap.size + 1, 1, none⟩ (.slice a1 K c1)).setCell ⟨w.heap.size + 1, 2, none⟩ (.bool mk)).setCell ⟨w.heap.size + 1, 3, none⟩ (ZI ZQ m0)).setCell ⟨w.heap.size + 1, 4, none⟩ (ZI ZQ m1)).setCell ⟨w.heap.size + 1, 5, none⟩ (ZI ZQ m2)) (w.heap.size + 1) 52 #[ZI ZQ dl, .slice a1 K c1, .bool mk, ZI ZQ m0, ZI ZQ m1, ZI ZQ m2] :=
  ((((((((HZ1.out.far (p := ⟨w.heap.size, 1, none⟩) (by simp) _).set 0 _).set 1 _).set 2 _).set 3 _).set 4 _).set 5 _)).eq (by simp)
 have hBW : Below w.heap.size w (((((((w1.setCell ⟨w.heap.size, 1, none⟩ (.slice a1 K c1)).setCell ⟨w.heap.size + 1, 0, none⟩ (ZI ZQ dl)).setCell ⟨w.heap.size + 1, 1, none⟩ (.slice a1 K c1)).setCell ⟨w.heap.size + 1, 2, none⟩ (.bool mk)).setCell ⟨w.heap.size + 1, 3, none⟩ (ZI ZQ m0)).setCell ⟨w.heap.size + 1, 4, none⟩ (ZI ZQ m1)).setCell ⟨w.heap.size + 1, 5, none⟩ (ZI ZQ m2)) :=
  (((((((HB1.out.setCell (p := ⟨w.heap.size, 1, none⟩) (by simp) _).setCell (p := ⟨w.heap.size + 1, 0, none⟩) (by simp) _).setCell (p := ⟨w.heap.size + 1, 1, none⟩) (by simp) _).setCell (p := ⟨w.heap.size + 1, 2, none⟩) (by simp) _).setCell (p := ⟨w.heap.size + 1, 3, none⟩) (by simp) _).setCell (p := ⟨w.heap.size + 1, 4, none⟩) (by simp) _).setCell (p := ⟨w.heap.size + 1, 5, none⟩) (by simp) _)
 generalize ((((((w1.setCell ⟨w.heap.size, 1, none⟩ (.slice a1 K c1)).setCell ⟨w.heap.size + 1, 0, none⟩ (ZI ZQ dl)).setCell ⟨w.heap.size + 1, 1, none⟩ (.slice a1 K c1)).setCell ⟨w.heap.size + 1, 2, none⟩ (.bool mk)).setCell ⟨w.heap.size + 1, 3, none⟩ (ZI ZQ m0)).setCell ⟨w.heap.size + 1, 4, none⟩ (ZI ZQ m1)).setCell ⟨w.heap.size + 1, 5, none⟩ (ZI ZQ m2) = W at *
 have hRW := own_only2 HOW.out hW1 (fun k hk hm => by have := (HOW.out.lt k hk).1; simp at hm; omega)
 have hRW2 : W.ownsRow (w.heap.size + 2) 93 2 (.slice a1 K c1) rs.length (rgsCells rs) := by rw [HK.out]; exact hRW
 obtain ⟨a5, c5, h5, g1, g2, g3⟩ := own_rg_new (w := w) hRW2 (by omega)
 rw [HK.out] at h5 g2
 cases h5
 have e0 := hZW.cell 0
 have e1 := hZW.cell 1
 have e2 := hZW.cell 2
 have e3 := hZW.cell 3
 have e4 := hZW.cell 4
 have e5 := hZW.cell 5
 simp only [ZG, ZH, ZJ] at e0 e1 e2 e3 e4 e5
 exact bodyPost_ret (v := .agg #[ZI ZQ dl, .slice a1 K c1, .bool mk, ZI ZQ m0, ZI ZQ m1, ZI ZQ m2]) (by simp [results, Tryz.f32, go_sem, e0, e1, e2, e3, e4, e5]) rfl ⟨a1, c1, rfl, g1, g2, g3, hBW⟩
end Go.Proofs.YtgicljeedegncaaGreat

namespace Go.Proofs.YtgicljeedegncaaGreat
open List renaming getElem_toArray → ZA, getElem_cons_zero → ZB, getElem_cons_succ → ZC, setIfInBounds_toArray → ZD, set_cons_zero → ZE, set_cons_succ → ZF, getElem?_toArray → ZG, getElem?_cons_zero → ZH, getElem?_cons_succ → ZJ
open Go.AllReadyH renaming cons → ZS, nil → ZN
open Go.Act renaming put → ZP
open Go.Value renaming int → ZI
open Go.IntKind renaming i64 → ZQ
open Go.RowKit

/-- Both logs stand alike. -/
structure Alike2 (w : World) (b rb m room : Nat) (last : Int) (ps : List Pk) : Prop where
 log : IsLog w b rb room last ps
 ref : IsRef w m room last ps
/-- What Oldest answers. -/
def headOf : List Pk → Pk × Bool
 | [] => (Pk.zero, false)
 | p :: _ => (p, true)
theorem roldest_any (m room : Nat) (top : Int) (ps : List Pk) (p : Pk) (t : Bool) (w : World) (hR : IsRef w m room top ps) (hg : headOf ps = (p, t)) :
  Calls Tryz.prog 78 #[.pointer (some ⟨m, 0, none⟩)] w fun e w' => e = .returned (.tuple #[.agg #[ZI ZQ p.num, ZI ZQ p.time, ZI ZQ p.size, .bool p.el, .bool p.fl, .bool p.ect], .bool t]) ∧ Below w.heap.size w w' := by
 cases ps with
 | nil => cases hg; exact roldest_none m room top w hR
 | cons q ps => cases hg; exact roldest_is m room top _ ps w hR
end Go.Proofs.YtgicljeedegncaaGreat

namespace Go.Proofs.YtgicljeedegncaaGreat
open List renaming getElem_toArray → ZA, getElem_cons_zero → ZB, getElem_cons_succ → ZC, setIfInBounds_toArray → ZD, set_cons_zero → ZE, set_cons_succ → ZF, getElem?_toArray → ZG, getElem?_cons_zero → ZH, getElem?_cons_succ → ZJ
open Go.AllReadyH renaming cons → ZS, nil → ZN
open Go.Act renaming put → ZP
open Go.Value renaming int → ZI
open Go.IntKind renaming i64 → ZQ
set_option linter.unusedSimpArgs false
set_option linter.unusedVariables false
open Go.RowKit

/-- Is what was lost without any ACK between too long. -/
def perB (rs : List Rg) (ps : List PK) (r : RT) (delay : Int) : Bool := (periodOf rs r.first ps).some && rtC r && decide (timeOf (3 * baseAny r delay) < (periodOf rs r.first ps).d)
structure PeAt (w W : World) (f : Ft) (s : SpSt) (X : Nat) (r : RT) : Prop where
 sp : IsSp W f s
 box : Blk W X 45 #[ZI ZQ r.latest, ZI ZQ r.min, ZI ZQ r.smooth, ZI ZQ r.var, ZI ZQ r.first]
 below : Below w.heap.size w W
theorem PeAt.later {w W W' : World} {f : Ft} {s : SpSt} {X : Nat} {r : RT} (h : PeAt w W f s X r) (hb : Below W.heap.size W W') : PeAt w W' f s X r := ⟨h.sp.below hb, (hb.block _ h.box.lt).trans h.box, bw_below' h.below hb⟩
set_option maxRecDepth 100000 in
set_option maxHeartbeats 4000000 in
theorem sppersists_any (f : Ft) (s : SpSt) (a : Option Addr) (n cap : Nat) (ps : List PK) (r : RT) (delay : Int) (w : World) (h : IsSp w f s) (hn : ps.length = n) (hcap : n ≤ cap) (hP : PksAt w a ps) (ha : ∀ k o, a = some ⟨k, o, none⟩ → k < w.heap.size) (hsm : (-9223372036854775808 ≤ r.smooth ∧ r.smooth ≤ 9223372036854775807)) :
  Calls Tryz.prog 42 #[.pointer (some ⟨f.b, 0, none⟩), .slice a n cap, rtV r, ZI ZQ delay] w fun e w' => e = .returned (.bool (perB s.R ps r delay)) ∧ Below w.heap.size w w' := by
 have hc0 : PeAt w (w.alloc (.cells #[ZI ZQ r.latest, ZI ZQ r.min, ZI ZQ r.smooth, ZI ZQ r.var, ZI ZQ r.first] 45)) f s w.heap.size r := ⟨h.alloc _, Blk.new _ _ _, (Below.refl _ _).alloc (Nat.le_refl _) _⟩
 have HC0 := hide hc0
 have CC : Hid (∀ W, PeAt w W f s w.heap.size r → W.cell? ⟨f.b, 2, none⟩ = some (.pointer (some ⟨f.mb, 0, none⟩)) ∧ W.cell? ⟨w.heap.size, 0, none⟩ = some (ZI ZQ r.latest) ∧ W.cell? ⟨w.heap.size, 1, none⟩ = some (ZI ZQ r.min) ∧ W.cell? ⟨w.heap.size, 2, none⟩ = some (ZI ZQ r.smooth) ∧ W.cell? ⟨w.heap.size, 3, none⟩ = some (ZI ZQ r.var) ∧ W.cell? ⟨w.heap.size, 4, none⟩ = some (ZI ZQ r.first)) :=
  fun W hW => ⟨hW.sp.blk.cell 2, hW.box.cell 0, hW.box.cell 1, hW.box.cell 2, hW.box.cell 3, hW.box.cell 4⟩
 have HIS := hide (fun W (hW : PeAt w W f s w.heap.size r) => persistis_any a n cap ps (some ⟨f.mb, 0, none⟩) s.R r delay W hn hcap (hP.below hW.below (Nat.le_refl _)) (fun k o e => Nat.lt_of_lt_of_le (ha k o e) hW.below.size) (.inr ⟨f.mb, f.mg, 256, rfl, hW.sp.rem⟩) hsm)
 obtain ⟨T, hT⟩ : ∃ T, perB s.R ps r delay = T := ⟨_, rfl⟩
 unfold perB at hT
 rw [hT] at HIS
 rw [show perB s.R ps r delay = T from hT]
 have hfb := h.blk.lt
 clear h hP ha hc0 hT
 unfold rtV at HIS ⊢
 go_enter Tryz.func42, Tryz.ntmps42
 go_upto_region 1 with (fail)
 refine wp_region_held_drew (S := (fun w' => PeAt w w' f s w.heap.size r)) (by kernel_rfl) (by exact HC0.out.later (Below.refl _ _).drew) (fun hHeld => ?_)
 refine tkP 0 ?_ rfl ?_ ?_
 rotate_left
 ·intro w' hSw; (try dsimp only at hSw); go_simp; try with_reducible rfl
 try simp only [ZP, ZA, ZB, ZC, ZD, ZE, ZF]
 refine tkR [1] ?_
 refine ZS rfl (fun K hK => ?_) ZN
 go_simp; go_at_call 49; refine (spnone f s _ hHeld.sp).mono ?_; rintro e0 w0 ⟨rfl, rfl⟩
 have HC1 := hide hHeld
 clear hHeld
 refine hK.out _ _ (HC1.out) (fun hHeld => ?_)
 clear hK K
 try simp only [ZP, ZA, ZB, ZC, ZD, ZE, ZF]
 refine tkP 2 ?_ rfl ?_ ?_
 rotate_left
 ·intro w' hSw; (try dsimp only at hSw); go_simp; try with_reducible rfl
 try simp only [ZP, ZA, ZB, ZC, ZD, ZE, ZF]
 refine tkP 3 ?_ rfl ?_ ?_
 rotate_left
 ·intro w' hSw; (try dsimp only at hSw); go_simp; try with_reducible rfl
 try simp only [ZP, ZA, ZB, ZC, ZD, ZE, ZF]
 refine tkP 4 ?_ rfl ?_ ?_
 rotate_left
 ·intro w' hSw; (try dsimp only at hSw); go_simp; try with_reducible rfl
 try simp only [ZP, ZA, ZB, ZC, ZD, ZE, ZF]
 refine tkP 5 ?_ rfl ?_ ?_
 rotate_left
 ·intro w' hSw; (try dsimp only at hSw); go_simp; try with_reducible rfl
 try simp only [ZP, ZA, ZB, ZC, ZD, ZE, ZF]
 refine tkP 6 ?_ rfl ?_ ?_
 rotate_left
 ·intro w' hSw; (try dsimp only at hSw); go_simp; try with_reducible rfl
 try simp only [ZP, ZA, ZB, ZC, ZD, ZE, ZF]
 refine tkP 7 ?_ rfl ?_ ?_
 rotate_left
 ·intro w' hSw; (try dsimp only at hSw); go_simp; try with_reducible rfl
 try simp only [ZP, ZA, ZB, ZC, ZD, ZE, ZF]
 refine tkP 8 ?_ rfl ?_ ?_
 rotate_left
 ·intro w' hSw; (try dsimp only at hSw); obtain ⟨c2, x0, x1, x2, x3, x4⟩ := CC.out _ hSw; go_simp; try with_reducible rfl
 try simp only [ZP, ZA, ZB, ZC, ZD, ZE, ZF]
 refine tkP 9 ?_ rfl ?_ ?_
 rotate_left
 ·intro w' hSw; (try dsimp only at hSw); obtain ⟨c2, x0, x1, x2, x3, x4⟩ := CC.out _ hSw; go_simp; try with_reducible rfl
 try simp only [ZP, ZA, ZB, ZC, ZD, ZE, ZF]
 refine tkP 10 ?_ rfl ?_ ?_
 rotate_left
 ·intro w' hSw; (try dsimp only at hSw); go_simp; try with_reducible rfl
 try simp only [ZP, ZA, ZB, ZC, ZD, ZE, ZF]
 refine tkR [11] ?_
 refine ZS rfl (fun K hK => ?_) ZN
 go_simp; go_at_call 91; refine (HIS.out _ hHeld).mono ?_; rintro e1 w1 ⟨rfl, hb1⟩
 have HC2 := hide (hHeld.later hb1)
 clear hb1 hHeld
 refine hK.out _ _ (HC2.out) (fun hHeld => ?_)
 clear hK K
 try simp only [ZP, ZA, ZB, ZC, ZD, ZE, ZF]
 refine tkP 12 ?_ rfl ?_ ?_
 rotate_left
 ·intro w' hSw; (try dsimp only at hSw); go_simp; try with_reducible rfl
 try simp only [ZP, ZA, ZB, ZC, ZD, ZE, ZF]
 refine tkP 13 ?_ rfl ?_ ?_
 rotate_left
 ·intro w' hSw; (try dsimp only at hSw); go_simp; try with_reducible rfl
 try simp only [ZP, ZA, ZB, ZC, ZD, ZE, ZF]
 refine wpAnyH_done (by kernel_rfl) ?_ _
 clear hHeld
 go_wp2_with fail
 go_ret
 exact ⟨by rfl, HC2.out.below⟩
theorem spnew_no (room : Int) (w : World) (h : room < 1 ∨ 256 < room) :
  Calls Tryz.prog 10 #[ZI ZQ room] w fun e w' => e = .returned (.tuple #[.pointer none, ZI ZQ 2]) ∧ Below w.heap.size w w' := by
 go_enter Tryz.func10, Tryz.ntmps10
 go_wp2_with fail
 refine (new_no room w h).mono ?_
 rintro e1 w1 ⟨rfl, rfl⟩
 go_wp2_with fail
 go_ret2
 exact ⟨rfl, Below.refl _ _⟩
end Go.Proofs.YtgicljeedegncaaGreat

namespace Go.Proofs.YtgicljeedegncaaGreat
open List renaming getElem_toArray → ZA, getElem_cons_zero → ZB, getElem_cons_succ → ZC, setIfInBounds_toArray → ZD, set_cons_zero → ZE, set_cons_succ → ZF, getElem?_toArray → ZG, getElem?_cons_zero → ZH, getElem?_cons_succ → ZJ
open Go.AllReadyH renaming cons → ZS, nil → ZN
open Go.Act renaming put → ZP
open Go.Value renaming int → ZI
open Go.IntKind renaming i64 → ZQ
set_option linter.unusedSimpArgs false
set_option linter.unusedVariables false
open Go.RowKit

/-- The blocks of the document's space. -/
structure Dt where
 m : Nat
 lb : Nat
 kb : Nat
 ka : Option Addr
 kc : Nat
 mb : Nat
 ma : Option Addr
 mc : Nat
def Dt.own (d : Dt) : List Nat := [d.m, d.lb, d.kb, d.mb]
/-- A block of a row. -/
def RowB (d : Dt) (k : Nat) : Prop := d.ka = some ⟨k, 0, none⟩ ∨ d.ma = some ⟨k, 0, none⟩
structure IsRs (W : World) (d : Dt) (s : SpSt) : Prop where
 blk : Blk W d.m 105 (spCells d.lb d.kb d.mb s.great s.loss s.time)
 log : IsRef W d.lb s.room s.last s.ps
 kn : RefS W d.kb d.ka d.kc s.K
 rem : RefS W d.mb d.ma d.mc s.R
 off : ∀ k, RowB d k → k ∉ d.own
 ne : d.kb ≠ d.mb
section
variable {w w1 w' : World} {d d1 d' : Dt} {s s1 s' : SpSt}
theorem IsRs.lt (h : IsRs w d s) : ∀ x, x ∈ d.own ∨ RowB d x → x < w.heap.size := by
 rintro x (hx | hx | hx)
 ·simp only [Dt.own, List.mem_cons, List.not_mem_nil, or_false] at hx
  rcases hx with rfl | rfl | rfl | rfl
  ·exact h.blk.lt
  ·exact h.log.lt
  ·exact h.kn.blk.lt
  ·exact h.rem.blk.lt
 ·exact h.kn.lt x hx
 ·exact h.rem.lt x hx
/-- What has turned is none of the document's. -/
theorem IsRs.only {S : List Nat} (h : IsRs w d s) (ho : Only S w w') (hS : ∀ x, x ∈ d.own ∨ RowB d x → x ∉ S) (hT : ∀ x ∈ S, ∃ t cs, Blk w x t cs ∧ t ≠ 40 ∧ t ≠ 115) : IsRs w' d s :=
 ⟨ho.blk h.blk (hS _ (.inl (by simp [Dt.own]))), h.log.only ho hT, h.kn.only ho (hS _ (.inl (by simp [Dt.own]))) (fun k e => hS k (.inr (.inl e))), h.rem.only ho (hS _ (.inl (by simp [Dt.own]))) (fun k e => hS k (.inr (.inr e))), h.off, h.ne⟩
theorem IsRs.below (h : IsRs w d s) (hb : Below w.heap.size w w') : IsRs w' d s := h.only (S := []) (only_of_below hb) (by simp) (by simp)
theorem IsRs.alloc (h : IsRs w d s) (o : Obj) : IsRs (w.alloc o) d s := h.below ((Below.refl _ _).alloc (Nat.le_refl _) o)
theorem IsRs.six (h : IsRs w d s) : w.cell? ⟨d.m, 0, none⟩ = some (.pointer (some ⟨d.lb, 0, none⟩)) ∧ w.cell? ⟨d.m, 1, none⟩ = some (.pointer (some ⟨d.kb, 0, none⟩)) ∧ w.cell? ⟨d.m, 2, none⟩ = some (.pointer (some ⟨d.mb, 0, none⟩)) ∧ w.cell? ⟨d.m, 3, none⟩ = some (ZI ZQ s.great) ∧ w.cell? ⟨d.m, 4, none⟩ = some (ZI ZQ s.loss) ∧ w.cell? ⟨d.m, 5, none⟩ = some (ZI ZQ s.time) := ⟨h.blk.cell 0, h.blk.cell 1, h.blk.cell 2, h.blk.cell 3, h.blk.cell 4, h.blk.cell 5⟩
end
/-- What a call leaves that turns the document's space. -/
structure RsPost (w : World) (d : Dt) (s' : SpSt) (d' : Dt) (w' : World) : Prop where
 rs : IsRs w' d' s'
 m : d'.m = d.m
 new : ∀ x, x ∈ d'.own → x ∈ d.own ∨ w.heap.size ≤ x
 row : ∀ x, RowB d' x → RowB d x ∨ w.heap.size ≤ x
 only : Only d.own w w'
section
variable {w w1 w' : World} {d d1 d' : Dt} {s s1 s' : SpSt}
theorem RsPost.refl (h : IsRs w d s) : RsPost w d s d w := ⟨h, rfl, fun x hx => .inl hx, fun x hx => .inl hx, Only.refl _ _⟩
theorem RsPost.trans (h : RsPost w d s1 d1 w1) (h2 : RsPost w1 d1 s' d' w') : RsPost w d s' d' w' :=
 ⟨h2.rs, h2.m.trans h.m, fun x hx => by
  rcases h2.new x hx with h3 | h3
  ·exact h.new x h3
  ·exact .inr (Nat.le_trans h.only.size h3), fun x hx => by
  rcases h2.row x hx with h3 | h3
  ·exact h.row x h3
  ·exact .inr (Nat.le_trans h.only.size h3), h.only.trans h2.only (fun x hx => h.new x hx)⟩
theorem RsPost.below (h : RsPost w d s1 d1 w1) (hb : Below w1.heap.size w1 w') : RsPost w d s1 d1 w' :=
 ⟨h.rs.below hb, h.m, h.new, h.row, h.only.trans (only_of_below (S := []) hb) (by simp)⟩
theorem RsPost.ahead (hb : Below w.heap.size w w1) (h : RsPost w1 d s1 d1 w') : RsPost w d s1 d1 w' :=
 ⟨h.rs, h.m, fun x hx => by
  rcases h.new x hx with h3 | h3
  ·exact .inl h3
  ·exact .inr (Nat.le_trans hb.size h3), fun x hx => by
  rcases h.row x hx with h3 | h3
  ·exact .inl h3
  ·exact .inr (Nat.le_trans hb.size h3), (only_of_below (S := d.own) hb).trans h.only (fun x hx => .inl hx)⟩
end
end Go.Proofs.YtgicljeedegncaaGreat
