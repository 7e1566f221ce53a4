/-
 The document's side of layer 24: Look: its walk.
-/
import Derived.Test.YtidfngcclbhoaaaJrRowG
import Derived.Test.YtidfngcclbhoaaaMjCheck
import Derived.OwnWalk
namespace Go.Proofs.Ytidfngcclbhoaaa
open List renaming getElem?_toArray → ZG, getElem?_cons_zero → ZH, getElem?_cons_succ → ZJ
open Go.Value renaming int → ZI
open Go.IntKind renaming i64 → ZQ
set_option linter.unusedSimpArgs false
set_option linter.unusedVariables false
open Go.RowKit Go.Shelf
structure LrSt (w W : World) (b : Nat) (k : KN) (vL vA vR vP : Value) : Prop where
 kn : KrAt W b w.heap.size k vL vA vR vP
 bl : FarR w.heap.size w W
theorem LrSt.far {w W W' : World} {b : Nat} {k k' : KN} {vL vA vR vP vL' vA' vR' vP' : Value} (h : LrSt w W b k vL vA vR vP) (hf : FarR w.heap.size W W') (hk : KrAt W' b w.heap.size k' vL' vA' vR' vP') : LrSt w W' b k' vL' vA' vR' vP' :=
 ⟨hk, h.bl.trans hf⟩
theorem LrSt.put {w W : World} {b : Nat} {k k' : KN} {vL vA vR vP : Value} (h : LrSt w W b k vL vA vR vP) (i : Nat) (u : Value) (hc : (krC k vL vA vR vP).setIfInBounds i u = krC k' vL vA vR vP) (hf : k'.flying = k.flying) (hp : k'.pieces = k.pieces) (hd : k'.paced = k.paced) :
  LrSt w (W.setCell ⟨b, i, none⟩ u) b k' vL vA vR vP := h.far (FarR.refl.set h.kn.blk h.kn.ge i u) (h.kn.put i u k' hc hf hp hd)
set_option maxRecDepth 100000 in
set_option maxHeartbeats 8000000 in
theorem rlook_any (Q : Nat → KN → Prop) (f : KN → RR → Except Int KN) (c : CF) (hc : errC c = 0) (A : Option Addr) (n cap : Nat) (l : List RR) (w : World) (hn : l.length = n) (hl : n ≤ 1000) (hL : LieAt rrL 20 w w.heap.size A l)
  (hE : ∀ x ∈ l, LieAt evL 4 w w.heap.size x.r.ea x.es ∧ LieAt rgL 2 w w.heap.size x.r.ra x.rs) (hQ0 : Q 0 (K0 c 3))
  (hrow : ∀ i x k b W vL vA vR vP, Q i k → l[i]? = some x → KrAt W b w.heap.size (tellK k x) vL vA vR vP → LieAt evL 4 W w.heap.size x.r.ea x.es → LieAt rgL 2 W w.heap.size x.r.ra x.rs → Calls Try.prog 35 #[.pointer (some ⟨b, 0, none⟩), .agg (rwC x.r)] W (RefPost b w.heap.size W (f (tellK k x) x)))
  (hQ : ∀ i x k k', Q i k → l[i]? = some x → f (tellK k x) x = .ok k' → Q (i + 1) k') (hpos : ∀ i x k m, Q i k → l[i]? = some x → f (tellK k x) x = .error m → 0 < m ∧ m ≤ 100) :
  Calls Try.prog 16 #[.agg (confC c), .slice A n cap] w fun e w' => e = .returned (.tuple #[ZI ZQ (lookP f (K0 c 3) l 0).1, ZI ZQ (lookP f (K0 c 3) l 0).2, ZI ZQ 0]) ∧ Below w.heap.size w w' := by
 have HCK := hide (fun W => check20_any c W)
 rw [hc] at HCK
 obtain ⟨res, hres⟩ : ∃ x, lookP f (K0 c 3) l 0 = x := ⟨_, rfl⟩
 rw [hres]
 have HRES := hide hres
 have HL := hide hL
 have HE := hide hE
 have HN := hide hn
 have HQ0 := hide hQ0
 have HROW := hide hrow
 have HQ := hide hQ
 have HPOS := hide hpos
 have hnI : ¬ (1000 : Int) < (n : Int) := by omega
 clear hres hL hE hQ0 hrow hQ hpos hn hc
 obtain ⟨sv, d, first, most, rtt, delay, ex, burst, room, backs⟩ := c
 unfold confC at HCK ⊢
 go_enter Try.func16, Try.ntmps16
 go_wp2_with fail
 refine (HCK.out _).mono ?_
 rintro y1 W1 ⟨rfl, hb1⟩
 have hc0 : Blk W1 w.heap.size 24 (confC ⟨sv, d, first, most, rtt, delay, ex, burst, room, backs⟩) := (hb1.block _ (by simp)).trans (Blk.new w 24 _)
 have HC0 := hide hc0
 have q0 := hc0.cell 0
 have q2 := hc0.cell 2
 have q4 := hc0.cell 4
 have hbw : Below w.heap.size w W1 := ((Below.refl _ _).alloc (Nat.le_refl _) _).trans (hb1.mono (by simp))
 have HBW := hide hbw
 simp only [confC, ZG, ZH, ZJ] at q0 q2 q4
 clear hc0 hb1 hbw HCK
 go_upto_region 7 with (refine wpList_load_row rfl 24 (.tmp 2) rfl w.heap.size rfl 24 #[.bool sv, ZI ZQ d, ZI ZQ first, ZI ZQ most, ZI ZQ rtt, ZI ZQ delay, ZI ZQ ex, ZI ZQ burst, ZI ZQ room, ZI ZQ backs] (0, 0) _ HC0.out Try.underlying24 rfl conf_size ?_)
 have h0 : LrSt w ((W1.alloc (.cells #[ZI ZQ 0, ZI ZQ first, ZI ZQ rtt] 30)).alloc (.cells (krC (K0 ⟨sv, d, first, most, rtt, delay, ex, burst, room, backs⟩ 3) (.slice none 0 0) (.slice none 0 0) (.slice (some ⟨W1.heap.size, 0, none⟩) 1 1) (.slice none 0 0)) 92)) (W1.heap.size + 1) (K0 ⟨sv, d, first, most, rtt, delay, ex, burst, room, backs⟩ 3) (.slice none 0 0) (.slice none 0 0) (.slice (some ⟨W1.heap.size, 0, none⟩) 1 1) (.slice none 0 0) := by
  have hz := HBW.out.size
  have hp : Below W1.heap.size W1 ((W1.alloc (.cells #[ZI ZQ 0, ZI ZQ first, ZI ZQ rtt] 30)).alloc (.cells (krC (K0 ⟨sv, d, first, most, rtt, delay, ex, burst, room, backs⟩ 3) (.slice none 0 0) (.slice none 0 0) (.slice (some ⟨W1.heap.size, 0, none⟩) 1 1) (.slice none 0 0)) 92)) := ((Below.refl _ _).alloc (Nat.le_refl _) _).alloc (by simp) _
  have hkb := Blk.new (W1.alloc (.cells #[ZI ZQ 0, ZI ZQ first, ZI ZQ rtt] 30)) 92 (krC (K0 ⟨sv, d, first, most, rtt, delay, ex, burst, room, backs⟩ 3) (.slice none 0 0) (.slice none 0 0) (.slice (some ⟨W1.heap.size, 0, none⟩) 1 1) (.slice none 0 0))
  rw [show (W1.alloc (.cells #[ZI ZQ 0, ZI ZQ first, ZI ZQ rtt] 30)).heap.size = W1.heap.size + 1 by simp] at hkb
  have hpb : Blk ((W1.alloc (.cells #[ZI ZQ 0, ZI ZQ first, ZI ZQ rtt] 30)).alloc (.cells (krC (K0 ⟨sv, d, first, most, rtt, delay, ex, burst, room, backs⟩ 3) (.slice none 0 0) (.slice none 0 0) (.slice (some ⟨W1.heap.size, 0, none⟩) 1 1) (.slice none 0 0)) 92)) W1.heap.size 30 [(ZI ZQ 0 : Value), ZI ZQ first, ZI ZQ rtt].toArray := (Blk.new _ _ _).alloc _
  exact ⟨⟨hkb, ⟨rfl, .inl ⟨rfl, rfl⟩⟩, ⟨rfl, .inl ⟨rfl, rfl⟩⟩, own_mk (cur := [(ZI ZQ 0 : Value), ZI ZQ first, ZI ZQ rtt]) (n := 1) (cap := 1) hz hpb (Nat.le_refl _) (by unfold maxLen; omega) rfl, ⟨rfl, .inl ⟨rfl, rfl⟩⟩, by omega⟩, FarR.of_below (HBW.out.trans (hp.mono hz)) (Nat.le_refl _)⟩
 have HH0 := hide h0
 clear h0 q0 q2 q4
 obtain ⟨W2, hW2⟩ : ∃ x, (W1.alloc (.cells #[ZI ZQ 0, ZI ZQ first, ZI ZQ rtt] 30)).alloc (.cells #[.bool sv, ZI ZQ d, ZI ZQ first, ZI ZQ most, ZI ZQ rtt, ZI ZQ delay, ZI ZQ ex, ZI ZQ burst, ZI ZQ room, ZI ZQ backs, ZI ZQ 0, ZI ZQ first, ZI ZQ 0, ZI ZQ 0, .bool !sv, .bool false, .slice none 0 0, .slice none 0 0, ZI ZQ (-1), ZI ZQ (-1), ZI ZQ (-1), ZI ZQ (-1), ZI ZQ (-1), ZI ZQ (-1), ZI ZQ 0, ZI ZQ 0, ZI ZQ 0, .bool true, .slice (some ⟨W1.heap.size, 0, none⟩) 1 1, .slice none 0 0] 92) = x := ⟨_, rfl⟩
 obtain ⟨VR, hVR⟩ : ∃ x, Value.slice (some ⟨W1.heap.size, 0, none⟩) 1 1 = x := ⟨_, rfl⟩
 obtain ⟨b, hb⟩ : ∃ x, W1.heap.size + 1 = x := ⟨_, rfl⟩
 have HS : Hid (LrSt w W2 b (K0 ⟨sv, d, first, most, rtt, delay, ex, burst, room, backs⟩ 3) (.slice none 0 0) (.slice none 0 0) VR (.slice none 0 0)) := by
  rw [← hW2, ← hVR, ← hb]
  exact HH0.out
 rw [hW2]
 rw [hb]
 clear hW2 hVR hb HH0 HC0 HBW
 go_wp2_with fail
 go_loopg [9, 10] n (fun kx s9 s10 wr => ∃ (i : Nat) (k : KN) (vL vA vR vP : Value), s9 = ZI ZQ i ∧ i ≤ n ∧ n - i ≤ kx ∧ Hid (Q i k) ∧ Hid (res = lookP f k (l.drop i) i) ∧ LrSt w wr b k vL vA vR vP)
 case atStart => exact ⟨0, _, _, _, _, _, rfl, by omega, by omega, HQ0.out, HRES.out.symm, HS.out⟩
 case round =>
  clear HS
  obtain ⟨i, k, vL, vA, vR, vP, rfl, hi, hkx, HQI, hlq0, hs⟩ := hrel
  by_cases hlt : i < n
  ·have hir : i < l.length := by rw [HN.out]; exact hlt
   obtain ⟨x, hx⟩ : ∃ x, l[i]? = some x := ⟨_, List.getElem?_eq_getElem hir⟩
   have hd : l.drop i = x :: l.drop (i + 1) := by
    rw [List.drop_eq_getElem_cons hir]
    congr 1
    rw [List.getElem?_eq_getElem hir] at hx
    exact Option.some.inj hx
   have HX := hide hx
   have hlq : res = match f (tellK k x) x with
     | .ok k' => lookP f k' (l.drop (i + 1)) (i + 1)
     | .error m => ((i : Int), m) := by
    rw [show res = lookP f k (l.drop i) i from hlq0, hd]
    rfl
   have HLQ := hide hlq
   obtain ⟨g, o, rfl, hg, hz⟩ := (HL.out.later hs.bl.bl).at hx
   have z19 := hz 19 (ZI ZQ x.r.smooth) (by omega) rfl
   have hin : (i : Int) < (n : Int) := by omega
   have c27 := hs.kn.blk.cell 27
   have f27 := hs.kn.blk.frozen 27
   have hgb : g < w.heap.size := hg
   have hbg : w.heap.size ≤ b := hs.kn.ge
   have HS := hide hs
   clear hlq hlq0 hd hx hir hz
   cases htl : k.told with
   | true =>
    have htk : (krC k vL vA vR vP).setIfInBounds 27 (.bool (decide (0 < x.r.smooth))) = krC (tellK k x) vL vA vR vP := by simp [krC, tellK, htl]
    have hs5 := hs.put (k' := tellK k x) 27 (.bool (decide (0 < x.r.smooth))) htk rfl rfl rfl
    simp only [krC, htl, ZG, ZH, ZJ] at c27
    have HS5 := hide hs5
    obtain ⟨g', o', hgo, hg', hz5⟩ := (HL.out.later hs5.bl.bl).at HX.out
    injection hgo with hgo
    injection hgo with q1 q2
    subst q1 q2
    have HC5 := hide (show ∀ j v, (rwC x.r)[j]? = some v → World.cell? _ ((⟨g, o + i * 20, none⟩ : Addr).add j) = some v from by
     intro j v hv
     have hj : j < 20 := by have := (Array.getElem?_eq_some_iff.1 hv).1; exact this
     rw [show (⟨g, o + i * 20, none⟩ : Addr).add j = ⟨g, o + i * 20 + j, none⟩ by unfold Addr.add; split <;> simp_all]
     exact hz5 j v hj (by unfold rrL; rw [Array.getElem?_toList]; exact hv))
    have HEV := hide ((HE.out x (List.mem_of_getElem? HX.out)).1.later hs5.bl.bl)
    have HRG := hide ((HE.out x (List.mem_of_getElem? HX.out)).2.later hs5.bl.bl)
    clear hs5 htk hs hz5 htl
    go_wp2_with (refine wpList_load_at rfl 93 (.tmp 59) rfl ⟨g, o + i * 20, none⟩ rfl (rwC x.r) _ HC5.out Try.underlying93 rfl rrow_size ?_)
    with_reducible refine (HROW.out i x k b _ vL vA vR vP HQI.out HX.out HS5.out.kn HEV.out HRG.out).mono ?_
    have hlq := HLQ.out
    clear HLQ
    cases hf : f (tellK k x) x with
    | error m =>
     rintro y7 W7 ⟨rfl, hf7⟩
     obtain ⟨m0, m1⟩ := HPOS.out i x k m HQI.out HX.out hf
     have HR7 : Hid (res = ((i : Int), m)) := by
      show _ = _
      rw [hlq, hf]
     have HB7 := hide (HS5.out.bl.trans hf7).bl
     clear hf hlq hf7 HS5 HS HEV HRG HC5 c27 f27 z19
     go_wp2_with fail
     go_ret3
     exact ⟨by rw [HR7.out]; rfl, HB7.out⟩
    | ok k' =>
     rintro y7 W7 ⟨rfl, vL', vA', vR', vP', hk7, hf7⟩
     have hs7 := HS5.out.far hf7 hk7
     have HS7 := hide hs7
     have HR7 : Hid (res = lookP f k' (l.drop (i + 1)) (i + 1)) := by
      show _ = _
      rw [hlq, hf]
     have HQ7 := hide (HQ.out i x k k' HQI.out HX.out hf)
     clear hf hlq hf7 hk7 hs7 HS5 HS HEV HRG HC5 c27 f27 z19
     go_wp2_with fail
     go_roundg (n - (i + 1))
     case rel => exact ⟨i + 1, k', vL', vA', vR', vP', by go_num, by omega, by omega, HQ7.out, HR7.out, HS7.out⟩
     case measure => omega
   | false =>
    have htk : (krC k vL vA vR vP).setIfInBounds 27 (.bool false) = krC (tellK k x) vL vA vR vP := by simp [krC, tellK, htl]
    have hs5 := hs.put (k' := tellK k x) 27 (.bool false) htk rfl rfl rfl
    simp only [krC, htl, ZG, ZH, ZJ] at c27
    have HS5 := hide hs5
    obtain ⟨g', o', hgo, hg', hz5⟩ := (HL.out.later hs5.bl.bl).at HX.out
    injection hgo with hgo
    injection hgo with q1 q2
    subst q1 q2
    have HC5 := hide (show ∀ j v, (rwC x.r)[j]? = some v → World.cell? _ ((⟨g, o + i * 20, none⟩ : Addr).add j) = some v from by
     intro j v hv
     have hj : j < 20 := by have := (Array.getElem?_eq_some_iff.1 hv).1; exact this
     rw [show (⟨g, o + i * 20, none⟩ : Addr).add j = ⟨g, o + i * 20 + j, none⟩ by unfold Addr.add; split <;> simp_all]
     exact hz5 j v hj (by unfold rrL; rw [Array.getElem?_toList]; exact hv))
    have HEV := hide ((HE.out x (List.mem_of_getElem? HX.out)).1.later hs5.bl.bl)
    have HRG := hide ((HE.out x (List.mem_of_getElem? HX.out)).2.later hs5.bl.bl)
    clear hs5 htk hs hz5 htl
    go_wp2_with (refine wpList_load_at rfl 93 (.tmp 59) rfl ⟨g, o + i * 20, none⟩ rfl (rwC x.r) _ HC5.out Try.underlying93 rfl rrow_size ?_)
    with_reducible refine (HROW.out i x k b _ vL vA vR vP HQI.out HX.out HS5.out.kn HEV.out HRG.out).mono ?_
    have hlq := HLQ.out
    clear HLQ
    cases hf : f (tellK k x) x with
    | error m =>
     rintro y7 W7 ⟨rfl, hf7⟩
     obtain ⟨m0, m1⟩ := HPOS.out i x k m HQI.out HX.out hf
     have HR7 : Hid (res = ((i : Int), m)) := by
      show _ = _
      rw [hlq, hf]
     have HB7 := hide (HS5.out.bl.trans hf7).bl
     clear hf hlq hf7 HS5 HS HEV HRG HC5 c27 f27 z19
     go_wp2_with fail
     go_ret3
     exact ⟨by rw [HR7.out]; rfl, HB7.out⟩
    | ok k' =>
     rintro y7 W7 ⟨rfl, vL', vA', vR', vP', hk7, hf7⟩
     have hs7 := HS5.out.far hf7 hk7
     have HS7 := hide hs7
     have HR7 : Hid (res = lookP f k' (l.drop (i + 1)) (i + 1)) := by
      show _ = _
      rw [hlq, hf]
     have HQ7 := hide (HQ.out i x k k' HQI.out HX.out hf)
     clear hf hlq hf7 hk7 hs7 HS5 HS HEV HRG HC5 c27 f27 z19
     go_wp2_with fail
     go_roundg (n - (i + 1))
     case rel => exact ⟨i + 1, k', vL', vA', vR', vP', by go_num, by omega, by omega, HQ7.out, HR7.out, HS7.out⟩
     case measure => omega
  ·obtain rfl : i = n := by omega
   have hin : ¬ (i : Int) < (i : Int) := by omega
   have hlq : res = ((-1 : Int), (0 : Int)) := by
    rw [show res = lookP f k (l.drop i) i from hlq0, List.drop_of_length_le (by rw [HN.out]; exact Nat.le_refl _)]
    rfl
   have HR := hide hlq
   have HS := hide hs
   clear hlq hlq0 hs
   go_wp2_with fail
   go_ret3
   exact ⟨by rw [HR.out]; rfl, HS.out.bl.bl⟩
end Go.Proofs.Ytidfngcclbhoaaa
