/-
 The document's space (sounderref17): Ack. Printed by wip/gensrspd.py.
-/
import Derived.Test.YtgicljeedegncaaGreatSrSpC
namespace Go.Proofs.YtgicljeedegncaaGreat
open List renaming getElem_toArray → ZA, getElem_cons_zero → ZB, getElem_cons_succ → ZC, setIfInBounds_toArray → ZD, set_cons_zero → ZE, set_cons_succ → ZF
open Go.AllReadyH renaming cons → ZS, nil → ZN
open Go.Act renaming put → ZP
open Go.Value renaming int → ZI
open Go.IntKind renaming i64 → ZQ
set_option linter.unusedSimpArgs false
set_option linter.unusedVariables false
open Go.RowKit

/-- What the document's Ack, or Lose, leaves. -/
def ToldrPost (w : World) (d : Dt) (s' : SpSt) (out : List PK) (z : Int) (e : Ending) (w' : World) : Prop := ∃ a c d', e = .returned (.tuple #[.slice a out.length c, ZI ZQ z]) ∧ PksAt w' a out ∧ out.length ≤ c ∧ (∀ k o, a = some ⟨k, o, none⟩ → w.heap.size ≤ k ∧ k < w'.heap.size) ∧ RsPost w d s' d' w'
theorem toldr_stay {w w' : World} {d : Dt} {s : SpSt} {z : Int} (h : IsRs w d s) (hb : Below w.heap.size w w') : ToldrPost w d s [] z (.returned (.tuple #[.slice none 0 0, ZI ZQ z])) w' :=
 ⟨none, 0, d, rfl, ⟨by simp, by simp⟩, by simp, by simp, (RsPost.refl h).below hb⟩
/-- The document's space on the way; the ACK, and its box, lie as they lay. -/
structure RaAt (w1 W : World) (d : Dt) (s : SpSt) (d' : Dt) (s' : SpSt) (X : Nat) (a : Option Addr) (c : Nat) (ak : AK) : Prop where
 post : RsPost w1 d s' d' W
 box : Blk w1 X 52 (akC ak a ak.rs.length c)
 row : RgAt w1 a ak.rs
 nx : X ∉ d.own
 na : ∀ k, a = some ⟨k, 0, none⟩ → k ∉ d.own
section
variable {w1 W W' : World} {d d' d2 : Dt} {s s' s2 : SpSt} {X c : Nat} {a : Option Addr} {ak : AK}
theorem RaAt.later (h : RaAt w1 W d s d' s' X a c ak) (hb : Below W.heap.size W W') : RaAt w1 W' d s d' s' X a c ak := ⟨h.post.below hb, h.box, h.row, h.nx, h.na⟩
theorem RaAt.step (h : RaAt w1 W d s d' s' X a c ak) (hp : RsPost W d' s2 d2 W') : RaAt w1 W' d s d2 s2 X a c ak := ⟨h.post.trans hp, h.box, h.row, h.nx, h.na⟩
theorem RaAt.boxAt (h : RaAt w1 W d s d' s' X a c ak) : Blk W X 52 (akC ak a ak.rs.length c) := h.post.only.blk h.box h.nx
theorem RaAt.rowAt (h : RaAt w1 W d s d' s' X a c ak) : RgAt W a ak.rs := h.row.only h.post.only h.na
theorem RaAt.cells (h : RaAt w1 W d s d' s' X a c ak) : W.cell? ⟨d.m, 0, none⟩ = some (.pointer (some ⟨d'.lb, 0, none⟩)) ∧ W.cell? ⟨d.m, 2, none⟩ = some (.pointer (some ⟨d'.mb, 0, none⟩)) ∧ W.cell? ⟨d.m, 3, none⟩ = some (ZI ZQ s'.great) ∧ W.cell? ⟨X, 0, none⟩ = some (ZI ZQ ak.delay) ∧ W.cell? ⟨X, 1, none⟩ = some (.slice a ak.rs.length c) ∧ W.cell? ⟨X, 2, none⟩ = some (.bool ak.marked) ∧ W.cell? ⟨X, 3, none⟩ = some (ZI ZQ ak.e0) ∧ W.cell? ⟨X, 4, none⟩ = some (ZI ZQ ak.e1) ∧ W.cell? ⟨X, 5, none⟩ = some (ZI ZQ ak.e2) := by
 have hc := h.post.rs.six
 rw [h.post.m] at hc
 have hb := h.boxAt
 exact ⟨hc.1, hc.2.2.1, hc.2.2.2.1, hb.cell 0, hb.cell 1, hb.cell 2, hb.cell 3, hb.cell 4, hb.cell 5⟩
end
theorem IsRs.setRem {w1 w : World} {d : Dt} {s : SpSt} {b : Nat} (h1 : IsRs w1 d s) (hb : Below w1.heap.size w1 w) (hS : RefS w b none 0 []) (hn : w1.heap.size ≤ b) : RsPost w1 d { s with R := [] } { d with mb := b, ma := none, mc := 0 } (w.setCell ⟨d.m, 2, none⟩ (.pointer (some ⟨b, 0, none⟩))) := by
 have h := h1.below hb
 have hlt := h1.lt
 have ho : Only [d.m] w (w.setCell ⟨d.m, 2, none⟩ (.pointer (some ⟨b, 0, none⟩))) := (Only.refl _ _).setCell (.inl (by simp)) _
 obtain ⟨a1, a2, a3, a4, a5, a6⟩ := h.apart
 have o1 := hlt d.m (.inl (by simp [Dt.own]))
 have o2 := hlt d.kb (.inl (by simp [Dt.own]))
 refine ⟨⟨(h.blk.set 2 _).eq (by simp [spCells]), h.log.only ho (fun x hx => by simp at hx; subst hx; exact h.own_blk (.inl rfl)), h.kn.only ho (by simp; exact Ne.symm a2) (fun k e hm => h.off k (.inl e) (by simp at hm; subst hm; simp [Dt.own])), hS.only ho (by simp; omega) (by simp), ?_, ?_⟩, rfl, ?_, ?_, (only_of_below hb).trans ho (fun x hx => .inl (by simp at hx; subst hx; simp [Dt.own]))⟩
 ·rintro k (e | e) hm
  ·have h2 := h.off k (.inl e)
   have h3 := hlt k (.inr (.inl e))
   simp only [Dt.own, List.mem_cons, List.not_mem_nil, or_false] at hm h2
   omega
  ·cases e
 ·show d.kb ≠ b
  omega
 ·intro x hx
  simp only [Dt.own, List.mem_cons, List.not_mem_nil, or_false] at hx
  rcases hx with rfl | rfl | rfl | rfl
  ·exact .inl (by simp [Dt.own])
  ·exact .inl (by simp [Dt.own])
  ·exact .inl (by simp [Dt.own])
  ·exact .inr hn
 ·rintro k (e | e)
  ·exact .inl (.inl e)
  ·cases e
/-- A row that belongs to nobody here has turned. -/
theorem RaAt.far {w1 W W' : World} {d d' : Dt} {s s' : SpSt} {X c n : Nat} {a : Option Addr} {ak : AK} {o : Value} {S : List Nat} (h : RaAt w1 W d s d' s' X a c ak) (ho : Only S W W') (hn : w1.heap.size ≤ n) (hS : ∀ x ∈ S, n ≤ x ∧ o.ownBlock = some x) (hd : ∀ x, x ∈ d'.own ∨ RowB d' x → x < n) (hv : RowFar W d'.lb o) : RaAt w1 W' d s d' s' X a c ak := by
 have hns : ∀ x, x ∈ d'.own ∨ RowB d' x → x ∉ S := fun x hx hm => by have h1 := hd x hx; have h2 := (hS x hm).1; omega
 obtain ⟨⟨p1, p2, p3, p4, p5⟩, q2, q3, q4, q5⟩ := h
 refine ⟨⟨⟨ho.blk p1.blk (hns _ (.inl (by simp [Dt.own]))), p1.log.far hv ho (hns _ (.inl (by simp [Dt.own]))) (fun x hx => (hS x hx).2), p1.kn.only ho (hns _ (.inl (by simp [Dt.own]))) (fun k e => hns k (.inr (.inl e))), p1.rem.only ho (hns _ (.inl (by simp [Dt.own]))) (fun k e => hns k (.inr (.inr e))), p1.off, p1.ne⟩, p2, p3, p4, p5.trans ho (fun x hx => .inr (by have h2 := (hS x hx).1; omega))⟩, q2, q3, q4, q5⟩
def remZ (ps : List Pk) (R : List Rg) : List Rg := match ps with | [] => [] | p :: _ => cutR p.num R
theorem remZ_eq (ps : List Pk) (R rs : List Rg) : remR ps R rs = remF (remZ ps R) rs := rfl
set_option maxRecDepth 100000 in
set_option maxHeartbeats 8000000 in
theorem r17ack_any (d : Dt) (s : SpSt) (ak : AK) (a : Option Addr) (c : Nat) (w : World) (h : IsRs w d s) (hl : ak.rs.length ≤ 1000) (hR : RgAt w a ak.rs) (hna : ∀ k, a = some ⟨k, 0, none⟩ → k ∉ d.own) (hmay : ∀ p ∈ s.ps, p.may) (hln : s.ps.length ≤ 256) :
  Calls Tryz.prog 34 #[.pointer (some ⟨d.m, 0, none⟩), .agg (akC ak a ak.rs.length c)] w (ToldrPost w d (ackS s ak) (ackL s ak) (ackE s ak)) := by
 have hb0 : Below w.heap.size w (w.alloc (.cells (akC ak a ak.rs.length c) 52)) := (Below.refl _ _).alloc (Nat.le_refl _) _
 have h1 : RaAt (w.alloc (.cells (akC ak a ak.rs.length c) 52)) (w.alloc (.cells (akC ak a ak.rs.length c) 52)) d s d s w.heap.size a c ak :=
  ⟨RsPost.refl (h.below hb0), Blk.new _ _ _, hR.below hb0, fun hm => by have := h.lt _ (.inl hm); omega, hna⟩
 have H := hide h
 have HB0 := hide hb0
 have HCK := hide (fun W (hW : RgAt W a ak.rs) => r05check_any ak a c W hl hW)
 obtain ⟨Q, hQ⟩ : ∃ Q : Ending → World → Prop, ToldrPost w d (ackS s ak) (ackL s ak) (ackE s ak) = Q := ⟨_, rfl⟩
 have HBAD : Hid (∀ z, ackE s ak = z → z ≠ 0 → ∀ w', Below w.heap.size w w' → Q (.returned (.tuple #[.slice none 0 0, ZI ZQ z])) w') := by
  show ∀ z, _
  intro z hz hz0 w' hb
  rw [← hQ, ackS_no (by omega), ackL_no (by omega), hz]
  exact toldr_stay h hb
 have HGOOD : Hid (ackE s ak = 0 → ∀ r0, ak.rs[0]? = some r0 → ToldrPost w d { s with R := remR s.ps s.R ak.rs, great := if s.great < r0.hi then r0.hi else s.great, ps := dropL (ackP ak.rs) (s.ps.map toPK) s.ps } ((s.ps.map toPK).filter (ackP ak.rs)) 0 = Q) := fun he r0 hr0 => by rw [← hQ, ackS_ok he hr0, ackL_ok he, he]
 rw [hQ]
 have HMAY := hide hmay
 clear h hR hna hb0 hQ hmay
 cases hck : okAk ak with
 | false =>
  have HE : Hid (ackE s ak = 2) := by show _ = _; unfold ackE; rw [hck]; rfl
  have HC2 := hide (HCK.out _ h1.rowAt)
  rw [ckA_bad hck] at HC2
  obtain ⟨y0, y2, y3, x0, x1, x2, x3, x4, x5⟩ := h1.cells
  have HP := hide (HBAD.out 2 HE.out (by omega))
  clear h1 hck HGOOD HBAD HCK
  obtain ⟨dl, rs, mk, m0, m1, m2⟩ := ak
  dsimp only at x0 x1 x2 x3 x4 x5 HC2 ⊢
  unfold akC at x0 x1 x2 x3 x4 x5 HC2 HB0 ⊢
  dsimp only at x0 x1 x2 x3 x4 x5 HC2 HB0 ⊢
  go_enter Tryz.func34, Tryz.ntmps34
  go_wp2_with fail
  refine HC2.out.mono ?_
  rintro e2 w2 ⟨rfl, hb2⟩
  go_wp2_with fail
  first
  | exact HP.out _ (bw_below' HB0.out hb2)
  | (go_ret2; exact HP.out _ (bw_below' HB0.out hb2))
 | true =>
  have HCKK := hide hck
  have HOK := hide (ackOk_of hck)
  have HHAS := hide (fun W n (hW : RgAt W a ak.rs) => r05has_any ak a c n W hck hW)
  obtain ⟨r0, hr0⟩ : ∃ r, ak.rs[0]? = some r := ⟨_, List.getElem?_eq_getElem (by have := (ackOk_of hck).pos; omega)⟩
  have HR0 := hide hr0
  have HC2 := hide (HCK.out _ h1.rowAt)
  rw [ckA_good hck] at HC2
  obtain ⟨y0, y2, y3, x0, x1, x2, x3, x4, x5⟩ := h1.cells
  have HE1 : Hid ((∃ r ∈ ak.rs, s.K.any (inP r) = false) → ackE s ak = 170) := fun hex => by
   unfold ackE
   rw [if_pos hck, if_neg (fun h1 => by obtain ⟨r, hr, hk⟩ := hex; have := List.all_eq_true.1 h1 r hr; rw [hk] at this; cases this)]
  have HE0 : Hid ((∀ r ∈ ak.rs, s.K.any (inP r) = true) → ackE s ak = 0) := fun hall => by
   unfold ackE
   rw [if_pos hck, if_pos (List.all_eq_true.2 hall)]
  have HR1 := hide h1
  have hle := (ackOk_of hck).le
  clear h1 hck hr0 HCK
  obtain ⟨dl, rs, mk, m0, m1, m2⟩ := ak
  dsimp only at x0 x1 x2 x3 x4 x5 HC2 HOK HR0 HE1 HE0 HGOOD HHAS hle hl ⊢
  obtain ⟨K, hK⟩ : ∃ K, rs.length = K := ⟨_, rfl⟩
  have HK := hide hK
  unfold akC at x0 x1 x2 x3 x4 x5 HC2 HB0 HR1 HHAS ⊢
  dsimp only at x0 x1 x2 x3 x4 x5 HC2 HB0 HR1 HHAS ⊢
  rw [hK] at x0 x1 x2 x3 x4 x5 HC2 HB0 HR1 HHAS hle hl ⊢
  clear hK
  go_enter Tryz.func34, Tryz.ntmps34
  go_wp2_with fail
  refine HC2.out.mono ?_
  rintro e2 w2 ⟨rfl, hb2⟩
  obtain ⟨X, hX⟩ : ∃ X, w.heap.size = X := ⟨_, rfl⟩
  obtain ⟨w1, hw1⟩ : ∃ y, w.alloc (.cells #[ZI ZQ dl, .slice a K c, .bool mk, ZI ZQ m0, ZI ZQ m1, ZI ZQ m2] 52) = y := ⟨_, rfl⟩
  rw [hw1] at HR1 HB0 hb2 x0 x1 x2 x3 x4 x5
  rw [hX] at HR1 x0 x1 x2 x3 x4 x5 ⊢
  have HR2 := hide (HR1.out.later hb2)
  have HB2 := hide hb2
  have HX := hide hX
  clear x0 x1 x2 x3 x4 x5 y0 y2 y3 hb2 HC2 hw1 hX
  obtain ⟨y0, y2, y3, x0, x1, x2, x3, x4, x5⟩ := HR2.out.cells
  dsimp only at x0 x1 x2 x3 x4 x5
  rw [HK.out] at x1
  go_wp2_with fail
  go_loopg [7] K (fun kx s7 wr => ∃ i : Nat, s7 = ZI ZQ i ∧ i ≤ K ∧ K - i ≤ kx ∧ Hid (∀ (j : Nat) (r : Rg), j < i → rs[j]? = some r → s.K.any (inP r) = true) ∧ RaAt w1 wr d s d s X a c ⟨dl, rs, mk, m0, m1, m2⟩ ∧ Below w1.heap.size w1 wr)
  case atStart => exact ⟨0, rfl, by omega, by omega, fun j r hj => by omega, HR2.out, HB2.out⟩
  case round =>
   clear HR2 HB2 y0 y2 y3 x0 x1 x2 x3 x4 x5
   obtain ⟨i, rfl, hi, hkx, hall, hRA, hBR⟩ := hrel
   obtain ⟨y0, y2, y3, x0, x1, x2, x3, x4, x5⟩ := hRA.cells
   dsimp only at x0 x1 x2 x3 x4 x5
   rw [HK.out] at x1
   by_cases hlt : i < K
   ·obtain ⟨r, hr⟩ : ∃ r, rs[i]? = some r := ⟨_, List.getElem?_eq_getElem (by rw [HK.out]; exact hlt)⟩
    obtain ⟨k, rfl, hk, z0, z1⟩ := hRA.rowAt i r hr
    have hin : (i : Int) < (K : Int) := by omega
    have hi0 : (0 : Int) ≤ (i : Int) := by omega
    have HKN := hide (r17known_any d s r wr hRA.post.rs)
    have HRI := hide hr
    have HALL := hide hall
    have HRA := hide hRA
    have HBR := hide hBR
    clear hRA hBR hall hr
    cases hq : s.K.any (inP r) with
    | true =>
     rw [hq] at HKN
     have HQ := hide hq
     clear hq
     go_wp2_with fail
     refine HKN.out.mono ?_
     rintro e3 w3 ⟨rfl, hb3⟩
     have HR3 := hide (HRA.out.later hb3)
     have HB3 := hide (HBR.out.trans (hb3.mono HBR.out.size))
     clear hb3
     go_wp2_with fail
     go_roundg (K - (i + 1))
     case rel =>
      refine ⟨i + 1, by go_num, by omega, by omega, fun j r' hj hr' => ?_, HR3.out, HB3.out⟩
      by_cases hji : j < i
      ·exact HALL.out j r' hji hr'
      ·obtain rfl : j = i := by omega
       rw [HRI.out] at hr'
       cases hr'
       exact HQ.out
     case measure => omega
    | false =>
     rw [hq] at HKN
     have HP := hide (HBAD.out 170 (HE1.out ⟨r, List.mem_of_getElem? HRI.out, hq⟩) (by omega))
     clear hq
     go_wp2_with fail
     refine HKN.out.mono ?_
     rintro e3 w3 ⟨rfl, hb3⟩
     have HB3 := hide (bw_below' HB0.out (HBR.out.trans (hb3.mono HBR.out.size)))
     clear hb3
     go_wp2_with fail
     first
     | exact HP.out _ HB3.out
     | (go_ret2; exact HP.out _ HB3.out)
   ·obtain rfl : i = K := by omega
    have hin : ¬ (i : Int) < (i : Int) := by omega
    have hall2 : ∀ r ∈ rs, s.K.any (inP r) = true := fun r hr => by
     obtain ⟨j, hj⟩ := List.mem_iff_getElem?.1 hr
     exact hall j r (by have := (List.getElem?_eq_some_iff.1 hj).1; rw [HK.out] at this; exact this) hj
    have HQQ := hide (HGOOD.out (HE0.out hall2) r0 HR0.out)
    have HRA := hide hRA
    have HBR := hide (bw_below' HB0.out hBR)
    obtain ⟨po, hpo⟩ : ∃ po, headOf s.ps = po := ⟨_, rfl⟩
    obtain ⟨po, pt⟩ := po
    have HOL := hide (roldest_any _ _ _ _ po pt wr hRA.post.rs.log hpo)
    have HPO := hide hpo
    clear hall hall2 HE0 HE1 HGOOD HBAD hRA hBR hpo
    go_wp2_with fail
    refine HOL.out.mono ?_
    rintro e3 w3 ⟨rfl, hb3⟩
    have HR3 := hide (HRA.out.later hb3)
    have HB3 := hide (bw_below' HBR.out hb3)
    clear hb3 HOL HRA HBR y0 y2 y3 x0 x1 x2 x3 x4 x5
    have hwz3 := HB3.out.size
    go_upto_if 44 with fail
    go_cut [10, 11] (fun s10 s11 wx => ∃ d5, RaAt w1 wx d s d5 { s with R := remZ s.ps s.R } X a c ⟨dl, rs, mk, m0, m1, m2⟩ ∧ w.heap.size ≤ wx.heap.size)
    case first =>
     cases hps : s.ps with
     | nil =>
      have h9 := HPO.out
      rw [hps] at h9
      cases h9
      go_wp2_with fail
      refine (r04new_ok _).mono ?_
      rintro e4 w4 ⟨rfl, hw4⟩
      have hk4 : Blk w4 (w3.heap.size + 1) 145 #[ZI ZQ 256, .slice none 0 0] := by rw [hw4]; exact blk_new_at (by simp)
      have hb4 : Below w3.heap.size w3 w4 := by rw [hw4]; exact ((Below.refl _ _).alloc (Nat.le_refl _) _).alloc (by simp) _
      have hr4 := HR3.out.later hb4
      obtain ⟨y0, y2, y3, x0, x1, x2, x3, x4, x5⟩ := hr4.cells
      have f2 : w4.frozen? ⟨d.m, 2, none⟩ = false := by have := hr4.post.rs.blk.frozen 2; rw [hr4.post.m] at this; exact this
      have hq4 := HR3.out.post.rs.setRem hb4 (refS_new hk4) (by omega)
      have hz4 := hb4.size
      have HR4 := hide (HR3.out.step hq4)
      clear hw4 hk4 hb4 hr4 hq4
      simp only [World.size_alloc]
      go_wp2_with fail
      go_meet
      refine ⟨{ d with mb := w3.heap.size + 1, ma := none, mc := 0 }, ?_, ?_⟩
      ·have hzz : remZ s.ps s.R = [] := by unfold remZ; rw [hps]
       rw [hzz]
       exact HR4.out
      ·rw [World.size_setCell]; omega
     | cons p t =>
      have h9 := HPO.out
      rw [hps] at h9
      cases h9
      have hpn := pk_may_num (HMAY.out po (by rw [hps]; simp))
      have hy : Blk (w3.alloc (.cells #[ZI ZQ po.num, ZI ZQ po.time, ZI ZQ po.size, .bool po.el, .bool po.fl, .bool po.ect] 40)) w3.heap.size 40 #[ZI ZQ po.num, ZI ZQ po.time, ZI ZQ po.size, .bool po.el, .bool po.fl, .bool po.ect] := Blk.new _ _ _
      have hr4 := HR3.out.later ((Below.refl w3.heap.size w3).alloc (Nat.le_refl _) (.cells #[ZI ZQ po.num, ZI ZQ po.time, ZI ZQ po.size, .bool po.el, .bool po.fl, .bool po.ect] 40))
      have hz4 : (w3.alloc (.cells #[ZI ZQ po.num, ZI ZQ po.time, ZI ZQ po.size, .bool po.el, .bool po.fl, .bool po.ect] 40)).heap.size = w3.heap.size + 1 := World.size_alloc _ _
      have HY := hide hy
      have HR4 := hide hr4
      have HZ4 := hide hz4
      clear hy hr4 hz4
      go_upto_region 11 with (fail)
      obtain ⟨W4, hW4⟩ : ∃ y, w3.alloc (.cells #[ZI ZQ po.num, ZI ZQ po.time, ZI ZQ po.size, .bool po.el, .bool po.fl, .bool po.ect] 40) = y := ⟨_, rfl⟩
      rw [hW4] at HY HR4 HZ4 ⊢
      clear hW4
      refine wp_region_held_drew (S := (fun w' => w'.cell? ⟨d.m, 2, none⟩ = some (.pointer (some ⟨d.mb, 0, none⟩)) ∧ w'.cell? ⟨w3.heap.size, 0, none⟩ = some (ZI ZQ po.num))) (by kernel_rfl) (by exact ⟨(HR4.out.later (Below.refl _ _).drew).cells.2.1, HY.out.drew.cell 0⟩) (fun hHeld => ?_)
      refine tkP 0 ?_ rfl ?_ ?_
      rotate_left
      ·intro w' hSw; (try dsimp only at hSw); go_simp; try with_reducible rfl
      try simp only [ZP, ZA, ZB, ZC, ZD, ZE, ZF]
      refine tkP 1 ?_ rfl ?_ ?_
      rotate_left
      ·intro w' hSw; (try dsimp only at hSw); go_simp; try with_reducible rfl
      try simp only [ZP, ZA, ZB, ZC, ZD, ZE, ZF]
      refine tkP 2 ?_ rfl ?_ ?_
      rotate_left
      ·intro w' hSw; (try dsimp only at hSw); go_simp; try with_reducible rfl
      try simp only [ZP, ZA, ZB, ZC, ZD, ZE, ZF]
      refine tkP 3 ?_ rfl ?_ ?_
      rotate_left
      ·intro w' hSw; (try dsimp only at hSw); obtain ⟨c2, q0⟩ := hSw; go_simp; try with_reducible rfl
      try simp only [ZP, ZA, ZB, ZC, ZD, ZE, ZF]
      refine tkP 4 ?_ rfl ?_ ?_
      rotate_left
      ·intro w' hSw; (try dsimp only at hSw); go_simp; try with_reducible rfl
      try simp only [ZP, ZA, ZB, ZC, ZD, ZE, ZF]
      refine tkP 5 ?_ rfl ?_ ?_
      rotate_left
      ·intro w' hSw; (try dsimp only at hSw); obtain ⟨c2, q0⟩ := hSw; go_simp; try with_reducible rfl
      try simp only [ZP, ZA, ZB, ZC, ZD, ZE, ZF]
      refine tkR [6] ?_
      refine ZS rfl (fun K hK => ?_) ZN
      go_simp; go_at_call 79; refine (r04cut_ok _ _ _ _ _ _ (HR4.out.later (Below.refl _ _).drew).post.rs.rem hpn.1 hpn.2).mono ?_; rintro e6 w6 hp6
      have he6 := hp6.1
      subst he6
      obtain ⟨d6, hm6, hq6⟩ := (HR4.out.later (Below.refl _ _).drew).post.rs.turnRem hp6
      have HR6 := hide ((HR4.out.later (Below.refl _ _).drew).step hq6)
      have HM6 := hide hm6
      have HY6 := hide (show Blk w6 w3.heap.size 40 #[ZI ZQ po.num, ZI ZQ po.time, ZI ZQ po.size, .bool po.el, .bool po.fl, .bool po.ect] from hq6.only.blk HY.out.drew (fun hm => by have := H.out.lt w3.heap.size (.inl hm); omega))
      have HZ6 := hide (show w.heap.size ≤ w6.heap.size from by have h7 := hq6.only.size; have h8 : W4.drew.heap.size = W4.heap.size := rfl; have h9 := HZ4.out; omega)
      clear hp6 hHeld hq6 hm6
      refine hK.out _ _ (⟨by rw [← HM6.out]; exact HR6.out.cells.2.1, HY6.out.cell 0⟩) (fun hHeld => ?_)
      clear hK K
      try simp only [ZP, ZA, ZB, ZC, ZD, ZE, ZF]
      refine wpAnyH_done (by kernel_rfl) ?_ _
      clear hHeld
      go_wp2_with fail
      go_meet
      refine ⟨d6, ?_, HZ6.out⟩
      have hzz : remZ s.ps s.R = cutR po.num s.R := by unfold remZ; rw [hps]
      rw [hzz]
      exact HR6.out
    case rest =>
     obtain ⟨d5, hR5, hz5⟩ := hcut
     have HR5 := hide hR5
     obtain ⟨y0, y2, y3, x0, x1, x2, x3, x4, x5⟩ := hR5.cells
     dsimp only at x0 x1 x2 x3 x4 x5
     rw [HK.out] at x1
     clear hR5 HR3
     go_wp2_with fail
     go_loopg [12] i (fun kx s12 wr => ∃ (j : Nat) (d5 : Dt), s12 = ZI ZQ j ∧ j ≤ i ∧ i - j ≤ kx ∧ RaAt w1 wr d s d5 { s with R := remF (remZ s.ps s.R) (rs.take j) } X a c ⟨dl, rs, mk, m0, m1, m2⟩ ∧ w.heap.size ≤ wr.heap.size)
     case atStart => exact ⟨0, d5, rfl, by omega, by omega, HR5.out, hz5⟩
     case round =>
      clear HR5 y0 y2 y3 x0 x1 x2 x3 x4 x5
      obtain ⟨j, d5, rfl, hj, hkx5, hR5, hz5⟩ := hrel
      obtain ⟨y0, y2, y3, x0, x1, x2, x3, x4, x5⟩ := hR5.cells
      dsimp only at x0 x1 x2 x3 x4 x5
      rw [HK.out] at x1
      by_cases hlj : j < i
      ·obtain ⟨r, hr⟩ : ∃ r, rs[j]? = some r := ⟨_, List.getElem?_eq_getElem (by rw [HK.out]; exact hlj)⟩
       obtain ⟨k, rfl, hk, z0, z1⟩ := hR5.rowAt j r hr
       have HTK : Hid (rs.take (j + 1) = rs.take j ++ [r]) := by show _ = _; rw [List.take_add_one, hr]; rfl
       have hinj : (j : Int) < (i : Int) := by omega
       have hj0 : (0 : Int) ≤ (j : Int) := by omega
       have CR : Hid (∀ {W' : World} (_ : True) {d6 : Dt} {R6 : List Rg}, RaAt w1 W' d s d6 { s with R := R6 } X (some ⟨k, 0, none⟩) c ⟨dl, rs, mk, m0, m1, m2⟩ → d6.mb = d5.mb → W'.cell? ⟨d.m, 2, none⟩ = some (.pointer (some ⟨d5.mb, 0, none⟩)) ∧ W'.cell? ⟨X, 1, none⟩ = some (.slice (some ⟨k, 0, none⟩) i c) ∧ W'.cell? ⟨k, j * 2, none⟩ = some (ZI ZQ r.lo) ∧ W'.cell? ⟨k, j * 2 + 1, none⟩ = some (ZI ZQ r.hi)) := by
        show ∀ {W' : World}, _
        intro W' _ d6 R6 hA hmb
        obtain ⟨_, v2, _, _, v1, _⟩ := hA.cells
        obtain ⟨k', e, _, u0, u1⟩ := hA.rowAt j r hr
        cases e
        rw [hmb] at v2
        dsimp only at v1
        rw [HK.out] at v1
        exact ⟨v2, v1, u0, u1⟩
       have HR5 := hide hR5
       clear hR5 y0 y2 y3 x0 x2 x3 x4 x5 hr
       go_upto_region 17 with (fail)
       refine wp_region_held_drew (S := (fun w' => w'.cell? ⟨d.m, 2, none⟩ = some (.pointer (some ⟨d5.mb, 0, none⟩)) ∧ w'.cell? ⟨X, 1, none⟩ = some (.slice (some ⟨k, 0, none⟩) i c) ∧ w'.cell? ⟨k, j * 2, none⟩ = some (ZI ZQ r.lo) ∧ w'.cell? ⟨k, j * 2 + 1, none⟩ = some (ZI ZQ r.hi))) (by kernel_rfl) (by exact CR.out trivial (HR5.out.later (Below.refl _ _).drew) rfl) (fun hHeld => ?_)
       refine tkP 0 ?_ rfl ?_ ?_
       rotate_left
       ·intro w' hSw; (try dsimp only at hSw); go_simp; try with_reducible rfl
       try simp only [ZP, ZA, ZB, ZC, ZD, ZE, ZF]
       refine tkP 1 ?_ rfl ?_ ?_
       rotate_left
       ·intro w' hSw; (try dsimp only at hSw); go_simp; try with_reducible rfl
       try simp only [ZP, ZA, ZB, ZC, ZD, ZE, ZF]
       refine tkP 2 ?_ rfl ?_ ?_
       rotate_left
       ·intro w' hSw; (try dsimp only at hSw); go_simp; try with_reducible rfl
       try simp only [ZP, ZA, ZB, ZC, ZD, ZE, ZF]
       refine tkP 3 ?_ rfl ?_ ?_
       rotate_left
       ·intro w' hSw; (try dsimp only at hSw); obtain ⟨c2, b1, u0, u1⟩ := hSw; go_simp; try with_reducible rfl
       try simp only [ZP, ZA, ZB, ZC, ZD, ZE, ZF]
       refine tkP 4 ?_ rfl ?_ ?_
       rotate_left
       ·intro w' hSw; (try dsimp only at hSw); go_simp; try with_reducible rfl
       try simp only [ZP, ZA, ZB, ZC, ZD, ZE, ZF]
       refine tkP 5 ?_ rfl ?_ ?_
       rotate_left
       ·intro w' hSw; (try dsimp only at hSw); obtain ⟨c2, b1, u0, u1⟩ := hSw; go_simp; try with_reducible rfl
       try simp only [ZP, ZA, ZB, ZC, ZD, ZE, ZF]
       refine tkP 6 ?_ rfl ?_ ?_
       rotate_left
       ·intro w' hSw; (try dsimp only at hSw); go_simp; try with_reducible rfl
       try simp only [ZP, ZA, ZB, ZC, ZD, ZE, ZF]
       refine tkP 7 ?_ rfl ?_ ?_
       rotate_left
       ·intro w' hSw; (try dsimp only at hSw); go_simp; try with_reducible rfl
       try simp only [ZP, ZA, ZB, ZC, ZD, ZE, ZF]
       refine tkP 8 ?_ rfl ?_ ?_
       rotate_left
       ·intro w' hSw; (try dsimp only at hSw); go_simp; try with_reducible rfl
       try simp only [ZP, ZA, ZB, ZC, ZD, ZE, ZF]
       refine tkP 9 ?_ rfl ?_ ?_
       rotate_left
       ·intro w' hSw; (try dsimp only at hSw); obtain ⟨c2, b1, u0, u1⟩ := hSw; go_simp; try with_reducible rfl
       try simp only [ZP, ZA, ZB, ZC, ZD, ZE, ZF]
       refine tkP 10 ?_ rfl ?_ ?_
       rotate_left
       ·intro w' hSw; (try dsimp only at hSw); go_simp; try with_reducible rfl
       try simp only [ZP, ZA, ZB, ZC, ZD, ZE, ZF]
       refine tkP 11 ?_ rfl ?_ ?_
       rotate_left
       ·intro w' hSw; (try dsimp only at hSw); obtain ⟨c2, b1, u0, u1⟩ := hSw; go_simp; try with_reducible rfl
       try simp only [ZP, ZA, ZB, ZC, ZD, ZE, ZF]
       refine tkP 12 ?_ rfl ?_ ?_
       rotate_left
       ·intro w' hSw; (try dsimp only at hSw); go_simp; try with_reducible rfl
       try simp only [ZP, ZA, ZB, ZC, ZD, ZE, ZF]
       refine tkP 13 ?_ rfl ?_ ?_
       rotate_left
       ·intro w' hSw; (try dsimp only at hSw); go_simp; try with_reducible rfl
       try simp only [ZP, ZA, ZB, ZC, ZD, ZE, ZF]
       refine tkP 14 ?_ rfl ?_ ?_
       rotate_left
       ·intro w' hSw; (try dsimp only at hSw); go_simp; try with_reducible rfl
       try simp only [ZP, ZA, ZB, ZC, ZD, ZE, ZF]
       refine tkP 15 ?_ rfl ?_ ?_
       rotate_left
       ·intro w' hSw; (try dsimp only at hSw); obtain ⟨c2, b1, u0, u1⟩ := hSw; go_simp; try with_reducible rfl
       try simp only [ZP, ZA, ZB, ZC, ZD, ZE, ZF]
       refine tkR [16] ?_
       refine ZS rfl (fun K hK => ?_) ZN
       go_simp; go_at_call 75; refine (r04add_any _ _ _ r.lo r.hi _ _ (HR5.out.later (Below.refl _ _).drew).post.rs.rem).mono ?_; rintro e6 w6 hp6
       have he6 := hp6.1
       subst he6
       obtain ⟨d6, hm6, hq6⟩ := (HR5.out.later (Below.refl _ _).drew).post.rs.turnRem hp6
       have HZ6 := hide (show w.heap.size ≤ w6.heap.size from by have h7 := hq6.only.size; have h8 : wr.drew.heap.size = wr.heap.size := rfl; omega)
       have HR6 := hide ((HR5.out.later (Below.refl _ _).drew).step hq6)
       have HM6 := hide hm6
       clear hp6 hHeld hq6 hm6
       refine hK.out _ _ (CR.out trivial HR6.out HM6.out) (fun hHeld => ?_)
       clear hK K
       try simp only [ZP, ZA, ZB, ZC, ZD, ZE, ZF]
       refine wpAnyH_done (by kernel_rfl) ?_ _
       clear hHeld
       go_wp2_with fail
       go_roundg (i - (j + 1))
       case rel => exact ⟨j + 1, d6, by go_num, by omega, by omega, by rw [HTK.out, remF_snoc]; exact HR6.out, HZ6.out⟩
       case measure => omega
      ·obtain rfl : j = i := by omega
       have hinj : ¬ (j : Int) < (j : Int) := by omega
       rw [List.take_of_length_le (by rw [HK.out]; exact Nat.le_refl _), ← remZ_eq] at hR5
       have HR5 := hide hR5
       obtain ⟨k0, hk0, hkl0, z0, z1⟩ := hR5.rowAt 0 r0 HR0.out
       subst hk0
       have f3 : wr.frozen? ⟨d.m, 3, none⟩ = false := by have := hR5.post.rs.blk.frozen 3; rw [hR5.post.m] at this; exact this
       have hposN : 0 < j := by have h1 := HOK.out.pos; have h2 := HK.out; omega
       obtain ⟨M, hM⟩ : ∃ M, (if s.great < r0.hi then r0.hi else s.great) = M := ⟨_, rfl⟩
       have HM := hide hM
       clear hR5
       go_upto_region 18 with (fail)
       go_region
       have hq7 := HR5.out.post.rs.turnOwn (j := 3) (u := ZI ZQ M) (great := M) (loss := s.loss) (time := s.time) rfl
       rw [HR5.out.post.m] at hq7
       have hr7 := (HR5.out.step hq7).later (Below.refl _ _).drew
       obtain ⟨W7, hW7⟩ : ∃ y, (wr.setCell ⟨d.m, 3, none⟩ (ZI ZQ M)).drew = y := ⟨_, rfl⟩
       have hz7 : w.heap.size ≤ W7.heap.size := by rw [← hW7]; show _ ≤ (wr.setCell _ _).heap.size; rw [World.size_setCell]; exact hz5
       rw [hW7] at hr7 ⊢
       have HR7 := hide hr7
       clear hq7 hr7 hW7 HR5 y0 y2 y3 x0 x1 x2 x3 x4 x5 z0 z1 f3 hM
       obtain ⟨y0, y2, y3, x0, x1, x2, x3, x4, x5⟩ := HR7.out.cells
       go_wp2_with fail
       refine (rall_any _ _ _ _ _ HR7.out.post.rs.log).mono ?_
       rintro e8 w8 ⟨v8, rfl, hv8, hb8⟩
       obtain ⟨a8, c8, rfl⟩ := own_slice' hv8
       rw [← pkcs_toPK] at hv8
       have hsm : ∀ p ∈ s.ps.map toPK, p.small := fun p hp => by
        obtain ⟨q, hq, rfl⟩ := List.mem_map.1 hp
        exact toPK_small (HMAY.out q hq)
       obtain ⟨hp8, hc8, hk8⟩ := own_pk3 (by simp) hv8 hsm
       have HR8 := hide (HR7.out.later hb8)
       obtain ⟨qs, hqs⟩ : ∃ qs, s.ps.map toPK = qs := ⟨_, rfl⟩
       have hqn : qs.length = s.ps.length := by rw [← hqs]; simp
       rw [hqs] at hp8 hsm HQQ
       have HP8 := hide (And.intro hp8 hk8)
       have HSM := hide hsm
       obtain ⟨N, hN⟩ : ∃ N, s.ps.length = N := ⟨_, rfl⟩
       have HQN : Hid (qs.length = N) := by show _ = _; rw [hqn]; exact hN
       rw [hN]
       have hln2 : N ≤ 256 := by rw [← hN]; exact hln
       have hz8 : w.heap.size ≤ w8.heap.size := Nat.le_trans hz7 hb8.size
       have HLT : Hid (w1.heap.size ≤ w8.heap.size ∧ ∀ x, x ∈ d5.own ∨ RowB d5 x → x < w8.heap.size) := ⟨(HR7.out.later hb8).post.only.size, (HR7.out.later hb8).post.rs.lt⟩
       have HLB : Hid (d5.lb < w8.heap.size ∧ ∀ k o, a8 = some ⟨k, o, none⟩ → k ≠ d5.lb) := ⟨(HR7.out.later hb8).post.rs.log.lt, fun k o e h => by have h1 := (hk8 k o e).1; have h2 := HR7.out.post.rs.log.lt; omega⟩
       obtain ⟨i0, hi0, hz0, hz1, hz2⟩ := info_parts pk_info3
       clear hv8 hb8 hsm hp8 hc8 hk8 hqn hqs hN y0 y2 y3 x0 x1 x2 x3 x4 x5 HR7
       go_wp2_with fail
       go_loopg [13, 15] N (fun kx s13 s15 wr => ∃ (q : Nat) (ps9 : List Pk), s15 = ZI ZQ q ∧ q ≤ N ∧ N - q ≤ kx ∧ Hid (ps9 = dropL (ackP rs) (qs.take q) s.ps) ∧ RaAt w1 wr d s d5 { s with R := remR s.ps s.R rs, great := M, ps := ps9 } X (some ⟨k0, 0, none⟩) c ⟨dl, rs, mk, m0, m1, m2⟩ ∧ wr.ownsRow w8.heap.size 40 6 s13 ((qs.take q).filter (ackP rs)).length (pkcs ((qs.take q).filter (ackP rs))) ∧ Only [d5.lb] w8 wr ∧ RowFar wr d5.lb s13)
       case atStart => exact ⟨0, s.ps, rfl, by omega, by omega, rfl, HR8.out, ⟨rfl, .inl ⟨rfl, rfl⟩⟩, Only.refl _ _, HR8.out.post.rs.log.rowFar rfl⟩
       case round =>
        clear HR8
        obtain ⟨q, ps9, rfl, hq, hkq, HPS, hR9, hown9, hO9, hF9⟩ := hrel
        by_cases hlq : q < N
        ·obtain ⟨g, hg⟩ : ∃ g, qs[q]? = some g := ⟨_, List.getElem?_eq_getElem (by rw [HQN.out]; exact hlq)⟩
         have HT : Hid (qs.take (q + 1) = qs.take q ++ [g]) := by show _ = _; rw [List.take_add_one, hg]; rfl
         obtain ⟨kb, ko, rfl, hkb, z0, z1, z2, z3, z4, z5⟩ := (HP8.out.1.only hO9 (fun k o e => by simpa using HLB.out.2 k o e)).cells hg
         have hinq : (q : Int) < (N : Int) := by omega
         have hq0 : (0 : Int) ≤ (q : Int) := by omega
         have CG : Hid (∀ W', Only [d5.lb] w8 W' → W'.cell? ⟨kb, ko + q * 6, none⟩ = some (ZI ZQ g.n) ∧ W'.cell? ⟨kb, ko + q * 6 + 1, none⟩ = some (ZI ZQ g.t) ∧ W'.cell? ⟨kb, ko + q * 6 + 2, none⟩ = some (ZI ZQ g.s) ∧ W'.cell? ⟨kb, ko + q * 6 + 3, none⟩ = some (.bool g.e) ∧ W'.cell? ⟨kb, ko + q * 6 + 4, none⟩ = some (.bool g.f) ∧ W'.cell? ⟨kb, ko + q * 6 + 5, none⟩ = some (.bool g.c)) := fun W' hO => by
          obtain ⟨kb', ko', e, _, u0, u1, u2, u3, u4, u5⟩ := (HP8.out.1.only hO (fun k o e => by simpa using HLB.out.2 k o e)).cells hg
          cases e
          exact ⟨u0, u1, u2, u3, u4, u5⟩
         have hln9 : ((qs.take q).filter (ackP rs)).length ≤ q := Nat.le_trans (List.length_filter_le _ _) (by rw [List.length_take]; omega)
         have HR9 := hide hR9
         have HO9 := hide hO9
         have HOW9 := hide hown9
         have HF9 := hide hF9
         have hs9 := hO9.size
         clear hR9 hown9 hO9 hF9 hg z0 z1 z2 z3 z4 z5 hkb
         have HHG := hide (fun W (hW : RgAt W (some ⟨k0, 0, none⟩) rs) => HHAS.out W g.n hW)
         cases hP : ackP rs g with
         | false =>
          rw [show rs.any (hasP g.n) = false from hP] at HHG
          have HPP := hide hP
          clear hP
          go_upto_region 24 with (fail)
          refine wp_region_held_drew (S := (fun w' => RaAt w1 w' d s d5 { s with R := remR s.ps s.R rs, great := M, ps := ps9 } X (some ⟨k0, 0, none⟩) c ⟨dl, rs, mk, m0, m1, m2⟩ ∧ Only [d5.lb] w8 w')) (by kernel_rfl) (by exact ⟨HR9.out.later (Below.refl _ _).drew, HO9.out.trans (only_of_below (S := []) (Below.refl _ _).drew) (by simp)⟩) (fun hHeld => ?_)
          refine tkP 0 ?_ rfl ?_ ?_
          rotate_left
          ·intro w' hSw; (try dsimp only at hSw); obtain ⟨y0, y2, y3, x0, x1, x2, x3, x4, x5⟩ := hSw.1.cells; dsimp only at x0 x1 x2 x3 x4 x5; rw [HK.out] at x1; obtain ⟨u0, u1, u2, u3, u4, u5⟩ := CG.out _ hSw.2; go_simp; try with_reducible rfl
          try simp only [ZP, ZA, ZB, ZC, ZD, ZE, ZF]
          refine tkP 1 ?_ rfl ?_ ?_
          rotate_left
          ·intro w' hSw; (try dsimp only at hSw); go_simp; try with_reducible rfl
          try simp only [ZP, ZA, ZB, ZC, ZD, ZE, ZF]
          refine tkP 2 ?_ rfl ?_ ?_
          rotate_left
          ·intro w' hSw; (try dsimp only at hSw); go_simp; try with_reducible rfl
          try simp only [ZP, ZA, ZB, ZC, ZD, ZE, ZF]
          refine tkP 3 ?_ rfl ?_ ?_
          rotate_left
          ·intro w' hSw; (try dsimp only at hSw); go_simp; try with_reducible rfl
          try simp only [ZP, ZA, ZB, ZC, ZD, ZE, ZF]
          refine tkP 4 ?_ rfl ?_ ?_
          rotate_left
          ·intro w' hSw; (try dsimp only at hSw); go_simp; try with_reducible rfl
          try simp only [ZP, ZA, ZB, ZC, ZD, ZE, ZF]
          refine tkP 5 ?_ rfl ?_ ?_
          rotate_left
          ·intro w' hSw; (try dsimp only at hSw); obtain ⟨y0, y2, y3, x0, x1, x2, x3, x4, x5⟩ := hSw.1.cells; dsimp only at x0 x1 x2 x3 x4 x5; rw [HK.out] at x1; obtain ⟨u0, u1, u2, u3, u4, u5⟩ := CG.out _ hSw.2; go_simp; try with_reducible rfl
          try simp only [ZP, ZA, ZB, ZC, ZD, ZE, ZF]
          refine tkR [6] ?_
          refine ZS rfl (fun K hK => ?_) ZN
          go_simp; go_at_call 81; refine (HHG.out _ hHeld.1.rowAt).mono ?_; rintro e10 w10 ⟨rfl, hb10⟩
          have HR10 := hide (hHeld.1.later hb10)
          have HO10 := hide (hHeld.2.trans (only_of_below (S := []) hb10) (by simp))
          have HOW10 := hide (own_only2 (S := []) (own_only2 (S := []) HOW9.out (only_of_below (Below.refl _ _).drew) (by simp)) (only_of_below hb10) (by simp))
          have HF10 := hide ((HF9.out.below (w' := wr.drew) HR9.out.post.rs.log.lt (Below.refl _ _).drew).below (HR9.out.later (Below.refl _ _).drew).post.rs.log.lt hb10)
          have hs10 := hb10.size
          clear hb10 hHeld
          refine hK.out _ _ (⟨HR10.out, HO10.out⟩) (fun hHeld => ?_)
          clear hK K
          try simp only [ZP, ZA, ZB, ZC, ZD, ZE, ZF]
          refine wpAnyH_done (by kernel_rfl) ?_ _
          clear hHeld
          go_wp2_with fail
          go_roundg (N - (q + 1))
          case rel => exact ⟨q + 1, ps9, by go_num, by omega, by omega, by show _ = _; rw [HT.out, dropL_snoc, HPP.out, HPS.out]; rfl, HR10.out, by rw [HT.out, filt_no _ _ _ HPP.out]; exact HOW10.out, HO10.out, HF10.out⟩
          case measure => omega
         | true =>
          rw [show rs.any (hasP g.n) = true from hP] at HHG
          have HPP := hide hP
          clear hP
          go_upto_region 24 with (fail)
          refine wp_region_held_drew (S := (fun w' => RaAt w1 w' d s d5 { s with R := remR s.ps s.R rs, great := M, ps := ps9 } X (some ⟨k0, 0, none⟩) c ⟨dl, rs, mk, m0, m1, m2⟩ ∧ Only [d5.lb] w8 w')) (by kernel_rfl) (by exact ⟨HR9.out.later (Below.refl _ _).drew, HO9.out.trans (only_of_below (S := []) (Below.refl _ _).drew) (by simp)⟩) (fun hHeld => ?_)
          refine tkP 0 ?_ rfl ?_ ?_
          rotate_left
          ·intro w' hSw; (try dsimp only at hSw); obtain ⟨y0, y2, y3, x0, x1, x2, x3, x4, x5⟩ := hSw.1.cells; dsimp only at x0 x1 x2 x3 x4 x5; rw [HK.out] at x1; obtain ⟨u0, u1, u2, u3, u4, u5⟩ := CG.out _ hSw.2; go_simp; try with_reducible rfl
          try simp only [ZP, ZA, ZB, ZC, ZD, ZE, ZF]
          refine tkP 1 ?_ rfl ?_ ?_
          rotate_left
          ·intro w' hSw; (try dsimp only at hSw); go_simp; try with_reducible rfl
          try simp only [ZP, ZA, ZB, ZC, ZD, ZE, ZF]
          refine tkP 2 ?_ rfl ?_ ?_
          rotate_left
          ·intro w' hSw; (try dsimp only at hSw); go_simp; try with_reducible rfl
          try simp only [ZP, ZA, ZB, ZC, ZD, ZE, ZF]
          refine tkP 3 ?_ rfl ?_ ?_
          rotate_left
          ·intro w' hSw; (try dsimp only at hSw); go_simp; try with_reducible rfl
          try simp only [ZP, ZA, ZB, ZC, ZD, ZE, ZF]
          refine tkP 4 ?_ rfl ?_ ?_
          rotate_left
          ·intro w' hSw; (try dsimp only at hSw); go_simp; try with_reducible rfl
          try simp only [ZP, ZA, ZB, ZC, ZD, ZE, ZF]
          refine tkP 5 ?_ rfl ?_ ?_
          rotate_left
          ·intro w' hSw; (try dsimp only at hSw); obtain ⟨y0, y2, y3, x0, x1, x2, x3, x4, x5⟩ := hSw.1.cells; dsimp only at x0 x1 x2 x3 x4 x5; rw [HK.out] at x1; obtain ⟨u0, u1, u2, u3, u4, u5⟩ := CG.out _ hSw.2; go_simp; try with_reducible rfl
          try simp only [ZP, ZA, ZB, ZC, ZD, ZE, ZF]
          refine tkR [6] ?_
          refine ZS rfl (fun K hK => ?_) ZN
          go_simp; go_at_call 81; refine (HHG.out _ hHeld.1.rowAt).mono ?_; rintro e10 w10 ⟨rfl, hb10⟩
          have HR10 := hide (hHeld.1.later hb10)
          have HO10 := hide (hHeld.2.trans (only_of_below (S := []) hb10) (by simp))
          have HOW10 := hide (own_only2 (S := []) (own_only2 (S := []) HOW9.out (only_of_below (Below.refl _ _).drew) (by simp)) (only_of_below hb10) (by simp))
          have HF10 := hide ((HF9.out.below (w' := wr.drew) HR9.out.post.rs.log.lt (Below.refl _ _).drew).below (HR9.out.later (Below.refl _ _).drew).post.rs.log.lt hb10)
          have hs10 := hb10.size
          clear hb10 hHeld
          refine hK.out _ _ (⟨HR10.out, HO10.out⟩) (fun hHeld => ?_)
          clear hK K
          try simp only [ZP, ZA, ZB, ZC, ZD, ZE, ZF]
          refine wpAnyH_done (by kernel_rfl) ?_ _
          clear hHeld
          go_upto_region 25 with (fail)
          obtain ⟨gp, hgp⟩ : ∃ gp, getOf g.n ps9 = gp := ⟨_, rfl⟩
          obtain ⟨gp, gt⟩ := gp
          refine wp_region_held_drew (S := (fun w' => w'.cell? ⟨d.m, 0, none⟩ = some (.pointer (some ⟨d5.lb, 0, none⟩)) ∧ w'.cell? ⟨kb, ko + q * 6, none⟩ = some (ZI ZQ g.n))) (by kernel_rfl) (by exact ⟨(HR10.out.later (Below.refl _ _).drew).cells.1, (CG.out _ (HO10.out.trans (only_of_below (S := []) (Below.refl _ _).drew) (by simp))).1⟩) (fun hHeld => ?_)
          refine tkP 0 ?_ rfl ?_ ?_
          rotate_left
          ·intro w' hSw; (try dsimp only at hSw); go_simp; try with_reducible rfl
          try simp only [ZP, ZA, ZB, ZC, ZD, ZE, ZF]
          refine tkP 1 ?_ rfl ?_ ?_
          rotate_left
          ·intro w' hSw; (try dsimp only at hSw); go_simp; try with_reducible rfl
          try simp only [ZP, ZA, ZB, ZC, ZD, ZE, ZF]
          refine tkP 2 ?_ rfl ?_ ?_
          rotate_left
          ·intro w' hSw; (try dsimp only at hSw); go_simp; try with_reducible rfl
          try simp only [ZP, ZA, ZB, ZC, ZD, ZE, ZF]
          refine tkP 3 ?_ rfl ?_ ?_
          rotate_left
          ·intro w' hSw; (try dsimp only at hSw); obtain ⟨c0, c1⟩ := hSw; go_simp; try with_reducible rfl
          try simp only [ZP, ZA, ZB, ZC, ZD, ZE, ZF]
          refine tkP 4 ?_ rfl ?_ ?_
          rotate_left
          ·intro w' hSw; (try dsimp only at hSw); go_simp; try with_reducible rfl
          try simp only [ZP, ZA, ZB, ZC, ZD, ZE, ZF]
          refine tkP 5 ?_ rfl ?_ ?_
          rotate_left
          ·intro w' hSw; (try dsimp only at hSw); go_simp; try with_reducible rfl
          try simp only [ZP, ZA, ZB, ZC, ZD, ZE, ZF]
          refine tkP 6 ?_ rfl ?_ ?_
          rotate_left
          ·intro w' hSw; (try dsimp only at hSw); go_simp; try with_reducible rfl
          try simp only [ZP, ZA, ZB, ZC, ZD, ZE, ZF]
          refine tkP 7 ?_ rfl ?_ ?_
          rotate_left
          ·intro w' hSw; (try dsimp only at hSw); go_simp; try with_reducible rfl
          try simp only [ZP, ZA, ZB, ZC, ZD, ZE, ZF]
          refine tkP 8 ?_ rfl ?_ ?_
          rotate_left
          ·intro w' hSw; (try dsimp only at hSw); obtain ⟨c0, c1⟩ := hSw; go_simp; try with_reducible rfl
          try simp only [ZP, ZA, ZB, ZC, ZD, ZE, ZF]
          refine tkR [9] ?_
          refine ZS rfl (fun K hK => ?_) ZN
          go_simp; go_at_call 82; refine (rdropx_any _ _ _ g.n ps9 gp gt _ (HR10.out.later (Below.refl _ _).drew).post.rs.log hgp).mono ?_; rintro e12 w12 ⟨⟨rfl, hl12, ho12⟩, hn12⟩
          have HF12 := hide (hn12.far (fun k hk => (own_only2 (S := []) HOW10.out (only_of_below (Below.refl _ _).drew) (by simp)).lt k hk |>.2))
          have HR12 := hide ((HR10.out.later (Below.refl _ _).drew).step ((HR10.out.later (Below.refl _ _).drew).post.rs.turnLog hl12 ho12))
          have HO12 := hide ((HO10.out.trans (only_of_below (S := []) (Below.refl _ _).drew) (by simp)).trans ho12 (fun x hx => .inl hx))
          have HOW12 := hide (own_only2 (own_only2 (S := []) HOW10.out (only_of_below (Below.refl _ _).drew) (by simp)) ho12 (fun k hk hm => by simp at hm; subst hm; have h1 := (HOW10.out.lt _ hk).1; have h2 := HLB.out.1; omega))
          clear hl12 ho12 hn12 hHeld
          refine hK.out _ _ (⟨HR12.out.cells.1, (CG.out _ HO12.out).1⟩) (fun hHeld => ?_)
          clear hK K
          try simp only [ZP, ZA, ZB, ZC, ZD, ZE, ZF]
          refine wpAnyH_done (by kernel_rfl) ?_ _
          clear hHeld
          obtain ⟨A8, C8, hv8⟩ := own_slice' HOW12.out
          subst hv8
          obtain ⟨MM, hMM⟩ : ∃ MM, ((qs.take q).filter (ackP rs)).length = MM := ⟨_, rfl⟩
          obtain ⟨xs, hxs⟩ : ∃ xs, pkcs ((qs.take q).filter (ackP rs)) = xs := ⟨_, rfl⟩
          have hown := HOW12.out
          rw [hMM, hxs] at hown
          rw [hMM] at hln9
          have hf12 := HF12.out
          rw [hMM] at hf12
          have HF12 := hide hf12
          clear hf12
          have HOW := hide hown
          have HMM := hide hMM
          have HXS := hide hxs
          rw [hMM]
          clear hown hMM hxs
          obtain ⟨z0, z1, z2, z3, z4, z5⟩ := CG.out _ HO12.out
          have hs8 : w8.heap.size ≤ w12.heap.size := HO12.out.size
          go_wp2_with (at_builtin; refine wpList_append_any _ rfl (.tmp 125) (.tmp 130) _ rfl w8.heap.size 40 i0 _ 6 32 Tryz.underlying37 hi0 hz0 hz1 hz2 rfl (by decide) (.slice A8 MM C8) MM xs rfl (by exact HOW.out.alloc _) (w12.heap.size + 1) (some ⟨w12.heap.size, 0, none⟩) 1 1 [ZI ZQ g.n, ZI ZQ g.t, ZI ZQ g.s, .bool g.e, .bool g.f, .bool g.c] rfl (by exact reads_lit (blk_new_at (by simp)) (by simp) rfl) (by simp [Value.oneCell']) (by unfold maxLen; omega) (by omega) (by simp; omega) ?_; intro v5 w5 hown5 hg5 hat5)
          have hg6 : Only ((Value.slice A8 MM C8).ownBlock).toList (w12.alloc (.cells #[ZI ZQ g.n, ZI ZQ g.t, ZI ZQ g.s, .bool g.e, .bool g.f, .bool g.c] 40)) w5 := only_row hg5
          have hra := HR12.out.later ((Below.refl w12.heap.size w12).alloc (Nat.le_refl _) (.cells #[ZI ZQ g.n, ZI ZQ g.t, ZI ZQ g.s, .bool g.e, .bool g.f, .bool g.c] 40))
          have hf5 : RowFar (w12.alloc (.cells #[ZI ZQ g.n, ZI ZQ g.t, ZI ZQ g.s, .bool g.e, .bool g.f, .bool g.c] 40)) d5.lb (.slice A8 MM C8) := HF12.out.below HR12.out.post.rs.log.lt ((Below.refl w12.heap.size w12).alloc (Nat.le_refl _) _)
          have hb5 : Below w8.heap.size (w12.alloc (.cells #[ZI ZQ g.n, ZI ZQ g.t, ZI ZQ g.s, .bool g.e, .bool g.f, .bool g.c] 40)) w5 := hg6.below (fun x hx => by simp only [Option.mem_toList] at hx; exact (HOW.out.lt x hx).1) (by simp; omega)
          have hr13 : RaAt w1 w5 d s d5 { s with R := remR s.ps s.R rs, great := M, ps := without g.n ps9 } X (some ⟨k0, 0, none⟩) c ⟨dl, rs, mk, m0, m1, m2⟩ := by
           exact hra.far hg6 HLT.out.1 (fun x hx => by simp only [Option.mem_toList] at hx; exact ⟨(HOW.out.lt x hx).1, hx⟩) HLT.out.2 hf5
          have hf13 : RowFar w5 d5.lb v5 := by
           obtain ⟨u, hu, hk⟩ := hf5
           have hl5 := hra.post.rs.log.lt
           have hns : d5.lb ∉ ((Value.slice A8 MM C8).ownBlock).toList := fun hm => by simp only [Option.mem_toList] at hm; have h1 := (HOW.out.lt _ hm).1; have h2 := HLB.out.1; omega
           refine ⟨u, (hg6.cell (p := ⟨d5.lb, 2, none⟩) hl5 hns).trans hu, fun k e => ⟨Nat.lt_of_lt_of_le (hk k e).1 hg6.size, fun e2 => ?_⟩⟩
           rcases hat5 with e3 | e3
           ·rw [e3] at e2; exact (hk k e).2 e2
           ·rw [e3] at e2
            have h1 := (hk k e).1
            cases e2
            omega
          have HF13 := hide hf13
          have hO13 : Only [d5.lb] w8 w5 := (HO12.out.trans (S' := []) (only_of_below ((Below.refl w12.heap.size w12).alloc (Nat.le_refl _) _)) (by simp)).trans (S' := (Value.slice A8 MM C8).ownBlock.toList) hg6 (fun x hx => .inr (by simp only [Option.mem_toList] at hx; exact (HOW.out.lt x hx).1))
          have HR13 := hide hr13
          have HO13 := hide hO13
          clear hg6 hra hb5 hr13 hO13 hf5 hf13 hat5 z0 z1 z2 z3 z4 z5
          go_roundg (N - (q + 1))
          case rel => exact ⟨q + 1, without g.n ps9, by go_num, by omega, by omega, by show _ = _; rw [HT.out, dropL_snoc, HPP.out, HPS.out]; rfl, HR13.out, by rw [HT.out, filt_yes _ _ _ HPP.out, List.length_append, HMM.out, pkcs_snoc, HXS.out]; exact hown5, HO13.out, HF13.out⟩
          case measure => omega
        ·obtain rfl : q = N := by omega
         have hinq : ¬ (q : Int) < (q : Int) := by omega
         rw [List.take_of_length_le (by rw [HQN.out]; exact Nat.le_refl _)] at HPS hown9
         have HR9 := hide hR9
         have HOW9 := hide hown9
         have HO9 := hide hO9
         clear hR9 hown9 hO9 hF9
         go_wp2_with fail
         rw [← HQQ.out]
         obtain ⟨a9, c9, hv9⟩ := own_slice' HOW9.out
         subst hv9
         obtain ⟨g1, g2, g3⟩ := own_pk3 rfl HOW9.out (fun p hp => HSM.out p (List.mem_filter.1 hp).1)
         have hR := HR9.out.post
         rw [HPS.out] at hR
         have hfin : ToldrPost w d { s with R := remR s.ps s.R rs, great := (if s.great < r0.hi then r0.hi else s.great), ps := dropL (ackP rs) qs s.ps } (qs.filter (ackP rs)) 0 (.returned (.tuple #[.slice a9 (qs.filter (ackP rs)).length c9, ZI ZQ 0])) wr := by
          rw [HM.out]
          exact ⟨a9, c9, d5, rfl, g1, g2, fun k o e => ⟨Nat.le_trans hz8 (g3 k o e).1, (g3 k o e).2⟩, RsPost.ahead HB0.out hR⟩
         first
         | exact hfin
         | (go_ret2; exact hfin)
end Go.Proofs.YtgicljeedegncaaGreat
