/-
 The document's space (sounderref17): Sent, May. Printed by wip/gensrspc.py.
-/
import Derived.Test.YtgicljeedegncaaGreatTqSrSpB
namespace Go.Proofs.YtgicljeedegncaaGreat
open List renaming getElem_toArray → ZA, getElem_cons_zero → ZB, getElem_cons_succ → ZC, setIfInBounds_toArray → ZD, set_cons_zero → ZE, set_cons_succ → ZF
open Go.AllReadyH renaming cons → ZS, nil → ZN
open Go.Act renaming put → ZP
open Go.Value renaming int → ZI
open Go.IntKind renaming i64 → ZQ
set_option linter.unusedSimpArgs false
set_option linter.unusedVariables false
open Go.RowKit

theorem rput_code (m room : Nat) (last : Int) (ps : List Pk) (p : Pk) (c : Int) (w : World) (hR : IsRef w m room last ps) (hc : PutC room last ps p c) :
  Calls Tryz.prog 74 #[.pointer (some ⟨m, 0, none⟩), pkA p] w fun e w' => e = .returned (ZI ZQ c) ∧ (c ≠ 0 → Below w.heap.size w w') ∧ (c = 0 → IsRef w' m room p.num (ps ++ [p]) ∧ Only [m] w w') := by
 obtain ⟨pn, pt, ps_, pe, pf, pc⟩ := p
 rcases hc with ⟨h1, rfl⟩ | ⟨h1, h2, rfl⟩ | ⟨h1, h2, h3, rfl⟩ | ⟨h1, h2, h3, rfl⟩
 ·exact (rput_no m room last _ _ _ _ _ _ ps w hR h1).mono fun e w' ⟨h, hb⟩ => ⟨h, fun _ => hb, fun e => by omega⟩
 ·exact (rput_low m room last _ _ _ _ _ _ ps w hR h1 h2).mono fun e w' ⟨h, hb⟩ => ⟨h, fun _ => hb, fun e => by omega⟩
 ·exact (rput_full m room last _ _ _ _ _ _ ps w hR h1 h2 h3).mono fun e w' ⟨h, hb⟩ => ⟨h, fun _ => hb, fun e => by omega⟩
 ·exact (rput_ok m room last _ _ _ _ _ _ ps w hR h1 h2 h3).mono fun e w' ⟨h, h4, h5⟩ => ⟨h, fun e => absurd rfl e, fun _ => ⟨h4, h5⟩⟩
theorem addC_E {K : List Rg} {p : Pk} {c : Int} (hp : p.may) (h : AddC K p.num c) : addE p.num p.num K = c := by
 have hn := pk_may_num hp
 have hok : (isT p.num && isT p.num && decide (p.num ≤ p.num)) = true := by rw [isT_iff.2 hn, decide_eq_true (Int.le_refl _)]; rfl
 rcases h with ⟨h1, rfl⟩ | ⟨h1, rfl⟩
 ·exact addE_full hok h1
 ·exact addE_ok hok h1
/-- While a packet is put in: the packet's box; nothing that was there has turned. -/
structure SdAt (w W : World) (X : Nat) (p : Pk) : Prop where
 box : Blk W X 40 #[ZI ZQ p.num, ZI ZQ p.time, ZI ZQ p.size, .bool p.el, .bool p.fl, .bool p.ect]
 below : Below w.heap.size w W
theorem SdAt.later {w W W' : World} {X : Nat} {p : Pk} (h : SdAt w W X p) (hb : Below W.heap.size W W') : SdAt w W' X p := ⟨(hb.block _ h.box.lt).trans h.box, bw_below' h.below hb⟩
theorem SdAt.turn {w W W' : World} {X b : Nat} {p : Pk} (h : SdAt w W X p) (ho : Only [b] W W') (hb : w.heap.size ≤ b) (hX : X ≠ b) : SdAt w W' X p := ⟨ho.blk h.box (by simpa using hX), h.below.trans (ho.below (fun x hx => by simp at hx; omega) h.below.size)⟩
def SentPost (w : World) (d : Dt) (s : SpSt) (p : Pk) (c : Int) (e : Ending) (w' : World) : Prop := e = .returned (ZI ZQ c) ∧ ((c ≠ 0 ∧ Below w.heap.size w w') ∨ (c = 0 ∧ ∃ d', RsPost w d (sentSt s p) d' w'))
set_option maxRecDepth 100000 in
set_option maxHeartbeats 4000000 in
theorem r17sent_any (d : Dt) (s : SpSt) (p : Pk) (c : Int) (w : World) (h : IsRs w d s) (hm : MayC s p c) :
  Calls Tryz.prog 33 #[.pointer (some ⟨d.m, 0, none⟩), pkA p] w (SentPost w d s p c) := by
 have H := hide h
 have HM := hide hm
 have hlt := h.lt
 have HLT := hide hlt
 have hml := h.blk.lt
 have CC : Hid (∀ W, SdAt w W w.heap.size p → W.cell? ⟨d.m, 0, none⟩ = some (.pointer (some ⟨d.lb, 0, none⟩)) ∧ W.cell? ⟨d.m, 1, none⟩ = some (.pointer (some ⟨d.kb, 0, none⟩))) := fun W hW => ⟨(h.below hW.below).six.1, (h.below hW.below).six.2.1⟩
 have hb0 : Below w.heap.size w (w.alloc (.cells #[ZI ZQ p.num, ZI ZQ p.time, ZI ZQ p.size, .bool p.el, .bool p.fl, .bool p.ect] 40)) := (Below.refl _ _).alloc (Nat.le_refl _) _
 have hs0 : SdAt w (w.alloc (.cells #[ZI ZQ p.num, ZI ZQ p.time, ZI ZQ p.size, .bool p.el, .bool p.fl, .bool p.ect] 40)) w.heap.size p := ⟨Blk.new _ _ _, hb0⟩
 have HS0 := hide hs0
 have hz0 : (w.alloc (.cells #[ZI ZQ p.num, ZI ZQ p.time, ZI ZQ p.size, .bool p.el, .bool p.fl, .bool p.ect] 40)).heap.size = w.heap.size + 1 := World.size_alloc _ _
 have HZ0 := hide hz0
 clear h hm hlt hb0 hs0 hz0
 unfold pkA
 go_enter Tryz.func33, Tryz.ntmps33
 go_upto_region 1 with (fail)
 obtain ⟨W0, hW0⟩ : ∃ y, w.alloc (.cells #[ZI ZQ p.num, ZI ZQ p.time, ZI ZQ p.size, .bool p.el, .bool p.fl, .bool p.ect] 40) = y := ⟨_, rfl⟩
 rw [hW0] at HS0 HZ0 ⊢
 clear hW0
 refine wp_region_held_drew (S := (fun w' => SdAt w w' w.heap.size p)) (by kernel_rfl) (by exact HS0.out.later (Below.refl _ _).drew) (fun hHeld => ?_)
 refine tkP 0 ?_ rfl ?_ ?_
 rotate_left
 ·intro w' hSw; (try dsimp only at hSw); go_simp; try with_reducible rfl
 try simp only [ZP, ZA, ZB, ZC, ZD, ZE, ZF]
 refine tkP 1 ?_ rfl ?_ ?_
 rotate_left
 ·intro w' hSw; (try dsimp only at hSw); go_simp; try with_reducible rfl
 try simp only [ZP, ZA, ZB, ZC, ZD, ZE, ZF]
 refine tkP 2 ?_ rfl ?_ ?_
 rotate_left
 ·intro w' hSw; (try dsimp only at hSw); go_simp; try with_reducible rfl
 try simp only [ZP, ZA, ZB, ZC, ZD, ZE, ZF]
 refine tkP 3 ?_ rfl ?_ ?_
 rotate_left
 ·intro w' hSw; (try dsimp only at hSw); obtain ⟨c0, c1⟩ := CC.out _ hSw; go_simp; try with_reducible rfl
 try simp only [ZP, ZA, ZB, ZC, ZD, ZE, ZF]
 refine tkP 5 ?_ rfl ?_ ?_
 rotate_left
 ·intro w' hSw; (try dsimp only at hSw); go_simp; try with_reducible rfl
 try simp only [ZP, ZA, ZB, ZC, ZD, ZE, ZF]
 refine tkP 6 ?_ rfl ?_ ?_
 rotate_left
 ·intro w' hSw; (try dsimp only at hSw); go_simp; try with_reducible rfl
 try simp only [ZP, ZA, ZB, ZC, ZD, ZE, ZF]
 refine tkP 7 ?_ rfl ?_ ?_
 rotate_left
 ·intro w' hSw; (try dsimp only at hSw); go_simp; try with_reducible rfl
 try simp only [ZP, ZA, ZB, ZC, ZD, ZE, ZF]
 refine tkP 8 ?_ rfl ?_ ?_
 rotate_left
 ·intro w' hSw; (try dsimp only at hSw); obtain ⟨c0, c1⟩ := CC.out _ hSw; go_simp; try with_reducible rfl
 try simp only [ZP, ZA, ZB, ZC, ZD, ZE, ZF]
 refine tkR [4] ?_
 refine ZS rfl (fun K hK => ?_) ZN
 go_simp; go_at_call 72; refine (rcopy_any _ _ _ _ _ (H.out.below hHeld.below).log).mono ?_; rintro e1 w1 ⟨lb1, rfl, hl1, n1, hb1⟩
 have HL1 := hide hl1
 have HS1 := hide (hHeld.later hb1)
 have HN1 := hide (And.intro n1 (And.intro hl1.lt (And.intro hHeld.below.size hb1.size)))
 clear hl1 n1 hb1 hHeld
 refine hK.out _ _ (HS1.out) (fun hHeld => ?_)
 clear hK K
 try simp only [ZP, ZA, ZB, ZC, ZD, ZE, ZF]
 refine tkR [9] ?_
 refine ZS rfl (fun K hK => ?_) ZN
 go_simp; go_at_call 73; refine (r04copy_any _ _ _ _ _ (H.out.below hHeld.below).kn).mono ?_; rintro e2 w2 ⟨kb1, ka1, kc1, rfl, hk2, n2, n3, hb2⟩
 have HL2 := hide (HL1.out.below hb2)
 have HK2 := hide hk2
 have HS2 := hide (HS1.out.later hb2)
 have HN2 := hide (And.intro (And.intro n2 n3) (And.intro hk2.blk.lt (And.intro hk2.lt hb2.size)))
 clear hk2 n2 n3 hb2 hHeld HL1 HS1
 refine hK.out _ _ (HS2.out) (fun hHeld => ?_)
 clear hK K
 try simp only [ZP, ZA, ZB, ZC, ZD, ZE, ZF]
 refine tkP 10 ?_ rfl ?_ ?_
 rotate_left
 ·intro w' hSw; (try dsimp only at hSw); go_simp; try with_reducible rfl
 try simp only [ZP, ZA, ZB, ZC, ZD, ZE, ZF]
 refine tkP 11 ?_ rfl ?_ ?_
 rotate_left
 ·intro w' hSw; (try dsimp only at hSw); go_simp; try with_reducible rfl
 try simp only [ZP, ZA, ZB, ZC, ZD, ZE, ZF]
 refine wpAnyH_done (by kernel_rfl) ?_ _
 clear hHeld
 have x0 := HS2.out.box.cell 0
 have x1 := HS2.out.box.cell 1
 have x2 := HS2.out.box.cell 2
 have x3 := HS2.out.box.cell 3
 have x4 := HS2.out.box.cell 4
 have x5 := HS2.out.box.cell 5
 have HNN : Hid (w.heap.size < lb1 ∧ lb1 < w1.heap.size ∧ w1.heap.size ≤ kb1 ∧ (∀ k, ka1 = some ⟨k, 0, none⟩ → w1.heap.size ≤ k)) := by
  obtain ⟨a1, a2, a3, a4⟩ := HN1.out
  obtain ⟨⟨b1, b2⟩, b3, b4, b5⟩ := HN2.out
  have a0 := HZ0.out
  have ad : W0.drew.heap.size = W0.heap.size := rfl
  exact ⟨by omega, a2, b1, b2⟩
 rcases HM.out with ⟨hput, hne⟩ | ⟨hput, hadd⟩
 ·-- Put refuses
  have HPC := hide (rput_code _ _ _ _ p c w2 HL2.out hput)
  unfold pkA at HPC
  have hcb : (c == 0) = false := by simpa using hne
  have HNE := hide hne
  clear hput hne
  go_wp2_with fail
  refine HPC.out.mono ?_
  rintro e3 w3 ⟨rfl, hb3, _⟩
  have HB3 := hide (bw_below' HS2.out.below (hb3 HNE.out))
  clear hb3
  go_wp2_with fail
  go_ret
  exact ⟨rfl, .inl ⟨HNE.out, HB3.out⟩⟩
 ·have hpm := hput.zero
  have HPC := hide (rput_code _ _ _ _ p 0 w2 HL2.out hput)
  unfold pkA at HPC
  have HADE := hide (addC_E hpm.1 hadd)
  have hpn := pk_may_num hpm.1
  clear hput hadd hpm
  go_wp2_with fail
  refine HPC.out.mono ?_
  rintro e3 w3 ⟨rfl, _, h3⟩
  obtain ⟨hl3, ho3⟩ := h3 (by simp)
  obtain ⟨q1, q2, q3, q4⟩ := HNN.out
  have hk3 := HK2.out.only ho3 (by simp; omega) (fun k e => by have := q4 k e; simp; omega)
  have HS3 := hide (HS2.out.turn ho3 (by omega) (by omega))
  have HL3 := hide hl3
  have HK3 := hide hk3
  have hz3 := ho3.size
  clear h3 hl3 ho3 hk3 HL2 HK2 x0 x1 x2 x3 x4 x5
  have x0 := HS3.out.box.cell 0
  have x1 := HS3.out.box.cell 1
  have x2 := HS3.out.box.cell 2
  have x3 := HS3.out.box.cell 3
  have x4 := HS3.out.box.cell 4
  have x5 := HS3.out.box.cell 5
  have HADD := hide (r04add_any kb1 ka1 kc1 p.num p.num s.K w3 HK3.out)
  rw [HADE.out] at HADD
  go_wp2_with fail
  refine HADD.out.mono ?_
  rintro e4 w4 ⟨rfl, ka4, kc4, hk4, hka4, ho4⟩
  have HS4 := hide (HS3.out.turn ho4 (by omega) (by omega))
  have HL4 := hide (HL3.out.only ho4 (fun x hx => by simp at hx; subst hx; exact ⟨_, _, HK3.out.blk, by decide, by decide⟩))
  have HK4 := hide hk4
  have HKA4 := hide hka4
  have hz4 := ho4.size
  clear hk4 hka4 ho4 x0 x1 x2 x3 x4 x5 HS3 HL3
  by_cases hc0 : c = 0
  ·subst hc0
   have hks : addS p.num p.num s.K = addR p.num p.num s.K := addS_ok HADE.out
   have hrs := H.out.below HS4.out.below
   obtain ⟨y0, y1, y2, y3, y4, y5⟩ := hrs.six
   have f0 := hrs.blk.frozen
   have x0 := HS4.out.box.cell 0
   have x1 := HS4.out.box.cell 1
   have x3 := HS4.out.box.cell 3
   have x4 := HS4.out.box.cell 4
   have hmX : d.m ≠ w.heap.size := by omega
   have HRS := hide hrs
   clear hrs
   have HFIN : Hid (∀ tm : Int, tm = (sentSt s p).time → ∀ W', Only [d.m] w4 W' → Blk W' d.m 105 (spCells lb1 kb1 d.mb s.great s.loss tm) → SentPost w d s p 0 (.returned (ZI ZQ 0)) W') := by
    show ∀ tm, _
    intro tm htm W' hO hB
    obtain ⟨a1, a2, a3, a4, a5, a6⟩ := HRS.out.apart
    have hltm := HLT.out
    have o1 := hltm d.m (.inl (by simp [Dt.own]))
    have o2 := hltm d.mb (.inl (by simp [Dt.own]))
    have hkr : ∀ k, ka4 = some ⟨k, 0, none⟩ → w.heap.size < k ∧ k ≠ kb1 ∧ k ≠ lb1 := fun k e => by
     have e2 := HK4.out.ne k e
     rcases HKA4.out k e with e3 | e3
     ·have := q4 k (by rw [e3]; exact e)
      omega
     ·obtain ⟨b0, b3, b4, b5⟩ := HN2.out
      omega
    have hty : ∀ x ∈ [d.m], ∃ t cs, Blk w4 x t cs ∧ t ≠ 40 ∧ t ≠ 115 := fun x hx => by simp at hx; subst hx; exact ⟨_, _, HRS.out.blk, by decide, by decide⟩
    subst htm
    refine ⟨rfl, .inr ⟨rfl, ⟨d.m, lb1, kb1, ka4, kc4, d.mb, d.ma, d.mc⟩, ⟨hB, HL4.out.only hO hty, ?_, HRS.out.rem.only hO (by simp; exact Ne.symm a3) (fun k e => by have := HRS.out.off k (.inr e); simp [Dt.own] at this; simp; omega), ?_, ?_⟩, rfl, ?_, ?_, ?_⟩⟩
    ·have := HK4.out.only hO (by simp; omega) (fun k e => by have := hkr k e; simp; omega)
     rw [hks] at this
     exact this
    ·rintro k (e | e) hm
     ·have := hkr k e
      simp only [Dt.own, List.mem_cons, List.not_mem_nil, or_false] at hm
      omega
     ·have h1 := HRS.out.off k (.inr e)
      have h2 := hltm k (.inr (.inr e))
      simp only [Dt.own, List.mem_cons, List.not_mem_nil, or_false] at hm h1
      omega
    ·show kb1 ≠ d.mb
     omega
    ·intro x hx
     simp only [Dt.own, List.mem_cons, List.not_mem_nil, or_false] at hx
     rcases hx with rfl | rfl | rfl | rfl
     ·exact .inl (by simp [Dt.own])
     ·exact .inr (by omega)
     ·exact .inr (by omega)
     ·exact .inl (by simp [Dt.own])
    ·rintro k (e | e)
     ·exact .inr (by have := hkr k e; omega)
     ·exact .inl (.inr e)
    ·exact (only_of_below HS4.out.below).trans hO (fun x hx => .inl (by simp at hx; subst hx; simp [Dt.own]))
   cases hfl : p.fl with
   | false =>
    rw [hfl] at x4
    have HTM : Hid (s.time = (sentSt s p).time) := by show _ = _; simp [sentSt, hfl]
    go_wp2_with fail
    go_ret
    exact HFIN.out s.time HTM.out _ (((Only.refl _ _).setCell (.inl (by simp)) _).setCell (.inl (by simp)) _) (((HRS.out.blk.set 0 _).set 1 _).eq (by simp [spCells]))
   | true =>
    rw [hfl] at x4
    cases hel : p.el with
    | false =>
     rw [hel] at x3
     have HTM : Hid (s.time = (sentSt s p).time) := by show _ = _; simp [sentSt, hel]
     go_wp2_with fail
     go_ret
     exact HFIN.out s.time HTM.out _ (((Only.refl _ _).setCell (.inl (by simp)) _).setCell (.inl (by simp)) _) (((HRS.out.blk.set 0 _).set 1 _).eq (by simp [spCells]))
    | true =>
     rw [hel] at x3
     have HTM : Hid (p.time = (sentSt s p).time) := by show _ = _; simp [sentSt, hel, hfl]
     go_wp2_with fail
     go_ret
     exact HFIN.out p.time HTM.out _ ((((Only.refl _ _).setCell (.inl (by simp)) _).setCell (.inl (by simp)) _).setCell (.inl (by simp)) _) ((((HRS.out.blk.set 0 _).set 1 _).set 5 _).eq (by simp [spCells]))
  ·have hcb : (c == 0) = false := by simpa using hc0
   have HNE := hide hc0
   clear hc0
   go_wp2_with fail
   go_ret
   exact ⟨rfl, .inl ⟨HNE.out, HS4.out.below⟩⟩
theorem r17may_any (d : Dt) (s : SpSt) (p : Pk) (c : Int) (w : World) (h : IsRs w d s) (hm : MayC s p c) :
  Calls Tryz.prog 89 #[.pointer (some ⟨d.m, 0, none⟩), pkA p] w fun e w' => e = .returned (ZI ZQ c) ∧ Below w.heap.size w w' := by
 have hb0 : Below w.heap.size w (w.alloc (.cells #[ZI ZQ p.num, ZI ZQ p.time, ZI ZQ p.size, .bool p.el, .bool p.fl, .bool p.ect] 40)) := (Below.refl _ _).alloc (Nat.le_refl _) _
 have hs0 : SdAt w (w.alloc (.cells #[ZI ZQ p.num, ZI ZQ p.time, ZI ZQ p.size, .bool p.el, .bool p.fl, .bool p.ect] 40)) w.heap.size p := ⟨Blk.new _ _ _, hb0⟩
 have HS0 := hide hs0
 have HCP := hide (r17copy_any d s _ (h.below hb0))
 have HSN := hide (fun (d' : Dt) W (hW : IsRs W d' s) => r17sent_any d' s p c W hW hm)
 clear h hm hb0 hs0
 unfold pkA at HSN ⊢
 go_enter Tryz.func89, Tryz.ntmps89
 go_wp2_with fail
 refine HCP.out.mono ?_
 rintro e1 w1 ⟨d1, rfl, hr1, hn1, hb1⟩
 have HS1 := hide (HS0.out.later hb1)
 have HR1 := hide hr1
 have HN1 := hide hn1
 have hz := HS0.out.below.size
 clear hr1 hn1 hb1 HS0 HCP
 have x0 := HS1.out.box.cell 0
 have x1 := HS1.out.box.cell 1
 have x2 := HS1.out.box.cell 2
 have x3 := HS1.out.box.cell 3
 have x4 := HS1.out.box.cell 4
 have x5 := HS1.out.box.cell 5
 go_wp2_with fail
 refine (HSN.out d1 w1 HR1.out).mono ?_
 rintro e2 w2 ⟨rfl, h2⟩
 have hb2 : Below w.heap.size w w2 := by
  rcases h2 with ⟨_, hb⟩ | ⟨_, d2, hp⟩
  ·exact bw_below' HS1.out.below hb
  ·exact HS1.out.below.trans (hp.only.below (fun x hx => by have := HN1.out x (.inl hx); omega) HS1.out.below.size)
 have HB2 := hide hb2
 clear h2 hb2
 go_wp2_with fail
 go_ret
 exact ⟨rfl, HB2.out⟩
end Go.Proofs.YtgicljeedegncaaGreat
