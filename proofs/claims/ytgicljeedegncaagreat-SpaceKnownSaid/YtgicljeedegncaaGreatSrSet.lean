/-
 The document's set (sounderref04): Add, Cut, Ranges, Copy, whatever they are asked.
-/
import Derived.Test.YtgicljeedegncaaGreatTqSrAdded
import Derived.Test.YtgicljeedegncaaGreatTqSpgGaps
import Derived.StillTail
import Derived.StillTailTactics
namespace Go.Proofs.YtgicljeedegncaaGreat
open List renaming getElem_toArray → ZA, getElem_cons_zero → ZB, getElem_cons_succ → ZC, setIfInBounds_toArray → ZD, set_cons_zero → ZE, set_cons_succ → ZF
open Go.AllReadyH renaming cons → ZS, nil → ZN
open Go.Act renaming put → ZP
set_option linter.unusedSimpArgs false
set_option linter.unusedVariables false
open Go.RowKit

/-- What Add of a set with room for 256 ranges answers, and what it leaves. -/
def addE (lo hi : Int) (rs : List Rg) : Int := if (isT lo && isT hi && decide (lo ≤ hi)) = true then (if 256 < (addR lo hi rs).length then 5 else 0) else 2
def addS (lo hi : Int) (rs : List Rg) : List Rg := if addE lo hi rs = 0 then addR lo hi rs else rs
theorem addE_bad {lo hi : Int} {rs : List Rg} (h : (isT lo && isT hi && decide (lo ≤ hi)) = false) : addE lo hi rs = 2 := by unfold addE; rw [h]; rfl
theorem addE_ok {lo hi : Int} {rs : List Rg} (h : (isT lo && isT hi && decide (lo ≤ hi)) = true) (hl : (addR lo hi rs).length ≤ 256) : addE lo hi rs = 0 := by unfold addE; rw [if_pos h, if_neg (by omega)]
theorem addE_full {lo hi : Int} {rs : List Rg} (h : (isT lo && isT hi && decide (lo ≤ hi)) = true) (hl : 256 < (addR lo hi rs).length) : addE lo hi rs = 5 := by unfold addE; rw [if_pos h, if_pos hl]
theorem addS_ok {lo hi : Int} {rs : List Rg} (h : addE lo hi rs = 0) : addS lo hi rs = addR lo hi rs := by unfold addS; rw [if_pos h]
theorem addS_no {lo hi : Int} {rs : List Rg} (h : addE lo hi rs ≠ 0) : addS lo hi rs = rs := by unfold addS; rw [if_neg h]
/-- The document's set. -/
structure RefS (w : World) (b : Nat) (a : Option Addr) (c : Nat) (rs : List Rg) : Prop where
 blk : Blk w b 145 #[.int .i64 256, .slice a rs.length c]
 row : RgAt w a rs.reverse
 good : GoodR rs
 le : rs.length ≤ 256
 cap : rs.length ≤ c
 ne : ∀ k, a = some ⟨k, 0, none⟩ → k ≠ b
 lt : ∀ k, a = some ⟨k, 0, none⟩ → k < w.heap.size
theorem RefS.only {S : List Nat} {w w' : World} {b : Nat} {a : Option Addr} {c : Nat} {rs : List Rg} (h : RefS w b a c rs) (ho : Only S w w') (hb : b ∉ S) (ha : ∀ k, a = some ⟨k, 0, none⟩ → k ∉ S) : RefS w' b a c rs :=
 ⟨ho.blk h.blk hb, fun i r hi => by
  obtain ⟨k, e, hk, z0, z1⟩ := h.row i r hi
  exact ⟨k, e, Nat.lt_of_lt_of_le hk ho.size, (ho.cell (p := ⟨k, i * 2, none⟩) hk (ha k e)).trans z0, (ho.cell (p := ⟨k, i * 2 + 1, none⟩) hk (ha k e)).trans z1⟩, h.good, h.le, h.cap, h.ne, fun k e => Nat.lt_of_lt_of_le (h.lt k e) ho.size⟩
theorem RefS.below {w w' : World} {b : Nat} {a : Option Addr} {c : Nat} {rs : List Rg} (h : RefS w b a c rs) (hb : Below w.heap.size w w') : RefS w' b a c rs := h.only (S := []) (only_of_below hb) (by simp) (by simp)
/-- What Add, or Cut, leaves. -/
def RSetPost (w : World) (b : Nat) (a : Option Addr) (z : Int) (rs : List Rg) (e : Ending) (w' : World) : Prop := e = .returned (.int .i64 z) ∧ ∃ a' c', RefS w' b a' c' rs ∧ (∀ k, a' = some ⟨k, 0, none⟩ → a = a' ∨ w.heap.size ≤ k) ∧ Only [b] w w'
theorem RefS.turn {w w1 : World} {b : Nat} {a a1 : Option Addr} {c c1 : Nat} {rs ss : List Rg} (h : RefS w b a c rs) (hb : Below w.heap.size w w1) (hr : RgAt w1 a1 ss.reverse) (hg : GoodR ss) (hl : ss.length ≤ 256) (hc : ss.length ≤ c1) (hk : ∀ k, a1 = some ⟨k, 0, none⟩ → w.heap.size ≤ k ∧ k < w1.heap.size) :
  RSetPost w b a 0 ss (.returned (.int .i64 0)) (w1.setCell ⟨b, 1, none⟩ (.slice a1 ss.length c1)) := by
 have hB1 := (hb.block b h.blk.lt).trans h.blk
 have hne : ∀ k, a1 = some ⟨k, 0, none⟩ → k ≠ b := fun k e h2 => by have := (hk k e).1; have := h.blk.lt; omega
 have ho : Only [b] w1 (w1.setCell ⟨b, 1, none⟩ (.slice a1 ss.length c1)) := (Only.refl _ _).setCell (.inl (by simp)) _
 refine ⟨rfl, a1, c1, ⟨(Blk.set (g := b) hB1 1 _).eq (by simp), fun i r hi => ?_, hg, hl, hc, hne, fun k e => Nat.lt_of_lt_of_le (hk k e).2 ho.size⟩, fun k e => .inr (hk k e).1, (only_of_below hb).trans ho (fun x hx => .inl hx)⟩
 obtain ⟨k, e, hk2, z0, z1⟩ := hr i r hi
 have hkb := hne k e
 exact ⟨k, e, Nat.lt_of_lt_of_le hk2 ho.size, (ho.cell (p := ⟨k, i * 2, none⟩) hk2 (by simpa using hkb)).trans z0, (ho.cell (p := ⟨k, i * 2 + 1, none⟩) hk2 (by simpa using hkb)).trans z1⟩
theorem RefS.stay {w w1 : World} {b : Nat} {a : Option Addr} {c : Nat} {rs : List Rg} {z : Int} (h : RefS w b a c rs) (hb : Below w.heap.size w w1) : RSetPost w b a z rs (.returned (.int .i64 z)) w1 := ⟨rfl, a, c, h.below hb, fun k e => .inl rfl, only_of_below hb⟩
set_option maxRecDepth 100000 in
set_option maxHeartbeats 4000000 in
theorem r04add_any (b : Nat) (a : Option Addr) (c : Nat) (lo hi : Int) (rs : List Rg) (w : World) (hS : RefS w b a c rs) :
  Calls Tryz.prog 75 #[.pointer (some ⟨b, 0, none⟩), .int .i64 lo, .int .i64 hi] w (RSetPost w b a (addE lo hi rs) (addS lo hi rs)) := by
 have H1 := hide (fun W => r04is_any lo W)
 have H2 := hide (fun W => r04is_any hi W)
 have HS := hide hS
 clear hS
 cases h1 : isT lo with
 | false =>
  rw [h1] at H1
  have he : addE lo hi rs = 2 := addE_bad (by rw [h1]; rfl)
  rw [he, addS_no (by omega)]
  clear h1
  go_enter Tryz.func75, Tryz.ntmps75
  go_wp2_with fail
  refine (H1.out _).mono ?_
  rintro e1 w1 ⟨rfl, rfl⟩
  go_wp2_with fail
  go_ret
  exact HS.out.stay (Below.refl _ _)
 | true =>
  rw [h1] at H1
  cases h2 : isT hi with
  | false =>
   rw [h2] at H2
   have he : addE lo hi rs = 2 := addE_bad (by rw [h1, h2]; rfl)
   rw [he, addS_no (by omega)]
   clear h1 h2
   go_enter Tryz.func75, Tryz.ntmps75
   go_wp2_with fail
   refine (H1.out _).mono ?_
   rintro e1 w1 ⟨rfl, rfl⟩
   go_wp2_with fail
   refine (H2.out _).mono ?_
   rintro e1 w1 ⟨rfl, rfl⟩
   go_wp2_with fail
   go_ret
   exact HS.out.stay (Below.refl _ _)
  | true =>
   rw [h2] at H2
   by_cases h3 : lo ≤ hi
   ·have b1 := isT_iff.1 h1
    have b2 := isT_iff.1 h2
    have HOK : Hid ((isT lo && isT hi && decide (lo ≤ hi)) = true) := by show _ = _; rw [h1, h2, decide_eq_true h3]; rfl
    have HEQ := hide (addF_eq (lo := lo) (hi := hi) HS.out.good h3 b1.1 b2.2)
    have HGD := hide (addR_good (lo := lo) (hi := hi) HS.out.good h3 b1.1 b2.2).1
    have hn3 : ¬ hi < lo := by omega
    have y0 := HS.out.blk.cell 0
    have y1 := HS.out.blk.cell 1
    have f1 := HS.out.blk.frozen 1
    have hle := HS.out.le
    have HAD := hide (fun W (hW : Below w.heap.size w W) => added_any a rs.length c rs.reverse lo hi W List.length_reverse (by omega) HS.out.good.rev h3 b1.1 b2.2 (HS.out.below hW).row)
    rw [HEQ.out] at HAD
    obtain ⟨L, hL⟩ : ∃ L, (addR lo hi rs).length = L := ⟨_, rfl⟩
    have HL := hide hL
    clear h1 h2 b1 b2 hL
    by_cases hfull : 256 < L
    ·have he : addE lo hi rs = 5 := addE_full HOK.out (by rw [HL.out]; exact hfull)
     rw [he, addS_no (by omega)]
     clear he
     go_enter Tryz.func75, Tryz.ntmps75
     go_wp2_with fail
     refine (H1.out _).mono ?_
     rintro e1 w1 ⟨rfl, rfl⟩
     go_wp2_with fail
     refine (H2.out _).mono ?_
     rintro e1 w1 ⟨rfl, rfl⟩
     go_wp2_with fail
     refine (HAD.out _ (Below.refl _ _)).mono ?_
     rintro e3 w3 ⟨a3, c3, rfl, hr, hcc, hlk, hb3⟩
     have y0 := (HS.out.below hb3).blk.cell 0
     rw [List.length_reverse, HL.out] at *
     have hf : (256 : Int) < (L : Int) := by omega
     clear hr hlk y1 f1
     go_wp2_with fail
     go_ret
     exact HS.out.stay hb3
    ·have he : addE lo hi rs = 0 := addE_ok HOK.out (by rw [HL.out]; omega)
     rw [he, addS_ok he]
     clear he
     go_enter Tryz.func75, Tryz.ntmps75
     go_wp2_with fail
     refine (H1.out _).mono ?_
     rintro e1 w1 ⟨rfl, rfl⟩
     go_wp2_with fail
     refine (H2.out _).mono ?_
     rintro e1 w1 ⟨rfl, rfl⟩
     go_wp2_with fail
     refine (HAD.out _ (Below.refl _ _)).mono ?_
     rintro e3 w3 ⟨a3, c3, rfl, hr, hcc, hlk, hb3⟩
     rw [List.length_reverse] at hcc
     have HFIN := hide (HS.out.turn hb3 hr HGD.out (by rw [HL.out]; omega) hcc hlk)
     rw [HL.out] at HFIN
     have hS3 := HS.out.below hb3
     have y0 := hS3.blk.cell 0
     have y1 := hS3.blk.cell 1
     have f1 := hS3.blk.frozen 1
     rw [List.length_reverse, HL.out]
     have hf : ¬ (256 : Int) < (L : Int) := by omega
     clear hr hlk hS3
     go_wp2_with fail
     go_ret
     exact HFIN.out
   ·have hn3 : hi < lo := by omega
    have he : addE lo hi rs = 2 := addE_bad (by rw [h1, h2, decide_eq_false h3]; rfl)
    rw [he, addS_no (by omega)]
    go_enter Tryz.func75, Tryz.ntmps75
    go_wp2_with fail
    refine (H1.out _).mono ?_
    rintro e1 w1 ⟨rfl, rfl⟩
    go_wp2_with fail
    refine (H2.out _).mono ?_
    rintro e1 w1 ⟨rfl, rfl⟩
    go_wp2_with fail
    go_ret
    exact HS.out.stay (Below.refl _ _)
def RRgPost (w : World) (rs : List Rg) (e : Ending) (w' : World) : Prop := ∃ a c, e = .returned (.slice a rs.length c) ∧ RgAt w' a rs.reverse ∧ rs.length ≤ c ∧ (∀ k, a = some ⟨k, 0, none⟩ → w.heap.size ≤ k ∧ k < w'.heap.size) ∧ Below w.heap.size w w'
set_option maxHeartbeats 1000000 in
theorem r04ranges_any (b : Nat) (a : Option Addr) (c : Nat) (rs : List Rg) (w : World) (hS : RefS w b a c rs) :
  Calls Tryz.prog 121 #[.pointer (some ⟨b, 0, none⟩)] w (RRgPost w rs) := by
 obtain ⟨i0, hi0, hz0, hz1, hz2⟩ := info_parts rg_info04
 have y1 := hS.blk.cell 1
 have hle := hS.le
 have HRD := hide (hS.row.reads (n := rs.length) List.length_reverse)
 have hbl := hS.blk.lt
 clear hS
 go_enter Tryz.func121, Tryz.ntmps121
 go_wp2_with (at_builtin; refine wpList_append_any _ rfl (.tmp 4) (.tmp 8) _ rfl w.heap.size 93 i0 _ 2 16 Tryz.underlying50 hi0 hz0 hz1 hz2 rfl (by decide) (.slice none 0 0) 0 [] rfl (by exact ⟨by simp, .inl ⟨rfl, rfl⟩⟩) w.heap.size a rs.length c (rgsCells rs.reverse) rfl (by exact HRD.out) rgs_one (by unfold maxLen; omega) (by omega) (Nat.le_refl _) ?_; intro v' w1 hown1 hg1 hat1)
 go_ret
 rw [Nat.zero_add, List.nil_append] at hown1
 have hown2 : w1.ownsRow w.heap.size 93 2 v' rs.reverse.length (rgsCells rs.reverse) := by rw [List.length_reverse]; exact hown1
 obtain ⟨a5, c5, h5, g1, g2, g3⟩ := own_rg_new (w := w) hown2 (Nat.le_refl _)
 rw [List.length_reverse] at h5 g2
 exact ⟨a5, c5, by rw [h5]; rfl, g1, g2, g3, Below.grown (Below.refl _ _) hg1 (Nat.le_refl _) (fun k hk => by simp [Value.ownBlock] at hk)⟩
def RSCopyPost (w : World) (rs : List Rg) (e : Ending) (w' : World) : Prop := ∃ b' a' c', e = .returned (.pointer (some ⟨b', 0, none⟩)) ∧ RefS w' b' a' c' rs ∧ w.heap.size ≤ b' ∧ (∀ k, a' = some ⟨k, 0, none⟩ → w.heap.size ≤ k) ∧ Below w.heap.size w w'
set_option maxHeartbeats 2000000 in
theorem r04copy_any (b : Nat) (a : Option Addr) (c : Nat) (rs : List Rg) (w : World) (hS : RefS w b a c rs) :
  Calls Tryz.prog 73 #[.pointer (some ⟨b, 0, none⟩)] w (RSCopyPost w rs) := by
 have hm := hS.blk.lt
 have c0 : w.cell? ⟨b, 0, none⟩ = some (.int .i64 256) := hS.blk.cell 0
 have hg := hS.good
 have hle := hS.le
 have HS := hide hS
 have HG := hide hg
 clear hS hg
 go_enter Tryz.func73, Tryz.ntmps73
 go_wp2
 go_region_held3 (fun w' => w'.cell? ⟨b, 0, none⟩ = some (.int .i64 256)) (first | with_reducible exact d0 | exact (World.cell?_alloc_lt _ _ _ (by simpa using Nat.lt_of_lt_of_le hm hb1.size)).trans d0 | exact c0)
  (first | (go_at_call 121; refine (r04ranges_any b a c rs _ (by first | exact HS.out | exact HS.out.below (Below.refl _ _).drew)).mono ?_; rintro e1 w1 ⟨a1, k1, rfl, hr1, hc1, hn1, hb1⟩; have d0 : w1.cell? ⟨b, 0, none⟩ = some (.int .i64 256) := (hb1.cell (p := ⟨b, 0, none⟩) hm).trans c0))
 all_goals go_wp2
 all_goals go_ret
 all_goals
  have hbw : Below w.heap.size w w1 := ((Below.refl w.heap.size w).drew).trans hb1
  exact ⟨w1.heap.size, a1, k1, rfl, ⟨Blk.new _ _ _, hr1.below ((Below.refl _ _).alloc (Nat.le_refl _) _), HG.out, hle, hc1, fun k e h2 => by have := (hn1 k e).2; omega, fun k e => by have := (hn1 k e).2; simp; omega⟩, hbw.size, fun k e => (hn1 k e).1, hbw.alloc hbw.size _⟩
set_option maxRecDepth 100000 in
set_option maxHeartbeats 4000000 in
theorem r04cut_ok (b : Nat) (a : Option Addr) (c : Nat) (n : Int) (rs : List Rg) (w : World) (hS : RefS w b a c rs) (n0 : 0 ≤ n) (n1 : n ≤ 9007199254740991) :
  Calls Tryz.prog 79 #[.pointer (some ⟨b, 0, none⟩), .int .i64 n] w (RSetPost w b a 0 (cutR n rs)) := by
 obtain ⟨i0, hi0, hz0, hz1, hz2⟩ := info_parts rg_info04
 have H1 := hide (fun W => r04is_any n W)
 rw [isT_iff.2 ⟨n0, n1⟩] at H1
 have HS := hide hS
 have HEQ := hide (cutF_eq (b := n) hS.good)
 have HGD := hide (cutR_good (b := n) hS.good)
 have HLN := hide (cutR_length rs n)
 have hle := hS.le
 obtain ⟨l, hl⟩ : ∃ l, rs.reverse = l := ⟨_, rfl⟩
 obtain ⟨N, hN⟩ : ∃ N, rs.length = N := ⟨_, rfl⟩
 have HN : Hid (l.length = N) := by show _ = _; rw [← hl, List.length_reverse]; exact hN
 have HL := hide hl
 rw [hl] at HEQ
 rw [hN] at hle
 have hbl := hS.blk.lt
 have HNR := hide hN
 clear hS hl hN
 go_enter Tryz.func79, Tryz.ntmps79
 go_wp2_with fail
 refine (H1.out _).mono ?_
 rintro e1 w1 ⟨rfl, rfl⟩
 go_wp2_with fail
 go_loopg [5, 6] N (fun kx s5 s6 wr => ∃ (i : Nat), s6 = .int .i64 i ∧ i ≤ N ∧ N - i ≤ kx ∧ wr.ownsRow w.heap.size 93 2 s5 (cutF n (l.take i)).length (rgsCells (cutF n (l.take i))) ∧ Below w.heap.size w wr)
 case atStart => exact ⟨0, rfl, by omega, by omega, ⟨by simp [cutF, rgsCells], .inl ⟨rfl, by simp [cutF]⟩⟩, Below.refl _ _⟩
 case round =>
  obtain ⟨i, rfl, hi', hkx, hown, hB⟩ := hrel
  have hSr := HS.out.below hB
  have y1 := hSr.blk.cell 1
  rw [HNR.out] at y1
  have hrow := hSr.row
  rw [HL.out] at hrow
  have hsz := hB.size
  by_cases hlt : i < N
  ·have hil : i < l.length := by rw [HN.out]; exact hlt
   obtain ⟨r, hr⟩ : ∃ r, l[i]? = some r := ⟨_, List.getElem?_eq_getElem hil⟩
   have htk : l.take (i + 1) = l.take i ++ [r] := by rw [List.take_add_one, hr]; rfl
   have hct := cutF_snoc n (l.take i) r
   rw [← htk] at hct
   obtain ⟨k, rfl, hk, z0, z1⟩ := hrow i r hr
   have hin : (i : Int) < (N : Int) := by omega
   have hln : (cutF n (l.take i)).length ≤ i := by unfold cutF; rw [List.length_map]; exact Nat.le_trans (List.length_filter_le _ _) (by rw [List.length_take]; omega)
   obtain ⟨os, hos⟩ : ∃ os, cutF n (l.take i) = os := ⟨_, rfl⟩
   rw [hos] at hown hct hln
   obtain ⟨M, hM⟩ : ∃ M, os.length = M := ⟨_, rfl⟩
   rw [hM] at hown hln
   obtain ⟨A8, c8, rfl⟩ := own_slice' hown
   obtain ⟨rlo, rhi⟩ := r
   dsimp only at z0 z1 hct
   have HCT := hide hct
   have HM := hide hM
   have CC : Hid (∀ W', RefS W' b (some ⟨k, 0, none⟩) c rs → W'.cell? ⟨b, 1, none⟩ = some (.slice (some ⟨k, 0, none⟩) N c) ∧ W'.cell? ⟨k, i * 2, none⟩ = some (.int .i64 rlo) ∧ W'.cell? ⟨k, i * 2 + 1, none⟩ = some (.int .i64 rhi)) := fun W' hW' => by
    obtain ⟨k', e, _, u0, u1⟩ := hW'.row i ⟨rlo, rhi⟩ (by rw [HL.out]; exact hr)
    cases e
    have := hW'.blk.cell 1
    rw [HNR.out] at this
    exact ⟨this, u0, u1⟩
   clear hr htk hct hos hM hrow hSr
   by_cases hc : n ≤ rhi
   ·have hmx := max_if rlo n
    obtain ⟨mlo, hmlo⟩ : ∃ z, max rlo n = z := ⟨_, rfl⟩
    rw [if_pos hc, hmlo] at HCT
    rw [hmlo] at hmx
    clear hmlo
    have hge : ¬ rhi < n := by omega
    go_upto_region 8 with (fail)
    clear y1 z0 z1
    refine wp_region_held_drew (S := (fun w' => RefS w' b (some ⟨k, 0, none⟩) c rs)) (by kernel_rfl) (by exact (HS.out.below hB).below (Below.refl _ _).drew) (fun hHeld => ?_)
    refine tkP 0 ?_ rfl ?_ ?_
    rotate_left
    ·intro w' hSw; (try dsimp only at hSw); go_simp; try with_reducible rfl
    try simp only [ZP, ZA, ZB, ZC, ZD, ZE, ZF]
    refine tkP 1 ?_ rfl ?_ ?_
    rotate_left
    ·intro w' hSw; (try dsimp only at hSw); go_simp; try with_reducible rfl
    try simp only [ZP, ZA, ZB, ZC, ZD, ZE, ZF]
    refine tkP 2 ?_ rfl ?_ ?_
    rotate_left
    ·intro w' hSw; (try dsimp only at hSw); go_simp; try with_reducible rfl
    try simp only [ZP, ZA, ZB, ZC, ZD, ZE, ZF]
    refine tkP 3 ?_ rfl ?_ ?_
    rotate_left
    ·intro w' hSw; (try dsimp only at hSw); go_simp; try with_reducible rfl
    try simp only [ZP, ZA, ZB, ZC, ZD, ZE, ZF]
    refine tkP 4 ?_ rfl ?_ ?_
    rotate_left
    ·intro w' hSw; (try dsimp only at hSw); obtain ⟨y1, z0, z1⟩ := CC.out _ hSw; go_simp; try with_reducible rfl
    try simp only [ZP, ZA, ZB, ZC, ZD, ZE, ZF]
    refine tkP 5 ?_ rfl ?_ ?_
    rotate_left
    ·intro w' hSw; (try dsimp only at hSw); go_simp; try with_reducible rfl
    try simp only [ZP, ZA, ZB, ZC, ZD, ZE, ZF]
    refine tkP 6 ?_ rfl ?_ ?_
    rotate_left
    ·intro w' hSw; (try dsimp only at hSw); go_simp; try with_reducible rfl
    try simp only [ZP, ZA, ZB, ZC, ZD, ZE, ZF]
    refine tkP 7 ?_ rfl ?_ ?_
    rotate_left
    ·intro w' hSw; (try dsimp only at hSw); go_simp; try with_reducible rfl
    try simp only [ZP, ZA, ZB, ZC, ZD, ZE, ZF]
    refine tkP 8 ?_ rfl ?_ ?_
    rotate_left
    ·intro w' hSw; (try dsimp only at hSw); obtain ⟨y1, z0, z1⟩ := CC.out _ hSw; go_simp; try with_reducible rfl
    try simp only [ZP, ZA, ZB, ZC, ZD, ZE, ZF]
    refine tkP 9 ?_ rfl ?_ ?_
    rotate_left
    ·intro w' hSw; (try dsimp only at hSw); go_simp; try with_reducible rfl
    try simp only [ZP, ZA, ZB, ZC, ZD, ZE, ZF]
    refine tkP 10 ?_ rfl ?_ ?_
    rotate_left
    ·intro w' hSw; (try dsimp only at hSw); go_simp; try with_reducible rfl
    try simp only [ZP, ZA, ZB, ZC, ZD, ZE, ZF]
    refine tkP 11 ?_ rfl ?_ ?_
    rotate_left
    ·intro w' hSw; (try dsimp only at hSw); go_simp; try with_reducible rfl
    try simp only [ZP, ZA, ZB, ZC, ZD, ZE, ZF]
    refine tkP 12 ?_ rfl ?_ ?_
    rotate_left
    ·intro w' hSw; (try dsimp only at hSw); go_simp; try with_reducible rfl
    try simp only [ZP, ZA, ZB, ZC, ZD, ZE, ZF]
    refine tkP 13 ?_ rfl ?_ ?_
    rotate_left
    ·intro w' hSw; (try dsimp only at hSw); go_simp; try with_reducible rfl
    try simp only [ZP, ZA, ZB, ZC, ZD, ZE, ZF]
    refine tkP 14 ?_ rfl ?_ ?_
    rotate_left
    ·intro w' hSw; (try dsimp only at hSw); obtain ⟨y1, z0, z1⟩ := CC.out _ hSw; go_simp; try with_reducible rfl
    try simp only [ZP, ZA, ZB, ZC, ZD, ZE, ZF]
    refine tkP 15 ?_ rfl ?_ ?_
    rotate_left
    ·intro w' hSw; (try dsimp only at hSw); go_simp; try with_reducible rfl
    try simp only [ZP, ZA, ZB, ZC, ZD, ZE, ZF]
    refine tkP 16 ?_ rfl ?_ ?_
    rotate_left
    ·intro w' hSw; (try dsimp only at hSw); go_simp; try with_reducible rfl
    try simp only [ZP, ZA, ZB, ZC, ZD, ZE, ZF]
    refine tkP 17 ?_ rfl ?_ ?_
    rotate_left
    ·intro w' hSw; (try dsimp only at hSw); go_simp; try with_reducible rfl
    try simp only [ZP, ZA, ZB, ZC, ZD, ZE, ZF]
    refine tkP 18 ?_ rfl ?_ ?_
    rotate_left
    ·intro w' hSw; (try dsimp only at hSw); obtain ⟨y1, z0, z1⟩ := CC.out _ hSw; go_simp; try with_reducible rfl
    try simp only [ZP, ZA, ZB, ZC, ZD, ZE, ZF]
    refine tkP 19 ?_ rfl ?_ ?_
    rotate_left
    ·intro w' hSw; (try dsimp only at hSw); go_simp; try with_reducible rfl
    try simp only [ZP, ZA, ZB, ZC, ZD, ZE, ZF]
    refine tkR [20] ?_
    refine ZS rfl (fun K hK => ?_) ZN
    go_simp
    refine hK.out _ _ (hHeld.below ((Below.refl _ _).alloc (Nat.le_refl _) _)) (fun hHeld => ?_)
    clear hK K
    try simp only [ZP, ZA, ZB, ZC, ZD, ZE, ZF]
    refine tkR [21] ?_
    refine ZS rfl (fun K hK => ?_) ZN
    refine step_append_any _ rfl (.tmp 29) (.tmp 49) _ rfl w.heap.size 93 i0 _ 2 16 Tryz.underlying50 hi0 hz0 hz1 hz2 rfl (by decide) (.slice A8 M c8) M (rgsCells os) rfl (by exact (hown.drew).alloc _) (wr.heap.size + 1) (some ⟨wr.heap.size, 0, none⟩) 1 1 [.int .i64 mlo, .int .i64 rhi] rfl (by exact reads_lit (blk_new_at (by simp)) (by simp) rfl) (by simp [Value.oneCell']) (by unfold maxLen; omega) (by omega) (by simp; omega) ?_; intro v5 w5 hown5 hg5 hat5
    have HB5 := hide (Below.grown (hB.drew.alloc (by simpa using hsz) _) hg5 (by simp; omega) (fun x hx => by have := (hown.lt x hx).1; omega))
    refine hK.out _ _ (HS.out.below HB5.out) (fun hHeld => ?_)
    clear hK K
    try simp only [ZP, ZA, ZB, ZC, ZD, ZE, ZF]
    refine tkP 22 ?_ rfl ?_ ?_
    rotate_left
    ·intro w' hSw; (try dsimp only at hSw); go_simp; try with_reducible rfl
    try simp only [ZP, ZA, ZB, ZC, ZD, ZE, ZF]
    refine wpAnyH_done (by kernel_rfl) ?_ _
    clear hHeld
    go_wp2_with fail
    go_roundg (N - (i + 1))
    case rel =>
     refine ⟨i + 1, by go_num, by omega, by omega, ?_, ?_⟩
     ·rw [HCT.out, List.length_append, rgs_append, HM.out]
      simpa [rgsCells, rgCells] using hown5
     ·exact HB5.out
    case measure => omega
   ·rw [if_neg hc] at HCT
    have hge : rhi < n := by omega
    go_wp2_with fail
    go_roundg (N - (i + 1))
    case rel => exact ⟨i + 1, by go_num, by omega, by omega, by rw [HCT.out, HM.out]; exact hown, hB⟩
    case measure => omega
  ·obtain rfl : i = N := by omega
   have hin : ¬ (i : Int) < (i : Int) := by omega
   rw [List.take_of_length_le (by rw [HN.out]; exact Nat.le_refl _), HEQ.out] at hown
   obtain ⟨a5, c5, h5, g1, g2, g3⟩ := own_rg_new (w := w) hown (Nat.le_refl _)
   subst h5
   rw [List.length_reverse] at g2
   have HFIN := hide (HS.out.turn hB g1 HGD.out (by have := HLN.out; have := HNR.out; omega) g2 g3)
   have f1 := hSr.blk.frozen 1
   clear hown g1 g2 g3 hrow hSr
   rw [List.length_reverse]
   go_wp2_with fail
   go_ret
   exact HFIN.out
end Go.Proofs.YtgicljeedegncaaGreat
