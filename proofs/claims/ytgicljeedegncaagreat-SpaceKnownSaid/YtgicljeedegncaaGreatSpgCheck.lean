/-
 Layer 5 (package frame): Check of any ACK. Printed by wip/genfcq.py.
-/
import Derived.Test.YtgicljeedegncaaGreatTqSpgGaps
import Derived.Test.YtgicljeedegncaaGreatTqFrameHas
namespace Go.Proofs.YtgicljeedegncaaGreat
open Go.Value renaming int → ZI
open Go.IntKind renaming i64 → ZQ
set_option linter.unusedSimpArgs false
set_option linter.unusedVariables false
open Go.RowKit Go.Shelf
attribute [local go_sem] Oper.semAt_some

def ckA (k : AK) : Int := if okAk k then 0 else 2
theorem ckA_bad {k : AK} (h : okAk k = false) : ckA k = 2 := by unfold ckA; rw [h]; rfl
theorem ckA_good {k : AK} (h : okAk k = true) : ckA k = 0 := by unfold ckA; rw [h]; rfl
theorem frame_gapsq_in (n : Nat) (ak : AK) (a : Option Addr) (k c : Nat) (w : World) : CallsIn Fence.wide n Tryz.prog 101 #[.agg (akC ak a k c)] w fun e w' => e = .returned (.func (.func 149) #[] #[.pointer (some ⟨w.heap.size, 0, none⟩)]) ∧ w' = w.alloc (.cells (akC ak a k c) 52) := by
 unfold akC
 refine callsIn_of_wp Tryz.func101 rfl trivial ?_ rfl
 simp only [Tryz.ntmps101, List.size_toArray, List.length_cons, List.length_nil, Nat.reduceAdd, Nat.reduceSub, Array.replicate_succ, Array.replicate_zero, List.push_toArray, List.append_toArray, List.nil_append, List.cons_append]
 gi_wp2
 go_ret
 exact ⟨rfl, rfl⟩
structure CqAt (w W : World) (a : Option Addr) (c : Nat) (ak : AK) : Prop where
 gp : GqAt W w.heap.size a c ak
 res : Blk W (w.heap.size + 1) 24 #[ZI ZQ 0]
 below : Below w.heap.size w W
theorem CqAt.later {w W W' : World} {a : Option Addr} {c : Nat} {ak : AK} (h : CqAt w W a c ak) (hb : Below W.heap.size W W') : CqAt w W' a c ak := ⟨h.gp.below hb, (hb.block _ h.res.lt).trans h.res, bw_below' h.below hb⟩
theorem CqAt.six {w W : World} {a : Option Addr} {c : Nat} {ak : AK} (h : CqAt w W a c ak) : W.cell? ⟨w.heap.size, 0, none⟩ = some (ZI ZQ ak.delay) ∧ W.cell? ⟨w.heap.size, 1, none⟩ = some (.slice a ak.rs.length c) ∧ W.cell? ⟨w.heap.size, 2, none⟩ = some (.bool ak.marked) ∧ W.cell? ⟨w.heap.size, 3, none⟩ = some (ZI ZQ ak.e0) ∧ W.cell? ⟨w.heap.size, 4, none⟩ = some (ZI ZQ ak.e1) ∧ W.cell? ⟨w.heap.size, 5, none⟩ = some (ZI ZQ ak.e2) := ⟨h.gp.box.cell 0, h.gp.box.cell 1, h.gp.box.cell 2, h.gp.box.cell 3, h.gp.box.cell 4, h.gp.box.cell 5⟩
theorem isnumber_q (n : Int) (m : Nat) (w : World) : CallsIn Fence.wide m Tryz.prog 100 #[ZI ZQ n] w fun e w' => e = .returned (.bool (isT n)) ∧ w = w' := callsIn_wide.2 (isnumber_any n w)
theorem idx3_q (W : World) (x y z v : Int) (j : Nat) (h : j < 3) (hv : (#[ZI ZQ x, ZI ZQ y, ZI ZQ z] : Array Value)[j]? = some (ZI ZQ v)) : (Instr.index 33 (.agg #[ZI ZQ x, ZI ZQ y, ZI ZQ z]) (ZI ZQ (j : Int))).run Tryz.prog W = .ok (ZI ZQ v) W := by
 have hu : Tryz.prog.underlying 33 = some (.array 3 3) := by kernel_rfl
 have h0 : (0 : Int) ≤ j ∧ (j : Int) < 3 := by omega
 have hs : (sizeOf 3).run Tryz.prog W = .ok 1 W := by
  simp [sizeOf, go_sem]
  rfl
 have hp : (part 3 #[ZI ZQ x, ZI ZQ y, ZI ZQ z] j).run Tryz.prog W = .ok (ZI ZQ v) W := part_i64 _ j v hv W
 simp [Instr.index, run_underlying hu, asIntOf, h0, Sem.run_bind, hs, hp]
 exact fun h3 => absurd h3 (by omega)
theorem chkq_results {W : World} {B : Nat} (z : Int) (c0 : W.cell? ⟨B, 0, none⟩ = some (ZI ZQ z)) (tmps : Array Value) (h2 : tmps.getD 2 undef = .pointer (some ⟨B, 0, none⟩)) :
  (results Tryz.f57 tmps).run Tryz.prog W = .ok (ZI ZQ z) W := by
 simp only [Array.getD_eq_getD_getElem?] at h2
 simp [results, Tryz.f57, go_sem, h2, c0]
def NoGap (pre : List (Int × Rg)) : Prop := ∀ x ∈ pre, ¬ x.1 < 0
def SomeGap (pre : List (Int × Rg)) : Prop := ∃ x ∈ pre, x.1 < 0
theorem grown_low {B0 : Nat} {w X Y : World} {row : Option Nat} (h0 : w.heap.size ≤ B0) (h : Below w.heap.size w X) (hg : X.grownBy Y row) (hr : ∀ r, row = some r → B0 ≤ r) : Below w.heap.size w Y :=
 ⟨hg.os.trans h.os, hg.tape.trans h.tape, hg.output.trans h.output, Nat.le_trans h.size hg.size, fun k hkk => (hg.block k (by have := h.size; omega) (fun e => by have := hr k e.symm; omega)).trans (h.block k hkk)⟩
/-- What lies behind an early end: the answer's cell holds 2. -/
theorem early_two {w W : World} {a : Option Addr} {c : Nat} {ak : AK} (h : CqAt w W a c ak) : (W.setCell ⟨w.heap.size + 1, 0, none⟩ (ZI ZQ 2)).cell? ⟨w.heap.size + 1, 0, none⟩ = some (ZI ZQ 2) ∧ Below w.heap.size w (W.setCell ⟨w.heap.size + 1, 0, none⟩ (ZI ZQ 2)) :=
 ⟨(h.res.set 0 (ZI ZQ 2)).cell 0, h.below.setCell (p := ⟨w.heap.size + 1, 0, none⟩) (by simp) _⟩

set_option maxRecDepth 100000 in
set_option maxHeartbeats 8000000 in
theorem checkq_in (n : Nat) (hn : 4 ≤ n) (a : Option Addr) (c : Nat) (ak : AK) (w : World) (hR : RgAt w a ak.rs) :
  CallsIn Fence.wide n Tryz.prog 57 #[.agg (akC ak a ak.rs.length c)] w fun e W' => e = .returned (ZI ZQ (ckA ak)) ∧ Below w.heap.size w W' := by
 have h1 : 1 ≤ n := by omega
 refine callsIn_of_wp_marks Tryz.func57 rfl trivial ?_ rfl
 simp only [Tryz.ntmps57, List.size_toArray, List.length_cons, List.length_nil, Nat.reduceAdd, Nat.reduceSub, Array.replicate_succ, Array.replicate_zero, List.push_toArray, List.append_toArray, List.nil_append, List.cons_append]
 obtain ⟨dl, rs, mk, m0, m1, m2⟩ := ak
 dsimp only at hR ⊢
 have hb0 : Below w.heap.size w ((w.alloc (.cells (akC ⟨dl, rs, mk, m0, m1, m2⟩ a rs.length c) 52)).alloc (.cells #[ZI ZQ 0] 24)) := ((Below.refl _ _).alloc (Nat.le_refl _) _).alloc (by simp) _
 have hc0 : CqAt w ((w.alloc (.cells (akC ⟨dl, rs, mk, m0, m1, m2⟩ a rs.length c) 52)).alloc (.cells #[ZI ZQ 0] 24)) a c ⟨dl, rs, mk, m0, m1, m2⟩ := by
  refine ⟨⟨(Blk.new _ _ _).alloc _, hR.below hb0⟩, ?_, hb0⟩
  have := Blk.new (w.alloc (.cells (akC ⟨dl, rs, mk, m0, m1, m2⟩ a rs.length c) 52)) 24 #[ZI ZQ 0]
  rw [World.size_alloc] at this
  exact this
 obtain ⟨x0, x1, x2, x3, x4, x5⟩ := hc0.six
 have HC := hide hc0
 have HE := hide (And.intro (Blk.cell (g := w.heap.size + 1) (blk_new_at (W := w.alloc (.cells (akC ⟨dl, rs, mk, m0, m1, m2⟩ a rs.length c) 52)) (t := 24) (cs := #[ZI ZQ 2]) (by simp)) 0) ((((Below.refl _ _).alloc (Nat.le_refl _) (.cells (akC ⟨dl, rs, mk, m0, m1, m2⟩ a rs.length c) 52)).alloc (by simp) (.cells #[ZI ZQ 2] 24)) : Below w.heap.size w _))
 clear hb0 hc0 hR
 have HKO : Hid (∀ h : ¬ (1 ≤ rs.length ∧ rs.length ≤ 256), okAk ⟨dl, rs, mk, m0, m1, m2⟩ = false) := fun h => okAk_false fun h1 h2 _ _ _ _ _ => h ⟨h1, h2⟩
 have HDO : Hid (isT dl = false → okAk ⟨dl, rs, mk, m0, m1, m2⟩ = false) := fun h => okAk_false fun _ _ h3 _ _ _ _ => by rw [h] at h3; cases h3
 have HTO : Hid (okTake rs rs.length = false → okAk ⟨dl, rs, mk, m0, m1, m2⟩ = false) := fun h => okAk_false fun _ _ _ h4 _ _ _ => by rw [h] at h4; cases h4
 have HM0 : Hid (markB mk m0 = false → okAk ⟨dl, rs, mk, m0, m1, m2⟩ = false) := fun h => okAk_false fun _ _ _ _ h5 _ _ => by rw [h] at h5; cases h5
 have HM1 : Hid (markB mk m1 = false → okAk ⟨dl, rs, mk, m0, m1, m2⟩ = false) := fun h => okAk_false fun _ _ _ _ _ h5 _ => by rw [h] at h5; cases h5
 have HM2 : Hid (markB mk m2 = false → okAk ⟨dl, rs, mk, m0, m1, m2⟩ = false) := fun h => okAk_false fun _ _ _ _ _ _ h5 => by rw [h] at h5; cases h5
 have HOK : Hid (1 ≤ rs.length → rs.length ≤ 256 → isT dl = true → okTake rs rs.length = true → markB mk m0 = true → markB mk m1 = true → markB mk m2 = true → okAk ⟨dl, rs, mk, m0, m1, m2⟩ = true) := fun h1 h2 h3 h4 h5 h6 h7 => okAk_true h1 h2 h3 h4 h5 h6 h7
 obtain ⟨cka, hcka⟩ : ∃ z, ckA ⟨dl, rs, mk, m0, m1, m2⟩ = z := ⟨_, rfl⟩
 have HBAD : Hid (okAk ⟨dl, rs, mk, m0, m1, m2⟩ = false → cka = 2) := fun h => by rw [← hcka, ckA_bad h]
 have HGOOD : Hid (okAk ⟨dl, rs, mk, m0, m1, m2⟩ = true → cka = 0) := fun h => by rw [← hcka, ckA_good h]
 rw [hcka]
 clear hcka
 obtain ⟨NN, hK⟩ : ∃ NN, rs.length = NN := ⟨_, rfl⟩
 have HK := hide hK
 dsimp only at x0 x1 x2 x3 x4 x5
 rw [hK] at x0 x1 x2 x3 x4 x5 HC HE ⊢
 rw [hK] at HKO
 clear hK
 unfold akC at x0 x1 x2 x3 x4 x5 HC HE ⊢
 dsimp only at x0 x1 x2 x3 x4 x5 HC HE ⊢
 have HD := hide (fun W => isnumber_q dl 0 W)
 by_cases hk1 : (NN : Int) < 1
 ·gi_wp2_with fail
  refine ⟨trivial, ?_⟩
  gi_wp2_with fail
  exact ⟨_, chkq_results 2 HE.out.1 _ rfl, by rw [HBAD.out (HKO.out (by omega))], HE.out.2⟩
 by_cases hk2 : (256 : Int) < (NN : Int)
 ·gi_wp2_with fail
  refine ⟨trivial, ?_⟩
  gi_wp2_with fail
  exact ⟨_, chkq_results 2 HE.out.1 _ rfl, by rw [HBAD.out (HKO.out (by omega))], HE.out.2⟩
 cases hd : isT dl with
 | false =>
  gi_wp2_with fail
  refine ⟨trivial, (isnumber_q dl _ _).mono ?_⟩
  rintro e1 w1 ⟨rfl, rfl⟩
  rw [hd]
  gi_wp2_with fail
  exact ⟨_, chkq_results 2 HE.out.1 _ rfl, by rw [HBAD.out (HDO.out hd)], HE.out.2⟩
 | true =>
  gi_wp2_with fail
  refine ⟨trivial, (isnumber_q dl _ _).mono ?_⟩
  rintro e1 w1 ⟨rfl, rfl⟩
  rw [hd]
  gi_wp2_with fail
  gi_loopg [27] NN (fun kx s27 wr => ∃ i : Nat, s27 = ZI ZQ i ∧ i ≤ NN ∧ NN - i ≤ kx ∧ CqAt w wr a c ⟨dl, rs, mk, m0, m1, m2⟩ ∧ Hid (∀ (j : Nat) (r : Rg), j < i → rs[j]? = some r → numB r = true))
  case atStart => exact ⟨0, rfl, by omega, by omega, HC.out, fun j r hj => by omega⟩
  case round =>
   clear x0 x1 x2 x3 x4 x5 HC HE
   obtain ⟨i, rfl, hi, hkx, hC, HNU⟩ := hrel
   by_cases hlt : i < NN
   ·obtain ⟨r, hr⟩ : ∃ r, rs[i]? = some r := ⟨_, List.getElem?_eq_getElem (by rw [HK.out]; exact hlt)⟩
    obtain ⟨k, rfl, hk, z0, z1⟩ := hC.gp.row i r hr
    have hba : Below wr.heap.size wr (wr.alloc (.cells #[ZI ZQ r.lo, ZI ZQ r.hi] 93)) := (Below.refl _ _).alloc (Nat.le_refl _) _
    have hx := Blk.new wr 93 #[ZI ZQ r.lo, ZI ZQ r.hi]
    have y0 : (wr.alloc (.cells #[ZI ZQ r.lo, ZI ZQ r.hi] 93)).cell? ⟨wr.heap.size, 0, none⟩ = some (ZI ZQ r.lo) := hx.cell 0
    have y1 : (wr.alloc (.cells #[ZI ZQ r.lo, ZI ZQ r.hi] 93)).cell? ⟨wr.heap.size, 1, none⟩ = some (ZI ZQ r.hi) := hx.cell 1
    have hC1 := hC.later hba
    have HC1 := hide hC1
    have HE1 := hide (early_two hC1)
    have hres := hC1.res
    have r0 := hres.cell 0
    have f0 := hres.frozen 0
    have hin : (i : Int) < (NN : Int) := by omega
    have hi0 : (0 : Int) ≤ (i : Int) := by omega
    have HBR : Hid (numB r = false → cka = 2) := fun h => HBAD.out (HTO.out (okTake_bad (i := i) (by rw [HK.out]; exact hlt) (by rw [okAt_some hr, h]; rfl)))
    have HRI := hide hr
    clear hC hba hx hr hC1 hres
    cases hlo : isT r.lo with
    | false =>
     gi_wp2_with fail
     refine ⟨trivial, (isnumber_q r.lo _ _).mono ?_⟩
     rintro e1 w1 ⟨rfl, rfl⟩
     rw [hlo]
     gi_wp2_with fail
     refine ⟨trivial, ?_⟩
     gi_wp2_with fail
     exact ⟨_, chkq_results 2 HE1.out.1 _ rfl, by rw [HBR.out (by unfold numB; rw [hlo]; rfl)], HE1.out.2⟩
    | true =>
     cases hhi : isT r.hi with
     | false =>
      gi_wp2_with fail
      refine ⟨trivial, (isnumber_q r.lo _ _).mono ?_⟩
      rintro e1 w1 ⟨rfl, rfl⟩
      rw [hlo]
      gi_wp2_with fail
      refine ⟨trivial, (isnumber_q r.hi _ _).mono ?_⟩
      rintro e1 w1 ⟨rfl, rfl⟩
      rw [hhi]
      gi_wp2_with fail
      exact ⟨_, chkq_results 2 HE1.out.1 _ rfl, by rw [HBR.out (by unfold numB; rw [hhi, hlo]; rfl)], HE1.out.2⟩
     | true =>
      by_cases hgt : r.hi < r.lo
      ·gi_wp2_with fail
       refine ⟨trivial, (isnumber_q r.lo _ _).mono ?_⟩
       rintro e1 w1 ⟨rfl, rfl⟩
       rw [hlo]
       gi_wp2_with fail
       refine ⟨trivial, (isnumber_q r.hi _ _).mono ?_⟩
       rintro e1 w1 ⟨rfl, rfl⟩
       rw [hhi]
       gi_wp2_with fail
       exact ⟨_, chkq_results 2 HE1.out.1 _ rfl, by rw [HBR.out (by unfold numB; rw [decide_eq_false (by omega)]; simp)], HE1.out.2⟩
      ·have HNR : Hid (numB r = true) := by show _ = _; unfold numB; rw [hlo, hhi, decide_eq_true (by omega)]; rfl
       gi_wp2_with fail
       refine ⟨trivial, (isnumber_q r.lo _ _).mono ?_⟩
       rintro e1 w1 ⟨rfl, rfl⟩
       rw [hlo]
       gi_wp2_with fail
       refine ⟨trivial, (isnumber_q r.hi _ _).mono ?_⟩
       rintro e1 w1 ⟨rfl, rfl⟩
       rw [hhi]
       gi_wp2_with fail
       go_roundg (NN - (i + 1))
       case rel =>
        refine ⟨i + 1, by go_num, by omega, by omega, HC1.out, fun j r' hj hr' => ?_⟩
        by_cases hji : j < i
        ·exact HNU.out j r' hji hr'
        ·obtain rfl : j = i := by omega
         rw [HRI.out] at hr'
         cases hr'
         exact HNR.out
       case measure => omega
   ·obtain rfl : i = NN := by omega
    have hin : ¬ (i : Int) < (i : Int) := by omega
    obtain ⟨x0, x1, x2, x3, x4, x5⟩ := hC.six
    dsimp only at x0 x1 x2 x3 x4 x5
    have hC7 := hC.later ((Below.refl _ _).alloc (Nat.le_refl _) (.cells (akC ⟨dl, rs, mk, m0, m1, m2⟩ a rs.length c) 52))
    have hG7 : GqAt (wr.alloc (.cells (akC ⟨dl, rs, mk, m0, m1, m2⟩ a rs.length c) 52)) wr.heap.size a c ⟨dl, rs, mk, m0, m1, m2⟩ := ⟨Blk.new _ _ _, (hC.gp.row).below ((Below.refl _ _).alloc (Nat.le_refl _) _)⟩
    have HNA : Hid (∀ r ∈ rs, numB r = true) := fun r hr => by
     obtain ⟨j, hj⟩ := List.mem_iff_getElem?.1 hr
     exact HNU.out j r (by have := (List.getElem?_eq_some_iff.1 hj).1; rw [HK.out] at this; exact this) hj
    have HNO : Hid (NumsOk rs) := ⟨by rw [HK.out]; omega, fun r hr => numB_iff.1 (HNA.out r hr)⟩
    rw [HK.out] at x1
    have HC := hide hC
    have HC7 := hide hC7
    have HG7 := hide hG7
    clear hC hC7 hG7 HNU
    gi_wp2_with fail
    refine ⟨trivial, (frame_gapsq_in _ ⟨dl, rs, mk, m0, m1, m2⟩ a i c _).mono ?_⟩
    rintro e1 w1 ⟨rfl, hw1⟩
    have HC8 : Hid (CqAt w w1 a c ⟨dl, rs, mk, m0, m1, m2⟩) := by
     rw [hw1]
     have h := HC7.out
     rw [HK.out] at h
     exact h
    have HG8 : Hid (GqAt w1 wr.heap.size a c ⟨dl, rs, mk, m0, m1, m2⟩) := by
     rw [hw1]
     have h := HG7.out
     rw [HK.out] at h
     exact h
    clear hw1 HC7 HG7 HC x0 x1 x2 x3 x4 x5
    have hsz := HC8.out.below.size
    have hrl := HC8.out.res.lt
    gi_wp2_with fail
    refine wpIn_rangeFunc_ownH rfl h1 (gf := 149) (lb := #[.pointer (some ⟨wr.heap.size, 0, none⟩)]) rfl trivial (enters_of Tryz.func149 (by kernel_rfl) rfl)
     (encs := encG) (Kp := KeepC []) (S := fun ys => ys = gapL rs) (Sp := fun pre => pre <+: gapL rs) (N := rs.length) (w0 := w1)
     (fun l J Jx W hW hJab _ hY h0 => gapsq_in (n - 1) (by omega) l wr.heap.size a c ⟨dl, rs, mk, m0, m1, m2⟩ HNO.out J Jx (fun pre A B hj hb => hJab pre A B none hj ⟨hb.os, hb.tape, hb.output, hb.size, fun k hk _ => hb.block k hk⟩ (fun r e => by cases e)) hY W (HG8.out.below hW) h0)
     KeepC.trans (fun W l o o' _ h hc _ => keepC_putObj W l o o' h hc) (Below.refl _ _) (fun _ => rfl)
     (fun pre W => CqAt w W a c ⟨dl, rs, mk, m0, m1, m2⟩ ∧ NoGap pre)
     (fun cd pre W => cd = .ret ∧ Blk W (w.heap.size + 1) 24 #[ZI ZQ 2] ∧ Below w.heap.size w W ∧ SomeGap pre)
     (fun s X Y row hs hg hr => by
      have hk := grown_kC hg (fun r e => (hr r e).2)
      exact ⟨⟨hs.1.gp.keep hk, hk.blk hs.1.res (by simp), grown_low hsz hs.1.below hg (fun r e => (hr r e).1)⟩, hs.2⟩)
     (fun cd s X Y row hs hg hr => ⟨hs.1, (grown_kC hg (fun r e => (hr r e).2)).blk hs.2.1 (by simp), grown_low hsz hs.2.2.1 hg (fun r e => (hr r e).1), hs.2.2.2⟩)
     ⟨HC8.out, fun x hx => by simp at hx⟩
     (fun x a' W => ∃ u0 u1 u3 u4 u6 u7 u8 u9 u10 u11 u12 u13 u14 u15 u16 u17 u18 u19 u20 u21 u22 u23 u24 u25 u26 u27 u28 u29 u30 u31 u32 u33 u34 u35 u36 u37 u38 u39 u40 u41 u42 u43 u44 u45 u46 u47 u48 u49 u50 u51 u52 u53 u54 u55 u56 u57 u58 u59 u60 u61 u62 u63 u64 u65 u66 u67 u68 u69 u70 u71 u72 : Value, a' = { tmps := #[u0, u1, .pointer (some ⟨w.heap.size + 1, 0, none⟩), u3, u4, ZI ZQ x.1, u6, u7, u8, u9, u10, u11, u12, u13, u14, u15, u16, u17, u18, u19, u20, u21, u22, u23, u24, u25, u26, u27, u28, u29, u30, u31, u32, u33, u34, u35, u36, u37, u38, u39, u40, u41, u42, u43, u44, u45, u46, u47, u48, u49, u50, u51, u52, u53, u54, u55, u56, u57, u58, u59, u60, u61, u62, u63, u64, u65, u66, u67, u68, u69, u70, u71, u72], defers := [] })
     (fun x a' _ X Y row hs hg hr => hs)
     ?assign ?body ?done ?stop
    case assign =>
     rintro l pre x W K' ⟨hI, HNG⟩ hK'
     have HI := hide hI
     clear hI
     unfold encG
     gi_wp2
     exact hK' _ _ (KeepsFrom.refl _ _) (KeepC.refl _ _) ⟨HI.out, HNG⟩ ⟨_, _, _, _, _, _, _, _, _, _, _, _, _, _, _, _, _, _, _, _, _, _, _, _, _, _, _, _, _, _, _, _, _, _, _, _, _, _, _, _, _, _, _, _, _, _, _, _, _, _, _, _, _, _, _, _, _, _, _, _, _, _, _, _, _, _, _, _, _, _, _, rfl⟩
    case body =>
     rintro l pre x a' W hl ⟨r, hr⟩ ⟨hI, HNG⟩ ⟨u0, u1, u3, u4, u6, u7, u8, u9, u10, u11, u12, u13, u14, u15, u16, u17, u18, u19, u20, u21, u22, u23, u24, u25, u26, u27, u28, u29, u30, u31, u32, u33, u34, u35, u36, u37, u38, u39, u40, u41, u42, u43, u44, u45, u46, u47, u48, u49, u50, u51, u52, u53, u54, u55, u56, u57, u58, u59, u60, u61, u62, u63, u64, u65, u66, u67, u68, u69, u70, u71, u72, rfl⟩ hlt
     have r0 : W.cell? ⟨w.heap.size + 1, 0, none⟩ = some (ZI ZQ 0) := hI.res.cell 0
     have f0 := hI.res.frozen 0
     have HI := hide hI
     clear hI
     by_cases hneg : x.1 < 0
     ·gi_wp2
      exact ⟨(KeepsOthers.setCell _ _ _).from _, rfl, (HI.out.res.set 0 (ZI ZQ 2)).eq rfl, HI.out.below.setCell (p := ⟨w.heap.size + 1, 0, none⟩) (by simp) _, ⟨x, by simp, hneg⟩⟩
     ·gi_wp2
      refine ⟨KeepsFrom.refl _ _, KeepC.refl _ _, HI.out, fun y hy => ?_⟩
      rcases List.mem_append.1 hy with hy | hy
      ·exact HNG y hy
      ·simp at hy
       subst hy
       omega
    case done =>
     rintro D ys W hD rfl ⟨hI, HNG⟩ hDK
     have HTT : Hid (okTake rs rs.length = true) := gapL_good HNA.out HNG
     obtain ⟨x0, x1, x2, x3, x4, x5⟩ := hI.six
     dsimp only at x0 x1 x2 x3 x4 x5
     have r0 : W.cell? ⟨w.heap.size + 1, 0, none⟩ = some (ZI ZQ 0) := hI.res.cell 0
     have f0 := hI.res.frozen 0
     have r1 := setCell_same hI.res
     have HRES := hide ((keepC_putObj (S := []) W D _ (.deferred none) hDK rfl).blk hI.res (by simp))
     have HBL := hide (hI.below.trans (belowK_b (w := w) (Nat.le_refl _) W D _ (.deferred none) (by have := hI.below.size; omega) hDK rfl rfl))
     have hDK2 : (W.setCell ⟨w.heap.size + 1, 0, none⟩ (ZI ZQ 2)).heap[D]? = some (.deferred (some [])) := (Below.heap_setCell W ⟨w.heap.size + 1, 0, none⟩ (ZI ZQ 2) D (by intro e; simp only at e; omega)).trans hDK
     have HRES2 := hide ((keepC_putObj (S := []) (W.setCell ⟨w.heap.size + 1, 0, none⟩ (ZI ZQ 2)) D _ (.deferred none) hDK2 rfl).blk ((hI.res.set 0 (ZI ZQ 2)).eq (cs' := #[ZI ZQ 2]) rfl) (by simp))
     have HBL2 := hide ((early_two hI).2.trans (belowK_b (w := w) (Nat.le_refl _) (W.setCell ⟨w.heap.size + 1, 0, none⟩ (ZI ZQ 2)) D _ (.deferred none) (by have := hI.below.size; omega) hDK2 rfl rfl))
     clear hI
     gi_wp2_with fail
     gi_loopg [57] 3 (fun kx s57 wl => ∃ j : Nat, s57 = ZI ZQ j ∧ j ≤ 3 ∧ 3 - j ≤ kx ∧ wl = W ∧ Hid ((0 < j → markB mk m0 = true) ∧ (1 < j → markB mk m1 = true) ∧ (2 < j → markB mk m2 = true)))
     case atStart => exact ⟨0, rfl, by omega, by omega, rfl, fun h => by omega, fun h => by omega, fun h => by omega⟩
     case round =>
      obtain ⟨j, rfl, hj, hkx, hwl, HMS⟩ := hrel
      subst hwl
      have hj4 : j = 0 ∨ j = 1 ∨ j = 2 ∨ j = 3 := by omega
      rcases hj4 with rfl | rfl | rfl | rfl
      ·have hix := fun V : World => idx3_q V m0 m1 m2 m0 0 (by omega) rfl
       simp only [Int.natCast_zero] at *
       have HIX : Hid (∀ V : World, _) := hide hix
       clear hix
       cases hn : isT m0 with
       | false =>
        gi_wp2_with fail
        rw [HIX.out]
        simp only [Result.andThen]
        gi_wp2_with fail
        refine ⟨trivial, (isnumber_q m0 _ _).mono ?_⟩
        rintro e9 w9 ⟨rfl, rfl⟩
        rw [hn]
        gi_wp2_with fail
        refine ⟨by simp, .inl ⟨_, _, rfl, run_takeDeferred hDK2, ?_⟩⟩
        exact ⟨_, chkq_results 2 (HRES2.out.cell 0) _ rfl, by rw [HBAD.out (HM0.out (by unfold markB; rw [hn]; rfl))], HBL2.out⟩
       | true =>
        have hb := isT_iff.1 hn
        by_cases hp : 0 < m0
        ·cases mk with
         | false =>
          gi_wp2_with fail
          rw [HIX.out]
          simp only [Result.andThen]
          gi_wp2_with fail
          refine ⟨trivial, (isnumber_q m0 _ _).mono ?_⟩
          rintro e9 w9 ⟨rfl, rfl⟩
          rw [hn]
          gi_wp2_with fail
          refine ⟨by simp, .inl ⟨_, _, rfl, run_takeDeferred hDK2, ?_⟩⟩
          exact ⟨_, chkq_results 2 (HRES2.out.cell 0) _ rfl, by rw [HBAD.out (HM0.out (by unfold markB; rw [hn, decide_eq_false (by omega)]; rfl))], HBL2.out⟩
         | true =>
          gi_wp2_with fail
          rw [HIX.out]
          simp only [Result.andThen]
          gi_wp2_with fail
          refine ⟨trivial, (isnumber_q m0 _ _).mono ?_⟩
          rintro e9 w9 ⟨rfl, rfl⟩
          rw [hn]
          gi_wp2_with fail
          go_roundg 2
          case rel => exact ⟨1, by go_num, by omega, by omega, rfl, fun _ => by unfold markB; rw [hn]; rfl, fun h => by omega, fun h => by omega⟩
          case measure => omega
        ·gi_wp2_with fail
         rw [HIX.out]
         simp only [Result.andThen]
         gi_wp2_with fail
         refine ⟨trivial, (isnumber_q m0 _ _).mono ?_⟩
         rintro e9 w9 ⟨rfl, rfl⟩
         rw [hn]
         gi_wp2_with fail
         go_roundg 2
         case rel => exact ⟨1, by go_num, by omega, by omega, rfl, fun _ => by unfold markB; rw [hn, decide_eq_true (by omega)]; simp, fun h => by omega, fun h => by omega⟩
         case measure => omega
      ·have hix := fun V : World => idx3_q V m0 m1 m2 m1 1 (by omega) rfl
       simp only [Int.natCast_one] at *
       have HIX : Hid (∀ V : World, _) := hide hix
       clear hix
       cases hn : isT m1 with
       | false =>
        gi_wp2_with fail
        rw [HIX.out]
        simp only [Result.andThen]
        gi_wp2_with fail
        refine ⟨trivial, (isnumber_q m1 _ _).mono ?_⟩
        rintro e9 w9 ⟨rfl, rfl⟩
        rw [hn]
        gi_wp2_with fail
        refine ⟨by simp, .inl ⟨_, _, rfl, run_takeDeferred hDK2, ?_⟩⟩
        exact ⟨_, chkq_results 2 (HRES2.out.cell 0) _ rfl, by rw [HBAD.out (HM1.out (by unfold markB; rw [hn]; rfl))], HBL2.out⟩
       | true =>
        have hb := isT_iff.1 hn
        by_cases hp : 0 < m1
        ·cases mk with
         | false =>
          gi_wp2_with fail
          rw [HIX.out]
          simp only [Result.andThen]
          gi_wp2_with fail
          refine ⟨trivial, (isnumber_q m1 _ _).mono ?_⟩
          rintro e9 w9 ⟨rfl, rfl⟩
          rw [hn]
          gi_wp2_with fail
          refine ⟨by simp, .inl ⟨_, _, rfl, run_takeDeferred hDK2, ?_⟩⟩
          exact ⟨_, chkq_results 2 (HRES2.out.cell 0) _ rfl, by rw [HBAD.out (HM1.out (by unfold markB; rw [hn, decide_eq_false (by omega)]; rfl))], HBL2.out⟩
         | true =>
          gi_wp2_with fail
          rw [HIX.out]
          simp only [Result.andThen]
          gi_wp2_with fail
          refine ⟨trivial, (isnumber_q m1 _ _).mono ?_⟩
          rintro e9 w9 ⟨rfl, rfl⟩
          rw [hn]
          gi_wp2_with fail
          go_roundg 1
          case rel => exact ⟨2, by go_num, by omega, by omega, rfl, fun _ => HMS.out.1 (by omega), fun _ => by unfold markB; rw [hn]; rfl, fun h => by omega⟩
          case measure => omega
        ·gi_wp2_with fail
         rw [HIX.out]
         simp only [Result.andThen]
         gi_wp2_with fail
         refine ⟨trivial, (isnumber_q m1 _ _).mono ?_⟩
         rintro e9 w9 ⟨rfl, rfl⟩
         rw [hn]
         gi_wp2_with fail
         go_roundg 1
         case rel => exact ⟨2, by go_num, by omega, by omega, rfl, fun _ => HMS.out.1 (by omega), fun _ => by unfold markB; rw [hn, decide_eq_true (by omega)]; simp, fun h => by omega⟩
         case measure => omega
      ·have hix := fun V : World => idx3_q V m0 m1 m2 m2 2 (by omega) rfl
       simp only [show ((2 : Nat) : Int) = 2 from rfl] at *
       have HIX : Hid (∀ V : World, _) := hide hix
       clear hix
       cases hn : isT m2 with
       | false =>
        gi_wp2_with fail
        rw [HIX.out]
        simp only [Result.andThen]
        gi_wp2_with fail
        refine ⟨trivial, (isnumber_q m2 _ _).mono ?_⟩
        rintro e9 w9 ⟨rfl, rfl⟩
        rw [hn]
        gi_wp2_with fail
        refine ⟨by simp, .inl ⟨_, _, rfl, run_takeDeferred hDK2, ?_⟩⟩
        exact ⟨_, chkq_results 2 (HRES2.out.cell 0) _ rfl, by rw [HBAD.out (HM2.out (by unfold markB; rw [hn]; rfl))], HBL2.out⟩
       | true =>
        have hb := isT_iff.1 hn
        by_cases hp : 0 < m2
        ·cases mk with
         | false =>
          gi_wp2_with fail
          rw [HIX.out]
          simp only [Result.andThen]
          gi_wp2_with fail
          refine ⟨trivial, (isnumber_q m2 _ _).mono ?_⟩
          rintro e9 w9 ⟨rfl, rfl⟩
          rw [hn]
          gi_wp2_with fail
          refine ⟨by simp, .inl ⟨_, _, rfl, run_takeDeferred hDK2, ?_⟩⟩
          exact ⟨_, chkq_results 2 (HRES2.out.cell 0) _ rfl, by rw [HBAD.out (HM2.out (by unfold markB; rw [hn, decide_eq_false (by omega)]; rfl))], HBL2.out⟩
         | true =>
          gi_wp2_with fail
          rw [HIX.out]
          simp only [Result.andThen]
          gi_wp2_with fail
          refine ⟨trivial, (isnumber_q m2 _ _).mono ?_⟩
          rintro e9 w9 ⟨rfl, rfl⟩
          rw [hn]
          gi_wp2_with fail
          go_roundg 0
          case rel => exact ⟨3, by go_num, by omega, by omega, rfl, fun _ => HMS.out.1 (by omega), fun _ => HMS.out.2.1 (by omega), fun _ => by unfold markB; rw [hn]; rfl⟩
          case measure => omega
        ·gi_wp2_with fail
         rw [HIX.out]
         simp only [Result.andThen]
         gi_wp2_with fail
         refine ⟨trivial, (isnumber_q m2 _ _).mono ?_⟩
         rintro e9 w9 ⟨rfl, rfl⟩
         rw [hn]
         gi_wp2_with fail
         go_roundg 0
         case rel => exact ⟨3, by go_num, by omega, by omega, rfl, fun _ => HMS.out.1 (by omega), fun _ => HMS.out.2.1 (by omega), fun _ => by unfold markB; rw [hn, decide_eq_true (by omega)]; simp⟩
         case measure => omega
      ·simp only [show ((3 : Nat) : Int) = 3 from rfl] at *
       gi_wp2_with fail
       refine ⟨by simp, .inl ⟨_, _, rfl, run_takeDeferred hDK, ?_⟩⟩
       exact ⟨_, chkq_results 0 (HRES.out.cell 0) _ rfl, by rw [HGOOD.out (HOK.out (by rw [HK.out]; omega) (by rw [HK.out]; omega) hd HTT.out (HMS.out.1 (by omega)) (HMS.out.2.1 (by omega)) (HMS.out.2.2 (by omega)))], HBL.out⟩
    case stop =>
     rintro D cd pre W hD hpre ⟨rfl, hres, hbl, x, hx, hneg⟩ hDK
     have HB2 := hide (HBAD.out (HTO.out (gapL_bad (hpre.subset hx) hneg)))
     gi_wp2
     refine ⟨by simp, .inl ⟨_, _, rfl, run_takeDeferred hDK, ?_⟩⟩
     exact ⟨_, chkq_results 2 (((keepC_putObj (S := []) W D _ (.deferred none) hDK rfl).blk hres (by simp)).cell 0) _ rfl, by rw [HB2.out], hbl.trans (belowK_b (w := w) (Nat.le_refl _) W D _ (.deferred none) (by omega) hDK rfl rfl)⟩
theorem checkq_any (ak : AK) (a : Option Addr) (c : Nat) (w : World) (hR : RgAt w a ak.rs) :
  Calls Tryz.prog 57 #[.agg (akC ak a ak.rs.length c)] w fun e W' => e = .returned (ZI ZQ (ckA ak)) ∧ Below w.heap.size w W' := callsIn_wide.1 (checkq_in 4 (Nat.le_refl _) a c ak w hR)
end Go.Proofs.YtgicljeedegncaaGreat
