/-
  Layer 5 (package frame): Check of an ACK that may be. Printed by wip/genfc.py.
-/
import Derived.Test.YtgicljeedegncaaGreatFrameGaps
namespace Go.Proofs.YtgicljeedegncaaGreat
set_option linter.unusedSimpArgs false
set_option linter.unusedVariables false
open Go.RowKit Go.Shelf
attribute [local go_sem] Oper.semAt_some

theorem frame_gaps_in (n : Nat) (a : Option Addr) (k c : Nat) (w : World) : CallsIn Fence.wide n Tryz.prog 101 #[.agg (ackC a k c)] w fun e w' => e = .returned (.func (.func 149) #[] #[.pointer (some ⟨w.heap.size, 0, none⟩)]) ∧ w' = w.alloc (.cells (ackC a k c) 52) := by
  unfold ackC
  refine callsIn_of_wp Tryz.func101 rfl trivial ?_ rfl
  simp only [Tryz.ntmps101, List.size_toArray, List.length_cons, List.length_nil, Nat.reduceAdd, Nat.reduceSub, Array.replicate_succ, Array.replicate_zero, List.push_toArray, List.append_toArray, List.nil_append, List.cons_append]
  gi_wp2
  go_ret
  exact ⟨rfl, rfl⟩
structure CkAt (w W : World) (a : Option Addr) (c : Nat) (rs : List Rg) : Prop where
  gp : GpAt W w.heap.size a c rs
  res : Blk W (w.heap.size + 1) 24 #[.int .i64 0]
  below : Below w.heap.size w W
theorem CkAt.later {w W W' : World} {a : Option Addr} {c : Nat} {rs : List Rg} (h : CkAt w W a c rs) (hb : Below W.heap.size W W') : CkAt w W' a c rs := ⟨h.gp.below hb, (hb.block _ h.res.lt).trans h.res, bw_below' h.below hb⟩
theorem CkAt.six {w W : World} {a : Option Addr} {c : Nat} {rs : List Rg} (h : CkAt w W a c rs) : W.cell? ⟨w.heap.size, 0, none⟩ = some (.int .i64 0) ∧ W.cell? ⟨w.heap.size, 1, none⟩ = some (.slice a rs.length c) ∧ W.cell? ⟨w.heap.size, 2, none⟩ = some (.bool false) ∧ W.cell? ⟨w.heap.size, 3, none⟩ = some (.int .i64 0) ∧ W.cell? ⟨w.heap.size, 4, none⟩ = some (.int .i64 0) ∧ W.cell? ⟨w.heap.size, 5, none⟩ = some (.int .i64 0) := ⟨h.gp.box.cell 0, h.gp.box.cell 1, h.gp.box.cell 2, h.gp.box.cell 3, h.gp.box.cell 4, h.gp.box.cell 5⟩
theorem num_true {n : Int} (h0 : 0 ≤ n) (h1 : n ≤ 9007199254740991) : (decide (0 ≤ n) && decide (n ≤ 9007199254740991)) = true := by simp [h0, h1]
theorem isnumber_yes (n : Int) (m : Nat) (w : World) (h0 : 0 ≤ n) (h1 : n ≤ 9007199254740991) : CallsIn Fence.wide m Tryz.prog 100 #[.int .i64 n] w fun e w' => e = .returned (.bool true) ∧ w = w' :=
  callsIn_wide.2 ((isnumber_any n w).mono fun e w' ⟨h, hw⟩ => ⟨by rw [h, num_true h0 h1], hw⟩)

theorem part_i64 (xs : Array Value) (o : Nat) (n : Int) (h : xs[o]? = some (.int .i64 n)) (W : World) : (part 3 xs o).run Tryz.prog W = .ok (.int .i64 n) W := by
  simp [part, go_sem, h]
theorem idx3_zero (W : World) (j : Nat) (h : j < 3) : (Instr.index 33 (.agg #[.int .i64 0, .int .i64 0, .int .i64 0]) (.int .i64 (j : Int))).run Tryz.prog W = .ok (.int .i64 0) W := by
  have hu : Tryz.prog.underlying 33 = some (.array 3 3) := by kernel_rfl
  have h0 : (0 : Int) ≤ j ∧ (j : Int) < 3 := by omega
  have hs : (sizeOf 3).run Tryz.prog W = .ok 1 W := by
    simp [sizeOf, go_sem]
    rfl
  have hp : (part 3 #[.int .i64 0, .int .i64 0, .int .i64 0] j).run Tryz.prog W = .ok (.int .i64 0) W := part_i64 _ j 0 (by
    match j, h with
    | 0, _ => rfl
    | 1, _ => rfl
    | 2, _ => rfl) W
  simp [Instr.index, run_underlying hu, asIntOf, h0, Sem.run_bind, hs, hp]
  exact fun h3 => absurd h3 (by omega)
theorem grown_kC {X Y : World} {row : Option Nat} (hg : X.grownBy Y row) (hr : ∀ r, row = some r → ∃ o : Obj, X.heap[r]? = some o ∧ o.isCells = false) : KeepC [] X Y := by
  refine ⟨hg.size, fun k o hk ho _ => (hg.block k (Array.getElem?_eq_some_iff.1 hk).1 (fun e => ?_)).trans hk⟩
  obtain ⟨o', h1, h2⟩ := hr k e.symm
  rw [hk] at h1
  cases h1
  rw [ho] at h2
  cases h2
theorem setCell_same {W : World} {k t : Nat} {v : Value} (h : Blk W k t #[v]) : W.setCell ⟨k, 0, none⟩ v = W := by
  have e : (W.setCell ⟨k, 0, none⟩ v).heap = W.heap := by
    apply Array.ext_getElem?
    intro i
    by_cases hi : k = i
    · subst hi
      exact (h.set 0 v).trans h.symm
    · exact Below.heap_setCell W ⟨k, 0, none⟩ v i (fun e => hi e.symm)
  unfold World.setCell at *
  rw [show W = { heap := W.heap, tape := W.tape, drawn := W.drawn, os := W.os, output := W.output } from rfl]
  simp only at e ⊢
  rw [e]
theorem chk_results {W : World} {B : Nat} (c0 : W.cell? ⟨B, 0, none⟩ = some (.int .i64 0)) (tmps : Array Value) (h2 : tmps.getD 2 undef = .pointer (some ⟨B, 0, none⟩)) :
    (results Tryz.f57 tmps).run Tryz.prog W = .ok (.int .i64 0) W := by
  simp only [Array.getD_eq_getD_getElem?] at h2
  simp [results, Tryz.f57, go_sem, h2, c0]

set_option maxRecDepth 100000 in
set_option maxHeartbeats 8000000 in
theorem check_in (n : Nat) (hn : 4 ≤ n) (a : Option Addr) (c : Nat) (rs : List Rg) (w : World) (hok : AckOk rs) (hR : RgAt w a rs) :
    CallsIn Fence.wide n Tryz.prog 57 #[.agg (ackC a rs.length c)] w fun e W' => e = .returned (.int .i64 0) ∧ Below w.heap.size w W' := by
  have h1 : 1 ≤ n := by omega
  refine callsIn_of_wp_marks Tryz.func57 rfl trivial ?_ rfl
  simp only [Tryz.ntmps57, List.size_toArray, List.length_cons, List.length_nil, Nat.reduceAdd, Nat.reduceSub, Array.replicate_succ, Array.replicate_zero, List.push_toArray, List.append_toArray, List.nil_append, List.cons_append]
  have hb0 : Below w.heap.size w ((w.alloc (.cells (ackC a rs.length c) 52)).alloc (.cells #[.int .i64 0] 24)) := ((Below.refl _ _).alloc (Nat.le_refl _) _).alloc (by simp) _
  have hc0 : CkAt w ((w.alloc (.cells (ackC a rs.length c) 52)).alloc (.cells #[.int .i64 0] 24)) a c rs := by
    refine ⟨⟨(Blk.new _ _ _).alloc _, hR.below hb0⟩, ?_, hb0⟩
    have := Blk.new (w.alloc (.cells (ackC a rs.length c) 52)) 24 #[.int .i64 0]
    rw [World.size_alloc] at this
    exact this
  obtain ⟨x0, x1, x2, x3, x4, x5⟩ := hc0.six
  have hle := hok.le
  have hpos := hok.pos
  have HC := hide hc0
  have HOK := hide hok
  clear hb0 hc0 hR hok
  obtain ⟨K, hK⟩ : ∃ K, rs.length = K := ⟨_, rfl⟩
  have HK := hide hK
  rw [hK] at x0 x1 x2 x3 x4 x5 hle hpos HC ⊢
  clear hK
  unfold ackC at x0 x1 x2 x3 x4 x5 HC ⊢
  have hk1 : ¬ (K : Int) < 1 := by omega
  have hk2 : ¬ (256 : Int) < (K : Int) := by omega
  gi_wp2_with fail
  refine ⟨trivial, (isnumber_yes _ _ _ (by omega) (by omega)).mono ?_⟩
  rintro e1 w1 ⟨rfl, rfl⟩
  gi_wp2_with fail
  gi_loopg [27] K (fun kx s27 wr => ∃ i : Nat, s27 = .int .i64 i ∧ i ≤ K ∧ K - i ≤ kx ∧ CkAt w wr a c rs)
  case atStart => exact ⟨0, rfl, by omega, by omega, HC.out⟩
  case round =>
    clear x0 x1 x2 x3 x4 x5 HC
    obtain ⟨i, rfl, hi, hkx, hC⟩ := hrel
    by_cases hlt : i < K
    · obtain ⟨r, hr⟩ : ∃ r, rs[i]? = some r := ⟨_, List.getElem?_eq_getElem (by rw [HK.out]; exact hlt)⟩
      obtain ⟨o0, o1, o2⟩ := HOK.out.ok r (List.mem_of_getElem? hr)
      obtain ⟨k, rfl, hk, z0, z1⟩ := hC.gp.row i r hr
      have hba : Below wr.heap.size wr (wr.alloc (.cells #[.int .i64 r.lo, .int .i64 r.hi] 93)) := (Below.refl _ _).alloc (Nat.le_refl _) _
      have hx := Blk.new wr 93 #[.int .i64 r.lo, .int .i64 r.hi]
      have y0 : (wr.alloc (.cells #[.int .i64 r.lo, .int .i64 r.hi] 93)).cell? ⟨wr.heap.size, 0, none⟩ = some (.int .i64 r.lo) := hx.cell 0
      have y1 : (wr.alloc (.cells #[.int .i64 r.lo, .int .i64 r.hi] 93)).cell? ⟨wr.heap.size, 1, none⟩ = some (.int .i64 r.hi) := hx.cell 1
      have HC1 := hide (hC.later hba)
      have hin : (i : Int) < (K : Int) := by omega
      have hi0 : (0 : Int) ≤ (i : Int) := by omega
      have hgt : ¬ r.hi < r.lo := by omega
      clear hC hba hx hr
      gi_wp2_with fail
      refine ⟨trivial, (isnumber_yes _ _ _ (by omega) (by omega)).mono ?_⟩
      rintro e1 w1 ⟨rfl, rfl⟩
      gi_wp2_with fail
      refine ⟨trivial, (isnumber_yes _ _ _ (by omega) (by omega)).mono ?_⟩
      rintro e1 w1 ⟨rfl, rfl⟩
      gi_wp2_with fail
      go_roundg (K - (i + 1))
      case rel => exact ⟨i + 1, by go_num, by omega, by omega, HC1.out⟩
      case measure => omega
    · obtain rfl : i = K := by omega
      have hin : ¬ (i : Int) < (i : Int) := by omega
      obtain ⟨x0, x1, x2, x3, x4, x5⟩ := hC.six
      have hC7 := hC.later ((Below.refl _ _).alloc (Nat.le_refl _) (.cells (ackC a rs.length c) 52))
      have hG7 : GpAt (wr.alloc (.cells (ackC a rs.length c) 52)) wr.heap.size a c rs := ⟨Blk.new _ _ _, (hC.gp.row).below ((Below.refl _ _).alloc (Nat.le_refl _) _)⟩
      rw [HK.out] at x1
      have HC := hide hC
      have HC7 := hide hC7
      have HG7 := hide hG7
      clear hC hC7 hG7
      gi_wp2_with fail
      refine ⟨trivial, (frame_gaps_in _ a i c _).mono ?_⟩
      rintro e1 w1 ⟨rfl, hw1⟩
      have HC8 : Hid (CkAt w w1 a c rs) := by
        rw [hw1]
        have h := HC7.out
        rw [HK.out] at h
        exact h
      have HG8 : Hid (GpAt w1 wr.heap.size a c rs) := by
        rw [hw1]
        have h := HG7.out
        rw [HK.out] at h
        exact h
      clear hw1 HC7 HG7 HC x0 x1 x2 x3 x4 x5
      have hsz := HC8.out.below.size
      gi_wp2_with fail
      refine wpIn_rangeFunc_ownH rfl h1 (gf := 149) (lb := #[.pointer (some ⟨wr.heap.size, 0, none⟩)]) rfl trivial (enters_of Tryz.func149 (by kernel_rfl) rfl)
        (encs := encG) (Kp := KeepC []) (S := fun ys => ys = gapL rs) (Sp := fun pre => pre <+: gapL rs) (N := rs.length) (w0 := w1)
        (fun l J Jx W hW hJab _ hY h0 => gaps1_in (n - 1) (by omega) l wr.heap.size a c rs HOK.out J Jx (fun pre A B hj hb => hJab pre A B none hj ⟨hb.os, hb.tape, hb.output, hb.size, fun k hk _ => hb.block k hk⟩ (fun r e => by cases e)) hY W (HG8.out.below hW) h0)
        KeepC.trans (fun W l o o' _ h hc _ => keepC_putObj W l o o' h hc) (Below.refl _ _) (fun _ => rfl)
        (fun pre W => CkAt w W a c rs)
        (fun _ pre _ => ∃ x ∈ pre, x.1 < 0)
        (fun s X Y row hs hg hr => by
          have hk := grown_kC hg (fun r e => (hr r e).2)
          exact ⟨hs.gp.keep hk, hk.blk hs.res (by simp), ⟨hg.os.trans hs.below.os, hg.tape.trans hs.below.tape, hg.output.trans hs.below.output, Nat.le_trans hs.below.size hg.size, fun k hkk => (hg.block k (by have := hs.below.size; omega) (fun e => by have := (hr k e.symm).1; omega)).trans (hs.below.block k hkk)⟩⟩)
        (fun _ _ _ _ _ hs _ _ => hs)
        HC8.out
        (fun x a' W => ∃ u0 u1 u3 u4 u6 u7 u8 u9 u10 u11 u12 u13 u14 u15 u16 u17 u18 u19 u20 u21 u22 u23 u24 u25 u26 u27 u28 u29 u30 u31 u32 u33 u34 u35 u36 u37 u38 u39 u40 u41 u42 u43 u44 u45 u46 u47 u48 u49 u50 u51 u52 u53 u54 u55 u56 u57 u58 u59 u60 u61 u62 u63 u64 u65 u66 u67 u68 u69 u70 u71 u72 : Value, a' = { tmps := #[u0, u1, .pointer (some ⟨w.heap.size + 1, 0, none⟩), u3, u4, .int .i64 x.1, u6, u7, u8, u9, u10, u11, u12, u13, u14, u15, u16, u17, u18, u19, u20, u21, u22, u23, u24, u25, u26, u27, u28, u29, u30, u31, u32, u33, u34, u35, u36, u37, u38, u39, u40, u41, u42, u43, u44, u45, u46, u47, u48, u49, u50, u51, u52, u53, u54, u55, u56, u57, u58, u59, u60, u61, u62, u63, u64, u65, u66, u67, u68, u69, u70, u71, u72], defers := [] })
        (fun x a' _ X Y row hs hg hr => hs)
        ?assign ?body ?done ?stop
      case assign =>
        rintro l pre x W K hI hK
        have HI := hide hI
        clear hI
        unfold encG
        gi_wp2
        exact hK _ _ (KeepsFrom.refl _ _) (KeepC.refl _ _) HI.out ⟨_, _, _, _, _, _, _, _, _, _, _, _, _, _, _, _, _, _, _, _, _, _, _, _, _, _, _, _, _, _, _, _, _, _, _, _, _, _, _, _, _, _, _, _, _, _, _, _, _, _, _, _, _, _, _, _, _, _, _, _, _, _, _, _, _, _, _, _, _, _, _, rfl⟩
      case body =>
        rintro l pre x a' W hl ⟨r, hr⟩ hI ⟨u0, u1, u3, u4, u6, u7, u8, u9, u10, u11, u12, u13, u14, u15, u16, u17, u18, u19, u20, u21, u22, u23, u24, u25, u26, u27, u28, u29, u30, u31, u32, u33, u34, u35, u36, u37, u38, u39, u40, u41, u42, u43, u44, u45, u46, u47, u48, u49, u50, u51, u52, u53, u54, u55, u56, u57, u58, u59, u60, u61, u62, u63, u64, u65, u66, u67, u68, u69, u70, u71, u72, rfl⟩ hlt
        have r0 : W.cell? ⟨w.heap.size + 1, 0, none⟩ = some (.int .i64 0) := hI.res.cell 0
        have f0 := hI.res.frozen 0
        have HI := hide hI
        clear hI
        by_cases hneg : x.1 < 0
        · gi_wp2
          exact ⟨(KeepsOthers.setCell _ _ _).from _, x, by simp, hneg⟩
        · gi_wp2
          exact ⟨KeepsFrom.refl _ _, KeepC.refl _ _, HI.out⟩
      case done =>
        rintro D ys W hD rfl hI hDK
        obtain ⟨x0, x1, x2, x3, x4, x5⟩ := hI.six
        have r0 : W.cell? ⟨w.heap.size + 1, 0, none⟩ = some (.int .i64 0) := hI.res.cell 0
        have f0 := hI.res.frozen 0
        have r1 := setCell_same hI.res
        have HRES := hide ((keepC_putObj (S := []) W D _ (.deferred none) hDK rfl).blk hI.res (by simp))
        have HBL := hide (hI.below.trans (belowK_b (w := w) (Nat.le_refl _) W D _ (.deferred none) (by have := hI.below.size; omega) hDK rfl rfl))
        clear hI
        gi_wp2_with fail
        gi_loopg [57] 3 (fun kx s57 wl => ∃ j : Nat, s57 = .int .i64 j ∧ j ≤ 3 ∧ 3 - j ≤ kx ∧ wl = W)
        case atStart => exact ⟨0, rfl, by omega, by omega, rfl⟩
        case round =>
          obtain ⟨j, rfl, hj, hkx, hwl⟩ := hrel
          subst hwl
          have hj4 : j = 0 ∨ j = 1 ∨ j = 2 ∨ j = 3 := by omega
          rcases hj4 with rfl | rfl | rfl | rfl
          · have hix := fun V : World => idx3_zero V 0 (by omega)
            simp only [Int.natCast_zero] at *
            have HIX : Hid (∀ V : World, _) := hide hix
            clear hix
            gi_wp2_with fail
            rw [HIX.out]
            simp only [Result.andThen]
            gi_wp2_with fail
            refine ⟨trivial, (isnumber_yes _ _ _ (by omega) (by omega)).mono ?_⟩
            rintro e1 w1 ⟨rfl, rfl⟩
            gi_wp2_with fail
            go_roundg 2
            case rel => exact ⟨1, by go_num, by omega, by omega, rfl⟩
            case measure => omega
          · have hix := fun V : World => idx3_zero V 1 (by omega)
            simp only [Int.natCast_one] at *
            have HIX : Hid (∀ V : World, _) := hide hix
            clear hix
            gi_wp2_with fail
            rw [HIX.out]
            simp only [Result.andThen]
            gi_wp2_with fail
            refine ⟨trivial, (isnumber_yes _ _ _ (by omega) (by omega)).mono ?_⟩
            rintro e1 w1 ⟨rfl, rfl⟩
            gi_wp2_with fail
            go_roundg 1
            case rel => exact ⟨2, by go_num, by omega, by omega, rfl⟩
            case measure => omega
          · have hix := fun V : World => idx3_zero V 2 (by omega)
            simp only [show ((2 : Nat) : Int) = 2 from rfl] at *
            have HIX : Hid (∀ V : World, _) := hide hix
            clear hix
            gi_wp2_with fail
            rw [HIX.out]
            simp only [Result.andThen]
            gi_wp2_with fail
            refine ⟨trivial, (isnumber_yes _ _ _ (by omega) (by omega)).mono ?_⟩
            rintro e1 w1 ⟨rfl, rfl⟩
            gi_wp2_with fail
            go_roundg 0
            case rel => exact ⟨3, by go_num, by omega, by omega, rfl⟩
            case measure => omega
          · simp only [show ((3 : Nat) : Int) = 3 from rfl] at *
            gi_wp2_with fail
            refine ⟨by simp, .inl ⟨_, _, rfl, run_takeDeferred hDK, ?_⟩⟩
            exact ⟨_, chk_results (HRES.out.cell 0) _ rfl, rfl, HBL.out⟩
      case stop =>
        rintro D cd pre W _ hpre ⟨x, hx, hneg⟩ _
        have hm := hpre.subset hx
        unfold gapL at hm
        rw [List.mem_mapIdx] at hm
        obtain ⟨i, hi, rfl⟩ := hm
        have := HOK.out.gap0 i
        dsimp only at hneg
        omega
end Go.Proofs.YtgicljeedegncaaGreat
