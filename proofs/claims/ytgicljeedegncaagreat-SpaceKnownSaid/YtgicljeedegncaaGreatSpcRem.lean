/-
 A space: what is remembered of an ACK (remember). Printed by wip/genspr.py.
-/
import Derived.Test.YtgicljeedegncaaGreatTqFrameHas
namespace Go.Proofs.YtgicljeedegncaaGreat
open List renaming getElem_toArray → ZA, getElem_cons_zero → ZB, getElem_cons_succ → ZC, setIfInBounds_toArray → ZD, set_cons_zero → ZE, set_cons_succ → ZF
open Go.Act renaming put → ZP
open Go.Value renaming int → ZI
open Go.IntKind renaming i64 → ZQ
set_option linter.unusedSimpArgs false
set_option linter.unusedVariables false
open Go.RowKit

theorem RgAt.only {S : List Nat} {w w' : World} {a : Option Addr} {rs : List Rg} (h : RgAt w a rs) (ho : Only S w w') (hS : ∀ k, a = some ⟨k, 0, none⟩ → k ∉ S) : RgAt w' a rs := fun i r hi => by
 obtain ⟨k, e, hk, z0, z1⟩ := h i r hi
 exact ⟨k, e, Nat.lt_of_lt_of_le hk ho.size, (ho.cell (p := ⟨k, i * 2, none⟩) hk (hS k e)).trans z0, (ho.cell (p := ⟨k, i * 2 + 1, none⟩) hk (hS k e)).trans z1⟩
theorem SpPost.drew {w w' : World} {f f' : Ft} {s' : SpSt} (h : SpPost w f s' f' w') : SpPost w f s' f' w'.drew := h.below (Below.refl _ _).drew
/-- What Add, or Cut, of what is remembered leaves. -/
def RemPost (W : World) (f : Ft) (s : SpSt) (e : Ending) (w' : World) : Prop := (∃ z, e = .returned (ZI ZQ z)) ∧ ∃ f2 R2, f2.mb = f.mb ∧ SpPost W f { s with R := R2 } f2 w'
theorem rem_add (f : Ft) (s : SpSt) (lo hi : Int) (W : World) (h : IsSp W f s) (l0 : 0 ≤ lo) (l1 : lo ≤ hi) (l2 : hi ≤ 9007199254740991) :
  Calls Tryz.prog 63 #[.pointer (some ⟨f.mb, 0, none⟩), ZI ZQ lo, ZI ZQ hi] W (RemPost W f s) := by
 by_cases hl : (addR lo hi s.R).length ≤ 256
 ·exact (add_ok _ _ _ _ _ _ _ h.rem l0 l1 l2 hl).mono fun e w' ⟨he, g', h1, h2, h3⟩ => ⟨⟨_, he⟩, { f with mg := g' }, _, rfl, h.turnRem h1 h2 h3⟩
 ·exact (add_limit _ _ _ _ _ _ _ h.rem l0 l1 l2 (by omega)).mono fun e w' ⟨he, hb⟩ => ⟨⟨_, he⟩, f, s.R, rfl, (SpPost.refl h).below hb⟩
theorem rem_cut (f : Ft) (s : SpSt) (n : Int) (W : World) (h : IsSp W f s) (l0 : 0 ≤ n) (l2 : n ≤ 9007199254740991) :
  Calls Tryz.prog 106 #[.pointer (some ⟨f.mb, 0, none⟩), ZI ZQ n] W (RemPost W f s) :=
 (cut_ok _ _ _ _ _ _ h.rem l0 l2).mono fun e w' ⟨he, g', h1, h2, h3⟩ => ⟨⟨_, he⟩, { f with mg := g' }, _, rfl, h.turnRem h1 h2 h3⟩
/-- The state on the way: what is remembered has turned; the ACK, and its box, lie as they lay. -/
structure RmAt (w1 W : World) (f : Ft) (s : SpSt) (f' : Ft) (R' : List Rg) (X : Nat) (a : Option Addr) (c : Nat) (rs : List Rg) : Prop where
 post : SpPost w1 f { s with R := R' } f' W
 box : Blk w1 X 52 (ackC a rs.length c)
 row : RgAt w1 a rs
 nx : X ∉ f.all
 na : ∀ k, a = some ⟨k, 0, none⟩ → k ∉ f.all
section
variable {w1 W W' : World} {f f' f2 : Ft} {s : SpSt} {R' R2 : List Rg} {X c : Nat} {a : Option Addr} {rs : List Rg}
theorem RmAt.later (h : RmAt w1 W f s f' R' X a c rs) (hb : Below W.heap.size W W') : RmAt w1 W' f s f' R' X a c rs := ⟨h.post.below hb, h.box, h.row, h.nx, h.na⟩
theorem RmAt.drew (h : RmAt w1 W f s f' R' X a c rs) : RmAt w1 W.drew f s f' R' X a c rs := h.later (Below.refl _ _).drew
theorem RmAt.step (h : RmAt w1 W f s f' R' X a c rs) (hp : SpPost W f' { s with R := R2 } f2 W') : RmAt w1 W' f s f2 R2 X a c rs := ⟨h.post.trans hp, h.box, h.row, h.nx, h.na⟩
theorem RmAt.boxAt (h : RmAt w1 W f s f' R' X a c rs) : Blk W X 52 (ackC a rs.length c) := h.post.only.blk h.box h.nx
theorem RmAt.rowAt (h : RmAt w1 W f s f' R' X a c rs) : RgAt W a rs := h.row.only h.post.only h.na
theorem RmAt.cells (h : RmAt w1 W f s f' R' X a c rs) : W.cell? ⟨f.b, 0, none⟩ = some (.pointer (some ⟨f'.lb, 0, none⟩)) ∧ W.cell? ⟨f.b, 2, none⟩ = some (.pointer (some ⟨f'.mb, 0, none⟩)) ∧ W.cell? ⟨f.b, 3, none⟩ = some (ZI ZQ s.great) ∧ W.cell? ⟨X, 1, none⟩ = some (.slice a rs.length c) ∧ W.frozen? ⟨f.b, 3, none⟩ = false := by
 have hc := h.post.sp.blk
 rw [h.post.b] at hc
 exact ⟨hc.cell 0, hc.cell 2, hc.cell 3, h.boxAt.cell 1, hc.frozen 3⟩
end
set_option maxRecDepth 100000 in
set_option maxHeartbeats 4000000 in
theorem remember_any (f : Ft) (s : SpSt) (a : Option Addr) (c : Nat) (rs : List Rg) (r0 : Rg) (M : Int) (w : World) (h : IsSp w f s) (hok : AckOk rs) (hr0 : rs[0]? = some r0) (hR : RgAt w a rs) (hna : ∀ k, a = some ⟨k, 0, none⟩ → k ∉ f.all) (hM : (if s.great < r0.hi then r0.hi else s.great) = M) :
  Calls Tryz.prog 59 #[.pointer (some ⟨f.b, 0, none⟩), .agg (ackC a rs.length c)] w fun e w' => e = .returned (.tuple #[]) ∧ ∃ f' R', SpPost w f { s with R := R', great := M } f' w' := by
 have hb0 : Below w.heap.size w (w.alloc (.cells (ackC a rs.length c) 52)) := (Below.refl _ _).alloc (Nat.le_refl _) _
 have h1 : RmAt (w.alloc (.cells (ackC a rs.length c) 52)) (w.alloc (.cells (ackC a rs.length c) 52)) f s f s.R w.heap.size a c rs :=
  ⟨SpPost.refl (h.below hb0), Blk.new _ _ _, hR.below hb0, fun hm => by have := h.lt _ hm; omega, hna⟩
 obtain ⟨y0, y2, y3, x1, f3⟩ := h1.cells
 have hmay := h.log.may
 have hlt := h.lt
 have HR := hide h1
 have HB := hide hb0
 have HOK := hide hok
 have HR0 := hide hr0
 have HMAY := hide hmay
 have HM := hide hM
 clear h hb0 hok hR hna h1 hmay hr0 hM
 obtain ⟨w1, hw1⟩ : ∃ w1, w.alloc (.cells (ackC a rs.length c) 52) = w1 := ⟨_, rfl⟩
 obtain ⟨K, hK⟩ : ∃ K, rs.length = K := ⟨_, rfl⟩
 have HK := hide hK
 rw [hw1] at HR HB y0 y2 y3 x1 f3
 rw [hK] at x1 hw1 ⊢
 have hle : K ≤ 256 := by have := HOK.out.le; omega
 have HW := hide hw1
 unfold ackC at hw1 ⊢
 go_enter Tryz.func59, Tryz.ntmps59
 go_upto_region 1 with (fail)
 clear hw1 hK
 go_wp2_with fail
 cases hps : s.ps with
 | nil =>
  refine (oldest_none _ _ _ _ _ (by rw [← hps]; exact HR.out.post.sp.log)).mono ?_
  rintro e2 w2 ⟨rfl, hb2⟩
  go_wp2_with fail
  have hba := (hb2.alloc hb2.size (.cells #[ZI ZQ 0, ZI ZQ 0, ZI ZQ 0, .bool false, .bool false, .bool false] 40))
  refine (snew_ok 256 _ (by omega) (by omega)).mono ?_
  rintro e3 w3 ⟨mb3, rfl, hs3, hm3, hb3⟩
  have hb13 := bw_below' hba hb3
  have h3 := HR.out.later hb13
  have y2 : w3.cell? ⟨f.b, 2, none⟩ = some (.pointer (some ⟨f.mb, 0, none⟩)) := h3.cells.2.1
  have fz : w3.frozen? ⟨f.b, 2, none⟩ = false := by
   have hc := h3.post.sp.blk
   exact hc.frozen 2
  have x1' := h3.cells.2.2.2.1
  rw [HK.out] at x1'
  have hxf : w.heap.size ≠ f.b := fun e => by have := hlt f.b f.mem_b; omega
  have HP := hide (IsSp.newRem HR.out.post.sp hb13 hs3 (Nat.le_trans hba.size hm3))
  go_wp2_with fail
  have HRm := hide (HR.out.step HP.out)
  clear y0 y2 y3 x1 f3 hb13 hb3 hb2 hba hs3 hm3 h3 fz HP
  go_loopg [34] K (fun kx s34 wr => ∃ (i : Nat) (f5 : Ft) (R5 : List Rg), s34 = ZI ZQ i ∧ i ≤ K ∧ K - i ≤ kx ∧ RmAt w1 wr f s f5 R5 w.heap.size a c rs)
  case atStart => exact ⟨0, _, _, rfl, by omega, by omega, HRm.out⟩
  case round =>
   clear HRm
   obtain ⟨i, f5, R5, rfl, hi, hkx, hR⟩ := hrel
   by_cases hlt : i < K
   ·obtain ⟨r, hr⟩ : ∃ r, rs[i]? = some r := ⟨_, List.getElem?_eq_getElem (by rw [HK.out]; exact hlt)⟩
    obtain ⟨o0, o1, o2⟩ := HOK.out.ok r (List.mem_of_getElem? hr)
    obtain ⟨k, rfl, hk, z0, z1⟩ := hR.rowAt i r hr
    have hx := Blk.new wr 93 #[ZI ZQ r.lo, ZI ZQ r.hi]
    have x7 : (wr.alloc (.cells #[ZI ZQ r.lo, ZI ZQ r.hi] 93)).cell? ⟨wr.heap.size, 0, none⟩ = some (ZI ZQ r.lo) := hx.cell 0
    have x8 : (wr.alloc (.cells #[ZI ZQ r.lo, ZI ZQ r.hi] 93)).cell? ⟨wr.heap.size, 1, none⟩ = some (ZI ZQ r.hi) := hx.cell 1
    have HR5 := hide (hR.later ((Below.refl _ _).alloc (Nat.le_refl _) (.cells #[ZI ZQ r.lo, ZI ZQ r.hi] 93)))
    obtain ⟨_, y2, _, _, _⟩ := HR5.out.cells
    have hin : (i : Int) < (K : Int) := by omega
    have HX7 : Hid (wr.heap.size ∉ f5.all) := fun hm => by have h1 := hR.post.sp.lt _ hm; omega
    clear hR hx hr
    go_wp2_with fail
    refine wp_region_S (fun w' => w'.cell? ⟨f.b, 2, none⟩ = some (.pointer (some ⟨f5.mb, 0, none⟩)) ∧ w'.cell? ⟨wr.heap.size, 0, none⟩ = some (ZI ZQ r.lo) ∧ w'.cell? ⟨wr.heap.size, 1, none⟩ = some (ZI ZQ r.hi)) 1000 (by kernel_rfl) (by exact ⟨y2, x7, x8⟩) (fun hHeld => ?_)
    refine tsP 0 ?_ rfl ?_ ?_
    rotate_left
    ·intro w hSw; (try dsimp only at hSw); go_simp; try with_reducible rfl
    try simp only [ZP, ZA, ZC, ZB, ZD, ZE, ZF]
    refine tsP 1 ?_ rfl ?_ ?_
    rotate_left
    ·intro w hSw; (try dsimp only at hSw); go_simp; try with_reducible rfl
    try simp only [ZP, ZA, ZC, ZB, ZD, ZE, ZF]
    refine tsP 2 ?_ rfl ?_ ?_
    rotate_left
    ·intro w hSw; (try dsimp only at hSw); go_simp; try with_reducible rfl
    try simp only [ZP, ZA, ZC, ZB, ZD, ZE, ZF]
    refine tsP 3 ?_ rfl ?_ ?_
    rotate_left
    ·intro w hSw; (try dsimp only at hSw); go_simp; try with_reducible rfl
    try simp only [ZP, ZA, ZC, ZB, ZD, ZE, ZF]
    refine tsP 4 ?_ rfl ?_ ?_
    rotate_left
    ·intro w hSw; (try dsimp only at hSw); go_simp; try with_reducible rfl
    try simp only [ZP, ZA, ZC, ZB, ZD, ZE, ZF]
    refine tsP 5 ?_ rfl ?_ ?_
    rotate_left
    ·intro w hSw; (try dsimp only at hSw); go_simp; try with_reducible rfl
    try simp only [ZP, ZA, ZC, ZB, ZD, ZE, ZF]
    refine tsP 6 ?_ rfl ?_ ?_
    rotate_left
    ·intro w hSw; (try dsimp only at hSw); go_simp; try with_reducible rfl
    try simp only [ZP, ZA, ZC, ZB, ZD, ZE, ZF]
    refine tsP 7 ?_ rfl ?_ ?_
    rotate_left
    ·intro w hSw; (try dsimp only at hSw); go_simp; try with_reducible rfl
    try simp only [ZP, ZA, ZC, ZB, ZD, ZE, ZF]
    refine wpAnyS_one (i := 8) rfl (by kernel_rfl) (fun K hK => ?_)
    go_simp; go_at_call 63; refine (rem_add f5 { s with R := R5 } r.lo r.hi _ (RmAt.post (by first | exact HR5.out | exact HR5.out.drew)).sp (by omega) (by omega) (by omega)).mono ?_; rintro e6 w6 ⟨⟨z6, rfl⟩, f6, R6, hm6, hp6⟩; have HX6 := hide (And.intro ((hp6.only.cell (p := ⟨wr.heap.size, 0, none⟩) (by simp) HX7.out).trans (by first | exact x7 | exact hHeld.2.1)) ((hp6.only.cell (p := ⟨wr.heap.size, 1, none⟩) (by simp) HX7.out).trans (by first | exact x8 | exact hHeld.2.2))); have HR6 := hide (RmAt.step (s := s) (R' := R5) (f' := f5) (by first | exact HR5.out | exact HR5.out.drew) hp6); clear hp6; have HM6 := hide hm6; clear hm6
    refine hK.out _ _ (fun _ => ⟨(by rw [← HM6.out]; exact HR6.out.cells.2.1), HX6.out.1, HX6.out.2⟩) (fun hH => ?_)
    have hHeld := hH rfl
    clear hK K hH
    try simp only [ZP, ZA, ZC, ZB, ZD, ZE, ZF]
    refine wpAnyS_done (by kernel_rfl) ?_ _
    clear y2 x7 x8 z0 z1 HR5 hHeld HX6 HM6
    go_wp2_with fail
    go_roundg (K - (i + 1))
    case rel => exact ⟨i + 1, f6, R6, by go_num, by omega, by omega, HR6.out⟩
    case measure => omega
   ·obtain rfl : i = K := by omega
    have hin : ¬ (i : Int) < (i : Int) := by omega
    have hposN : 0 < i := by have h1 := HOK.out.pos; have h2 := HK.out; omega
    obtain ⟨k0, hk0, hkl, z0, z1⟩ := hR.rowAt 0 r0 HR0.out
    subst hk0
    obtain ⟨_, _, y3, x1, f3⟩ := hR.cells
    rw [HK.out] at x1
    have HR7 := hide hR
    have hm := HM.out
    clear hR
    go_wp2_with fail
    go_region
    have hfin := HR7.out.post.trans (HR7.out.post.sp.turnOwn (j := 3) (u := ZI ZQ M) (great := M) (loss := s.loss) (time := s.time) rfl)
    rw [HR7.out.post.b] at hfin
    rw [hps] at hfin
    go_wp2_with fail
    go_end0
    first
    | exact ⟨rfl, _, _, SpPost.ahead HB.out hfin⟩
    | exact ⟨rfl, _, _, SpPost.ahead HB.out hfin.drew⟩
 | cons p t =>
  have hpn := pk_may_num (HMAY.out p (by rw [hps]; simp))
  refine (oldest_is _ _ _ _ p t _ (by rw [← hps]; exact HR.out.post.sp.log)).mono ?_
  rintro e2 w2 ⟨rfl, hb2⟩
  have hr2 := HR.out.later hb2
  have HR3 := hide (hr2.later ((Below.refl _ _).alloc (Nat.le_refl _) (.cells #[ZI ZQ p.num, ZI ZQ p.time, ZI ZQ p.size, .bool p.el, .bool p.fl, .bool p.ect] 40)))
  have x6 : (w2.alloc (.cells #[ZI ZQ p.num, ZI ZQ p.time, ZI ZQ p.size, .bool p.el, .bool p.fl, .bool p.ect] 40)).cell? ⟨w2.heap.size, 0, none⟩ = some (ZI ZQ p.num) := Blk.cell (g := w2.heap.size) (Blk.new w2 40 _) 0
  obtain ⟨_, y2', _, _, _⟩ := HR3.out.cells
  have HX2 : Hid (w2.heap.size ∉ f.all) := fun hm => by have h1 := hlt _ hm; have h2 := HB.out.size; have h3 := hb2.size; omega
  clear hb2 hr2
  go_wp2_with fail
  refine wp_region_S (fun w' => w'.cell? ⟨f.b, 2, none⟩ = some (.pointer (some ⟨f.mb, 0, none⟩)) ∧ w'.cell? ⟨w2.heap.size, 0, none⟩ = some (ZI ZQ p.num)) 1000 (by kernel_rfl) (by exact ⟨y2', x6⟩) (fun hHeld => ?_)
  refine tsP 0 ?_ rfl ?_ ?_
  rotate_left
  ·intro w hSw; (try dsimp only at hSw); go_simp; try with_reducible rfl
  try simp only [ZP, ZA, ZC, ZB, ZD, ZE, ZF]
  refine tsP 1 ?_ rfl ?_ ?_
  rotate_left
  ·intro w hSw; (try dsimp only at hSw); go_simp; try with_reducible rfl
  try simp only [ZP, ZA, ZC, ZB, ZD, ZE, ZF]
  refine tsP 2 ?_ rfl ?_ ?_
  rotate_left
  ·intro w hSw; (try dsimp only at hSw); go_simp; try with_reducible rfl
  try simp only [ZP, ZA, ZC, ZB, ZD, ZE, ZF]
  refine tsP 3 ?_ rfl ?_ ?_
  rotate_left
  ·intro w hSw; (try dsimp only at hSw); go_simp; try with_reducible rfl
  try simp only [ZP, ZA, ZC, ZB, ZD, ZE, ZF]
  refine tsP 4 ?_ rfl ?_ ?_
  rotate_left
  ·intro w hSw; (try dsimp only at hSw); go_simp; try with_reducible rfl
  try simp only [ZP, ZA, ZC, ZB, ZD, ZE, ZF]
  refine tsP 5 ?_ rfl ?_ ?_
  rotate_left
  ·intro w hSw; (try dsimp only at hSw); go_simp; try with_reducible rfl
  try simp only [ZP, ZA, ZC, ZB, ZD, ZE, ZF]
  refine wpAnyS_one (i := 6) rfl (by kernel_rfl) (fun K hK => ?_)
  go_simp; go_at_call 106; refine (rem_cut f { s with R := s.R } p.num _ (RmAt.post (by first | exact HR3.out | exact HR3.out.drew)).sp hpn.1 hpn.2).mono ?_; rintro e4 w4 ⟨⟨z, rfl⟩, f4, R4, hm4, hp4⟩; have HX4 := hide ((hp4.only.cell (p := ⟨w2.heap.size, 0, none⟩) (by simp) HX2.out).trans (by first | exact x6 | exact hHeld.2)); have HM4 := hide hm4; clear hm4; have HRm := hide (RmAt.step (s := s) (R' := s.R) (f' := f) (by first | exact HR3.out | exact HR3.out.drew) hp4); clear hp4
  refine hK.out _ _ (fun _ => ⟨(by rw [← HM4.out]; exact HRm.out.cells.2.1), HX4.out⟩) (fun hH => ?_)
  have hHeld := hH rfl
  clear hK K hH
  try simp only [ZP, ZA, ZC, ZB, ZD, ZE, ZF]
  refine wpAnyS_done (by kernel_rfl) ?_ _
  obtain ⟨_, _, _, x1', _⟩ := HRm.out.cells
  rw [HK.out] at x1'
  clear y0 y2 y3 x1 f3
  go_wp2_with fail
  go_loopg [34] K (fun kx s34 wr => ∃ (i : Nat) (f5 : Ft) (R5 : List Rg), s34 = ZI ZQ i ∧ i ≤ K ∧ K - i ≤ kx ∧ RmAt w1 wr f s f5 R5 w.heap.size a c rs)
  case atStart => exact ⟨0, _, _, rfl, by omega, by omega, HRm.out⟩
  case round =>
   clear HRm
   obtain ⟨i, f5, R5, rfl, hi, hkx, hR⟩ := hrel
   by_cases hlt : i < K
   ·obtain ⟨r, hr⟩ : ∃ r, rs[i]? = some r := ⟨_, List.getElem?_eq_getElem (by rw [HK.out]; exact hlt)⟩
    obtain ⟨o0, o1, o2⟩ := HOK.out.ok r (List.mem_of_getElem? hr)
    obtain ⟨k, rfl, hk, z0, z1⟩ := hR.rowAt i r hr
    have hx := Blk.new wr 93 #[ZI ZQ r.lo, ZI ZQ r.hi]
    have x7 : (wr.alloc (.cells #[ZI ZQ r.lo, ZI ZQ r.hi] 93)).cell? ⟨wr.heap.size, 0, none⟩ = some (ZI ZQ r.lo) := hx.cell 0
    have x8 : (wr.alloc (.cells #[ZI ZQ r.lo, ZI ZQ r.hi] 93)).cell? ⟨wr.heap.size, 1, none⟩ = some (ZI ZQ r.hi) := hx.cell 1
    have HR5 := hide (hR.later ((Below.refl _ _).alloc (Nat.le_refl _) (.cells #[ZI ZQ r.lo, ZI ZQ r.hi] 93)))
    obtain ⟨_, y2, _, _, _⟩ := HR5.out.cells
    have hin : (i : Int) < (K : Int) := by omega
    have HX7 : Hid (wr.heap.size ∉ f5.all) := fun hm => by have h1 := hR.post.sp.lt _ hm; omega
    clear hR hx hr
    go_wp2_with fail
    refine wp_region_S (fun w' => w'.cell? ⟨f.b, 2, none⟩ = some (.pointer (some ⟨f5.mb, 0, none⟩)) ∧ w'.cell? ⟨wr.heap.size, 0, none⟩ = some (ZI ZQ r.lo) ∧ w'.cell? ⟨wr.heap.size, 1, none⟩ = some (ZI ZQ r.hi)) 1000 (by kernel_rfl) (by exact ⟨y2, x7, x8⟩) (fun hHeld => ?_)
    refine tsP 0 ?_ rfl ?_ ?_
    rotate_left
    ·intro w hSw; (try dsimp only at hSw); go_simp; try with_reducible rfl
    try simp only [ZP, ZA, ZC, ZB, ZD, ZE, ZF]
    refine tsP 1 ?_ rfl ?_ ?_
    rotate_left
    ·intro w hSw; (try dsimp only at hSw); go_simp; try with_reducible rfl
    try simp only [ZP, ZA, ZC, ZB, ZD, ZE, ZF]
    refine tsP 2 ?_ rfl ?_ ?_
    rotate_left
    ·intro w hSw; (try dsimp only at hSw); go_simp; try with_reducible rfl
    try simp only [ZP, ZA, ZC, ZB, ZD, ZE, ZF]
    refine tsP 3 ?_ rfl ?_ ?_
    rotate_left
    ·intro w hSw; (try dsimp only at hSw); go_simp; try with_reducible rfl
    try simp only [ZP, ZA, ZC, ZB, ZD, ZE, ZF]
    refine tsP 4 ?_ rfl ?_ ?_
    rotate_left
    ·intro w hSw; (try dsimp only at hSw); go_simp; try with_reducible rfl
    try simp only [ZP, ZA, ZC, ZB, ZD, ZE, ZF]
    refine tsP 5 ?_ rfl ?_ ?_
    rotate_left
    ·intro w hSw; (try dsimp only at hSw); go_simp; try with_reducible rfl
    try simp only [ZP, ZA, ZC, ZB, ZD, ZE, ZF]
    refine tsP 6 ?_ rfl ?_ ?_
    rotate_left
    ·intro w hSw; (try dsimp only at hSw); go_simp; try with_reducible rfl
    try simp only [ZP, ZA, ZC, ZB, ZD, ZE, ZF]
    refine tsP 7 ?_ rfl ?_ ?_
    rotate_left
    ·intro w hSw; (try dsimp only at hSw); go_simp; try with_reducible rfl
    try simp only [ZP, ZA, ZC, ZB, ZD, ZE, ZF]
    refine wpAnyS_one (i := 8) rfl (by kernel_rfl) (fun K hK => ?_)
    go_simp; go_at_call 63; refine (rem_add f5 { s with R := R5 } r.lo r.hi _ (RmAt.post (by first | exact HR5.out | exact HR5.out.drew)).sp (by omega) (by omega) (by omega)).mono ?_; rintro e6 w6 ⟨⟨z6, rfl⟩, f6, R6, hm6, hp6⟩; have HX6 := hide (And.intro ((hp6.only.cell (p := ⟨wr.heap.size, 0, none⟩) (by simp) HX7.out).trans (by first | exact x7 | exact hHeld.2.1)) ((hp6.only.cell (p := ⟨wr.heap.size, 1, none⟩) (by simp) HX7.out).trans (by first | exact x8 | exact hHeld.2.2))); have HR6 := hide (RmAt.step (s := s) (R' := R5) (f' := f5) (by first | exact HR5.out | exact HR5.out.drew) hp6); clear hp6; have HM6 := hide hm6; clear hm6
    refine hK.out _ _ (fun _ => ⟨(by rw [← HM6.out]; exact HR6.out.cells.2.1), HX6.out.1, HX6.out.2⟩) (fun hH => ?_)
    have hHeld := hH rfl
    clear hK K hH
    try simp only [ZP, ZA, ZC, ZB, ZD, ZE, ZF]
    refine wpAnyS_done (by kernel_rfl) ?_ _
    clear y2 x7 x8 z0 z1 HR5 hHeld HX6 HM6
    go_wp2_with fail
    go_roundg (K - (i + 1))
    case rel => exact ⟨i + 1, f6, R6, by go_num, by omega, by omega, HR6.out⟩
    case measure => omega
   ·obtain rfl : i = K := by omega
    have hin : ¬ (i : Int) < (i : Int) := by omega
    have hposN : 0 < i := by have h1 := HOK.out.pos; have h2 := HK.out; omega
    obtain ⟨k0, hk0, hkl, z0, z1⟩ := hR.rowAt 0 r0 HR0.out
    subst hk0
    obtain ⟨_, _, y3, x1, f3⟩ := hR.cells
    rw [HK.out] at x1
    have HR7 := hide hR
    have hm := HM.out
    clear hR
    go_wp2_with fail
    go_region
    have hfin := HR7.out.post.trans (HR7.out.post.sp.turnOwn (j := 3) (u := ZI ZQ M) (great := M) (loss := s.loss) (time := s.time) rfl)
    rw [HR7.out.post.b] at hfin
    rw [hps] at hfin
    go_wp2_with fail
    go_end0
    first
    | exact ⟨rfl, _, _, SpPost.ahead HB.out hfin⟩
    | exact ⟨rfl, _, _, SpPost.ahead HB.out hfin.drew⟩
end Go.Proofs.YtgicljeedegncaaGreat
