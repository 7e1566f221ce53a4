/-
 Layer 24 (judge): fits: its walk.
-/
import Derived.Test.YtidfngcclbhoaaaJgBack
namespace Go.Proofs.Ytidfngcclbhoaaa
open List renaming setIfInBounds_toArray → ZD, set_cons_zero → ZE, set_cons_succ → ZF, getElem?_toArray → ZG, getElem?_cons_zero → ZH, getElem?_cons_succ → ZJ
open Go.AllReadyH renaming cons → ZS, nil → ZN
open Go.Act renaming put → ZP
open Go.Value renaming int → ZI
open Go.IntKind renaming i64 → ZQ
set_option linter.unusedSimpArgs false
set_option linter.unusedVariables false
open Go.RowKit Go.Shelf
attribute [local go_sem] Oper.semAt_some
/-- Could what went by go, the last one first? -/
def fitsP (burst : Int) (ps : List PIE) (now : Int) : Int → List PCD → Bool
 | _, [] => true
 | s, p :: l => if addI burst (throughP ps p.t now 0) < s + p.size then false else fitsP burst ps now (s + p.size) l
def sumX : List PX → Int
 | [] => 0
 | x :: l => x.1.2.size + sumX l
theorem sumX_snoc : ∀ (l : List PX) (x : PX), sumX (l ++ [x]) = sumX l + x.1.2.size
 | [], x => by simp [sumX]
 | y :: l, x => by rw [List.cons_append, sumX, sumX, sumX_snoc l x]; omega
theorem sumX_bd : ∀ (l : List PX), 0 ≤ sumX l ∧ sumX l ≤ 65535 * l.length
 | [] => by simp [sumX]
 | x :: l => by
  have h1 := sumX_bd l
  have h2 := x.2
  unfold okPcd at h2
  rw [sumX, List.length_cons]
  omega
theorem fitsP_false (burst : Int) (ps : List PIE) (now : Int) (s : Int) (p : PCD) (l : List PCD) (h : addI burst (throughP ps p.t now 0) < s + p.size) : fitsP burst ps now s (p :: l) = false := by rw [fitsP, if_pos h]
theorem fitsP_step (burst : Int) (ps : List PIE) (now : Int) (s : Int) (p : PCD) (l : List PCD) (h : ¬ addI burst (throughP ps p.t now 0) < s + p.size) : fitsP burst ps now s (p :: l) = fitsP burst ps now (s + p.size) l := by rw [fitsP, if_neg h]
theorem blk_own {β : Type} (B : Nat) (t : TypeId) (cs : Array Value) : Own (fun (_ : β) W => Blk W B t cs) := fun _ X Y row hs hg hrow =>
 (hg.block B hs.lt (fun e' => by obtain ⟨o, ho, hc⟩ := hrow B e'.symm; rw [show X.heap[B]? = _ from hs] at ho; cases ho; cases hc)).trans hs
theorem below_others {W W' : World} (hb : Below W.heap.size W W') : KeepsOthers W W' := ⟨hb.size, fun k o hk _ => (hb.block k (Array.getElem?_eq_some_iff.1 hk).1).trans hk⟩
theorem boxed_below {W W' : World} {B : Nat} {t : TypeId} {v : Value} (h : Boxed W B t v) (hb : Below W.heap.size W W') : Boxed W' B t v := (hb.block _ h.lt).trans h
def blkOf (A : Option Addr) : List Nat := match A with
 | some a => [a.block]
 | none => []
theorem pcd_at {w : World} {base n c : Nat} {A : Option Addr} {l : List PCD} {i : Nat} {p : PCD} (h : w.ownsRow base 104 2 (.slice A n c) n (l.flatMap pcdL)) (hn : l.length = n) (hi : l[i]? = some p) :
  ∃ g, A = some ⟨g, 0, none⟩ ∧ g < w.heap.size ∧ w.cell? ⟨g, i * 2, none⟩ = some (ZI ZQ p.t) ∧ w.cell? ⟨g, i * 2 + 1, none⟩ = some (ZI ZQ p.size) := by
 have hil := (List.getElem?_eq_some_iff.1 hi).1
 obtain ⟨g, c', hv, hg, hc⟩ := own_row h (by omega)
 cases hv
 refine ⟨g, rfl, hg, hc _ _ ?_, hc _ _ ?_⟩
 ·have := flat_cell pcdL 2 pcdL_length l i 0 (by omega)
  rw [hi] at this
  exact this
 ·have := flat_cell pcdL 2 pcdL_length l i 1 (by omega)
  rw [hi] at this
  exact this
set_option maxRecDepth 100000 in
set_option maxHeartbeats 8000000 in
theorem fits_in (n : Nat) (hn : 4 ≤ n) (b base : Nat) (k : KN) (vf vp vd : Value) (now : Int) (w : World) (hK : KnAt w b base k vf vp vd) (hs : ∀ p ∈ k.pieces, okPie p) (hl : k.pieces.length ≤ 2000) (hpd : ∀ p ∈ k.paced, okPcd p) (hll : k.paced.length ≤ 2000) (hnow : 0 ≤ now ∧ now ≤ 68719476736) :
  CallsIn Fence.wide n Try.prog 57 #[.pointer (some ⟨b, 0, none⟩), ZI ZQ now] w fun e W' => e = .returned (.bool (fitsP k.c.burst k.pieces now 0 k.paced.reverse)) ∧ Below w.heap.size w W' := by
 have h1 : 1 ≤ n := by omega
 have q28 := hK.blk.cell 28
 have hbl := hK.blk.lt
 obtain ⟨A, c, rfl⟩ := own_sl hK.pd
 have HK := hide hK
 simp only [knC, ZG, ZH, ZJ] at q28
 have hB4 : Below w.heap.size w ((((w.alloc (.cells #[.pointer (some ⟨b, 0, none⟩)] 51)).alloc (.cells #[ZI ZQ now] 3)).alloc (.cells #[.bool false] 4)).alloc (.cells #[ZI ZQ 0] 3)) := ((((Below.refl _ w).alloc (Nat.le_refl _) _).alloc (by simp) _).alloc (by simp; omega) _).alloc (by simp; omega) _
 have q28' := (hB4.cell (p := ⟨b, 28, none⟩) hbl).trans q28
 refine callsIn_of_wp_marks Try.func57 rfl trivial ?_ rfl
 simp only [Try.ntmps57, List.size_toArray, List.length_cons, List.length_nil, Nat.reduceAdd, Nat.reduceSub, Array.replicate_succ, Array.replicate_zero, List.push_toArray, List.append_toArray, List.nil_append, List.cons_append]
 gi_wp2_with (refine ⟨trivial, ?_⟩; gi_at_call 70; refine (back_in Fence.wide (n - 1) trivial rfl _ _ _ _).mono ?_; rintro e w' ⟨rfl, rfl⟩)
 have bP := (((Boxed.new w 51 (.pointer (some ⟨b, 0, none⟩))).alloc (.cells #[ZI ZQ now] 3)).alloc (.cells #[.bool false] 4)).alloc (.cells #[ZI ZQ 0] 3)
 have bN := ((Boxed.new (w.alloc (.cells #[.pointer (some ⟨b, 0, none⟩)] 51)) 3 (ZI ZQ now)).alloc (.cells #[.bool false] 4)).alloc (.cells #[ZI ZQ 0] 3)
 have bR := (Boxed.new ((w.alloc (.cells #[.pointer (some ⟨b, 0, none⟩)] 51)).alloc (.cells #[ZI ZQ now] 3)) 4 (.bool false)).alloc (.cells #[ZI ZQ 0] 3)
 have bS := Boxed.new (((w.alloc (.cells #[.pointer (some ⟨b, 0, none⟩)] 51)).alloc (.cells #[ZI ZQ now] 3)).alloc (.cells #[.bool false] 4)) 3 (ZI ZQ 0)
 simp only [World.size_alloc] at bN bR bS
 have hsz : ((((w.alloc (.cells #[.pointer (some ⟨b, 0, none⟩)] 51)).alloc (.cells #[ZI ZQ now] 3)).alloc (.cells #[.bool false] 4)).alloc (.cells #[ZI ZQ 0] 3)).heap.size = w.heap.size + 1 + 1 + 1 + 1 := by simp
 have bX0 := Blk.new ((((w.alloc (.cells #[.pointer (some ⟨b, 0, none⟩)] 51)).alloc (.cells #[ZI ZQ now] 3)).alloc (.cells #[.bool false] 4)).alloc (.cells #[ZI ZQ 0] 3)) 56 #[.slice A k.paced.length c]
 rw [hsz] at bX0
 have bP := bP.alloc (.cells #[.slice A k.paced.length c] 56)
 have bN := bN.alloc (.cells #[.slice A k.paced.length c] 56)
 have bR := bR.alloc (.cells #[.slice A k.paced.length c] 56)
 have bS := bS.alloc (.cells #[.slice A k.paced.length c] 56)
 have hB5 := hB4.alloc hB4.size (.cells #[.slice A k.paced.length c] 56)
 have hsz5 : (((((w.alloc (.cells #[.pointer (some ⟨b, 0, none⟩)] 51)).alloc (.cells #[ZI ZQ now] 3)).alloc (.cells #[.bool false] 4)).alloc (.cells #[ZI ZQ 0] 3)).alloc (.cells #[.slice A k.paced.length c] 56)).heap.size = w.heap.size + 1 + 1 + 1 + 1 + 1 := by simp
 try rw [hsz]
 obtain ⟨W0, hW0⟩ : ∃ W0, ((((w.alloc (.cells #[.pointer (some ⟨b, 0, none⟩)] 51)).alloc (.cells #[ZI ZQ now] 3)).alloc (.cells #[.bool false] 4)).alloc (.cells #[ZI ZQ 0] 3)).alloc (.cells #[.slice A k.paced.length c] 56) = W0 := ⟨_, rfl⟩
 rw [hW0] at bX0 bP bN bR bS hB5 hsz5 ⊢
 clear hW0 q28' hB4 q28 hsz
 obtain ⟨T, hTd⟩ : ∃ T, T = (w.heap.size + 1 + 1 + 1 + 1) :: blkOf A := ⟨_, rfl⟩
 have hT : ∀ j ∈ T, j < W0.heap.size := by
  intro j hj
  rw [hTd] at hj
  rcases List.mem_cons.1 hj with rfl | hj
  ·omega
  ·cases A with
   | none => simp [blkOf] at hj
   | some a =>
    simp [blkOf] at hj
    subst hj
    rcases own_split HK.out.pd with ⟨h0, _⟩ | ⟨g, cp, cur, e, _, hg, _⟩
    ·cases h0
    ·cases e
     have : g < w.heap.size := Blk.lt hg
     show g < _
     omega
 have hBA : BackAt W0 T (w.heap.size + 1 + 1 + 1 + 1) k.paced := by
  refine ⟨by rw [hTd]; simp, A, c, bX0.cell 0, fun i p hp => ?_⟩
  obtain ⟨g, hA, hg, z0, z1⟩ := pcd_at HK.out.pd rfl hp
  exact ⟨g, hA, by rw [hTd, hA]; simp [blkOf], (hB5.cell (p := ⟨g, _, none⟩) hg).trans z0, (hB5.cell (p := ⟨g, _, none⟩) hg).trans z1⟩
 have hTlow : ∀ j ∈ T, j < w.heap.size ∨ j = w.heap.size + 1 + 1 + 1 + 1 := by
  intro j hj
  rw [hTd] at hj
  rcases List.mem_cons.1 hj with rfl | hj
  ·exact .inr rfl
  ·cases A with
   | none => simp [blkOf] at hj
   | some a =>
    simp [blkOf] at hj
    subst hj
    rcases own_split HK.out.pd with ⟨h0, _⟩ | ⟨g, cp, cur, e, _, hg, _⟩
    ·cases h0
    ·cases e
     exact .inl (Blk.lt hg)
 clear hTd bX0 hK
 refine wpIn_rangeFunc_ownH (F := Fence.wide) rfl h1 (gf := 83) (lb := #[.pointer (some ⟨w.heap.size + 1 + 1 + 1 + 1, 0, none⟩)]) rfl trivial (enters_of Try.func83 (by kernel_rfl) rfl)
  (back_stops Fence.wide (n - 1) trivial rfl (by omega) (w.heap.size + 1 + 1 + 1 + 1) T k.paced hpd hll W0 hBA hT) KeepsT.trans (keepsT_b hT) (Below.refl _ _) (fun _ => rfl)
  (fun pre W => Boxed W w.heap.size 51 (.pointer (some ⟨b, 0, none⟩)) ∧ Boxed W (w.heap.size + 1) 3 (ZI ZQ now) ∧ Boxed W (w.heap.size + 1 + 1) 4 (.bool false) ∧ Boxed W (w.heap.size + 1 + 1 + 1) 3 (ZI ZQ (sumX pre)) ∧ Below w.heap.size w W ∧ W0.heap.size ≤ W.heap.size ∧ Hid (∀ rest, fitsP k.c.burst k.pieces now 0 (pre.map (fun x => x.1.2) ++ rest) = fitsP k.c.burst k.pieces now (sumX pre) rest))
  (fun c pre W => Boxed W (w.heap.size + 1 + 1) 4 (.bool false) ∧ Below w.heap.size w W ∧ W0.heap.size ≤ W.heap.size ∧ c = .ret ∧ Hid (∀ rest, fitsP k.c.burst k.pieces now 0 (pre.map (fun x => x.1.2) ++ rest) = false))
  (OwnFrom.and (Own.from (boxed_own _ _ _) _) (OwnFrom.and (Own.from (boxed_own _ _ _) _) (OwnFrom.and (Own.from (boxed_own _ _ _) _) (OwnFrom.and (Own.from (boxed_own _ _ _) _) (OwnFrom.and (ownFrom_below (Nat.le_refl _) (by omega)) (OwnFrom.and (fun s X Y row hs hg hr => Nat.le_trans hs hg.size) (fun s X Y row hs hg hr => hs)))))))
  (fun c => OwnFrom.and (Own.from (boxed_own _ _ _) _) (OwnFrom.and (ownFrom_below (Nat.le_refl _) (by omega)) (OwnFrom.and (fun s X Y row hs hg hr => Nat.le_trans hs hg.size) (fun s X Y row hs hg hr => hs))))
  ⟨bP, bN, bR, bS, hB5, Nat.le_refl _, fun rest => rfl⟩
  (fun x a' W => ∃ Bx, w.heap.size + 1 + 1 + 1 + 1 < Bx ∧ Blk W Bx 104 #[ZI ZQ x.1.2.t, ZI ZQ x.1.2.size] ∧ a' = { tmps := #[.pointer (some ⟨b, 0, none⟩), ZI ZQ now, .pointer (some ⟨w.heap.size, 0, none⟩), .pointer (some ⟨w.heap.size + 1, 0, none⟩), .pointer (some ⟨w.heap.size + 1 + 1, 0, none⟩), .pointer (some ⟨w.heap.size + 1 + 1 + 1, 0, none⟩), undef, .pointer (some ⟨Bx, 0, none⟩), .pointer (some ⟨b, 0, none⟩), .pointer (some ⟨b, 0, none⟩), .pointer (some ⟨b, 28, none⟩), .slice A k.paced.length c, .func (.func 83) #[] #[.pointer (some ⟨w.heap.size + 1 + 1 + 1 + 1, 0, none⟩)], ZI ZQ (x.1.1 : Int), encP x.1.2, undef, undef, undef, undef, undef, undef, undef, undef, undef, undef, undef, undef, undef, undef, undef, undef, undef], defers := [] })
  (fun x a' _ X Y row hs hg hr => by obtain ⟨Bx, h1, h2, h3⟩ := hs; exact ⟨Bx, h1, blk_own (β := Unit) Bx 104 _ () X Y row h2 hg (fun r e => (hr r e).2), h3⟩)
  ?assign ?body ?done ?stop
 case assign =>
  rintro l pre x W K ⟨vP, vN, vR, vS, hB, hz, hpure⟩ hK
  unfold encX encP
  gi_wp2
  exact hK _ _ ((KeepsOthers.alloc _ _).from _) (fun j hj => Below.heap_alloc _ _ _ (Nat.lt_of_lt_of_le (hT j hj) hz)) ⟨vP.alloc _, vN.alloc _, vR.alloc _, vS.alloc _, hB.alloc hB.size _, by simp; omega, hpure⟩ ⟨W.heap.size, by omega, Blk.new W _ _, rfl⟩
 case body =>
  rintro l pre x a' W hlr ⟨r, hr⟩ ⟨vP, vN, vR, vS, hB, hz, hpure⟩ ⟨Bx, hBx, bX, rfl⟩ hlt
  have hxo := x.2
  unfold okPcd at hxo
  have hsb := sumX_bd pre
  have hp0 := vP.cell
  have hn0 := vN.cell
  have hs0 := vS.cell
  have hs1 := vS.frozen
  have hr0 := vR.cell
  have hr1 := vR.frozen
  have x0 := bX.cell 0
  have x1 := bX.cell 1
  simp only [ZG, ZH, ZJ] at x0 x1
  gi_wp2
  obtain ⟨s', hs'⟩ : ∃ s', sumX pre + x.1.2.size = s' := ⟨_, rfl⟩
  have vS2 := vS.set (ZI ZQ s')
  have vP2 := vP.other (B' := w.heap.size + 1 + 1 + 1) (by omega) (ZI ZQ s')
  have vN2 := vN.other (B' := w.heap.size + 1 + 1 + 1) (by omega) (ZI ZQ s')
  have vR2 := vR.other (B' := w.heap.size + 1 + 1 + 1) (by omega) (ZI ZQ s')
  have hBn := hB.setCell (p := ⟨w.heap.size + 1 + 1 + 1, 0, none⟩) (by simp; omega) (ZI ZQ s')
  have hKW := HK.out.later hBn
  have bX2 := bX.far (p := ⟨w.heap.size + 1 + 1 + 1, 0, none⟩) (by simp; omega) (ZI ZQ s')
  have hKO := KeepsOthers.setCell W ⟨w.heap.size + 1 + 1 + 1, 0, none⟩ (ZI ZQ s')
  have hKT : KeepsT T W (W.setCell ⟨w.heap.size + 1 + 1 + 1, 0, none⟩ (ZI ZQ s')) := fun j hj => Below.heap_setCell _ _ _ j (fun e => by have e2 : j = w.heap.size + 1 + 1 + 1 := e; have := hTlow j hj; omega)
  have hzn : W0.heap.size ≤ (W.setCell ⟨w.heap.size + 1 + 1 + 1, 0, none⟩ (ZI ZQ s')).heap.size := by simpa using hz
  rw [hs']
  obtain ⟨W1, hW1⟩ : ∃ x, W.setCell ⟨w.heap.size + 1 + 1 + 1, 0, none⟩ (ZI ZQ s') = x := ⟨_, rfl⟩
  rw [hW1] at vS2 vP2 vN2 vR2 hBn hKW bX2 hKO hKT hzn
  rw [hW1]
  have eS := vS2.cell
  have eP := vP2.cell
  have eN := vN2.cell
  have eX := bX2.cell 0
  have eB := hKW.blk.cell 7
  simp only [knC, ZG, ZH, ZJ] at eX eB
  obtain ⟨⟨ix, ⟨pt, psz⟩⟩, hxx⟩ := x
  simp only [] at hxo x0 x1 hs' eX bX2 hpure
  obtain ⟨⟨t0, t1⟩, ⟨z0, z1⟩⟩ := hxo
  have HTH := hide (fun W' (hb : Below W1.heap.size W1 W') => through_any b base k vf vp (.slice A k.paced.length c) pt now W' (hKW.later hb) hs hl ⟨t0, t1⟩ hnow)
  obtain ⟨thr, hthr⟩ : ∃ q, throughP k.pieces pt now 0 = q := ⟨_, rfl⟩
  rw [hthr] at HTH
  have HAD := hide (fun W' => jadd_any k.c.burst thr W')
  obtain ⟨lim, hlim⟩ : ∃ q, addI k.c.burst thr = q := ⟨_, rfl⟩
  rw [hlim] at HAD
  have hSof : ∀ W', Below W1.heap.size W1 W' → (W'.cell? ⟨w.heap.size + 1 + 1 + 1, 0, none⟩ = some (ZI ZQ s') ∧ W'.cell? ⟨w.heap.size, 0, none⟩ = some (.pointer (some ⟨b, 0, none⟩)) ∧ W'.cell? ⟨b, 7, none⟩ = some (ZI ZQ k.c.burst) ∧ W'.cell? ⟨Bx, 0, none⟩ = some (ZI ZQ pt) ∧ W'.cell? ⟨w.heap.size + 1, 0, none⟩ = some (ZI ZQ now)) := fun W' hb =>
   ⟨(hb.cell (p := ⟨_, 0, none⟩) vS2.lt).trans eS, (hb.cell (p := ⟨_, 0, none⟩) vP2.lt).trans eP, (hb.cell (p := ⟨b, 7, none⟩) hKW.blk.lt).trans eB, (hb.cell (p := ⟨Bx, 0, none⟩) bX2.lt).trans eX, (hb.cell (p := ⟨_, 0, none⟩) vN2.lt).trans eN⟩
  have hd : Below W1.heap.size W1 W1.drew := below_drewN (Below.refl W1.heap.size W1) 1
  have HS1 := hide hSof
  clear hSof
  refine round_region_held (fun W' => W'.cell? ⟨w.heap.size + 1 + 1 + 1, 0, none⟩ = some (ZI ZQ s') ∧ W'.cell? ⟨w.heap.size, 0, none⟩ = some (.pointer (some ⟨b, 0, none⟩)) ∧ W'.cell? ⟨b, 7, none⟩ = some (ZI ZQ k.c.burst) ∧ W'.cell? ⟨Bx, 0, none⟩ = some (ZI ZQ pt) ∧ W'.cell? ⟨w.heap.size + 1, 0, none⟩ = some (ZI ZQ now)) (by kernel_rfl) (by kernel_rfl) ?hq (HS1.out _ hd) (fun hHeld => ?_)
  case hq =>
   rintro ⟨aq, wq, hq⟩
   exact hq
  refine tkP 0 ?_ rfl ?_ ?_
  rotate_left
  ·intro w' hSw; (try dsimp only at hSw); obtain ⟨hw5, hw2, hwb, hwx, hwn⟩ := hSw; go_simp; try with_reducible rfl
  try simp only [ZP, ZD, ZE, ZF]
  refine tkP 1 ?_ rfl ?_ ?_
  rotate_left
  ·intro w' hSw; (try dsimp only at hSw); obtain ⟨hw5, hw2, hwb, hwx, hwn⟩ := hSw; go_simp; try with_reducible rfl
  try simp only [ZP, ZD, ZE, ZF]
  refine tkP 2 ?_ rfl ?_ ?_
  rotate_left
  ·intro w' hSw; (try dsimp only at hSw); obtain ⟨hw5, hw2, hwb, hwx, hwn⟩ := hSw; go_simp; try with_reducible rfl
  try simp only [ZP, ZD, ZE, ZF]
  refine tkP 3 ?_ rfl ?_ ?_
  rotate_left
  ·intro w' hSw; (try dsimp only at hSw); obtain ⟨hw5, hw2, hwb, hwx, hwn⟩ := hSw; go_simp; try with_reducible rfl
  try simp only [ZP, ZD, ZE, ZF]
  refine tkP 4 ?_ rfl ?_ ?_
  rotate_left
  ·intro w' hSw; (try dsimp only at hSw); obtain ⟨hw5, hw2, hwb, hwx, hwn⟩ := hSw; go_simp; try with_reducible rfl
  try simp only [ZP, ZD, ZE, ZF]
  refine tkP 5 ?_ rfl ?_ ?_
  rotate_left
  ·intro w' hSw; (try dsimp only at hSw); obtain ⟨hw5, hw2, hwb, hwx, hwn⟩ := hSw; go_simp; try with_reducible rfl
  try simp only [ZP, ZD, ZE, ZF]
  refine tkP 6 ?_ rfl ?_ ?_
  rotate_left
  ·intro w' hSw; (try dsimp only at hSw); obtain ⟨hw5, hw2, hwb, hwx, hwn⟩ := hSw; go_simp; try with_reducible rfl
  try simp only [ZP, ZD, ZE, ZF]
  refine tkP 7 ?_ rfl ?_ ?_
  rotate_left
  ·intro w' hSw; (try dsimp only at hSw); obtain ⟨hw5, hw2, hwb, hwx, hwn⟩ := hSw; go_simp; try with_reducible rfl
  try simp only [ZP, ZD, ZE, ZF]
  refine tkP 8 ?_ rfl ?_ ?_
  rotate_left
  ·intro w' hSw; (try dsimp only at hSw); obtain ⟨hw5, hw2, hwb, hwx, hwn⟩ := hSw; go_simp; try with_reducible rfl
  try simp only [ZP, ZD, ZE, ZF]
  refine tkP 9 ?_ rfl ?_ ?_
  rotate_left
  ·intro w' hSw; (try dsimp only at hSw); obtain ⟨hw5, hw2, hwb, hwx, hwn⟩ := hSw; go_simp; try with_reducible rfl
  try simp only [ZP, ZD, ZE, ZF]
  refine tkR [10] ?_
  refine ZS rfl (fun K hK => ?_) ZN
  go_simp
  go_at_call 71
  with_reducible refine (HTH.out _ hd).mono ?_
  rintro y1 u1 ⟨rfl, hB1⟩
  have hs1 : Below W1.heap.size W1 u1 := hd.trans (hB1.mono hd.size)
  go_simp
  refine hK.out _ _ (HS1.out _ hs1) (fun hHeld => ?_)
  clear hK K
  refine tkR [11] ?_
  refine ZS rfl (fun K hK => ?_) ZN
  go_simp
  go_at_call 55
  with_reducible refine (HAD.out _).mono ?_
  rintro y2 u2 ⟨rfl, rfl⟩
  go_simp
  refine hK.out _ _ (HS1.out _ hs1) (fun hHeld => ?_)
  clear hK K
  refine tkP 12 ?_ rfl ?_ ?_
  rotate_left
  ·intro w' hSw; (try dsimp only at hSw); obtain ⟨hw5, hw2, hwb, hwx, hwn⟩ := hSw; go_simp; try with_reducible rfl
  try simp only [ZP, ZD, ZE, ZF]
  refine wpAnyH_done (by kernel_rfl) ?_ _
  have uP := boxed_below vP2 hs1
  have uN := boxed_below vN2 hs1
  have uR := boxed_below vR2 hs1
  have uS := boxed_below vS2 hs1
  have uB := hBn.trans (hs1.mono hBn.size)
  have uz := Nat.le_trans hzn hs1.size
  have uKO := hKO.trans (below_others hs1)
  have uKT := hKT.trans (keepsT_below (n := W1.heap.size) (fun j hj => Nat.lt_of_lt_of_le (hT j hj) hzn) hs1)
  have ur0 := uR.cell
  have ur1 := uR.frozen
  have HPU := hide hpure.out
  have hsum : sumX (pre ++ [(⟨(ix, ⟨pt, psz⟩), hxx⟩ : PX)]) = s' := by rw [sumX_snoc]; exact hs'
  by_cases hlm : lim < s'
  ·have hpost : ∀ rest, fitsP k.c.burst k.pieces now 0 ((pre ++ [(⟨(ix, ⟨pt, psz⟩), hxx⟩ : PX)]).map (fun x => x.1.2) ++ rest) = false := fun rest => by
    rw [List.map_append, List.append_assoc]
    refine (HPU.out _).trans ?_
    exact fitsP_false _ _ _ _ _ _ (by show addI k.c.burst (throughP k.pieces pt now 0) < sumX pre + psz; rw [hthr, hlim, hs']; exact hlm)
   have HPOST := hide hpost
   clear hpost hpure
   gi_wp2
   exact ⟨(uKO.trans (KeepsOthers.setCell _ _ _)).from _, uR.set (.bool false), uB.setCell (p := ⟨w.heap.size + 1 + 1, 0, none⟩) (by simp; omega) _, by simp; omega, rfl, HPOST.out⟩
  ·have hpost : ∀ rest, fitsP k.c.burst k.pieces now 0 ((pre ++ [(⟨(ix, ⟨pt, psz⟩), hxx⟩ : PX)]).map (fun x => x.1.2) ++ rest) = fitsP k.c.burst k.pieces now (sumX (pre ++ [(⟨(ix, ⟨pt, psz⟩), hxx⟩ : PX)])) rest := fun rest => by
    rw [List.map_append, List.append_assoc]
    refine (HPU.out _).trans ?_
    rw [hsum, ← hs']
    exact fitsP_step _ _ _ _ _ _ (by show ¬ addI k.c.burst (throughP k.pieces pt now 0) < sumX pre + psz; rw [hthr, hlim, hs']; exact hlm)
   have HPOST := hide hpost
   clear hpost hpure
   gi_wp2
   exact ⟨uKO.from _, uKT, uP, uN, uR, by rw [hsum]; exact uS, uB, by omega, HPOST.out⟩
 case done =>
  rintro D ys W hD rfl ⟨vP, vN, vR, vS, hB, hz, hpure⟩ hK
  have hres : fitsP k.c.burst k.pieces now 0 k.paced.reverse = true := by
   have := hpure.out []
   rw [allX_map k.paced hpd _ (Nat.le_refl _), List.append_nil, List.take_length] at this
   rw [this]
   rfl
  have hc := vR.cell
  have hf := vR.frozen
  gi_wp2
  have hK' := (KeepsOthers.setCell W ⟨w.heap.size + 1 + 1, 0, none⟩ (.bool true)).same D _ hK rfl
  refine ⟨by simp, .inl ⟨_, _, rfl, run_takeDeferred hK', ?_⟩⟩
  have hc5 := cell_kept (vR.set (.bool true)).cell (grownBy_putObj' _ D (.deferred none)) (fun r e => by cases e; exact ⟨_, hK', rfl⟩)
  refine ⟨.bool true, ?_, by rw [hres], (hB.setCell (p := ⟨w.heap.size + 1 + 1, 0, none⟩) (by simp; omega) _).trans (belowK_b (w := w) (Nat.le_refl _) _ D _ _ (by omega) hK' rfl rfl)⟩
  simp [results, Try.f57, go_sem, hc5]
 case stop =>
  rintro D c' pre W hD ⟨suf, hsuf⟩ ⟨vR, hB, hz, rfl, hpure⟩ hK
  have hres : fitsP k.c.burst k.pieces now 0 k.paced.reverse = false := by
   have := hpure.out (suf.map fun x => x.1.2)
   rw [← List.map_append, hsuf, allX_map k.paced hpd _ (Nat.le_refl _), List.take_length] at this
   exact this
  gi_wp2
  refine ⟨by simp, .inl ⟨_, _, rfl, run_takeDeferred hK, ?_⟩⟩
  have hc5 := cell_kept vR.cell (grownBy_putObj' _ D (.deferred none)) (fun r e => by cases e; exact ⟨_, hK, rfl⟩)
  refine ⟨.bool false, ?_, by rw [hres], hB.trans (belowK_b (w := w) (Nat.le_refl _) _ D _ _ (by omega) hK rfl rfl)⟩
  simp [results, Try.f57, go_sem, hc5]
theorem fits_any (b base : Nat) (k : KN) (vf vp vd : Value) (now : Int) (w : World) (hK : KnAt w b base k vf vp vd) (hs : ∀ p ∈ k.pieces, okPie p) (hl : k.pieces.length ≤ 2000) (hpd : ∀ p ∈ k.paced, okPcd p) (hll : k.paced.length ≤ 2000) (hnow : 0 ≤ now ∧ now ≤ 68719476736) :
  Calls Try.prog 57 #[.pointer (some ⟨b, 0, none⟩), ZI ZQ now] w fun e W' => e = .returned (.bool (fitsP k.c.burst k.pieces now 0 k.paced.reverse)) ∧ Below w.heap.size w W' :=
 callsIn_wide.1 (fits_in 4 (by omega) b base k vf vp vd now w hK hs hl hpd hll hnow)
end Go.Proofs.Ytidfngcclbhoaaa
