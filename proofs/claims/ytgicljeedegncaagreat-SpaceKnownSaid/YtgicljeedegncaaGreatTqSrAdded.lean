/-
 3 texts in one (RefPair, RefAdd, SrAdded).
-/
import Derived.Test.YtgicljeedegncaaGreatRefBetween
import Derived.Test.YtgicljeedegncaaGreatPersistPeriod
import Derived.Test.YtgicljeedegncaaGreatTqPersistIsAny
import Derived.Test.YtgicljeedegncaaGreatTqSpgGaps
import Derived.Test.YtgicljeedegncaaGreatTqSrPlain
namespace Go.Proofs.YtgicljeedegncaaGreat
open Go.Value renaming int → ZI
open Go.IntKind renaming i64 → ZQ
set_option linter.unusedSimpArgs false
set_option linter.unusedVariables false
open Go.RowKit

/-- The document's set, or none. -/
def RefAt (w : World) (v : Value) (rs : List Rg) : Prop := (v = .pointer none ∧ rs = []) ∨ ∃ b, v = .pointer (some ⟨b, 0, none⟩) ∧ b < w.heap.size ∧ RefL w b rs
theorem RefAt.below {w w' : World} {v : Value} {rs : List Rg} (h : RefAt w v rs) (hb : Below w.heap.size w w') : RefAt w' v rs := by
 rcases h with ⟨rfl, rfl⟩ | ⟨b, rfl, hl, a, c, hc, hx⟩
 ·exact Or.inl ⟨rfl, rfl⟩
 ·exact Or.inr ⟨b, rfl, Nat.lt_of_lt_of_le hl hb.size, a, c, (hb.cell (p := ⟨b, 1, none⟩) hl).trans hc, hx.below hb⟩
theorem r10between_at (v : Value) (rs : List Rg) (an bn : Int) (w : World) (h : RefAt w v rs) (hl : rs.length ≤ 1000) (a0 : -1 ≤ an) (a1 : an ≤ 9007199254740991) (b0 : -1 ≤ bn) (b1 : bn ≤ 9007199254740991) :
  Calls Tryz.prog 186 #[v, ZI ZQ an, ZI ZQ bn] w fun e w' => e = .returned (.bool (rs.any (hitR an bn))) ∧ Below w.heap.size w w' := by
 rcases h with ⟨rfl, rfl⟩ | ⟨b, rfl, hb, hL⟩
 ·refine (r10between_nil an bn w).mono ?_
  rintro e w' ⟨rfl, rfl⟩
  exact ⟨rfl, Below.refl _ _⟩
 ·refine (between_ref b rs an bn w hL hl a0 a1 b0 b1).mono ?_
  rintro e w' ⟨rfl, q, rfl⟩
  exact ⟨rfl, below_drewN (Below.refl _ _) _⟩

set_option maxHeartbeats 2000000 in
theorem pair_ref (a b : PK) (v : Value) (rs : List Rg) (first : Int) (w : World) (h : RefAt w v rs) (hl : rs.length ≤ 1000) (a0 : -1 ≤ a.n) (a1 : a.n ≤ 9007199254740991) (b0 : -1 ≤ b.n) (b1 : b.n ≤ 9007199254740991) :
  Calls Tryz.prog 176 #[pkV a, pkV b, v, ZI ZQ first] w fun e w' => e = .returned (.bool (pairOk rs first a b)) ∧ Below w.heap.size w w' := by
 have hbw : Below w.heap.size w ((w.alloc (.cells (pkC a) 40)).alloc (.cells (pkC b) 40)) := ((Below.refl _ _).alloc (Nat.le_refl _) _).alloc (by simp) _
 have HBT := hide (r10between_at v rs a.n b.n _ (h.below hbw) hl a0 a1 b0 b1)
 have HT : Hid (freeR rs a b = !(rs.any (hitR a.n b.n))) := by show _ = _; rw [freeR_hit, List.any_reverse]
 obtain ⟨T, hT⟩ : ∃ T, rs.any (hitR a.n b.n) = T := ⟨_, rfl⟩
 rw [hT] at HBT HT
 have HBW := hide hbw
 clear hT hbw h
 unfold pairOk counts
 rw [HT.out]
 clear HT
 obtain ⟨an, at', asz, ae, af, ac⟩ := a
 obtain ⟨bn, bt, bsz, be, bf, bc⟩ := b
 unfold pkV pkC at *
 dsimp only at *
 cases ae with
 | false =>
  go_enter Tryz.func176, Tryz.ntmps176
  go_wp2_with fail
  go_ret
  exact ⟨by simp, HBW.out⟩
 | true =>
  cases be with
  | false =>
   go_enter Tryz.func176, Tryz.ntmps176
   go_wp2_with fail
   go_ret
   exact ⟨by simp, HBW.out⟩
  | true =>
   by_cases c1 : first < at'
   ·by_cases c2 : first < bt
    ·by_cases c3 : at' ≤ bt
     ·have k1 : decide (first < at') = true := decide_eq_true c1
      have k2 : decide (first < bt) = true := decide_eq_true c2
      have k3 : decide (at' ≤ bt) = true := decide_eq_true c3
      rw [k1, k2, k3]
      clear k1 k2 k3
      go_enter Tryz.func176, Tryz.ntmps176
      go_wp2_with fail
      refine HBT.out.mono ?_
      rintro e1 w1 ⟨rfl, hb1⟩
      go_wp2_with fail
      go_ret
      exact ⟨by simp, bw_below' HBW.out hb1⟩
     ·go_enter Tryz.func176, Tryz.ntmps176
      go_wp2_with fail
      go_ret
      exact ⟨by rw [show decide (at' ≤ bt) = false from decide_eq_false (by omega)]; simp, HBW.out⟩
    ·go_enter Tryz.func176, Tryz.ntmps176
     go_wp2_with fail
     go_ret
     exact ⟨by rw [show decide (first < bt) = false from decide_eq_false (by omega)]; simp, HBW.out⟩
   ·go_enter Tryz.func176, Tryz.ntmps176
    go_wp2_with fail
    go_ret
    exact ⟨by rw [show decide (first < at') = false from decide_eq_false (by omega)]; simp, HBW.out⟩
end Go.Proofs.YtgicljeedegncaaGreat

namespace Go.Proofs.YtgicljeedegncaaGreat
open Go.Value renaming int → ZI
open Go.IntKind renaming i64 → ZQ
set_option linter.unusedSimpArgs false
set_option linter.unusedVariables false
open Go.RowKit

theorem r04is_any (n : Int) (w : World) : Calls Tryz.prog 123 #[ZI ZQ n] w fun e w' => e = .returned (.bool (isT n)) ∧ w = w' := by
 unfold isT
 by_cases h1 : 0 ≤ n
 ·by_cases h2 : n ≤ 9007199254740991
  ·go_enter Tryz.func123, Tryz.ntmps123
   go_wp2
   go_ret
   simp [h1, h2]
  ·go_enter Tryz.func123, Tryz.ntmps123
   go_wp2
   go_ret
   simp [h1, h2]
 ·go_enter Tryz.func123, Tryz.ntmps123
  go_wp2
  go_ret
  have h1 : ¬ 0 ≤ n := by omega
  simp [h1]

theorem rg_info04 : (Tryz.prog.info? 93).map (fun i => (i.zero, i.size, i.bytes)) = some (some (.agg #[ZI ZQ 0, ZI ZQ 0]), 2, 16) := by kernel_rfl
set_option maxHeartbeats 1000000 in
theorem r04new_ok (w : World) : Calls Tryz.prog 71 #[ZI ZQ 256] w fun e w' => e = .returned (.tuple #[.pointer (some ⟨w.heap.size, 0, none⟩), ZI ZQ 0]) ∧ w' = w.alloc (.cells #[ZI ZQ 256, .slice none 0 0] 145) := by
 go_enter Tryz.func71, Tryz.ntmps71
 go_wp2
 go_ret2
 exact ⟨rfl, rfl⟩
/-- What one range makes of no range. -/
def oneR (r : Rg) : List Rg := if isT r.lo && isT r.hi && decide (r.lo ≤ r.hi) then [r] else []
end Go.Proofs.YtgicljeedegncaaGreat

namespace Go.Proofs.YtgicljeedegncaaGreat
open Go.Value renaming int → ZI
open Go.IntKind renaming i64 → ZQ
set_option linter.unusedSimpArgs false
set_option linter.unusedVariables false
open Go.RowKit

theorem RgAt.reads {w : World} {a : Option Addr} {rs : List Rg} {n : Nat} (hn : rs.length = n) (h : RgAt w a rs) : Reads w w.heap.size 2 a n (rgsCells rs) := by
 refine ⟨by rw [rgs_length, hn], fun hpos => ?_⟩
 obtain ⟨r0, h0⟩ : ∃ r, rs[0]? = some r := ⟨_, List.getElem?_eq_getElem (by omega)⟩
 obtain ⟨k, rfl, hk, _, _⟩ := h 0 r0 h0
 refine ⟨_, rfl, hk, fun j u hu => ?_⟩
 rw [add_at]
 have hj : j < rs.length * 2 := by have := (List.getElem?_eq_some_iff.1 hu).1; rw [rgs_length] at this; exact this
 obtain ⟨r, hr⟩ : ∃ r, rs[j / 2]? = some r := ⟨_, List.getElem?_eq_getElem (by omega)⟩
 obtain ⟨k', e, _, z0, z1⟩ := h (j / 2) r hr
 cases e
 have e2 : j = j / 2 * 2 + j % 2 := by omega
 have hm : j % 2 = 0 ∨ j % 2 = 1 := by omega
 unfold rgsCells at hu
 rw [e2, flat_cell rgCells 2 rgCells_length rs (j / 2) (j % 2) (by omega), hr] at hu
 rcases hm with hm | hm
 ·rw [hm] at hu
  have : u = ZI ZQ r.lo := by simpa [rgCells] using hu.symm
  subst this
  rw [show j = j / 2 * 2 by omega]
  exact z0
 ·rw [hm] at hu
  have : u = ZI ZQ r.hi := by simpa [rgCells] using hu.symm
  subst this
  rw [show j = j / 2 * 2 + 1 by omega]
  exact z1
theorem min_if (x y : Int) : (if y < x then y else x) = min x y := by split <;> omega
theorem max_if (x y : Int) : (if x < y then y else x) = max x y := by split <;> omega
def AddedPost (w : World) (l : List Rg) (e : Ending) (w' : World) : Prop := ∃ a c, e = .returned (.slice a l.length c) ∧ RgAt w' a l ∧ l.length ≤ c ∧ (∀ k, a = some ⟨k, 0, none⟩ → w.heap.size ≤ k ∧ k < w'.heap.size) ∧ Below w.heap.size w w'
theorem own_rg_new {w W : World} {base : Nat} {v : Value} {l : List Rg} (h : W.ownsRow base 93 2 v l.length (rgsCells l)) (hb : w.heap.size ≤ base) : ∃ a c, v = .slice a l.length c ∧ RgAt W a l ∧ l.length ≤ c ∧ (∀ k, a = some ⟨k, 0, none⟩ → w.heap.size ≤ k ∧ k < W.heap.size) := by
 obtain ⟨a, c, rfl⟩ := own_slice' h
 refine ⟨a, c, rfl, own_rgat rfl h, ?_, fun k e => ?_⟩
 ·rcases own_split h with ⟨_, h0, _⟩ | ⟨k, cap, cur, e, _, hk, hc, hm, hcl, ht⟩
  ·omega
  ·injection e; omega
 ·subst e
  exact ⟨Nat.le_trans hb (h.lt k rfl).1, (h.lt k rfl).2⟩
structure AdSt (w W : World) (X : Nat) (v : Value) (x : Rg) (os : List Rg) : Prop where
 own : W.ownsRow (w.heap.size + 1) 93 2 v os.length (rgsCells os)
 box : Blk W X 93 #[ZI ZQ x.lo, ZI ZQ x.hi]
 below : Below w.heap.size w W
theorem AdSt.drewN {w W : World} {X : Nat} {v : Value} {x : Rg} {os : List Rg} (h : AdSt w W X v x os) (q : Nat) : AdSt w (W.drewN q) X v x os := ⟨own_only2 (S := []) h.own (only_of_below (below_drewN (Below.refl _ _) q)) (by simp), h.box.drewN q, below_drewN h.below q⟩
theorem AdSt.push {w W W' : World} {A8 : Option Addr} {M c8 : Nat} {v5 : Value} {x : Rg} {rlo rhi : Int} {os : List Rg} (h : AdSt w W w.heap.size (.slice A8 os.length c8) x os) (hM : os.length = M) (hg : (W.alloc (.cells #[ZI ZQ rlo, ZI ZQ rhi] 93)).grownBy W' (Value.slice A8 M c8).ownBlock)
  (hown : W'.ownsRow (w.heap.size + 1) 93 2 v5 (M + 1) (rgsCells os ++ [ZI ZQ rlo, ZI ZQ rhi])) : AdSt w W' w.heap.size v5 x (os ++ [⟨rlo, rhi⟩]) := by
 subst hM
 have hlt := h.box.lt
 refine ⟨?_, blk_grown (h.box.alloc _) hg (fun e => by have := (h.own.lt _ e.symm).1; omega), Below.grown (h.below.alloc h.below.size _) hg (by simp; have := h.below.size; omega) (fun y hy => by have := (h.own.lt y hy).1; omega)⟩
 rw [List.length_append, rgs_append]
 simpa [rgsCells, rgCells] using hown
/-- The box turns. -/
theorem AdSt.join {w W : World} {A8 : Option Addr} {M c8 : Nat} {x : Rg} {os : List Rg} (h : AdSt w W w.heap.size (.slice A8 os.length c8) x os) (hM : os.length = M) (mlo mhi : Int) : AdSt w ((W.setCell ⟨w.heap.size, 0, none⟩ (ZI ZQ mlo)).setCell ⟨w.heap.size, 1, none⟩ (ZI ZQ mhi)) w.heap.size (.slice A8 M c8) ⟨mlo, mhi⟩ os := by
 subst hM
 have ho : Only [w.heap.size] W ((W.setCell ⟨w.heap.size, 0, none⟩ (ZI ZQ mlo)).setCell ⟨w.heap.size, 1, none⟩ (ZI ZQ mhi)) := ((Only.refl _ _).setCell (.inl (by simp)) _).setCell (.inl (by simp)) _
 exact ⟨own_only2 h.own ho (fun k hk hm => by simp at hm; subst hm; have := (h.own.lt _ hk).1; omega), ((h.box.set 0 _).set 1 _).eq (by simp), (h.below.setCell (p := ⟨w.heap.size, 0, none⟩) (Nat.le_refl _) _).setCell (p := ⟨w.heap.size, 1, none⟩) (Nat.le_refl _) _⟩
set_option maxRecDepth 100000 in
set_option maxHeartbeats 4000000 in
theorem added_any (a : Option Addr) (n cap : Nat) (l : List Rg) (lo hi : Int) (w : World) (hn : l.length = n) (hl : n ≤ 300) (hG : GoodF l) (h1 : lo ≤ hi) (h2 : 0 ≤ lo) (h3 : hi ≤ 9007199254740991) (hR : RgAt w a l) :
  Calls Tryz.prog 124 #[.slice a n cap, .agg #[ZI ZQ lo, ZI ZQ hi]] w (AddedPost w (addF ⟨lo, hi⟩ false l)) := by
 obtain ⟨i0, hi0, hz0, hz1, hz2⟩ := info_parts rg_info04
 have hbw : Below w.heap.size w (w.alloc (.cells #[ZI ZQ lo, ZI ZQ hi] 93)) := (Below.refl _ _).alloc (Nat.le_refl _) _
 have hs0 : AdSt w (w.alloc (.cells #[ZI ZQ lo, ZI ZQ hi] 93)) w.heap.size (.slice none 0 0) ⟨lo, hi⟩ [] := ⟨⟨by simp [rgsCells], .inl ⟨rfl, rfl⟩⟩, Blk.new _ _ _, hbw⟩
 have HS := hide hs0
 have HR := hide hR
 have HN := hide hn
 have HG := hide hG
 obtain ⟨L, hL⟩ : ∃ L, addF ⟨lo, hi⟩ false l = L := ⟨_, rfl⟩
 rw [hL]
 have HL := hide hL
 clear hbw hR hn hs0 hG hL
 go_enter Tryz.func124, Tryz.ntmps124
 go_wp2_with fail
 go_loopg [5, 6, 7] n (fun kx s5 s6 s7 wr => ∃ (i : Nat) (x : Rg) (put : Bool) (os : List Rg), s6 = .bool put ∧ s7 = ZI ZQ i ∧ i ≤ n ∧ n - i ≤ kx ∧ AdSt w wr w.heap.size s5 x os ∧ os.length ≤ i + (if put then 1 else 0) ∧ (x.lo ≤ x.hi ∧ 0 ≤ x.lo ∧ x.hi ≤ 9007199254740991) ∧ Hid (L = os ++ addF x put (l.drop i)))
 case atStart => exact ⟨0, ⟨lo, hi⟩, false, [], rfl, rfl, by omega, by omega, HS.out, by simp, ⟨h1, h2, h3⟩, by show _ = _; rw [HL.out.symm]; rfl⟩
 case round =>
  clear HS HL h1 h2 h3
  obtain ⟨i, x, put, os, rfl, rfl, hi', hkx, hS, hos, ⟨b1, b2, b3⟩, HE⟩ := hrel
  obtain ⟨xlo, xhi⟩ := x
  dsimp only at b1 b2 b3
  have x0 : wr.cell? ⟨w.heap.size, 0, none⟩ = some (ZI ZQ xlo) := hS.box.cell 0
  have x1 : wr.cell? ⟨w.heap.size, 1, none⟩ = some (ZI ZQ xhi) := hS.box.cell 1
  have xf := hS.box.frozen
  obtain ⟨A8, c8, hv8⟩ := own_slice' hS.own
  subst hv8
  obtain ⟨M, hM⟩ : ∃ M, os.length = M := ⟨_, rfl⟩
  have hM5 : M ≤ i + 1 := by rw [← hM]; refine Nat.le_trans hos ?_; split <;> omega
  have HM := hide hM
  have hsz := hS.below.size
  have hbl := hS.box.lt
  have hown := hS.own
  rw [hM] at hown
  by_cases hlt : i < n
  ·have hil : i < l.length := by rw [HN.out]; exact hlt
   obtain ⟨r, hr⟩ : ∃ r, l[i]? = some r := ⟨_, List.getElem?_eq_getElem hil⟩
   have hd : l.drop i = r :: l.drop (i + 1) := by
    rw [List.drop_eq_getElem_cons hil]
    congr 1
    rw [List.getElem?_eq_getElem hil] at hr
    exact Option.some.inj hr
   have hm := List.mem_of_getElem? hr
   have g1 := HG.out.le r hm
   have g2 := HG.out.lo r hm
   have g3 := HG.out.hi r hm
   obtain ⟨k, rfl, hk, z0, z1⟩ := (HR.out.below hS.below) i r hr
   have hin : (i : Int) < (n : Int) := by omega
   have hw1 : IntKind.i64.wrap (xhi + 1) = xhi + 1 := by rw [IntKind.wrap_i64]; omega
   have hw2 : IntKind.i64.wrap (xlo - 1) = xlo - 1 := by rw [IntKind.wrap_i64]; omega
   obtain ⟨rlo, rhi⟩ := r
   dsimp only at g1 g2 g3 z0 z1
   have HS := hide hS
   rw [hM]
   have HOS := hide hos
   have HRI : Hid (some (l[i]'hil) = some (⟨rlo, rhi⟩ : Rg)) := by show _ = _; rw [← List.getElem?_eq_getElem]; exact hr
   clear hS hr hm hM hos
   by_cases c1 : xhi + 1 < rlo
   ·have HE2 : Hid (L = (os ++ [⟨rlo, rhi⟩]) ++ addF ⟨xlo, xhi⟩ put (l.drop (i + 1))) := by
     show _ = _
     rw [HE.out, hd, addF_above c1, List.append_assoc]
     rfl
    clear hd HE
    go_upto_region 7 with (fail)
    go_quiet (fail)
    go_wp2_with (at_builtin; refine wpList_append_any _ rfl (.tmp 41) (.tmp 46) _ rfl (w.heap.size + 1) 93 i0 _ 2 16 Tryz.underlying50 hi0 hz0 hz1 hz2 rfl (by decide) (.slice A8 M c8) M (rgsCells os) rfl (by exact (hown.drew).alloc _) (wr.heap.size + 1) (some ⟨wr.heap.size, 0, none⟩) 1 1 [ZI ZQ rlo, ZI ZQ rhi] rfl (by exact reads_lit (blk_new_at (by simp)) (by simp) rfl) (by simp [Value.oneCell']) (by unfold maxLen; omega) (by omega) (by simp; omega) ?_; intro v5 w5 hown5 hg5 hat5)
    have hS2 := (HS.out.drewN _).push HM.out hg5 hown5
    clear hown5 hg5 hat5 hown
    go_roundg (n - (i + 1))
    case rel => exact ⟨i + 1, ⟨xlo, xhi⟩, put, os ++ [⟨rlo, rhi⟩], rfl, by go_num, by omega, by omega, hS2, by have := HOS.out; simp; omega, ⟨b1, b2, b3⟩, HE2⟩
    case measure => omega
   ·by_cases c2 : rhi < xlo - 1
    ·cases put with
     | true =>
      have HE2 : Hid (L = (os ++ [⟨rlo, rhi⟩]) ++ addF ⟨xlo, xhi⟩ true (l.drop (i + 1))) := by
       show _ = _
       rw [HE.out, hd, addF_below c1 c2, if_pos rfl, List.append_assoc]
       rfl
      clear hd HE
      go_upto_region 7 with (fail)
      go_quiet (fail)
      go_upto_region 9 with (fail)
      go_quiet (fail)
      go_wp2_with (at_builtin; refine wpList_append_any _ rfl (.tmp 64) (.tmp 69) _ rfl (w.heap.size + 1) 93 i0 _ 2 16 Tryz.underlying50 hi0 hz0 hz1 hz2 rfl (by decide) (.slice A8 M c8) M (rgsCells os) rfl (by exact (hown.drew.drew).alloc _) (wr.heap.size + 1) (some ⟨wr.heap.size, 0, none⟩) 1 1 [ZI ZQ rlo, ZI ZQ rhi] rfl (by exact reads_lit (blk_new_at (by simp)) (by simp) rfl) (by simp [Value.oneCell']) (by unfold maxLen; omega) (by omega) (by simp; omega) ?_; intro v5 w5 hown5 hg5 hat5)
      have hS2 := (HS.out.drewN _).push HM.out hg5 hown5
      clear hown5 hg5 hat5 hown
      go_roundg (n - (i + 1))
      case rel => exact ⟨i + 1, ⟨xlo, xhi⟩, true, os ++ [⟨rlo, rhi⟩], rfl, by go_num, by omega, by omega, hS2, by have := HOS.out; simp at this ⊢; omega, ⟨b1, b2, b3⟩, HE2⟩
      case measure => omega
     | false =>
      have HE2 : Hid (L = ((os ++ [⟨xlo, xhi⟩]) ++ [⟨rlo, rhi⟩]) ++ addF ⟨xlo, xhi⟩ true (l.drop (i + 1))) := by
       show _ = _
       rw [HE.out, hd, addF_below c1 c2, if_neg (by simp), List.append_assoc, List.append_assoc]
       rfl
      clear hd HE
      go_upto_region 7 with (fail)
      go_quiet (fail)
      go_upto_region 9 with (fail)
      go_quiet (fail)
      go_upto_region 13 with (at_builtin; refine wpList_append_any _ rfl (.tmp 60) (.tmp 62) _ rfl (w.heap.size + 1) 93 i0 _ 2 16 Tryz.underlying50 hi0 hz0 hz1 hz2 rfl (by decide) (.slice A8 M c8) M (rgsCells os) rfl (by exact (hown.drew.drew).alloc _) (wr.heap.size + 1) (some ⟨wr.heap.size, 0, none⟩) 1 1 [ZI ZQ xlo, ZI ZQ xhi] rfl (by exact reads_lit (blk_new_at (by simp)) (by simp) rfl) (by simp [Value.oneCell']) (by unfold maxLen; omega) (by omega) (by simp; omega) ?_; intro v5 w5 hown5 hg5 hat5)
      have hS2 := (HS.out.drewN _).push HM.out hg5 hown5
      clear hown5 hg5 hat5 hown HS z0 z1 x0 x1 xf hk hsz hbl
      obtain ⟨k', e', hk, z0, z1⟩ := (HR.out.below hS2.below) i ⟨rlo, rhi⟩ (by rw [List.getElem?_eq_getElem (by rw [HN.out]; exact hlt)]; exact HRI.out)
      cases e'
      obtain ⟨A9, c9, hv9⟩ := own_slice' hS2.own
      subst hv9
      have hown := hS2.own
      have hsz := hS2.below.size
      obtain ⟨M9, hM9⟩ : ∃ M9, (os ++ [(⟨xlo, xhi⟩ : Rg)]).length = M9 := ⟨_, rfl⟩
      have hM95 : M9 ≤ i + 1 := by rw [← hM9]; have := HOS.out; simp at this ⊢; omega
      obtain ⟨os9, hos9⟩ : ∃ os9, os ++ [(⟨xlo, xhi⟩ : Rg)] = os9 := ⟨_, rfl⟩
      rw [hos9] at hown hS2 HE2 hM9
      rw [hos9]
      rw [hM9] at hown
      have HM9 := hide hM9
      have HS2 := hide hS2
      rw [hM9]
      clear hM9 hS2 hos9
      go_wp2_with (at_builtin; refine wpList_append_any _ rfl (.tmp 64) (.tmp 69) _ rfl (w.heap.size + 1) 93 i0 _ 2 16 Tryz.underlying50 hi0 hz0 hz1 hz2 rfl (by decide) (.slice A9 M9 c9) M9 (rgsCells os9) rfl (by exact (hown).alloc _) (w5.heap.size + 1) (some ⟨w5.heap.size, 0, none⟩) 1 1 [ZI ZQ rlo, ZI ZQ rhi] rfl (by exact reads_lit (blk_new_at (by simp)) (by simp) rfl) (by simp [Value.oneCell']) (by unfold maxLen; omega) (by omega) (by simp; omega) ?_; intro v6 w6 hown6 hg6 hat6)
      have hS3 := HS2.out.push HM9.out hg6 hown6
      clear hown6 hg6 hat6 hown
      go_roundg (n - (i + 1))
      case rel => exact ⟨i + 1, ⟨xlo, xhi⟩, true, os9 ++ [⟨rlo, rhi⟩], rfl, by go_num, by omega, by omega, hS3, by have := HM9.out; simp; omega, ⟨b1, b2, b3⟩, HE2⟩
      case measure => omega
    ·have HE2 : Hid (L = os ++ addF ⟨min xlo rlo, max xhi rhi⟩ put (l.drop (i + 1))) := by
      show _ = _
      rw [HE.out, hd, addF_join c1 c2]
     have hmn := min_if xlo rlo
     have hmx := max_if xhi rhi
     obtain ⟨mlo, hmlo⟩ : ∃ z, min xlo rlo = z := ⟨_, rfl⟩
     obtain ⟨mhi, hmhi⟩ : ∃ z, max xhi rhi = z := ⟨_, rfl⟩
     have d1 : mlo ≤ mhi ∧ 0 ≤ mlo ∧ mhi ≤ 9007199254740991 := by omega
     rw [hmlo] at HE2 hmn
     rw [hmhi] at HE2 hmx
     clear hd HE hmlo hmhi
     go_upto_region 7 with (fail)
     go_quiet (fail)
     go_upto_region 9 with (fail)
     go_quiet (fail)
     go_upto_region 6 with (fail)
     go_region
     go_wp2_with fail
     go_roundg (n - (i + 1))
     case rel => exact ⟨i + 1, ⟨mlo, mhi⟩, put, os, rfl, by go_num, by omega, by omega, (HS.out.drewN _).join HM.out mlo mhi, by have := HOS.out; omega, d1, HE2⟩
     case measure => omega
  ·obtain rfl : i = n := by omega
   have hin : ¬ (i : Int) < (i : Int) := by omega
   rw [List.drop_of_length_le (by rw [HN.out]; exact Nat.le_refl _), addF_nil] at HE
   have HS := hide hS
   rw [hM]
   clear hS hM
   cases put with
   | true =>
    rw [if_pos rfl, List.append_nil] at HE
    go_wp2_with fail
    go_ret
    obtain ⟨a5, c5, h5, g1, g2, g3⟩ := own_rg_new (w := w) HS.out.own (by omega)
    rw [HE.out]
    rw [HM.out] at h5
    exact ⟨a5, c5, by rw [h5, HM.out]; rfl, g1, g2, g3, HS.out.below⟩
   | false =>
    rw [if_neg (by simp)] at HE
    have HOS := hide hos
    go_wp2_with (at_builtin; refine wpList_append_any _ rfl (.tmp 73) (.tmp 75) _ rfl (w.heap.size + 1) 93 i0 _ 2 16 Tryz.underlying50 hi0 hz0 hz1 hz2 rfl (by decide) (.slice A8 M c8) M (rgsCells os) rfl (by exact (hown).alloc _) (wr.heap.size + 1) (some ⟨wr.heap.size, 0, none⟩) 1 1 [ZI ZQ xlo, ZI ZQ xhi] rfl (by exact reads_lit (blk_new_at (by simp)) (by simp) rfl) (by simp [Value.oneCell']) (by unfold maxLen; omega) (by omega) (by simp; omega) ?_; intro v5 w5 hown5 hg5 hat5)
    have hS2 := HS.out.push HM.out hg5 hown5
    go_ret
    obtain ⟨a5, c5, h5, g1, g2, g3⟩ := own_rg_new (w := w) hS2.own (by omega)
    rw [HE.out]
    exact ⟨a5, c5, by rw [h5]; rfl, g1, g2, g3, hS2.below⟩
end Go.Proofs.YtgicljeedegncaaGreat
