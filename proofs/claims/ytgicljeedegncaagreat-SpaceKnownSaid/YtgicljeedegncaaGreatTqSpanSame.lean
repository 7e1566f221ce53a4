/-
 5 texts in one (SpanCopy, SpanEq, SpanDelete, SpanCut, SpanSame).
-/
import Derived.Test.YtgicljeedegncaaGreatTqSpanAdd
import Derived.Lib.SliceRun
import Derived.Lib.BufferMore
namespace Go.Proofs.YtgicljeedegncaaGreat
open List renaming setIfInBounds_toArray → ZD, set_cons_zero → ZE, set_cons_succ → ZF, getElem?_toArray → ZG
open Go.Act renaming put → ZP
open Go.Value renaming int → ZI
open Go.IntKind renaming i64 → ZQ
set_option linter.unusedSimpArgs false
set_option linter.unusedVariables false
open Go.RowKit Go.Lib

def RgClonePost (w : World) (n : Nat) (xs : List Value) (e : Ending) (w' : World) : Prop := ∃ v, e = .returned v ∧ w'.ownsRow w.heap.size 93 2 v n xs ∧ Below w.heap.size w w'

set_option maxRecDepth 100000 in
set_option maxHeartbeats 1000000 in
theorem rclone_any (n : Nat) (v : Value) (rs : List Rg) (w : World) (hn : rs.length = n) (hown : w.ownsRow 0 93 2 v n (rgsCells rs)) (hm : n ≤ 512) :
  Calls Tryz.prog 132 #[v] w (RgClonePost w n (rgsCells rs)) := by
 obtain ⟨i0, hi, hz0, hz1, hz2⟩ := info_parts rg_info
 rcases own_split hown with ⟨rfl, h0, hx⟩ | ⟨g, cap, cur, rfl, hg, hB, hc, hm2, hcl, htk⟩
 ·subst h0
  have hrs : rs = [] := List.eq_nil_of_length_eq_zero hn
  subst hrs
  have hnil0 := fun (W : World) => run_eql_slice_nil_nil (P := Tryz.prog) W (t := 50) (e := 93) 0 0 Tryz.underlying50
  go_enter Tryz.func132, Tryz.ntmps132
  go_wp2_with fail
  go_ret
  exact ⟨_, rfl, ⟨by simp [rgsCells], .inl ⟨rfl, rfl⟩⟩, Below.refl _ _⟩
 ·have hrb := hB.lt
  have hl := rgs_length rs
  have hR : Reads w w.heap.size 2 (some ⟨g, 0, none⟩) n (rgsCells rs) := ⟨by rw [hl, hn], fun _ => ⟨_, rfl, hrb, fun j u hu => by
   obtain ⟨rest, hrest⟩ := cur_split htk n
   have : rs.take n = rs := by rw [← hn]; exact List.take_length
   rw [this] at hrest
   rw [add_at, hB.cell, ZG, hrest, List.getElem?_append_left (List.getElem?_eq_some_iff.1 hu).1]; exact hu⟩⟩
  have HR := hide hR
  clear hR hl htk hcl hc hm2 hB hg hown hn
  have hnil := fun (W : World) => Lib.run_eql_slice_nil (P := Tryz.prog) W 50 93 (some ⟨g, 0, none⟩) n cap 0 0 Tryz.underlying50
  go_enter Tryz.func132, Tryz.ntmps132
  go_wp2_with (at_builtin; refine wpList_append_any _ rfl (.tmp 5) (.tmp 6) _ rfl w.heap.size 93 i0 _ 2 16 Tryz.underlying50 hi hz0 hz1 hz2 rfl (by decide) (.slice (some ⟨w.heap.size, 0, none⟩) 0 0) 0 [] rfl (by exact World.ownsRow_lit w #[] 0 (Nat.le_refl _) (by decide) rfl) w.heap.size (some ⟨g, 0, none⟩) n cap (rgsCells rs) rfl (by exact HR.out.alloc (Nat.le_refl _) _) rgs_one (by unfold maxLen; omega) (by omega) (by simp) ?_; intro v' w1 hown1 hg1 hat1)
  go_ret
  refine ⟨v', rfl, by simpa using hown1, ((Below.refl _ _).alloc (Nat.le_refl _) _).trans (Below.grown (Below.refl _ _) hg1 (by simp) (fun k hk => by simp [Value.ownBlock] at hk; omega))⟩


theorem own_zero {w : World} {base e size n : Nat} {v : Value} {xs : List Value} (h : w.ownsRow base e size v n xs) : w.ownsRow 0 e size v n xs := by
 refine ⟨h.1, ?_⟩
 rcases h.2 with h0 | ⟨g, cap, cur, hv, hg, r⟩
 ·exact .inl h0
 ·exact .inr ⟨g, cap, cur, hv, Nat.zero_le _, r⟩
def SCopyPost (w : World) (room : Nat) (rs : List Rg) (e : Ending) (w' : World) : Prop :=
 ∃ b' g', e = .returned (.pointer (some ⟨b', 0, none⟩)) ∧ IsSet w' b' g' room rs ∧ w.heap.size ≤ b' ∧ (∀ k, g' = some k → w.heap.size ≤ k) ∧ Below w.heap.size w w'

set_option maxRecDepth 100000 in
set_option maxHeartbeats 1000000 in
theorem scopy_any (b : Nat) (g : Option Nat) (room : Nat) (rs : List Rg) (w : World) (hS : IsSet w b g room rs) :
  Calls Tryz.prog 85 #[.pointer (some ⟨b, 0, none⟩)] w (SCopyPost w room rs) := by
 obtain ⟨hlen, hr1, hroom⟩ := hS.len
 have hgood := hS.good
 have hb := hS.lt.1
 obtain ⟨a, c, c0, c1, hv, hB, hown, hat⟩ := hS.cells
 have HNO := hide (snone_no b room w c0 hr1)
 have HV := hide hv
 clear hat hv hS
 go_enter Tryz.func85, Tryz.ntmps85
 go_wp2_with (go_at_call 112; refine HNO.out.mono ?_; rintro e1 w1 ⟨rfl, rfl⟩)
 go_region_held3 (fun w' => w'.cell? ⟨b, 0, none⟩ = some (ZI ZQ room) ∧ w'.cell? ⟨b, 1, none⟩ = some (.slice a rs.length c))
  (first | exact ⟨c0, c1⟩ | exact ⟨d0, d1⟩ | exact ⟨(World.cell?_alloc_lt _ _ _ d2).trans d0, (World.cell?_alloc_lt _ _ _ d2).trans d1⟩)
  (first | (go_at_call 132; refine (rclone_any rs.length (.slice a rs.length c) rs _ rfl (own_only2 (S := []) hown (by repeat (first | exact Only.refl _ _ | with_reducible refine Only.alloc ?_ _ | with_reducible refine Only.drewN ?_ _ | with_reducible refine Only.drew ?_)) (by simp)) (by omega)).mono ?_; rintro e w5 ⟨v5, rfl, hown5, hB5⟩; obtain ⟨a5, m5, c5, rfl⟩ := own_slice3 hown5; have hbb := (only_of_below hB5 (S := [])).blk (by exact hB) (by simp); have d0 := hbb.cell 0; have d1 := hbb.cell 1; have d2 := hbb.lt))
 all_goals
  go_wp2_with fail
  go_ret
  refine ⟨w5.heap.size, _, rfl, ⟨hr1, hroom, hlen, hgood, _, rfl, Blk.new _ _ _, own_only2 (S := []) (own_zero hown5) ((Only.refl _ _).alloc _) (by simp)⟩, by exact hB5.size, fun k hk => (hown5.lt k hk).1, by first | exact hB5.alloc hB5.size _ | exact bw_alloc' (bw_below' ((Below.refl _ _).drew) hB5) _⟩
end Go.Proofs.YtgicljeedegncaaGreat

namespace Go.Proofs.YtgicljeedegncaaGreat
open List renaming setIfInBounds_toArray → ZD, set_cons_zero → ZE, set_cons_succ → ZF, getElem?_toArray → ZG
open Go.Act renaming put → ZP
open Go.Value renaming int → ZI
open Go.IntKind renaming i64 → ZQ
set_option linter.unusedSimpArgs false
set_option linter.unusedVariables false
open Go.RowKit

/-- A slice of ranges, as a walk reads it. -/
def RgAt (w : World) (a : Option Addr) (rs : List Rg) : Prop := ∀ (i : Nat) (r : Rg), rs[i]? = some r → ∃ k, a = some ⟨k, 0, none⟩ ∧ k < w.heap.size ∧ w.cell? ⟨k, i * 2, none⟩ = some (ZI ZQ r.lo) ∧ w.cell? ⟨k, i * 2 + 1, none⟩ = some (ZI ZQ r.hi)
end Go.Proofs.YtgicljeedegncaaGreat

namespace Go.Proofs.YtgicljeedegncaaGreat
open List renaming setIfInBounds_toArray → ZD, set_cons_zero → ZE, set_cons_succ → ZF, getElem?_toArray → ZG
open Go.Act renaming put → ZP
open Go.Value renaming int → ZI
open Go.IntKind renaming i64 → ZQ
set_option linter.unusedSimpArgs false
set_option linter.unusedVariables false
open Go.RowKit

set_option maxRecDepth 100000 in
set_option maxHeartbeats 4000000 in
theorem delete_some (base n t d g cap : Nat) (cur : List Value) (rs : List Rg) (w : World) (hn : rs.length = n) (hg : base ≤ g) (hB : Blk w g 93 cur.toArray) (hcap : n ≤ cap) (hm : cap ≤ maxLen) (hcl : cur.length = cap * 2) (ht : cur.take (n * 2) = rgsCells rs)
  (hl : n ≤ 1000) (ht0 : 0 < t) (htd : t + d = n) :
  Calls Tryz.prog 153 #[.slice (some ⟨g, 0, none⟩) n cap, ZI ZQ 0, ZI ZQ t] w (RgPost w base (.slice (some ⟨g, 0, none⟩) n cap) (rs.drop t)) := by
 obtain ⟨i0, hi, hz0, hz1, hz2⟩ := info_parts rg_info
 unfold maxLen at hm
 obtain ⟨rest, hcur⟩ := cur_split ht t
 have hlA : (rgsCells (rs.take t)).length = t * 2 := by rw [rgs_length, List.length_take, hn]; congr 1; omega
 have hlD : (rgsCells (rs.drop t)).length = d * 2 := by rw [rgs_length, List.length_drop, hn]; congr 1; omega
 have hlr : (rs.drop t).length = d := by rw [List.length_drop, hn]; omega
 obtain ⟨A, hA⟩ : ∃ A, rgsCells (rs.take t) = A := ⟨_, rfl⟩
 obtain ⟨D, hD⟩ : ∃ D, rgsCells (rs.drop t) = D := ⟨_, rfl⟩
 have h1D : ∀ u ∈ D, u.oneCell' = true := by rw [← hD]; exact rgs_one
 rw [hA] at hcur hlA
 rw [hD] at hcur hlD
 have hdl : d * 2 ≤ cap * 2 := by omega
 have hT1 : (splice cur 0 D).take (d * 2) = D := by unfold splice; rw [List.take_zero, List.nil_append, List.take_left' hlD]
 have hL1 : (splice cur 0 D).length = cap * 2 := by rw [splice_length (by rw [hcl, hlD]; omega), hcl]
 have hfin : ∀ (w' : World) (C : List Value), Blk w' g 93 C.toArray → C.length = cap * 2 → C.take (d * 2) = D → Only [g] w w' → RgPost w base (.slice (some ⟨g, 0, none⟩) n cap) (rs.drop t) (.returned (.slice (some ⟨g, 0, none⟩) d cap)) w' := by
  intro w' C hC hCl hCt hO
  have hfo := own_mk (e := 93) (size := 2) (n := d) (cap := cap) hg hC (by omega) (by unfold maxLen; omega) hCl
  rw [hCt, ← hD] at hfo
  refine ⟨_, rfl, ?_, hO, fun k hk => .inl hk⟩
  rw [hlr]
  exact hfo
 have hDL : D.length = d * i0.size := by rw [hz1, hlD]
 have hfit : 0 * i0.size + D.length ≤ cur.length := by rw [Nat.zero_mul, hlD, hcl]; omega
 have hroom : 0 + d ≤ cap := by omega
 have hsD := src_blk hB hcur hlA
 have hi0 : ((0 : Int) == (t : Int)) = false := by rw [beq_eq_false_iff_ne]; omega
 have hb1 : (t : Int) ≤ (n : Int) := by omega
 have hb2 : (0 : Int) ≤ (t : Int) := by omega
 have hb3 : (d : Int) ≤ (n : Int) := by omega
 have hb4 : (n : Int) ≤ (cap : Int) := by omega
 have hntd : n - t = d := by omega
 have hnd : n - d = t := by omega
 have hc1 : ¬ (cap = d) := by omega
 have HF := hide hfin
 have HT1 := hide hT1
 have HL1 := hide hL1
 have HDL := hide hDL
 have HFIT := hide hfit
 have HSD := hide hsD
 have HB := hide hB
 have H1D := hide h1D
 have HCL := hide hcl
 have HFZ : Hid (d * 2 + t * (Value.agg #[ZI ZQ 0, ZI ZQ 0]).cells.size ≤ (splice cur 0 D).length) := by show d * 2 + t * _ ≤ _; rw [hL1, zcells_size]; omega
 have HLT : Hid ((splice (splice cur 0 D) (d * 2) (Builtin.zeroCells (Value.agg #[ZI ZQ 0, ZI ZQ 0]).cells t).toList).length = cap * 2) := by
  show List.length _ = _
  rw [splice_length (by rw [zeros_length, hL1]; omega), hL1]
 have HTT : Hid ((splice (splice cur 0 D) (d * 2) (Builtin.zeroCells (Value.agg #[ZI ZQ 0, ZI ZQ 0]).cells t).toList).take (d * 2) = D) := by
  show List.take _ _ = _
  rw [take_splice_low (Nat.le_refl _) (by rw [hL1]; omega), hT1]
 clear hfin hT1 hL1 hDL hfit hsD hB h1D hcl hlA hlD hlr hcur hA hD ht hn hdl
 rcases (by omega : cap ≠ t ∨ cap = t) with hct | hct
 ·go_enter Tryz.func153, Tryz.ntmps153
  go_wp2_with fail
  go_region_law (refine step_append_in (s := .tmp 22) (x := .tmp 25) (t := 50) rfl rfl Tryz.underlying50 hi g 0 cap d (cap - t) ⟨g, t * 2, none⟩ cur D (by simp [Act.eval, ZP]) (by simp [Act.eval, ZP]; done) (by exact HB.out) HDL.out (by exact HSD.out) hroom HFIT.out H1D.out ?_; intro w1 hB1 hO1; rw [Nat.zero_mul] at hB1; have HB1 := hide hB1; clear hB1)
  go_wp2_with (with_reducible refine wpList_clear_k (s := .tmp 31) (t := 50) rfl rfl Tryz.underlying50 hi hz0 g (d * 2) t (cap - d) (splice cur 0 D) 93 rfl HB1.out HFZ.out rg_zero_one ?_; intro w2 hB2 hO2)
  go_ret
  exact HF.out _ _ hB2 HLT.out HTT.out ((((Only.refl [g] w).drew).trans hO1 (by simp)).trans hO2 (by simp))
 ·obtain rfl : d = 0 := by omega
  obtain rfl : cap = t := by omega
  obtain rfl : n = cap := by omega
  have HD0 : Hid (D = []) := List.eq_nil_of_length_eq_zero (by rw [HDL.out, Nat.zero_mul])
  have HSE : Hid (∀ (j : Nat) (v : Value), D[j]? = some v → w.cell? ((⟨g, 0, none⟩ : Addr).add j) = some v) := by intro j v hj; rw [HD0.out] at hj; simp at hj
  go_enter Tryz.func153, Tryz.ntmps153
  go_wp2_with fail
  go_region_law (refine step_append_in (s := .tmp 22) (x := .tmp 25) (t := 50) rfl rfl Tryz.underlying50 hi g 0 n 0 0 ⟨g, 0, none⟩ cur D (by simp [Act.eval, ZP]) (by simp [Act.eval, ZP]; done) (by exact HB.out) HDL.out (by exact HSE.out) hroom HFIT.out H1D.out ?_; intro w1 hB1 hO1; rw [Nat.zero_mul] at hB1; have HB1 := hide hB1; clear hB1)
  go_wp2_with (with_reducible refine wpList_clear_k (s := .tmp 31) (t := 50) rfl rfl Tryz.underlying50 hi hz0 g 0 n n (splice cur 0 D) 93 rfl HB1.out HFZ.out rg_zero_one ?_; intro w2 hB2 hO2)
  go_ret
  exact HF.out _ _ hB2 HLT.out HTT.out ((((Only.refl [g] w).drew).trans hO1 (by simp)).trans hO2 (by simp))

set_option maxHeartbeats 1000000 in
/-- slices.Delete of the first ones. -/
theorem delete_any (base n t : Nat) (v : Value) (rs : List Rg) (w : World) (hn : rs.length = n) (hown : w.ownsRow base 93 2 v n (rgsCells rs)) (hl : n ≤ 1000) (ht : t ≤ n) :
  Calls Tryz.prog 153 #[v, ZI ZQ 0, ZI ZQ t] w (RgPost w base v (rs.drop t)) := by
 rcases Nat.eq_zero_or_pos t with rfl | h0
 ·have hP : RgPost w base v (rs.drop 0) (.returned v) w := ⟨v, rfl, by rw [List.drop_zero, hn]; exact hown, Only.refl _ w, fun k hk => .inl hk⟩
  have HP := hide hP
  clear hP
  rcases own_split hown with ⟨rfl, rfl, _⟩ | ⟨g, cap, cur, rfl, hg, hB, hc, hm, hcl, htk⟩
  ·clear hown hn
   go_enter Tryz.func153, Tryz.ntmps153
   go_wp2_with fail
   go_ret
   exact HP.out
  ·have hb1 : (0 : Int) ≤ (n : Int) := by omega
   have hb4 : (n : Int) ≤ (cap : Int) := by omega
   clear hown hn hB hcl htk
   go_enter Tryz.func153, Tryz.ntmps153
   go_wp2_with fail
   go_ret
   exact HP.out
 ·rcases own_split hown with ⟨_, h1, _⟩ | ⟨g, cap, cur, rfl, hg, hB, hc, hm, hcl, htk⟩
  ·omega
  ·exact delete_some base n t (n - t) g cap cur rs w hn hg hB hc hm hcl htk hl h0 (by omega)
end Go.Proofs.YtgicljeedegncaaGreat

namespace Go.Proofs.YtgicljeedegncaaGreat
open List renaming setIfInBounds_toArray → ZD, set_cons_zero → ZE, set_cons_succ → ZF, getElem?_toArray → ZG
open Go.Act renaming put → ZP
open Go.Value renaming int → ZI
open Go.IntKind renaming i64 → ZQ
set_option linter.unusedVariables false
set_option linter.unusedSimpArgs false
open Go.RowKit

theorem good_drop {rs : List Rg} (h : GoodR rs) (k : Nat) : GoodR (rs.drop k) :=
 ⟨h.sorted.sublist (List.drop_sublist _ _), fun x hx => h.le x (List.mem_of_mem_drop hx), fun x hx => h.lo x (List.mem_of_mem_drop hx), fun x hx => h.hi x (List.mem_of_mem_drop hx)⟩
/-- The least number of the first range is another. -/
theorem IsSet.setLo {w : World} {b k room : Nat} {r : Rg} {t : List Rg} {J : Int} (h : IsSet w b (some k) room (r :: t)) (hg : GoodR (⟨J, r.hi⟩ :: t)) : IsSet (w.setCell ⟨k, 0, none⟩ (ZI ZQ J)) b (some k) room (⟨J, r.hi⟩ :: t) := by
 obtain ⟨_, hkb⟩ := h.lt
 have hne := (hkb k rfl).2
 obtain ⟨h1, h2, h3, h4, v, hv, hB, hr⟩ := h
 refine ⟨h1, h2, h3, hg, v, hv, hB.far (fun e => hne e.symm) _, ?_⟩
 rcases own_split hr with ⟨rfl, h0, hx⟩ | ⟨g, cap, cur, rfl, hgb, hk, hc, hm, hcl, ht⟩
 ·cases hv
 ·cases hv
  have hk2 := hk.set 0 (ZI ZQ J)
  rw [ZD] at hk2
  have hfo := own_mk (e := 93) (size := 2) (n := (r :: t).length) (cap := cap) hgb hk2 hc hm (by rw [List.length_set]; exact hcl)
  rw [List.take_set, ht] at hfo
  exact hfo

set_option maxRecDepth 100000 in
set_option maxHeartbeats 4000000 in
theorem cut_ok (b : Nat) (g : Option Nat) (room : Nat) (n : Int) (rs : List Rg) (w : World) (hS : IsSet w b g room rs) (l0 : 0 ≤ n) (l1 : n ≤ 9007199254740991) :
  Calls Tryz.prog 106 #[.pointer (some ⟨b, 0, none⟩), ZI ZQ n] w (SAddPost w b g room (cutR n rs)) := by
 obtain ⟨hlen, hr1, hroom⟩ := hS.len
 have hgood := hS.good
 have hb := hS.lt.1
 obtain ⟨ac, kc, q0, q1, hv, hB, hown, _⟩ := hS.cells
 have HNO := hide (snone_no b room w q0 hr1)
 have HV := hide hv
 have hgl := hide (fun k (e : g = some k) => hS.lt.2 k e)
 have hbg := hide (show b ∉ g.toList from fun hm => absurd rfl ((hgl.out b (by simpa using hm)).2))
 obtain ⟨f, hf⟩ : ∃ f, fstHi n rs = f := ⟨_, rfl⟩
 obtain ⟨ys, hys⟩ : ∃ ys, rs.drop f = ys := ⟨_, rfl⟩
 have hfn : f ≤ rs.length := by rw [← hf]; exact fstLe_hi _ _
 have hcut := cutR_eq n rs
 rw [hf, hys] at hcut
 have hyl : ys.length ≤ room := by rw [← hys, List.length_drop]; omega
 have hyg : GoodR ys := by rw [← hys]; exact good_drop hgood f
 have hcg : GoodR (cutR n rs) := cutR_good hgood
 rw [hcut] at hcg ⊢
 have HF := hide hf
 have HY := hide hys
 clear hv hf hys hcut
 have HFI : Hid (∀ W, Below w.heap.size w W → Calls Tryz.prog 114 #[.pointer (some ⟨b, 0, none⟩), ZI ZQ n] W fun e w' => e = .returned (ZI ZQ f) ∧ Below w.heap.size w w' ∧ w'.cell? ⟨b, 1, none⟩ = some (.slice ac rs.length kc) ∧ b < w'.heap.size) := fun W hW => (first_any b g room n rs W (hS.below hW)).mono fun e w' ⟨h1, h2⟩ => by
  have h3 := bw_below' hW h2
  refine ⟨by rw [h1, HF.out], h3, ?_, Nat.lt_of_lt_of_le hb h3.size⟩
  rw [((only_of_below (S := []) h3).blk hB (by simp)).cell 1]
  rfl
 have HDE : Hid (∀ W, Below w.heap.size w W → Calls Tryz.prog 153 #[.slice ac rs.length kc, ZI ZQ 0, ZI ZQ f] W fun e w' => ∃ a5 c5, e = .returned (.slice a5 ys.length c5) ∧ w'.ownsRow 0 93 2 (.slice a5 ys.length c5) ys.length (rgsCells ys) ∧ Only g.toList W w' ∧ (∀ k, (Value.slice a5 ys.length c5).ownBlock = some k → g = some k ∨ W.heap.size ≤ k) ∧ Blk w' b 121 #[ZI ZQ room, .slice ac rs.length kc] ∧ SAddPost w b g room ys (.returned (ZI ZQ 0)) (w'.setCell ⟨b, 1, none⟩ (.slice a5 ys.length c5))) := fun W hW => by
  have hown' := own_only2 (S := []) hown (only_of_below hW) (by simp)
  refine (delete_any 0 rs.length f (.slice ac rs.length kc) rs W rfl hown' (by omega) hfn).mono ?_
  rintro e w' ⟨v5, rfl, h1, h2, h3⟩
  rw [HY.out] at h1
  obtain ⟨a5, c5, rfl⟩ := own_slice' h1
  rw [HV.out] at h2 h3
  have hbb := h2.blk ((only_of_below (S := []) hW).blk hB (by simp)) hbg.out
  exact ⟨a5, c5, rfl, h1, h2, h3, hbb, add_done hr1 hroom hyl hyg hbb h1 h2 h3 hW hb hgl.out (Nat.le_refl _)⟩
 clear hS hB hown
 cases ys with
 | nil =>
  go_enter Tryz.func106, Tryz.ntmps106
  go_wp2_with (first | (go_at_call 112; refine HNO.out.mono ?_; rintro e1 w1 ⟨rfl, rfl⟩) | (go_at_call 113; refine (sis_yes n _ l0 l1).mono ?_; rintro e2 w2 ⟨rfl, rfl⟩))
  refine wp_region_S (fun w' => w'.cell? ⟨b, 1, none⟩ = some (.slice ac rs.length kc)) 11 (by kernel_rfl) (by exact q1) (fun hHeld => ?_)
  refine tsP 0 ?v1 rfl ?hy1 ?rest1
  case hy1 => intro w hSw; (try dsimp only at hSw); go_simp; try with_reducible rfl
  try simp only [ZP, ZD, ZE, ZF]
  refine tsP 1 ?v2 rfl ?hy2 ?rest2
  case hy2 => intro w hSw; (try dsimp only at hSw); go_simp; try with_reducible rfl
  try simp only [ZP, ZD, ZE, ZF]
  refine tsP 2 ?v3 rfl ?hy3 ?rest3
  case hy3 => intro w hSw; (try dsimp only at hSw); go_simp; try with_reducible rfl
  try simp only [ZP, ZD, ZE, ZF]
  refine tsP 3 ?v4 rfl ?hy4 ?rest4
  case hy4 => intro w hSw; (try dsimp only at hSw); go_simp; try with_reducible rfl
  try simp only [ZP, ZD, ZE, ZF]
  refine tsP 4 ?v5 rfl ?hy5 ?rest5
  case hy5 => intro w hSw; (try dsimp only at hSw); go_simp; try with_reducible rfl
  try simp only [ZP, ZD, ZE, ZF]
  refine tsP 5 ?v6 rfl ?hy6 ?rest6
  case hy6 => intro w hSw; (try dsimp only at hSw); go_simp; try with_reducible rfl
  try simp only [ZP, ZD, ZE, ZF]
  refine tsP 6 ?v7 rfl ?hy7 ?rest7
  case hy7 => intro w hSw; (try dsimp only at hSw); go_simp; try with_reducible rfl
  try simp only [ZP, ZD, ZE, ZF]
  refine wpAnyS_one (i := 7) rfl (by kernel_rfl) (fun K hK => ?_)
  go_simp; go_at_call 114; refine (HFI.out _ (by first | exact Below.refl _ _ | exact below_drewN (Below.refl _ _) _)).mono ?_; rintro e3 w3 ⟨rfl, hb3, z1, zb⟩
  refine hK.out _ _ (fun _ => z1) (fun hH => ?_)
  have hHeld := hH rfl
  clear hK K hH
  try simp only [ZP, ZD, ZE, ZF]
  refine wpAnyS_one (i := 8) rfl (by kernel_rfl) (fun K hK => ?_)
  go_simp; go_at_call 153; refine (HDE.out _ (by first | exact hb3 | exact below_drewN hb3 _)).mono ?_; rintro e5 w5 ⟨a5, c5, rfl, hown5, hO5, hB5, hbb, hdone⟩; have z0 := hbb.cell 1; have z2 := hbb.frozen 1
  refine hK.out _ _ (fun _ => z0) (fun hH => ?_)
  have hHeld := hH rfl
  clear hK K hH
  try simp only [ZP, ZD, ZE, ZF]
  refine wpAnyS_one (i := 9) rfl (by kernel_rfl) (fun K hK => ?_)
  go_simp
  refine hK.out _ _ (fun _ => z0) (fun hH => ?_)
  have hHeld := hH rfl
  clear hK K hH
  try simp only [ZP, ZD, ZE, ZF]
  refine wpAnyS_one (i := 10) rfl (by kernel_rfl) (fun K hK => ?_)
  go_simp
  refine hK.out _ _ (fun _ => z0) (fun hH => ?_)
  have hHeld := hH rfl
  clear hK K hH
  try simp only [ZP, ZD, ZE, ZF]
  refine wpAnyS_one (i := 11) rfl (by kernel_rfl) (fun K hK => ?_)
  go_simp
  refine hK.out _ _ (fun h => absurd h (by decide)) (fun _ => ?_)
  clear hK K
  try simp only [ZP, ZD, ZE, ZF]
  refine wpAnyS_done (by kernel_rfl) ?_ _
  all_goals
   have HD := hide hdone
   clear hdone
   go_wp2_with fail
   go_ret
   exact HD.out
 | cons r t =>
  have hpos : (0 : Int) < (t.length : Int) + 1 := by omega
  obtain ⟨J, hJ⟩ : ∃ J, max r.lo n = J := ⟨_, rfl⟩
  have hP : (if r.lo < n then n else r.lo) = J := by rw [← hJ]; split <;> omega
  dsimp only at hcg ⊢
  rw [hJ] at hcg ⊢
  clear hJ
  go_enter Tryz.func106, Tryz.ntmps106
  go_wp2_with (first | (go_at_call 112; refine HNO.out.mono ?_; rintro e1 w1 ⟨rfl, rfl⟩) | (go_at_call 113; refine (sis_yes n _ l0 l1).mono ?_; rintro e2 w2 ⟨rfl, rfl⟩))
  refine wp_region_S (fun w' => w'.cell? ⟨b, 1, none⟩ = some (.slice ac rs.length kc)) 11 (by kernel_rfl) (by exact q1) (fun hHeld => ?_)
  refine tsP 0 ?v8 rfl ?hy8 ?rest8
  case hy8 => intro w hSw; (try dsimp only at hSw); go_simp; try with_reducible rfl
  try simp only [ZP, ZD, ZE, ZF]
  refine tsP 1 ?v9 rfl ?hy9 ?rest9
  case hy9 => intro w hSw; (try dsimp only at hSw); go_simp; try with_reducible rfl
  try simp only [ZP, ZD, ZE, ZF]
  refine tsP 2 ?v10 rfl ?hy10 ?rest10
  case hy10 => intro w hSw; (try dsimp only at hSw); go_simp; try with_reducible rfl
  try simp only [ZP, ZD, ZE, ZF]
  refine tsP 3 ?v11 rfl ?hy11 ?rest11
  case hy11 => intro w hSw; (try dsimp only at hSw); go_simp; try with_reducible rfl
  try simp only [ZP, ZD, ZE, ZF]
  refine tsP 4 ?v12 rfl ?hy12 ?rest12
  case hy12 => intro w hSw; (try dsimp only at hSw); go_simp; try with_reducible rfl
  try simp only [ZP, ZD, ZE, ZF]
  refine tsP 5 ?v13 rfl ?hy13 ?rest13
  case hy13 => intro w hSw; (try dsimp only at hSw); go_simp; try with_reducible rfl
  try simp only [ZP, ZD, ZE, ZF]
  refine tsP 6 ?v14 rfl ?hy14 ?rest14
  case hy14 => intro w hSw; (try dsimp only at hSw); go_simp; try with_reducible rfl
  try simp only [ZP, ZD, ZE, ZF]
  refine wpAnyS_one (i := 7) rfl (by kernel_rfl) (fun K hK => ?_)
  go_simp; go_at_call 114; refine (HFI.out _ (by first | exact Below.refl _ _ | exact below_drewN (Below.refl _ _) _)).mono ?_; rintro e3 w3 ⟨rfl, hb3, z1, zb⟩
  refine hK.out _ _ (fun _ => z1) (fun hH => ?_)
  have hHeld := hH rfl
  clear hK K hH
  try simp only [ZP, ZD, ZE, ZF]
  refine wpAnyS_one (i := 8) rfl (by kernel_rfl) (fun K hK => ?_)
  go_simp; go_at_call 153; refine (HDE.out _ (by first | exact hb3 | exact below_drewN hb3 _)).mono ?_; rintro e5 w5 ⟨a5, c5, rfl, hown5, hO5, hB5, hbb, hdone⟩; have z0 := hbb.cell 1; have z2 := hbb.frozen 1
  refine hK.out _ _ (fun _ => z0) (fun hH => ?_)
  have hHeld := hH rfl
  clear hK K hH
  try simp only [ZP, ZD, ZE, ZF]
  refine wpAnyS_one (i := 9) rfl (by kernel_rfl) (fun K hK => ?_)
  go_simp
  refine hK.out _ _ (fun _ => z0) (fun hH => ?_)
  have hHeld := hH rfl
  clear hK K hH
  try simp only [ZP, ZD, ZE, ZF]
  refine wpAnyS_one (i := 10) rfl (by kernel_rfl) (fun K hK => ?_)
  go_simp
  refine hK.out _ _ (fun _ => z0) (fun hH => ?_)
  have hHeld := hH rfl
  clear hK K hH
  try simp only [ZP, ZD, ZE, ZF]
  refine wpAnyS_one (i := 11) rfl (by kernel_rfl) (fun K hK => ?_)
  go_simp
  refine hK.out _ _ (fun h => absurd h (by decide)) (fun _ => ?_)
  clear hK K
  try simp only [ZP, ZD, ZE, ZF]
  refine wpAnyS_done (by kernel_rfl) ?_ _
  all_goals
   obtain ⟨_, g5, HS5, hg5, hO5w⟩ := hdone
   have HSS := hide HS5
   have HOO := hide hO5w
   have HGG := hide hg5
   clear HS5 hO5w hg5
   go_wp2_with fail
   refine name_world (fun W => IsSet W b g5 room (r :: t) ∧ Only (b :: g.toList) w W) ⟨by first | exact HSS.out | exact HSS.out.drewN _, by first | exact HOO.out | exact HOO.out.drewN _⟩ ?_
   clear HSS HOO z0 z2 hbb hown5 hO5 hB5
   have hg7 := HGG.out
   clear HGG
   rintro W ⟨HS5, hOW⟩
   obtain ⟨a7, c7, _, q7, hv7, _, hown7, hat7⟩ := HS5.cells
   obtain ⟨k, rfl, hkl, zk, _⟩ := hat7 0 r rfl
   have hk5 : g5 = some k := hv7.symm
   subst hk5
   have hkb := (HS5.lt.2 k rfl).2
   have zf : W.frozen? ⟨k, 0, none⟩ = false := by
    rcases own_split hown7 with ⟨e, _, _⟩ | ⟨g, cap, cur, e, _, hk, _⟩
    ·cases e
    ·cases e
     exact hk.frozen 0
   have HS7 := hide HS5
   have HO7 := hide hOW
   have HKB := hide hkb
   clear HS5 hOW hat7 hown7 hv7 hkb
   rw [List.length_cons] at q7
   rw [Nat.zero_mul] at zk
   refine wp_region_S (fun w' => w'.cell? ⟨b, 1, none⟩ = some (.slice (some ⟨k, 0, none⟩) (t.length + 1) c7) ∧ w'.cell? ⟨k, 0, none⟩ = some (ZI ZQ r.lo)) 15 (by kernel_rfl) (by exact ⟨q7, zk⟩) (fun hHeld => ?_)
   refine tsP 0 ?v15 rfl ?hy15 ?rest15
   case hy15 => intro w hSw; (try dsimp only at hSw); go_simp; try with_reducible rfl
   try simp only [ZP, ZD, ZE, ZF]
   refine tsP 1 ?v16 rfl ?hy16 ?rest16
   case hy16 => intro w hSw; (try dsimp only at hSw); go_simp; try with_reducible rfl
   try simp only [ZP, ZD, ZE, ZF]
   refine tsP 2 ?v17 rfl ?hy17 ?rest17
   case hy17 => intro w hSw; (try dsimp only at hSw); go_simp; try with_reducible rfl
   try simp only [ZP, ZD, ZE, ZF]
   refine tsP 3 ?v18 rfl ?hy18 ?rest18
   case hy18 => intro w hSw; (try dsimp only at hSw); go_simp; try with_reducible rfl
   try simp only [ZP, ZD, ZE, ZF]
   refine tsP 4 ?v19 rfl ?hy19 ?rest19
   case hy19 => intro w hSw; (try dsimp only at hSw); go_simp; try with_reducible rfl
   try simp only [ZP, ZD, ZE, ZF]
   refine tsP 5 ?v20 rfl ?hy20 ?rest20
   case hy20 => intro w hSw; (try dsimp only at hSw); go_simp; try with_reducible rfl
   try simp only [ZP, ZD, ZE, ZF]
   refine tsP 6 ?v21 rfl ?hy21 ?rest21
   case hy21 => intro w hSw; (try dsimp only at hSw); go_simp; try with_reducible rfl
   try simp only [ZP, ZD, ZE, ZF]
   refine tsP 7 ?v22 rfl ?hy22 ?rest22
   case hy22 => intro w hSw; (try dsimp only at hSw); go_simp; try with_reducible rfl
   try simp only [ZP, ZD, ZE, ZF]
   refine tsP 8 ?v23 rfl ?hy23 ?rest23
   case hy23 => intro w hSw; (try dsimp only at hSw); go_simp; try with_reducible rfl
   try simp only [ZP, ZD, ZE, ZF]
   refine tsP 9 ?v24 rfl ?hy24 ?rest24
   case hy24 => intro w hSw; (try dsimp only at hSw); go_simp; try with_reducible rfl
   try simp only [ZP, ZD, ZE, ZF]
   refine tsP 10 ?v25 rfl ?hy25 ?rest25
   case hy25 => intro w hSw; (try dsimp only at hSw); go_simp; try with_reducible rfl
   try simp only [ZP, ZD, ZE, ZF]
   refine tsP 11 ?v26 rfl ?hy26 ?rest26
   case hy26 => intro w hSw; (try dsimp only at hSw); go_simp; try with_reducible rfl
   try simp only [ZP, ZD, ZE, ZF]
   refine tsP 12 ?v27 rfl ?hy27 ?rest27
   case hy27 => intro w hSw; (try dsimp only at hSw); go_simp; try with_reducible rfl
   try simp only [ZP, ZD, ZE, ZF]
   refine wpAnyS_one (i := 13) rfl (by kernel_rfl) (fun K hK => ?_)
   go_simp
   refine hK.out _ _ (fun _ => hHeld) (fun hH => ?_)
   have hHeld := hH rfl
   clear hK K hH
   try simp only [ZP, ZD, ZE, ZF]
   refine wpAnyS_one (i := 14) rfl (by kernel_rfl) (fun K hK => ?_)
   go_simp
   refine hK.out _ _ (fun _ => hHeld) (fun hH => ?_)
   have hHeld := hH rfl
   clear hK K hH
   try simp only [ZP, ZD, ZE, ZF]
   refine wpAnyS_one (i := 15) rfl (by kernel_rfl) (fun K hK => ?_)
   go_simp
   refine hK.out _ _ (fun h => absurd h (by decide)) (fun _ => ?_)
   clear hK K
   try simp only [ZP, ZD, ZE, ZF]
   refine wpAnyS_done (by kernel_rfl) ?_ _
   all_goals
    go_wp2_with fail
    go_ret
    refine ⟨rfl, some k, ?_, hg7, ?_⟩
    ·first | exact (HS7.out.setLo hcg).drew | exact HS7.out.setLo hcg | exact (HS7.out.setLo hcg).drewN _
    ·have hkm : k ∈ b :: g.toList ∨ w.heap.size ≤ k := by
      rcases hg7 k rfl with h | h
      ·exact .inl (by rw [h]; simp)
      ·exact .inr h
     first | exact (HO7.out.setCell hkm _).drew | exact HO7.out.setCell hkm _ | exact (HO7.out.setCell hkm _).drewN _
end Go.Proofs.YtgicljeedegncaaGreat

namespace Go.Proofs.YtgicljeedegncaaGreat
open List renaming setIfInBounds_toArray → ZD, set_cons_zero → ZE, set_cons_succ → ZF, getElem?_toArray → ZG
open Go.Act renaming put → ZP
open Go.Value renaming int → ZI
open Go.IntKind renaming i64 → ZQ
set_option linter.unusedSimpArgs false
set_option linter.unusedVariables false
open Go.RowKit

end Go.Proofs.YtgicljeedegncaaGreat
