/-
 2 texts in one (SpanInsert, SpanReplace).
-/
import Derived.Test.YtgicljeedegncaaGreatTqSpanRow
namespace Go.Proofs.YtgicljeedegncaaGreat
open Go.Act renaming put → ZP
open Go.Value renaming int → ZI
open Go.IntKind renaming i64 → ZQ
set_option linter.unusedSimpArgs false
set_option linter.unusedVariables false
open Go.RowKit

/-- What a call leaves that hands back a row. -/
def RgPost (w : World) (base : Nat) (v : Value) (ys : List Rg) (e : Ending) (w' : World) : Prop :=
 ∃ v', e = .returned v' ∧ w'.ownsRow base 93 2 v' ys.length (rgsCells ys) ∧ Only v.ownBlock.toList w w' ∧ (∀ k, v'.ownBlock = some k → v.ownBlock = some k ∨ w.heap.size ≤ k)

theorem rg_shape (rs : List Rg) (x : Rg) (f : Nat) (hf : f ≤ rs.length) : (rs.take f ++ x :: rs.drop f).length = rs.length + 1 ∧ rgsCells (rs.take f ++ x :: rs.drop f) = rgsCells (rs.take f) ++ (rgCells x ++ rgsCells (rs.drop f)) := by
 refine ⟨by simp; omega, by simp [rgsCells]⟩

set_option maxRecDepth 100000 in
set_option maxHeartbeats 2000000 in
theorem insert_end (base n c xb : Nat) (v : Value) (rs : List Rg) (x : Rg) (w : World) (hn : rs.length = n) (hown : w.ownsRow base 93 2 v n (rgsCells rs)) (hx : Blk w xb 93 #[ZI ZQ x.lo, ZI ZQ x.hi]) (hl : n ≤ 1000) (hb : base ≤ w.heap.size) :
  Calls Tryz.prog 157 #[v, ZI ZQ n, .slice (some ⟨xb, 0, none⟩) 1 c] w (RgPost w base v (rs.take n ++ x :: rs.drop n)) := by
 obtain ⟨i0, hi, hz0, hz1, hz2⟩ := info_parts rg_info
 have hR : Reads w w.heap.size 2 (some ⟨xb, 0, none⟩) 1 (rgCells x) := reads_lit (cs := rgCells x) hx hx.lt rfl
 obtain ⟨hs1, hs2⟩ := rg_shape rs x n (by omega)
 have HS1 := hide hs1
 have HS2 := hide hs2
 have HN := hide hn
 have H1 : Hid (∀ u ∈ rgCells x, u.oneCell' = true) := by intro u hu; simp [rgCells] at hu; rcases hu with rfl | rfl <;> rfl
 have hfin : ∀ v' w1, w1.ownsRow base 93 2 v' (n + 1) (rgsCells rs ++ rgCells x) → w.grownBy w1 v.ownBlock → (v'.ownBlock = v.ownBlock ∨ v'.ownBlock = some w.heap.size) → RgPost w base v (rs.take n ++ x :: rs.drop n) (.returned v') w1 := by
  intro v' w1 h1 h2 h3
  refine ⟨v', rfl, ?_, ⟨h2.os, h2.tape, h2.output, h2.size, fun i hi hni => h2.block i hi (fun e => hni (by rw [← e]; simp))⟩, fun k hk => ?_⟩
  ·rw [hs1, hs2, hn]
   rw [← hn, List.take_length, List.drop_length, hn]
   simpa [rgsCells] using h1
  ·rcases h3 with h3 | h3
   ·exact .inl (h3 ▸ hk)
   ·rw [h3] at hk; cases hk; exact .inr (Nat.le_refl _)
 have HF := hide hfin
 clear hs1 hs2 hn hfin
 rcases hown.2 with ⟨rfl, hn0⟩ | ⟨g, cap, cur, rfl, hg, hh, hc, hm, hs, ht⟩
 ·subst hn0
  go_enter Tryz.func157, Tryz.ntmps157
  go_wp2_with (at_builtin; refine wpList_append_any _ rfl (.tmp 23) (.tmp 24) _ rfl base 93 i0 _ 2 16 Tryz.underlying50 hi hz0 hz1 hz2 rfl (by decide) (.slice none 0 0) 0 (rgsCells rs) rfl hown w.heap.size (some ⟨xb, 0, none⟩) 1 c (rgCells x) rfl hR H1.out (by unfold maxLen; omega) (by omega) hb ?_; intro v' w1 hown1 hg1 hat1)
  go_ret
  exact HF.out _ _ hown1 hg1 hat1
 ·unfold maxLen at hm
  go_enter Tryz.func157, Tryz.ntmps157
  go_wp2_with (at_builtin; refine wpList_append_any _ rfl (.tmp 23) (.tmp 24) _ rfl base 93 i0 _ 2 16 Tryz.underlying50 hi hz0 hz1 hz2 rfl (by decide) (.slice (some ⟨g, 0, none⟩) n cap) n (rgsCells rs) rfl hown w.heap.size (some ⟨xb, 0, none⟩) 1 c (rgCells x) rfl hR H1.out (by unfold maxLen; omega) (by omega) hb ?_; intro v' w1 hown1 hg1 hat1)
  all_goals
   go_ret
   exact HF.out _ _ hown1 hg1 hat1

theorem shift_take {cur A D X rest : List Value} {a d : Nat} (h : cur = A ++ (D ++ rest)) (ha : A.length = a) (hX : X.length = 2) (hd : D.length = d) (hr : 2 ≤ rest.length) : (splice (splice cur (a + 2) D) a X).take (a + 2 + d) = A ++ (X ++ D) ∧ (splice (splice cur (a + 2) D) a X).length = cur.length := by
 have e1 : cur.take (a + 2) = A ++ (D ++ rest).take 2 := by rw [h, List.take_append, ha, List.take_of_length_le (by omega)]; congr 2; omega
 have hm : ((D ++ rest).take 2).length = 2 := by simp; omega
 have hl : a + 2 + D.length ≤ cur.length := by rw [h]; simp; omega
 have e2 : splice cur (a + 2) D = A ++ ((D ++ rest).take 2 ++ (D ++ cur.drop (a + 2 + D.length))) := by unfold splice; rw [e1, List.append_assoc]
 refine ⟨?_, ?_⟩
 ·rw [e2, splice_mid ha (by omega), ← List.append_assoc, ← List.append_assoc, List.take_left' (by simp; omega), List.append_assoc]
 ·rw [splice_length (by rw [splice_length hl]; omega), splice_length hl]
theorem x_one (x : Rg) : ∀ u ∈ rgCells x, u.oneCell' = true := by intro u hu; simp [rgCells] at hu; rcases hu with rfl | rfl <;> rfl

set_option maxRecDepth 100000 in
set_option maxHeartbeats 4000000 in
theorem insert_shift (base n c xb f g cap : Nat) (cur : List Value) (rs : List Rg) (x : Rg) (w : World) (hn : rs.length = n) (hg : base ≤ g) (hB : Blk w g 93 cur.toArray) (hcap : n < cap) (hm : cap ≤ maxLen) (hcl : cur.length = cap * 2) (ht : cur.take (n * 2) = rgsCells rs)
  (hx : Blk w xb 93 #[ZI ZQ x.lo, ZI ZQ x.hi]) (hne : xb ≠ g) (hl : n ≤ 1000) (hf : f < n) :
  Calls Tryz.prog 157 #[.slice (some ⟨g, 0, none⟩) n cap, ZI ZQ f, .slice (some ⟨xb, 0, none⟩) 1 c] w (RgPost w base (.slice (some ⟨g, 0, none⟩) n cap) (rs.take f ++ x :: rs.drop f)) := by
 obtain ⟨i0, hi, hz0, hz1, hz2⟩ := info_parts rg_info
 unfold maxLen at hm
 obtain ⟨rest, hcur⟩ := cur_split ht f
 obtain ⟨hs1, hs2⟩ := rg_shape rs x f (by omega)
 have hlA : (rgsCells (rs.take f)).length = f * 2 := by rw [rgs_length, List.length_take, hn]; congr 1; omega
 have hlD : (rgsCells (rs.drop f)).length = (n - f) * 2 := by rw [rgs_length, List.length_drop, hn]
 obtain ⟨A, hA⟩ : ∃ A, rgsCells (rs.take f) = A := ⟨_, rfl⟩
 obtain ⟨D, hD⟩ : ∃ D, rgsCells (rs.drop f) = D := ⟨_, rfl⟩
 have h1D : ∀ u ∈ D, u.oneCell' = true := by rw [← hD]; exact rgs_one
 rw [hA] at hcur hlA hs2
 rw [hD] at hcur hlD hs2
 have hrl : rest.length = cap * 2 - n * 2 := by
  have := congrArg List.length hcur; simp only [List.length_append, hlA, hlD, hcl] at this; have h2 : f * 2 + (n - f) * 2 = n * 2 := by rw [← Nat.add_mul]; congr 1; omega
  omega
 have hov := fun lb cb => overlaps_apart (w := w) 0 ((f + 1) * 2) 1 c lb cb hx hB hne (by simp only [List.size_toArray]; rw [hcl]; omega)
 have hw1 : IntKind.i64.wrap ((f : Int) + 1) = (f : Int) + 1 := by rw [IntKind.wrap_i64]; omega
 have hb1 : (0 : Int) ≤ (f : Int) + 1 := by omega
 have hb3 : (f : Int) ≤ (n : Int) + 1 := by omega
 have hb5 : (f : Int) + 1 ≤ (n : Int) + 1 := by omega
 have htn : ((f : Int) + 1).toNat = f + 1 := by omega
 have hc1 : ¬ (cap = f) := by omega
 have hc2 : ¬ (cap = f + 1) := by omega
 have e1 : ((f : Int) == (n : Int)) = false := by rw [beq_eq_false_iff_ne]; omega
 have HCUR := hide hcur
 have HS1 := hide hs1
 have HS2 := hide hs2
 have HLA := hide hlA
 have HLD := hide hlD
 have HRL := hide hrl
 have HCL := hide hcl
 have HN := hide hn
 have HT := hide ht
 have HAA := hide hA
 have HDD := hide hD
 have HOV := hide hov
 have HX := hide hx
 have HB := hide hB
 have H1D := hide h1D
 clear hcur hs1 hs2 hlA hlD hrl hcl hn ht hA hD hov hx hB h1D
 go_enter Tryz.func157, Tryz.ntmps157
 go_wp2_with (simp only [HOV.out])
 go_region_law (refine step_copy_k (d := .tmp 73) (s := .tmp 76) (dT := 50) (sT := 50) rfl rfl Tryz.underlying50 hi g ((f + 1) * 2) (n + 1 - (f + 1)) (cap - (f + 1)) ⟨g, f * 2, none⟩ (n + 1 - f) (cap - f) (n - f) cur D 93 (by simp [Act.eval, ZP]) (by simp [Act.eval, ZP]) (by exact HB.out) (by simp only [Nat.min_def]; split <;> omega) (by rw [HLD.out, hz1]) (by exact src_blk HB.out HCUR.out HLA.out) (by rw [HLD.out, HCL.out]; omega) H1D.out ?_; intro w1 hB1 hO1; have hx1 := hO1.blk HX.out (by simpa using hne); have HB1 := hide hB1; clear hB1)
 have hsrcX : ∀ j v, (rgCells x)[j]? = some v → w1.cell? ((⟨xb, 0, none⟩ : Addr).add j) = some v := src_blk hx1 (pre := []) (cs := rgCells x) (post := []) rfl rfl
 have hfit2 : f * 2 + (rgCells x).length ≤ (splice cur ((f + 1) * 2) D).length := by rw [splice_length (by rw [HLD.out, HCL.out]; omega), HCL.out]; show f * 2 + 2 ≤ _; omega
 have hx1c := x_one x
 have hx1l : (rgCells x).length = 1 * i0.size := by rw [hz1]; rfl
 have hmin : Nat.min 1 (n + 1 - f) = 1 := by simp only [Nat.min_def]; split <;> omega
 have HSX := hide hsrcX
 have HF2 := hide hfit2
 have HXC := hide hx1c
 have HXL := hide hx1l
 have HMN := hide hmin
 clear hsrcX hfit2 hx1c hx1l hmin hx1
 go_wp2_with (with_reducible refine wpList_copy_k (d := .tmp 80) (s := .tmp 81) (dT := 50) (sT := 50) rfl rfl Tryz.underlying50 hi g (f * 2) (n + 1 - f) (cap - f) ⟨xb, 0, none⟩ 1 c 1 (splice cur ((f + 1) * 2) D) (rgCells x) 93 rfl rfl HB1.out HMN.out HXL.out HSX.out HF2.out HXC.out ?_; intro w2 hB2 hO2)
 go_ret
 have e2 : (f + 1) * 2 = f * 2 + 2 := by omega
 rw [e2] at hB2
 obtain ⟨k1, k2⟩ := shift_take HCUR.out HLA.out (rgCells_length x) HLD.out (by rw [HRL.out]; omega)
 have h3 : (n + 1) * 2 = f * 2 + 2 + (n - f) * 2 := by omega
 have hfo := own_mk (e := 93) (size := 2) (n := n + 1) (cap := cap) hg hB2 (by omega) (by unfold maxLen; omega) (by rw [k2, HCL.out])
 rw [h3, k1] at hfo
 refine ⟨_, rfl, ?_, ((Only.refl _ w).drew.trans hO1 (by simp [Value.ownBlock])).trans hO2 (by simp [Value.ownBlock]), fun k hk => .inl hk⟩
 rw [HS1.out, HS2.out, HN.out]
 exact hfo

theorem grow_take {cur A D X : List Value} {a d : Nat} (h : cur.take a = A) (ha : A.length = a) (hX : X.length = 2) (hd : D.length = d) (hl : a + 2 + d ≤ cur.length) : (splice (splice cur a X) (a + 2) D).take (a + 2 + d) = A ++ (X ++ D) ∧ (splice (splice cur a X) (a + 2) D).length = cur.length := by
 have e1 : splice cur a X = A ++ (X ++ cur.drop (a + 2)) := by unfold splice; rw [h, hX]
 have e2 : splice (splice cur a X) (a + 2) D = (A ++ X) ++ (D ++ (cur.drop (a + 2)).drop d) := by
  rw [e1, ← List.append_assoc]
  have hAX : (A ++ X).length = a + 2 := by simp; omega
  show ((A ++ X) ++ cur.drop (a + 2)).take (a + 2) ++ (D ++ ((A ++ X) ++ cur.drop (a + 2)).drop (a + 2 + D.length)) = _
  rw [List.take_left' hAX, hd, ← List.drop_drop, List.drop_left' hAX]
 refine ⟨?_, ?_⟩
 ·rw [e2, ← List.append_assoc, List.take_left' (by simp; omega), List.append_assoc]
 ·rw [e2]; simp; omega

set_option maxRecDepth 100000 in
set_option maxHeartbeats 4000000 in
theorem insert_grow (base n c xb f g : Nat) (cur : List Value) (rs : List Rg) (x : Rg) (w : World) (hn : rs.length = n) (hB : Blk w g 93 cur.toArray) (hcl : cur.length = n * 2) (ht : cur.take (n * 2) = rgsCells rs)
  (hx : Blk w xb 93 #[ZI ZQ x.lo, ZI ZQ x.hi]) (hl : n ≤ 1000) (hf : f < n) (hb : base ≤ w.heap.size) :
  Calls Tryz.prog 157 #[.slice (some ⟨g, 0, none⟩) n n, ZI ZQ f, .slice (some ⟨xb, 0, none⟩) 1 c] w (RgPost w base (.slice (some ⟨g, 0, none⟩) n n) (rs.take f ++ x :: rs.drop f)) := by
 obtain ⟨i0, hi, hz0, hz1, hz2⟩ := info_parts rg_info
 obtain ⟨rest, hcur⟩ := cur_split ht f
 obtain ⟨hs1, hs2⟩ := rg_shape rs x f (by omega)
 have hlA : (rgsCells (rs.take f)).length = f * 2 := by rw [rgs_length, List.length_take, hn]; congr 1; omega
 have hlD : (rgsCells (rs.drop f)).length = (n - f) * 2 := by rw [rgs_length, List.length_drop, hn]
 obtain ⟨A, hA⟩ : ∃ A, rgsCells (rs.take f) = A := ⟨_, rfl⟩
 obtain ⟨D, hD⟩ : ∃ D, rgsCells (rs.drop f) = D := ⟨_, rfl⟩
 have h1D : ∀ u ∈ D, u.oneCell' = true := by rw [← hD]; exact rgs_one
 rw [hA] at hcur hlA hs2
 rw [hD] at hcur hlD hs2
 have hgl := hB.lt
 have hw1 : IntKind.i64.wrap ((f : Int) + 1) = (f : Int) + 1 := by rw [IntKind.wrap_i64]; omega
 have hb1 : (0 : Int) ≤ (f : Int) + 1 := by omega
 have hb3 : (f : Int) ≤ (n : Int) + 1 := by omega
 have hb5 : (f : Int) + 1 ≤ (n : Int) + 1 := by omega
 have hb6 : (f : Int) ≤ (n : Int) := by omega
 have htn : ((f : Int) + 1).toNat = f + 1 := by omega
 have hc1 : ¬ (n = f) := by omega
 have e1 : ((f : Int) == (n : Int)) = false := by rw [beq_eq_false_iff_ne]; omega
 have hsrcA : ∀ j v, A[j]? = some v → w.cell? ((⟨g, 0, none⟩ : Addr).add j) = some v := src_blk hB (pre := []) (cs := A) (post := D ++ rest) hcur rfl
 have hkz : (n : Int) + 1 - (f : Int) = ((n + 1 - f : Nat) : Int) := by omega
 have hfk : f + (n + 1 - f) = n + 1 := by omega
 have hAl : A.length = f * i0.size := by rw [hz1]; exact hlA
 have hzs : (Value.agg #[ZI ZQ 0, ZI ZQ 0]).cells.size = i0.size := by rw [hz1]; rfl
 have hp0 : 0 < i0.size := by omega
 have hy1 : 1 ≤ i0.bytes := by omega
 have hy2 : (f + (n + 1 - f)) * i0.bytes ≤ 140737488355328 := by rw [hz2]; omega
 have hk0 : 0 < n + 1 - f := by omega
 have hk1 : n < f + (n + 1 - f) := by omega
 have HCUR := hide hcur
 have HS1 := hide hs1
 have HS2 := hide hs2
 have HLA := hide hlA
 have HLD := hide hlD
 have HCL := hide hcl
 have HN := hide hn
 have HX := hide hx
 have HB := hide hB
 have H1D := hide h1D
 have HSA := hide hsrcA
 have HKZ := hide hkz
 have HFK := hide hfk
 have HAL := hide hAl
 have HZS := hide hzs
 have HY2 := hide hy2
 have HK1 := hide hk1
 clear hcur hs1 hs2 hlA hlD hcl hn ht hA hD hx hB h1D hsrcA hkz hfk hAl hzs hy2 hk1
 have HXC : Hid (∀ u ∈ rgCells x, u.oneCell' = true) := x_one x
 have HXL : Hid ((rgCells x).length = 1 * i0.size) := by show (rgCells x).length = 1 * i0.size; rw [hz1]; rfl
 have HMN : Hid (Nat.min 1 (n + 1 - f) = 1) := by show Nat.min 1 (n + 1 - f) = 1; simp only [Nat.min_def]; split <;> omega
 go_enter Tryz.func157, Tryz.ntmps157
 go_wp2_with (first
  | (at_builtin; refine wpList_append_zeros (s := .tmp 34) (x := .tmp 39) (t := 50) (tn := 3) rfl rfl Tryz.underlying50 Tryz.underlying3 hi hz0 HZS.out hp0 ⟨g, 0, none⟩ f n (n + 1 - f) (n + 1) ((n : Int) + 1 - (f : Int)) HKZ.out HFK.out A rfl rfl HAL.out HSA.out hk0 HK1.out hy1 HY2.out ?_; intro G C w1 hG hGm hCl hCt hB1 hO1 hw1l; unfold maxLen at hGm; have HCL1 := hide hCl; have HCT := hide hCt; have HB1 := hide hB1; clear hCl hCt hB1; have hG1 : ¬ (G = f) := (by omega); have hG2 : ¬ (G = f + 1) := (by omega); have HSX : Hid (∀ j v, (rgCells x)[j]? = some v → w1.cell? ((⟨xb, 0, none⟩ : Addr).add j) = some v) := src_blk (hO1.blk HX.out (by simp)) (pre := []) (cs := rgCells x) (post := []) rfl rfl; have HF2 : Hid (f * 2 + (rgCells x).length ≤ C.length) := (by show f * 2 + 2 ≤ C.length; rw [HCL1.out, hz1]; omega))
  | (with_reducible refine wpList_copy_k (d := .tmp 43) (s := .tmp 44) (dT := 50) (sT := 50) rfl rfl Tryz.underlying50 hi w.heap.size (f * 2) (n + 1 - f) (G - f) ⟨xb, 0, none⟩ 1 c 1 C (rgCells x) 93 rfl rfl HB1.out HMN.out HXL.out HSX.out HF2.out HXC.out ?_; intro w2 hB2 hO2; have HB2 := hide hB2; clear hB2))
 have hBg : Blk w2 g 93 cur.toArray := hO2.blk (hO1.blk HB.out (by simp)) (by simp; omega)
 have hsD : ∀ j v, D[j]? = some v → w2.cell? ((⟨g, f * 2, none⟩ : Addr).add j) = some v := src_blk hBg HCUR.out HLA.out
 have HSD := hide hsD
 have HBG := hide hBg
 have HF3 : Hid ((f + 1) * 2 + D.length ≤ (splice C (f * 2) (rgCells x)).length) := by show (f + 1) * 2 + D.length ≤ _; rw [splice_length HF2.out, HLD.out, HCL1.out, hz1]; omega
 clear hsD hBg
 go_region_law (refine step_copy_k (d := .tmp 50) (s := .tmp 53) (dT := 50) (sT := 50) rfl rfl Tryz.underlying50 hi w.heap.size ((f + 1) * 2) (n + 1 - (f + 1)) (G - (f + 1)) ⟨g, f * 2, none⟩ (n - f) (n - f) (n - f) (splice C (f * 2) (rgCells x)) D 93 (by simp [Act.eval, ZP]) (by simp [Act.eval, ZP]) (by exact HB2.out) (by simp only [Nat.min_def]; split <;> omega) (by rw [HLD.out, hz1]) (by exact HSD.out) HF3.out H1D.out ?_; intro w3 hB3 hO3)
 go_wp2_with fail
 go_ret
 have e2 : (f + 1) * 2 = f * 2 + 2 := by omega
 rw [e2] at hB3
 have hCt := HCT.out
 rw [hz1] at hCt
 obtain ⟨k1, k2⟩ := grow_take hCt HLA.out (rgCells_length x) HLD.out (by rw [HCL1.out, hz1]; omega)
 have h3 : (n + 1) * 2 = f * 2 + 2 + (n - f) * 2 := by omega
 have hfo := own_mk (e := 93) (size := 2) (n := n + 1) (cap := G) hb hB3 hG (by unfold maxLen; omega) (by rw [k2, HCL1.out, hz1])
 rw [h3, k1] at hfo
 refine ⟨_, rfl, ?_, ?_, fun k hk => ?_⟩
 ·rw [HS1.out, HS2.out, HN.out]
  exact hfo
 ·have o1 : Only [g] w w2 := ((hO1.mono (S' := [g]) (by simp)).trans hO2 (fun y hy => by simp at hy; subst hy; exact .inr (Nat.le_refl _)))
  exact (o1.drew).trans hO3 (fun y hy => by simp at hy; subst hy; exact .inr (Nat.le_refl _))
 ·right; simp [Value.ownBlock] at hk; omega

/-- slices.Insert of one range, wherever. -/
theorem insert_any (base n c xb f : Nat) (v : Value) (rs : List Rg) (x : Rg) (w : World) (hn : rs.length = n) (hown : w.ownsRow base 93 2 v n (rgsCells rs)) (hx : Blk w xb 93 #[ZI ZQ x.lo, ZI ZQ x.hi]) (hne : v.ownBlock ≠ some xb) (hl : n ≤ 1000) (hb : base ≤ w.heap.size) (hf : f ≤ n) :
  Calls Tryz.prog 157 #[v, ZI ZQ f, .slice (some ⟨xb, 0, none⟩) 1 c] w (RgPost w base v (rs.take f ++ x :: rs.drop f)) := by
 rcases Nat.lt_or_ge f n with hlt | hge
 ·rcases own_split hown with ⟨_, h0, _⟩ | ⟨g, cap, cur, rfl, hg, hB, hc, hm, hcl, ht⟩
  ·omega
  ·rcases Nat.lt_or_ge n cap with hcap | hcap
   ·exact insert_shift base n c xb f g cap cur rs x w hn hg hB hcap hm hcl ht hx (fun e => hne (by rw [e]; rfl)) hl hlt
   ·obtain rfl : cap = n := by omega
    exact insert_grow base cap c xb f g cur rs x w hn hB hcl ht hx hl hlt hb
 ·obtain rfl : f = n := by omega
  exact insert_end base f c xb v rs x w hn hown hx hl hb
end Go.Proofs.YtgicljeedegncaaGreat

namespace Go.Proofs.YtgicljeedegncaaGreat
open Go.Act renaming put → ZP
open Go.Value renaming int → ZI
open Go.IntKind renaming i64 → ZQ
set_option linter.unusedSimpArgs false
set_option linter.unusedVariables false
open Go.RowKit

theorem take_splice_low {L cs : List Value} {off k : Nat} (hk : k ≤ off) (ho : off ≤ L.length) : (splice L off cs).take k = L.take k := by
 unfold splice
 rw [List.take_append_of_le_length (by rw [List.length_take]; omega), List.take_take, Nat.min_eq_left hk]
theorem zeros_length (n : Nat) : (Builtin.zeroCells (Value.agg #[ZI ZQ 0, ZI ZQ 0]).cells n).toList.length = n * 2 := by simp [Builtin.zeroCells, Value.cells]
theorem zcells_size : (Value.agg #[ZI ZQ 0, ZI ZQ 0]).cells.size = 2 := rfl
/-- What stands behind: the ranges ahead, the one that is put in, those from another place on. -/
theorem rg_shape2 (rs : List Rg) (x : Rg) (f t : Nat) (hf : f ≤ rs.length) : (rs.take f ++ x :: rs.drop t).length = f + 1 + (rs.length - t) ∧ rgsCells (rs.take f ++ x :: rs.drop t) = rgsCells (rs.take f) ++ (rgCells x ++ rgsCells (rs.drop t)) := by
 refine ⟨by simp; omega, by simp [rgsCells]⟩

set_option maxRecDepth 100000 in
set_option maxHeartbeats 4000000 in
theorem replace_end (base n c xb f g cap : Nat) (cur : List Value) (rs : List Rg) (x : Rg) (w : World) (hn : rs.length = n) (hg : base ≤ g) (hB : Blk w g 93 cur.toArray) (hcap : n ≤ cap) (hm : cap ≤ maxLen) (hcl : cur.length = cap * 2) (ht : cur.take (n * 2) = rgsCells rs)
  (hx : Blk w xb 93 #[ZI ZQ x.lo, ZI ZQ x.hi]) (hl : n ≤ 1000) (hf : f < n) :
  Calls Tryz.prog 117 #[.slice (some ⟨g, 0, none⟩) n cap, ZI ZQ f, ZI ZQ n, .slice (some ⟨xb, 0, none⟩) 1 c] w (RgPost w base (.slice (some ⟨g, 0, none⟩) n cap) (rs.take f ++ x :: rs.drop n)) := by
 obtain ⟨i0, hi, hz0, hz1, hz2⟩ := info_parts rg_info
 unfold maxLen at hm
 obtain ⟨rest, hcur⟩ := cur_split ht f
 obtain ⟨hs1, hs2⟩ := rg_shape2 rs x f n (by omega)
 have hlA : (rgsCells (rs.take f)).length = f * 2 := by rw [rgs_length, List.length_take, hn]; congr 1; omega
 have hD : rgsCells (rs.drop n) = [] := by rw [← hn, List.drop_length]; rfl
 obtain ⟨A, hA⟩ : ∃ A, rgsCells (rs.take f) = A := ⟨_, rfl⟩
 rw [hA] at hcur hlA hs2
 rw [hD, List.append_nil] at hs2
 have hsX : ∀ j v, (rgCells x)[j]? = some v → w.cell? ((⟨xb, 0, none⟩ : Addr).add j) = some v := src_blk hx (pre := []) (cs := rgCells x) (post := []) rfl rfl
 have hf0 : (0 : Int) ≤ (f : Int) := by omega
 have hb3 : (f : Int) ≤ (n : Int) := by omega
 have e1 : ((f : Int) == (n : Int)) = false := by rw [beq_eq_false_iff_ne]; omega
 have hXL : (rgCells x).length = 1 * i0.size := by rw [hz1]; rfl
 have hfit : f * i0.size + (rgCells x).length ≤ cur.length := by rw [hz1, hcl]; show f * 2 + 2 ≤ _; omega
 have hroom : f + 1 ≤ cap := by omega
 have hT1 : (splice cur (f * 2) (rgCells x)).take ((f + 1) * 2) = A ++ rgCells x := by
  unfold splice
  have e0 : cur.take (f * 2) = A := by rw [hcur]; exact List.take_left' hlA
  have e2 : (f + 1) * 2 = (A ++ rgCells x).length := by rw [List.length_append, hlA]; show _ = f * 2 + 2; omega
  rw [e0, ← List.append_assoc, e2, List.take_left']
  rfl
 have hL1 : (splice cur (f * 2) (rgCells x)).length = cap * 2 := by rw [splice_length (by rw [hcl]; show f * 2 + 2 ≤ _; omega), hcl]
 have hfin : ∀ (w' : World) (C : List Value), Blk w' g 93 C.toArray → C.length = cap * 2 → C.take ((f + 1) * 2) = A ++ rgCells x → Only [g] w w' → RgPost w base (.slice (some ⟨g, 0, none⟩) n cap) (rs.take f ++ x :: rs.drop n) (.returned (.slice (some ⟨g, 0, none⟩) (f + 1) cap)) w' := by
  intro w' C hC hCl hCt hO
  have hfo := own_mk (e := 93) (size := 2) (n := f + 1) (cap := cap) hg hC hroom (by unfold maxLen; omega) hCl
  rw [hCt] at hfo
  refine ⟨_, rfl, ?_, hO, fun k hk => .inl hk⟩
  rw [hs1, hs2, hn, Nat.sub_self, Nat.add_zero]
  exact hfo
 have HF := hide hfin
 have HT1 := hide hT1
 have HL1 := hide hL1
 have HFIT := hide hfit
 have HXL := hide hXL
 have HSX := hide hsX
 have HB := hide hB
 have HX1 := hide (x_one x)
 clear hfin hT1 hL1 hfit hXL hsX hB hcur hs1 hs2 hlA hA hD hcl hn ht hx
 by_cases hlt : f + 1 < n
 ·have hd1 : decide ((f : Int) + 1 < (n : Int)) = true := by simp; omega
  have hlt2 : (f : Int) + 1 < (n : Int) := by omega
  have hc1 : ¬ (cap = f + 1) := by omega
  go_enter Tryz.func117, Tryz.ntmps117
  go_wp2_with (first
   | (at_builtin; with_reducible refine wpList_append_in (s := .tmp 32) (x := .tmp 33) (t := 50) rfl rfl Tryz.underlying50 hi g f cap 1 c ⟨xb, 0, none⟩ cur (rgCells x) rfl rfl HB.out HXL.out HSX.out hroom HFIT.out HX1.out ?_; intro w1 hB1 hO1; rw [hz1] at hB1; have HB1 := hide hB1; clear hB1)
   | (with_reducible refine wpList_clear_k (s := .tmp 43) (t := 50) rfl rfl Tryz.underlying50 hi hz0 g ((f + 1) * 2) (n - (f + 1)) (cap - (f + 1)) (splice cur (f * 2) (rgCells x)) 93 rfl HB1.out (by rw [HL1.out, zcells_size]; omega) rg_zero_one ?_; intro w2 hB2 hO2))
  go_ret
  have hz := zeros_length (n - (f + 1))
  refine HF.out _ _ hB2 (by rw [splice_length (by rw [hz, HL1.out]; omega), HL1.out]) (by rw [take_splice_low (Nat.le_refl _) (by rw [HL1.out]; omega), HT1.out]) (hO1.trans hO2 (by simp))
 ·have hd1 : decide ((f : Int) + 1 < (n : Int)) = false := by simp; omega
  have hlt2 : ¬ (f : Int) + 1 < (n : Int) := by omega
  go_enter Tryz.func117, Tryz.ntmps117
  go_wp2_with (first
   | (at_builtin; with_reducible refine wpList_append_in (s := .tmp 32) (x := .tmp 33) (t := 50) rfl rfl Tryz.underlying50 hi g f cap 1 c ⟨xb, 0, none⟩ cur (rgCells x) rfl rfl HB.out HXL.out HSX.out hroom HFIT.out HX1.out ?_; intro w1 hB1 hO1; rw [hz1] at hB1; have HB1 := hide hB1; clear hB1))
  go_ret
  exact HF.out _ _ HB1.out HL1.out HT1.out hO1

/-- Two records laid over: the first ahead of the second's source. -/
theorem mid_take {cur A M D X rest Z : List Value} {a d t : Nat} (h : cur = A ++ (M ++ (D ++ rest))) (ha : A.length = a) (hM : A.length + M.length = t) (hX : X.length = 2) (hd : D.length = d) (hm : 2 ≤ M.length) (hz : a + 2 + d + Z.length ≤ cur.length) :
  (splice (splice (splice cur a X) (a + 2) D) (a + 2 + d) Z).take (a + 2 + d) = A ++ (X ++ D) ∧ (splice (splice (splice cur a X) (a + 2) D) (a + 2 + d) Z).length = cur.length ∧ ∃ pre, splice cur a X = pre ++ (D ++ rest) ∧ pre.length = t := by
 have hcl : a + 2 + d ≤ cur.length := by omega
 obtain ⟨k1, k2⟩ := grow_take (cur := cur) (A := A) (D := D) (X := X) (a := a) (d := d) (by rw [h]; exact List.take_left' ha) ha hX hd hcl
 refine ⟨?_, ?_, ⟨A ++ (X ++ M.drop 2), ?_, by simp; omega⟩⟩
 ·rw [take_splice_low (Nat.le_refl _) (by rw [k2]; omega), k1]
 ·rw [splice_length (by rw [k2]; exact hz), k2]
 ·have e : M = M.take 2 ++ M.drop 2 := (List.take_append_drop 2 M).symm
  rw [h, e, List.append_assoc, splice_mid ha (by simp; omega)]
  simp

set_option maxRecDepth 100000 in
set_option maxHeartbeats 4000000 in
theorem replace_mid (base n c xb f t d g cap : Nat) (cur : List Value) (rs : List Rg) (x : Rg) (w : World) (hn : rs.length = n) (hg : base ≤ g) (hB : Blk w g 93 cur.toArray) (hcap : n ≤ cap) (hm : cap ≤ maxLen) (hcl : cur.length = cap * 2) (ht : cur.take (n * 2) = rgsCells rs)
  (hx : Blk w xb 93 #[ZI ZQ x.lo, ZI ZQ x.hi]) (hl : n ≤ 1000) (hf : f < t) (htn : t + d = n) (hd : 0 < d) :
  Calls Tryz.prog 117 #[.slice (some ⟨g, 0, none⟩) n cap, ZI ZQ f, ZI ZQ t, .slice (some ⟨xb, 0, none⟩) 1 c] w (RgPost w base (.slice (some ⟨g, 0, none⟩) n cap) (rs.take f ++ x :: rs.drop t)) := by
 obtain ⟨i0, hi, hz0, hz1, hz2⟩ := info_parts rg_info
 unfold maxLen at hm
 obtain ⟨hs1, hs2⟩ := rg_shape2 rs x f t (by omega)
 have hlA : (rgsCells (rs.take f)).length = f * 2 := by rw [rgs_length, List.length_take, hn]; congr 1; omega
 have hlM : (rgsCells ((rs.take t).drop f)).length = (t - f) * 2 := by rw [rgs_length, List.length_drop, List.length_take, hn]; congr 1; omega
 have hlD : (rgsCells (rs.drop t)).length = d * 2 := by rw [rgs_length, List.length_drop, hn]; congr 1; omega
 have hsp : rs = rs.take f ++ ((rs.take t).drop f ++ rs.drop t) := by
  have e1 : rs.take f ++ (rs.take t).drop f = rs.take t := by
   have h2 := List.take_append_drop f (rs.take t)
   rw [List.take_take, Nat.min_eq_left (by omega)] at h2
   exact h2
  rw [← List.append_assoc, e1, List.take_append_drop]
 have hcur : cur = rgsCells (rs.take f) ++ (rgsCells ((rs.take t).drop f) ++ (rgsCells (rs.drop t) ++ cur.drop (n * 2))) := by
  rw [← List.append_assoc (rgsCells ((rs.take t).drop f)), ← rgs_append, ← List.append_assoc, ← rgs_append, ← hsp, ← ht, List.take_append_drop]
 obtain ⟨A, hA⟩ : ∃ A, rgsCells (rs.take f) = A := ⟨_, rfl⟩
 obtain ⟨M, hM⟩ : ∃ M, rgsCells ((rs.take t).drop f) = M := ⟨_, rfl⟩
 obtain ⟨D, hD⟩ : ∃ D, rgsCells (rs.drop t) = D := ⟨_, rfl⟩
 have h1D : ∀ u ∈ D, u.oneCell' = true := by rw [← hD]; exact rgs_one
 rw [hA] at hcur hlA hs2
 rw [hM] at hcur hlM
 rw [hD] at hcur hlD hs2
 obtain ⟨rest, hrest⟩ : ∃ r, cur.drop (n * 2) = r := ⟨_, rfl⟩
 rw [hrest] at hcur
 have hzl := zeros_length (n - (f + 1 + d))
 obtain ⟨k1, k2, pre, k3, k4⟩ := mid_take (Z := (Builtin.zeroCells (Value.agg #[ZI ZQ 0, ZI ZQ 0]).cells (n - (f + 1 + d))).toList) (t := t * 2) hcur hlA (by omega) (rgCells_length x) hlD (by omega) (by rw [hzl, hcl]; omega)
 have hL1 : (splice cur (f * 2) (rgCells x)).length = cap * 2 := by rw [splice_length (by rw [hcl]; show f * 2 + 2 ≤ _; omega), hcl]
 have hL2 : (splice (splice cur (f * 2) (rgCells x)) (f * 2 + 2) D).length = cap * 2 := by rw [splice_length (by rw [hL1, hlD]; omega), hL1]
 have hf0 : (0 : Int) ≤ (f : Int) := by omega
 have hb2 : (f : Int) ≤ (t : Int) := by omega
 have hb3 : (t : Int) ≤ (n : Int) := by omega
 have hb4 : (f : Int) ≤ (n : Int) := by omega
 have hb5 : (f : Int) + 1 + (d : Int) ≤ (n : Int) := by omega
 have hb6 : (f : Int) + 1 ≤ (t : Int) := by omega
 have e1 : ((f : Int) == (t : Int)) = false := by rw [beq_eq_false_iff_ne]; omega
 have e2 : ((t : Int) == (n : Int)) = false := by rw [beq_eq_false_iff_ne]; omega
 have hc1 : ¬ (cap = t) := by omega
 have hc2 : ¬ (cap = f) := by omega
 have hc3 : ¬ (cap = f + 1) := by omega
 have hntd : n - t = d := by omega
 have hw1 : IntKind.i64.wrap ((f : Int) + 1) = (f : Int) + 1 := by rw [IntKind.wrap_i64]; omega
 have hb1 : (0 : Int) ≤ (f : Int) + 1 := by omega
 have hb7 : (f : Int) + 1 ≤ (f : Int) + 1 + (d : Int) := by omega
 have htf : ((f : Int) + 1).toNat = f + 1 := by omega
 have hfin : ∀ (w0 w' : World), Blk w' g 93 (splice (splice (splice cur (f * 2) (rgCells x)) (f * 2 + 2) D) (f * 2 + 2 + d * 2) (Builtin.zeroCells (Value.agg #[ZI ZQ 0, ZI ZQ 0]).cells (n - (f + 1 + d))).toList).toArray → Only [g] w0 w' → RgPost w0 base (.slice (some ⟨g, 0, none⟩) n cap) (rs.take f ++ x :: rs.drop t) (.returned (.slice (some ⟨g, 0, none⟩) (f + 1 + d) cap)) w' := by
  intro w0 w' hC hO
  have hfo := own_mk (e := 93) (size := 2) (n := f + 1 + d) (cap := cap) hg hC (by omega) (by unfold maxLen; omega) (by rw [k2, hcl])
  rw [show (f + 1 + d) * 2 = f * 2 + 2 + d * 2 by omega, k1] at hfo
  refine ⟨_, rfl, ?_, hO, fun k hk => .inl hk⟩
  rw [hs1, hs2, hn, hntd]
  exact hfo
 have HF := hide hfin
 have HL1 := hide hL1
 have HL2 := hide hL2
 have HCL := hide hcl
 have HLD := hide hlD
 have HK3 := hide k3
 have HK4 := hide k4
 have HX := hide hx
 have HB := hide hB
 have H1D := hide h1D
 have HX1 := hide (x_one x)
 clear hfin hL1 hL2 hcl hlD hlA hlM k1 k2 k3 k4 hzl hx hB h1D hcur hrest hsp hs1 hs2 hA hM hD hn ht
 have hc4 : cap ≠ f + 1 + d ∨ cap = f + 1 + d := by omega
 have hZ0 : (Builtin.zeroCells (Value.agg #[ZI ZQ 0, ZI ZQ 0]).cells 0).toList = [] := by simp [Builtin.zeroCells]
 have HZ0 := hide hZ0
 clear hZ0
 have HS0 : Hid (∀ (L : List Value) (k : Nat), splice L k ([] : List Value) = L) := fun L k => by simp [splice]
 rcases hc4 with hc4 | hc4
 ·skip
  go_enter Tryz.func117, Tryz.ntmps117
  go_wp2_with fail
  go_quiet (fail)
  have hBq := HB.out.drewN nq
  have HBQ := hide hBq
  have HSX : Hid (∀ j v, (rgCells x)[j]? = some v → (w.drewN nq).cell? ((⟨xb, 0, none⟩ : Addr).add j) = some v) := src_blk (HX.out.drewN nq) (pre := []) (cs := rgCells x) (post := []) rfl rfl
  have HXL : Hid ((rgCells x).length = 1 * i0.size) := by show (rgCells x).length = 1 * i0.size; rw [hz1]; rfl
  have HFIT : Hid (f * 2 + (rgCells x).length ≤ cur.length) := by show f * 2 + 2 ≤ cur.length; rw [HCL.out]; omega
  clear hBq
  go_wp2_with (with_reducible refine wpList_copy_k (d := .tmp 95) (s := .tmp 96) (dT := 50) (sT := 50) rfl rfl Tryz.underlying50 hi g (f * 2) _ _ ⟨xb, 0, none⟩ 1 c 1 cur (rgCells x) 93 rfl rfl HBQ.out (by simp only [Nat.min_def]; split <;> omega) HXL.out HSX.out HFIT.out HX1.out ?_; intro w1 hB1 hO1; have HB1 := hide hB1; clear hB1)
  have HSD : Hid (∀ j v, D[j]? = some v → w1.cell? ((⟨g, t * 2, none⟩ : Addr).add j) = some v) := src_blk HB1.out HK3.out HK4.out
  go_region_law (refine step_copy_k (d := .tmp 103) (s := .tmp 106) (dT := 50) (sT := 50) rfl rfl Tryz.underlying50 hi g ((f + 1) * 2) (f + 1 + d - (f + 1)) (cap - (f + 1)) ⟨g, t * 2, none⟩ d (cap - t) d (splice cur (f * 2) (rgCells x)) D 93 (by simp [Act.eval, ZP]) (by simp [Act.eval, ZP]) (by exact HB1.out) (by simp only [Nat.min_def]; split <;> omega) (by rw [HLD.out, hz1]) (by exact HSD.out) (by rw [HL1.out, HLD.out]; omega) H1D.out ?_; intro w2 hB2 hO2; have e9 : (f + 1) * 2 = f * 2 + 2 := (by omega); rw [e9] at hB2; clear e9; have HB2 := hide hB2; clear hB2)
  go_wp2_with (with_reducible refine wpList_clear_k (s := .tmp 110) (t := 50) rfl rfl Tryz.underlying50 hi hz0 g ((f + 1 + d) * 2) (n - (f + 1 + d)) (cap - (f + 1 + d)) (splice (splice cur (f * 2) (rgCells x)) (f * 2 + 2) D) 93 rfl HB2.out (by rw [HL2.out, zcells_size]; omega) rg_zero_one ?_; intro w3 hB3 hO3)
  go_ret
  have e3 : (f + 1 + d) * 2 = f * 2 + 2 + d * 2 := by omega
  rw [e3] at hB3
  exact HF.out _ _ hB3 ((((((Only.refl [g] w).drewN nq).trans hO1 (by simp)).drew).trans hO2 (by simp)).trans hO3 (by simp))
 ·have hn0 : n - (f + 1 + d) = 0 := by omega
  have HN0 := hide hn0
  clear hn0
  obtain rfl : t = f + 1 := by omega
  obtain rfl : n = f + 1 + d := by omega
  subst hc4
  have hd0 : ¬ d = 0 := by omega
  have HFIT0 : Hid (0 + (f + 1 + d - (f + 1 + d)) * (Value.agg #[ZI ZQ 0, ZI ZQ 0]).cells.size ≤ (splice (splice cur (f * 2) (rgCells x)) (f * 2 + 2) D).length) := by show 0 + (f + 1 + d - (f + 1 + d)) * _ ≤ _; rw [Nat.sub_self, Nat.zero_mul]; exact Nat.zero_le _
  clear htn hntd
  go_enter Tryz.func117, Tryz.ntmps117
  go_wp2_with fail
  go_quiet (fail)
  have hBq := HB.out.drewN nq
  have HBQ := hide hBq
  have HSX : Hid (∀ j v, (rgCells x)[j]? = some v → (w.drewN nq).cell? ((⟨xb, 0, none⟩ : Addr).add j) = some v) := src_blk (HX.out.drewN nq) (pre := []) (cs := rgCells x) (post := []) rfl rfl
  have HXL : Hid ((rgCells x).length = 1 * i0.size) := by show (rgCells x).length = 1 * i0.size; rw [hz1]; rfl
  have HFIT : Hid (f * 2 + (rgCells x).length ≤ cur.length) := by show f * 2 + 2 ≤ cur.length; rw [HCL.out]; omega
  clear hBq
  go_wp2_with (with_reducible refine wpList_copy_k (d := .tmp 95) (s := .tmp 96) (dT := 50) (sT := 50) rfl rfl Tryz.underlying50 hi g (f * 2) _ _ ⟨xb, 0, none⟩ 1 c 1 cur (rgCells x) 93 rfl rfl HBQ.out (by simp only [Nat.min_def]; split <;> omega) HXL.out HSX.out HFIT.out HX1.out ?_; intro w1 hB1 hO1; have HB1 := hide hB1; clear hB1)
  have HSD : Hid (∀ j v, D[j]? = some v → w1.cell? ((⟨g, (f + 1) * 2, none⟩ : Addr).add j) = some v) := src_blk HB1.out HK3.out HK4.out
  go_region_law (refine step_copy_k (d := .tmp 103) (s := .tmp 106) (dT := 50) (sT := 50) rfl rfl Tryz.underlying50 hi g ((f + 1) * 2) (f + 1 + d - (f + 1)) (f + 1 + d - (f + 1)) ⟨g, (f + 1) * 2, none⟩ d (f + 1 + d - (f + 1)) d (splice cur (f * 2) (rgCells x)) D 93 (by simp [Act.eval, ZP]) (by simp [Act.eval, ZP]) (by exact HB1.out) (by simp only [Nat.min_def]; split <;> omega) (by rw [HLD.out, hz1]) (by exact HSD.out) (by rw [HL1.out, HLD.out]; omega) H1D.out ?_; intro w2 hB2 hO2; have e9 : (f + 1) * 2 = f * 2 + 2 := (by omega); rw [e9] at hB2; clear e9; have HB2 := hide hB2; clear hB2)
  go_wp2_with (with_reducible refine wpList_clear_k (s := .tmp 110) (t := 50) rfl rfl Tryz.underlying50 hi hz0 g 0 (f + 1 + d - (f + 1 + d)) (f + 1 + d - (f + 1 + d)) (splice (splice cur (f * 2) (rgCells x)) (f * 2 + 2) D) 93 rfl HB2.out HFIT0.out rg_zero_one ?_; intro w3 hB3 hO3)
  go_ret
  rw [Nat.sub_self, HZ0.out, HS0.out] at hB3
  have hF := HF.out w w3
  rw [HN0.out, HZ0.out, HS0.out] at hF
  exact hF hB3 ((((((Only.refl [g] w).drewN nq).trans hO1 (by simp)).drew).trans hO2 (by simp)).trans hO3 (by simp))

end Go.Proofs.YtgicljeedegncaaGreat
