/-
  slices.Replace at []api.Range: by one range.
-/
import Derived.Test.YtkmfhcjdajbbhaaSpanInsert
namespace Go.Proofs.Ytkmfhcjdajbbhaa
set_option linter.unusedSimpArgs false
set_option linter.unusedVariables false
open Go.RowKit

theorem take_splice_low {L cs : List Value} {off k : Nat} (hk : k ≤ off) (ho : off ≤ L.length) : (splice L off cs).take k = L.take k := by
  unfold splice
  rw [List.take_append_of_le_length (by rw [List.length_take]; omega), List.take_take, Nat.min_eq_left hk]
theorem zeros_length (n : Nat) : (Builtin.zeroCells (Value.agg #[.int .i64 0, .int .i64 0]).cells n).toList.length = n * 2 := by simp [Builtin.zeroCells, Value.cells]
theorem zcells_size : (Value.agg #[.int .i64 0, .int .i64 0]).cells.size = 2 := rfl
/-- What stands behind: the ranges ahead, the one that is put in, those from another place on. -/
theorem rg_shape2 (rs : List Rg) (x : Rg) (f t : Nat) (hf : f ≤ rs.length) : (rs.take f ++ x :: rs.drop t).length = f + 1 + (rs.length - t) ∧ rgsCells (rs.take f ++ x :: rs.drop t) = rgsCells (rs.take f) ++ (rgCells x ++ rgsCells (rs.drop t)) := by
  refine ⟨by simp; omega, by simp [rgsCells]⟩

set_option maxRecDepth 100000 in
set_option maxHeartbeats 4000000 in
theorem replace_end (base n c xb f g cap : Nat) (cur : List Value) (rs : List Rg) (x : Rg) (w : World) (hn : rs.length = n) (hg : base ≤ g) (hB : Blk w g 62 cur.toArray) (hcap : n ≤ cap) (hm : cap ≤ maxLen) (hcl : cur.length = cap * 2) (ht : cur.take (n * 2) = rgsCells rs)
    (hx : Blk w xb 62 #[.int .i64 x.lo, .int .i64 x.hi]) (hl : n ≤ 1000) (hf : f < n) :
    Calls Try.prog 46 #[.slice (some ⟨g, 0, none⟩) n cap, .int .i64 f, .int .i64 n, .slice (some ⟨xb, 0, none⟩) 1 c] w (RgPost w base (.slice (some ⟨g, 0, none⟩) n cap) (rs.take f ++ x :: rs.drop n)) := by
  obtain ⟨i0, hi, hz0, hz1, hz2⟩ := info_parts rg_info
  unfold maxLen at hm
  obtain ⟨rest, hcur⟩ := cur_split ht f
  obtain ⟨hs1, hs2⟩ := rg_shape2 rs x f n (by omega)
  have hlA : (rgsCells (rs.take f)).length = f * 2 := by rw [rgs_length, List.length_take, hn]; congr 1; omega
  have hD : rgsCells (rs.drop n) = [] := by rw [← hn, List.drop_length]; rfl
  obtain ⟨A, hA⟩ : ∃ A, rgsCells (rs.take f) = A := ⟨_, rfl⟩
  rw [hA] at hcur hlA hs2
  rw [hD, List.append_nil] at hs2
  have hsX : ∀ j v, (rgCells x)[j]? = some v → w.cell? ((⟨xb, 0, none⟩ : Addr).add j) = some v := src_blk hx (pre := []) (cs := rgCells x) (post := []) rfl rfl
  have hf0 : (0 : Int) ≤ (f : Int) := by omega
  have hb3 : (f : Int) ≤ (n : Int) := by omega
  have e1 : ((f : Int) == (n : Int)) = false := by rw [beq_eq_false_iff_ne]; omega
  have hXL : (rgCells x).length = 1 * i0.size := by rw [hz1]; rfl
  have hfit : f * i0.size + (rgCells x).length ≤ cur.length := by rw [hz1, hcl]; show f * 2 + 2 ≤ _; omega
  have hroom : f + 1 ≤ cap := by omega
  have hT1 : (splice cur (f * 2) (rgCells x)).take ((f + 1) * 2) = A ++ rgCells x := by
    unfold splice
    have e0 : cur.take (f * 2) = A := by rw [hcur]; exact List.take_left' hlA
    have e2 : (f + 1) * 2 = (A ++ rgCells x).length := by rw [List.length_append, hlA]; show _ = f * 2 + 2; omega
    rw [e0, ← List.append_assoc, e2, List.take_left']
    rfl
  have hL1 : (splice cur (f * 2) (rgCells x)).length = cap * 2 := by rw [splice_length (by rw [hcl]; show f * 2 + 2 ≤ _; omega), hcl]
  have hfin : ∀ (w' : World) (C : List Value), Blk w' g 62 C.toArray → C.length = cap * 2 → C.take ((f + 1) * 2) = A ++ rgCells x → Only [g] w w' → RgPost w base (.slice (some ⟨g, 0, none⟩) n cap) (rs.take f ++ x :: rs.drop n) (.returned (.slice (some ⟨g, 0, none⟩) (f + 1) cap)) w' := by
    intro w' C hC hCl hCt hO
    have hfo := own_mk (e := 62) (size := 2) (n := f + 1) (cap := cap) hg hC hroom (by unfold maxLen; omega) hCl
    rw [hCt] at hfo
    refine ⟨_, rfl, ?_, hO, fun k hk => .inl hk⟩
    rw [hs1, hs2, hn, Nat.sub_self, Nat.add_zero]
    exact hfo
  have HF := hide hfin
  have HT1 := hide hT1
  have HL1 := hide hL1
  have HFIT := hide hfit
  have HXL := hide hXL
  have HSX := hide hsX
  have HB := hide hB
  have HX1 := hide (x_one x)
  clear hfin hT1 hL1 hfit hXL hsX hB hcur hs1 hs2 hlA hA hD hcl hn ht hx
  by_cases hlt : f + 1 < n
  · have hd1 : decide ((f : Int) + 1 < (n : Int)) = true := by simp; omega
    have hlt2 : (f : Int) + 1 < (n : Int) := by omega
    have hc1 : ¬ (cap = f + 1) := by omega
    go_enter Try.func46, Try.ntmps46
    go_wp2_with (first
      | (at_builtin; with_reducible refine wpList_append_in (s := .tmp 32) (x := .tmp 33) (t := 63) rfl rfl Try.underlying63 hi g f cap 1 c ⟨xb, 0, none⟩ cur (rgCells x) rfl rfl HB.out HXL.out HSX.out hroom HFIT.out HX1.out ?_; intro w1 hB1 hO1; rw [hz1] at hB1; have HB1 := hide hB1; clear hB1)
      | (with_reducible refine wpList_clear_k (s := .tmp 43) (t := 63) rfl rfl Try.underlying63 hi hz0 g ((f + 1) * 2) (n - (f + 1)) (cap - (f + 1)) (splice cur (f * 2) (rgCells x)) 62 rfl HB1.out (by rw [HL1.out, zcells_size]; omega) rg_zero_one ?_; intro w2 hB2 hO2))
    go_ret
    have hz := zeros_length (n - (f + 1))
    refine HF.out _ _ hB2 (by rw [splice_length (by rw [hz, HL1.out]; omega), HL1.out]) (by rw [take_splice_low (Nat.le_refl _) (by rw [HL1.out]; omega), HT1.out]) (hO1.trans hO2 (by simp))
  · have hd1 : decide ((f : Int) + 1 < (n : Int)) = false := by simp; omega
    have hlt2 : ¬ (f : Int) + 1 < (n : Int) := by omega
    go_enter Try.func46, Try.ntmps46
    go_wp2_with (first
      | (at_builtin; with_reducible refine wpList_append_in (s := .tmp 32) (x := .tmp 33) (t := 63) rfl rfl Try.underlying63 hi g f cap 1 c ⟨xb, 0, none⟩ cur (rgCells x) rfl rfl HB.out HXL.out HSX.out hroom HFIT.out HX1.out ?_; intro w1 hB1 hO1; rw [hz1] at hB1; have HB1 := hide hB1; clear hB1))
    go_ret
    exact HF.out _ _ HB1.out HL1.out HT1.out hO1

/-- Two records laid over: the first ahead of the second's source. -/
theorem mid_take {cur A M D X rest Z : List Value} {a d t : Nat} (h : cur = A ++ (M ++ (D ++ rest))) (ha : A.length = a) (hM : A.length + M.length = t) (hX : X.length = 2) (hd : D.length = d) (hm : 2 ≤ M.length) (hz : a + 2 + d + Z.length ≤ cur.length) :
    (splice (splice (splice cur a X) (a + 2) D) (a + 2 + d) Z).take (a + 2 + d) = A ++ (X ++ D) ∧ (splice (splice (splice cur a X) (a + 2) D) (a + 2 + d) Z).length = cur.length ∧ ∃ pre, splice cur a X = pre ++ (D ++ rest) ∧ pre.length = t := by
  have hcl : a + 2 + d ≤ cur.length := by omega
  obtain ⟨k1, k2⟩ := grow_take (cur := cur) (A := A) (D := D) (X := X) (a := a) (d := d) (by rw [h]; exact List.take_left' ha) ha hX hd hcl
  refine ⟨?_, ?_, ⟨A ++ (X ++ M.drop 2), ?_, by simp; omega⟩⟩
  · rw [take_splice_low (Nat.le_refl _) (by rw [k2]; omega), k1]
  · rw [splice_length (by rw [k2]; exact hz), k2]
  · have e : M = M.take 2 ++ M.drop 2 := (List.take_append_drop 2 M).symm
    rw [h, e, List.append_assoc, splice_mid ha (by simp; omega)]
    simp

set_option maxRecDepth 100000 in
set_option maxHeartbeats 4000000 in
theorem replace_mid (base n c xb f t d g cap : Nat) (cur : List Value) (rs : List Rg) (x : Rg) (w : World) (hn : rs.length = n) (hg : base ≤ g) (hB : Blk w g 62 cur.toArray) (hcap : n ≤ cap) (hm : cap ≤ maxLen) (hcl : cur.length = cap * 2) (ht : cur.take (n * 2) = rgsCells rs)
    (hx : Blk w xb 62 #[.int .i64 x.lo, .int .i64 x.hi]) (hl : n ≤ 1000) (hf : f < t) (htn : t + d = n) (hd : 0 < d) :
    Calls Try.prog 46 #[.slice (some ⟨g, 0, none⟩) n cap, .int .i64 f, .int .i64 t, .slice (some ⟨xb, 0, none⟩) 1 c] w (RgPost w base (.slice (some ⟨g, 0, none⟩) n cap) (rs.take f ++ x :: rs.drop t)) := by
  obtain ⟨i0, hi, hz0, hz1, hz2⟩ := info_parts rg_info
  unfold maxLen at hm
  obtain ⟨hs1, hs2⟩ := rg_shape2 rs x f t (by omega)
  have hlA : (rgsCells (rs.take f)).length = f * 2 := by rw [rgs_length, List.length_take, hn]; congr 1; omega
  have hlM : (rgsCells ((rs.take t).drop f)).length = (t - f) * 2 := by rw [rgs_length, List.length_drop, List.length_take, hn]; congr 1; omega
  have hlD : (rgsCells (rs.drop t)).length = d * 2 := by rw [rgs_length, List.length_drop, hn]; congr 1; omega
  have hsp : rs = rs.take f ++ ((rs.take t).drop f ++ rs.drop t) := by
    have e1 : rs.take f ++ (rs.take t).drop f = rs.take t := by
      have h2 := List.take_append_drop f (rs.take t)
      rw [List.take_take, Nat.min_eq_left (by omega)] at h2
      exact h2
    rw [← List.append_assoc, e1, List.take_append_drop]
  have hcur : cur = rgsCells (rs.take f) ++ (rgsCells ((rs.take t).drop f) ++ (rgsCells (rs.drop t) ++ cur.drop (n * 2))) := by
    rw [← List.append_assoc (rgsCells ((rs.take t).drop f)), ← rgs_append, ← List.append_assoc, ← rgs_append, ← hsp, ← ht, List.take_append_drop]
  obtain ⟨A, hA⟩ : ∃ A, rgsCells (rs.take f) = A := ⟨_, rfl⟩
  obtain ⟨M, hM⟩ : ∃ M, rgsCells ((rs.take t).drop f) = M := ⟨_, rfl⟩
  obtain ⟨D, hD⟩ : ∃ D, rgsCells (rs.drop t) = D := ⟨_, rfl⟩
  have h1D : ∀ u ∈ D, u.oneCell' = true := by rw [← hD]; exact rgs_one
  rw [hA] at hcur hlA hs2
  rw [hM] at hcur hlM
  rw [hD] at hcur hlD hs2
  obtain ⟨rest, hrest⟩ : ∃ r, cur.drop (n * 2) = r := ⟨_, rfl⟩
  rw [hrest] at hcur
  have hzl := zeros_length (n - (f + 1 + d))
  obtain ⟨k1, k2, pre, k3, k4⟩ := mid_take (Z := (Builtin.zeroCells (Value.agg #[.int .i64 0, .int .i64 0]).cells (n - (f + 1 + d))).toList) (t := t * 2) hcur hlA (by omega) (rgCells_length x) hlD (by omega) (by rw [hzl, hcl]; omega)
  have hL1 : (splice cur (f * 2) (rgCells x)).length = cap * 2 := by rw [splice_length (by rw [hcl]; show f * 2 + 2 ≤ _; omega), hcl]
  have hL2 : (splice (splice cur (f * 2) (rgCells x)) (f * 2 + 2) D).length = cap * 2 := by rw [splice_length (by rw [hL1, hlD]; omega), hL1]
  have hf0 : (0 : Int) ≤ (f : Int) := by omega
  have hb2 : (f : Int) ≤ (t : Int) := by omega
  have hb3 : (t : Int) ≤ (n : Int) := by omega
  have hb4 : (f : Int) ≤ (n : Int) := by omega
  have hb5 : (f : Int) + 1 + (d : Int) ≤ (n : Int) := by omega
  have hb6 : (f : Int) + 1 ≤ (t : Int) := by omega
  have e1 : ((f : Int) == (t : Int)) = false := by rw [beq_eq_false_iff_ne]; omega
  have e2 : ((t : Int) == (n : Int)) = false := by rw [beq_eq_false_iff_ne]; omega
  have hc1 : ¬ (cap = t) := by omega
  have hc2 : ¬ (cap = f) := by omega
  have hc3 : ¬ (cap = f + 1) := by omega
  have hntd : n - t = d := by omega
  have hw1 : IntKind.i64.wrap ((f : Int) + 1) = (f : Int) + 1 := by rw [IntKind.wrap_i64]; omega
  have hb1 : (0 : Int) ≤ (f : Int) + 1 := by omega
  have hb7 : (f : Int) + 1 ≤ (f : Int) + 1 + (d : Int) := by omega
  have htf : ((f : Int) + 1).toNat = f + 1 := by omega
  have hfin : ∀ (w0 w' : World), Blk w' g 62 (splice (splice (splice cur (f * 2) (rgCells x)) (f * 2 + 2) D) (f * 2 + 2 + d * 2) (Builtin.zeroCells (Value.agg #[.int .i64 0, .int .i64 0]).cells (n - (f + 1 + d))).toList).toArray → Only [g] w0 w' → RgPost w0 base (.slice (some ⟨g, 0, none⟩) n cap) (rs.take f ++ x :: rs.drop t) (.returned (.slice (some ⟨g, 0, none⟩) (f + 1 + d) cap)) w' := by
    intro w0 w' hC hO
    have hfo := own_mk (e := 62) (size := 2) (n := f + 1 + d) (cap := cap) hg hC (by omega) (by unfold maxLen; omega) (by rw [k2, hcl])
    rw [show (f + 1 + d) * 2 = f * 2 + 2 + d * 2 by omega, k1] at hfo
    refine ⟨_, rfl, ?_, hO, fun k hk => .inl hk⟩
    rw [hs1, hs2, hn, hntd]
    exact hfo
  have HF := hide hfin
  have HL1 := hide hL1
  have HL2 := hide hL2
  have HCL := hide hcl
  have HLD := hide hlD
  have HK3 := hide k3
  have HK4 := hide k4
  have HX := hide hx
  have HB := hide hB
  have H1D := hide h1D
  have HX1 := hide (x_one x)
  clear hfin hL1 hL2 hcl hlD hlA hlM k1 k2 k3 k4 hzl hx hB h1D hcur hrest hsp hs1 hs2 hA hM hD hn ht
  have hc4 : cap ≠ f + 1 + d ∨ cap = f + 1 + d := by omega
  have hZ0 : (Builtin.zeroCells (Value.agg #[.int .i64 0, .int .i64 0]).cells 0).toList = [] := by simp [Builtin.zeroCells]
  have HZ0 := hide hZ0
  clear hZ0
  have HS0 : Hid (∀ (L : List Value) (k : Nat), splice L k ([] : List Value) = L) := fun L k => by simp [splice]
  rcases hc4 with hc4 | hc4
  · skip
    go_enter Try.func46, Try.ntmps46
    go_wp2_with fail
    go_quiet (fail)
    have hBq := HB.out.drewN nq
    have HBQ := hide hBq
    have HSX : Hid (∀ j v, (rgCells x)[j]? = some v → (w.drewN nq).cell? ((⟨xb, 0, none⟩ : Addr).add j) = some v) := src_blk (HX.out.drewN nq) (pre := []) (cs := rgCells x) (post := []) rfl rfl
    have HXL : Hid ((rgCells x).length = 1 * i0.size) := by show (rgCells x).length = 1 * i0.size; rw [hz1]; rfl
    have HFIT : Hid (f * 2 + (rgCells x).length ≤ cur.length) := by show f * 2 + 2 ≤ cur.length; rw [HCL.out]; omega
    clear hBq
    go_wp2_with (with_reducible refine wpList_copy_k (d := .tmp 95) (s := .tmp 96) (dT := 63) (sT := 63) rfl rfl Try.underlying63 hi g (f * 2) _ _ ⟨xb, 0, none⟩ 1 c 1 cur (rgCells x) 62 rfl rfl HBQ.out (by simp only [Nat.min_def]; split <;> omega) HXL.out HSX.out HFIT.out HX1.out ?_; intro w1 hB1 hO1; have HB1 := hide hB1; clear hB1)
    have HSD : Hid (∀ j v, D[j]? = some v → w1.cell? ((⟨g, t * 2, none⟩ : Addr).add j) = some v) := src_blk HB1.out HK3.out HK4.out
    go_region_law (refine step_copy_k (d := .tmp 103) (s := .tmp 106) (dT := 63) (sT := 63) rfl rfl Try.underlying63 hi g ((f + 1) * 2) (f + 1 + d - (f + 1)) (cap - (f + 1)) ⟨g, t * 2, none⟩ d (cap - t) d (splice cur (f * 2) (rgCells x)) D 62 (by simp [Act.eval, Act.put]) (by simp [Act.eval, Act.put]) (by exact HB1.out) (by simp only [Nat.min_def]; split <;> omega) (by rw [HLD.out, hz1]) (by exact HSD.out) (by rw [HL1.out, HLD.out]; omega) H1D.out ?_; intro w2 hB2 hO2; have e9 : (f + 1) * 2 = f * 2 + 2 := (by omega); rw [e9] at hB2; clear e9; have HB2 := hide hB2; clear hB2)
    go_wp2_with (with_reducible refine wpList_clear_k (s := .tmp 110) (t := 63) rfl rfl Try.underlying63 hi hz0 g ((f + 1 + d) * 2) (n - (f + 1 + d)) (cap - (f + 1 + d)) (splice (splice cur (f * 2) (rgCells x)) (f * 2 + 2) D) 62 rfl HB2.out (by rw [HL2.out, zcells_size]; omega) rg_zero_one ?_; intro w3 hB3 hO3)
    go_ret
    have e3 : (f + 1 + d) * 2 = f * 2 + 2 + d * 2 := by omega
    rw [e3] at hB3
    exact HF.out _ _ hB3 ((((((Only.refl [g] w).drewN nq).trans hO1 (by simp)).drew).trans hO2 (by simp)).trans hO3 (by simp))
  · have hn0 : n - (f + 1 + d) = 0 := by omega
    have HN0 := hide hn0
    clear hn0
    obtain rfl : t = f + 1 := by omega
    obtain rfl : n = f + 1 + d := by omega
    subst hc4
    have hd0 : ¬ d = 0 := by omega
    have HFIT0 : Hid (0 + (f + 1 + d - (f + 1 + d)) * (Value.agg #[.int .i64 0, .int .i64 0]).cells.size ≤ (splice (splice cur (f * 2) (rgCells x)) (f * 2 + 2) D).length) := by show 0 + (f + 1 + d - (f + 1 + d)) * _ ≤ _; rw [Nat.sub_self, Nat.zero_mul]; exact Nat.zero_le _
    clear htn hntd
    go_enter Try.func46, Try.ntmps46
    go_wp2_with fail
    go_quiet (fail)
    have hBq := HB.out.drewN nq
    have HBQ := hide hBq
    have HSX : Hid (∀ j v, (rgCells x)[j]? = some v → (w.drewN nq).cell? ((⟨xb, 0, none⟩ : Addr).add j) = some v) := src_blk (HX.out.drewN nq) (pre := []) (cs := rgCells x) (post := []) rfl rfl
    have HXL : Hid ((rgCells x).length = 1 * i0.size) := by show (rgCells x).length = 1 * i0.size; rw [hz1]; rfl
    have HFIT : Hid (f * 2 + (rgCells x).length ≤ cur.length) := by show f * 2 + 2 ≤ cur.length; rw [HCL.out]; omega
    clear hBq
    go_wp2_with (with_reducible refine wpList_copy_k (d := .tmp 95) (s := .tmp 96) (dT := 63) (sT := 63) rfl rfl Try.underlying63 hi g (f * 2) _ _ ⟨xb, 0, none⟩ 1 c 1 cur (rgCells x) 62 rfl rfl HBQ.out (by simp only [Nat.min_def]; split <;> omega) HXL.out HSX.out HFIT.out HX1.out ?_; intro w1 hB1 hO1; have HB1 := hide hB1; clear hB1)
    have HSD : Hid (∀ j v, D[j]? = some v → w1.cell? ((⟨g, (f + 1) * 2, none⟩ : Addr).add j) = some v) := src_blk HB1.out HK3.out HK4.out
    go_region_law (refine step_copy_k (d := .tmp 103) (s := .tmp 106) (dT := 63) (sT := 63) rfl rfl Try.underlying63 hi g ((f + 1) * 2) (f + 1 + d - (f + 1)) (f + 1 + d - (f + 1)) ⟨g, (f + 1) * 2, none⟩ d (f + 1 + d - (f + 1)) d (splice cur (f * 2) (rgCells x)) D 62 (by simp [Act.eval, Act.put]) (by simp [Act.eval, Act.put]) (by exact HB1.out) (by simp only [Nat.min_def]; split <;> omega) (by rw [HLD.out, hz1]) (by exact HSD.out) (by rw [HL1.out, HLD.out]; omega) H1D.out ?_; intro w2 hB2 hO2; have e9 : (f + 1) * 2 = f * 2 + 2 := (by omega); rw [e9] at hB2; clear e9; have HB2 := hide hB2; clear hB2)
    go_wp2_with (with_reducible refine wpList_clear_k (s := .tmp 110) (t := 63) rfl rfl Try.underlying63 hi hz0 g 0 (f + 1 + d - (f + 1 + d)) (f + 1 + d - (f + 1 + d)) (splice (splice cur (f * 2) (rgCells x)) (f * 2 + 2) D) 62 rfl HB2.out HFIT0.out rg_zero_one ?_; intro w3 hB3 hO3)
    go_ret
    rw [Nat.sub_self, HZ0.out, HS0.out] at hB3
    have hF := HF.out w w3
    rw [HN0.out, HZ0.out, HS0.out] at hF
    exact hF hB3 ((((((Only.refl [g] w).drewN nq).trans hO1 (by simp)).drew).trans hO2 (by simp)).trans hO3 (by simp))

end Go.Proofs.Ytkmfhcjdajbbhaa
