/-
  slices.Delete at []api.Range, of the first ones.
-/
import Derived.Test.YtkmfhcjdajbbhaaSpanEq
namespace Go.Proofs.Ytkmfhcjdajbbhaa
set_option linter.unusedSimpArgs false
set_option linter.unusedVariables false
open Go.RowKit

set_option maxRecDepth 100000 in
set_option maxHeartbeats 4000000 in
theorem delete_some (base n t d g cap : Nat) (cur : List Value) (rs : List Rg) (w : World) (hn : rs.length = n) (hg : base ≤ g) (hB : Blk w g 62 cur.toArray) (hcap : n ≤ cap) (hm : cap ≤ maxLen) (hcl : cur.length = cap * 2) (ht : cur.take (n * 2) = rgsCells rs)
    (hl : n ≤ 1000) (ht0 : 0 < t) (htd : t + d = n) :
    Calls Try.prog 51 #[.slice (some ⟨g, 0, none⟩) n cap, .int .i64 0, .int .i64 t] w (RgPost w base (.slice (some ⟨g, 0, none⟩) n cap) (rs.drop t)) := by
  obtain ⟨i0, hi, hz0, hz1, hz2⟩ := info_parts rg_info
  unfold maxLen at hm
  obtain ⟨rest, hcur⟩ := cur_split ht t
  have hlA : (rgsCells (rs.take t)).length = t * 2 := by rw [rgs_length, List.length_take, hn]; congr 1; omega
  have hlD : (rgsCells (rs.drop t)).length = d * 2 := by rw [rgs_length, List.length_drop, hn]; congr 1; omega
  have hlr : (rs.drop t).length = d := by rw [List.length_drop, hn]; omega
  obtain ⟨A, hA⟩ : ∃ A, rgsCells (rs.take t) = A := ⟨_, rfl⟩
  obtain ⟨D, hD⟩ : ∃ D, rgsCells (rs.drop t) = D := ⟨_, rfl⟩
  have h1D : ∀ u ∈ D, u.oneCell' = true := by rw [← hD]; exact rgs_one
  rw [hA] at hcur hlA
  rw [hD] at hcur hlD
  have hdl : d * 2 ≤ cap * 2 := by omega
  have hT1 : (splice cur 0 D).take (d * 2) = D := by unfold splice; rw [List.take_zero, List.nil_append, List.take_left' hlD]
  have hL1 : (splice cur 0 D).length = cap * 2 := by rw [splice_length (by rw [hcl, hlD]; omega), hcl]
  have hfin : ∀ (w' : World) (C : List Value), Blk w' g 62 C.toArray → C.length = cap * 2 → C.take (d * 2) = D → Only [g] w w' → RgPost w base (.slice (some ⟨g, 0, none⟩) n cap) (rs.drop t) (.returned (.slice (some ⟨g, 0, none⟩) d cap)) w' := by
    intro w' C hC hCl hCt hO
    have hfo := own_mk (e := 62) (size := 2) (n := d) (cap := cap) hg hC (by omega) (by unfold maxLen; omega) hCl
    rw [hCt, ← hD] at hfo
    refine ⟨_, rfl, ?_, hO, fun k hk => .inl hk⟩
    rw [hlr]
    exact hfo
  have hDL : D.length = d * i0.size := by rw [hz1, hlD]
  have hfit : 0 * i0.size + D.length ≤ cur.length := by rw [Nat.zero_mul, hlD, hcl]; omega
  have hroom : 0 + d ≤ cap := by omega
  have hsD := src_blk hB hcur hlA
  have hi0 : ((0 : Int) == (t : Int)) = false := by rw [beq_eq_false_iff_ne]; omega
  have hb1 : (t : Int) ≤ (n : Int) := by omega
  have hb2 : (0 : Int) ≤ (t : Int) := by omega
  have hb3 : (d : Int) ≤ (n : Int) := by omega
  have hb4 : (n : Int) ≤ (cap : Int) := by omega
  have hntd : n - t = d := by omega
  have hnd : n - d = t := by omega
  have hc1 : ¬ (cap = d) := by omega
  have HF := hide hfin
  have HT1 := hide hT1
  have HL1 := hide hL1
  have HDL := hide hDL
  have HFIT := hide hfit
  have HSD := hide hsD
  have HB := hide hB
  have H1D := hide h1D
  have HCL := hide hcl
  have HFZ : Hid (d * 2 + t * (Value.agg #[.int .i64 0, .int .i64 0]).cells.size ≤ (splice cur 0 D).length) := by show d * 2 + t * _ ≤ _; rw [hL1, zcells_size]; omega
  have HLT : Hid ((splice (splice cur 0 D) (d * 2) (Builtin.zeroCells (Value.agg #[.int .i64 0, .int .i64 0]).cells t).toList).length = cap * 2) := by
    show List.length _ = _
    rw [splice_length (by rw [zeros_length, hL1]; omega), hL1]
  have HTT : Hid ((splice (splice cur 0 D) (d * 2) (Builtin.zeroCells (Value.agg #[.int .i64 0, .int .i64 0]).cells t).toList).take (d * 2) = D) := by
    show List.take _ _ = _
    rw [take_splice_low (Nat.le_refl _) (by rw [hL1]; omega), hT1]
  clear hfin hT1 hL1 hDL hfit hsD hB h1D hcl hlA hlD hlr hcur hA hD ht hn hdl
  rcases (by omega : cap ≠ t ∨ cap = t) with hct | hct
  · go_enter Try.func51, Try.ntmps51
    go_wp2_with fail
    go_region_law (refine step_append_in (s := .tmp 22) (x := .tmp 25) (t := 63) rfl rfl Try.underlying63 hi g 0 cap d (cap - t) ⟨g, t * 2, none⟩ cur D (by simp [Act.eval, Act.put]) (by simp [Act.eval, Act.put]; done) (by exact HB.out) HDL.out (by exact HSD.out) hroom HFIT.out H1D.out ?_; intro w1 hB1 hO1; rw [Nat.zero_mul] at hB1; have HB1 := hide hB1; clear hB1)
    go_wp2_with (with_reducible refine wpList_clear_k (s := .tmp 31) (t := 63) rfl rfl Try.underlying63 hi hz0 g (d * 2) t (cap - d) (splice cur 0 D) 62 rfl HB1.out HFZ.out rg_zero_one ?_; intro w2 hB2 hO2)
    go_ret
    exact HF.out _ _ hB2 HLT.out HTT.out ((((Only.refl [g] w).drew).trans hO1 (by simp)).trans hO2 (by simp))
  · obtain rfl : d = 0 := by omega
    obtain rfl : cap = t := by omega
    obtain rfl : n = cap := by omega
    have HD0 : Hid (D = []) := List.eq_nil_of_length_eq_zero (by rw [HDL.out, Nat.zero_mul])
    have HSE : Hid (∀ (j : Nat) (v : Value), D[j]? = some v → w.cell? ((⟨g, 0, none⟩ : Addr).add j) = some v) := by intro j v hj; rw [HD0.out] at hj; simp at hj
    go_enter Try.func51, Try.ntmps51
    go_wp2_with fail
    go_region_law (refine step_append_in (s := .tmp 22) (x := .tmp 25) (t := 63) rfl rfl Try.underlying63 hi g 0 n 0 0 ⟨g, 0, none⟩ cur D (by simp [Act.eval, Act.put]) (by simp [Act.eval, Act.put]; done) (by exact HB.out) HDL.out (by exact HSE.out) hroom HFIT.out H1D.out ?_; intro w1 hB1 hO1; rw [Nat.zero_mul] at hB1; have HB1 := hide hB1; clear hB1)
    go_wp2_with (with_reducible refine wpList_clear_k (s := .tmp 31) (t := 63) rfl rfl Try.underlying63 hi hz0 g 0 n n (splice cur 0 D) 62 rfl HB1.out HFZ.out rg_zero_one ?_; intro w2 hB2 hO2)
    go_ret
    exact HF.out _ _ hB2 HLT.out HTT.out ((((Only.refl [g] w).drew).trans hO1 (by simp)).trans hO2 (by simp))

set_option maxHeartbeats 1000000 in
/-- slices.Delete of the first ones. -/
theorem delete_any (base n t : Nat) (v : Value) (rs : List Rg) (w : World) (hn : rs.length = n) (hown : w.ownsRow base 62 2 v n (rgsCells rs)) (hl : n ≤ 1000) (ht : t ≤ n) :
    Calls Try.prog 51 #[v, .int .i64 0, .int .i64 t] w (RgPost w base v (rs.drop t)) := by
  rcases Nat.eq_zero_or_pos t with rfl | h0
  · have hP : RgPost w base v (rs.drop 0) (.returned v) w := ⟨v, rfl, by rw [List.drop_zero, hn]; exact hown, Only.refl _ w, fun k hk => .inl hk⟩
    have HP := hide hP
    clear hP
    rcases own_split hown with ⟨rfl, rfl, _⟩ | ⟨g, cap, cur, rfl, hg, hB, hc, hm, hcl, htk⟩
    · clear hown hn
      go_enter Try.func51, Try.ntmps51
      go_wp2_with fail
      go_ret
      exact HP.out
    · have hb1 : (0 : Int) ≤ (n : Int) := by omega
      have hb4 : (n : Int) ≤ (cap : Int) := by omega
      clear hown hn hB hcl htk
      go_enter Try.func51, Try.ntmps51
      go_wp2_with fail
      go_ret
      exact HP.out
  · rcases own_split hown with ⟨_, h1, _⟩ | ⟨g, cap, cur, rfl, hg, hB, hc, hm, hcl, htk⟩
    · omega
    · exact delete_some base n t (n - t) g cap cur rs w hn hg hB hc hm hcl htk hl h0 (by omega)
end Go.Proofs.Ytkmfhcjdajbbhaa
