/-
 Layer 24 (judge): slices.Delete of one flying packet.
-/
import Derived.Test.YtidfngcclbhoaaaJgSendsA
namespace Go.Proofs.Ytidfngcclbhoaaa
open List renaming getElem?_toArray → ZG
open Go.Act renaming put → ZP
open Go.Value renaming int → ZI
open Go.IntKind renaming i64 → ZQ
set_option linter.unusedSimpArgs false
set_option linter.unusedVariables false
open Go.RowKit Go.Shelf
def pkZ : Value := .agg #[ZI ZQ 0, ZI ZQ 0, ZI ZQ 0, .bool false, .bool false, .bool false, .bool false, ZI ZQ 0]
theorem pkz_size : (Value.agg #[ZI ZQ 0, ZI ZQ 0, ZI ZQ 0, .bool false, .bool false, .bool false, .bool false, ZI ZQ 0]).cells.size = 8 := rfl
theorem pkz_length (n : Nat) : (Builtin.zeroCells (Value.agg #[ZI ZQ 0, ZI ZQ 0, ZI ZQ 0, .bool false, .bool false, .bool false, .bool false, ZI ZQ 0]).cells n).toList.length = n * 8 := by simp [Builtin.zeroCells, Value.cells]
theorem pkz_one {n : Nat} : ∀ v ∈ (Builtin.zeroCells (Value.agg #[ZI ZQ 0, ZI ZQ 0, ZI ZQ 0, .bool false, .bool false, .bool false, .bool false, ZI ZQ 0]).cells n).toList, v.oneCell' = true := by
 intro v hv
 simp [Builtin.zeroCells, Value.cells] at hv
 obtain ⟨a, ha, rfl⟩ := hv
 rcases (by omega : a % 8 = 0 ∨ a % 8 = 1 ∨ a % 8 = 2 ∨ a % 8 = 3 ∨ a % 8 = 4 ∨ a % 8 = 5 ∨ a % 8 = 6 ∨ a % 8 = 7) with h | h | h | h | h | h | h | h <;> rw [h] <;> rfl
theorem pks_one {l : List PKT} : ∀ u ∈ l.flatMap pktL, u.oneCell' = true := by
 intro u hu
 obtain ⟨s, _, hs⟩ := List.mem_flatMap.1 hu
 simp [pktL] at hs
 rcases hs with h | h | h | h | h | h | h | h <;> subst h <;> rfl
theorem pks_length (l : List PKT) : (l.flatMap pktL).length = l.length * 8 := flat_length pktL 8 pktL_length l
theorem src_at {w : World} {g t o : Nat} {cur pre cs post : List Value} (h : Blk w g t cur.toArray) (e : cur = pre ++ (cs ++ post)) (ho : pre.length = o) : ∀ j v, cs[j]? = some v → w.cell? ((⟨g, o, none⟩ : Addr).add j) = some v := by
 intro j v hj
 have hadd : (⟨g, o, none⟩ : Addr).add j = ⟨g, o + j, none⟩ := by unfold Addr.add; split <;> simp_all
 have hl : j < cs.length := (List.getElem?_eq_some_iff.1 hj).1
 rw [hadd, h.cell, ZG, e, List.getElem?_append_right (by omega), List.getElem?_append_left (by omega), show o + j - pre.length = j by omega]
 exact hj
theorem take_low {L cs : List Value} {off k : Nat} (hk : k ≤ off) (ho : off ≤ L.length) : (splice L off cs).take k = L.take k := by
 unfold splice
 rw [List.take_append_of_le_length (by rw [List.length_take]; omega), List.take_take, Nat.min_eq_left hk]
/-- What Delete leaves. -/
def DelPost (w : World) (base g n cap : Nat) (l : List PKT) (e : Ending) (w' : World) : Prop :=
 e = .returned (.slice (some ⟨g, 0, none⟩) n cap) ∧ w'.ownsRow base 106 8 (.slice (some ⟨g, 0, none⟩) n cap) n (l.flatMap pktL) ∧ Only [g] w w'
set_option maxRecDepth 100000 in
set_option maxHeartbeats 4000000 in
theorem delete_one (base n i t d g cap : Nat) (cur : List Value) (l : List PKT) (w : World) (hn : l.length = n) (hg : base ≤ g) (hB : Blk w g 106 cur.toArray) (hcap : n ≤ cap) (hm : cap ≤ maxLen) (hcl : cur.length = cap * 8) (ht : cur.take (n * 8) = l.flatMap pktL)
  (hl : n ≤ 2000) (hti : t = i + 1) (htd : t + d = n) (m : Nat) (hmi : i + d = m) :
  Calls Try.prog 63 #[.slice (some ⟨g, 0, none⟩) n cap, ZI ZQ i, ZI ZQ t] w (DelPost w base g m cap (l.eraseIdx i)) := by
 obtain ⟨i0, hi, hz0, hz1, hz2⟩ := info_parts pkt_info
 unfold maxLen at hm
 have herase : l.eraseIdx i = l.take i ++ l.drop t := by rw [hti, List.eraseIdx_eq_take_drop_succ]
 have hcur : ∃ rest, cur = (l.take t).flatMap pktL ++ ((l.drop t).flatMap pktL ++ rest) := by
  refine ⟨cur.drop (n * 8), ?_⟩
  rw [← List.append_assoc, ← List.flatMap_append, List.take_append_drop, ← ht, List.take_append_drop]
 obtain ⟨rest, hcur⟩ := hcur
 have hlA : ((l.take t).flatMap pktL).length = t * 8 := by rw [pks_length, List.length_take, hn]; congr 1; omega
 have hlP : ((l.take i).flatMap pktL).length = i * 8 := by rw [pks_length, List.length_take, hn]; congr 1; omega
 have hlD : ((l.drop t).flatMap pktL).length = d * 8 := by rw [pks_length, List.length_drop, hn]; congr 1; omega
 have hPt : cur.take (i * 8) = (l.take i).flatMap pktL := by
  have e1 : l.flatMap pktL = (l.take i).flatMap pktL ++ (l.drop i).flatMap pktL := by rw [← List.flatMap_append, List.take_append_drop]
  have e2 : (cur.take (n * 8)).take (i * 8) = cur.take (i * 8) := by rw [List.take_take, Nat.min_eq_left (by omega)]
  rw [← e2, ht, e1, List.take_left' hlP]
 obtain ⟨A, hA⟩ : ∃ A, (l.take t).flatMap pktL = A := ⟨_, rfl⟩
 obtain ⟨P, hP⟩ : ∃ P, (l.take i).flatMap pktL = P := ⟨_, rfl⟩
 obtain ⟨D, hD⟩ : ∃ D, (l.drop t).flatMap pktL = D := ⟨_, rfl⟩
 have h1D : ∀ u ∈ D, u.oneCell' = true := by rw [← hD]; exact pks_one
 rw [hA] at hcur hlA
 rw [hP] at hlP hPt
 rw [hD] at hcur hlD
 have hidl : i * 8 + d * 8 ≤ cap * 8 := by omega
 have hL1 : (splice cur (i * 8) D).length = cap * 8 := by rw [length_splice _ _ _ (by rw [hcl, hlD]; omega), hcl]
 have hT1 : (splice cur (i * 8) D).take (m * 8) = P ++ D := by
  unfold splice
  rw [hPt, ← List.append_assoc, List.take_left' (by rw [List.length_append, hlP, hlD]; omega)]
 have hfin : ∀ (w' : World) (C : List Value), Blk w' g 106 C.toArray → C.length = cap * 8 → C.take (m * 8) = P ++ D → Only [g] w w' → DelPost w base g m cap (l.eraseIdx i) (.returned (.slice (some ⟨g, 0, none⟩) m cap)) w' := by
  intro w' C hC hCl hCt hO
  have hfo := own_mk (e := 106) (size := 8) (n := m) (cap := cap) hg hC (by omega) (by unfold maxLen; omega) hCl
  rw [hCt, ← hD, ← hP, ← List.flatMap_append, ← herase] at hfo
  exact ⟨rfl, hfo, hO⟩
 have hDL : D.length = d * i0.size := by rw [hz1, hlD]
 have hfit : i * i0.size + D.length ≤ cur.length := by rw [hz1, hlD, hcl]; omega
 have hroom : i + d ≤ cap := by omega
 have hsD := src_at hB hcur hlA
 have hi0 : ((i : Int) == (t : Int)) = false := by rw [beq_eq_false_iff_ne]; omega
 have hb1 : (t : Int) ≤ (n : Int) := by omega
 have hb2 : (i : Int) ≤ (t : Int) := by omega
 have hb2' : (0 : Int) ≤ (i : Int) := by omega
 have hb3 : (m : Int) ≤ (n : Int) := by omega
 have hb3o : ((i + d : Nat) : Int) ≤ (n : Int) := by omega
 have hnd0 : n - (i + d) = 1 := by omega
 have hc0 : ¬ (cap = i + d) := by omega
 have hb4 : (n : Int) ≤ (cap : Int) := by omega
 have hb5 : (i : Int) ≤ (n : Int) := by omega
 have hb6 : (i : Int) ≤ (cap : Int) := by omega
 have hb7 : i ≤ cap := by omega
 have hntd : n - t = d := by omega
 have hnd : n - m = 1 := by omega
 have hc1 : ¬ (cap = m) := by omega
 have hci : ¬ (cap = i) := by omega
 have hz1' := hz1
 have HF := hide hfin
 have HDL := hide hDL
 have HFIT := hide hfit
 have HSD := hide hsD
 have HB := hide hB
 have H1D := hide h1D
 have HZ1 := hide hz1'
 have HFZ : Hid (m * 8 + 1 * (Value.agg #[ZI ZQ 0, ZI ZQ 0, ZI ZQ 0, .bool false, .bool false, .bool false, .bool false, ZI ZQ 0]).cells.size ≤ (splice cur (i * 8) D).length) := by show m * 8 + 1 * _ ≤ _; rw [hL1, pkz_size]; omega
 have HLT : Hid ((splice (splice cur (i * 8) D) (m * 8) (Builtin.zeroCells (Value.agg #[ZI ZQ 0, ZI ZQ 0, ZI ZQ 0, .bool false, .bool false, .bool false, .bool false, ZI ZQ 0]).cells 1).toList).length = cap * 8) := by
  show List.length _ = _
  rw [length_splice _ _ _ (by rw [pkz_length, hL1]; omega), hL1]
 have HTT : Hid ((splice (splice cur (i * 8) D) (m * 8) (Builtin.zeroCells (Value.agg #[ZI ZQ 0, ZI ZQ 0, ZI ZQ 0, .bool false, .bool false, .bool false, .bool false, ZI ZQ 0]).cells 1).toList).take (m * 8) = P ++ D) := by
  show List.take _ _ = _
  rw [take_low (Nat.le_refl _) (by rw [hL1]; omega), hT1]
 have HHTI := hide hti
 have HM := hide hmi
 have HROOM := hide hroom
 clear hfin hT1 hL1 hDL hfit hsD hB h1D hcl hlA hlD hlP hcur hA hD hP hPt ht hn hidl herase hz1' hti hmi
 rcases (by omega : cap ≠ t ∨ cap = t) with hct | hct
 ·go_enter Try.func63, Try.ntmps63
  go_wp2_with fail
  go_region_law (refine step_append_in (s := .tmp 22) (x := .tmp 25) (t := 55) rfl rfl Try.underlying55 hi g i cap d (cap - t) ⟨g, t * 8, none⟩ cur D (by simp [Act.eval, ZP]) (by simp [Act.eval, ZP]; done) (by exact HB.out) HDL.out (by exact HSD.out) HROOM.out HFIT.out H1D.out ?_; intro w1 hB1 hO1; rw [HZ1.out] at hB1; have HB1 := hide hB1; clear hB1)
  rw [HM.out]
  go_wp2_with (with_reducible refine wpList_clear_k (s := .tmp 31) (t := 55) rfl rfl Try.underlying55 hi hz0 g (m * 8) 1 (cap - m) (splice cur (i * 8) D) 106 rfl HB1.out HFZ.out pkz_one ?_; intro w2 hB2 hO2)
  go_ret
  exact HF.out _ _ hB2 HLT.out HTT.out ((((Only.refl [g] w).drew).trans hO1 (by simp)).trans hO2 (by simp))
 ·obtain rfl : d = 0 := by omega
  obtain rfl : cap = t := by omega
  obtain rfl : n = cap := by omega
  obtain rfl : m = i := by have := HM.out; omega
  have HD0 : Hid (D = []) := List.eq_nil_of_length_eq_zero (by rw [HDL.out, Nat.zero_mul])
  have HSE : Hid (∀ (j : Nat) (v : Value), D[j]? = some v → w.cell? ((⟨g, 0, none⟩ : Addr).add j) = some v) := by intro j v hj; rw [HD0.out] at hj; simp at hj
  go_enter Try.func63, Try.ntmps63
  go_wp2_with fail
  go_region_law (refine step_append_in (s := .tmp 22) (x := .tmp 25) (t := 55) rfl rfl Try.underlying55 hi g m n 0 0 ⟨g, 0, none⟩ cur D (by simp [Act.eval, ZP]) (by simp [Act.eval, ZP]; done) (by exact HB.out) HDL.out (by exact HSE.out) HROOM.out HFIT.out H1D.out ?_; intro w1 hB1 hO1; rw [HZ1.out] at hB1; have HB1 := hide hB1; clear hB1)
  go_wp2_with (with_reducible refine wpList_clear_k (s := .tmp 31) (t := 55) rfl rfl Try.underlying55 hi hz0 g (m * 8) 1 1 (splice cur (m * 8) D) 106 rfl HB1.out HFZ.out pkz_one ?_; intro w2 hB2 hO2)
  go_ret
  exact HF.out _ _ hB2 HLT.out HTT.out ((((Only.refl [g] w).drew).trans hO1 (by simp)).trans hO2 (by simp))
end Go.Proofs.Ytidfngcclbhoaaa
