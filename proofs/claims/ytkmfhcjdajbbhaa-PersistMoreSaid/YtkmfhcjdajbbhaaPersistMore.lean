/-
  The statement PersistMore: its walk.
-/
import Derived.Test.YtkmfhcjdajbbhaaPersistMoreLaw
namespace Go.Proofs.Ytkmfhcjdajbbhaa
set_option linter.unusedSimpArgs false
set_option linter.unusedVariables false
open Go.RowKit

theorem pksAt_take {w : World} {a : Option Addr} {ps : List PK} (h : PksAt w a ps) (j : Nat) : PksAt w a (ps.take j) := ⟨fun p hp => h.1 p (List.mem_of_mem_take hp), fun i p hi => h.2 i p (by
  rw [List.getElem?_take] at hi
  split at hi
  · exact hi
  · cases hi)⟩
structure MoreAt (w W : World) (Y : Nat) (m0 m1 m2 : Int) (a7 : Option Addr) (ps : List PK) (za : Option Addr) (L : Nat) (Z : Nat → Int) : Prop where
  y : Blk W Y 45 #[.int .i64 m0, .int .i64 m1, .int .i64 m2]
  p : PksAt W a7 ps
  pl : ∀ k o, a7 = some ⟨k, o, none⟩ → k < W.heap.size
  z : OneAt W za L Z
  below : Below w.heap.size w W
theorem MoreAt.later {w W W' : World} {Y : Nat} {m0 m1 m2 : Int} {a7 : Option Addr} {ps : List PK} {za : Option Addr} {L : Nat} {Z : Nat → Int} (h : MoreAt w W Y m0 m1 m2 a7 ps za L Z) (hb : Below W.heap.size W W') : MoreAt w W' Y m0 m1 m2 a7 ps za L Z :=
  ⟨(hb.block _ h.y.lt).trans h.y, h.p.below hb (Nat.le_refl _), fun k o e => Nat.lt_of_lt_of_le (h.pl k o e) hb.size, h.z.below hb (Nat.le_refl _), bw_below' h.below hb⟩

set_option maxRecDepth 100000 in
set_option maxHeartbeats 8000000 in
theorem smore_any (a0 : Option Addr) (len0 cap0 : Nat) (N D B : Nat → Int) (za : Option Addr) (len1 cap1 : Nat) (Z : Nat → Int) (m0 m1 m2 : Int) (w : World) (hz : TriAt w a0 len0 N D B) (ho : OneAt w za len1 Z) (hlc : len1 ≤ cap1) (hm0 : -9223372036854775808 ≤ m0) (hm0' : m0 ≤ 9223372036854775807) (hm1 : -9223372036854775808 ≤ m1) (hm1' : m1 ≤ 9223372036854775807) (hm2 : -9223372036854775808 ≤ m2) (hm2' : m2 ≤ 9223372036854775807) :
    Calls Try.prog 5 #[.slice a0 len0 cap0, .slice za len1 cap1, .agg #[.int .i64 m0, .int .i64 m1, .int .i64 m2]] w fun e w' => e = .returned (.bool true) ∧ Below w.heap.size w w' := by
  have bw0 : Below w.heap.size w (w.alloc (.cells #[.int .i64 m0, .int .i64 m1, .int .i64 m2] 45)) := (Below.refl _ _).alloc (Nat.le_refl _) _
  have y := Blk.new w 45 #[.int .i64 m0, .int .i64 m1, .int .i64 m2]
  have HMADE := hide (made_any a0 len0 cap0 N D B (w.alloc (.cells #[.int .i64 m0, .int .i64 m1, .int .i64 m2] 45)) (hz.below bw0 (Nat.le_refl _)))
  obtain ⟨K, hK⟩ : ∃ K, min len0 40 = K := ⟨_, rfl⟩
  have hK40 : K ≤ 40 := by omega
  rw [hK] at HMADE
  obtain ⟨L, hL, hL0, hL1⟩ : ∃ L : Nat, (if (40 : Int) < (len1 : Int) then (40 : Int) else (len1 : Int)) = (L : Int) ∧ L ≤ len1 ∧ L ≤ 40 := ⟨min len1 40, by split <;> omega, by omega, by omega⟩
  have hlen1 := ho.1
  have HO := hide (ho.cut hL0)
  have HY := hide y
  have HBW := hide bw0
  have q0 := Int.emod_nonneg m2 (show (34359738368 : Int) ≠ 0 by omega)
  have q1 := Int.emod_lt_of_pos m2 (show (0 : Int) < 34359738368 by omega)
  have q2 := Int.emod_nonneg m1 (show ((L : Int) + 1) ≠ 0 by omega)
  have q3 := Int.emod_lt_of_pos m1 (show 0 < ((L : Int) + 1) by omega)
  have q4 := Int.emod_nonneg m0 (show ((K : Int) + 1) ≠ 0 by omega)
  have q5 := Int.emod_lt_of_pos m0 (show 0 < ((K : Int) + 1) by omega)
  have A2 := fun W => bring_any m2 34359738368 W (by omega) (by omega) hm2 hm2'
  have A1 := fun W => bring_any m1 ((L : Int) + 1) W (by omega) (by omega) hm1 hm1'
  have A0 := fun W => bring_any m0 ((K : Int) + 1) W (by omega) (by omega) hm0 hm0'
  obtain ⟨f, hf⟩ : ∃ f, m2 % 34359738368 = f := ⟨_, rfl⟩
  obtain ⟨J, hJ⟩ : ∃ J : Nat, m1 % ((L : Int) + 1) = (J : Int) := ⟨(m1 % ((L : Int) + 1)).toNat, by omega⟩
  obtain ⟨I, hI⟩ : ∃ I : Nat, m0 % ((K : Int) + 1) = (I : Int) := ⟨(m0 % ((K : Int) + 1)).toNat, by omega⟩
  rw [hf] at A2 q0 q1
  rw [hJ] at A1 q3
  rw [hI] at A0 q5
  have hJL : J ≤ L := by omega
  have hIK : I ≤ K := by omega
  have AA2 := hide A2
  have AA1 := hide A1
  have AA0 := hide A0
  clear A0 A1 A2 hf hJ hI q2 q3 q4 q5 bw0 y hz ho hK hm0 hm0' hm1 hm1' hm2 hm2'
  obtain ⟨ps, hps⟩ : ∃ ps, madeL N D B K = ps := ⟨_, rfl⟩
  have HSM := hide (madeL_small N D B hK40)
  have HOK := hide (madeL_ok N D B K hK40)
  have HLN := hide (madeL_len N D B K)
  rw [hps] at HMADE HSM HOK HLN
  clear hps
  go_enter Try.func5, Try.ntmps5
  go_wp2_with fail
  refine HMADE.out.mono ?_
  rintro e1 w1 ⟨v, rfl, hown, hb1⟩
  rw [HLN.out] at hown
  obtain ⟨a7, c7, rfl⟩ := own_slice' hown
  obtain ⟨hpk, hnc, hpl⟩ := own_pks HLN.out hown HSM.out
  have HM : Hid (MoreAt w w1 w.heap.size m0 m1 m2 a7 ps za L Z) := ⟨(hb1.block _ HY.out.lt).trans HY.out, hpk, hpl, (HO.out.below HBW.out (Nat.le_refl _)).below hb1 (Nat.le_refl _), bw_below' HBW.out hb1⟩
  clear hown hb1 hpk hpl HMADE HBW HY HO
  obtain ⟨Y, hY⟩ : ∃ Y, w.heap.size = Y := ⟨_, rfl⟩
  rw [hY] at HM
  have HYY := hide hY
  have y2 := HM.out.y.cell 2
  rw [hY]
  clear hY
  go_wp2_with fail
  refine (AA2.out _).mono ?_
  rintro e2 w2 ⟨rfl, rfl⟩
  clear y2
  go_wp2_with fail
  have y1 := HM.out.y.cell 1
  have e1 : IntKind.i64.wrap ((L : Int) + 1) = (L : Int) + 1 := IntWalk.i64_in _ ⟨by omega, by omega⟩
  have hJ0 : (0 : Int) ≤ (J : Int) := by omega
  have hJc : (J : Int) ≤ (cap1 : Int) := by omega
  have hJc2 : J ≤ cap1 := by omega
  refine wp_region_S (fun w' => w'.cell? ⟨Y, 1, none⟩ = some (.int .i64 m1)) 1000 (by kernel_rfl) (by exact y1) (fun hHeld => ?_)
  refine wpAnyS_take (i := 0) (v := ?_) rfl (by kernel_rfl) (by kernel_rfl) (by kernel_rfl) (by kernel_rfl) (fun _ _ _ h => h) (Or.inl ⟨by rfl, ?_⟩) (by assumption) ?_
  rotate_left
  · intro w hSw; (try dsimp only at hSw); go_simp; try with_reducible rfl
  try simp only [Act.put, List.getElem_toArray, List.getElem_cons_succ, List.getElem_cons_zero, List.setIfInBounds_toArray, List.set_cons_zero, List.set_cons_succ]
  refine wpAnyS_take (i := 2) (v := ?_) rfl (by kernel_rfl) (by kernel_rfl) (by kernel_rfl) (by kernel_rfl) (fun _ _ _ h => h) (Or.inl ⟨by rfl, ?_⟩) (by assumption) ?_
  rotate_left
  · intro w hSw; (try dsimp only at hSw); go_simp; try with_reducible rfl
  try simp only [Act.put, List.getElem_toArray, List.getElem_cons_succ, List.getElem_cons_zero, List.setIfInBounds_toArray, List.set_cons_zero, List.set_cons_succ]
  refine wpAnyS_take (i := 3) (v := ?_) rfl (by kernel_rfl) (by kernel_rfl) (by kernel_rfl) (by kernel_rfl) (fun _ _ _ h => h) (Or.inl ⟨by rfl, ?_⟩) (by assumption) ?_
  rotate_left
  · intro w hSw; (try dsimp only at hSw); go_simp; try with_reducible rfl
  try simp only [Act.put, List.getElem_toArray, List.getElem_cons_succ, List.getElem_cons_zero, List.setIfInBounds_toArray, List.set_cons_zero, List.set_cons_succ]
  refine wpAnyS_take (i := 4) (v := ?_) rfl (by kernel_rfl) (by kernel_rfl) (by kernel_rfl) (by kernel_rfl) (fun _ _ _ h => h) (Or.inl ⟨by rfl, ?_⟩) (by assumption) ?_
  rotate_left
  · intro w hSw; (try dsimp only at hSw); go_simp; try with_reducible rfl
  try simp only [Act.put, List.getElem_toArray, List.getElem_cons_succ, List.getElem_cons_zero, List.setIfInBounds_toArray, List.set_cons_zero, List.set_cons_succ]
  refine wpAnyS_take (i := 5) (v := ?_) rfl (by kernel_rfl) (by kernel_rfl) (by kernel_rfl) (by kernel_rfl) (fun _ _ _ h => h) (Or.inl ⟨by rfl, ?_⟩) (by assumption) ?_
  rotate_left
  · intro w hSw; (try dsimp only at hSw); go_simp; try with_reducible rfl
  try simp only [Act.put, List.getElem_toArray, List.getElem_cons_succ, List.getElem_cons_zero, List.setIfInBounds_toArray, List.set_cons_zero, List.set_cons_succ]
  refine wpAnyS_take (i := 6) (v := ?_) rfl (by kernel_rfl) (by kernel_rfl) (by kernel_rfl) (by kernel_rfl) (fun _ _ _ h => h) (Or.inl ⟨by rfl, ?_⟩) (by assumption) ?_
  rotate_left
  · intro w hSw; (try dsimp only at hSw); go_simp; try with_reducible rfl
  try simp only [Act.put, List.getElem_toArray, List.getElem_cons_succ, List.getElem_cons_zero, List.setIfInBounds_toArray, List.set_cons_zero, List.set_cons_succ]
  refine wpAnyS_take (i := 7) (v := ?_) rfl (by kernel_rfl) (by kernel_rfl) (by kernel_rfl) (by kernel_rfl) (fun _ _ _ h => h) (Or.inl ⟨by rfl, ?_⟩) (by assumption) ?_
  rotate_left
  · intro w hSw; (try dsimp only at hSw); go_simp; try with_reducible rfl
  try simp only [Act.put, List.getElem_toArray, List.getElem_cons_succ, List.getElem_cons_zero, List.setIfInBounds_toArray, List.set_cons_zero, List.set_cons_succ]
  refine wpAnyS_one (i := 1) rfl (by kernel_rfl) (fun K hK => ?_)
  go_simp; go_at_call 28; refine (marks_any za L cap1 Z _ (OneAt.cut (HM.out.later (by first | exact Below.refl _ _ | exact below_drewN (Below.refl _ _) _)).z (Nat.le_refl _))).mono ?_; rintro z Z1 ⟨b1, g1, rfl, hz1⟩; rw [show min L 40 = L by omega] at hz1; have hM1 := (HM.out.later (by first | exact Below.refl _ _ | exact below_drewN (Below.refl _ _) _)).later hz1.below; have hS1 := hz1.set
  refine hK.out _ _ (fun _ => hM1.y.cell 1) (fun hH => ?_)
  have hHeld := hH rfl
  clear hK K hH
  try simp only [Act.put, List.getElem_toArray, List.getElem_cons_succ, List.getElem_cons_zero, List.setIfInBounds_toArray, List.set_cons_zero, List.set_cons_succ]
  refine wpAnyS_one (i := 8) rfl (by kernel_rfl) (fun K hK => ?_)
  go_simp; go_at_call 13; refine (AA1.out _).mono ?_; rintro z Zb ⟨rfl, rfl⟩
  refine hK.out _ _ (fun _ => hM1.y.cell 1) (fun hH => ?_)
  have hHeld := hH rfl
  clear hK K hH
  try simp only [Act.put, List.getElem_toArray, List.getElem_cons_succ, List.getElem_cons_zero, List.setIfInBounds_toArray, List.set_cons_zero, List.set_cons_succ]
  refine wpAnyS_take (i := 9) (v := ?_) rfl (by kernel_rfl) (by kernel_rfl) (by kernel_rfl) (by kernel_rfl) (fun _ _ _ h => h) (Or.inl ⟨by rfl, ?_⟩) (by assumption) ?_
  rotate_left
  · intro w hSw; (try dsimp only at hSw); go_simp; try with_reducible rfl
  try simp only [Act.put, List.getElem_toArray, List.getElem_cons_succ, List.getElem_cons_zero, List.setIfInBounds_toArray, List.set_cons_zero, List.set_cons_succ]
  refine wpAnyS_one (i := 10) rfl (by kernel_rfl) (fun K hK => ?_)
  go_simp; go_at_call 28; refine (marks_any za J cap1 Z _ (OneAt.cut (hM1.later (by first | exact Below.refl _ _ | exact below_drewN (Below.refl _ _) _)).z hJL)).mono ?_; rintro z Z2 ⟨b2, g2, rfl, hz2⟩; rw [show min J 40 = J by omega] at hz2; have hM2 := (hM1.later (by first | exact Below.refl _ _ | exact below_drewN (Below.refl _ _) _)).later hz2.below; have hS2 := hz2.set; have hS1 := hS1.below (Below.trans (by first | exact Below.refl _ _ | exact below_drewN (Below.refl _ _) _) (hz2.below.mono (by first | exact Nat.le_refl _ | exact (below_drewN (Below.refl _ _) _).size)))
  refine hK.out _ _ (fun _ => hM2.y.cell 1) (fun hH => ?_)
  have hHeld := hH rfl
  clear hK K hH
  try simp only [Act.put, List.getElem_toArray, List.getElem_cons_succ, List.getElem_cons_zero, List.setIfInBounds_toArray, List.set_cons_zero, List.set_cons_succ]
  refine wpAnyS_take (i := 11) (v := ?_) rfl (by kernel_rfl) (by kernel_rfl) (by kernel_rfl) (by kernel_rfl) (fun _ _ _ h => h) (Or.inl ⟨by rfl, ?_⟩) (by assumption) ?_
  rotate_left
  · intro w hSw; (try dsimp only at hSw); go_simp; try with_reducible rfl
  try simp only [Act.put, List.getElem_toArray, List.getElem_cons_succ, List.getElem_cons_zero, List.setIfInBounds_toArray, List.set_cons_zero, List.set_cons_succ]
  refine wpAnyS_take (i := 12) (v := ?_) rfl (by kernel_rfl) (by kernel_rfl) (by kernel_rfl) (by kernel_rfl) (fun _ _ _ h => h) (Or.inl ⟨by rfl, ?_⟩) (by assumption) ?_
  rotate_left
  · intro w hSw; (try dsimp only at hSw); go_simp; try with_reducible rfl
  try simp only [Act.put, List.getElem_toArray, List.getElem_cons_succ, List.getElem_cons_zero, List.setIfInBounds_toArray, List.set_cons_zero, List.set_cons_succ]
  refine wpAnyS_done (by kernel_rfl) ?_ _
  clear hHeld e1 hM1
  have y0 := hM2.y.cell 0
  have hI0 : (0 : Int) ≤ (I : Int) := by omega
  have hIc : (I : Int) ≤ (c7 : Int) := by omega
  have hIc2 : I ≤ c7 := by omega
  go_wp2_with fail
  refine (AA0.out _).mono ?_
  rintro e5 w5 ⟨rfl, rfl⟩
  clear y0
  have G1 := marksR_good Z L
  have G2 := marksR_good Z J
  have HSUB : ∀ n, memR n (marksR Z J) → memR n (marksR Z L) := fun n hn => by
    obtain ⟨i, h1, h2⟩ := (marksR_mem Z n J).1 hn
    exact (marksR_mem Z n L).2 ⟨i, by omega, h2⟩
  have hl256 : ps.length ≤ 256 := by rw [HLN.out]; omega
  have E1 := periodOf_eq (rs := marksR Z L) (first := f) HOK.out hl256 q0 (by omega)
  have E2 := periodOf_eq (rs := marksR Z L) (first := f) (ps := ps.take I) (okPks_take I HOK.out) (by rw [List.length_take]; omega) q0 (by omega)
  have E3 := periodOf_eq (rs := marksR Z J) (first := f) HOK.out hl256 q0 (by omega)
  have M1 := more_first (rs := marksR Z L) (first := f) (ps := ps) I
  have M2 := more_less (first := f) (ps := ps) G1.1 G2.1 HSUB
  rw [← E1, ← E2] at M1
  rw [← E1, ← E3] at M2
  have HP1 := hide (period_any a7 K c7 ps (some ⟨b1, 0, none⟩) (marksR Z L) f Z2 HLN.out hnc hM2.p hM2.pl (.inr ⟨b1, g1, 256, rfl, hS1⟩))
  have HP2 := hide (fun W (h : Below Z2.heap.size Z2 W) => period_any a7 I c7 (ps.take I) (some ⟨b1, 0, none⟩) (marksR Z L) f W (by rw [List.length_take, HLN.out]; omega) hIc2 (pksAt_take (hM2.later h).p I) (hM2.later h).pl (.inr ⟨b1, g1, 256, rfl, hS1.below h⟩))
  have HP3 := hide (fun W (h : Below Z2.heap.size Z2 W) => period_any a7 K c7 ps (some ⟨b2, 0, none⟩) (marksR Z J) f W HLN.out hnc (hM2.later h).p (hM2.later h).pl (.inr ⟨b2, g2, 256, rfl, hS2.below h⟩))
  obtain ⟨P1, hP1⟩ : ∃ P, periodOf (marksR Z L) f ps = P := ⟨_, rfl⟩
  obtain ⟨P2, hP2⟩ : ∃ P, periodOf (marksR Z L) f (ps.take I) = P := ⟨_, rfl⟩
  obtain ⟨P3, hP3⟩ : ∃ P, periodOf (marksR Z J) f ps = P := ⟨_, rfl⟩
  rw [hP1] at HP1
  simp only [hP2] at HP2
  simp only [hP3] at HP3
  rw [hP1, hP2] at M1
  rw [hP1, hP3] at M2
  have HBZ := hide hM2.below
  clear E1 E2 E3 hP1 hP2 hP3 G1 G2 HSUB hM2 hS1 hS2 hl256
  obtain ⟨d1, l1, u1, x1⟩ := P1
  obtain ⟨d2, l2, u2, x2⟩ := P2
  obtain ⟨d3, l3, u3, x3⟩ := P3
  unfold perV at HP1 HP2 HP3
  dsimp only at HP1 HP2 HP3 M1 M2
  have hway : (x2 = true ∧ x1 = true ∧ x3 = true ∧ d2 ≤ d1 ∧ d1 ≤ d3) ∨ (x2 = false ∧ x1 = true ∧ x3 = true ∧ d1 ≤ d3) ∨ (x2 = false ∧ x1 = false) := by
    cases x2 <;> cases x1 <;> simp_all
  clear M1 M2
  go_wp2_with fail
  refine HP1.out.mono ?_
  rintro e6 w6 ⟨rfl, hb6⟩
  have HB6 := hide hb6
  clear hb6
  go_wp2_with fail
  refine (HP2.out _ HB6.out).mono ?_
  rintro e7 w7 ⟨rfl, hb7⟩
  have HB7 := hide (bw_below' HB6.out hb7)
  clear hb7
  go_wp2_with fail
  refine (HP3.out _ HB7.out).mono ?_
  rintro e8 w8 ⟨rfl, hb8⟩
  have HB8 := hide (bw_below' HBZ.out (bw_below' HB7.out hb8))
  clear hb8
  rcases hway with ⟨rfl, rfl, rfl, h1, h2⟩ | ⟨rfl, rfl, rfl, h2⟩ | ⟨rfl, rfl⟩
  · go_wp2_with fail
    refine (works10_any _).mono ?_
    rintro e9 w9 ⟨rfl, hb9⟩
    go_wp2_with fail
    go_ret
    exact ⟨rfl, bw_below' HB8.out hb9⟩
  · go_wp2_with fail
    refine (works10_any _).mono ?_
    rintro e9 w9 ⟨rfl, hb9⟩
    go_wp2_with fail
    go_ret
    exact ⟨rfl, bw_below' HB8.out hb9⟩
  · go_wp2_with fail
    refine (works10_any _).mono ?_
    rintro e9 w9 ⟨rfl, hb9⟩
    go_wp2_with fail
    go_ret
    exact ⟨rfl, bw_below' HB8.out hb9⟩
end Go.Proofs.Ytkmfhcjdajbbhaa
