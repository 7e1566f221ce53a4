/-
  A space: Lose, of the chapter's measure. Printed by wip/gensl.py.
-/
import Derived.Test.YtgicljeedegncaaGreatLossFind
namespace Go.Proofs.YtgicljeedegncaaGreat
set_option linter.unusedSimpArgs false
set_option linter.unusedVariables false
open Go.RowKit

theorem okPks_map : ∀ (ps : List Pk) (l : Int), -1 ≤ l → (∀ p ∈ ps, p.may) → (∀ p ∈ ps, l < p.num) → (ps.Pairwise fun a b => a.num < b.num) → okPks l (ps.map toPK) = true
  | [], _, _, _, _, _ => rfl
  | p :: ps, l, hl, hm, hlt, hs => by
    have h1 := hm p (by simp)
    have h2 := hlt p (by simp)
    have h3 := okPks_map ps p.num (by unfold Pk.may at h1; omega) (fun q hq => hm q (by simp [hq])) (fun q hq => (List.pairwise_cons.1 hs).1 q hq) (List.pairwise_cons.1 hs).2
    show (okPk l (toPK p) && okPks (toPK p).n (ps.map toPK)) = true
    have h4 : okPk l (toPK p) = true := by
      unfold Pk.may at h1
      exact okPk_iff.2 (by unfold toPK; dsimp only; omega)
    rw [h4]
    exact h3
theorem log_ok {w : World} {b rb room : Nat} {last : Int} {ps : List Pk} (h : IsLog w b rb room last ps) : checkL (ps.map toPK) = 0 := by
  unfold checkL
  rw [if_pos ⟨by have := h.room; simp; omega, okPks_map ps (-1) (by omega) h.may (fun p hp => by have := h.may p hp; unfold Pk.may at this; omega) h.sorted⟩]
theorem log_num {w : World} {b rb room : Nat} {last : Int} {ps : List Pk} (h : IsLog w b rb room last ps) : ∀ q ∈ ps.map toPK, 0 ≤ q.n ∧ q.n ≤ 9007199254740991 ∧ 0 ≤ q.t ∧ q.t ≤ 9007199254740991 := by
  intro q hq
  obtain ⟨p, hp, rfl⟩ := List.mem_map.1 hq
  have := h.may p hp
  unfold Pk.may at this
  unfold toPK
  dsimp only
  omega
structure LqAt (w W : World) (f : Ft) (s : SpSt) : Prop where
  sp : IsSp W f s
  box : Blk W w.heap.size 45 #[.int .i64 100, .int .i64 1, .int .i64 100, .int .i64 0, .int .i64 0]
  below : Below w.heap.size w W
section
variable {w W W' : World} {f : Ft} {s : SpSt}
theorem LqAt.later (h : LqAt w W f s) (hb : Below W.heap.size W W') : LqAt w W' f s := ⟨h.sp.below hb, (hb.block _ h.box.lt).trans h.box, bw_below' h.below hb⟩
theorem LqAt.seven (h : LqAt w W f s) : W.cell? ⟨f.b, 0, none⟩ = some (.pointer (some ⟨f.lb, 0, none⟩)) ∧ W.cell? ⟨f.b, 3, none⟩ = some (.int .i64 s.great) ∧ W.cell? ⟨w.heap.size, 0, none⟩ = some (.int .i64 100) ∧ W.cell? ⟨w.heap.size, 1, none⟩ = some (.int .i64 1) ∧ W.cell? ⟨w.heap.size, 2, none⟩ = some (.int .i64 100) ∧ W.cell? ⟨w.heap.size, 3, none⟩ = some (.int .i64 0) ∧ W.cell? ⟨w.heap.size, 4, none⟩ = some (.int .i64 0) := ⟨h.sp.blk.cell 0, h.sp.blk.cell 3, h.box.cell 0, h.box.cell 1, h.box.cell 2, h.box.cell 3, h.box.cell 4⟩
end
set_option maxRecDepth 100000 in
set_option maxHeartbeats 4000000 in
theorem splose_any (f : Ft) (s : SpSt) (now : Int) (w : World) (h : IsSp w f s) (g0 : -1 ≤ s.great) (g1 : s.great ≤ 9007199254740991) (n0 : 0 ≤ now) (n1 : now ≤ 9007199254740991) :
    Calls Tryz.prog 17 #[.pointer (some ⟨f.b, 0, none⟩), .int .i64 now, .agg #[.int .i64 100, .int .i64 1, .int .i64 100, .int .i64 0, .int .i64 0]] w
      (ToldPost w f { s with loss := atF s.great now (s.ps.map toPK), ps := dropL allP ((s.ps.map toPK).filter (lostF s.great now)) s.ps } ((s.ps.map toPK).filter (lostF s.great now))) := by
  have hb0 : Below w.heap.size w (w.alloc (.cells #[.int .i64 100, .int .i64 1, .int .i64 100, .int .i64 0, .int .i64 0] 45)) := (Below.refl _ _).alloc (Nat.le_refl _) _
  have h1 : LqAt w (w.alloc (.cells #[.int .i64 100, .int .i64 1, .int .i64 100, .int .i64 0, .int .i64 0] 45)) f s := ⟨h.below hb0, Blk.new _ _ _, hb0⟩
  have HLT := hide h.lt
  have HMAY := hide h.log.may
  have HRM := hide h.log.room
  have HCK := hide (log_ok h.log)
  have HNM := hide (log_num h.log)
  obtain ⟨y0, y3, x0, x1, x2, x3, x4⟩ := h1.seven
  have HQ := hide h1
  clear h hb0 h1
  go_enter Tryz.func17, Tryz.ntmps17
  go_wp2_with fail
  refine (spnone f s _ HQ.out.sp).mono ?_
  rintro e1 w1 ⟨rfl, rfl⟩
  go_wp2_with fail
  refine wp_region_S (fun w' => w'.cell? ⟨f.b, 0, none⟩ = some (.pointer (some ⟨f.lb, 0, none⟩)) ∧ w'.cell? ⟨f.b, 3, none⟩ = some (.int .i64 s.great) ∧ w'.cell? ⟨w.heap.size, 0, none⟩ = some (.int .i64 100) ∧ w'.cell? ⟨w.heap.size, 1, none⟩ = some (.int .i64 1) ∧ w'.cell? ⟨w.heap.size, 2, none⟩ = some (.int .i64 100) ∧ w'.cell? ⟨w.heap.size, 3, none⟩ = some (.int .i64 0) ∧ w'.cell? ⟨w.heap.size, 4, none⟩ = some (.int .i64 0)) 1000 (by kernel_rfl) (by exact ⟨y0, y3, x0, x1, x2, x3, x4⟩) (fun hHeld => ?_)
  refine wpAnyS_take (i := 0) (v := ?_) rfl (by kernel_rfl) (by kernel_rfl) (by kernel_rfl) (by kernel_rfl) (fun _ _ _ h => h) (Or.inl ⟨by rfl, ?_⟩) (by assumption) ?_
  rotate_left
  · intro w hSw; (try dsimp only at hSw); go_simp; try with_reducible rfl
  try simp only [Act.put, List.getElem_toArray, List.getElem_cons_succ, List.getElem_cons_zero, List.setIfInBounds_toArray, List.set_cons_zero, List.set_cons_succ]
  refine wpAnyS_take (i := 1) (v := ?_) rfl (by kernel_rfl) (by kernel_rfl) (by kernel_rfl) (by kernel_rfl) (fun _ _ _ h => h) (Or.inl ⟨by rfl, ?_⟩) (by assumption) ?_
  rotate_left
  · intro w hSw; (try dsimp only at hSw); go_simp; try with_reducible rfl
  try simp only [Act.put, List.getElem_toArray, List.getElem_cons_succ, List.getElem_cons_zero, List.setIfInBounds_toArray, List.set_cons_zero, List.set_cons_succ]
  refine wpAnyS_take (i := 2) (v := ?_) rfl (by kernel_rfl) (by kernel_rfl) (by kernel_rfl) (by kernel_rfl) (fun _ _ _ h => h) (Or.inl ⟨by rfl, ?_⟩) (by assumption) ?_
  rotate_left
  · intro w hSw; (try dsimp only at hSw); go_simp; try with_reducible rfl
  try simp only [Act.put, List.getElem_toArray, List.getElem_cons_succ, List.getElem_cons_zero, List.setIfInBounds_toArray, List.set_cons_zero, List.set_cons_succ]
  refine wpAnyS_take (i := 3) (v := ?_) rfl (by kernel_rfl) (by kernel_rfl) (by kernel_rfl) (by kernel_rfl) (fun _ _ _ h => h) (Or.inl ⟨by rfl, ?_⟩) (by assumption) ?_
  rotate_left
  · intro w hSw; (try dsimp only at hSw); go_simp; try with_reducible rfl
  try simp only [Act.put, List.getElem_toArray, List.getElem_cons_succ, List.getElem_cons_zero, List.setIfInBounds_toArray, List.set_cons_zero, List.set_cons_succ]
  refine wpAnyS_take (i := 5) (v := ?_) rfl (by kernel_rfl) (by kernel_rfl) (by kernel_rfl) (by kernel_rfl) (fun _ _ _ h => h) (Or.inl ⟨by rfl, ?_⟩) (by assumption) ?_
  rotate_left
  · intro w hSw; (try dsimp only at hSw); go_simp; try with_reducible rfl
  try simp only [Act.put, List.getElem_toArray, List.getElem_cons_succ, List.getElem_cons_zero, List.setIfInBounds_toArray, List.set_cons_zero, List.set_cons_succ]
  refine wpAnyS_take (i := 6) (v := ?_) rfl (by kernel_rfl) (by kernel_rfl) (by kernel_rfl) (by kernel_rfl) (fun _ _ _ h => h) (Or.inl ⟨by rfl, ?_⟩) (by assumption) ?_
  rotate_left
  · intro w hSw; (try dsimp only at hSw); go_simp; try with_reducible rfl
  try simp only [Act.put, List.getElem_toArray, List.getElem_cons_succ, List.getElem_cons_zero, List.setIfInBounds_toArray, List.set_cons_zero, List.set_cons_succ]
  refine wpAnyS_take (i := 7) (v := ?_) rfl (by kernel_rfl) (by kernel_rfl) (by kernel_rfl) (by kernel_rfl) (fun _ _ _ h => h) (Or.inl ⟨by rfl, ?_⟩) (by assumption) ?_
  rotate_left
  · intro w hSw; (try dsimp only at hSw); go_simp; try with_reducible rfl
  try simp only [Act.put, List.getElem_toArray, List.getElem_cons_succ, List.getElem_cons_zero, List.setIfInBounds_toArray, List.set_cons_zero, List.set_cons_succ]
  refine wpAnyS_take (i := 8) (v := ?_) rfl (by kernel_rfl) (by kernel_rfl) (by kernel_rfl) (by kernel_rfl) (fun _ _ _ h => h) (Or.inl ⟨by rfl, ?_⟩) (by assumption) ?_
  rotate_left
  · intro w hSw; (try dsimp only at hSw); go_simp; try with_reducible rfl
  try simp only [Act.put, List.getElem_toArray, List.getElem_cons_succ, List.getElem_cons_zero, List.setIfInBounds_toArray, List.set_cons_zero, List.set_cons_succ]
  refine wpAnyS_take (i := 9) (v := ?_) rfl (by kernel_rfl) (by kernel_rfl) (by kernel_rfl) (by kernel_rfl) (fun _ _ _ h => h) (Or.inl ⟨by rfl, ?_⟩) (by assumption) ?_
  rotate_left
  · intro w hSw; (try dsimp only at hSw); go_simp; try with_reducible rfl
  try simp only [Act.put, List.getElem_toArray, List.getElem_cons_succ, List.getElem_cons_zero, List.setIfInBounds_toArray, List.set_cons_zero, List.set_cons_succ]
  refine wpAnyS_take (i := 10) (v := ?_) rfl (by kernel_rfl) (by kernel_rfl) (by kernel_rfl) (by kernel_rfl) (fun _ _ _ h => h) (Or.inl ⟨by rfl, ?_⟩) (by assumption) ?_
  rotate_left
  · intro w hSw; (try dsimp only at hSw); go_simp; try with_reducible rfl
  try simp only [Act.put, List.getElem_toArray, List.getElem_cons_succ, List.getElem_cons_zero, List.setIfInBounds_toArray, List.set_cons_zero, List.set_cons_succ]
  refine wpAnyS_one (i := 4) rfl (by kernel_rfl) (fun K hK => ?_)
  go_simp; go_at_call 50; refine (all_any _ _ _ _ _ _ (LqAt.sp (by first | exact HQ.out | exact HQ.out.later (Below.refl _ _).drew)).log).mono ?_; rintro e2 w2 ⟨v2, rfl, hv2, hb2⟩; have HQ2 := hide (LqAt.later (by first | exact HQ.out | exact HQ.out.later (Below.refl _ _).drew) hb2); obtain ⟨a2, c2, rfl⟩ := own_slice' hv2; rw [← pkcs_toPK] at hv2; have hpk2 := own_pk3 (by simp) hv2 (fun p hp => by obtain ⟨q, hq, rfl⟩ := List.mem_map.1 hp; exact toPK_small (HMAY.out q hq)); have HP2 := hide hpk2; clear hv2 hb2 hpk2
  refine hK.out _ _ (fun _ => HQ2.out.seven) (fun hH => ?_)
  have hHeld := hH rfl
  clear hK K hH
  try simp only [Act.put, List.getElem_toArray, List.getElem_cons_succ, List.getElem_cons_zero, List.setIfInBounds_toArray, List.set_cons_zero, List.set_cons_succ]
  refine wpAnyS_one (i := 11) rfl (by kernel_rfl) (fun K hK => ?_)
  go_simp; go_at_call 52; refine (lossfind_any a2 s.ps.length c2 (s.ps.map toPK) s.great now _ (by simp) (by have := HRM.out; omega) (HP2.out.1.below (by first | exact Below.refl _ _ | exact (Below.refl _ _).drew) (Nat.le_refl _)) (fun k o e => (HP2.out.2.2 k o e).2) HCK.out HNM.out g0 g1 n0 n1).mono ?_; rintro e3 w3 ⟨v3, v4, rfl, hv3, hb3⟩; have HQ3 := hide (LqAt.later (by first | exact HQ2.out | exact HQ2.out.later (Below.refl _ _).drew) hb3); have HV3 := hide (And.intro hv3 (show w.heap.size ≤ w2.heap.size from HQ2.out.below.size)); clear hv3 hb3
  refine hK.out _ _ (fun _ => HQ3.out.seven) (fun hH => ?_)
  have hHeld := hH rfl
  clear hK K hH
  try simp only [Act.put, List.getElem_toArray, List.getElem_cons_succ, List.getElem_cons_zero, List.setIfInBounds_toArray, List.set_cons_zero, List.set_cons_succ]
  refine wpAnyS_take (i := 12) (v := ?_) rfl (by kernel_rfl) (by kernel_rfl) (by kernel_rfl) (by kernel_rfl) (fun _ _ _ h => h) (Or.inl ⟨by rfl, ?_⟩) (by assumption) ?_
  rotate_left
  · intro w hSw; (try dsimp only at hSw); go_simp; try with_reducible rfl
  try simp only [Act.put, List.getElem_toArray, List.getElem_cons_succ, List.getElem_cons_zero, List.setIfInBounds_toArray, List.set_cons_zero, List.set_cons_succ]
  refine wpAnyS_take (i := 13) (v := ?_) rfl (by kernel_rfl) (by kernel_rfl) (by kernel_rfl) (by kernel_rfl) (fun _ _ _ h => h) (Or.inl ⟨by rfl, ?_⟩) (by assumption) ?_
  rotate_left
  · intro w hSw; (try dsimp only at hSw); go_simp; try with_reducible rfl
  try simp only [Act.put, List.getElem_toArray, List.getElem_cons_succ, List.getElem_cons_zero, List.setIfInBounds_toArray, List.set_cons_zero, List.set_cons_succ]
  refine wpAnyS_take (i := 14) (v := ?_) rfl (by kernel_rfl) (by kernel_rfl) (by kernel_rfl) (by kernel_rfl) (fun _ _ _ h => h) (Or.inl ⟨by rfl, ?_⟩) (by assumption) ?_
  rotate_left
  · intro w hSw; (try dsimp only at hSw); go_simp; try with_reducible rfl
  try simp only [Act.put, List.getElem_toArray, List.getElem_cons_succ, List.getElem_cons_zero, List.setIfInBounds_toArray, List.set_cons_zero, List.set_cons_succ]
  refine wpAnyS_take (i := 15) (v := ?_) rfl (by kernel_rfl) (by kernel_rfl) (by kernel_rfl) (by kernel_rfl) (fun _ _ _ h => h) (Or.inl ⟨by rfl, ?_⟩) (by assumption) ?_
  rotate_left
  · intro w hSw; (try dsimp only at hSw); go_simp; try with_reducible rfl
  try simp only [Act.put, List.getElem_toArray, List.getElem_cons_succ, List.getElem_cons_zero, List.setIfInBounds_toArray, List.set_cons_zero, List.set_cons_succ]
  refine wpAnyS_take (i := 16) (v := ?_) rfl (by kernel_rfl) (by kernel_rfl) (by kernel_rfl) (by kernel_rfl) (fun _ _ _ h => h) (Or.inl ⟨by rfl, ?_⟩) (by assumption) ?_
  rotate_left
  · intro w hSw; (try dsimp only at hSw); go_simp; try with_reducible rfl
  try simp only [Act.put, List.getElem_toArray, List.getElem_cons_succ, List.getElem_cons_zero, List.setIfInBounds_toArray, List.set_cons_zero, List.set_cons_succ]
  refine wpAnyS_take (i := 17) (v := ?_) rfl (by kernel_rfl) (by kernel_rfl) (by kernel_rfl) (by kernel_rfl) (fun _ _ _ h => h) (Or.inl ⟨by rfl, ?_⟩) (by assumption) ?_
  rotate_left
  · intro w hSw; (try dsimp only at hSw); go_simp; try with_reducible rfl
  try simp only [Act.put, List.getElem_toArray, List.getElem_cons_succ, List.getElem_cons_zero, List.setIfInBounds_toArray, List.set_cons_zero, List.set_cons_succ]
  refine wpAnyS_take (i := 18) (v := ?_) rfl (by kernel_rfl) (by kernel_rfl) (by kernel_rfl) (by kernel_rfl) (fun _ _ _ h => h) (Or.inl ⟨by rfl, ?_⟩) (by assumption) ?_
  rotate_left
  · intro w hSw; (try dsimp only at hSw); go_simp; try with_reducible rfl
  try simp only [Act.put, List.getElem_toArray, List.getElem_cons_succ, List.getElem_cons_zero, List.setIfInBounds_toArray, List.set_cons_zero, List.set_cons_succ]
  refine wpAnyS_take (i := 19) (v := ?_) rfl (by kernel_rfl) (by kernel_rfl) (by kernel_rfl) (by kernel_rfl) (fun _ _ _ h => h) (Or.inl ⟨by rfl, ?_⟩) (by assumption) ?_
  rotate_left
  · intro w hSw; (try dsimp only at hSw); go_simp; try with_reducible rfl
  try simp only [Act.put, List.getElem_toArray, List.getElem_cons_succ, List.getElem_cons_zero, List.setIfInBounds_toArray, List.set_cons_zero, List.set_cons_succ]
  refine wpAnyS_take (i := 20) (v := ?_) rfl (by kernel_rfl) (by kernel_rfl) (by kernel_rfl) (by kernel_rfl) (fun _ _ _ h => h) (Or.inl ⟨by rfl, ?_⟩) (by assumption) ?_
  rotate_left
  · intro w hSw; (try dsimp only at hSw); go_simp; try with_reducible rfl
  try simp only [Act.put, List.getElem_toArray, List.getElem_cons_succ, List.getElem_cons_zero, List.setIfInBounds_toArray, List.set_cons_zero, List.set_cons_succ]
  refine wpAnyS_done (by kernel_rfl) ?_ _
  obtain ⟨a3, c3, hv3⟩ := own_slice' HV3.out.1
  subst hv3
  have hpk3 := own_pk3 rfl HV3.out.1 (fun p hp => by
    obtain ⟨q, hq, rfl⟩ := List.mem_map.1 (List.mem_filter.1 hp).1
    exact toPK_small (HMAY.out q hq))
  have HP3 := hide hpk3
  have hl3 : ((s.ps.map toPK).filter (lostF s.great now)).length ≤ 256 := Nat.le_trans (List.length_filter_le _ _) (by have := HRM.out; simp; omega)
  have hw23 := HV3.out.2
  have y4 : w3.cell? ⟨f.b, 4, none⟩ = some (.int .i64 s.loss) := HQ3.out.sp.blk.cell 4
  have f4 : w3.frozen? ⟨f.b, 4, none⟩ = false := HQ3.out.sp.blk.frozen 4
  have ht := HQ3.out.sp.turnOwn (j := 4) (u := .int .i64 (atF s.great now (s.ps.map toPK))) (great := s.great) (loss := atF s.great now (s.ps.map toPK)) (time := s.time) rfl
  have hbn : ∀ k o, a3 = some ⟨k, o, none⟩ → k ∉ f.all := fun k o e hm => by
    have h1 := HLT.out _ hm
    have h2 := (hpk3.2.2 k o e).1
    omega
  have hpk4 : PksAt (w3.setCell ⟨f.b, 4, none⟩ (.int .i64 (atF s.great now (s.ps.map toPK)))) a3 ((s.ps.map toPK).filter (lostF s.great now)) := hpk3.1.only ht.only hbn
  have HDR := hide (dropped_all f { s with great := s.great, loss := atF s.great now (s.ps.map toPK), time := s.time } a3 _ c3 _ _ ht.sp rfl hl3 ⟨hpk4, hbn⟩)
  have HT := hide ht
  have HBN := hide (And.intro hbn (show w3.heap.size ≤ w3.heap.size from Nat.le_refl _))
  obtain ⟨A, hA⟩ : ∃ A, atF s.great now (s.ps.map toPK) = A := ⟨_, rfl⟩
  obtain ⟨out, hout⟩ : ∃ out, (s.ps.map toPK).filter (lostF s.great now) = out := ⟨_, rfl⟩
  have HOUT := hide hout
  have HA := hide hA
  rw [hA] at HDR HT ⊢
  rw [hout] at HDR hl3 ⊢
  have HL3 := hide hl3
  clear hHeld y0 y3 x0 x1 x2 x3 x4 hpk3 ht hbn hpk4 hA hout hl3 HP2 HQ2 HQ HV3
  go_wp2_with fail
  refine HDR.out.mono ?_
  rintro e5 w5 ⟨v5, f5, rfl, hD⟩
  have hfa : out.filter allP = out := List.filter_eq_self.2 (fun _ _ => rfl)
  rw [hfa] at hD
  obtain ⟨a5, c5, hv5⟩ := own_slice' hD.own
  subst hv5
  obtain ⟨hp5, hc5, hk5⟩ := own_pk3 rfl hD.own (fun p hp => by
    rw [← HOUT.out] at hp
    obtain ⟨q, hq, rfl⟩ := List.mem_map.1 (List.mem_filter.1 hp).1
    exact toPK_small (HMAY.out q hq))
  have hpost := (SpPost.ahead HQ3.out.below HT.out).trans hD.post
  have hoff := hD.off
  have hz := HQ3.out.below.size
  clear hD
  go_wp2_with fail
  go_ret2
  rw [HOUT.out, HA.out]
  exact ⟨a5, c5, f5, rfl, hp5, hc5, fun k o e => by
    subst e
    have h1 := hk5 k o rfl
    rw [World.size_setCell] at h1
    exact ⟨by omega, h1.2, hoff k rfl⟩, hpost⟩
end Go.Proofs.YtgicljeedegncaaGreat
