/-
  The statements of layer 17: a step of a run: an ACK. Printed by wip/genst2.py.
-/
import Derived.Test.YtgicljeedegncaaGreatSpStepA
namespace Go.Proofs.YtgicljeedegncaaGreat
set_option linter.unusedSimpArgs false
set_option linter.unusedVariables false
open Go.RowKit

theorem ack_sent {w : World} {f : Ft} {s : SpSt} {rs : List Rg} {sent : List Int} (ra : Option Addr) (rc : Nat) (h : IsSp w f s) (hok : AckOk rs) (hsub : ∀ q ∈ rs, ∀ x, q.lo ≤ x → x ≤ q.hi → x ∈ sent) (hmem : ∀ x, memR x s.K ↔ x ∈ sent) (hR : RgAt w ra rs) (hna : ∀ k, ra = some ⟨k, 0, none⟩ → k ∉ f.all) :
    Calls Tryz.prog 21 #[.pointer (some ⟨f.b, 0, none⟩), .agg (ackC ra rs.length rc)] w fun e w' =>
      ∃ R' M, (s.great ≤ M ∧ (M = s.great ∨ M ∈ sent)) ∧ ToldPost w f { s with R := R', great := M, ps := dropL (ackP rs) (s.ps.map toPK) s.ps } ((s.ps.map toPK).filter (ackP rs)) e w' := by
  obtain ⟨r0, hr0⟩ : ∃ r0, rs[0]? = some r0 := ⟨_, List.getElem?_eq_getElem hok.pos⟩
  have hm0 := List.mem_of_getElem? hr0
  have ho0 := hok.ok r0 hm0
  refine (spack_any f s ra rc rs r0 (if s.great < r0.hi then r0.hi else s.great) w h hok hr0 hR hna rfl).mono ?_
  rintro e w' (⟨_, R', hT⟩ | ⟨⟨q, hq, hf⟩, _⟩)
  · refine ⟨R', _, ⟨?_, ?_⟩, hT⟩
    · split <;> omega
    · split
      · exact .inr (hsub r0 hm0 _ ho0.2.1 (Int.le_refl _))
      · exact .inl rfl
  · exfalso
    have ho := hok.ok q hq
    have := any_run h.kn.good ho.2.1 (fun x h1 h2 => (hmem x).2 (hsub q hq x h1 h2))
    rw [show (⟨q.lo, q.hi⟩ : Rg) = q from rfl, hf] at this
    cases this
set_option maxRecDepth 100000 in
set_option maxHeartbeats 8000000 in
theorem step17_ack [Kept] {w W : World} {f : Ft} {s : SpSt} {r : Nat} {vs va vl : Value} {sent acked lost G : List Int} {now : Int} {N : Nat} (kd af x0 x1 x2 : Int) (h : RunAt w W f s r vs va vl sent acked lost now) (hok : RunOk s sent acked lost G now N) (hN : N ≤ 100)
    (a0 : -9223372036854775808 ≤ kd) (a1 : kd ≤ 9223372036854775807) (b0 : -9223372036854775808 ≤ af) (b1 : af ≤ 9223372036854775807) (c0 : -9223372036854775808 ≤ x0) (c1 : x0 ≤ 9223372036854775807) (d0 : -9223372036854775808 ≤ x1) (d1 : x1 ≤ 9223372036854775807) (e0 : -9223372036854775808 ≤ x2) (e1 : x2 ≤ 9223372036854775807)
    (hkd : kd % 6 = 3 ∨ kd % 6 = 4) :
    Calls Tryz.prog 12 #[.pointer (some ⟨r, 0, none⟩), .agg #[.int .i64 kd, .int .i64 af, .int .i64 x0, .int .i64 x1, .int .i64 x2]] W fun e W' => e = .returned (.bool true) ∧ ∃ f' s' va' acked' now', RunAt w W' f' s' r vs va' vl sent acked' lost now' ∧ RunOk s' sent acked' lost G now' (N + 1) ∧ s.great ≤ s'.great ∧ s'.room = s.room := by
  have BA := hide (fun W => bring_any af 1073741824 W (by omega) (by omega) b0 b1)
  have BK := hide (fun W => bring_any kd 6 W (by omega) (by omega) a0 a1)
  have r1 : 0 ≤ af % 1073741824 ∧ af % 1073741824 < 1073741824 := ⟨Int.emod_nonneg _ (by omega), Int.emod_lt_of_pos _ (by omega)⟩
  obtain ⟨dd, hdd⟩ : ∃ d, af % 1073741824 = d := ⟨_, rfl⟩
  obtain ⟨kq, hkq⟩ : ∃ d, kd % 6 = d := ⟨_, rfl⟩
  rw [hdd] at BA r1
  rw [hkq] at BK hkd
  have hn0 := hok.now0
  have hl0 := hok.last
  have HS := hide (StL.start h #[.int .i64 kd, .int .i64 af, .int .i64 x0, .int .i64 x1, .int .i64 x2])
  have HOK := hide hok
  have HDD := hide hdd
  clear h hok hdd hkq
  go_enter Tryz.func12, Tryz.ntmps12
  go_wp2_with fail
  obtain ⟨W1, hW1⟩ : ∃ W1, W.alloc (.cells #[.int .i64 kd, .int .i64 af, .int .i64 x0, .int .i64 x1, .int .i64 x2] 35) = W1 := ⟨_, rfl⟩
  rw [hW1] at HS ⊢
  have q0 := HS.out.run.blk.cell 5
  have q1 := HS.out.box.cell 1
  have f5 := HS.out.run.blk.frozen 5
  have hsz := HS.out.box.lt
  clear hW1
  refine wp_region_S (fun w' => w'.cell? ⟨r, 5, none⟩ = some (.int .i64 now) ∧ w'.cell? ⟨W.heap.size, 1, none⟩ = some (.int .i64 af) ∧ w'.frozen? ⟨r, 5, none⟩ = false) 11 (by kernel_rfl) (by exact ⟨q0, q1, f5⟩) (fun hHeld => ?_)
  refine wpAnyS_take (i := 0) (v := ?_) rfl (by kernel_rfl) (by kernel_rfl) (by kernel_rfl) (by kernel_rfl) (fun _ _ _ h => h) (Or.inl ⟨by rfl, ?_⟩) (by assumption) ?_
  rotate_left
  · intro w hSw; (try dsimp only at hSw); go_simp; try with_reducible rfl
  try simp only [Act.put, List.getElem_toArray, List.getElem_cons_succ, List.getElem_cons_zero, List.setIfInBounds_toArray, List.set_cons_zero, List.set_cons_succ]
  refine wpAnyS_take (i := 1) (v := ?_) rfl (by kernel_rfl) (by kernel_rfl) (by kernel_rfl) (by kernel_rfl) (fun _ _ _ h => h) (Or.inl ⟨by rfl, ?_⟩) (by assumption) ?_
  rotate_left
  · intro w hSw; (try dsimp only at hSw); go_simp; try with_reducible rfl
  try simp only [Act.put, List.getElem_toArray, List.getElem_cons_succ, List.getElem_cons_zero, List.setIfInBounds_toArray, List.set_cons_zero, List.set_cons_succ]
  refine wpAnyS_take (i := 2) (v := ?_) rfl (by kernel_rfl) (by kernel_rfl) (by kernel_rfl) (by kernel_rfl) (fun _ _ _ h => h) (Or.inl ⟨by rfl, ?_⟩) (by assumption) ?_
  rotate_left
  · intro w hSw; (try dsimp only at hSw); go_simp; try with_reducible rfl
  try simp only [Act.put, List.getElem_toArray, List.getElem_cons_succ, List.getElem_cons_zero, List.setIfInBounds_toArray, List.set_cons_zero, List.set_cons_succ]
  refine wpAnyS_take (i := 3) (v := ?_) rfl (by kernel_rfl) (by kernel_rfl) (by kernel_rfl) (by kernel_rfl) (fun _ _ _ h => h) (Or.inl ⟨by rfl, ?_⟩) (by assumption) ?_
  rotate_left
  · intro w hSw; (try dsimp only at hSw); go_simp; try with_reducible rfl
  try simp only [Act.put, List.getElem_toArray, List.getElem_cons_succ, List.getElem_cons_zero, List.setIfInBounds_toArray, List.set_cons_zero, List.set_cons_succ]
  refine wpAnyS_take (i := 4) (v := ?_) rfl (by kernel_rfl) (by kernel_rfl) (by kernel_rfl) (by kernel_rfl) (fun _ _ _ h => h) (Or.inl ⟨by rfl, ?_⟩) (by assumption) ?_
  rotate_left
  · intro w hSw; (try dsimp only at hSw); go_simp; try with_reducible rfl
  try simp only [Act.put, List.getElem_toArray, List.getElem_cons_succ, List.getElem_cons_zero, List.setIfInBounds_toArray, List.set_cons_zero, List.set_cons_succ]
  refine wpAnyS_take (i := 5) (v := ?_) rfl (by kernel_rfl) (by kernel_rfl) (by kernel_rfl) (by kernel_rfl) (fun _ _ _ h => h) (Or.inl ⟨by rfl, ?_⟩) (by assumption) ?_
  rotate_left
  · intro w hSw; (try dsimp only at hSw); go_simp; try with_reducible rfl
  try simp only [Act.put, List.getElem_toArray, List.getElem_cons_succ, List.getElem_cons_zero, List.setIfInBounds_toArray, List.set_cons_zero, List.set_cons_succ]
  refine wpAnyS_take (i := 6) (v := ?_) rfl (by kernel_rfl) (by kernel_rfl) (by kernel_rfl) (by kernel_rfl) (fun _ _ _ h => h) (Or.inl ⟨by rfl, ?_⟩) (by assumption) ?_
  rotate_left
  · intro w hSw; (try dsimp only at hSw); go_simp; try with_reducible rfl
  try simp only [Act.put, List.getElem_toArray, List.getElem_cons_succ, List.getElem_cons_zero, List.setIfInBounds_toArray, List.set_cons_zero, List.set_cons_succ]
  refine wpAnyS_one (i := 7) rfl (by kernel_rfl) (fun K hK => ?_)
  go_simp; go_at_call 11; refine (BA.out _).mono ?_; rintro e1 w1 ⟨rfl, rfl⟩
  refine hK.out _ _ (fun _ => by exact ⟨q0, q1, f5⟩) (fun hH => ?_)
  have hHeld := hH rfl
  clear hK K hH
  try simp only [Act.put, List.getElem_toArray, List.getElem_cons_succ, List.getElem_cons_zero, List.setIfInBounds_toArray, List.set_cons_zero, List.set_cons_succ]
  refine wpAnyS_take (i := 8) (v := ?_) rfl (by kernel_rfl) (by kernel_rfl) (by kernel_rfl) (by kernel_rfl) (fun _ _ _ h => h) (Or.inl ⟨by rfl, ?_⟩) (by assumption) ?_
  rotate_left
  · intro w hSw; (try dsimp only at hSw); go_simp; try with_reducible rfl
  try simp only [Act.put, List.getElem_toArray, List.getElem_cons_succ, List.getElem_cons_zero, List.setIfInBounds_toArray, List.set_cons_zero, List.set_cons_succ]
  refine wpAnyS_one (i := 9) rfl (by kernel_rfl) (fun K hK => ?_)
  go_simp
  refine hK.out _ _ (fun _ => by exact ⟨q0, q1, f5⟩) (fun hH => ?_)
  have hHeld := hH rfl
  clear hK K hH
  try simp only [Act.put, List.getElem_toArray, List.getElem_cons_succ, List.getElem_cons_zero, List.setIfInBounds_toArray, List.set_cons_zero, List.set_cons_succ]
  refine wpAnyS_one (i := 10) rfl (by kernel_rfl) (fun K hK => ?_)
  go_simp
  refine hK.out _ _ (fun _ => by exact ⟨q0, q1, f5⟩) (fun hH => ?_)
  have hHeld := hH rfl
  clear hK K hH
  try simp only [Act.put, List.getElem_toArray, List.getElem_cons_succ, List.getElem_cons_zero, List.setIfInBounds_toArray, List.set_cons_zero, List.set_cons_succ]
  refine wpAnyS_one (i := 11) rfl (by kernel_rfl) (fun K hK => ?_)
  go_simp
  refine hK.out _ _ (fun h => absurd h (by decide)) (fun _ => ?_)
  clear hK K
  try simp only [Act.put, List.getElem_toArray, List.getElem_cons_succ, List.getElem_cons_zero, List.setIfInBounds_toArray, List.set_cons_zero, List.set_cons_succ]
  refine wpAnyS_done (by kernel_rfl) ?_ _
  obtain ⟨T, hT⟩ : ∃ T, now + dd = T := ⟨_, rfl⟩
  have hw : IntKind.i64.wrap (now + dd) = T := by rw [← hT, IntKind.wrap_i64]; omega
  have hT2 : now ≤ T ∧ T ≤ now + 1073741823 := by omega
  rw [hw]
  have HS2 := hide ((HS.out.setNow T).drew)
  obtain ⟨W2, hW2⟩ : ∃ W2, (W1.setCell ⟨r, 5, none⟩ (.int .i64 T)).drew = W2 := ⟨_, rfl⟩
  rw [hW2] at HS2 ⊢
  have k0 := HS2.out.box.cell 0
  have k2 := HS2.out.box.cell 2
  have k3 := HS2.out.box.cell 3
  have k4 := HS2.out.box.cell 4
  have HT := hide (show now + af % 1073741824 = T by rw [HDD.out]; exact hT)
  clear HDD hw hW2 q0 q1 f5 hsz HS BA hHeld r1 hT
  go_wp2_with fail
  refine (BK.out _).mono ?_
  rintro e1 w1 ⟨rfl, rfl⟩
  clear BK
  have hck := HS2.out.run.four
  obtain ⟨p0, p1, _, _, p5, _⟩ := hck
  obtain ⟨⟨as_, cs_, hvs, hns⟩, _⟩ := HS2.out.run.forms
  subst hvs
  obtain ⟨M, hM⟩ : ∃ M, sent.length = M := ⟨_, rfl⟩
  rw [hM] at p1
  have HMM := hide hM
  have hMN : M ≤ 100 := by have := HOK.out.slen; omega
  have HNS := hide hns
  clear hns hM k0
  by_cases hM0 : M = 0
  · subst hM0
    rcases hkd with rfl | rfl
    all_goals
      go_wp2_with fail
      go_ret
      exact ⟨rfl, f, s, va, acked, T, HS2.out.run, HOK.out.tick hT2.1 hT2.2, Int.le_refl _, rfl⟩
  · have hMI : ¬ (M : Int) = 0 := by omega
    have hMb : ((M : Int) == 0) = false := by rw [beq_eq_false_iff_ne]; exact hMI
    have HC1 := hide (ranges17_any r M cs_ as_ _ _ _ _ _ sent x0 x1 x2 W2.drew (by have h := HS2.out.drew.run.blk; rw [HMM.out] at h; exact h) HNS.out HMM.out (by omega) (by omega) HOK.out.rise (fun x hx => by have := HOK.out.bnd x hx; omega) c0 c1 d0 d1 e0 e1)
    have HSRT := hide HS2.out.run.sp.sp.log.sorted
    have HRM := hide HS2.out.run.sp.sp.log.room
    rcases hkd with rfl | rfl
    all_goals
      go_wp2_with fail
      refine wp_region_S (fun w' => w'.cell? ⟨r, 0, none⟩ = some (.pointer (some ⟨f.b, 0, none⟩)) ∧ w'.cell? ⟨W.heap.size, 2, none⟩ = some (.int .i64 x0) ∧ w'.cell? ⟨W.heap.size, 3, none⟩ = some (.int .i64 x1) ∧ w'.cell? ⟨W.heap.size, 4, none⟩ = some (.int .i64 x2)) 1000 (by kernel_rfl) (by exact ⟨p0, k2, k3, k4⟩) (fun hHeld => ?_)
      refine wpAnyS_take (i := 0) (v := ?_) rfl (by kernel_rfl) (by kernel_rfl) (by kernel_rfl) (by kernel_rfl) (fun _ _ _ h => h) (Or.inl ⟨by rfl, ?_⟩) (by assumption) ?_
      rotate_left
      · intro w hSw; (try dsimp only at hSw); go_simp; try with_reducible rfl
      try simp only [Act.put, List.getElem_toArray, List.getElem_cons_succ, List.getElem_cons_zero, List.setIfInBounds_toArray, List.set_cons_zero, List.set_cons_succ]
      refine wpAnyS_take (i := 1) (v := ?_) rfl (by kernel_rfl) (by kernel_rfl) (by kernel_rfl) (by kernel_rfl) (fun _ _ _ h => h) (Or.inl ⟨by rfl, ?_⟩) (by assumption) ?_
      rotate_left
      · intro w hSw; (try dsimp only at hSw); go_simp; try with_reducible rfl
      try simp only [Act.put, List.getElem_toArray, List.getElem_cons_succ, List.getElem_cons_zero, List.setIfInBounds_toArray, List.set_cons_zero, List.set_cons_succ]
      refine wpAnyS_take (i := 2) (v := ?_) rfl (by kernel_rfl) (by kernel_rfl) (by kernel_rfl) (by kernel_rfl) (fun _ _ _ h => h) (Or.inl ⟨by rfl, ?_⟩) (by assumption) ?_
      rotate_left
      · intro w hSw; (try dsimp only at hSw); go_simp; try with_reducible rfl
      try simp only [Act.put, List.getElem_toArray, List.getElem_cons_succ, List.getElem_cons_zero, List.setIfInBounds_toArray, List.set_cons_zero, List.set_cons_succ]
      refine wpAnyS_take (i := 3) (v := ?_) rfl (by kernel_rfl) (by kernel_rfl) (by kernel_rfl) (by kernel_rfl) (fun _ _ _ h => h) (Or.inl ⟨by rfl, ?_⟩) (by assumption) ?_
      rotate_left
      · intro w hSw; (try dsimp only at hSw); go_simp; try with_reducible rfl
      try simp only [Act.put, List.getElem_toArray, List.getElem_cons_succ, List.getElem_cons_zero, List.setIfInBounds_toArray, List.set_cons_zero, List.set_cons_succ]
      refine wpAnyS_take (i := 4) (v := ?_) rfl (by kernel_rfl) (by kernel_rfl) (by kernel_rfl) (by kernel_rfl) (fun _ _ _ h => h) (Or.inl ⟨by rfl, ?_⟩) (by assumption) ?_
      rotate_left
      · intro w hSw; (try dsimp only at hSw); go_simp; try with_reducible rfl
      try simp only [Act.put, List.getElem_toArray, List.getElem_cons_succ, List.getElem_cons_zero, List.setIfInBounds_toArray, List.set_cons_zero, List.set_cons_succ]
      refine wpAnyS_take (i := 5) (v := ?_) rfl (by kernel_rfl) (by kernel_rfl) (by kernel_rfl) (by kernel_rfl) (fun _ _ _ h => h) (Or.inl ⟨by rfl, ?_⟩) (by assumption) ?_
      rotate_left
      · intro w hSw; (try dsimp only at hSw); go_simp; try with_reducible rfl
      try simp only [Act.put, List.getElem_toArray, List.getElem_cons_succ, List.getElem_cons_zero, List.setIfInBounds_toArray, List.set_cons_zero, List.set_cons_succ]
      refine wpAnyS_take (i := 6) (v := ?_) rfl (by kernel_rfl) (by kernel_rfl) (by kernel_rfl) (by kernel_rfl) (fun _ _ _ h => h) (Or.inl ⟨by rfl, ?_⟩) (by assumption) ?_
      rotate_left
      · intro w hSw; (try dsimp only at hSw); go_simp; try with_reducible rfl
      try simp only [Act.put, List.getElem_toArray, List.getElem_cons_succ, List.getElem_cons_zero, List.setIfInBounds_toArray, List.set_cons_zero, List.set_cons_succ]
      refine wpAnyS_one (i := 7) rfl (by kernel_rfl) (fun K hK => ?_)
      go_simp; go_at_call 45; refine HC1.out.mono ?_; rintro e4 w4 ⟨ra, rc, rs, rfl, hR4, hok4, hl4, hb4, hf4⟩; have HS4 := hide (HS2.out.drew.later hb4)
      refine hK.out _ _ (fun _ => ⟨HS4.out.run.blk.cell 0, HS4.out.box.cell 2, HS4.out.box.cell 3, HS4.out.box.cell 4⟩) (fun hH => ?_)
      have hHeld := hH rfl
      clear hK K hH
      try simp only [Act.put, List.getElem_toArray, List.getElem_cons_succ, List.getElem_cons_zero, List.setIfInBounds_toArray, List.set_cons_zero, List.set_cons_succ]
      refine wpAnyS_one (i := 8) rfl (by kernel_rfl) (fun K hK => ?_)
      go_simp; go_at_call 22; refine (ack17_any ra rs.length rc rs w4 rfl hl4 hR4).mono ?_; rintro e5 w5 ⟨a5, c5, rfl, hR5, hf5, hb5⟩; have HS5 := hide (HS4.out.later hb5)
      refine hK.out _ _ (fun _ => ⟨HS5.out.run.blk.cell 0, HS5.out.box.cell 2, HS5.out.box.cell 3, HS5.out.box.cell 4⟩) (fun hH => ?_)
      have hHeld := hH rfl
      clear hK K hH
      try simp only [Act.put, List.getElem_toArray, List.getElem_cons_succ, List.getElem_cons_zero, List.setIfInBounds_toArray, List.set_cons_zero, List.set_cons_succ]
      refine wpAnyS_one (i := 9) rfl (by kernel_rfl) (fun K hK => ?_)
      go_simp; go_at_call 21; refine (ack_sent a5 c5 HS5.out.run.sp.sp hok4.1 hok4.2 HOK.out.mem hR5 (fun k e hm => by have h1 := HS4.out.run.sp.sp.lt k hm; have h2 := (hf5 k 0 e).1; omega)).mono ?_; rintro e6 w6 ⟨R6, M6, hM6, a6, c6, f6, rfl, hP6, hc6, hk6, hq6⟩; have HR6 := hide (HS5.out.run.step hq6); have hx6 := hq6.only.blk HS5.out.box (fun hm => HS5.out.fb _ hm rfl)
      refine hK.out _ _ (fun _ => ⟨by rw [← hq6.b]; exact HR6.out.blk.cell 0, hx6.cell 2, hx6.cell 3, hx6.cell 4⟩) (fun hH => ?_)
      have hHeld := hH rfl
      clear hK K hH
      try simp only [Act.put, List.getElem_toArray, List.getElem_cons_succ, List.getElem_cons_zero, List.setIfInBounds_toArray, List.set_cons_zero, List.set_cons_succ]
      refine wpAnyS_take (i := 10) (v := ?_) rfl (by kernel_rfl) (by kernel_rfl) (by kernel_rfl) (by kernel_rfl) (fun _ _ _ h => h) (Or.inl ⟨by rfl, ?_⟩) (by assumption) ?_
      rotate_left
      · intro w hSw; (try dsimp only at hSw); go_simp; try with_reducible rfl
      try simp only [Act.put, List.getElem_toArray, List.getElem_cons_succ, List.getElem_cons_zero, List.setIfInBounds_toArray, List.set_cons_zero, List.set_cons_succ]
      refine wpAnyS_take (i := 11) (v := ?_) rfl (by kernel_rfl) (by kernel_rfl) (by kernel_rfl) (by kernel_rfl) (fun _ _ _ h => h) (Or.inl ⟨by rfl, ?_⟩) (by assumption) ?_
      rotate_left
      · intro w hSw; (try dsimp only at hSw); go_simp; try with_reducible rfl
      try simp only [Act.put, List.getElem_toArray, List.getElem_cons_succ, List.getElem_cons_zero, List.setIfInBounds_toArray, List.set_cons_zero, List.set_cons_succ]
      refine wpAnyS_take (i := 12) (v := ?_) rfl (by kernel_rfl) (by kernel_rfl) (by kernel_rfl) (by kernel_rfl) (fun _ _ _ h => h) (Or.inl ⟨by rfl, ?_⟩) (by assumption) ?_
      rotate_left
      · intro w hSw; (try dsimp only at hSw); go_simp; try with_reducible rfl
      try simp only [Act.put, List.getElem_toArray, List.getElem_cons_succ, List.getElem_cons_zero, List.setIfInBounds_toArray, List.set_cons_zero, List.set_cons_succ]
      refine wpAnyS_take (i := 13) (v := ?_) rfl (by kernel_rfl) (by kernel_rfl) (by kernel_rfl) (by kernel_rfl) (fun _ _ _ h => h) (Or.inl ⟨by rfl, ?_⟩) (by assumption) ?_
      rotate_left
      · intro w hSw; (try dsimp only at hSw); go_simp; try with_reducible rfl
      try simp only [Act.put, List.getElem_toArray, List.getElem_cons_succ, List.getElem_cons_zero, List.setIfInBounds_toArray, List.set_cons_zero, List.set_cons_succ]
      refine wpAnyS_take (i := 14) (v := ?_) rfl (by kernel_rfl) (by kernel_rfl) (by kernel_rfl) (by kernel_rfl) (fun _ _ _ h => h) (Or.inl ⟨by rfl, ?_⟩) (by assumption) ?_
      rotate_left
      · intro w hSw; (try dsimp only at hSw); go_simp; try with_reducible rfl
      try simp only [Act.put, List.getElem_toArray, List.getElem_cons_succ, List.getElem_cons_zero, List.setIfInBounds_toArray, List.set_cons_zero, List.set_cons_succ]
      refine wpAnyS_done (by kernel_rfl) ?_ _
      obtain ⟨out, hout⟩ : ∃ out, (s.ps.map toPK).filter (ackP rs) = out := ⟨_, rfl⟩
      have hlen : out.length ≤ 256 := by
        rw [← hout]
        have h1 := List.length_filter_le (ackP rs) (s.ps.map toPK)
        rw [List.length_map] at h1
        have := HRM.out
        omega
      have hcn := HOK.out.cnt
      have hcl := HOK.out.slen
      have hth := HOK.out.told_here (ackP rs)
      have hts := told_srt (ackP rs) HSRT.out
      rw [hout] at hP6 hth hts
      simp only [hout]
      have HTK := hide (take17_ack a6 out.length c6 out HR6.out rfl hlen hP6 (fun k o e => by
        have h1 := (hk6 k o e).1
        refine ⟨fun h2 => ?_, fun h2 => ?_⟩
        · have := HS5.out.run.blk.lt
          omega
        · have := (HS5.out.run.oa.lt k h2).2
          omega) hth hts (by omega) (by omega) (by omega))
      obtain ⟨K, hK⟩ : ∃ K, out.length = K := ⟨_, rfl⟩
      rw [hK] at HTK
      simp only [hK]
      have hfin : RunOk { s with R := R6, great := M6, ps := dropL (ackP rs) (s.ps.map toPK) s.ps } sent (acked ++ out.map PK.n) lost G T (N + 1) := by
        rw [← hout]
        refine (HOK.out.tick hT2.1 hT2.2).onAcked HSRT.out (ackP rs) (told_ack _ HSRT.out) rfl rfl ?_
        rcases hM6.2 with h | h
        · show M6 = -1 ∨ M6 ∈ sent
          rw [h]
          exact HOK.out.great
        · exact .inr h
      have HFIN := hide hfin
      clear hfin hP6 hk6 hq6 hx6 hth hts hout hlen hK hc6
      go_wp2_with fail
      refine HTK.out.mono ?_
      rintro e7 w7 ⟨rfl, v7, hR7⟩
      go_wp2_with fail
      go_ret
      exact ⟨rfl, f6, _, v7, _, T, hR7, HFIN.out, hM6.1, rfl⟩
end Go.Proofs.YtgicljeedegncaaGreat
