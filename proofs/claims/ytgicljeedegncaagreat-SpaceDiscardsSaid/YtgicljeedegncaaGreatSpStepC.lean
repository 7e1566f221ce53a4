/-
  The statements of layer 17: a step of a run: Lose. Printed by wip/genst2.py.
-/
import Derived.Test.YtgicljeedegncaaGreatSpStepB
namespace Go.Proofs.YtgicljeedegncaaGreat
set_option linter.unusedSimpArgs false
set_option linter.unusedVariables false
open Go.RowKit

/-- What Lose leaves of a space. -/
def lostSt (s : SpSt) (T : Int) : SpSt := { s with loss := atF s.great T (s.ps.map toPK), ps := s.ps.filter fun p => !lostF s.great T (toPK p) }
set_option maxRecDepth 100000 in
set_option maxHeartbeats 8000000 in
theorem step17_lose [Kept] {w W : World} {f : Ft} {s : SpSt} {r : Nat} {vs va vl : Value} {sent acked lost G : List Int} {now : Int} {N : Nat} (kd af x0 x1 x2 : Int) (h : RunAt w W f s r vs va vl sent acked lost now) (hok : RunOk s sent acked lost G now N) (hN : N ≤ 100)
    (a0 : -9223372036854775808 ≤ kd) (a1 : kd ≤ 9223372036854775807) (b0 : -9223372036854775808 ≤ af) (b1 : af ≤ 9223372036854775807) (c0 : -9223372036854775808 ≤ x0) (c1 : x0 ≤ 9223372036854775807) (d0 : -9223372036854775808 ≤ x1) (d1 : x1 ≤ 9223372036854775807) (e0 : -9223372036854775808 ≤ x2) (e1 : x2 ≤ 9223372036854775807)
    (hkd : kd % 6 = 5) :
    Calls Tryz.prog 12 #[.pointer (some ⟨r, 0, none⟩), .agg #[.int .i64 kd, .int .i64 af, .int .i64 x0, .int .i64 x1, .int .i64 x2]] W fun e W' => e = .returned (.bool true) ∧ ∃ f' vl' lost' now', now' = now + af % 1073741824 ∧ RunAt w W' f' (lostSt s now') r vs va vl' sent acked lost' now' ∧ RunOk (lostSt s now') sent acked lost' G now' (N + 1) := by
  have BA := hide (fun W => bring_any af 1073741824 W (by omega) (by omega) b0 b1)
  have BK := hide (fun W => bring_any kd 6 W (by omega) (by omega) a0 a1)
  have r1 : 0 ≤ af % 1073741824 ∧ af % 1073741824 < 1073741824 := ⟨Int.emod_nonneg _ (by omega), Int.emod_lt_of_pos _ (by omega)⟩
  obtain ⟨dd, hdd⟩ : ∃ d, af % 1073741824 = d := ⟨_, rfl⟩
  obtain ⟨kq, hkq⟩ : ∃ d, kd % 6 = d := ⟨_, rfl⟩
  rw [hdd] at BA r1
  rw [hkq] at BK hkd
  have hn0 := hok.now0
  have hl0 := hok.last
  have HS := hide (StL.start h #[.int .i64 kd, .int .i64 af, .int .i64 x0, .int .i64 x1, .int .i64 x2])
  have HOK := hide hok
  have HDD := hide hdd
  clear h hok hdd hkq
  go_enter Tryz.func12, Tryz.ntmps12
  go_wp2_with fail
  obtain ⟨W1, hW1⟩ : ∃ W1, W.alloc (.cells #[.int .i64 kd, .int .i64 af, .int .i64 x0, .int .i64 x1, .int .i64 x2] 35) = W1 := ⟨_, rfl⟩
  rw [hW1] at HS ⊢
  have q0 := HS.out.run.blk.cell 5
  have q1 := HS.out.box.cell 1
  have f5 := HS.out.run.blk.frozen 5
  have hsz := HS.out.box.lt
  clear hW1
  refine wp_region_S (fun w' => w'.cell? ⟨r, 5, none⟩ = some (.int .i64 now) ∧ w'.cell? ⟨W.heap.size, 1, none⟩ = some (.int .i64 af) ∧ w'.frozen? ⟨r, 5, none⟩ = false) 11 (by kernel_rfl) (by exact ⟨q0, q1, f5⟩) (fun hHeld => ?_)
  refine wpAnyS_take (i := 0) (v := ?_) rfl (by kernel_rfl) (by kernel_rfl) (by kernel_rfl) (by kernel_rfl) (fun _ _ _ h => h) (Or.inl ⟨by rfl, ?_⟩) (by assumption) ?_
  rotate_left
  · intro w hSw; (try dsimp only at hSw); go_simp; try with_reducible rfl
  try simp only [Act.put, List.getElem_toArray, List.getElem_cons_succ, List.getElem_cons_zero, List.setIfInBounds_toArray, List.set_cons_zero, List.set_cons_succ]
  refine wpAnyS_take (i := 1) (v := ?_) rfl (by kernel_rfl) (by kernel_rfl) (by kernel_rfl) (by kernel_rfl) (fun _ _ _ h => h) (Or.inl ⟨by rfl, ?_⟩) (by assumption) ?_
  rotate_left
  · intro w hSw; (try dsimp only at hSw); go_simp; try with_reducible rfl
  try simp only [Act.put, List.getElem_toArray, List.getElem_cons_succ, List.getElem_cons_zero, List.setIfInBounds_toArray, List.set_cons_zero, List.set_cons_succ]
  refine wpAnyS_take (i := 2) (v := ?_) rfl (by kernel_rfl) (by kernel_rfl) (by kernel_rfl) (by kernel_rfl) (fun _ _ _ h => h) (Or.inl ⟨by rfl, ?_⟩) (by assumption) ?_
  rotate_left
  · intro w hSw; (try dsimp only at hSw); go_simp; try with_reducible rfl
  try simp only [Act.put, List.getElem_toArray, List.getElem_cons_succ, List.getElem_cons_zero, List.setIfInBounds_toArray, List.set_cons_zero, List.set_cons_succ]
  refine wpAnyS_take (i := 3) (v := ?_) rfl (by kernel_rfl) (by kernel_rfl) (by kernel_rfl) (by kernel_rfl) (fun _ _ _ h => h) (Or.inl ⟨by rfl, ?_⟩) (by assumption) ?_
  rotate_left
  · intro w hSw; (try dsimp only at hSw); go_simp; try with_reducible rfl
  try simp only [Act.put, List.getElem_toArray, List.getElem_cons_succ, List.getElem_cons_zero, List.setIfInBounds_toArray, List.set_cons_zero, List.set_cons_succ]
  refine wpAnyS_take (i := 4) (v := ?_) rfl (by kernel_rfl) (by kernel_rfl) (by kernel_rfl) (by kernel_rfl) (fun _ _ _ h => h) (Or.inl ⟨by rfl, ?_⟩) (by assumption) ?_
  rotate_left
  · intro w hSw; (try dsimp only at hSw); go_simp; try with_reducible rfl
  try simp only [Act.put, List.getElem_toArray, List.getElem_cons_succ, List.getElem_cons_zero, List.setIfInBounds_toArray, List.set_cons_zero, List.set_cons_succ]
  refine wpAnyS_take (i := 5) (v := ?_) rfl (by kernel_rfl) (by kernel_rfl) (by kernel_rfl) (by kernel_rfl) (fun _ _ _ h => h) (Or.inl ⟨by rfl, ?_⟩) (by assumption) ?_
  rotate_left
  · intro w hSw; (try dsimp only at hSw); go_simp; try with_reducible rfl
  try simp only [Act.put, List.getElem_toArray, List.getElem_cons_succ, List.getElem_cons_zero, List.setIfInBounds_toArray, List.set_cons_zero, List.set_cons_succ]
  refine wpAnyS_take (i := 6) (v := ?_) rfl (by kernel_rfl) (by kernel_rfl) (by kernel_rfl) (by kernel_rfl) (fun _ _ _ h => h) (Or.inl ⟨by rfl, ?_⟩) (by assumption) ?_
  rotate_left
  · intro w hSw; (try dsimp only at hSw); go_simp; try with_reducible rfl
  try simp only [Act.put, List.getElem_toArray, List.getElem_cons_succ, List.getElem_cons_zero, List.setIfInBounds_toArray, List.set_cons_zero, List.set_cons_succ]
  refine wpAnyS_one (i := 7) rfl (by kernel_rfl) (fun K hK => ?_)
  go_simp; go_at_call 11; refine (BA.out _).mono ?_; rintro e1 w1 ⟨rfl, rfl⟩
  refine hK.out _ _ (fun _ => by exact ⟨q0, q1, f5⟩) (fun hH => ?_)
  have hHeld := hH rfl
  clear hK K hH
  try simp only [Act.put, List.getElem_toArray, List.getElem_cons_succ, List.getElem_cons_zero, List.setIfInBounds_toArray, List.set_cons_zero, List.set_cons_succ]
  refine wpAnyS_take (i := 8) (v := ?_) rfl (by kernel_rfl) (by kernel_rfl) (by kernel_rfl) (by kernel_rfl) (fun _ _ _ h => h) (Or.inl ⟨by rfl, ?_⟩) (by assumption) ?_
  rotate_left
  · intro w hSw; (try dsimp only at hSw); go_simp; try with_reducible rfl
  try simp only [Act.put, List.getElem_toArray, List.getElem_cons_succ, List.getElem_cons_zero, List.setIfInBounds_toArray, List.set_cons_zero, List.set_cons_succ]
  refine wpAnyS_one (i := 9) rfl (by kernel_rfl) (fun K hK => ?_)
  go_simp
  refine hK.out _ _ (fun _ => by exact ⟨q0, q1, f5⟩) (fun hH => ?_)
  have hHeld := hH rfl
  clear hK K hH
  try simp only [Act.put, List.getElem_toArray, List.getElem_cons_succ, List.getElem_cons_zero, List.setIfInBounds_toArray, List.set_cons_zero, List.set_cons_succ]
  refine wpAnyS_one (i := 10) rfl (by kernel_rfl) (fun K hK => ?_)
  go_simp
  refine hK.out _ _ (fun _ => by exact ⟨q0, q1, f5⟩) (fun hH => ?_)
  have hHeld := hH rfl
  clear hK K hH
  try simp only [Act.put, List.getElem_toArray, List.getElem_cons_succ, List.getElem_cons_zero, List.setIfInBounds_toArray, List.set_cons_zero, List.set_cons_succ]
  refine wpAnyS_one (i := 11) rfl (by kernel_rfl) (fun K hK => ?_)
  go_simp
  refine hK.out _ _ (fun h => absurd h (by decide)) (fun _ => ?_)
  clear hK K
  try simp only [Act.put, List.getElem_toArray, List.getElem_cons_succ, List.getElem_cons_zero, List.setIfInBounds_toArray, List.set_cons_zero, List.set_cons_succ]
  refine wpAnyS_done (by kernel_rfl) ?_ _
  obtain ⟨T, hT⟩ : ∃ T, now + dd = T := ⟨_, rfl⟩
  have hw : IntKind.i64.wrap (now + dd) = T := by rw [← hT, IntKind.wrap_i64]; omega
  have hT2 : now ≤ T ∧ T ≤ now + 1073741823 := by omega
  rw [hw]
  have HS2 := hide ((HS.out.setNow T).drew)
  obtain ⟨W2, hW2⟩ : ∃ W2, (W1.setCell ⟨r, 5, none⟩ (.int .i64 T)).drew = W2 := ⟨_, rfl⟩
  rw [hW2] at HS2 ⊢
  have k0 := HS2.out.box.cell 0
  have k2 := HS2.out.box.cell 2
  have k3 := HS2.out.box.cell 3
  have k4 := HS2.out.box.cell 4
  have HT := hide (show now + af % 1073741824 = T by rw [HDD.out]; exact hT)
  clear HDD hw hW2 q0 q1 f5 hsz HS BA hHeld r1 hT
  go_wp2_with fail
  refine (BK.out _).mono ?_
  rintro e1 w1 ⟨rfl, rfl⟩
  clear BK
  have hck := HS2.out.run.four
  obtain ⟨p0, p1, _, _, p5, _⟩ := hck
  subst hkd
  have hgr : -1 ≤ s.great ∧ s.great ≤ 9007199254740991 := by
    rcases HOK.out.great with h | h
    · omega
    · have := HOK.out.bnd _ h
      omega
  have HSRT := hide HS2.out.run.sp.sp.log.sorted
  have HRM := hide HS2.out.run.sp.sp.log.room
  go_wp2_with fail
  refine wp_region_S (fun w' => w'.cell? ⟨r, 0, none⟩ = some (.pointer (some ⟨f.b, 0, none⟩)) ∧ w'.cell? ⟨r, 5, none⟩ = some (.int .i64 T)) 1000 (by kernel_rfl) (by exact ⟨p0, p5⟩) (fun hHeld => ?_)
  refine wpAnyS_take (i := 0) (v := ?_) rfl (by kernel_rfl) (by kernel_rfl) (by kernel_rfl) (by kernel_rfl) (fun _ _ _ h => h) (Or.inl ⟨by rfl, ?_⟩) (by assumption) ?_
  rotate_left
  · intro w hSw; (try dsimp only at hSw); go_simp; try with_reducible rfl
  try simp only [Act.put, List.getElem_toArray, List.getElem_cons_succ, List.getElem_cons_zero, List.setIfInBounds_toArray, List.set_cons_zero, List.set_cons_succ]
  refine wpAnyS_take (i := 1) (v := ?_) rfl (by kernel_rfl) (by kernel_rfl) (by kernel_rfl) (by kernel_rfl) (fun _ _ _ h => h) (Or.inl ⟨by rfl, ?_⟩) (by assumption) ?_
  rotate_left
  · intro w hSw; (try dsimp only at hSw); go_simp; try with_reducible rfl
  try simp only [Act.put, List.getElem_toArray, List.getElem_cons_succ, List.getElem_cons_zero, List.setIfInBounds_toArray, List.set_cons_zero, List.set_cons_succ]
  refine wpAnyS_take (i := 2) (v := ?_) rfl (by kernel_rfl) (by kernel_rfl) (by kernel_rfl) (by kernel_rfl) (fun _ _ _ h => h) (Or.inl ⟨by rfl, ?_⟩) (by assumption) ?_
  rotate_left
  · intro w hSw; (try dsimp only at hSw); go_simp; try with_reducible rfl
  try simp only [Act.put, List.getElem_toArray, List.getElem_cons_succ, List.getElem_cons_zero, List.setIfInBounds_toArray, List.set_cons_zero, List.set_cons_succ]
  refine wpAnyS_take (i := 3) (v := ?_) rfl (by kernel_rfl) (by kernel_rfl) (by kernel_rfl) (by kernel_rfl) (fun _ _ _ h => h) (Or.inl ⟨by rfl, ?_⟩) (by assumption) ?_
  rotate_left
  · intro w hSw; (try dsimp only at hSw); go_simp; try with_reducible rfl
  try simp only [Act.put, List.getElem_toArray, List.getElem_cons_succ, List.getElem_cons_zero, List.setIfInBounds_toArray, List.set_cons_zero, List.set_cons_succ]
  refine wpAnyS_take (i := 4) (v := ?_) rfl (by kernel_rfl) (by kernel_rfl) (by kernel_rfl) (by kernel_rfl) (fun _ _ _ h => h) (Or.inl ⟨by rfl, ?_⟩) (by assumption) ?_
  rotate_left
  · intro w hSw; (try dsimp only at hSw); go_simp; try with_reducible rfl
  try simp only [Act.put, List.getElem_toArray, List.getElem_cons_succ, List.getElem_cons_zero, List.setIfInBounds_toArray, List.set_cons_zero, List.set_cons_succ]
  refine wpAnyS_take (i := 5) (v := ?_) rfl (by kernel_rfl) (by kernel_rfl) (by kernel_rfl) (by kernel_rfl) (fun _ _ _ h => h) (Or.inl ⟨by rfl, ?_⟩) (by assumption) ?_
  rotate_left
  · intro w hSw; (try dsimp only at hSw); go_simp; try with_reducible rfl
  try simp only [Act.put, List.getElem_toArray, List.getElem_cons_succ, List.getElem_cons_zero, List.setIfInBounds_toArray, List.set_cons_zero, List.set_cons_succ]
  refine wpAnyS_take (i := 6) (v := ?_) rfl (by kernel_rfl) (by kernel_rfl) (by kernel_rfl) (by kernel_rfl) (fun _ _ _ h => h) (Or.inl ⟨by rfl, ?_⟩) (by assumption) ?_
  rotate_left
  · intro w hSw; (try dsimp only at hSw); go_simp; try with_reducible rfl
  try simp only [Act.put, List.getElem_toArray, List.getElem_cons_succ, List.getElem_cons_zero, List.setIfInBounds_toArray, List.set_cons_zero, List.set_cons_succ]
  refine wpAnyS_take (i := 7) (v := ?_) rfl (by kernel_rfl) (by kernel_rfl) (by kernel_rfl) (by kernel_rfl) (fun _ _ _ h => h) (Or.inl ⟨by rfl, ?_⟩) (by assumption) ?_
  rotate_left
  · intro w hSw; (try dsimp only at hSw); go_simp; try with_reducible rfl
  try simp only [Act.put, List.getElem_toArray, List.getElem_cons_succ, List.getElem_cons_zero, List.setIfInBounds_toArray, List.set_cons_zero, List.set_cons_succ]
  refine wpAnyS_one (i := 8) rfl (by kernel_rfl) (fun K hK => ?_)
  go_simp; go_at_call 18; refine (steady17_any _).mono ?_; rintro e5 w5 ⟨rfl, hb5⟩; have HS5 := hide (HS2.out.drew.later hb5)
  refine hK.out _ _ (fun _ => ⟨HS5.out.run.blk.cell 0, HS5.out.run.blk.cell 5⟩) (fun hH => ?_)
  have hHeld := hH rfl
  clear hK K hH
  try simp only [Act.put, List.getElem_toArray, List.getElem_cons_succ, List.getElem_cons_zero, List.setIfInBounds_toArray, List.set_cons_zero, List.set_cons_succ]
  refine wpAnyS_one (i := 9) rfl (by kernel_rfl) (fun K hK => ?_)
  go_simp; go_at_call 17; refine (splose_any f s T w5 HS5.out.run.sp.sp hgr.1 hgr.2 (by omega) (by omega)).mono ?_; rintro e6 w6 ⟨a6, c6, f6, rfl, hP6, hc6, hk6, hq6⟩; rw [told_lost _ HSRT.out] at hq6; have HR6 := hide (HS5.out.run.step hq6)
  refine hK.out _ _ (fun _ => ⟨by rw [← hq6.b]; exact HR6.out.blk.cell 0, HR6.out.blk.cell 5⟩) (fun hH => ?_)
  have hHeld := hH rfl
  clear hK K hH
  try simp only [Act.put, List.getElem_toArray, List.getElem_cons_succ, List.getElem_cons_zero, List.setIfInBounds_toArray, List.set_cons_zero, List.set_cons_succ]
  refine wpAnyS_take (i := 10) (v := ?_) rfl (by kernel_rfl) (by kernel_rfl) (by kernel_rfl) (by kernel_rfl) (fun _ _ _ h => h) (Or.inl ⟨by rfl, ?_⟩) (by assumption) ?_
  rotate_left
  · intro w hSw; (try dsimp only at hSw); go_simp; try with_reducible rfl
  try simp only [Act.put, List.getElem_toArray, List.getElem_cons_succ, List.getElem_cons_zero, List.setIfInBounds_toArray, List.set_cons_zero, List.set_cons_succ]
  refine wpAnyS_take (i := 11) (v := ?_) rfl (by kernel_rfl) (by kernel_rfl) (by kernel_rfl) (by kernel_rfl) (fun _ _ _ h => h) (Or.inl ⟨by rfl, ?_⟩) (by assumption) ?_
  rotate_left
  · intro w hSw; (try dsimp only at hSw); go_simp; try with_reducible rfl
  try simp only [Act.put, List.getElem_toArray, List.getElem_cons_succ, List.getElem_cons_zero, List.setIfInBounds_toArray, List.set_cons_zero, List.set_cons_succ]
  refine wpAnyS_take (i := 12) (v := ?_) rfl (by kernel_rfl) (by kernel_rfl) (by kernel_rfl) (by kernel_rfl) (fun _ _ _ h => h) (Or.inl ⟨by rfl, ?_⟩) (by assumption) ?_
  rotate_left
  · intro w hSw; (try dsimp only at hSw); go_simp; try with_reducible rfl
  try simp only [Act.put, List.getElem_toArray, List.getElem_cons_succ, List.getElem_cons_zero, List.setIfInBounds_toArray, List.set_cons_zero, List.set_cons_succ]
  refine wpAnyS_take (i := 13) (v := ?_) rfl (by kernel_rfl) (by kernel_rfl) (by kernel_rfl) (by kernel_rfl) (fun _ _ _ h => h) (Or.inl ⟨by rfl, ?_⟩) (by assumption) ?_
  rotate_left
  · intro w hSw; (try dsimp only at hSw); go_simp; try with_reducible rfl
  try simp only [Act.put, List.getElem_toArray, List.getElem_cons_succ, List.getElem_cons_zero, List.setIfInBounds_toArray, List.set_cons_zero, List.set_cons_succ]
  refine wpAnyS_take (i := 14) (v := ?_) rfl (by kernel_rfl) (by kernel_rfl) (by kernel_rfl) (by kernel_rfl) (fun _ _ _ h => h) (Or.inl ⟨by rfl, ?_⟩) (by assumption) ?_
  rotate_left
  · intro w hSw; (try dsimp only at hSw); go_simp; try with_reducible rfl
  try simp only [Act.put, List.getElem_toArray, List.getElem_cons_succ, List.getElem_cons_zero, List.setIfInBounds_toArray, List.set_cons_zero, List.set_cons_succ]
  refine wpAnyS_done (by kernel_rfl) ?_ _
  obtain ⟨out, hout⟩ : ∃ out, (s.ps.map toPK).filter (lostF s.great T) = out := ⟨_, rfl⟩
  have hlen : out.length ≤ 256 := by
    rw [← hout]
    have h1 := List.length_filter_le (lostF s.great T) (s.ps.map toPK)
    rw [List.length_map] at h1
    have := HRM.out
    omega
  have hcn := HOK.out.cnt
  have hcl := HOK.out.slen
  have hth := HOK.out.told_here (lostF s.great T)
  have hts := told_srt (lostF s.great T) HSRT.out
  rw [hout] at hP6 hth hts
  simp only [hout]
  have HTK := hide (take17_lost a6 out.length c6 out HR6.out rfl hlen hP6 (fun k o e => by
    have h1 := (hk6 k o e).1
    refine ⟨fun h2 => ?_, fun h2 => ?_⟩
    · have := HS5.out.run.blk.lt
      omega
    · have := (HS5.out.run.ol.lt k h2).2
      omega) hth hts (by omega) (by omega) (by omega))
  obtain ⟨K, hK⟩ : ∃ K, out.length = K := ⟨_, rfl⟩
  rw [hK] at HTK
  simp only [hK]
  have hfin : RunOk (lostSt s T) sent acked (lost ++ out.map PK.n) G T (N + 1) := by
    rw [← hout]
    exact (HOK.out.tick hT2.1 hT2.2).onLost HSRT.out (lostF s.great T) rfl rfl rfl HOK.out.great
  have HFIN := hide hfin
  clear hfin hP6 hk6 hq6 hth hts hout hlen hK hc6
  go_wp2_with fail
  refine HTK.out.mono ?_
  rintro e7 w7 ⟨rfl, v7, hR7⟩
  go_wp2_with fail
  go_ret
  exact ⟨rfl, f6, v7, _, T, HT.out.symm, hR7, HFIN.out⟩
end Go.Proofs.YtgicljeedegncaaGreat
