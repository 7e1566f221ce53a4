/-
  The statements of layer 17: a step of a run: a packet is sent. Printed by wip/genst.py.
-/
import Derived.Test.YtgicljeedegncaaGreatSpRanges
import Derived.Test.YtgicljeedegncaaGreatSpPlain
import Derived.Test.YtgicljeedegncaaGreatMgBase
import Derived.Deep.RegionHeld3
namespace Go.Proofs.YtgicljeedegncaaGreat
set_option linter.unusedSimpArgs false
set_option linter.unusedVariables false
open Go.RowKit

/-- The run's cells, and the step's box. -/
structure StL [Kept] (w W0 W : World) (f : Ft) (s : SpSt) (r : Nat) (vs va vl : Value) (sent acked lost : List Int) (now : Int) (cs : Array Value) : Prop where
  run : RunAt w W f s r vs va vl sent acked lost now
  box : Blk W W0.heap.size 35 cs
  rb : r < W0.heap.size
  fb : ∀ x ∈ f.all, x ≠ W0.heap.size
section
variable [Kept] {w W0 W W' : World} {f : Ft} {s : SpSt} {r : Nat} {vs va vl : Value} {sent acked lost : List Int} {now : Int} {cs : Array Value}
theorem StL.later (h : StL w W0 W f s r vs va vl sent acked lost now cs) (hb : Below W.heap.size W W') : StL w W0 W' f s r vs va vl sent acked lost now cs := ⟨h.run.later hb, (hb.block _ h.box.lt).trans h.box, h.rb, h.fb⟩
theorem StL.drew (h : StL w W0 W f s r vs va vl sent acked lost now cs) : StL w W0 W.drew f s r vs va vl sent acked lost now cs := h.later (Below.refl _ _).drew
theorem StL.setNow (h : StL w W0 W f s r vs va vl sent acked lost now cs) (t : Int) : StL w W0 (W.setCell ⟨r, 5, none⟩ (.int .i64 t)) f s r vs va vl sent acked lost t cs := ⟨h.run.setNow t, h.box.far (p := ⟨r, 5, none⟩) (by have := h.rb; show W0.heap.size ≠ r; omega) _, h.rb, h.fb⟩
theorem StL.start (h : RunAt w W f s r vs va vl sent acked lost now) (cs : Array Value) : StL w W (W.alloc (.cells cs 35)) f s r vs va vl sent acked lost now cs :=
  ⟨h.later ((Below.refl _ _).alloc (Nat.le_refl _) _), Blk.new _ _ _, h.blk.lt, fun x hx e => by have := h.sp.sp.lt x hx; omega⟩
end
set_option maxRecDepth 100000 in
set_option maxHeartbeats 8000000 in
theorem step17_sent [Kept] {w W : World} {f : Ft} {s : SpSt} {r : Nat} {vs va vl : Value} {sent acked lost G : List Int} {now : Int} {N : Nat} (kd af x0 x1 x2 : Int) (h : RunAt w W f s r vs va vl sent acked lost now) (hok : RunOk s sent acked lost G now N) (hN : N ≤ 100)
    (a0 : -9223372036854775808 ≤ kd) (a1 : kd ≤ 9223372036854775807) (b0 : -9223372036854775808 ≤ af) (b1 : af ≤ 9223372036854775807) (c0 : -9223372036854775808 ≤ x0) (c1 : x0 ≤ 9223372036854775807) (d0 : -9223372036854775808 ≤ x1) (d1 : x1 ≤ 9223372036854775807) (e0 : -9223372036854775808 ≤ x2) (e1 : x2 ≤ 9223372036854775807)
    (hkd : kd % 6 = 0 ∨ kd % 6 = 1 ∨ kd % 6 = 2) :
    Calls Tryz.prog 12 #[.pointer (some ⟨r, 0, none⟩), .agg #[.int .i64 kd, .int .i64 af, .int .i64 x0, .int .i64 x1, .int .i64 x2]] W fun e W' => e = .returned (.bool true) ∧ ∃ f' s' vs' sent' now', RunAt w W' f' s' r vs' va vl sent' acked lost now' ∧ RunOk s' sent' acked lost G now' (N + 1) ∧ s'.great = s.great ∧ s'.room = s.room ∧ (∀ p ∈ s'.ps, p ∈ s.ps ∨ s.last < p.num) := by
  have BA := hide (fun W => bring_any af 1073741824 W (by omega) (by omega) b0 b1)
  have BK := hide (fun W => bring_any kd 6 W (by omega) (by omega) a0 a1)
  have B0 := hide (fun W => bring_any x0 4 W (by omega) (by omega) c0 c1)
  have B1 := hide (fun W => bring_any x1 3 W (by omega) (by omega) d0 d1)
  have B2 := hide (fun W => bring_any x2 2000 W (by omega) (by omega) e0 e1)
  have r1 : 0 ≤ af % 1073741824 ∧ af % 1073741824 < 1073741824 := ⟨Int.emod_nonneg _ (by omega), Int.emod_lt_of_pos _ (by omega)⟩
  have r2 : 0 ≤ x1 % 3 ∧ x1 % 3 < 3 := ⟨Int.emod_nonneg _ (by omega), Int.emod_lt_of_pos _ (by omega)⟩
  have r3 : 0 ≤ x2 % 2000 ∧ x2 % 2000 < 2000 := ⟨Int.emod_nonneg _ (by omega), Int.emod_lt_of_pos _ (by omega)⟩
  obtain ⟨dd, hdd⟩ : ∃ d, af % 1073741824 = d := ⟨_, rfl⟩
  obtain ⟨kq, hkq⟩ : ∃ d, kd % 6 = d := ⟨_, rfl⟩
  obtain ⟨y0, hy0⟩ : ∃ d, x0 % 4 = d := ⟨_, rfl⟩
  obtain ⟨y1, hy1⟩ : ∃ d, x1 % 3 = d := ⟨_, rfl⟩
  obtain ⟨y2, hy2⟩ : ∃ d, x2 % 2000 = d := ⟨_, rfl⟩
  rw [hdd] at BA r1
  rw [hkq] at BK hkd
  rw [hy0] at B0
  rw [hy1] at B1 r2
  rw [hy2] at B2 r3
  obtain ⟨i0, hi0, hz0, hz1, hz2⟩ := info_parts int_info17
  have hn0 := hok.now0
  have hl0 := hok.last
  have HS := hide (StL.start h #[.int .i64 kd, .int .i64 af, .int .i64 x0, .int .i64 x1, .int .i64 x2])
  have HOK := hide hok
  clear h hok hdd hkq hy0 hy1 hy2
  go_enter Tryz.func12, Tryz.ntmps12
  go_wp2_with fail
  obtain ⟨W1, hW1⟩ : ∃ W1, W.alloc (.cells #[.int .i64 kd, .int .i64 af, .int .i64 x0, .int .i64 x1, .int .i64 x2] 35) = W1 := ⟨_, rfl⟩
  rw [hW1] at HS ⊢
  have q0 := HS.out.run.blk.cell 5
  have q1 := HS.out.box.cell 1
  have f5 := HS.out.run.blk.frozen 5
  have hsz := HS.out.box.lt
  clear hW1
  refine wp_region_S (fun w' => w'.cell? ⟨r, 5, none⟩ = some (.int .i64 now) ∧ w'.cell? ⟨W.heap.size, 1, none⟩ = some (.int .i64 af) ∧ w'.frozen? ⟨r, 5, none⟩ = false) 11 (by kernel_rfl) (by exact ⟨q0, q1, f5⟩) (fun hHeld => ?_)
  refine wpAnyS_take (i := 0) (v := ?_) rfl (by kernel_rfl) (by kernel_rfl) (by kernel_rfl) (by kernel_rfl) (fun _ _ _ h => h) (Or.inl ⟨by rfl, ?_⟩) (by assumption) ?_
  rotate_left
  · intro w hSw; (try dsimp only at hSw); go_simp; try with_reducible rfl
  try simp only [Act.put, List.getElem_toArray, List.getElem_cons_succ, List.getElem_cons_zero, List.setIfInBounds_toArray, List.set_cons_zero, List.set_cons_succ]
  refine wpAnyS_take (i := 1) (v := ?_) rfl (by kernel_rfl) (by kernel_rfl) (by kernel_rfl) (by kernel_rfl) (fun _ _ _ h => h) (Or.inl ⟨by rfl, ?_⟩) (by assumption) ?_
  rotate_left
  · intro w hSw; (try dsimp only at hSw); go_simp; try with_reducible rfl
  try simp only [Act.put, List.getElem_toArray, List.getElem_cons_succ, List.getElem_cons_zero, List.setIfInBounds_toArray, List.set_cons_zero, List.set_cons_succ]
  refine wpAnyS_take (i := 2) (v := ?_) rfl (by kernel_rfl) (by kernel_rfl) (by kernel_rfl) (by kernel_rfl) (fun _ _ _ h => h) (Or.inl ⟨by rfl, ?_⟩) (by assumption) ?_
  rotate_left
  · intro w hSw; (try dsimp only at hSw); go_simp; try with_reducible rfl
  try simp only [Act.put, List.getElem_toArray, List.getElem_cons_succ, List.getElem_cons_zero, List.setIfInBounds_toArray, List.set_cons_zero, List.set_cons_succ]
  refine wpAnyS_take (i := 3) (v := ?_) rfl (by kernel_rfl) (by kernel_rfl) (by kernel_rfl) (by kernel_rfl) (fun _ _ _ h => h) (Or.inl ⟨by rfl, ?_⟩) (by assumption) ?_
  rotate_left
  · intro w hSw; (try dsimp only at hSw); go_simp; try with_reducible rfl
  try simp only [Act.put, List.getElem_toArray, List.getElem_cons_succ, List.getElem_cons_zero, List.setIfInBounds_toArray, List.set_cons_zero, List.set_cons_succ]
  refine wpAnyS_take (i := 4) (v := ?_) rfl (by kernel_rfl) (by kernel_rfl) (by kernel_rfl) (by kernel_rfl) (fun _ _ _ h => h) (Or.inl ⟨by rfl, ?_⟩) (by assumption) ?_
  rotate_left
  · intro w hSw; (try dsimp only at hSw); go_simp; try with_reducible rfl
  try simp only [Act.put, List.getElem_toArray, List.getElem_cons_succ, List.getElem_cons_zero, List.setIfInBounds_toArray, List.set_cons_zero, List.set_cons_succ]
  refine wpAnyS_take (i := 5) (v := ?_) rfl (by kernel_rfl) (by kernel_rfl) (by kernel_rfl) (by kernel_rfl) (fun _ _ _ h => h) (Or.inl ⟨by rfl, ?_⟩) (by assumption) ?_
  rotate_left
  · intro w hSw; (try dsimp only at hSw); go_simp; try with_reducible rfl
  try simp only [Act.put, List.getElem_toArray, List.getElem_cons_succ, List.getElem_cons_zero, List.setIfInBounds_toArray, List.set_cons_zero, List.set_cons_succ]
  refine wpAnyS_take (i := 6) (v := ?_) rfl (by kernel_rfl) (by kernel_rfl) (by kernel_rfl) (by kernel_rfl) (fun _ _ _ h => h) (Or.inl ⟨by rfl, ?_⟩) (by assumption) ?_
  rotate_left
  · intro w hSw; (try dsimp only at hSw); go_simp; try with_reducible rfl
  try simp only [Act.put, List.getElem_toArray, List.getElem_cons_succ, List.getElem_cons_zero, List.setIfInBounds_toArray, List.set_cons_zero, List.set_cons_succ]
  refine wpAnyS_one (i := 7) rfl (by kernel_rfl) (fun K hK => ?_)
  go_simp; go_at_call 11; refine (BA.out _).mono ?_; rintro e1 w1 ⟨rfl, rfl⟩
  refine hK.out _ _ (fun _ => by exact ⟨q0, q1, f5⟩) (fun hH => ?_)
  have hHeld := hH rfl
  clear hK K hH
  try simp only [Act.put, List.getElem_toArray, List.getElem_cons_succ, List.getElem_cons_zero, List.setIfInBounds_toArray, List.set_cons_zero, List.set_cons_succ]
  refine wpAnyS_take (i := 8) (v := ?_) rfl (by kernel_rfl) (by kernel_rfl) (by kernel_rfl) (by kernel_rfl) (fun _ _ _ h => h) (Or.inl ⟨by rfl, ?_⟩) (by assumption) ?_
  rotate_left
  · intro w hSw; (try dsimp only at hSw); go_simp; try with_reducible rfl
  try simp only [Act.put, List.getElem_toArray, List.getElem_cons_succ, List.getElem_cons_zero, List.setIfInBounds_toArray, List.set_cons_zero, List.set_cons_succ]
  refine wpAnyS_one (i := 9) rfl (by kernel_rfl) (fun K hK => ?_)
  go_simp
  refine hK.out _ _ (fun _ => by exact ⟨q0, q1, f5⟩) (fun hH => ?_)
  have hHeld := hH rfl
  clear hK K hH
  try simp only [Act.put, List.getElem_toArray, List.getElem_cons_succ, List.getElem_cons_zero, List.setIfInBounds_toArray, List.set_cons_zero, List.set_cons_succ]
  refine wpAnyS_one (i := 10) rfl (by kernel_rfl) (fun K hK => ?_)
  go_simp
  refine hK.out _ _ (fun _ => by exact ⟨q0, q1, f5⟩) (fun hH => ?_)
  have hHeld := hH rfl
  clear hK K hH
  try simp only [Act.put, List.getElem_toArray, List.getElem_cons_succ, List.getElem_cons_zero, List.setIfInBounds_toArray, List.set_cons_zero, List.set_cons_succ]
  refine wpAnyS_one (i := 11) rfl (by kernel_rfl) (fun K hK => ?_)
  go_simp
  refine hK.out _ _ (fun h => absurd h (by decide)) (fun _ => ?_)
  clear hK K
  try simp only [Act.put, List.getElem_toArray, List.getElem_cons_succ, List.getElem_cons_zero, List.setIfInBounds_toArray, List.set_cons_zero, List.set_cons_succ]
  refine wpAnyS_done (by kernel_rfl) ?_ _
  obtain ⟨T, hT⟩ : ∃ T, now + dd = T := ⟨_, rfl⟩
  have hw : IntKind.i64.wrap (now + dd) = T := by rw [← hT, IntKind.wrap_i64]; omega
  have hT2 : now ≤ T ∧ T ≤ now + 1073741823 := by omega
  rw [hw]
  have HS2 := hide ((HS.out.setNow T).drew)
  obtain ⟨W2, hW2⟩ : ∃ W2, (W1.setCell ⟨r, 5, none⟩ (.int .i64 T)).drew = W2 := ⟨_, rfl⟩
  rw [hW2] at HS2 ⊢
  have k0 := HS2.out.box.cell 0
  have k2 := HS2.out.box.cell 2
  have k3 := HS2.out.box.cell 3
  have k4 := HS2.out.box.cell 4
  clear hw hW2 q0 q1 f5 hsz HS BA hHeld r1 hT
  go_wp2_with fail
  refine (BK.out _).mono ?_
  rintro e1 w1 ⟨rfl, rfl⟩
  clear BK
  have p0 := HS2.out.run.blk.cell 0
  rcases hkd with rfl | rfl | rfl
  all_goals
    go_wp2_with fail
    refine (splast_any f s W2 HS2.out.run.sp.sp).mono ?_
    rintro e2 w2 ⟨rfl, hb2⟩
    have HS3 := hide (HS2.out.later hb2)
    have k2 := HS3.out.box.cell 2
    clear k0 k3 k4 p0 hb2 HS2
    go_wp2_with fail
    refine (B0.out _).mono ?_
    rintro e3 w3 ⟨rfl, rfl⟩
    clear B0
    go_upto_if 40 with (fail)
    go_cut [5] (fun s5 wx => ∃ n : Int, s5 = .int .i64 n ∧ (s.last < n ∧ n ≤ s.last + 3) ∧ wx = w2)
    case first =>
      have k3 := HS3.out.box.cell 3
      by_cases hy : y0 = 0
      · subst hy
        go_wp2_with fail
        refine (B1.out _).mono ?_
        rintro e3 w3 ⟨rfl, rfl⟩
        go_wp2_with fail
        go_meet
        exact ⟨_, rfl, by omega, rfl⟩
      · have hbq : (y0 == 0) = false := by rw [beq_eq_false_iff_ne]; exact hy
        go_wp2_with fail
        go_meet
        exact ⟨_, rfl, by omega, rfl⟩
    case rest =>
      obtain ⟨n, rfl, hn, rfl⟩ := hcut
      clear B1 k2
      obtain ⟨el, hel⟩ : ∃ b, (x0.tmod 3 != 0) = b := ⟨_, rfl⟩
      obtain ⟨fl, hfl⟩ : ∃ b, (x0.tmod 5 != 0) = b := ⟨_, rfl⟩
      have q5 := HS3.out.run.blk.cell 5
      have q2 := HS3.out.box.cell 2
      have q4 := HS3.out.box.cell 4
      have n5 : r < wc.heap.size := HS3.out.run.blk.lt
      have n2 : W.heap.size < wc.heap.size := HS3.out.box.lt
      have hw2 : IntKind.i64.wrap (1 + y2) = 1 + y2 := by rw [IntKind.wrap_i64]; omega
      go_upto_region 9 with (fail)
      go_cut [6] (fun s6 wx => s6 = .pointer (some ⟨wc.heap.size, 0, none⟩) ∧ wx = (wc.alloc (.cells #[.int .i64 n, .int .i64 T, .int .i64 (1 + y2), .bool el, .bool fl, .bool false] 40)).drew)
      case first =>
        go_region_held3 (fun w' => w'.cell? ⟨r, 5, none⟩ = some (.int .i64 T) ∧ w'.cell? ⟨W.heap.size, 2, none⟩ = some (.int .i64 x0) ∧ w'.cell? ⟨W.heap.size, 4, none⟩ = some (.int .i64 x2)) (first | exact ⟨q5, q2, q4⟩ | exact ⟨(World.cell?_alloc_lt _ _ _ n5).trans q5, (World.cell?_alloc_lt _ _ _ n2).trans q2, (World.cell?_alloc_lt _ _ _ n2).trans q4⟩) (first | (go_at_call 11; refine (B2.out _).mono ?_; rintro e1 w1 ⟨rfl, rfl⟩))
        all_goals
          go_wp2_with fail
          go_meet
          exact ⟨rfl, rfl⟩
      case rest =>
        obtain ⟨rfl, rfl⟩ := hcut
        have hX : Blk (wc.alloc (.cells #[.int .i64 n, .int .i64 T, .int .i64 (1 + y2), .bool el, .bool fl, .bool false] 40)).drew wc.heap.size 40 #[.int .i64 n, .int .i64 T, .int .i64 (1 + y2), .bool el, .bool fl, .bool false] := Blk.new _ _ _
        have hb : Below wc.heap.size wc (wc.alloc (.cells #[.int .i64 n, .int .i64 T, .int .i64 (1 + y2), .bool el, .bool fl, .bool false] 40)).drew := ((Below.refl _ _).alloc (Nat.le_refl _) _).drew
        obtain ⟨W4, hW4⟩ : ∃ W4, (wc.alloc (.cells #[.int .i64 n, .int .i64 T, .int .i64 (1 + y2), .bool el, .bool fl, .bool false] 40)).drew = W4 := ⟨_, rfl⟩
        rw [hW4] at hX hb
        simp only [hW4]
        have z3 := hX.cell 3
        have z4 := hX.cell 4
        have fz := hX.frozen 3
        clear hW4 q5 q2 q4 n5 n2 hw2 B2
        have HX := hide hX
        have HB4 := hide hb
        clear hX hb
        go_upto_region 10 with (fail)
        go_cut [] (fun wx => wx = W4.setCell ⟨wc.heap.size, 3, none⟩ (.bool (el && fl)))
        case first =>
          cases el
          all_goals
            go_wp2_with fail
            go_meet
            rfl
        case rest =>
          subst hcut
          have HX5 := hide ((HX.out.set 3 (.bool (el && fl))).eq rfl : Blk (W4.setCell ⟨wc.heap.size, 3, none⟩ (.bool (el && fl))) wc.heap.size 40 #[.int .i64 n, .int .i64 T, .int .i64 (1 + y2), .bool (el && fl), .bool fl, .bool false])
          have HS5 := hide (HS3.out.later (HB4.out.setCell (p := ⟨wc.heap.size, 3, none⟩) (Nat.le_refl _) (.bool (el && fl))))
          obtain ⟨W5, hW5⟩ : ∃ W5, W4.setCell ⟨wc.heap.size, 3, none⟩ (.bool (el && fl)) = W5 := ⟨_, rfl⟩
          rw [hW5] at HX5 HS5 ⊢
          obtain ⟨pe, hpe⟩ : ∃ b, (el && fl) = b := ⟨_, rfl⟩
          rw [hpe] at HX5
          have p0 := HS5.out.run.blk.cell 0
          have v0 := HX5.out.cell 0
          have v1 := HX5.out.cell 1
          have v2 := HX5.out.cell 2
          have v3 := HX5.out.cell 3
          have v4 := HX5.out.cell 4
          have v5 := HX5.out.cell 5
          have hmay : (⟨n, T, 1 + y2, pe, fl, false⟩ : Pk).may := by unfold Pk.may; dsimp only; omega
          have hlog := HS5.out.run.sp.sp.log.room
          have HM := hide hmay
          have HFB : Hid (wc.heap.size ∉ f.all) := hide (fun hm => by have := HS3.out.run.sp.sp.lt _ hm; omega)
          clear z3 z4 fz HX HB4 HS3 hW5 hpe hmay hel hfl
          go_wp2_with fail
          by_cases hroom : s.ps.length < s.room
          · have HC := hide (spsent_ok f s ⟨n, T, 1 + y2, pe, fl, false⟩ W5.drew HS5.out.drew.run.sp.sp HM.out hn.1 hroom (by have h1 := addR_le HS5.out.run.sp.sp.kn.good (Int.le_refl n); have h2 := HOK.out.klen; show (addR n n s.K).length ≤ 256; omega))
            unfold pkA at HC
            dsimp only at HC
            go_region_held3 (fun w' => w'.cell? ⟨r, 0, none⟩ = some (.pointer (some ⟨f.b, 0, none⟩)) ∧ w'.cell? ⟨wc.heap.size, 0, none⟩ = some (.int .i64 n) ∧ w'.cell? ⟨wc.heap.size, 1, none⟩ = some (.int .i64 T) ∧ w'.cell? ⟨wc.heap.size, 2, none⟩ = some (.int .i64 (1 + y2)) ∧ w'.cell? ⟨wc.heap.size, 3, none⟩ = some (.bool pe) ∧ w'.cell? ⟨wc.heap.size, 4, none⟩ = some (.bool fl) ∧ w'.cell? ⟨wc.heap.size, 5, none⟩ = some (.bool false)) (exact ⟨p0, v0, v1, v2, v3, v4, v5⟩) (first | (go_at_call 25; refine HC.out.mono ?_; rintro e6 w6 ⟨rfl, f6, hp6⟩; have hR6 := HS5.out.drew.run.step hp6; have p0 : w6.cell? ⟨r, 0, none⟩ = some (.pointer (some ⟨f.b, 0, none⟩)) := (by rw [← hp6.b]; exact hR6.blk.cell 0); have hx6 := hp6.only.blk (show Blk W5.drew _ _ _ from HX5.out) HFB.out; have v0 := hx6.cell 0; have v1 := hx6.cell 1; have v2 := hx6.cell 2; have v3 := hx6.cell 3; have v4 := hx6.cell 4; have v5 := hx6.cell 5))
            all_goals
              obtain ⟨⟨as_, cs_, hvs, hns⟩, _⟩ := hR6.forms
              subst hvs
              obtain ⟨M, hM⟩ : ∃ M, sent.length = M := ⟨_, rfl⟩
              obtain ⟨xs, hxs⟩ : ∃ xs, intVs sent = xs := ⟨_, rfl⟩
              have hown := hR6.os
              rw [hM, hxs] at hown
              have hMb : M ≤ 600 := by have := HOK.out.slen; omega
              have c1 : w6.cell? ⟨r, 1, none⟩ = some (.slice as_ M cs_) := by rw [← hM]; exact hR6.four.2.1
              have hrl := hR6.blk.lt
              have HOW := hide hown
              have HXS := hide hxs
              have HMM := hide hM
              have HR6 := hide hR6
              have HB : Hid (∀ w8, (w6.alloc (.cells #[.int .i64 n] 3)).grownBy w8 (Value.slice as_ M cs_).ownBlock → w8.cell? ⟨r, 1, none⟩ = some (.slice as_ sent.length cs_) ∧ w8.frozen? ⟨r, 1, none⟩ = false) := by
                intro w8 hg8
                have hb8 := HR6.out.later ((Below.refl _ _).alloc (Nat.le_refl _) (.cells #[.int .i64 n] 3))
                have hblk8 := blk_grown hb8.blk hg8 (fun e => by (have := (HOW.out.lt _ e.symm).1; omega))
                exact ⟨Blk.cell hblk8 1, Blk.frozen hblk8 1⟩
              clear hown hxs hM hR6 hp6 HC p0 v0 v1 v2 v3 v4 v5 hx6 HX5 hns
              go_wp2_with (at_builtin; refine wpList_append_any _ rfl (.tmp 87) (.tmp 89) _ rfl (r + 1) 3 i0 _ 1 8 Tryz.underlying29 hi0 hz0 hz1 hz2 rfl (by decide) (.slice as_ M cs_) M xs rfl (by exact HOW.out.alloc _) (w6.heap.size + 1) (some ⟨w6.heap.size, 0, none⟩) 1 1 [.int .i64 n] rfl (by exact reads_lit (blk_new_at (by simp)) (by simp) rfl) (by simp [Value.oneCell']) (by unfold maxLen; omega) (by omega) (by simp; omega) ?_; intro v8 w8 hown8 hg8 hat8; obtain ⟨g8, cap8, rfl⟩ := own_form hown8; obtain ⟨dx, ex⟩ := HB.out _ hg8)
              go_ret
              have h5 := HR6.out
              rw [HMM.out] at h5
              have e1 : (sent ++ [n]).length = M + 1 := by rw [List.length_append, HMM.out]; rfl
              have e2 : intVs (sent ++ [n]) = xs ++ [.int .i64 n] := by rw [intVs_snoc, HXS.out]
              refine ⟨rfl, f6, sentSt s ⟨n, T, 1 + y2, pe, fl, false⟩, .slice (some ⟨g8, 0, none⟩) (M + 1) cap8, sent ++ [n], T, h5.pushS ((Below.refl _ _).alloc (Nat.le_refl _) _) hg8 hat8 (by rw [e1, e2]; exact hown8), HOK.out.onSent HS5.out.run.sp.sp.kn.good hT2.1 hT2.2 hn.1 hn.2 rfl rfl, rfl, rfl, fun q hq => ?_⟩
              rcases List.mem_append.1 (show q ∈ s.ps ++ [_] from hq) with hq | hq
              · exact .inl hq
              · simp at hq
                subst hq
                exact .inr hn.1
          · have HC := hide (spsent_no f s ⟨n, T, 1 + y2, pe, fl, false⟩ 5 W5.drew HS5.out.drew.run.sp.sp (.inl ⟨.inr (.inr (.inl ⟨HM.out, hn.1, by omega, rfl⟩)), by decide⟩) (by decide))
            unfold pkA at HC
            dsimp only at HC
            go_region_held3 (fun w' => w'.cell? ⟨r, 0, none⟩ = some (.pointer (some ⟨f.b, 0, none⟩)) ∧ w'.cell? ⟨wc.heap.size, 0, none⟩ = some (.int .i64 n) ∧ w'.cell? ⟨wc.heap.size, 1, none⟩ = some (.int .i64 T) ∧ w'.cell? ⟨wc.heap.size, 2, none⟩ = some (.int .i64 (1 + y2)) ∧ w'.cell? ⟨wc.heap.size, 3, none⟩ = some (.bool pe) ∧ w'.cell? ⟨wc.heap.size, 4, none⟩ = some (.bool fl) ∧ w'.cell? ⟨wc.heap.size, 5, none⟩ = some (.bool false)) (exact ⟨p0, v0, v1, v2, v3, v4, v5⟩) (first | (go_at_call 25; refine HC.out.mono ?_; rintro e6 w6 ⟨rfl, hb6⟩; have hR6 := HS5.out.drew.run.later hb6; have p0 := hR6.blk.cell 0; have hx6 : Blk w6 _ _ _ := (hb6.block _ (show wc.heap.size < W5.drew.heap.size from HX5.out.lt)).trans (show Blk W5.drew _ _ _ from HX5.out); have v0 := hx6.cell 0; have v1 := hx6.cell 1; have v2 := hx6.cell 2; have v3 := hx6.cell 3; have v4 := hx6.cell 4; have v5 := hx6.cell 5))
            all_goals
              have HR6 := hide hR6
              clear hb6 hR6 HC p0 v0 v1 v2 v3 v4 v5 hx6 HX5
              go_wp2_with fail
              go_ret
              exact ⟨rfl, f, s, vs, sent, T, HR6.out, HOK.out.tick hT2.1 hT2.2, rfl, rfl, fun q hq => .inl hq⟩
end Go.Proofs.YtgicljeedegncaaGreat
