/-
  The statements of layer 17: SpaceDiscards. Printed by wip/gendi.py.
-/
import Derived.Test.YtgicljeedegncaaGreatSpOnce
namespace Go.Proofs.YtgicljeedegncaaGreat
set_option linter.unusedSimpArgs false
set_option linter.unusedVariables false
open Go.RowKit

theorem RunOk.discard {s : SpSt} {sent acked lost : List Int} {now : Int} {N : Nat} (h : RunOk s sent acked lost [] now N) : RunOk { s with ps := [], loss := -1, time := -1 } sent acked lost (s.ps.map Pk.num) now N := by
  refine ⟨h.rise, h.bnd, h.last, h.slen, h.mem, h.klen, by simp, fun x hx => ⟨(h.ack1 x hx).1, fun hm => ?_⟩, fun x hx => ⟨(h.los1 x hx).1, fun hm => ?_⟩, fun x hm => ?_, ?_, h.great, h.now0, by simp⟩
  · obtain ⟨p, hp, rfl⟩ := List.mem_map.1 hm
    exact (h.here p hp).2.1 hx
  · obtain ⟨p, hp, rfl⟩ := List.mem_map.1 hm
    exact (h.here p hp).2.2.1 hx
  · obtain ⟨p, hp, rfl⟩ := List.mem_map.1 hm
    exact (h.here p hp).1
  · have := h.cnt
    simp at this ⊢
    omega
theorem nums_toPK (ps : List Pk) : (ps.map toPK).map PK.n = ps.map Pk.num := by rw [List.map_map]; rfl
theorem keep_row (a : Option Addr) (w : World) : ∃ K : Kept, (∀ k ∈ K.ks, ∃ o, a = some ⟨k, o, none⟩) ∧ (∀ k o, a = some ⟨k, o, none⟩ → k ∈ K.ks) ∧ ∀ k, K.what k = w.heap[k]? := by
  rcases a with _ | ⟨k, o, x⟩
  · exact ⟨⟨[], fun k => w.heap[k]?⟩, by simp, by simp, fun _ => rfl⟩
  · rcases x with _ | x
    · exact ⟨⟨[k], fun k => w.heap[k]?⟩, fun j hj => by simp at hj; subst hj; exact ⟨o, rfl⟩, fun j p e => by cases e; simp, fun _ => rfl⟩
    · exact ⟨⟨[], fun k => w.heap[k]?⟩, by simp, fun j p e => (by cases e), fun _ => rfl⟩
theorem RunAt.keptNums {K : Kept} {w W w6 : World} {f : Ft} {s : SpSt} {r : Nat} {a : Option Addr} {vs va vl : Value} {sent acked lost G : List Int} {now : Int} (h : @RunAt K w W f s r vs va vl sent acked lost now) (hK3 : ∀ k o, a = some ⟨k, o, none⟩ → k ∈ K.ks) (hK4 : ∀ k, K.what k = w6.heap[k]?) (hn : NumsAt w6 a G) : NumsAt W a G := fun i z hi => by
  obtain ⟨k, e, hk, hc⟩ := hn i z hi
  obtain ⟨h1, h2, _⟩ := @RunAt.kp K _ _ _ _ _ _ _ _ _ _ _ _ h k (hK3 k 0 e)
  exact ⟨k, e, h2, (World.cell?_of_block (w := w6) (a := ⟨k, i, none⟩) (by rw [h1]; exact hK4 k)).trans hc⟩
set_option maxRecDepth 100000 in
set_option maxHeartbeats 8000000 in
theorem discards_any (room : Int) (a a' : Option Addr) (len cap len' cap' : Nat) (w : World) (hw : RowsK w a len [some .i64, some .i64, some .i64, some .i64, some .i64]) (hw' : RowsK w a' len' [some .i64, some .i64, some .i64, some .i64, some .i64]) (hr0 : -9223372036854775808 ≤ room) (hr1 : room ≤ 9223372036854775807) :
    Calls Tryz.prog 7 #[.int .i64 room, .slice a len cap, .slice a' len' cap'] w fun e w' => e = .returned (.bool true) ∧ Below w.heap.size w w' := by
  obtain ⟨rm, hrm⟩ : ∃ rm : Nat, room % 40 = rm := ⟨(room % 40).toNat, by have := Int.emod_nonneg room (show (40 : Int) ≠ 0 by omega); omega⟩
  have hrm2 : rm < 40 := by have := Int.emod_lt_of_pos room (show (0 : Int) < 40 by omega); omega
  have BR := hide (fun W => bring_any room 40 W (by omega) (by omega) hr0 hr1)
  rw [hrm] at BR
  clear hrm
  have HN := hide (fun W => spnew_ok (rm + 1) W (by omega) (by omega))
  rw [show ((rm + 1 : Nat) : Int) = 1 + (rm : Int) by omega] at HN
  have HRW := hide hw
  have HRW' := hide hw'
  clear hw hw'
  go_enter Tryz.func7, Tryz.ntmps7
  go_wp2_with fail
  refine (BR.out _).mono ?_
  rintro e0 w0 ⟨rfl, rfl⟩
  go_wp2_with fail
  refine (HN.out _).mono ?_
  rintro e1 w1 ⟨f1, rfl, hs1, hn1, hb1⟩
  go_wp2_with fail
  have HS1 := hide (run_start hs1 hn1 hb1)
  clear hs1 hn1 hb1 BR HN
  go_wp2_with fail
  go_loopg [10] 50 (fun kx sx wr => ∃ (i : Nat) (f : Ft) (s : SpSt) (vs va vl : Value) (sent acked lost : List Int) (now : Int), sx = .int .i64 i ∧ i ≤ 50 ∧ 50 - i ≤ kx ∧ RunS w wr w1.heap.size [] (i) (rm + 1) f s vs va vl sent acked lost now)
  case atStart => exact ⟨0, _, _, _, _, _, _, _, _, _, rfl, by omega, by omega, HS1.out⟩
  case round =>
    clear HS1
    obtain ⟨i, f, s, vs, va, vl, sent, acked, lost, now, rfl, hi, hkx, hS⟩ := hrel
    have HS := hide hS
    have hp0 := hS.at_.blk.cell 0
    clear hS
    go_upto_region 6 with (fail)
    go_cut [35] (fun sg wx => sg = .bool (decide (i < len ∧ i < 50)) ∧ wx = wr)
    case first =>
      by_cases hlt : i < len
      · have hin : (i : Int) < (len : Int) := by omega
        by_cases h6 : i < 50
        · have hin6 : (i : Int) < 50 := by omega
          go_wp2_with fail
          go_meet
          exact ⟨by rw [decide_eq_true ⟨hlt, h6⟩], rfl⟩
        · have hin6 : ¬ (i : Int) < 50 := by omega
          go_wp2_with fail
          go_meet
          exact ⟨by rw [decide_eq_false (fun h => h6 h.2)], rfl⟩
      · have hin : ¬ (i : Int) < (len : Int) := by omega
        go_wp2_with fail
        go_meet
        exact ⟨by rw [decide_eq_false (fun h => hlt h.1)], rfl⟩
    case rest =>
      obtain ⟨rfl, rfl⟩ := hcut
      by_cases hgo : i < len ∧ i < 50
      · rw [decide_eq_true hgo]
        have hin : (i : Int) < (len : Int) := by omega
        have hi0 : (0 : Int) ≤ (i : Int) := by omega
        obtain ⟨xb, xo, kd, af, x0, x1, x2, rfl, ⟨z0, z1, z2, z3, z4⟩, ⟨b0, b1⟩, ⟨b2, b3⟩, ⟨b4, b5⟩, ⟨b6, b7⟩, ⟨b8, b9⟩⟩ := row_at HRW.out hgo.1 HS.out.below
        have HC := hide (step17_any kd af x0 x1 x2 HS.out (by omega) b0 b1 b2 b3 b4 b5 b6 b7 b8 b9)
        clear b0 b1 b2 b3 b4 b5 b6 b7 b8 b9
        go_wp2_with fail
        refine HC.out.mono ?_
        rintro e2 w2 ⟨rfl, f', s', vs', va', vl', sent', acked', lost', now', hS', _⟩
        go_wp2_with fail
        go_roundg (50 - (i + 1))
        case rel => exact ⟨i + 1, f', s', vs', va', vl', sent', acked', lost', now', by go_num, by omega, by omega, hS'⟩
        case measure => omega
      · rw [decide_eq_false hgo]
        have hi50 : i ≤ 50 := hi
        clear hgo hkx
        obtain ⟨la, hla⟩ : ∃ l, s.last = l := ⟨_, rfl⟩
        obtain ⟨gr, hgr⟩ : ∃ g, s.great = g := ⟨_, rfl⟩
        have HLA := hide hla
        have HGR := hide hgr
        clear hla hgr
        go_wp2_with fail
        refine wp_region_S (fun w' => w'.cell? ⟨w1.heap.size, 0, none⟩ = some (.pointer (some ⟨f.b, 0, none⟩))) 1000 (by kernel_rfl) (by exact HS.out.drew.at_.blk.cell 0) (fun hHeld => ?_)
        refine wpAnyS_take (i := 0) (v := ?_) rfl (by kernel_rfl) (by kernel_rfl) (by kernel_rfl) (by kernel_rfl) (fun _ _ _ h => h) (Or.inl ⟨by rfl, ?_⟩) (by assumption) ?_
        rotate_left
        · intro w hSw; (try dsimp only at hSw); go_simp; try with_reducible rfl
        try simp only [Act.put, List.getElem_toArray, List.getElem_cons_succ, List.getElem_cons_zero, List.setIfInBounds_toArray, List.set_cons_zero, List.set_cons_succ]
        refine wpAnyS_take (i := 1) (v := ?_) rfl (by kernel_rfl) (by kernel_rfl) (by kernel_rfl) (by kernel_rfl) (fun _ _ _ h => h) (Or.inl ⟨by rfl, ?_⟩) (by assumption) ?_
        rotate_left
        · intro w hSw; (try dsimp only at hSw); go_simp; try with_reducible rfl
        try simp only [Act.put, List.getElem_toArray, List.getElem_cons_succ, List.getElem_cons_zero, List.setIfInBounds_toArray, List.set_cons_zero, List.set_cons_succ]
        refine wpAnyS_take (i := 2) (v := ?_) rfl (by kernel_rfl) (by kernel_rfl) (by kernel_rfl) (by kernel_rfl) (fun _ _ _ h => h) (Or.inl ⟨by rfl, ?_⟩) (by assumption) ?_
        rotate_left
        · intro w hSw; (try dsimp only at hSw); go_simp; try with_reducible rfl
        try simp only [Act.put, List.getElem_toArray, List.getElem_cons_succ, List.getElem_cons_zero, List.setIfInBounds_toArray, List.set_cons_zero, List.set_cons_succ]
        refine wpAnyS_take (i := 3) (v := ?_) rfl (by kernel_rfl) (by kernel_rfl) (by kernel_rfl) (by kernel_rfl) (fun _ _ _ h => h) (Or.inl ⟨by rfl, ?_⟩) (by assumption) ?_
        rotate_left
        · intro w hSw; (try dsimp only at hSw); go_simp; try with_reducible rfl
        try simp only [Act.put, List.getElem_toArray, List.getElem_cons_succ, List.getElem_cons_zero, List.setIfInBounds_toArray, List.set_cons_zero, List.set_cons_succ]
        refine wpAnyS_take (i := 5) (v := ?_) rfl (by kernel_rfl) (by kernel_rfl) (by kernel_rfl) (by kernel_rfl) (fun _ _ _ h => h) (Or.inl ⟨by rfl, ?_⟩) (by assumption) ?_
        rotate_left
        · intro w hSw; (try dsimp only at hSw); go_simp; try with_reducible rfl
        try simp only [Act.put, List.getElem_toArray, List.getElem_cons_succ, List.getElem_cons_zero, List.setIfInBounds_toArray, List.set_cons_zero, List.set_cons_succ]
        refine wpAnyS_take (i := 6) (v := ?_) rfl (by kernel_rfl) (by kernel_rfl) (by kernel_rfl) (by kernel_rfl) (fun _ _ _ h => h) (Or.inl ⟨by rfl, ?_⟩) (by assumption) ?_
        rotate_left
        · intro w hSw; (try dsimp only at hSw); go_simp; try with_reducible rfl
        try simp only [Act.put, List.getElem_toArray, List.getElem_cons_succ, List.getElem_cons_zero, List.setIfInBounds_toArray, List.set_cons_zero, List.set_cons_succ]
        refine wpAnyS_take (i := 7) (v := ?_) rfl (by kernel_rfl) (by kernel_rfl) (by kernel_rfl) (by kernel_rfl) (fun _ _ _ h => h) (Or.inl ⟨by rfl, ?_⟩) (by assumption) ?_
        rotate_left
        · intro w hSw; (try dsimp only at hSw); go_simp; try with_reducible rfl
        try simp only [Act.put, List.getElem_toArray, List.getElem_cons_succ, List.getElem_cons_zero, List.setIfInBounds_toArray, List.set_cons_zero, List.set_cons_succ]
        refine wpAnyS_take (i := 8) (v := ?_) rfl (by kernel_rfl) (by kernel_rfl) (by kernel_rfl) (by kernel_rfl) (fun _ _ _ h => h) (Or.inl ⟨by rfl, ?_⟩) (by assumption) ?_
        rotate_left
        · intro w hSw; (try dsimp only at hSw); go_simp; try with_reducible rfl
        try simp only [Act.put, List.getElem_toArray, List.getElem_cons_succ, List.getElem_cons_zero, List.setIfInBounds_toArray, List.set_cons_zero, List.set_cons_succ]
        refine wpAnyS_one (i := 4) rfl (by kernel_rfl) (fun K hK => ?_)
        go_simp; go_at_call 20; refine (splast_any f s _ HS.out.drew.sp).mono ?_; rintro e2 w2 ⟨rfl, hb2⟩; rw [HLA.out]; have HS2 := hide (HS.out.drew.later hb2)
        refine hK.out _ _ (fun _ => HS2.out.at_.blk.cell 0) (fun hH => ?_)
        have hHeld := hH rfl
        clear hK K hH
        try simp only [Act.put, List.getElem_toArray, List.getElem_cons_succ, List.getElem_cons_zero, List.setIfInBounds_toArray, List.set_cons_zero, List.set_cons_succ]
        refine wpAnyS_one (i := 9) rfl (by kernel_rfl) (fun K hK => ?_)
        go_simp; go_at_call 13; refine (spgreat_any f s w2 HS2.out.sp).mono ?_; rintro e3 w3 ⟨rfl, hb3⟩; rw [HGR.out]; have HS3 := hide (HS2.out.later hb3)
        refine hK.out _ _ (fun _ => HS3.out.at_.blk.cell 0) (fun hH => ?_)
        have hHeld := hH rfl
        clear hK K hH
        try simp only [Act.put, List.getElem_toArray, List.getElem_cons_succ, List.getElem_cons_zero, List.setIfInBounds_toArray, List.set_cons_zero, List.set_cons_succ]
        refine wpAnyS_take (i := 10) (v := ?_) rfl (by kernel_rfl) (by kernel_rfl) (by kernel_rfl) (by kernel_rfl) (fun _ _ _ h => h) (Or.inl ⟨by rfl, ?_⟩) (by assumption) ?_
        rotate_left
        · intro w hSw; (try dsimp only at hSw); go_simp; try with_reducible rfl
        try simp only [Act.put, List.getElem_toArray, List.getElem_cons_succ, List.getElem_cons_zero, List.setIfInBounds_toArray, List.set_cons_zero, List.set_cons_succ]
        refine wpAnyS_take (i := 11) (v := ?_) rfl (by kernel_rfl) (by kernel_rfl) (by kernel_rfl) (by kernel_rfl) (fun _ _ _ h => h) (Or.inl ⟨by rfl, ?_⟩) (by assumption) ?_
        rotate_left
        · intro w hSw; (try dsimp only at hSw); go_simp; try with_reducible rfl
        try simp only [Act.put, List.getElem_toArray, List.getElem_cons_succ, List.getElem_cons_zero, List.setIfInBounds_toArray, List.set_cons_zero, List.set_cons_succ]
        refine wpAnyS_done (by kernel_rfl) ?_ _
        have p3 := HS3.out.at_.blk.cell 0
        clear HS HS2 hHeld hp0 hb2 hb3
        go_wp2_with fail
        refine (all17_any f s _ HS3.out.sp).mono ?_
        rintro e4 w4 ⟨a4, c4, rfl, hP4, hc4, hf4, hb4⟩
        have HS4 := hide (HS3.out.later hb4)
        obtain ⟨n, hn⟩ : ∃ n, s.ps.length = n := ⟨_, rfl⟩
        have hn2 : n ≤ 100 := by
          have := HS4.out.ok.cnt
          have := HS4.out.ok.slen
          omega
        rw [hn] at hc4 ⊢
        have HN := hide hn
        have HP4 := hide hP4
        clear HS3 p3 hn hP4 hb4 hf4
        go_wp2_with fail
        refine (numbers17_any a4 n c4 (s.ps.map toPK) _ (by rw [List.length_map]; exact HN.out) (by omega) HP4.out).mono ?_
        rintro e5 w5 ⟨a5, c5, rfl, hN5, hc5, hf5, hb5⟩
        have HS5 := hide (HS4.out.later hb5)
        have p5 := HS5.out.at_.blk.cell 0
        have HN5 := hide hN5
        have HF5 := hide (fun k o e hm => by have h1 := (hf5 k o e).1; have h2 := HS4.out.sp.lt k hm; omega : ∀ k o, a5 = some ⟨k, o, none⟩ → k ∉ f.all)
        have HF4 := hide hf5
        have HX4 := hide (⟨HS4.out.at_.blk.lt, fun k h => (HS4.out.at_.os.lt k h).2, fun k h => (HS4.out.at_.oa.lt k h).2, fun k h => (HS4.out.at_.ol.lt k h).2⟩ : w1.heap.size < w4.heap.size ∧ (∀ k, vs.ownBlock = some k → k < w4.heap.size) ∧ (∀ k, va.ownBlock = some k → k < w4.heap.size) ∧ ∀ k, vl.ownBlock = some k → k < w4.heap.size)
        clear hN5 hf5 hb5 HS4 HP4
        go_wp2_with fail
        refine (spdiscard_any f s _ HS5.out.sp).mono ?_
        rintro e6 w6 ⟨rfl, hq6⟩
        have hn6 : NumsAt w6 a5 (s.ps.map Pk.num) := by
          have h1 := HN5.out.only hq6.only (fun k e => HF5.out k 0 e)
          rwa [nums_toPK] at h1
        have hat6 := HS5.out.at_.step hq6
        have hok6 := HS5.out.ok.discard
        have hrm6 := HS5.out.room
        obtain ⟨K2, hK2, hK3, hK4⟩ := keep_row a5 w6
        have hkept : ∀ k ∈ K2.ks, w6.heap[k]? = K2.what k ∧ k < w6.heap.size ∧ k ∉ f.all ∧ k ≠ w1.heap.size ∧ vs.ownBlock ≠ some k ∧ va.ownBlock ≠ some k ∧ vl.ownBlock ≠ some k := fun k hk => by
          obtain ⟨o, e⟩ := hK2 k hk
          obtain ⟨h1, h2⟩ := HF4.out k o e
          have h3 := hq6.only.size
          refine ⟨(hK4 k).symm, by omega, HF5.out k o e, fun h => ?_, fun h => ?_, fun h => ?_, fun h => ?_⟩
          · have := HX4.out.1
            omega
          · have := HX4.out.2.1 k h
            omega
          · have := HX4.out.2.2.1 k h
            omega
          · have := HX4.out.2.2.2 k h
            omega
        have HS6 := hide (@RunS.mk K2 _ _ _ _ _ _ _ _ _ _ _ _ _ _ _ (hat6.keep K2 hkept) hok6 hrm6)
        obtain ⟨s6, hs6⟩ : ∃ x, ({ s with ps := [], loss := -1, time := -1 } : SpSt) = x := ⟨_, rfl⟩
        have e0 : s6.ps = [] := by rw [← hs6]
        have e1 : s6.loss = -1 := by rw [← hs6]
        have e2 : s6.time = -1 := by rw [← hs6]
        have e3 : s6.last = la := by rw [← hs6]; exact HLA.out
        have e4 : s6.great = gr := by rw [← hs6]; exact HGR.out
        rw [hs6] at HS6
        obtain ⟨G, hG⟩ : ∃ G, s.ps.map Pk.num = G := ⟨_, rfl⟩
        rw [hG] at HS6 hn6
        have hGn : G.length = n := by rw [← hG, List.length_map]; exact HN.out
        have HGN := hide hGn
        have HN6 := hide hn6
        have HK3 := hide hK3
        have HK4 := hide hK4
        have E0 := hide e0
        have E1 := hide e1
        have E2 := hide e2
        have E3 := hide e3
        have E4 := hide e4
        have p6 := HS6.out.at_.blk.cell 0
        clear hn6 hat6 hok6 hrm6 hK2 hK3 hK4 hkept hs6 e0 e1 e2 e3 e4 hq6 hG HF4 HF5 HX4 HS5 HN5 p5 HLA HGR HN hGn
        go_wp2_with fail
        refine (spflight_any f s6 _ HS6.out.sp).mono ?_
        rintro e7 w7 ⟨rfl, hb7⟩
        rw [E0.out, show flightOf [] = 0 from rfl]
        have HS7 := hide (HS6.out.later hb7)
        have p7 := HS7.out.at_.blk.cell 0
        clear HS6 p6 hb7
        go_wp2_with fail
        refine (spelic_any f s6 _ HS7.out.sp).mono ?_
        rintro e8 w8 ⟨rfl, hb8⟩
        rw [E0.out, show elicOf [] = 0 from rfl]
        have HS8 := hide (HS7.out.later hb8)
        have p8 := HS8.out.at_.blk.cell 0
        clear HS7 p7 hb8
        go_wp2_with fail
        refine (all17_any f s6 _ HS8.out.sp).mono ?_
        rintro e9 w9 ⟨a9, c9, rfl, hP9, hc9, hf9, hb9⟩
        rw [E0.out, show ([] : List Pk).length = 0 from rfl]
        have HS9 := hide (HS8.out.later hb9)
        have p9 := HS9.out.at_.blk.cell 0
        clear HS8 p8 hb9 hP9 hf9
        go_wp2_with fail
        refine (sploss_any f s6 _ HS9.out.sp).mono ?_
        rintro e10 w10 ⟨rfl, hb10⟩
        rw [E1.out]
        have HS10 := hide (HS9.out.later hb10)
        have p10 := HS10.out.at_.blk.cell 0
        clear HS9 p9 hb10
        go_wp2_with fail
        refine (sptime_any f s6 _ HS10.out.sp).mono ?_
        rintro e11 w11 ⟨rfl, hb11⟩
        rw [E2.out]
        have HS11 := hide (HS10.out.later hb11)
        have p11 := HS11.out.at_.blk.cell 0
        clear HS10 p10 hb11
        go_wp2_with fail
        refine (splast_any f s6 _ HS11.out.sp).mono ?_
        rintro e12 w12 ⟨rfl, hb12⟩
        rw [E3.out]
        have HS12 := hide (HS11.out.later hb12)
        have p12 := HS12.out.at_.blk.cell 0
        clear HS11 p11 hb12
        go_wp2_with fail
        refine (spgreat_any f s6 _ HS12.out.sp).mono ?_
        rintro e13 w13 ⟨rfl, hb13⟩
        rw [E4.out]
        have HS13 := hide (HS12.out.later hb13)
        have p13 := HS13.out.at_.blk.cell 0
        clear HS12 p12 hb13
        go_wp2_with fail
        clear E0 E1 E2 E3 E4 hc9
        go_loopg [14] 20 (fun kx sx wr => ∃ (j : Nat) (f : Ft) (s : SpSt) (vs va vl : Value) (sent acked lost : List Int) (now : Int), sx = .int .i64 j ∧ j ≤ 20 ∧ 20 - j ≤ kx ∧ RunS w wr w1.heap.size G (i + j) (rm + 1) f s vs va vl sent acked lost now)
        case atStart => exact ⟨0, _, _, _, _, _, _, _, _, _, rfl, by omega, by omega, HS13.out⟩
        case round =>
          clear HS13 p13
          obtain ⟨j, f, s, vs, va, vl, sent, acked, lost, now, rfl, hj, hkx, hS⟩ := hrel
          have HS := hide hS
          have hp0 := hS.at_.blk.cell 0
          clear hS
          go_upto_region 16 with (fail)
          go_cut [130] (fun sg wx => sg = .bool (decide (j < len' ∧ j < 20)) ∧ wx = wr)
          case first =>
            by_cases hlt : j < len'
            · have hin : (j : Int) < (len' : Int) := by omega
              by_cases h6 : j < 20
              · have hin6 : (j : Int) < 20 := by omega
                go_wp2_with fail
                go_meet
                exact ⟨by rw [decide_eq_true ⟨hlt, h6⟩], rfl⟩
              · have hin6 : ¬ (j : Int) < 20 := by omega
                go_wp2_with fail
                go_meet
                exact ⟨by rw [decide_eq_false (fun h => h6 h.2)], rfl⟩
            · have hin : ¬ (j : Int) < (len' : Int) := by omega
              go_wp2_with fail
              go_meet
              exact ⟨by rw [decide_eq_false (fun h => hlt h.1)], rfl⟩
          case rest =>
            obtain ⟨rfl, rfl⟩ := hcut
            by_cases hgo : j < len' ∧ j < 20
            · rw [decide_eq_true hgo]
              have hin : (j : Int) < (len' : Int) := by omega
              have hi0 : (0 : Int) ≤ (j : Int) := by omega
              obtain ⟨xb, xo, kd, af, x0, x1, x2, rfl, ⟨z0, z1, z2, z3, z4⟩, ⟨b0, b1⟩, ⟨b2, b3⟩, ⟨b4, b5⟩, ⟨b6, b7⟩, ⟨b8, b9⟩⟩ := row_at HRW'.out hgo.1 HS.out.below
              have HC := hide (step17_any kd af x0 x1 x2 HS.out (by omega) b0 b1 b2 b3 b4 b5 b6 b7 b8 b9)
              clear b0 b1 b2 b3 b4 b5 b6 b7 b8 b9
              go_wp2_with fail
              refine HC.out.mono ?_
              rintro e2 w2 ⟨rfl, f', s', vs', va', vl', sent', acked', lost', now', hS', _⟩
              go_wp2_with fail
              go_roundg (20 - (j + 1))
              case rel => exact ⟨j + 1, f', s', vs', va', vl', sent', acked', lost', now', by go_num, by omega, by omega, hS'⟩
              case measure => omega
            · rw [decide_eq_false hgo]
              clear hgo hkx hp0
              obtain ⟨⟨as5, cs5, hvs5, _⟩, ⟨aa, ca, hva5, _⟩, ⟨al, cl, hvl5, _⟩⟩ := HS.out.at_.forms
              obtain ⟨A, hA⟩ : ∃ A, acked.length = A := ⟨_, rfl⟩
              obtain ⟨L, hL⟩ : ∃ L, lost.length = L := ⟨_, rfl⟩
              have hAL : A ≤ 100 ∧ L ≤ 100 := by
                have := HS.out.ok.cnt
                have := HS.out.ok.slen
                omega
              rw [hA] at hva5
              rw [hL] at hvl5
              subst hva5
              subst hvl5
              have HA := hide hA
              have HL := hide hL
              clear hvs5 hA hL
              go_wp2_with fail
              go_loopg [15] n (fun ky sx wi => ∃ (j2 : Nat), sx = .int .i64 j2 ∧ j2 ≤ n ∧ n - j2 ≤ ky ∧ RunS w wi w1.heap.size G (i + j) (rm + 1) f s vs (.slice aa A ca) (.slice al L cl) sent acked lost now)
              case atStart => exact ⟨0, rfl, by omega, by omega, HS.out⟩
              case round =>
                clear HS
                obtain ⟨j2, rfl, hj2, hky, hSI⟩ := hrel
                have HSI := hide hSI
                clear hSI
                by_cases hjl : j2 < n
                · have hin2 : (j2 : Int) < (n : Int) := by omega
                  have hj0 : (0 : Int) ≤ (j2 : Int) := by omega
                  obtain ⟨z, hz⟩ : ∃ z, G[j2]? = some z := ⟨_, List.getElem?_eq_getElem (by rw [HGN.out]; exact hjl)⟩
                  have hzG := List.mem_of_getElem? hz
                  have hza : decide (z ∈ acked) = false := decide_eq_false (fun h => (HSI.out.ok.ack1 z h).2 hzG)
                  have hzl : decide (z ∈ lost) = false := decide_eq_false (fun h => (HSI.out.ok.los1 z h).2 hzG)
                  obtain ⟨kb, e5, hkb, z0⟩ := (HSI.out.at_.keptNums HK3.out HK4.out HN6.out) j2 z hz
                  obtain ⟨_, _, q2, q3, _, _⟩ := HSI.out.at_.four
                  have HSD := hide HSI.out.drew
                  have HNA := hide HSD.out.at_.numsA
                  have HNL := hide HSD.out.at_.numsL
                  have HZA := hide hza
                  have HZL := hide hzl
                  rw [e5]
                  clear hz hzG hza hzl
                  go_wp2_with fail
                  refine wp_region_S (fun w' => w'.cell? ⟨w1.heap.size, 2, none⟩ = some (.slice aa A ca) ∧ w'.cell? ⟨w1.heap.size, 3, none⟩ = some (.slice al L cl) ∧ w'.cell? ⟨kb, j2, none⟩ = some (.int .i64 z)) 1000 (by kernel_rfl) (by exact ⟨q2, q3, z0⟩) (fun hHeld => ?_)
                  refine wpAnyS_take (i := 0) (v := ?_) rfl (by kernel_rfl) (by kernel_rfl) (by kernel_rfl) (by kernel_rfl) (fun _ _ _ h => h) (Or.inl ⟨by rfl, ?_⟩) (by assumption) ?_
                  rotate_left
                  · intro w hSw; (try dsimp only at hSw); go_simp; try with_reducible rfl
                  try simp only [Act.put, List.getElem_toArray, List.getElem_cons_succ, List.getElem_cons_zero, List.setIfInBounds_toArray, List.set_cons_zero, List.set_cons_succ]
                  refine wpAnyS_take (i := 1) (v := ?_) rfl (by kernel_rfl) (by kernel_rfl) (by kernel_rfl) (by kernel_rfl) (fun _ _ _ h => h) (Or.inl ⟨by rfl, ?_⟩) (by assumption) ?_
                  rotate_left
                  · intro w hSw; (try dsimp only at hSw); go_simp; try with_reducible rfl
                  try simp only [Act.put, List.getElem_toArray, List.getElem_cons_succ, List.getElem_cons_zero, List.setIfInBounds_toArray, List.set_cons_zero, List.set_cons_succ]
                  refine wpAnyS_take (i := 2) (v := ?_) rfl (by kernel_rfl) (by kernel_rfl) (by kernel_rfl) (by kernel_rfl) (fun _ _ _ h => h) (Or.inl ⟨by rfl, ?_⟩) (by assumption) ?_
                  rotate_left
                  · intro w hSw; (try dsimp only at hSw); go_simp; try with_reducible rfl
                  try simp only [Act.put, List.getElem_toArray, List.getElem_cons_succ, List.getElem_cons_zero, List.setIfInBounds_toArray, List.set_cons_zero, List.set_cons_succ]
                  refine wpAnyS_take (i := 3) (v := ?_) rfl (by kernel_rfl) (by kernel_rfl) (by kernel_rfl) (by kernel_rfl) (fun _ _ _ h => h) (Or.inl ⟨by rfl, ?_⟩) (by assumption) ?_
                  rotate_left
                  · intro w hSw; (try dsimp only at hSw); go_simp; try with_reducible rfl
                  try simp only [Act.put, List.getElem_toArray, List.getElem_cons_succ, List.getElem_cons_zero, List.setIfInBounds_toArray, List.set_cons_zero, List.set_cons_succ]
                  refine wpAnyS_take (i := 4) (v := ?_) rfl (by kernel_rfl) (by kernel_rfl) (by kernel_rfl) (by kernel_rfl) (fun _ _ _ h => h) (Or.inl ⟨by rfl, ?_⟩) (by assumption) ?_
                  rotate_left
                  · intro w hSw; (try dsimp only at hSw); go_simp; try with_reducible rfl
                  try simp only [Act.put, List.getElem_toArray, List.getElem_cons_succ, List.getElem_cons_zero, List.setIfInBounds_toArray, List.set_cons_zero, List.set_cons_succ]
                  refine wpAnyS_take (i := 5) (v := ?_) rfl (by kernel_rfl) (by kernel_rfl) (by kernel_rfl) (by kernel_rfl) (fun _ _ _ h => h) (Or.inl ⟨by rfl, ?_⟩) (by assumption) ?_
                  rotate_left
                  · intro w hSw; (try dsimp only at hSw); go_simp; try with_reducible rfl
                  try simp only [Act.put, List.getElem_toArray, List.getElem_cons_succ, List.getElem_cons_zero, List.setIfInBounds_toArray, List.set_cons_zero, List.set_cons_succ]
                  refine wpAnyS_take (i := 6) (v := ?_) rfl (by kernel_rfl) (by kernel_rfl) (by kernel_rfl) (by kernel_rfl) (fun _ _ _ h => h) (Or.inl ⟨by rfl, ?_⟩) (by assumption) ?_
                  rotate_left
                  · intro w hSw; (try dsimp only at hSw); go_simp; try with_reducible rfl
                  try simp only [Act.put, List.getElem_toArray, List.getElem_cons_succ, List.getElem_cons_zero, List.setIfInBounds_toArray, List.set_cons_zero, List.set_cons_succ]
                  refine wpAnyS_take (i := 7) (v := ?_) rfl (by kernel_rfl) (by kernel_rfl) (by kernel_rfl) (by kernel_rfl) (fun _ _ _ h => h) (Or.inl ⟨by rfl, ?_⟩) (by assumption) ?_
                  rotate_left
                  · intro w hSw; (try dsimp only at hSw); go_simp; try with_reducible rfl
                  try simp only [Act.put, List.getElem_toArray, List.getElem_cons_succ, List.getElem_cons_zero, List.setIfInBounds_toArray, List.set_cons_zero, List.set_cons_succ]
                  refine wpAnyS_one (i := 8) rfl (by kernel_rfl) (fun K hK => ?_)
                  go_simp; go_at_call 19; refine (has17_any aa A ca acked z _ HA.out (by omega) HNA.out).mono ?_; rintro e6 w6 ⟨rfl, rfl⟩; rw [HZA.out]
                  refine hK.out _ _ (fun _ => hHeld) (fun hH => ?_)
                  have hHeld := hH rfl
                  clear hK K hH
                  try simp only [Act.put, List.getElem_toArray, List.getElem_cons_succ, List.getElem_cons_zero, List.setIfInBounds_toArray, List.set_cons_zero, List.set_cons_succ]
                  refine wpAnyS_take (i := 9) (v := ?_) rfl (by kernel_rfl) (by kernel_rfl) (by kernel_rfl) (by kernel_rfl) (fun _ _ _ h => h) (Or.inl ⟨by rfl, ?_⟩) (by assumption) ?_
                  rotate_left
                  · intro w hSw; (try dsimp only at hSw); go_simp; try with_reducible rfl
                  try simp only [Act.put, List.getElem_toArray, List.getElem_cons_succ, List.getElem_cons_zero, List.setIfInBounds_toArray, List.set_cons_zero, List.set_cons_succ]
                  refine wpAnyS_take (i := 10) (v := ?_) rfl (by kernel_rfl) (by kernel_rfl) (by kernel_rfl) (by kernel_rfl) (fun _ _ _ h => h) (Or.inl ⟨by rfl, ?_⟩) (by assumption) ?_
                  rotate_left
                  · intro w hSw; (try dsimp only at hSw); go_simp; try with_reducible rfl
                  try simp only [Act.put, List.getElem_toArray, List.getElem_cons_succ, List.getElem_cons_zero, List.setIfInBounds_toArray, List.set_cons_zero, List.set_cons_succ]
                  refine wpAnyS_take (i := 11) (v := ?_) rfl (by kernel_rfl) (by kernel_rfl) (by kernel_rfl) (by kernel_rfl) (fun _ _ _ h => h) (Or.inl ⟨by rfl, ?_⟩) (by assumption) ?_
                  rotate_left
                  · intro w hSw; (try dsimp only at hSw); go_simp; try with_reducible rfl
                  try simp only [Act.put, List.getElem_toArray, List.getElem_cons_succ, List.getElem_cons_zero, List.setIfInBounds_toArray, List.set_cons_zero, List.set_cons_succ]
                  refine wpAnyS_take (i := 12) (v := ?_) rfl (by kernel_rfl) (by kernel_rfl) (by kernel_rfl) (by kernel_rfl) (fun _ _ _ h => h) (Or.inl ⟨by rfl, ?_⟩) (by assumption) ?_
                  rotate_left
                  · intro w hSw; (try dsimp only at hSw); go_simp; try with_reducible rfl
                  try simp only [Act.put, List.getElem_toArray, List.getElem_cons_succ, List.getElem_cons_zero, List.setIfInBounds_toArray, List.set_cons_zero, List.set_cons_succ]
                  refine wpAnyS_take (i := 13) (v := ?_) rfl (by kernel_rfl) (by kernel_rfl) (by kernel_rfl) (by kernel_rfl) (fun _ _ _ h => h) (Or.inl ⟨by rfl, ?_⟩) (by assumption) ?_
                  rotate_left
                  · intro w hSw; (try dsimp only at hSw); go_simp; try with_reducible rfl
                  try simp only [Act.put, List.getElem_toArray, List.getElem_cons_succ, List.getElem_cons_zero, List.setIfInBounds_toArray, List.set_cons_zero, List.set_cons_succ]
                  refine wpAnyS_take (i := 14) (v := ?_) rfl (by kernel_rfl) (by kernel_rfl) (by kernel_rfl) (by kernel_rfl) (fun _ _ _ h => h) (Or.inl ⟨by rfl, ?_⟩) (by assumption) ?_
                  rotate_left
                  · intro w hSw; (try dsimp only at hSw); go_simp; try with_reducible rfl
                  try simp only [Act.put, List.getElem_toArray, List.getElem_cons_succ, List.getElem_cons_zero, List.setIfInBounds_toArray, List.set_cons_zero, List.set_cons_succ]
                  refine wpAnyS_take (i := 15) (v := ?_) rfl (by kernel_rfl) (by kernel_rfl) (by kernel_rfl) (by kernel_rfl) (fun _ _ _ h => h) (Or.inl ⟨by rfl, ?_⟩) (by assumption) ?_
                  rotate_left
                  · intro w hSw; (try dsimp only at hSw); go_simp; try with_reducible rfl
                  try simp only [Act.put, List.getElem_toArray, List.getElem_cons_succ, List.getElem_cons_zero, List.setIfInBounds_toArray, List.set_cons_zero, List.set_cons_succ]
                  refine wpAnyS_take (i := 16) (v := ?_) rfl (by kernel_rfl) (by kernel_rfl) (by kernel_rfl) (by kernel_rfl) (fun _ _ _ h => h) (Or.inl ⟨by rfl, ?_⟩) (by assumption) ?_
                  rotate_left
                  · intro w hSw; (try dsimp only at hSw); go_simp; try with_reducible rfl
                  try simp only [Act.put, List.getElem_toArray, List.getElem_cons_succ, List.getElem_cons_zero, List.setIfInBounds_toArray, List.set_cons_zero, List.set_cons_succ]
                  refine wpAnyS_take (i := 17) (v := ?_) rfl (by kernel_rfl) (by kernel_rfl) (by kernel_rfl) (by kernel_rfl) (fun _ _ _ h => h) (Or.inl ⟨by rfl, ?_⟩) (by assumption) ?_
                  rotate_left
                  · intro w hSw; (try dsimp only at hSw); go_simp; try with_reducible rfl
                  try simp only [Act.put, List.getElem_toArray, List.getElem_cons_succ, List.getElem_cons_zero, List.setIfInBounds_toArray, List.set_cons_zero, List.set_cons_succ]
                  refine wpAnyS_one (i := 18) rfl (by kernel_rfl) (fun K hK => ?_)
                  go_simp; go_at_call 19; refine (has17_any al L cl lost z _ HL.out (by omega) HNL.out).mono ?_; rintro e7 w7 ⟨rfl, rfl⟩; rw [HZL.out]
                  refine hK.out _ _ (fun _ => hHeld) (fun hH => ?_)
                  have hHeld := hH rfl
                  clear hK K hH
                  try simp only [Act.put, List.getElem_toArray, List.getElem_cons_succ, List.getElem_cons_zero, List.setIfInBounds_toArray, List.set_cons_zero, List.set_cons_succ]
                  refine wpAnyS_take (i := 19) (v := ?_) rfl (by kernel_rfl) (by kernel_rfl) (by kernel_rfl) (by kernel_rfl) (fun _ _ _ h => h) (Or.inl ⟨by rfl, ?_⟩) (by assumption) ?_
                  rotate_left
                  · intro w hSw; (try dsimp only at hSw); go_simp; try with_reducible rfl
                  try simp only [Act.put, List.getElem_toArray, List.getElem_cons_succ, List.getElem_cons_zero, List.setIfInBounds_toArray, List.set_cons_zero, List.set_cons_succ]
                  refine wpAnyS_done (by kernel_rfl) ?_ _
                  clear hHeld q2 q3 z0
                  go_wp2_with fail
                  rw [← e5]
                  go_roundg (n - (j2 + 1))
                  case rel => exact ⟨j2 + 1, by go_num, by omega, by omega, HSD.out⟩
                  case measure => omega
                · have hin2 : ¬ (j2 : Int) < (n : Int) := by omega
                  clear hjl hky
                  go_wp2_with fail
                  refine (works17_any _).mono ?_
                  rintro e8 w8 ⟨rfl, hb8⟩
                  go_wp2_with fail
                  go_ret
                  exact ⟨rfl, bw_below' HSI.out.below hb8⟩
end Go.Proofs.YtgicljeedegncaaGreat
