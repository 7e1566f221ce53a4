/-
  The statements of layer 17: SpaceBehind. Printed by wip/gensb.py.
-/
import Derived.Test.YtgicljeedegncaaGreatSpRunX
namespace Go.Proofs.YtgicljeedegncaaGreat
set_option linter.unusedSimpArgs false
set_option linter.unusedVariables false
open Go.RowKit

theorem at_law (great T : Int) : ∀ qs : List PK, (∀ q ∈ qs, 0 ≤ q.t ∧ q.t ≤ 1000000000000) → (atF great T qs = -1 ∧ ∀ q ∈ qs, lostF great T q = false → ¬ q.n ≤ great) ∨ ∃ q ∈ qs, lostF great T q = false ∧ q.n ≤ great ∧ atF great T qs = q.t + 1000000 := by
  intro qs
  obtain ⟨rs, rfl⟩ : ∃ rs, qs = rs.reverse := ⟨qs.reverse, by simp⟩
  induction rs with
  | nil => intro _; exact .inl ⟨rfl, by simp⟩
  | cons q rs ih =>
    intro ht
    rw [List.reverse_cons] at ht ⊢
    have hq := ht q (by simp)
    have hd : dueF q = q.t + 1000000 := by unfold dueF; rw [if_neg (by omega)]
    have ih := ih (fun x hx => ht x (by simp at hx ⊢; exact .inl hx))
    rw [atF_snoc]
    by_cases hl : lostF great T q = true
    · rw [if_pos hl]
      rcases ih with ⟨h1, h2⟩ | ⟨x, hx, h1, h2, h3⟩
      · refine .inl ⟨h1, fun y hy hf => ?_⟩
        rcases List.mem_append.1 hy with hy | hy
        · exact h2 y hy hf
        · simp at hy
          subst hy
          rw [hl] at hf
          cases hf
      · exact .inr ⟨x, List.mem_append.2 (.inl hx), h1, h2, h3⟩
    · rw [if_neg hl]
      have hl : lostF great T q = false := by simpa using hl
      by_cases hc : q.n ≤ great ∧ (atF great T rs.reverse = -1 ∨ dueF q < atF great T rs.reverse)
      · rw [if_pos hc]
        exact .inr ⟨q, by simp, hl, hc.1, hd⟩
      · rw [if_neg hc]
        rcases ih with ⟨h1, h2⟩ | ⟨x, hx, h1, h2, h3⟩
        · refine .inl ⟨h1, fun y hy hf => ?_⟩
          rcases List.mem_append.1 hy with hy | hy
          · exact h2 y hy hf
          · simp at hy
            subst hy
            exact fun h => hc ⟨h, .inl h1⟩
        · exact .inr ⟨x, List.mem_append.2 (.inl hx), h1, h2, h3⟩
theorem behind_no {great T : Int} {q : PK} (h : lostF great T q = false) : ¬ q.n ≤ great - 3 := by
  intro hq
  unfold lostF lostB at h
  simp at h
  have := h (by omega)
  omega
/-- What is left has no packet three numbers behind; what its loss time is. -/
theorem behind_law {s : SpSt} {T : Int} (ht : ∀ p ∈ s.ps, 0 ≤ p.time ∧ p.time ≤ T) (hT : T ≤ 1000000000000) :
    (∀ p ∈ (lostSt s T).ps, ¬ p.num ≤ s.great - 3) ∧ (((lostSt s T).loss = -1 ∧ ∀ p ∈ (lostSt s T).ps, s.great < p.num) ∨
      (T < (lostSt s T).loss ∧ (lostSt s T).loss ≤ 1000001000000 ∧ 0 < (((lostSt s T).ps.map toPK).filter (lostF s.great (lostSt s T).loss)).length)) := by
  have hmem : ∀ p ∈ (lostSt s T).ps, p ∈ s.ps ∧ lostF s.great T (toPK p) = false := fun p hp => by
    obtain ⟨h1, h2⟩ := List.mem_filter.1 hp
    exact ⟨h1, by simpa using h2⟩
  refine ⟨fun p hp => behind_no (hmem p hp).2, ?_⟩
  have hq : ∀ q ∈ s.ps.map toPK, 0 ≤ q.t ∧ q.t ≤ 1000000000000 := fun q hq => by
    obtain ⟨p, hp, rfl⟩ := List.mem_map.1 hq
    have := ht p hp
    show 0 ≤ p.time ∧ p.time ≤ _
    omega
  rcases at_law s.great T (s.ps.map toPK) hq with ⟨h1, h2⟩ | ⟨q, hq1, h1, h2, h3⟩
  · refine .inl ⟨h1, fun p hp => ?_⟩
    have := h2 (toPK p) (List.mem_map.2 ⟨p, (hmem p hp).1, rfl⟩) (hmem p hp).2
    have e : (toPK p).n = p.num := rfl
    omega
  · right
    have hl : (lostSt s T).loss = q.t + 1000000 := h3
    rw [hl]
    obtain ⟨p, hp, rfl⟩ := List.mem_map.1 hq1
    have hb := hq (toPK p) hq1
    have hnl : T < (toPK p).t + 1000000 := by
      unfold lostF lostB at h1
      simp at h1
      have := h1 h2
      omega
    refine ⟨hnl, by omega, List.length_pos_of_mem (a := toPK p) (List.mem_filter.2 ⟨List.mem_map.2 ⟨p, List.mem_filter.2 ⟨hp, by rw [h1]; rfl⟩, rfl⟩, ?_⟩)⟩
    show lostF s.great ((toPK p).t + 1000000) (toPK p) = true
    unfold lostF lostB
    rw [Bool.and_eq_true, Bool.or_eq_true, decide_eq_true_iff, decide_eq_true_iff, decide_eq_true_iff]
    exact ⟨h2, .inr (Int.le_refl _)⟩
theorem rowsk_below {w w' : World} {a : Option Addr} {len : Nat} {ks : List FK} (h : RowsK w a len ks) (hb : Below w.heap.size w w') : RowsK w' a len ks := by
  refine ⟨h.1, fun hl => ?_⟩
  obtain ⟨xb, xo, ha, hlt, hc⟩ := h.2 hl
  refine ⟨xb, xo, ha, Nat.lt_of_lt_of_le hlt hb.size, fun i hi j k hk => ?_⟩
  rw [hb.cell (p := ⟨xb, _, none⟩) hlt]
  exact hc i hi j k hk
/-- All: the packets as a row. -/
theorem all17_any (f : Ft) (s : SpSt) (w : World) (h : IsSp w f s) : Calls Tryz.prog 14 #[.pointer (some ⟨f.b, 0, none⟩)] w fun e w' => ∃ a c, e = .returned (.slice a s.ps.length c) ∧ PksAt w' a (s.ps.map toPK) ∧ s.ps.length ≤ c ∧ (∀ k o, a = some ⟨k, o, none⟩ → w.heap.size ≤ k ∧ k < w'.heap.size) ∧ Below w.heap.size w w' := by
  refine (spall_any f s w h).mono ?_
  rintro e w' ⟨v, rfl, hown, hb⟩
  obtain ⟨a, c, rfl⟩ := own_slice' hown
  rw [← pkcs_toPK] at hown
  obtain ⟨h1, h2, h3⟩ := own_pk3 (by simp) hown (fun p hp => by
    obtain ⟨q, hq, rfl⟩ := List.mem_map.1 hp
    exact toPK_small (h.log.may q hq))
  exact ⟨a, c, rfl, h1, h2, h3, hb⟩
set_option maxRecDepth 100000 in
set_option maxHeartbeats 8000000 in
theorem behind_any (room : Int) (a : Option Addr) (len cap : Nat) (w : World) (hw : RowsK w a len [some .i64, some .i64, some .i64, some .i64, some .i64]) (hr0 : -9223372036854775808 ≤ room) (hr1 : room ≤ 9223372036854775807) :
    Calls Tryz.prog 3 #[.int .i64 room, .slice a len cap] w fun e w' => e = .returned (.bool true) ∧ Below w.heap.size w w' := by
  obtain ⟨rm, hrm⟩ : ∃ rm : Nat, room % 40 = rm := ⟨(room % 40).toNat, by have := Int.emod_nonneg room (show (40 : Int) ≠ 0 by omega); omega⟩
  have hrm2 : rm < 40 := by have := Int.emod_lt_of_pos room (show (0 : Int) < 40 by omega); omega
  have BR := hide (fun W => bring_any room 40 W (by omega) (by omega) hr0 hr1)
  rw [hrm] at BR
  clear hrm
  have HN := hide (fun W => spnew_ok (rm + 1) W (by omega) (by omega))
  rw [show ((rm + 1 : Nat) : Int) = 1 + (rm : Int) by omega] at HN
  have HRW := hide hw
  clear hw
  go_enter Tryz.func3, Tryz.ntmps3
  go_wp2_with fail
  refine (BR.out _).mono ?_
  rintro e0 w0 ⟨rfl, rfl⟩
  go_wp2_with fail
  refine (HN.out _).mono ?_
  rintro e1 w1 ⟨f1, rfl, hs1, hn1, hb1⟩
  have HS1 := hide (run_start hs1 hn1 hb1)
  clear hs1 hn1 hb1 BR HN
  go_wp2_with fail
  go_loopg [8] 60 (fun kx s8 wr => ∃ (i : Nat) (f : Ft) (s : SpSt) (vs va vl : Value) (sent acked lost : List Int) (now : Int), s8 = .int .i64 i ∧ i ≤ 60 ∧ 60 - i ≤ kx ∧ RunS w wr w1.heap.size [] i (rm + 1) f s vs va vl sent acked lost now)
  case atStart => exact ⟨0, _, _, _, _, _, _, _, _, _, rfl, by omega, by omega, HS1.out⟩
  case round =>
    clear HS1
    obtain ⟨i, f, s, vs, va, vl, sent, acked, lost, now, rfl, hi, hkx, hS⟩ := hrel
    have HS := hide hS
    have hp0 := hS.at_.blk.cell 0
    clear hS
    go_upto_region 6 with (fail)
    go_cut [34] (fun s34 wx => s34 = .bool (decide (i < len ∧ i < 60)) ∧ wx = wr)
    case first =>
      by_cases hlt : i < len
      · have hin : (i : Int) < (len : Int) := by omega
        by_cases h6 : i < 60
        · have hin6 : (i : Int) < 60 := by omega
          go_wp2_with fail
          go_meet
          exact ⟨by rw [decide_eq_true ⟨hlt, h6⟩], rfl⟩
        · have hin6 : ¬ (i : Int) < 60 := by omega
          go_wp2_with fail
          go_meet
          exact ⟨by rw [decide_eq_false (fun h => h6 h.2)], rfl⟩
      · have hin : ¬ (i : Int) < (len : Int) := by omega
        go_wp2_with fail
        go_meet
        exact ⟨by rw [decide_eq_false (fun h => hlt h.1)], rfl⟩
    case rest =>
      obtain ⟨rfl, rfl⟩ := hcut
      by_cases hgo : i < len ∧ i < 60
      · rw [decide_eq_true hgo]
        have hin : (i : Int) < (len : Int) := by omega
        have hi0 : (0 : Int) ≤ (i : Int) := by omega
        obtain ⟨xb, xo, kd, af, x0, x1, x2, rfl, ⟨z0, z1, z2, z3, z4⟩, ⟨b0, b1⟩, ⟨b2, b3⟩, ⟨b4, b5⟩, ⟨b6, b7⟩, ⟨b8, b9⟩⟩ := row_at HRW.out hgo.1 HS.out.below
        have HC := hide (step17_any kd af x0 x1 x2 HS.out (by omega) b0 b1 b2 b3 b4 b5 b6 b7 b8 b9)
        clear b0 b1 b2 b3 b4 b5 b6 b7 b8 b9
        go_wp2_with fail
        refine HC.out.mono ?_
        rintro e2 w2 ⟨rfl, f', s', vs', va', vl', sent', acked', lost', now', hS', _⟩
        go_wp2_with fail
        go_roundg (60 - (i + 1))
        case rel => exact ⟨i + 1, f', s', vs', va', vl', sent', acked', lost', now', by go_num, by omega, by omega, hS'⟩
        case measure => omega
      · rw [decide_eq_false hgo]
        clear hgo hkx
        go_wp2_with fail
        have g0 : -1 ≤ s.great ∧ s.great ≤ 9007199254740991 := by
          have h1 := HS.out.ok.last
          rcases HS.out.ok.great with h | h
          · omega
          · have := HS.out.ok.bnd _ h
            omega
        have HG1 := hide (spgreat_any f s wc HS.out.sp)
        refine HG1.out.mono ?_
        rintro e3 w3 ⟨rfl, hb3⟩
        have HS3 := hide (HS.out.later hb3)
        have p3 := HS3.out.at_.blk.cell 0
        clear HS HG1 hp0 hb3
        go_wp2_with fail
        refine (step17_lose 5 0 0 0 0 HS3.out.at_ HS3.out.ok (by omega) (by omega) (by omega) (by omega) (by omega) (by omega) (by omega) (by omega) (by omega) (by omega) (by omega) (by decide)).mono ?_
        rintro e4 w4 ⟨rfl, f4, vl4, lost4, now4, hnow, hat4, hok4⟩
        have hnow2 : now4 = now := by rw [hnow]; simp
        subst hnow2
        have hbl := behind_law HS3.out.ok.time (by have := HS3.out.ok.now0; omega)
        have HA4 := hide (hat4 : RunAt w w4 f4 (lostSt s now4) w1.heap.size vs va vl4 sent acked lost4 now4)
        have HO4 := hide hok4
        have p4 := hat4.blk.cell 0
        clear hat4 hok4 p3 hnow
        go_wp2_with fail
        refine (all17_any f4 _ w4 HA4.out.sp.sp).mono ?_
        rintro e5 w5 ⟨a5, c5, rfl, hP5, hc5, hf5, hb5⟩
        have HA5 := hide (HA4.out.later hb5)
        have p5 := HA5.out.blk.cell 0
        clear HA4 p4
        go_wp2_with fail
        refine (spgreat_any f4 _ w5 HA5.out.sp.sp).mono ?_
        rintro e6 w6 ⟨rfl, hb6⟩
        have HA6 := hide (HA5.out.later hb6)
        have p6 := HA6.out.blk.cell 0
        have HP6 := hide (hP5.below hb6 (Nat.le_refl _))
        have hgr : (lostSt s now4).great = s.great := rfl
        rw [hgr]
        obtain ⟨gr, hgre⟩ : ∃ g, s.great = g := ⟨_, rfl⟩
        rw [hgre] at g0 hbl ⊢
        obtain ⟨R, hR⟩ : ∃ R, lostSt s now4 = R := ⟨_, rfl⟩
        have hgR : R.great = gr := by rw [← hR]; exact hgre
        have HGR := hide hgR
        clear hgR
        rw [hR] at HA6 HO4 HP6 hbl hc5 ⊢
        obtain ⟨n, hn⟩ : ∃ n, R.ps.length = n := ⟨_, rfl⟩
        have hN : n ≤ 61 := by
          have := HO4.out.cnt
          have := HO4.out.slen
          omega
        rw [hn] at hc5 ⊢
        have HBL := hide hbl
        have HN := hide hn
        clear HA5 p5 hP5 hgr hgre hR hb5 hb6 hbl hn hf5 HS3
        go_wp2_with fail
        go_loopg [11] n (fun kx s11 wr => ∃ (i : Nat), s11 = .int .i64 i ∧ i ≤ n ∧ n - i ≤ kx ∧ wr = w6)
        case atStart => exact ⟨0, rfl, by omega, by omega, rfl⟩
        case round =>
          obtain ⟨j, rfl, hj, hkj, rfl⟩ := hrel
          by_cases hjl : j < n
          · have hin2 : (j : Int) < (n : Int) := by omega
            obtain ⟨p, hp⟩ : ∃ p, R.ps[j]? = some p := ⟨_, List.getElem?_eq_getElem (by rw [HN.out]; exact hjl)⟩
            obtain ⟨k, o, rfl, hk, z0, z1, z2, z3, z4, z5⟩ := HP6.out.cells (i := j) (p := toPK p) (by rw [List.getElem?_map, hp]; rfl)
            have hle := HBL.out.1 p (List.mem_of_getElem? hp)
            have e : (toPK p).n = p.num := rfl
            rw [e] at z0
            clear hp z1 z2 z3 z4 z5
            go_wp2_with fail
            go_roundg (n - (j + 1))
            case rel => exact ⟨j + 1, by go_num, by omega, by omega, rfl⟩
            case measure => omega
          · have hin2 : ¬ (j : Int) < (n : Int) := by omega
            clear hjl hkj
            go_wp2_with fail
            refine (sploss_any f4 _ wr HA6.out.sp.sp).mono ?_
            rintro e7 w7 ⟨rfl, hb7⟩
            rcases HBL.out.2 with ⟨h1, h2⟩ | ⟨h1, h2, h3⟩
            · rw [h1]
              by_cases hz : n = 0
              · subst hz
                go_wp2_with fail
                refine (works17_any _).mono ?_
                rintro e8 w8 ⟨rfl, hb8⟩
                go_wp2_with fail
                go_ret
                exact ⟨rfl, bw_below' (bw_below' HA6.out.sp.below hb7) hb8⟩
              · have hz2 : ¬ (n : Int) = 0 := by omega
                obtain ⟨p, hp⟩ : ∃ p, R.ps[0]? = some p := ⟨_, List.getElem?_eq_getElem (by rw [HN.out]; omega)⟩
                have HP7 := hide (HP6.out.below hb7 (Nat.le_refl _))
                obtain ⟨k, o, rfl, hk, z0, z1, z2, z3, z4, z5⟩ := HP7.out.cells (i := 0) (p := toPK p) (by rw [List.getElem?_map, hp]; rfl)
                have hgt := h2 p (List.mem_of_getElem? hp)
                have e : (toPK p).n = p.num := rfl
                rw [e, Nat.zero_mul, Nat.add_zero] at z0
                have h0n : (0 : Int) < (n : Int) := by omega
                clear hp z1 z2 z3 z4 z5 h2
                go_wp2_with fail
                refine (works17_any _).mono ?_
                rintro e8 w8 ⟨rfl, hb8⟩
                go_wp2_with fail
                go_ret
                exact ⟨rfl, bw_below' (bw_below' HA6.out.sp.below hb7) hb8⟩
            · have hnow0 := HO4.out.now0
              have hne : ¬ R.loss = -1 := by omega
              obtain ⟨at_, hat⟩ : ∃ z, R.loss = z := ⟨_, rfl⟩
              rw [hat] at h1 h2 h3 hne ⊢
              obtain ⟨m, hm⟩ : ∃ m, ((R.ps.map toPK).filter (lostF gr at_)).length = m := ⟨_, rfl⟩
              rw [hm] at h3
              have hm0 : (0 : Int) < (m : Int) := by omega
              have HM := hide hm
              have HA7 := hide (HA6.out.later hb7)
              have HLO := hide (fun W h => splose_any f4 R at_ W h (by rw [HGR.out]; omega) (by rw [HGR.out]; omega) (by omega) (by omega))
              rw [HGR.out] at HLO
              clear hm hat p6
              go_wp2_with fail
              refine wp_region_S (fun w' => w'.cell? ⟨w1.heap.size, 0, none⟩ = some (.pointer (some ⟨f4.b, 0, none⟩))) 1000 (by kernel_rfl) (by exact HA7.out.blk.cell 0) (fun hHeld => ?_)
              refine wpAnyS_take (i := 0) (v := ?_) rfl (by kernel_rfl) (by kernel_rfl) (by kernel_rfl) (by kernel_rfl) (fun _ _ _ h => h) (Or.inl ⟨by rfl, ?_⟩) (by assumption) ?_
              rotate_left
              · intro w hSw; (try dsimp only at hSw); go_simp; try with_reducible rfl
              try simp only [Act.put, List.getElem_toArray, List.getElem_cons_succ, List.getElem_cons_zero, List.setIfInBounds_toArray, List.set_cons_zero, List.set_cons_succ]
              refine wpAnyS_take (i := 1) (v := ?_) rfl (by kernel_rfl) (by kernel_rfl) (by kernel_rfl) (by kernel_rfl) (fun _ _ _ h => h) (Or.inl ⟨by rfl, ?_⟩) (by assumption) ?_
              rotate_left
              · intro w hSw; (try dsimp only at hSw); go_simp; try with_reducible rfl
              try simp only [Act.put, List.getElem_toArray, List.getElem_cons_succ, List.getElem_cons_zero, List.setIfInBounds_toArray, List.set_cons_zero, List.set_cons_succ]
              refine wpAnyS_take (i := 2) (v := ?_) rfl (by kernel_rfl) (by kernel_rfl) (by kernel_rfl) (by kernel_rfl) (fun _ _ _ h => h) (Or.inl ⟨by rfl, ?_⟩) (by assumption) ?_
              rotate_left
              · intro w hSw; (try dsimp only at hSw); go_simp; try with_reducible rfl
              try simp only [Act.put, List.getElem_toArray, List.getElem_cons_succ, List.getElem_cons_zero, List.setIfInBounds_toArray, List.set_cons_zero, List.set_cons_succ]
              refine wpAnyS_take (i := 3) (v := ?_) rfl (by kernel_rfl) (by kernel_rfl) (by kernel_rfl) (by kernel_rfl) (fun _ _ _ h => h) (Or.inl ⟨by rfl, ?_⟩) (by assumption) ?_
              rotate_left
              · intro w hSw; (try dsimp only at hSw); go_simp; try with_reducible rfl
              try simp only [Act.put, List.getElem_toArray, List.getElem_cons_succ, List.getElem_cons_zero, List.setIfInBounds_toArray, List.set_cons_zero, List.set_cons_succ]
              refine wpAnyS_take (i := 4) (v := ?_) rfl (by kernel_rfl) (by kernel_rfl) (by kernel_rfl) (by kernel_rfl) (fun _ _ _ h => h) (Or.inl ⟨by rfl, ?_⟩) (by assumption) ?_
              rotate_left
              · intro w hSw; (try dsimp only at hSw); go_simp; try with_reducible rfl
              try simp only [Act.put, List.getElem_toArray, List.getElem_cons_succ, List.getElem_cons_zero, List.setIfInBounds_toArray, List.set_cons_zero, List.set_cons_succ]
              refine wpAnyS_one (i := 5) rfl (by kernel_rfl) (fun K hK => ?_)
              go_simp; go_at_call 18; refine (steady17_any _).mono ?_; rintro e8 w8 ⟨rfl, hb8⟩; have HA8 := hide ((HA7.out.later (Below.refl _ _).drew).later hb8)
              refine hK.out _ _ (fun _ => HA8.out.blk.cell 0) (fun hH => ?_)
              have hHeld := hH rfl
              clear hK K hH
              try simp only [Act.put, List.getElem_toArray, List.getElem_cons_succ, List.getElem_cons_zero, List.setIfInBounds_toArray, List.set_cons_zero, List.set_cons_succ]
              refine wpAnyS_one (i := 6) rfl (by kernel_rfl) (fun K hK => ?_)
              go_simp; go_at_call 17; refine (HLO.out w8 HA8.out.sp.sp).mono ?_; rintro e9 w9 ⟨a9, c9, f9, rfl, hP9, hc9, hk9, hq9⟩; have HA9 := hide (HA8.out.step hq9); rw [HM.out]
              refine hK.out _ _ (fun _ => by rw [← hq9.b]; exact HA9.out.blk.cell 0) (fun hH => ?_)
              have hHeld := hH rfl
              clear hK K hH
              try simp only [Act.put, List.getElem_toArray, List.getElem_cons_succ, List.getElem_cons_zero, List.setIfInBounds_toArray, List.set_cons_zero, List.set_cons_succ]
              refine wpAnyS_take (i := 7) (v := ?_) rfl (by kernel_rfl) (by kernel_rfl) (by kernel_rfl) (by kernel_rfl) (fun _ _ _ h => h) (Or.inl ⟨by rfl, ?_⟩) (by assumption) ?_
              rotate_left
              · intro w hSw; (try dsimp only at hSw); go_simp; try with_reducible rfl
              try simp only [Act.put, List.getElem_toArray, List.getElem_cons_succ, List.getElem_cons_zero, List.setIfInBounds_toArray, List.set_cons_zero, List.set_cons_succ]
              refine wpAnyS_take (i := 8) (v := ?_) rfl (by kernel_rfl) (by kernel_rfl) (by kernel_rfl) (by kernel_rfl) (fun _ _ _ h => h) (Or.inl ⟨by rfl, ?_⟩) (by assumption) ?_
              rotate_left
              · intro w hSw; (try dsimp only at hSw); go_simp; try with_reducible rfl
              try simp only [Act.put, List.getElem_toArray, List.getElem_cons_succ, List.getElem_cons_zero, List.setIfInBounds_toArray, List.set_cons_zero, List.set_cons_succ]
              refine wpAnyS_take (i := 9) (v := ?_) rfl (by kernel_rfl) (by kernel_rfl) (by kernel_rfl) (by kernel_rfl) (fun _ _ _ h => h) (Or.inl ⟨by rfl, ?_⟩) (by assumption) ?_
              rotate_left
              · intro w hSw; (try dsimp only at hSw); go_simp; try with_reducible rfl
              try simp only [Act.put, List.getElem_toArray, List.getElem_cons_succ, List.getElem_cons_zero, List.setIfInBounds_toArray, List.set_cons_zero, List.set_cons_succ]
              refine wpAnyS_take (i := 10) (v := ?_) rfl (by kernel_rfl) (by kernel_rfl) (by kernel_rfl) (by kernel_rfl) (fun _ _ _ h => h) (Or.inl ⟨by rfl, ?_⟩) (by assumption) ?_
              rotate_left
              · intro w hSw; (try dsimp only at hSw); go_simp; try with_reducible rfl
              try simp only [Act.put, List.getElem_toArray, List.getElem_cons_succ, List.getElem_cons_zero, List.setIfInBounds_toArray, List.set_cons_zero, List.set_cons_succ]
              refine wpAnyS_take (i := 11) (v := ?_) rfl (by kernel_rfl) (by kernel_rfl) (by kernel_rfl) (by kernel_rfl) (fun _ _ _ h => h) (Or.inl ⟨by rfl, ?_⟩) (by assumption) ?_
              rotate_left
              · intro w hSw; (try dsimp only at hSw); go_simp; try with_reducible rfl
              try simp only [Act.put, List.getElem_toArray, List.getElem_cons_succ, List.getElem_cons_zero, List.setIfInBounds_toArray, List.set_cons_zero, List.set_cons_succ]
              refine wpAnyS_done (by kernel_rfl) ?_ _
              have p9 := HA9.out.blk.cell 5
              go_wp2_with fail
              refine (works17_any _).mono ?_
              rintro e10 w10 ⟨rfl, hb10⟩
              go_wp2_with fail
              go_ret
              exact ⟨rfl, bw_below' HA9.out.sp.below hb10⟩
end Go.Proofs.YtgicljeedegncaaGreat
