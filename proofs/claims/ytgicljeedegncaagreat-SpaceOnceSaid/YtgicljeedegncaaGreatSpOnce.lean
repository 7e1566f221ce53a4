/-
  The statements of layer 17: SpaceOnce. Printed by wip/genso.py.
-/
import Derived.Test.YtgicljeedegncaaGreatSpBehind
namespace Go.Proofs.YtgicljeedegncaaGreat
set_option linter.unusedSimpArgs false
set_option linter.unusedVariables false
open Go.RowKit

theorem RunAt.numsA [Kept] {w W : World} {f : Ft} {s : SpSt} {r n c : Nat} {a : Option Addr} {vs vl : Value} {sent acked lost : List Int} {now : Int} (h : RunAt w W f s r vs (.slice a n c) vl sent acked lost now) : NumsAt W a acked := by
  obtain ⟨_, ⟨a', c', e, hn⟩, _⟩ := h.forms
  cases e
  exact hn
theorem RunAt.numsL [Kept] {w W : World} {f : Ft} {s : SpSt} {r n c : Nat} {a : Option Addr} {vs va : Value} {sent acked lost : List Int} {now : Int} (h : RunAt w W f s r vs va (.slice a n c) sent acked lost now) : NumsAt W a lost := by
  obtain ⟨_, _, ⟨a', c', e, hn⟩⟩ := h.forms
  cases e
  exact hn
set_option maxRecDepth 100000 in
set_option maxHeartbeats 8000000 in
theorem once17_any (room : Int) (a : Option Addr) (len cap : Nat) (w : World) (hw : RowsK w a len [some .i64, some .i64, some .i64, some .i64, some .i64]) (hr0 : -9223372036854775808 ≤ room) (hr1 : room ≤ 9223372036854775807) :
    Calls Tryz.prog 6 #[.int .i64 room, .slice a len cap] w fun e w' => e = .returned (.bool true) ∧ Below w.heap.size w w' := by
  obtain ⟨rm, hrm⟩ : ∃ rm : Nat, room % 40 = rm := ⟨(room % 40).toNat, by have := Int.emod_nonneg room (show (40 : Int) ≠ 0 by omega); omega⟩
  have hrm2 : rm < 40 := by have := Int.emod_lt_of_pos room (show (0 : Int) < 40 by omega); omega
  have BR := hide (fun W => bring_any room 40 W (by omega) (by omega) hr0 hr1)
  rw [hrm] at BR
  clear hrm
  have HN := hide (fun W => spnew_ok (rm + 1) W (by omega) (by omega))
  rw [show ((rm + 1 : Nat) : Int) = 1 + (rm : Int) by omega] at HN
  have HRW0 := hide hw
  clear hw
  go_enter Tryz.func6, Tryz.ntmps6
  go_wp2_with fail
  refine (works17_any _).mono ?_
  rintro ew wo ⟨rfl, hbw⟩
  have HRW := hide (rowsk_below HRW0.out hbw)
  have HBW := hide hbw
  clear HRW0 hbw
  go_wp2_with fail
  refine (BR.out _).mono ?_
  rintro e0 w0 ⟨rfl, rfl⟩
  go_wp2_with fail
  refine (HN.out _).mono ?_
  rintro e1 w1 ⟨f1, rfl, hs1, hn1, hb1⟩
  go_wp2_with fail
  have HS1 := hide (run_start hs1 hn1 hb1)
  clear hs1 hn1 hb1 BR HN
  go_wp2_with fail
  go_loopg [8] 60 (fun kx s8 wr => ∃ (i : Nat) (f : Ft) (s : SpSt) (vs va vl : Value) (sent acked lost : List Int) (now : Int), s8 = .int .i64 i ∧ i ≤ 60 ∧ 60 - i ≤ kx ∧ RunS wo wr w1.heap.size [] i (rm + 1) f s vs va vl sent acked lost now)
  case atStart => exact ⟨0, _, _, _, _, _, _, _, _, _, rfl, by omega, by omega, HS1.out⟩
  case round =>
    clear HS1
    obtain ⟨i, f, s, vs, va, vl, sent, acked, lost, now, rfl, hi, hkx, hS⟩ := hrel
    have HS := hide hS
    have hp0 := hS.at_.blk.cell 0
    clear hS
    go_upto_region 8 with (fail)
    go_cut [34] (fun sg wx => sg = .bool (decide (i < len ∧ i < 60)) ∧ wx = wr)
    case first =>
      by_cases hlt : i < len
      · have hin : (i : Int) < (len : Int) := by omega
        by_cases h6 : i < 60
        · have hin6 : (i : Int) < 60 := by omega
          go_wp2_with fail
          go_meet
          exact ⟨by rw [decide_eq_true ⟨hlt, h6⟩], rfl⟩
        · have hin6 : ¬ (i : Int) < 60 := by omega
          go_wp2_with fail
          go_meet
          exact ⟨by rw [decide_eq_false (fun h => h6 h.2)], rfl⟩
      · have hin : ¬ (i : Int) < (len : Int) := by omega
        go_wp2_with fail
        go_meet
        exact ⟨by rw [decide_eq_false (fun h => hlt h.1)], rfl⟩
    case rest =>
      obtain ⟨rfl, rfl⟩ := hcut
      by_cases hgo : i < len ∧ i < 60
      · rw [decide_eq_true hgo]
        have hin : (i : Int) < (len : Int) := by omega
        have hi0 : (0 : Int) ≤ (i : Int) := by omega
        obtain ⟨xb, xo, kd, af, x0, x1, x2, rfl, ⟨z0, z1, z2, z3, z4⟩, ⟨b0, b1⟩, ⟨b2, b3⟩, ⟨b4, b5⟩, ⟨b6, b7⟩, ⟨b8, b9⟩⟩ := row_at HRW.out hgo.1 HS.out.below
        have HC := hide (step17_any kd af x0 x1 x2 HS.out (by omega) b0 b1 b2 b3 b4 b5 b6 b7 b8 b9)
        clear b0 b1 b2 b3 b4 b5 b6 b7 b8 b9
        go_wp2_with fail
        refine HC.out.mono ?_
        rintro e2 w2 ⟨rfl, f2, s2, vs2, va2, vl2, sent2, acked2, lost2, now2, hS2, _⟩
        have HS2 := hide hS2
        have p2 := hS2.at_.blk.cell 0
        have hi60 : i < 60 := hgo.2
        clear hS2 z0 z1 z2 z3 z4 HS HC hp0 hgo
        go_wp2_with fail
        refine (all17_any f2 s2 w2 HS2.out.sp).mono ?_
        rintro e5 w5 ⟨a5, c5, rfl, hP5, hc5, hf5, hb5⟩
        have HS5 := hide (HS2.out.later hb5)
        have HMAY := hide HS5.out.sp.log.may
        have HP5 := hide hP5
        obtain ⟨n, hn⟩ : ∃ n, s2.ps.length = n := ⟨_, rfl⟩
        have hn2 : n ≤ 100 := by
          have := HS5.out.ok.cnt
          have := HS5.out.ok.slen
          omega
        rw [hn] at hc5 ⊢
        have HN2 := hide hn
        obtain ⟨⟨as5, cs5, hvs5, _⟩, ⟨aa5, ca5, hva5, _⟩, ⟨al5, cl5, hvl5, _⟩⟩ := HS5.out.at_.forms
        have hcnt := HS5.out.ok.cnt
        have hslen := HS5.out.ok.slen
        obtain ⟨A, hA⟩ : ∃ A, acked2.length = A := ⟨_, rfl⟩
        obtain ⟨L, hL⟩ : ∃ L, lost2.length = L := ⟨_, rfl⟩
        obtain ⟨S, hSl⟩ : ∃ S, sent2.length = S := ⟨_, rfl⟩
        rw [hSl] at hvs5
        rw [hA] at hva5
        rw [hL] at hvl5
        subst hvs5
        subst hva5
        subst hvl5
        rw [hn, hA, hL, hSl] at hcnt
        have hcnt2 : n + A + L = S := by simpa using hcnt
        have hS100 : S ≤ 100 := by omega
        have HA := hide hA
        have HL := hide hL
        clear hcnt hslen hA hL hSl hn hP5 hb5 hf5 HS2 p2
        go_wp2_with fail
        go_loopg [10, 11, 12] n (fun ky s10 s11 s12 wi => ∃ k : Nat, s10 = .int .i64 (flightOf (s2.ps.take k)) ∧ s11 = .int .i64 (elicOf (s2.ps.take k)) ∧ s12 = .int .i64 k ∧ k ≤ n ∧ n - k ≤ ky ∧ RunS wo wi w1.heap.size [] (i + 1) (rm + 1) f2 s2 (.slice as5 S cs5) (.slice aa5 A ca5) (.slice al5 L cl5) sent2 acked2 lost2 now2 ∧ PksAt wi a5 (s2.ps.map toPK))
        case atStart => exact ⟨0, rfl, rfl, rfl, by omega, by omega, HS5.out, HP5.out⟩
        case round =>
          clear HS5 HP5
          obtain ⟨k, rfl, rfl, rfl, hk, hky, hSI, hPI⟩ := hrel
          have HSI := hide hSI
          have HPI := hide hPI
          clear hSI hPI
          by_cases hkl : k < n
          · have hin2 : (k : Int) < (n : Int) := by omega
            have hk0 : (0 : Int) ≤ (k : Int) := by omega
            obtain ⟨p, hp⟩ : ∃ p, s2.ps[k]? = some p := ⟨_, List.getElem?_eq_getElem (by rw [HN2.out]; exact hkl)⟩
            have hpm := List.mem_of_getElem? hp
            have hmay := HMAY.out p hpm
            have hhere := HSI.out.ok.here p hpm
            have hfb := flight_bounds (s2.ps.take k) (fun x hx => HMAY.out x (List.mem_of_mem_take hx))
            have heb := elic_bounds (s2.ps.take k)
            have htk : s2.ps.take (k + 1) = s2.ps.take k ++ [p] := by rw [List.take_add_one, hp]; rfl
            have hfs : flightOf (s2.ps.take (k + 1)) = flightOf (s2.ps.take k) + (if p.fl then p.size else 0) := by rw [htk, flightOf_append]; simp [flightOf]
            have hes : elicOf (s2.ps.take (k + 1)) = elicOf (s2.ps.take k) + (if p.fl && p.el then 1 else 0) := by rw [htk, elicOf_append]; simp [elicOf]
            obtain ⟨F, hF⟩ : ∃ F, flightOf (s2.ps.take k) = F := ⟨_, rfl⟩
            obtain ⟨E, hE⟩ : ∃ E, elicOf (s2.ps.take k) = E := ⟨_, rfl⟩
            have hlt : (s2.ps.take k).length = k := by rw [List.length_take, HN2.out]; omega
            rw [hF] at hfs hfb ⊢
            rw [hE] at hes heb ⊢
            rw [hlt] at hfb heb
            obtain ⟨kb, o, rfl, hkb, z0, z1, z2, z3, z4, z5⟩ := HPI.out.cells (i := k) (p := toPK p) (by rw [List.getElem?_map, hp]; rfl)
            obtain ⟨pn, pt, pz, pe, pf, pc⟩ := p
            change _ = some (Value.int .i64 pn) at z0
            change _ = some (Value.int .i64 pz) at z2
            change _ = some (Value.bool pe) at z3
            change _ = some (Value.bool pf) at z4
            dsimp only at hfs hes hhere
            obtain ⟨_, _, _, _, hm3, hm4⟩ := hmay
            dsimp only at hm3 hm4
            have hacc : decide (pn ∈ acked2) = false := decide_eq_false hhere.2.1
            have hlos : decide (pn ∈ lost2) = false := decide_eq_false hhere.2.2.1
            have HFS := hide hfs
            have HES := hide hes
            have HXA := hide hacc
            have HXL := hide hlos
            clear hp hpm hhere htk hfs hes hF hE hlt z1 z5 hacc hlos
            go_upto_if 59 with (fail)
            go_cut [10] (fun s10 wx => s10 = Value.int .i64 (F + if pf then pz else 0) ∧ wx = wr)
            case first =>
              cases pf
              · go_wp2_with fail
                go_meet
                exact ⟨by simp, rfl⟩
              · go_wp2_with fail
                go_meet
                exact ⟨by go_num, rfl⟩
            case rest =>
              obtain ⟨rfl, rfl⟩ := hcut
              obtain ⟨F2, hF2⟩ : ∃ z, (F + if pf then pz else 0) = z := ⟨_, rfl⟩
              rw [hF2] at HFS ⊢
              clear hF2
              go_upto_region 19 with (fail)
              go_cut [78] (fun s78 wx => s78 = .bool (pf && pe) ∧ wx = wc)
              case first =>
                cases pf
                · go_wp2_with fail
                  go_meet
                  exact ⟨rfl, rfl⟩
                · go_wp2_with fail
                  go_meet
                  exact ⟨rfl, rfl⟩
              case rest =>
                obtain ⟨rfl, rfl⟩ := hcut
                obtain ⟨hb, hhb⟩ : ∃ b, (pf && pe) = b := ⟨_, rfl⟩
                rw [hhb] at HES ⊢
                clear z2 z3 z4
                go_upto_if 78 with (fail)
                go_cut [11] (fun s11 wx => s11 = Value.int .i64 (E + if hb then 1 else 0) ∧ wx = wc)
                case first =>
                  cases hb
                  · go_wp2_with fail
                    go_meet
                    exact ⟨by simp, rfl⟩
                  · go_wp2_with fail
                    go_meet
                    exact ⟨by go_num, rfl⟩
                case rest =>
                  obtain ⟨rfl, rfl⟩ := hcut
                  obtain ⟨E2, hE2⟩ : ∃ z, (E + if hb then 1 else 0) = z := ⟨_, rfl⟩
                  rw [hE2] at HES ⊢
                  clear hE2
                  obtain ⟨_, _, q2, q3, _, _⟩ := HSI.out.at_.four
                  have HSD := hide HSI.out.drew
                  have HPD := hide (HPI.out.below (Below.refl _ _).drew (Nat.le_refl _))
                  have HNA := hide HSD.out.at_.numsA
                  have HNL := hide HSD.out.at_.numsL
                  go_wp2_with fail
                  refine wp_region_S (fun w' => w'.cell? ⟨w1.heap.size, 2, none⟩ = some (.slice aa5 A ca5) ∧ w'.cell? ⟨w1.heap.size, 3, none⟩ = some (.slice al5 L cl5) ∧ w'.cell? ⟨kb, o + k * 6, none⟩ = some (.int .i64 pn)) 1000 (by kernel_rfl) (by exact ⟨q2, q3, z0⟩) (fun hHeld => ?_)
                  refine wpAnyS_take (i := 0) (v := ?_) rfl (by kernel_rfl) (by kernel_rfl) (by kernel_rfl) (by kernel_rfl) (fun _ _ _ h => h) (Or.inl ⟨by rfl, ?_⟩) (by assumption) ?_
                  rotate_left
                  · intro w hSw; (try dsimp only at hSw); go_simp; try with_reducible rfl
                  try simp only [Act.put, List.getElem_toArray, List.getElem_cons_succ, List.getElem_cons_zero, List.setIfInBounds_toArray, List.set_cons_zero, List.set_cons_succ]
                  refine wpAnyS_take (i := 1) (v := ?_) rfl (by kernel_rfl) (by kernel_rfl) (by kernel_rfl) (by kernel_rfl) (fun _ _ _ h => h) (Or.inl ⟨by rfl, ?_⟩) (by assumption) ?_
                  rotate_left
                  · intro w hSw; (try dsimp only at hSw); go_simp; try with_reducible rfl
                  try simp only [Act.put, List.getElem_toArray, List.getElem_cons_succ, List.getElem_cons_zero, List.setIfInBounds_toArray, List.set_cons_zero, List.set_cons_succ]
                  refine wpAnyS_take (i := 2) (v := ?_) rfl (by kernel_rfl) (by kernel_rfl) (by kernel_rfl) (by kernel_rfl) (fun _ _ _ h => h) (Or.inl ⟨by rfl, ?_⟩) (by assumption) ?_
                  rotate_left
                  · intro w hSw; (try dsimp only at hSw); go_simp; try with_reducible rfl
                  try simp only [Act.put, List.getElem_toArray, List.getElem_cons_succ, List.getElem_cons_zero, List.setIfInBounds_toArray, List.set_cons_zero, List.set_cons_succ]
                  refine wpAnyS_take (i := 3) (v := ?_) rfl (by kernel_rfl) (by kernel_rfl) (by kernel_rfl) (by kernel_rfl) (fun _ _ _ h => h) (Or.inl ⟨by rfl, ?_⟩) (by assumption) ?_
                  rotate_left
                  · intro w hSw; (try dsimp only at hSw); go_simp; try with_reducible rfl
                  try simp only [Act.put, List.getElem_toArray, List.getElem_cons_succ, List.getElem_cons_zero, List.setIfInBounds_toArray, List.set_cons_zero, List.set_cons_succ]
                  refine wpAnyS_take (i := 4) (v := ?_) rfl (by kernel_rfl) (by kernel_rfl) (by kernel_rfl) (by kernel_rfl) (fun _ _ _ h => h) (Or.inl ⟨by rfl, ?_⟩) (by assumption) ?_
                  rotate_left
                  · intro w hSw; (try dsimp only at hSw); go_simp; try with_reducible rfl
                  try simp only [Act.put, List.getElem_toArray, List.getElem_cons_succ, List.getElem_cons_zero, List.setIfInBounds_toArray, List.set_cons_zero, List.set_cons_succ]
                  refine wpAnyS_take (i := 5) (v := ?_) rfl (by kernel_rfl) (by kernel_rfl) (by kernel_rfl) (by kernel_rfl) (fun _ _ _ h => h) (Or.inl ⟨by rfl, ?_⟩) (by assumption) ?_
                  rotate_left
                  · intro w hSw; (try dsimp only at hSw); go_simp; try with_reducible rfl
                  try simp only [Act.put, List.getElem_toArray, List.getElem_cons_succ, List.getElem_cons_zero, List.setIfInBounds_toArray, List.set_cons_zero, List.set_cons_succ]
                  refine wpAnyS_take (i := 6) (v := ?_) rfl (by kernel_rfl) (by kernel_rfl) (by kernel_rfl) (by kernel_rfl) (fun _ _ _ h => h) (Or.inl ⟨by rfl, ?_⟩) (by assumption) ?_
                  rotate_left
                  · intro w hSw; (try dsimp only at hSw); go_simp; try with_reducible rfl
                  try simp only [Act.put, List.getElem_toArray, List.getElem_cons_succ, List.getElem_cons_zero, List.setIfInBounds_toArray, List.set_cons_zero, List.set_cons_succ]
                  refine wpAnyS_take (i := 7) (v := ?_) rfl (by kernel_rfl) (by kernel_rfl) (by kernel_rfl) (by kernel_rfl) (fun _ _ _ h => h) (Or.inl ⟨by rfl, ?_⟩) (by assumption) ?_
                  rotate_left
                  · intro w hSw; (try dsimp only at hSw); go_simp; try with_reducible rfl
                  try simp only [Act.put, List.getElem_toArray, List.getElem_cons_succ, List.getElem_cons_zero, List.setIfInBounds_toArray, List.set_cons_zero, List.set_cons_succ]
                  refine wpAnyS_take (i := 8) (v := ?_) rfl (by kernel_rfl) (by kernel_rfl) (by kernel_rfl) (by kernel_rfl) (fun _ _ _ h => h) (Or.inl ⟨by rfl, ?_⟩) (by assumption) ?_
                  rotate_left
                  · intro w hSw; (try dsimp only at hSw); go_simp; try with_reducible rfl
                  try simp only [Act.put, List.getElem_toArray, List.getElem_cons_succ, List.getElem_cons_zero, List.setIfInBounds_toArray, List.set_cons_zero, List.set_cons_succ]
                  refine wpAnyS_one (i := 9) rfl (by kernel_rfl) (fun K hK => ?_)
                  go_simp; go_at_call 19; refine (has17_any aa5 A ca5 acked2 pn _ HA.out (by omega) HNA.out).mono ?_; rintro e6 w6 ⟨rfl, rfl⟩; rw [HXA.out]
                  refine hK.out _ _ (fun _ => hHeld) (fun hH => ?_)
                  have hHeld := hH rfl
                  clear hK K hH
                  try simp only [Act.put, List.getElem_toArray, List.getElem_cons_succ, List.getElem_cons_zero, List.setIfInBounds_toArray, List.set_cons_zero, List.set_cons_succ]
                  refine wpAnyS_take (i := 10) (v := ?_) rfl (by kernel_rfl) (by kernel_rfl) (by kernel_rfl) (by kernel_rfl) (fun _ _ _ h => h) (Or.inl ⟨by rfl, ?_⟩) (by assumption) ?_
                  rotate_left
                  · intro w hSw; (try dsimp only at hSw); go_simp; try with_reducible rfl
                  try simp only [Act.put, List.getElem_toArray, List.getElem_cons_succ, List.getElem_cons_zero, List.setIfInBounds_toArray, List.set_cons_zero, List.set_cons_succ]
                  refine wpAnyS_take (i := 11) (v := ?_) rfl (by kernel_rfl) (by kernel_rfl) (by kernel_rfl) (by kernel_rfl) (fun _ _ _ h => h) (Or.inl ⟨by rfl, ?_⟩) (by assumption) ?_
                  rotate_left
                  · intro w hSw; (try dsimp only at hSw); go_simp; try with_reducible rfl
                  try simp only [Act.put, List.getElem_toArray, List.getElem_cons_succ, List.getElem_cons_zero, List.setIfInBounds_toArray, List.set_cons_zero, List.set_cons_succ]
                  refine wpAnyS_take (i := 12) (v := ?_) rfl (by kernel_rfl) (by kernel_rfl) (by kernel_rfl) (by kernel_rfl) (fun _ _ _ h => h) (Or.inl ⟨by rfl, ?_⟩) (by assumption) ?_
                  rotate_left
                  · intro w hSw; (try dsimp only at hSw); go_simp; try with_reducible rfl
                  try simp only [Act.put, List.getElem_toArray, List.getElem_cons_succ, List.getElem_cons_zero, List.setIfInBounds_toArray, List.set_cons_zero, List.set_cons_succ]
                  refine wpAnyS_take (i := 13) (v := ?_) rfl (by kernel_rfl) (by kernel_rfl) (by kernel_rfl) (by kernel_rfl) (fun _ _ _ h => h) (Or.inl ⟨by rfl, ?_⟩) (by assumption) ?_
                  rotate_left
                  · intro w hSw; (try dsimp only at hSw); go_simp; try with_reducible rfl
                  try simp only [Act.put, List.getElem_toArray, List.getElem_cons_succ, List.getElem_cons_zero, List.setIfInBounds_toArray, List.set_cons_zero, List.set_cons_succ]
                  refine wpAnyS_take (i := 14) (v := ?_) rfl (by kernel_rfl) (by kernel_rfl) (by kernel_rfl) (by kernel_rfl) (fun _ _ _ h => h) (Or.inl ⟨by rfl, ?_⟩) (by assumption) ?_
                  rotate_left
                  · intro w hSw; (try dsimp only at hSw); go_simp; try with_reducible rfl
                  try simp only [Act.put, List.getElem_toArray, List.getElem_cons_succ, List.getElem_cons_zero, List.setIfInBounds_toArray, List.set_cons_zero, List.set_cons_succ]
                  refine wpAnyS_take (i := 15) (v := ?_) rfl (by kernel_rfl) (by kernel_rfl) (by kernel_rfl) (by kernel_rfl) (fun _ _ _ h => h) (Or.inl ⟨by rfl, ?_⟩) (by assumption) ?_
                  rotate_left
                  · intro w hSw; (try dsimp only at hSw); go_simp; try with_reducible rfl
                  try simp only [Act.put, List.getElem_toArray, List.getElem_cons_succ, List.getElem_cons_zero, List.setIfInBounds_toArray, List.set_cons_zero, List.set_cons_succ]
                  refine wpAnyS_take (i := 16) (v := ?_) rfl (by kernel_rfl) (by kernel_rfl) (by kernel_rfl) (by kernel_rfl) (fun _ _ _ h => h) (Or.inl ⟨by rfl, ?_⟩) (by assumption) ?_
                  rotate_left
                  · intro w hSw; (try dsimp only at hSw); go_simp; try with_reducible rfl
                  try simp only [Act.put, List.getElem_toArray, List.getElem_cons_succ, List.getElem_cons_zero, List.setIfInBounds_toArray, List.set_cons_zero, List.set_cons_succ]
                  refine wpAnyS_take (i := 17) (v := ?_) rfl (by kernel_rfl) (by kernel_rfl) (by kernel_rfl) (by kernel_rfl) (fun _ _ _ h => h) (Or.inl ⟨by rfl, ?_⟩) (by assumption) ?_
                  rotate_left
                  · intro w hSw; (try dsimp only at hSw); go_simp; try with_reducible rfl
                  try simp only [Act.put, List.getElem_toArray, List.getElem_cons_succ, List.getElem_cons_zero, List.setIfInBounds_toArray, List.set_cons_zero, List.set_cons_succ]
                  refine wpAnyS_take (i := 18) (v := ?_) rfl (by kernel_rfl) (by kernel_rfl) (by kernel_rfl) (by kernel_rfl) (fun _ _ _ h => h) (Or.inl ⟨by rfl, ?_⟩) (by assumption) ?_
                  rotate_left
                  · intro w hSw; (try dsimp only at hSw); go_simp; try with_reducible rfl
                  try simp only [Act.put, List.getElem_toArray, List.getElem_cons_succ, List.getElem_cons_zero, List.setIfInBounds_toArray, List.set_cons_zero, List.set_cons_succ]
                  refine wpAnyS_take (i := 19) (v := ?_) rfl (by kernel_rfl) (by kernel_rfl) (by kernel_rfl) (by kernel_rfl) (fun _ _ _ h => h) (Or.inl ⟨by rfl, ?_⟩) (by assumption) ?_
                  rotate_left
                  · intro w hSw; (try dsimp only at hSw); go_simp; try with_reducible rfl
                  try simp only [Act.put, List.getElem_toArray, List.getElem_cons_succ, List.getElem_cons_zero, List.setIfInBounds_toArray, List.set_cons_zero, List.set_cons_succ]
                  refine wpAnyS_one (i := 20) rfl (by kernel_rfl) (fun K hK => ?_)
                  go_simp; go_at_call 19; refine (has17_any al5 L cl5 lost2 pn _ HL.out (by omega) HNL.out).mono ?_; rintro e7 w7 ⟨rfl, rfl⟩; rw [HXL.out]
                  refine hK.out _ _ (fun _ => hHeld) (fun hH => ?_)
                  have hHeld := hH rfl
                  clear hK K hH
                  try simp only [Act.put, List.getElem_toArray, List.getElem_cons_succ, List.getElem_cons_zero, List.setIfInBounds_toArray, List.set_cons_zero, List.set_cons_succ]
                  refine wpAnyS_take (i := 21) (v := ?_) rfl (by kernel_rfl) (by kernel_rfl) (by kernel_rfl) (by kernel_rfl) (fun _ _ _ h => h) (Or.inl ⟨by rfl, ?_⟩) (by assumption) ?_
                  rotate_left
                  · intro w hSw; (try dsimp only at hSw); go_simp; try with_reducible rfl
                  try simp only [Act.put, List.getElem_toArray, List.getElem_cons_succ, List.getElem_cons_zero, List.setIfInBounds_toArray, List.set_cons_zero, List.set_cons_succ]
                  refine wpAnyS_done (by kernel_rfl) ?_ _
                  clear hHeld q2 q3 z0
                  go_wp2_with fail
                  go_roundg (n - (k + 1))
                  case rel => exact ⟨k + 1, by rw [HFS.out], by rw [HES.out], by go_num, by omega, by omega, HSD.out, HPD.out⟩
                  case measure => omega
          · have hin2 : ¬ (k : Int) < (n : Int) := by omega
            have htk : s2.ps.take k = s2.ps := List.take_of_length_le (by rw [HN2.out]; omega)
            rw [htk]
            have hfb := flight_bounds s2.ps HMAY.out
            have heb := elic_bounds s2.ps
            rw [HN2.out] at hfb heb
            obtain ⟨F, hF⟩ : ∃ F, flightOf s2.ps = F := ⟨_, rfl⟩
            obtain ⟨E, hE⟩ : ∃ E, elicOf s2.ps = E := ⟨_, rfl⟩
            rw [hF] at hfb ⊢
            rw [hE] at heb ⊢
            have HF := hide hF
            have HE := hide hE
            have hneF : decide (F = F) = true := decide_eq_true rfl
            obtain ⟨q0, q1, q2, q3, _, _⟩ := HSI.out.at_.four
            clear hkl hky htk hF hE
            go_wp2_with fail
            refine wp_region_S (fun w' => w'.cell? ⟨w1.heap.size, 0, none⟩ = some (.pointer (some ⟨f2.b, 0, none⟩)) ∧ w'.cell? ⟨w1.heap.size, 1, none⟩ = some (.slice as5 S cs5) ∧ w'.cell? ⟨w1.heap.size, 2, none⟩ = some (.slice aa5 A ca5) ∧ w'.cell? ⟨w1.heap.size, 3, none⟩ = some (.slice al5 L cl5)) 1000 (by kernel_rfl) (by exact ⟨q0, q1, q2, q3⟩) (fun hHeld => ?_)
            refine wpAnyS_take (i := 0) (v := ?_) rfl (by kernel_rfl) (by kernel_rfl) (by kernel_rfl) (by kernel_rfl) (fun _ _ _ h => h) (Or.inl ⟨by rfl, ?_⟩) (by assumption) ?_
            rotate_left
            · intro w hSw; (try dsimp only at hSw); go_simp; try with_reducible rfl
            try simp only [Act.put, List.getElem_toArray, List.getElem_cons_succ, List.getElem_cons_zero, List.setIfInBounds_toArray, List.set_cons_zero, List.set_cons_succ]
            refine wpAnyS_take (i := 1) (v := ?_) rfl (by kernel_rfl) (by kernel_rfl) (by kernel_rfl) (by kernel_rfl) (fun _ _ _ h => h) (Or.inl ⟨by rfl, ?_⟩) (by assumption) ?_
            rotate_left
            · intro w hSw; (try dsimp only at hSw); go_simp; try with_reducible rfl
            try simp only [Act.put, List.getElem_toArray, List.getElem_cons_succ, List.getElem_cons_zero, List.setIfInBounds_toArray, List.set_cons_zero, List.set_cons_succ]
            refine wpAnyS_take (i := 2) (v := ?_) rfl (by kernel_rfl) (by kernel_rfl) (by kernel_rfl) (by kernel_rfl) (fun _ _ _ h => h) (Or.inl ⟨by rfl, ?_⟩) (by assumption) ?_
            rotate_left
            · intro w hSw; (try dsimp only at hSw); go_simp; try with_reducible rfl
            try simp only [Act.put, List.getElem_toArray, List.getElem_cons_succ, List.getElem_cons_zero, List.setIfInBounds_toArray, List.set_cons_zero, List.set_cons_succ]
            refine wpAnyS_take (i := 3) (v := ?_) rfl (by kernel_rfl) (by kernel_rfl) (by kernel_rfl) (by kernel_rfl) (fun _ _ _ h => h) (Or.inl ⟨by rfl, ?_⟩) (by assumption) ?_
            rotate_left
            · intro w hSw; (try dsimp only at hSw); go_simp; try with_reducible rfl
            try simp only [Act.put, List.getElem_toArray, List.getElem_cons_succ, List.getElem_cons_zero, List.setIfInBounds_toArray, List.set_cons_zero, List.set_cons_succ]
            refine wpAnyS_take (i := 4) (v := ?_) rfl (by kernel_rfl) (by kernel_rfl) (by kernel_rfl) (by kernel_rfl) (fun _ _ _ h => h) (Or.inl ⟨by rfl, ?_⟩) (by assumption) ?_
            rotate_left
            · intro w hSw; (try dsimp only at hSw); go_simp; try with_reducible rfl
            try simp only [Act.put, List.getElem_toArray, List.getElem_cons_succ, List.getElem_cons_zero, List.setIfInBounds_toArray, List.set_cons_zero, List.set_cons_succ]
            refine wpAnyS_one (i := 5) rfl (by kernel_rfl) (fun K hK => ?_)
            go_simp; go_at_call 27; refine (spflight_any f2 s2 _ HSI.out.drew.sp).mono ?_; rintro e6 w6 ⟨rfl, hb6⟩; rw [HF.out]; have HS6 := hide (HSI.out.drew.later hb6)
            refine hK.out _ _ (fun _ => ⟨HS6.out.at_.blk.cell 0, HS6.out.at_.blk.cell 1, HS6.out.at_.blk.cell 2, HS6.out.at_.blk.cell 3⟩) (fun hH => ?_)
            have hHeld := hH rfl
            clear hK K hH
            try simp only [Act.put, List.getElem_toArray, List.getElem_cons_succ, List.getElem_cons_zero, List.setIfInBounds_toArray, List.set_cons_zero, List.set_cons_succ]
            refine wpAnyS_take (i := 6) (v := .bool false) rfl (by kernel_rfl) (by kernel_rfl) (by kernel_rfl) (by kernel_rfl) (fun _ _ _ h => h) (Or.inl ⟨by rfl, ?_⟩) (by assumption) ?_
            · intro w hSw; (try dsimp only at hSw); go_simp; all_goals (first | rfl | (simp; done))
            try simp only [Act.put, List.getElem_toArray, List.getElem_cons_succ, List.getElem_cons_zero, List.setIfInBounds_toArray, List.set_cons_zero, List.set_cons_succ]
            refine wpAnyS_take (i := 7) (v := ?_) rfl (by kernel_rfl) (by kernel_rfl) (by kernel_rfl) (by kernel_rfl) (fun _ _ _ h => h) (Or.inl ⟨by rfl, ?_⟩) (by assumption) ?_
            rotate_left
            · intro w hSw; (try dsimp only at hSw); go_simp; try with_reducible rfl
            try simp only [Act.put, List.getElem_toArray, List.getElem_cons_succ, List.getElem_cons_zero, List.setIfInBounds_toArray, List.set_cons_zero, List.set_cons_succ]
            refine wpAnyS_take (i := 8) (v := ?_) rfl (by kernel_rfl) (by kernel_rfl) (by kernel_rfl) (by kernel_rfl) (fun _ _ _ h => h) (Or.inl ⟨by rfl, ?_⟩) (by assumption) ?_
            rotate_left
            · intro w hSw; (try dsimp only at hSw); go_simp; try with_reducible rfl
            try simp only [Act.put, List.getElem_toArray, List.getElem_cons_succ, List.getElem_cons_zero, List.setIfInBounds_toArray, List.set_cons_zero, List.set_cons_succ]
            refine wpAnyS_take (i := 9) (v := ?_) rfl (by kernel_rfl) (by kernel_rfl) (by kernel_rfl) (by kernel_rfl) (fun _ _ _ h => h) (Or.inl ⟨by rfl, ?_⟩) (by assumption) ?_
            rotate_left
            · intro w hSw; (try dsimp only at hSw); go_simp; try with_reducible rfl
            try simp only [Act.put, List.getElem_toArray, List.getElem_cons_succ, List.getElem_cons_zero, List.setIfInBounds_toArray, List.set_cons_zero, List.set_cons_succ]
            refine wpAnyS_take (i := 10) (v := ?_) rfl (by kernel_rfl) (by kernel_rfl) (by kernel_rfl) (by kernel_rfl) (fun _ _ _ h => h) (Or.inl ⟨by rfl, ?_⟩) (by assumption) ?_
            rotate_left
            · intro w hSw; (try dsimp only at hSw); go_simp; try with_reducible rfl
            try simp only [Act.put, List.getElem_toArray, List.getElem_cons_succ, List.getElem_cons_zero, List.setIfInBounds_toArray, List.set_cons_zero, List.set_cons_succ]
            refine wpAnyS_take (i := 11) (v := ?_) rfl (by kernel_rfl) (by kernel_rfl) (by kernel_rfl) (by kernel_rfl) (fun _ _ _ h => h) (Or.inl ⟨by rfl, ?_⟩) (by assumption) ?_
            rotate_left
            · intro w hSw; (try dsimp only at hSw); go_simp; try with_reducible rfl
            try simp only [Act.put, List.getElem_toArray, List.getElem_cons_succ, List.getElem_cons_zero, List.setIfInBounds_toArray, List.set_cons_zero, List.set_cons_succ]
            refine wpAnyS_take (i := 12) (v := ?_) rfl (by kernel_rfl) (by kernel_rfl) (by kernel_rfl) (by kernel_rfl) (fun _ _ _ h => h) (Or.inl ⟨by rfl, ?_⟩) (by assumption) ?_
            rotate_left
            · intro w hSw; (try dsimp only at hSw); go_simp; try with_reducible rfl
            try simp only [Act.put, List.getElem_toArray, List.getElem_cons_succ, List.getElem_cons_zero, List.setIfInBounds_toArray, List.set_cons_zero, List.set_cons_succ]
            refine wpAnyS_one (i := 13) rfl (by kernel_rfl) (fun K hK => ?_)
            go_simp; go_at_call 28; refine (spelic_any f2 s2 _ HS6.out.sp).mono ?_; rintro e7 w7 ⟨rfl, hb7⟩; rw [HE.out]; have HS7 := hide (HS6.out.later hb7)
            refine hK.out _ _ (fun _ => ⟨HS7.out.at_.blk.cell 0, HS7.out.at_.blk.cell 1, HS7.out.at_.blk.cell 2, HS7.out.at_.blk.cell 3⟩) (fun hH => ?_)
            have hHeld := hH rfl
            clear hK K hH
            try simp only [Act.put, List.getElem_toArray, List.getElem_cons_succ, List.getElem_cons_zero, List.setIfInBounds_toArray, List.set_cons_zero, List.set_cons_succ]
            refine wpAnyS_take (i := 14) (v := .bool false) rfl (by kernel_rfl) (by kernel_rfl) (by kernel_rfl) (by kernel_rfl) (fun _ _ _ h => h) (Or.inl ⟨by rfl, ?_⟩) (by assumption) ?_
            · intro w hSw; (try dsimp only at hSw); go_simp; all_goals (first | rfl | (simp; done))
            try simp only [Act.put, List.getElem_toArray, List.getElem_cons_succ, List.getElem_cons_zero, List.setIfInBounds_toArray, List.set_cons_zero, List.set_cons_succ]
            refine wpAnyS_take (i := 15) (v := ?_) rfl (by kernel_rfl) (by kernel_rfl) (by kernel_rfl) (by kernel_rfl) (fun _ _ _ h => h) (Or.inl ⟨by rfl, ?_⟩) (by assumption) ?_
            rotate_left
            · intro w hSw; (try dsimp only at hSw); go_simp; try with_reducible rfl
            try simp only [Act.put, List.getElem_toArray, List.getElem_cons_succ, List.getElem_cons_zero, List.setIfInBounds_toArray, List.set_cons_zero, List.set_cons_succ]
            refine wpAnyS_take (i := 16) (v := ?_) rfl (by kernel_rfl) (by kernel_rfl) (by kernel_rfl) (by kernel_rfl) (fun _ _ _ h => h) (Or.inl ⟨by rfl, ?_⟩) (by assumption) ?_
            rotate_left
            · intro w hSw; (try dsimp only at hSw); go_simp; try with_reducible rfl
            try simp only [Act.put, List.getElem_toArray, List.getElem_cons_succ, List.getElem_cons_zero, List.setIfInBounds_toArray, List.set_cons_zero, List.set_cons_succ]
            refine wpAnyS_take (i := 17) (v := ?_) rfl (by kernel_rfl) (by kernel_rfl) (by kernel_rfl) (by kernel_rfl) (fun _ _ _ h => h) (Or.inl ⟨by rfl, ?_⟩) (by assumption) ?_
            rotate_left
            · intro w hSw; (try dsimp only at hSw); go_simp; try with_reducible rfl
            try simp only [Act.put, List.getElem_toArray, List.getElem_cons_succ, List.getElem_cons_zero, List.setIfInBounds_toArray, List.set_cons_zero, List.set_cons_succ]
            refine wpAnyS_take (i := 18) (v := ?_) rfl (by kernel_rfl) (by kernel_rfl) (by kernel_rfl) (by kernel_rfl) (fun _ _ _ h => h) (Or.inl ⟨by rfl, ?_⟩) (by assumption) ?_
            rotate_left
            · intro w hSw; (try dsimp only at hSw); go_simp; try with_reducible rfl
            try simp only [Act.put, List.getElem_toArray, List.getElem_cons_succ, List.getElem_cons_zero, List.setIfInBounds_toArray, List.set_cons_zero, List.set_cons_succ]
            refine wpAnyS_take (i := 19) (v := ?_) rfl (by kernel_rfl) (by kernel_rfl) (by kernel_rfl) (by kernel_rfl) (fun _ _ _ h => h) (Or.inl ⟨by rfl, ?_⟩) (by assumption) ?_
            rotate_left
            · intro w hSw; (try dsimp only at hSw); go_simp; try with_reducible rfl
            try simp only [Act.put, List.getElem_toArray, List.getElem_cons_succ, List.getElem_cons_zero, List.setIfInBounds_toArray, List.set_cons_zero, List.set_cons_succ]
            refine wpAnyS_take (i := 20) (v := ?_) rfl (by kernel_rfl) (by kernel_rfl) (by kernel_rfl) (by kernel_rfl) (fun _ _ _ h => h) (Or.inl ⟨by rfl, ?_⟩) (by assumption) ?_
            rotate_left
            · intro w hSw; (try dsimp only at hSw); go_simp; try with_reducible rfl
            try simp only [Act.put, List.getElem_toArray, List.getElem_cons_succ, List.getElem_cons_zero, List.setIfInBounds_toArray, List.set_cons_zero, List.set_cons_succ]
            refine wpAnyS_take (i := 21) (v := ?_) rfl (by kernel_rfl) (by kernel_rfl) (by kernel_rfl) (by kernel_rfl) (fun _ _ _ h => h) (Or.inl ⟨by rfl, ?_⟩) (by assumption) ?_
            rotate_left
            · intro w hSw; (try dsimp only at hSw); go_simp; try with_reducible rfl
            try simp only [Act.put, List.getElem_toArray, List.getElem_cons_succ, List.getElem_cons_zero, List.setIfInBounds_toArray, List.set_cons_zero, List.set_cons_succ]
            refine wpAnyS_take (i := 22) (v := ?_) rfl (by kernel_rfl) (by kernel_rfl) (by kernel_rfl) (by kernel_rfl) (fun _ _ _ h => h) (Or.inl ⟨by rfl, ?_⟩) (by assumption) ?_
            rotate_left
            · intro w hSw; (try dsimp only at hSw); go_simp; try with_reducible rfl
            try simp only [Act.put, List.getElem_toArray, List.getElem_cons_succ, List.getElem_cons_zero, List.setIfInBounds_toArray, List.set_cons_zero, List.set_cons_succ]
            refine wpAnyS_take (i := 23) (v := ?_) rfl (by kernel_rfl) (by kernel_rfl) (by kernel_rfl) (by kernel_rfl) (fun _ _ _ h => h) (Or.inl ⟨by rfl, ?_⟩) (by assumption) ?_
            rotate_left
            · intro w hSw; (try dsimp only at hSw); go_simp; try with_reducible rfl
            try simp only [Act.put, List.getElem_toArray, List.getElem_cons_succ, List.getElem_cons_zero, List.setIfInBounds_toArray, List.set_cons_zero, List.set_cons_succ]
            refine wpAnyS_take (i := 24) (v := .int .i64 ((n : Int) + (A : Int))) rfl (by kernel_rfl) (by kernel_rfl) (by kernel_rfl) (by kernel_rfl) (fun _ _ _ h => h) (Or.inl ⟨by rfl, ?_⟩) (by assumption) ?_
            · intro w hSw; (try dsimp only at hSw); go_simp; all_goals (first | rfl | (rw [IntKind.wrap_i64]; omega) | omega)
            try simp only [Act.put, List.getElem_toArray, List.getElem_cons_succ, List.getElem_cons_zero, List.setIfInBounds_toArray, List.set_cons_zero, List.set_cons_succ]
            refine wpAnyS_take (i := 25) (v := ?_) rfl (by kernel_rfl) (by kernel_rfl) (by kernel_rfl) (by kernel_rfl) (fun _ _ _ h => h) (Or.inl ⟨by rfl, ?_⟩) (by assumption) ?_
            rotate_left
            · intro w hSw; (try dsimp only at hSw); go_simp; try with_reducible rfl
            try simp only [Act.put, List.getElem_toArray, List.getElem_cons_succ, List.getElem_cons_zero, List.setIfInBounds_toArray, List.set_cons_zero, List.set_cons_succ]
            refine wpAnyS_take (i := 26) (v := ?_) rfl (by kernel_rfl) (by kernel_rfl) (by kernel_rfl) (by kernel_rfl) (fun _ _ _ h => h) (Or.inl ⟨by rfl, ?_⟩) (by assumption) ?_
            rotate_left
            · intro w hSw; (try dsimp only at hSw); go_simp; try with_reducible rfl
            try simp only [Act.put, List.getElem_toArray, List.getElem_cons_succ, List.getElem_cons_zero, List.setIfInBounds_toArray, List.set_cons_zero, List.set_cons_succ]
            refine wpAnyS_take (i := 27) (v := ?_) rfl (by kernel_rfl) (by kernel_rfl) (by kernel_rfl) (by kernel_rfl) (fun _ _ _ h => h) (Or.inl ⟨by rfl, ?_⟩) (by assumption) ?_
            rotate_left
            · intro w hSw; (try dsimp only at hSw); go_simp; try with_reducible rfl
            try simp only [Act.put, List.getElem_toArray, List.getElem_cons_succ, List.getElem_cons_zero, List.setIfInBounds_toArray, List.set_cons_zero, List.set_cons_succ]
            refine wpAnyS_take (i := 28) (v := ?_) rfl (by kernel_rfl) (by kernel_rfl) (by kernel_rfl) (by kernel_rfl) (fun _ _ _ h => h) (Or.inl ⟨by rfl, ?_⟩) (by assumption) ?_
            rotate_left
            · intro w hSw; (try dsimp only at hSw); go_simp; try with_reducible rfl
            try simp only [Act.put, List.getElem_toArray, List.getElem_cons_succ, List.getElem_cons_zero, List.setIfInBounds_toArray, List.set_cons_zero, List.set_cons_succ]
            refine wpAnyS_take (i := 29) (v := ?_) rfl (by kernel_rfl) (by kernel_rfl) (by kernel_rfl) (by kernel_rfl) (fun _ _ _ h => h) (Or.inl ⟨by rfl, ?_⟩) (by assumption) ?_
            rotate_left
            · intro w hSw; (try dsimp only at hSw); go_simp; try with_reducible rfl
            try simp only [Act.put, List.getElem_toArray, List.getElem_cons_succ, List.getElem_cons_zero, List.setIfInBounds_toArray, List.set_cons_zero, List.set_cons_succ]
            refine wpAnyS_take (i := 30) (v := .int .i64 ((n : Int) + (A : Int) + (L : Int))) rfl (by kernel_rfl) (by kernel_rfl) (by kernel_rfl) (by kernel_rfl) (fun _ _ _ h => h) (Or.inl ⟨by rfl, ?_⟩) (by assumption) ?_
            · intro w hSw; (try dsimp only at hSw); go_simp; all_goals (first | rfl | (rw [IntKind.wrap_i64]; omega) | omega)
            try simp only [Act.put, List.getElem_toArray, List.getElem_cons_succ, List.getElem_cons_zero, List.setIfInBounds_toArray, List.set_cons_zero, List.set_cons_succ]
            refine wpAnyS_take (i := 31) (v := ?_) rfl (by kernel_rfl) (by kernel_rfl) (by kernel_rfl) (by kernel_rfl) (fun _ _ _ h => h) (Or.inl ⟨by rfl, ?_⟩) (by assumption) ?_
            rotate_left
            · intro w hSw; (try dsimp only at hSw); go_simp; try with_reducible rfl
            try simp only [Act.put, List.getElem_toArray, List.getElem_cons_succ, List.getElem_cons_zero, List.setIfInBounds_toArray, List.set_cons_zero, List.set_cons_succ]
            refine wpAnyS_take (i := 32) (v := ?_) rfl (by kernel_rfl) (by kernel_rfl) (by kernel_rfl) (by kernel_rfl) (fun _ _ _ h => h) (Or.inl ⟨by rfl, ?_⟩) (by assumption) ?_
            rotate_left
            · intro w hSw; (try dsimp only at hSw); go_simp; try with_reducible rfl
            try simp only [Act.put, List.getElem_toArray, List.getElem_cons_succ, List.getElem_cons_zero, List.setIfInBounds_toArray, List.set_cons_zero, List.set_cons_succ]
            refine wpAnyS_take (i := 33) (v := ?_) rfl (by kernel_rfl) (by kernel_rfl) (by kernel_rfl) (by kernel_rfl) (fun _ _ _ h => h) (Or.inl ⟨by rfl, ?_⟩) (by assumption) ?_
            rotate_left
            · intro w hSw; (try dsimp only at hSw); go_simp; try with_reducible rfl
            try simp only [Act.put, List.getElem_toArray, List.getElem_cons_succ, List.getElem_cons_zero, List.setIfInBounds_toArray, List.set_cons_zero, List.set_cons_succ]
            refine wpAnyS_take (i := 34) (v := ?_) rfl (by kernel_rfl) (by kernel_rfl) (by kernel_rfl) (by kernel_rfl) (fun _ _ _ h => h) (Or.inl ⟨by rfl, ?_⟩) (by assumption) ?_
            rotate_left
            · intro w hSw; (try dsimp only at hSw); go_simp; try with_reducible rfl
            try simp only [Act.put, List.getElem_toArray, List.getElem_cons_succ, List.getElem_cons_zero, List.setIfInBounds_toArray, List.set_cons_zero, List.set_cons_succ]
            refine wpAnyS_take (i := 35) (v := ?_) rfl (by kernel_rfl) (by kernel_rfl) (by kernel_rfl) (by kernel_rfl) (fun _ _ _ h => h) (Or.inl ⟨by rfl, ?_⟩) (by assumption) ?_
            rotate_left
            · intro w hSw; (try dsimp only at hSw); go_simp; try with_reducible rfl
            try simp only [Act.put, List.getElem_toArray, List.getElem_cons_succ, List.getElem_cons_zero, List.setIfInBounds_toArray, List.set_cons_zero, List.set_cons_succ]
            refine wpAnyS_take (i := 36) (v := .bool false) rfl (by kernel_rfl) (by kernel_rfl) (by kernel_rfl) (by kernel_rfl) (fun _ _ _ h => h) (Or.inl ⟨by rfl, ?_⟩) (by assumption) ?_
            · intro w hSw; (try dsimp only at hSw); go_simp; all_goals (first | rfl | (rw [IntKind.wrap_i64]; omega) | omega)
            try simp only [Act.put, List.getElem_toArray, List.getElem_cons_succ, List.getElem_cons_zero, List.setIfInBounds_toArray, List.set_cons_zero, List.set_cons_succ]
            refine wpAnyS_take (i := 37) (v := ?_) rfl (by kernel_rfl) (by kernel_rfl) (by kernel_rfl) (by kernel_rfl) (fun _ _ _ h => h) (Or.inl ⟨by rfl, ?_⟩) (by assumption) ?_
            rotate_left
            · intro w hSw; (try dsimp only at hSw); go_simp; try with_reducible rfl
            try simp only [Act.put, List.getElem_toArray, List.getElem_cons_succ, List.getElem_cons_zero, List.setIfInBounds_toArray, List.set_cons_zero, List.set_cons_succ]
            refine wpAnyS_done (by kernel_rfl) ?_ _
            clear hHeld q0 q1 q2 q3 hfb heb hneF
            go_wp2_with fail
            go_roundg (60 - (i + 1))
            case rel => exact ⟨i + 1, f2, s2, _, _, _, sent2, acked2, lost2, now2, by go_num, by omega, by omega, HS7.out⟩
            case measure => omega
      · rw [decide_eq_false hgo]
        clear hgo hkx
        go_wp2_with fail
        go_ret
        exact ⟨rfl, bw_below' HBW.out HS.out.below⟩
end Go.Proofs.YtgicljeedegncaaGreat
