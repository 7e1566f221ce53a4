/-
  The statement SpanRoom: its walk.
-/
import Derived.Test.YtkmfhcjdajbbhaaPairs
namespace Go.Proofs.Ytkmfhcjdajbbhaa
set_option linter.unusedSimpArgs false
set_option linter.unusedVariables false
open Go.RowKit

set_option maxRecDepth 100000 in
set_option maxHeartbeats 4000000 in
theorem sroom_any (room : Int) (a : Option Addr) (len cap : Nat) (X Y : Nat → Int) (w : World) (hz : PairsAt w a len X Y) (hro : -9223372036854775808 ≤ room) (hro2 : room ≤ 9223372036854775807) :
    Calls Try.prog 9 #[.int .i64 room, .slice a len cap] w fun e w' => e = .returned (.bool true) ∧ Below w.heap.size w w' := by
  have HZ := hide hz
  have hlen := hz.1
  clear hz
  obtain ⟨R, hR, hR0, hR1⟩ : ∃ R : Nat, 1 + room % 8 = (R : Int) ∧ 1 ≤ R ∧ R ≤ 8 := ⟨(1 + room % 8).toNat, by omega, by omega, by omega⟩
  obtain ⟨m, hm⟩ : ∃ m, room % 8 = m := ⟨_, rfl⟩
  have hbr := fun W => bring_any room 8 W (by omega) (by omega) hro hro2
  rw [hm] at hR hbr
  have hbr := hide hbr
  have hw0 : wrap64 (1 + m) = (R : Int) := by unfold wrap64; omega
  clear hR hro hro2 hm
  go_enter Try.func9, Try.ntmps9
  go_wp2_with fail
  refine (hbr.out _).mono ?_
  rintro e2 w2 ⟨rfl, rfl⟩
  go_wp2_with fail
  refine (snew_ok R _ (by omega) (by omega)).mono ?_
  intro e0 w0 hp
  obtain ⟨b1, rfl, h1⟩ := AllS.nil.fresh (w := w) (W := w) hp (Below.refl _ _)
  clear hp
  go_wp2_with fail
  refine (snew_ok 256 _ (by omega) (by omega)).mono ?_
  intro e0 w1 hp
  obtain ⟨b2, rfl, h2⟩ := h1.fresh hp h1.head.below
  have h := h2.swap
  clear hp h1 h2 hbr
  go_wp2_with fail
  go_loopw [7, 9] (fun s7 s9 wr => ∃ (k : Nat) (g1 : Option Nat) (b2 : Nat) (g2 : Option Nat) (rs : List Rg), s9 = .int .i64 k ∧ s7 = .pointer (some ⟨b2, 0, none⟩) ∧ k ≤ 40 ∧ rs.length ≤ k ∧ rs.length ≤ R ∧ AllS w wr [⟨b1, g1, R, rs⟩, ⟨b2, g2, 256, rs⟩])
    (fun _ i _ => 40 - (intOf i).toNat)
  case atStart => exact ⟨0, none, b2, none, [], rfl, rfl, by omega, by simp, by simp, h⟩
  case round =>
    obtain ⟨k, g1, c2, g2, rs, rfl, rfl, hk, hrl, hrR, hs⟩ := hrel
    clear h
    by_cases hlt : k < len ∧ k < 40
    · obtain ⟨hlt, hlt2⟩ := hlt
      obtain ⟨xb, xo, ha, hc, hd, hx0, hx1, hy0, hy1⟩ := HZ.out.at hs.head.below hlt
      subst ha
      have HR := hide (fun W => row_any (X k) (Y k) W hx0 hx1 hy0 hy1)
      obtain ⟨q0, q1, q2⟩ := rowB (X k) (Y k)
      obtain ⟨lo, hlo⟩ : ∃ lo, rowLo (X k) = lo := ⟨_, rfl⟩
      obtain ⟨hi, hhi⟩ : ∃ hi, rowHi (X k) (Y k) = hi := ⟨_, rfl⟩
      rw [hlo, hhi] at HR q1
      rw [hlo] at q0
      rw [hhi] at q2
      clear hlo hhi hx0 hx1 hy0 hy1
      have hd2 : wr.cell? ⟨xb, xo + k * 2 + 1, none⟩ = some (.int .i64 (Y k)) := hd
      have hkn : (k : Int) < (len : Int) := by omega
      have hk4 : (k : Int) < 40 := by omega
      have HS := hide hs
      have hgood := hs.head.set.good
      have hle := addR_le (rs := rs) hgood q1
      obtain ⟨ss, hss⟩ : ∃ ss, addR lo hi rs = ss := ⟨_, rfl⟩
      have HSS := hide hss
      rw [hss] at hle
      clear hss hgood hs
      go_wp2_with fail
      refine (HR.out _).mono ?_
      rintro e2 w2 ⟨rfl, hb2⟩
      have h2 := HS.out.later hb2
      clear HS hb2 hc hd hd2 HR
      go_wp2_with fail
      refine (scopy_any _ _ _ _ _ h2.head.set).mono ?_
      intro e3 w3 hp
      obtain ⟨c1, gc, rfl, h3⟩ := h2.copy hp
      have h3 := AllS.up (A := [_, _]) h3
      clear h2 hp
      go_wp2_with fail
      refine (scopy_any _ _ _ _ _ h3.head.set).mono ?_
      intro e4 w4 hp
      obtain ⟨c3, gd, rfl, h4⟩ := h3.copy hp
      have h4 := AllS.up (A := [_, _, _]) h4
      clear h3 hp
      go_wp2_with fail
      by_cases hfit : ss.length ≤ R
      · have hfi : (ss.length : Int) ≤ (R : Int) := by omega
        have hnf : ¬ (R : Int) < (ss.length : Int) := by omega
        refine (add_ok b1 _ R lo hi rs _ h4.head.set q0 q1 (by omega) (by rw [HSS.out]; omega)).mono ?_
        rw [HSS.out]
        intro e5 w5 hp
        obtain ⟨rfl, g5, h5⟩ := h4.step hp
        have h5 := h5.swap
        clear h4 hp
        go_wp2_with fail
        refine (add_ok c3 _ 256 lo hi rs _ h5.head.set q0 q1 (by omega) (by rw [HSS.out]; omega)).mono ?_
        rw [HSS.out]
        intro e6 w6 hp
        obtain ⟨rfl, g6, h6⟩ := h5.step hp
        have h6 := AllS.take (A := [_, _]) h6.swap
        clear h5 hp
        go_wp2_with fail
        refine (slen_any _ _ _ _ _ h6.head.set).mono ?_
        rintro e7 w7 ⟨rfl, rfl⟩
        go_wp2_with fail
        refine (slen_any _ _ _ _ _ h6.swap.head.set).mono ?_
        rintro e7 w7 ⟨rfl, rfl⟩
        go_wp2_with fail
        refine (ranges_any _ _ _ _ _ h6.head.set).mono ?_
        rintro e8 w8 ⟨v1, rfl, hr1, _, hb8⟩
        obtain ⟨a1, n1, rfl⟩ := own_slice' hr1
        have h8 := h6.later hb8
        have hg1 := own_rgat List.length_reverse hr1
        clear h6 hb8 hr1
        go_wp2_with fail
        refine (ranges_any _ _ _ _ _ h8.swap.head.set).mono ?_
        rintro e9 w9 ⟨v2, rfl, hr2, _, hb9⟩
        obtain ⟨a2, n2, rfl⟩ := own_slice' hr2
        have h9 := h8.later hb9
        have hg2 := own_rgat List.length_reverse hr2
        have hg1 := hg1.below hb9
        clear h8 hb9 hr2
        go_wp2_with fail
        refine (equal_any _ _ _ _ _ _ _ _ _ List.length_reverse List.length_reverse hg1 hg2 (by omega) (by omega)).mono ?_
        rintro e10 w10 ⟨rfl, q, rfl⟩
        rw [show decide (ss.reverse = ss.reverse) = true from decide_eq_true rfl]
        have h10 := h9.later (below_drewN (Below.refl _ _) q)
        clear h9 hg1 hg2
        go_wp2_with fail
        go_roundw
        case rel => exact ⟨k + 1, _, _, _, ss, by go_num, rfl, by omega, by omega, hfit, h10⟩
        case measure => simp [intOf]; omega
      · have hfi : ¬ (ss.length : Int) ≤ (R : Int) := by omega
        have hnf : ¬ (R : Int) < (rs.length : Int) := by omega
        refine (add_limit b1 _ R lo hi rs _ h4.head.set q0 q1 (by omega) (by rw [HSS.out]; omega)).mono ?_
        rintro e5 w5 ⟨rfl, hb5⟩
        have h5 := h4.later hb5
        have h5 := h5.swap
        clear h4 hb5
        go_wp2_with fail
        refine (add_ok c3 _ 256 lo hi rs _ h5.head.set q0 q1 (by omega) (by rw [HSS.out]; omega)).mono ?_
        rw [HSS.out]
        intro e6 w6 hp
        obtain ⟨rfl, g6, h6⟩ := h5.step hp
        have h6 := h6.swap
        clear h5 hp
        go_wp2_with fail
        refine (slen_any _ _ _ _ _ h6.head.set).mono ?_
        rintro e7 w7 ⟨rfl, rfl⟩
        go_wp2_with fail
        refine (slen_any _ _ _ _ _ h6.swap.head.set).mono ?_
        rintro e7 w7 ⟨rfl, rfl⟩
        go_wp2_with fail
        have h7 := AllS.up (A := [_, _, _]) h6
        refine (ssame_any _ _ _ _ _ _ _ _ _ h6.head.set h7.head.set).mono ?_
        rintro e7 w7 ⟨rfl, hb7⟩
        rw [show (decide (R = R) && decide (rs = rs)) = true by simp]
        have h6 := (AllS.take (A := [_, _]) h6.cons_swap).later hb7
        clear h7 hb7
        go_wp2_with fail
        refine (ranges_any _ _ _ _ _ h6.head.set).mono ?_
        rintro e8 w8 ⟨v1, rfl, hr1, _, hb8⟩
        obtain ⟨a1, n1, rfl⟩ := own_slice' hr1
        have h8 := h6.later hb8
        have hg1 := own_rgat List.length_reverse hr1
        clear h6 hb8 hr1
        go_wp2_with fail
        refine (ranges_any _ _ _ _ _ h8.swap.head.set).mono ?_
        rintro e9 w9 ⟨v2, rfl, hr2, _, hb9⟩
        obtain ⟨a2, n2, rfl⟩ := own_slice' hr2
        have h9 := h8.later hb9
        have hg2 := own_rgat List.length_reverse hr2
        have hg1 := hg1.below hb9
        clear h8 hb9 hr2
        go_wp2_with fail
        refine (equal_any _ _ _ _ _ _ rs.reverse rs.reverse _ List.length_reverse List.length_reverse hg1 hg2 (by omega) (by omega)).mono ?_
        rintro e10 w10 ⟨rfl, q, rfl⟩
        rw [show decide (rs.reverse = rs.reverse) = true from decide_eq_true rfl]
        have h10 := h9.later (below_drewN (Below.refl _ _) q)
        clear h9 hg1 hg2
        go_wp2_with fail
        go_roundw
        case rel => exact ⟨k + 1, _, _, _, rs, by go_num, rfl, by omega, by omega, hrR, h10⟩
        case measure => simp [intOf]; omega
    · have hs' := hs.head.below
      rcases (by omega : len ≤ k ∨ 40 ≤ k) with h1 | h1
      all_goals
        clear hlt
        go_wp2_with (go_at_call 21; refine (sworks_any _).mono ?_; rintro e9 w9 ⟨rfl, hb9⟩)
        all_goals
          go_ret
          exact ⟨rfl, bw_below' hs' hb9⟩
end Go.Proofs.Ytkmfhcjdajbbhaa
