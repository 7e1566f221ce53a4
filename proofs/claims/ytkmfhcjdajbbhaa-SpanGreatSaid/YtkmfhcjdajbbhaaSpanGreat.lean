/-
  The statement SpanGreat: its walk.
-/
import Derived.Test.YtkmfhcjdajbbhaaSpanWorks
import Derived.Test.YtkmfhcjdajbbhaaInts
namespace Go.Proofs.Ytkmfhcjdajbbhaa
set_option linter.unusedSimpArgs false
set_option linter.unusedVariables false
open Go.RowKit

theorem great_add {lo hi : Int} (h : lo ≤ hi) (h2 : hi ≤ 9007199254740991) (rs : List Rg) (hrs : (rs = [] ∧ hi = 9007199254740991) ∨ rs = [⟨hi + 1, 9007199254740991⟩]) : addR lo hi rs = [⟨lo, 9007199254740991⟩] := by
  rcases hrs with ⟨rfl, rfl⟩ | rfl
  · rfl
  · unfold addR
    have h1 : ¬ (9007199254740991 : Int) < lo - 1 := by omega
    have h3 : ¬ hi + 1 < hi + 1 := by omega
    simp only [if_neg h1, if_neg h3]
    unfold addR
    have e1 : min lo (hi + 1) = lo := by omega
    have e2 : max hi 9007199254740991 = 9007199254740991 := by omega
    rw [e1, e2]
theorem great_next {H : Int} (h0 : 0 ≤ H) (h1 : H < 9007199254740991) : nextOf (H + 1) [⟨H + 1, 9007199254740991⟩] = -1 ∧ nextOf H [⟨H + 1, 9007199254740991⟩] = H ∧ (rngOf H [⟨H + 1, 9007199254740991⟩]).2 = false := by
  have a1 : fstHi (H + 1) [⟨H + 1, 9007199254740991⟩] = 0 := by
    have : ¬ (9007199254740991 : Int) < H + 1 := by omega
    simp [fstHi, this]
  have a2 : fstHi H [⟨H + 1, 9007199254740991⟩] = 0 := by
    have : ¬ (9007199254740991 : Int) < H := by omega
    simp [fstHi, this]
  have r1 : rngOf (H + 1) [⟨H + 1, 9007199254740991⟩] = (⟨H + 1, 9007199254740991⟩, true) := by unfold rngOf; rw [a1]; simp
  have r2 : rngOf H [⟨H + 1, 9007199254740991⟩] = (⟨0, 0⟩, false) := by
    unfold rngOf
    rw [a2]
    have : ¬ H + 1 ≤ H := by omega
    simp [this]
  refine ⟨?_, ?_, by rw [r2]⟩
  · unfold nextOf
    rw [r1]
    have c1 : 0 ≤ H + 1 ∧ H + 1 ≤ 9007199254740991 := by omega
    simp [c1]
  · unfold nextOf
    rw [r2]
    have c1 : 0 ≤ H ∧ H ≤ 9007199254740991 := by omega
    simp [c1]

set_option maxRecDepth 100000 in
set_option maxHeartbeats 4000000 in
theorem sgreat_any (a : Option Addr) (len cap : Nat) (zs : List Int) (w : World) (hz : IntsAt w a len cap zs) :
    Calls Try.prog 3 #[.slice a len cap] w fun e w' => e = .returned (.bool true) ∧ Below w.heap.size w w' := by
  have HZ := hide hz
  clear hz
  go_enter Try.func3, Try.ntmps3
  go_wp2_with fail
  refine (snew_ok 256 _ (by omega) (by omega)).mono ?_
  intro e0 w0 hp
  obtain ⟨b, rfl, h⟩ := SAt.fresh (w := w) hp (Below.refl _ _)
  clear hp
  go_wp2_with fail
  go_loopw [5, 6, 7] (fun s5 s6 s7 wr => ∃ (k : Nat) (hi all : Int) (g : Option Nat) (rs : List Rg), s7 = .int .i64 k ∧ s5 = .int .i64 hi ∧ s6 = .int .i64 all ∧ k ≤ 40 ∧ all = 9007199254740991 - hi ∧ 0 ≤ all ∧ all ≤ k * 1099511627776 ∧ ((rs = [] ∧ hi = 9007199254740991) ∨ rs = [⟨hi + 1, 9007199254740991⟩]) ∧ SAt w wr b g 256 rs)
    (fun _ _ i _ => 40 - (intOf i).toNat)
  case atStart => exact ⟨0, 9007199254740991, 0, none, [], rfl, rfl, rfl, by omega, rfl, by omega, by omega, .inl ⟨rfl, rfl⟩, h⟩
  case round =>
    obtain ⟨k, hi, all, g, rs, rfl, rfl, rfl, hk, hal, ha0, ha1, hrs, hs⟩ := hrel
    clear h
    by_cases hlt : k < len ∧ k < 40
    · obtain ⟨hlt, hlt2⟩ := hlt
      obtain ⟨x, z, ha, hc, hxl, hz1, hz2, hlen⟩ := intsAt_get HZ.out hlt
      have hcw : wr.cell? (x.add k) = some (.int .i64 z) := by rw [hs.below.cell (by rw [block_of_add]; exact hxl)]; exact hc
      subst ha
      have m0 := Int.emod_nonneg z (show (1099511627776 : Int) ≠ 0 by omega)
      have m1 := Int.emod_lt_of_pos z (show (0 : Int) < 1099511627776 by omega)
      obtain ⟨m, hm⟩ : ∃ m, z % 1099511627776 = m := ⟨_, rfl⟩
      have hbr := fun W => bring_any z 1099511627776 W (by omega) (by omega) hz1 hz2
      rw [hm] at hbr m0 m1
      have HBR := hide hbr
      clear hbr hm hc
      obtain ⟨c, hc⟩ : ∃ c, 1 + m = c := ⟨_, rfl⟩
      have hw0 : wrap64 (1 + m) = c := by unfold wrap64; omega
      obtain ⟨H, hH⟩ : ∃ H, hi - c = H := ⟨_, rfl⟩
      obtain ⟨A, hA⟩ : ∃ A, all + c = A := ⟨_, rfl⟩
      have hH0 : 0 ≤ H := by omega
      have hH1 : H < 9007199254740991 := by omega
      have hw1 : wrap64 (hi - c) = H := by unfold wrap64; omega
      have hw2 : wrap64 (H + 1) = H + 1 := by unfold wrap64; omega
      have hw3 : wrap64 (all + c) = A := by unfold wrap64; omega
      have hadd := great_add (lo := H + 1) (hi := hi) (by omega) (by omega) rs hrs
      have hcnt : cntR [⟨H + 1, 9007199254740991⟩] = A := by simp only [cntR]; omega
      obtain ⟨n1, n2, n3⟩ := great_next hH0 hH1
      have HAD := hide (add_ok b g 256 (H + 1) hi rs wr hs.set (by omega) (by omega) (by omega) (by rw [hadd]; simp))
      rw [hadd] at HAD
      have HN1 := hide n1
      have HN2 := hide n2
      have HN3 := hide n3
      have HC := hide hcnt
      have HREL : Hid (k + 1 ≤ 40 ∧ A = 9007199254740991 - H ∧ 0 ≤ A ∧ A ≤ ((k + 1 : Nat) : Int) * 1099511627776) := by show _ ∧ _; omega
      have HS := hide hs
      clear n1 n2 n3 hcnt hadd hrs hs ha0 ha1 hal hH hA hc hk m0 m1
      go_wp2_with fail
      refine (HBR.out _).mono ?_
      rintro e2 w2 ⟨rfl, rfl⟩
      go_wp2_with fail
      refine HAD.out.mono ?_
      intro e3 w3 hp
      obtain ⟨rfl, g3, h3⟩ := HS.out.step hp
      clear hp hcw
      go_wp2_with fail
      refine (slen_any b _ 256 _ _ h3.set).mono ?_
      rintro e4 w4 ⟨rfl, rfl⟩
      go_wp2_with fail
      refine (count_any b _ 256 _ _ h3.set).mono ?_
      rintro e4 w4 ⟨rfl, hb4⟩
      rw [HC.out]
      have h4 := h3.later hb4
      clear hb4 h3
      go_wp2_with fail
      refine (smax_any b _ 256 _ _ h4.set).mono ?_
      rintro e4 w5 ⟨rfl, hb5⟩
      rw [show maxOf [⟨H + 1, 9007199254740991⟩] = 9007199254740991 from rfl]
      have h5 := h4.later hb5
      clear hb5 h4
      go_wp2_with fail
      refine (smin_any b _ 256 _ _ h5.set).mono ?_
      rintro e4 w6 ⟨rfl, hb6⟩
      rw [show minOf [⟨H + 1, 9007199254740991⟩] = H + 1 from rfl]
      have h6 := h5.later hb6
      clear hb6 h5
      go_wp2_with fail
      refine (snext_any b _ 256 _ _ _ h6.set).mono ?_
      rintro e4 w7 ⟨rfl, hb7⟩
      rw [HN1.out]
      have h7 := h6.later hb7
      clear hb7 h6
      go_wp2_with fail
      refine (snext_any b _ 256 _ _ _ h7.set).mono ?_
      rintro e4 w8 ⟨rfl, hb8⟩
      rw [HN2.out]
      have h8 := h7.later hb8
      clear hb8 h7
      go_wp2_with fail
      refine (has_any b _ 256 _ _ _ h8.set).mono ?_
      rintro e4 w9 ⟨rfl, hb9⟩
      rw [HN3.out]
      have h9 := h8.later hb9
      clear hb9 h8
      go_wp2_with fail
      refine (add_arg b _ 256 0 9007199254740992 _ _ h9.set (by omega)).mono ?_
      rintro e4 w10 ⟨rfl, hb10⟩
      have h10 := h9.later hb10
      clear hb10 h9
      go_wp2_with fail
      go_roundw
      case rel => exact ⟨k + 1, H, A, _, _, by go_num, rfl, rfl, HREL.out.1, HREL.out.2.1, HREL.out.2.2.1, HREL.out.2.2.2, .inr rfl, h10⟩
      case measure => simp [intOf]; omega
    · have hs' := hs.below
      rcases (by omega : len ≤ k ∨ 40 ≤ k) with h1 | h1
      all_goals
        clear hlt
        go_wp2_with (go_at_call 21; refine (sworks_any _).mono ?_; rintro e9 w9 ⟨rfl, hb9⟩)
        all_goals
          go_ret
          exact ⟨rfl, bw_below' hs' hb9⟩
end Go.Proofs.Ytkmfhcjdajbbhaa
