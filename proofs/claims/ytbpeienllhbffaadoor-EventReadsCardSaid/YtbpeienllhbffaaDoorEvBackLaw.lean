/-
  The law EventBack: its walk.
-/
import Derived.Test.YtbpeienllhbffaaDoorEvMade
namespace Go.Proofs.YtbpeienllhbffaaDoor
set_option linter.unusedSimpArgs false
set_option linter.unusedVariables false
open Go.RowKit Go.Shelf
theorem errEV_ok {e : EV} (h : okEV e = true) : errEV e = 0 := by unfold errEV; rw [if_pos h]
theorem made_text (rs : List RE) (h : rs.length ≤ 300) : (madeE rs).length ≤ 300 ∧ textRes (madeE rs) = .tuple #[.string (mkB (textE (madeE rs))), .int .i64 0] ∧ (mkB (textE (madeE rs))).size ≤ 24000 := by
  have hl : (madeE rs).length ≤ 300 := by rw [madeE_length]; exact h
  refine ⟨hl, ?_, ?_⟩
  · unfold textRes
    rw [if_neg (by omega), if_pos (made_all rs)]
  · rw [Lib.size_eq, mkB_data]
    have := text_len _ (made_small rs)
    omega
theorem count_made (rs : List RE) : Lib.countB (mkB (textE (madeE rs))) ⟨#[10]⟩ = (madeE rs).length := (Lib.count_one 10 _).trans (count_text _ (made_all rs))
set_option maxRecDepth 100000 in
set_option maxHeartbeats 8000000 in
theorem back_law (a : Option Addr) (len cap : Nat) (rs : List RE) (w : World) (hE : Env w) (hz : ResAt w a rs) (hlen : rs.length = len) (hlm : len ≤ 9223372036854775807) :
    Calls Tryd.prog 4 #[.slice a len cap] w fun x w' => x = .returned (.bool true) ∧ Below w.heap.size w w' := by
  have HE := hide hE
  have HZ := hide hz
  have HM := hide (fun W hW => evmade_any a len cap rs W hW hlen hlm)
  obtain ⟨h1, h2, h3⟩ := made_text (rs.take 300) (by rw [List.length_take]; omega)
  have HA := hide (made_all (rs.take 300))
  have HS := hide (made_small (rs.take 300))
  have hc := count_made (rs.take 300)
  have hp := parse_written HA.out (by omega) (by rw [← mkB_data (textE (madeE (rs.take 300))), ← Lib.size_eq]; omega)
  obtain ⟨es, hes⟩ : ∃ x, madeE (rs.take 300) = x := ⟨_, rfl⟩
  rw [hes] at h1 h2 h3 HA HS HM hc hp
  obtain ⟨t, ht⟩ : ∃ x, mkB (textE es) = x := ⟨_, rfl⟩
  rw [ht] at h2 h3 hc hp
  have HT := hide (fun A c W hW hA => evtext_any A c es W hW hA HS.out (by omega))
  rw [h2] at HT
  have HP := hide (fun W hW => parse_any t W hW)
  rw [hp] at HP
  have HQ := hide (fun A B ca cb W hA hB => evequal_any A B ca cb es es W hA hB (by omega) (by omega))
  simp only [decide_true] at HQ
  have HC := hide (fun W m hm => Tryd.strings_Count_any t ⟨#[10]⟩ m W (by omega) hm (by decide))
  rw [hc] at HC
  obtain ⟨N, hN⟩ : ∃ N, es.length = N := ⟨_, rfl⟩
  have HN := hide hN
  simp only [hN] at HP HT HQ HC h1
  have hMP : ∀ W e W', MadePost W es e W' → ∃ A c, e = .returned (.slice A N c) ∧ EvsAt W' A es ∧ N ≤ c ∧ Below W.heap.size W W' := fun W e W' h => by
    obtain ⟨v, rfl, hown, hb⟩ := h
    rw [HN.out] at hown
    obtain ⟨A, c, rfl⟩ := own_slice6 hown
    refine ⟨A, c, rfl, own_evs HN.out hown, ?_, hb⟩
    rcases own_split hown with ⟨h0, h00, _⟩ | ⟨k, cp, cur, e, _, hk, hcc, _⟩
    · omega
    · cases e
      exact hcc
  have HMP := hide hMP
  clear hE hz hlen h2 hc hp hes ht hN hMP
  go_enter Tryd.func4, Tryd.ntmps4
  go_wp2_with fail
  refine (evworks_any w HE.out).mono ?_
  rintro x1 w1 ⟨rfl, hb1⟩
  have HE1 := hide (HE.out.later hb1)
  have HZ1 := hide (HZ.out.later hb1)
  have HB1 := hide hb1
  clear hb1
  go_wp2_with fail
  refine (HM.out w1 HZ1.out).mono ?_
  intro x2 w2 hx2
  obtain ⟨A, c, rfl, hA, hc, hb2⟩ := HMP.out _ _ _ hx2
  have HE2 := hide (HE1.out.later hb2)
  have HA2 := hide hA
  have HB2 := hide (below2 HB1.out hb2)
  clear hx2 hA hb2
  go_wp2_with fail
  refine (HT.out A c w2 HE2.out HA2.out).mono ?_
  rintro x3 w3 ⟨rfl, hb3⟩
  have HE3 := hide (HE2.out.later hb3)
  have HA3 := hide (HA2.out.later hb3)
  have HB3 := hide (below2 HB2.out hb3)
  clear hb3
  go_wp2_with fail
  refine (HP.out w3 HE3.out).mono ?_
  rintro x4 w4 ⟨a4, c4, rfl, hk4, hb4⟩
  have HE4 := hide (HE3.out.later hb4)
  have HA4 := hide (HA3.out.later hb4)
  have HK4 := hide hk4
  have HB4 := hide (below2 HB3.out hb4)
  clear hk4 hb4
  go_wp2_with fail
  refine (HQ.out A a4 c c4 w4 HA4.out HK4.out).mono ?_
  rintro x5 w5 ⟨rfl, hb5⟩
  have HE5 := hide (HE4.out.later hb5)
  have HA5 := hide (HA4.out.later hb5)
  have HB5 := hide (below2 HB4.out hb5)
  clear hb5 HK4
  obtain ⟨m, hm⟩ := HE5.out.max
  have HC1 := hide (HC.out w5 m hm)
  clear HC hm
  go_wp2_with fail
  refine HC1.out.mono ?_
  rintro x6 w6 ⟨rfl, rfl⟩
  clear HM HT HP HQ HC1 HMP
  go_wp2_with fail
  go_loopg [9] N (fun kx s9 wr => ∃ k : Nat, s9 = .int .i64 k ∧ k ≤ N ∧ N - k ≤ kx ∧ EvsAt wr A es ∧ Below w.heap.size w wr)
  case atStart => exact ⟨0, rfl, by omega, by omega, HA5.out, HB5.out⟩
  case round =>
    obtain ⟨k, rfl, hk, hkx, hO, hB⟩ := hrel
    have HO5 := hide hO
    have HB6 := hide hB
    clear hO hB
    by_cases hlt : k < N
    · have hlti : (k : Int) < (N : Int) := by omega
      have hk0 : (0 : Int) ≤ (k : Int) := by omega
      obtain ⟨e, hek⟩ : ∃ e, es[k]? = some e := ⟨_, List.getElem?_eq_getElem (by rw [HN.out]; exact hlt)⟩
      obtain ⟨xb, xo, hx, hxl, z0, z1, z2, z3⟩ := HO5.out.at hek
      subst hx
      have HK := hide (fun W => evcheck_any e W)
      rw [errEV_ok (List.all_eq_true.1 HA.out e (List.mem_of_getElem? hek))] at HK
      obtain ⟨e0, e1, e2, e3⟩ := e
      simp only [evC] at HK
      simp only [] at z0 z1 z2 z3
      clear hek
      go_wp2_with fail
      refine (HK.out _).mono ?_
      rintro x5 w5 ⟨rfl, hb5⟩
      have HO6 := hide (HO5.out.later hb5)
      have HB7 := hide (below2 HB6.out hb5)
      clear hb5
      go_wp2_with fail
      go_roundg (N - (k + 1))
      case rel => exact ⟨k + 1, by go_num, by omega, by omega, HO6.out, HB7.out⟩
      case measure => omega
    · obtain rfl : k = N := by omega
      go_wp2_with fail
      exact bodyPost_ret (v := .bool true) (by simp [results, Tryd.results4, go_sem]) rfl ⟨rfl, HB6.out⟩
end Go.Proofs.YtbpeienllhbffaaDoor
