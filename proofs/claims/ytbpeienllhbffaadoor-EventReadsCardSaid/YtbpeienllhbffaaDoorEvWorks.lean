/-
  Layer 22's law: works: its walk.
-/
import Derived.Test.YtbpeienllhbffaaDoorEvParse
import Derived.Test.YtbpeienllhbffaaDoorEvEq
namespace Go.Proofs.YtbpeienllhbffaaDoor
set_option linter.unusedSimpArgs false
set_option linter.unusedVariables false
open Go.RowKit Go.Shelf
def evs5 : List EV := [⟨1, 2, 7, 1200⟩, ⟨3, 0, 0, 2⟩, ⟨4, 0, 0, 2400⟩, ⟨5, 2, 0, 0⟩, ⟨6, 0, 0, 210⟩]
def odd4 : List EV := [⟨1, 3, 0, 1⟩, ⟨5, 0, 0, 1⟩, ⟨0, 0, 0, 0⟩, ⟨4, 0, 0, 2399⟩]
theorem text5 : textRes evs5 = .tuple #[.string ⟨#[97, 99, 107, 101, 100, 32, 50, 32, 55, 32, 49, 50, 48, 48, 10, 112, 114, 111, 98, 101, 32, 48, 32, 50, 10, 119, 105, 110, 100, 111, 119, 32, 50, 52, 48, 48, 10, 99, 111, 108, 108, 97, 112, 115, 101, 32, 50, 10, 99, 108, 111, 115, 101, 100, 32, 50, 49, 48, 10]⟩, .int .i64 0] := by
  have h1 : evs5.all okEV = true := by decide +kernel
  have h2 : mkB (textE evs5) = ⟨#[97, 99, 107, 101, 100, 32, 50, 32, 55, 32, 49, 50, 48, 48, 10, 112, 114, 111, 98, 101, 32, 48, 32, 50, 10, 119, 105, 110, 100, 111, 119, 32, 50, 52, 48, 48, 10, 99, 111, 108, 108, 97, 112, 115, 101, 32, 50, 10, 99, 108, 111, 115, 101, 100, 32, 50, 49, 48, 10]⟩ := by decide +kernel
  unfold textRes
  rw [if_neg (by decide), if_pos h1, h2]
theorem small5 : ∀ e ∈ evs5, e.small := by
  intro e he
  simp only [evs5, List.mem_cons, List.not_mem_nil, or_false] at he
  rcases he with rfl | rfl | rfl | rfl | rfl <;> (intro j; rcases j with _ | _ | _ | j <;> (simp only [EV.get]; decide))
theorem parse5 : parseE ⟨#[97, 99, 107, 101, 100, 32, 50, 32, 55, 32, 49, 50, 48, 48, 10, 112, 114, 111, 98, 101, 32, 48, 32, 50, 10, 119, 105, 110, 100, 111, 119, 32, 50, 52, 48, 48, 10, 99, 111, 108, 108, 97, 112, 115, 101, 32, 50, 10, 99, 108, 111, 115, 101, 100, 32, 50, 49, 48, 10]⟩ = (evs5, 0, 0) := by decide +kernel
theorem parse_a : parseE ⟨#[108, 111, 115, 116, 32, 49, 32, 48, 55, 32, 57, 10]⟩ = ([], 1, 4) := by decide +kernel
theorem parse_b : parseE ⟨#[99, 111, 108, 108, 97, 112, 115, 101, 32, 48]⟩ = ([], 1, 4) := by decide +kernel
theorem parse_c : parseE ⟨#[]⟩ = ([], 0, 0) := by decide +kernel
theorem odd_err : ∀ e ∈ odd4, errEV e = 2 := by decide +kernel
/-- A fresh row of events. -/
theorem evs_new (w : World) (es : List EV) : EvsAt (w.alloc (.cells (evsC es).toArray 36)) (some ⟨w.heap.size, 0, none⟩) es := by
  have hB := Blk.new w 36 (evsC es).toArray
  refine .inr ⟨_, 0, rfl, hB.lt, fun i r hi => ?_⟩
  have hlt : ∀ j, j < 4 → (evsC es)[i * 4 + j]? = (evC r).toList[j]? := fun j hj => by
    unfold evsC
    rw [flat_cell (fun e : EV => (evC e).toList) 4 evc_length es i j hj, hi]
    rfl
  simp only [Nat.zero_add]
  refine ⟨?_, ?_, ?_, ?_⟩
  · rw [hB.cell, List.getElem?_toArray]; exact hlt 0 (by omega)
  · rw [hB.cell, List.getElem?_toArray]; exact hlt 1 (by omega)
  · rw [hB.cell, List.getElem?_toArray]; exact hlt 2 (by omega)
  · rw [hB.cell, List.getElem?_toArray]; exact hlt 3 (by omega)
set_option maxRecDepth 100000 in
set_option maxHeartbeats 8000000 in
theorem evworks_any (w : World) (hE : Env w) : Calls Tryd.prog 17 #[] w fun x w' => x = .returned (.bool true) ∧ Below w.heap.size w w' := by
  have HE := hide hE
  have h0 := evs_new w evs5
  have ha : Below w.heap.size w (w.alloc (.cells (evsC evs5).toArray 36)) := (Below.refl _ _).alloc (Nat.le_refl _) _
  have HT := hide (evtext_any (some ⟨w.heap.size, 0, none⟩) 5 evs5 _ (hE.later ha) h0 small5 (by decide))
  rw [text5] at HT
  have H0 := hide h0
  have HA := hide ha
  have HP := hide (fun W hW => parse_any ⟨#[97, 99, 107, 101, 100, 32, 50, 32, 55, 32, 49, 50, 48, 48, 10, 112, 114, 111, 98, 101, 32, 48, 32, 50, 10, 119, 105, 110, 100, 111, 119, 32, 50, 52, 48, 48, 10, 99, 111, 108, 108, 97, 112, 115, 101, 32, 50, 10, 99, 108, 111, 115, 101, 100, 32, 50, 49, 48, 10]⟩ W hW)
  simp only [parse5] at HP
  have HQ := hide (fun a b ca cb W h1 h2 => evequal_any a b ca cb evs5 evs5 W h1 h2 (by decide) (by decide))
  simp only [decide_true] at HQ
  have e1 : (evsC evs5).toArray = #[.int .i64 1, .int .i64 2, .int .i64 7, .int .i64 1200, .int .i64 3, .int .i64 0, .int .i64 0, .int .i64 2, .int .i64 4, .int .i64 0, .int .i64 0, .int .i64 2400, .int .i64 5, .int .i64 2, .int .i64 0, .int .i64 0, .int .i64 6, .int .i64 0, .int .i64 0, .int .i64 210] := rfl
  have e5 : evs5.length = 5 := rfl
  rw [e1] at HT H0 HA
  rw [e5] at HT HP HQ
  clear h0 ha hE
  go_enter Tryd.func17, Tryd.ntmps17
  go_wp2_with fail
  refine HT.out.mono ?_
  rintro x1 w1 ⟨rfl, hb1⟩
  have HE1 := hide ((HE.out.later HA.out).later hb1)
  have HS1 := hide (H0.out.later hb1)
  have HB1 := hide (below2 HA.out hb1)
  clear hb1 HT
  go_wp2_with fail
  refine (HP.out w1 HE1.out).mono ?_
  rintro x2 w2 ⟨a2, c2, rfl, hk2, hb2⟩
  have HE2 := hide (HE1.out.later hb2)
  have HK2 := hide hk2
  have HS2 := hide (HS1.out.later hb2)
  have HB2 := hide (below2 HB1.out hb2)
  clear hk2 hb2
  go_wp2_with fail
  refine (HQ.out _ _ _ _ w2 HK2.out HS2.out).mono ?_
  rintro x3 w3 ⟨rfl, hb3⟩
  have HE3 := hide (HE2.out.later hb3)
  have HB3 := hide (below2 HB2.out hb3)
  clear hb3
  have h4 := evs_new w3 odd4
  have ha4 : Below w3.heap.size w3 (w3.alloc (.cells (evsC odd4).toArray 36)) := (Below.refl _ _).alloc (Nat.le_refl _) _
  have e4 : (evsC odd4).toArray = #[.int .i64 1, .int .i64 3, .int .i64 0, .int .i64 1, .int .i64 5, .int .i64 0, .int .i64 0, .int .i64 1, .int .i64 0, .int .i64 0, .int .i64 0, .int .i64 0, .int .i64 4, .int .i64 0, .int .i64 0, .int .i64 2399] := rfl
  rw [e4] at h4 ha4
  have HO := hide h4
  have HE4 := hide (HE3.out.later ha4)
  have HB4 := hide (below2 HB3.out ha4)
  clear h4 ha4
  go_wp2_with fail
  go_loopg [8] 4 (fun kx s8 wr => ∃ k : Nat, s8 = .int .i64 k ∧ k ≤ 4 ∧ 4 - k ≤ kx ∧ EvsAt wr (some ⟨w3.heap.size, 0, none⟩) odd4 ∧ Env wr ∧ Below w.heap.size w wr)
  case atStart => exact ⟨0, rfl, by omega, by omega, HO.out, HE4.out, HB4.out⟩
  case round =>
    obtain ⟨k, rfl, hk, hkx, hO, hE5, hB⟩ := hrel
    have HO5 := hide hO
    have HE5 := hide hE5
    have HB5 := hide hB
    clear hO hE5 hB
    by_cases hlt : k < 4
    · have hlti : (k : Int) < 4 := by omega
      have hk0 : (0 : Int) ≤ (k : Int) := by omega
      obtain ⟨e, hek⟩ : ∃ e, odd4[k]? = some e := ⟨_, List.getElem?_eq_getElem hlt⟩
      obtain ⟨xb, xo, hx, hxl, z0, z1, z2, z3⟩ := HO5.out.at hek
      cases hx
      have HC := hide (fun W => evcheck_any e W)
      rw [odd_err e (List.mem_of_getElem? hek)] at HC
      obtain ⟨e0, e1, e2, e3⟩ := e
      simp only [evC] at HC
      simp only [Nat.zero_add] at z0 z1 z2 z3
      clear hek
      go_wp2_with fail
      refine (HC.out _).mono ?_
      rintro x5 w5 ⟨rfl, hb5⟩
      have HO6 := hide (HO5.out.later hb5)
      have HE6 := hide (HE5.out.later hb5)
      have HB6 := hide (below2 HB5.out hb5)
      clear hb5
      go_wp2_with fail
      go_roundg (4 - (k + 1))
      case rel => exact ⟨k + 1, by go_num, by omega, by omega, HO6.out, HE6.out, HB6.out⟩
      case measure => omega
    · obtain rfl : k = 4 := by omega
      have PA := hide (fun W hW => parse_any ⟨#[108, 111, 115, 116, 32, 49, 32, 48, 55, 32, 57, 10]⟩ W hW)
      have PB := hide (fun W hW => parse_any ⟨#[99, 111, 108, 108, 97, 112, 115, 101, 32, 48]⟩ W hW)
      have PC := hide (fun W hW => parse_any ⟨#[]⟩ W hW)
      simp only [parse_a, List.length_nil] at PA
      simp only [parse_b, List.length_nil] at PB
      simp only [parse_c, List.length_nil] at PC
      go_wp2_with fail
      refine (PA.out _ HE5.out).mono ?_
      rintro x6 w6 ⟨a6, c6, rfl, _, hb6⟩
      have HE6 := hide (HE5.out.later hb6)
      have HB6 := hide (below2 HB5.out hb6)
      clear hb6 PA
      go_wp2_with fail
      refine (PB.out _ HE6.out).mono ?_
      rintro x7 w7 ⟨a7, c7, rfl, _, hb7⟩
      have HE7 := hide (HE6.out.later hb7)
      have HB7 := hide (below2 HB6.out hb7)
      clear hb7 PB
      go_wp2_with fail
      refine (PC.out _ HE7.out).mono ?_
      rintro x8 w8 ⟨a8, c8, rfl, _, hb8⟩
      have HB8 := hide (below2 HB7.out hb8)
      clear hb8 PC
      go_wp2_with fail
      exact bodyPost_ret (v := .bool true) (by simp [results, Tryd.results17, go_sem]) rfl ⟨rfl, HB8.out⟩
end Go.Proofs.YtbpeienllhbffaaDoor
