/-
  The document's answer for layer 22: Text, Count: their walks.
-/
import Derived.Test.YtbpeienllhbffaaDoorEvRefLine
namespace Go.Proofs.YtbpeienllhbffaaDoor
set_option linter.unusedSimpArgs false
set_option linter.unusedVariables false
open Go.RowKit Go.Shelf
set_option maxRecDepth 100000 in
set_option maxHeartbeats 8000000 in
theorem rtext_any (a : Option Addr) (cap : Nat) (es : List EV) (w : World) (he : EvsAt w a es) (hs : ∀ e ∈ es, e.small) (hn : es.length ≤ 4000) : Calls Tryd.prog 26 #[.slice a es.length cap] w fun x w' => x = .returned (textRes es) ∧ Below w.heap.size w w' := by
  have HEV := hide he
  have HS := hide hs
  obtain ⟨N, hN⟩ : ∃ N, es.length = N := ⟨_, rfl⟩
  have hr : textRes es = if es.all okEV then .tuple #[.string (mkB (textE es)), .int .i64 0] else .tuple #[.string ⟨#[]⟩, .int .i64 2] := by
    unfold textRes
    rw [if_neg (by omega)]
  obtain ⟨res, hres⟩ : ∃ r, textRes es = r := ⟨_, rfl⟩
  rw [hres] at hr
  have HR := hide hr
  have HN := hide hN
  rw [hN] at hn ⊢
  rw [hres]
  clear he hs hres hN hr
  go_enter Tryd.func26, Tryd.ntmps26
  go_wp2_with fail
  go_loopg [4, 5] N (fun kx s4 s5 wr => ∃ k : Nat, s5 = .int .i64 k ∧ s4 = .string (mkB (textE (es.take k))) ∧ k ≤ N ∧ N - k ≤ kx ∧ Hid ((es.take k).all okEV = true) ∧ Below w.heap.size w wr)
  case atStart => exact ⟨0, rfl, rfl, by omega, by omega, rfl, Below.refl _ _⟩
  case round =>
    obtain ⟨k, rfl, rfl, hk, hkx, hall, hB⟩ := hrel
    have HB := hide hB
    have HEW := hide (HEV.out.later hB)
    clear hB
    by_cases hlt : k < N
    · have hlti : (k : Int) < (N : Int) := by omega
      have hk0 : (0 : Int) ≤ (k : Int) := by omega
      obtain ⟨e, hek⟩ : ∃ e, es[k]? = some e := ⟨_, List.getElem?_eq_getElem (by rw [HN.out]; exact hlt)⟩
      have hmem := List.mem_of_getElem? hek
      obtain ⟨xb, xo, rfl, hxl, z0, z1, z2, z3⟩ := HEW.out.at hek
      have htk : es.take (k + 1) = es.take k ++ [e] := by rw [List.take_add_one, hek]; rfl
      have hll := line_len (HS.out e hmem)
      have htl := text_len (es.take k) (fun x hx => HS.out x (List.mem_of_mem_take hx))
      have htn : (es.take k).length ≤ 4000 := by rw [List.length_take]; omega
      have HLN := hide (fun W => rline_any e W)
      have ht1 : (mkB (textE (es.take k))).size ≤ 320000 := by rw [Lib.size_eq, mkB_data]; omega
      have ht2 : (mkB (lineE e)).size ≤ 80 := by rw [Lib.size_eq, mkB_data]; exact hll
      by_cases hok : okEV e = true
      · have hall2 : (es.take (k + 1)).all okEV = true := by
          rw [htk, List.all_append, hall.out]
          simp [hok]
        have HA2 := hide hall2
        have htx : mkB (textE (es.take k)) ++ mkB (lineE e) = mkB (textE (es.take (k + 1))) := ba_eq (by rw [ba_app, mkB_data, mkB_data, mkB_data, htk, textE_snoc])
        have hlr : lineRes e = .tuple #[.string (mkB (lineE e)), .int .i64 0] := by unfold lineRes; rw [if_pos hok]
        rw [hlr] at HLN
        obtain ⟨A, hA⟩ : ∃ z, mkB (textE (es.take k)) = z := ⟨_, rfl⟩
        obtain ⟨B, hB⟩ : ∃ z, mkB (lineE e) = z := ⟨_, rfl⟩
        obtain ⟨C, hC⟩ : ∃ z, mkB (textE (es.take (k + 1))) = z := ⟨_, rfl⟩
        rw [hA] at htx ht1 ⊢
        rw [hB] at htx ht2 HLN
        rw [hC] at htx
        have HC := hide hC
        obtain ⟨e0, e1, e2, e3⟩ := e
        simp only [evC] at HLN
        simp only [] at z0 z1 z2 z3
        clear hok hek hmem htk hll htl htn hall2 hlr hA hB hC
        go_wp2_with fail
        refine (HLN.out _).mono ?_
        rintro x1 w1 ⟨rfl, hb1⟩
        have HB1 := hide (below2 HB.out hb1)
        clear hb1
        go_wp2_with fail
        go_roundg (N - (k + 1))
        case rel => exact ⟨k + 1, by go_num, by rw [HC.out], by omega, by omega, HA2.out, HB1.out⟩
        case measure => omega
      · have hno : okEV e = false := by simpa using hok
        have hlr : lineRes e = .tuple #[.string ⟨#[]⟩, .int .i64 2] := by unfold lineRes; rw [if_neg hok]
        rw [hlr] at HLN
        have hra : es.all okEV = false := by
          rw [Bool.eq_false_iff]
          intro h2
          rw [List.all_eq_true] at h2
          exact hok (h2 e hmem)
        obtain rfl : res = .tuple #[.string ⟨#[]⟩, .int .i64 2] := by
          rw [HR.out, hra]
          rfl
        obtain ⟨e0, e1, e2, e3⟩ := e
        simp only [evC] at HLN
        simp only [] at z0 z1 z2 z3
        clear hok hek hmem htk hll htl htn hlr hno hra
        go_wp2_with fail
        refine (HLN.out _).mono ?_
        rintro x1 w1 ⟨rfl, hb1⟩
        have HB1 := hide (below2 HB.out hb1)
        clear hb1
        go_wp2_with fail
        exact bodyPost_ret (v := .tuple #[.string ⟨#[]⟩, .int .i64 2]) (by simp [results, Tryd.results26, go_sem]) rfl ⟨rfl, HB1.out⟩
    · obtain rfl : k = N := by omega
      have htk : es.take k = es := List.take_of_length_le (by rw [HN.out]; exact Nat.le_refl _)
      have ha := hall.out
      rw [htk] at ha ⊢
      obtain rfl : res = .tuple #[.string (mkB (textE es)), .int .i64 0] := by
        rw [HR.out, ha]
        rfl
      obtain ⟨A, hA⟩ : ∃ z, mkB (textE es) = z := ⟨_, rfl⟩
      rw [hA]
      have HA := hide hA
      clear htk ha hA HR
      go_wp2_with fail
      exact bodyPost_ret (v := .tuple #[.string A, .int .i64 0]) (by simp [results, Tryd.results26, go_sem]) rfl ⟨by rw [HA.out], HB.out⟩
set_option maxRecDepth 100000 in
set_option maxHeartbeats 4000000 in
theorem rcount_any (a : Option Addr) (cap : Nat) (es : List EV) (kind : Int) (w : World) (he : EvsAt w a es) (hn : es.length ≤ 4611686018427387904) : Calls Tryd.prog 28 #[.slice a es.length cap, .int .i64 kind] w fun x w' => x = .returned (.int .i64 (cntE es kind)) ∧ Below w.heap.size w w' := by
  have HEV := hide he
  obtain ⟨N, hN⟩ : ∃ N, es.length = N := ⟨_, rfl⟩
  have HN := hide hN
  rw [hN] at hn ⊢
  clear he hN
  go_enter Tryd.func28, Tryd.ntmps28
  go_wp2_with fail
  go_loopg [5, 6] N (fun kx s5 s6 wr => ∃ k : Nat, s6 = .int .i64 k ∧ s5 = .int .i64 (cntE (es.take k) kind) ∧ k ≤ N ∧ N - k ≤ kx ∧ Below w.heap.size w wr)
  case atStart => exact ⟨0, rfl, rfl, by omega, by omega, Below.refl _ _⟩
  case round =>
    obtain ⟨k, rfl, rfl, hk, hkx, hB⟩ := hrel
    have HB := hide hB
    have HEW := hide (HEV.out.later hB)
    clear hB
    by_cases hlt : k < N
    · have hlti : (k : Int) < (N : Int) := by omega
      have hk0 : (0 : Int) ≤ (k : Int) := by omega
      obtain ⟨e, hek⟩ : ∃ e, es[k]? = some e := ⟨_, List.getElem?_eq_getElem (by rw [HN.out]; exact hlt)⟩
      obtain ⟨xb, xo, rfl, hxl, z0, z1, z2, z3⟩ := HEW.out.at hek
      have hcs : cntE (es.take (k + 1)) kind = cntE (es.take k) kind + if e.kind = kind then 1 else 0 := by
        unfold cntE
        rw [List.take_add_one, hek, List.filter_append, List.length_append]
        simp only [Option.toList_some, List.filter_cons, List.filter_nil]
        by_cases h : e.kind = kind
        · simp [h]
        · simp [h]
      have hcl := cntE_le (es.take k) kind
      rw [List.length_take] at hcl
      obtain ⟨ek, es1, en, el⟩ := e
      simp only [] at z0 z1 z2 z3 hcs
      obtain ⟨q, hq⟩ : ∃ q, cntE (es.take k) kind = q := ⟨_, rfl⟩
      rw [hq] at hcs hcl ⊢
      have HCS := hide hcs
      clear hek hcs hq
      by_cases hkd : ek = kind
      · subst hkd
        go_wp2_with fail
        go_roundg (N - (k + 1))
        case rel => exact ⟨k + 1, by go_num, by rw [HCS.out]; rfl, by omega, by omega, HB.out⟩
        case measure => omega
      · have hb : (ek == kind) = false := by rw [beq_eq_false_iff_ne]; exact hkd
        go_wp2_with fail
        go_roundg (N - (k + 1))
        case rel => exact ⟨k + 1, by go_num, by rw [HCS.out, if_neg hkd]; rfl, by omega, by omega, HB.out⟩
        case measure => omega
    · have hkN : k = N := by omega
      subst hkN
      have htk : es.take k = es := List.take_of_length_le (by rw [HN.out]; exact Nat.le_refl _)
      rw [htk]
      clear htk
      go_wp2_with fail
      exact bodyPost_ret (v := .int .i64 (cntE es kind)) (by simp [results, Tryd.results28, go_sem]) rfl ⟨rfl, HB.out⟩
end Go.Proofs.YtbpeienllhbffaaDoor
