/-
  The document's Text of layer 20: its walk.
-/
import Derived.Test.YtbpeienllhbffaaDoorCfRef
import Derived.Test.YtbpeienllhbffaaDoorCfTurn
import Derived.Test.YtbpeienllhbffaaDoorRegionSub
namespace Go.Proofs.YtbpeienllhbffaaDoor
set_option linter.unusedSimpArgs false
set_option linter.unusedVariables false
open Go.RowKit Go.Shelf

theorem names20_cell (w : World) {i : Nat} (hi : i < 10) : (w.alloc (.cells #[.string (nameB 0), .string (nameB 1), .string (nameB 2), .string (nameB 3), .string (nameB 4), .string (nameB 5), .string (nameB 6), .string (nameB 7), .string (nameB 8), .string (nameB 9)] 9)).cell? ⟨w.heap.size, i, none⟩ = some (.string (nameB i)) := by
  rw [(Blk.new _ _ _).cell]
  have : i = 0 ∨ i = 1 ∨ i = 2 ∨ i = 3 ∨ i = 4 ∨ i = 5 ∨ i = 6 ∨ i = 7 ∨ i = 8 ∨ i = 9 := by omega
  rcases this with rfl | rfl | rfl | rfl | rfl | rfl | rfl | rfl | rfl | rfl <;> rfl
set_option maxRecDepth 100000 in
set_option maxHeartbeats 4000000 in
theorem text20_any (c : CF) (w : World) : Calls Tryd.prog 30 #[.agg (confC c)] w fun e w' => e = .returned (if errC c = 0 then .tuple #[.string (mkB (textL c 10)), .int .i64 0] else .tuple #[.string ⟨#[]⟩, .int .i64 (errC c)]) ∧ Below w.heap.size w w' := by
  have HC := hide (fun W => check20_any c W)
  have HN := hide (fun W => numbers20_any c W)
  have HNM := hide (fun W => names20_any W)
  obtain ⟨carr, hcarr⟩ : ∃ a, confC c = a := ⟨_, rfl⟩
  have ha10 : ∃ sv d first most rtt delay ex burst room backs, carr = #[.bool sv, .int .i64 d, .int .i64 first, .int .i64 most, .int .i64 rtt, .int .i64 delay, .int .i64 ex, .int .i64 burst, .int .i64 room, .int .i64 backs] := ⟨_, _, _, _, _, _, _, _, _, _, hcarr.symm⟩
  rw [hcarr] at HC HN ⊢
  obtain ⟨sv1, d, first, most, rtt, delay, ex, burst, room, backs, rfl⟩ := ha10
  rcases err_two c with he | he
  · rw [he] at HC ⊢
    rw [if_pos rfl]
    have hok := err_ok.1 he
    have HV := hide (ok_vals hok)
    have HSM := hide (ok_small hok)
    clear hok he hcarr
    go_enter Tryd.func30, Tryd.ntmps30
    go_wp2_with fail
    refine (HC.out _).mono ?_
    rintro e1 w1 ⟨rfl, hb1⟩
    have hbx := (Below.refl w.heap.size w).alloc (Nat.le_refl _) (.cells #[.bool sv1, .int .i64 d, .int .i64 first, .int .i64 most, .int .i64 rtt, .int .i64 delay, .int .i64 ex, .int .i64 burst, .int .i64 room, .int .i64 backs] 46)
    have HB1 := hide (below2 hbx hb1)
    have hK0 := Blk.new w 46 (confC ⟨sv1, d, first, most, rtt, delay, ex, burst, room, backs⟩)
    have hK1 : Blk w1 w.heap.size 46 (confC ⟨sv1, d, first, most, rtt, delay, ex, burst, room, backs⟩) := (hb1.block _ (Blk.lt hK0)).trans hK0
    obtain ⟨c0, c1, c2, c3, c4, c5, c6, c7, c8, c9, hrest⟩ := conf_facts hK1
    clear hrest
    clear hb1 hbx hK0 hK1 HC
    go_wp2_with fail
    refine (HN.out _).mono ?_
    rintro e2 w2 ⟨L, rfl, hL, hb2⟩
    have HL := hide hL
    have HB2 := hide (below2 HB1.out hb2)
    clear hb2 hL HB1 HN c0 c1 c2 c3 c4 c5 c6 c7 c8 c9
    go_wp2_with fail
    go_loopg [6, 7] 10 (fun kx s6 s7 wr => ∃ k : Nat, s7 = .int .i64 k ∧ s6 = .string (mkB (textL c k)) ∧ k ≤ 10 ∧ 10 - k ≤ kx ∧ Blk wr L 3 (c.vals.map (Value.int .i64)).toArray ∧ Below w.heap.size w wr)
    case atStart => exact ⟨0, rfl, rfl, by omega, by omega, HL.out, HB2.out⟩
    case round =>
      clear HL HB2
      obtain ⟨k, rfl, rfl, hk, hkx, hL, hB⟩ := hrel
      have HL := hide hL
      have HBL := hide hB
      clear hB
      by_cases hlt : k < 10
      · have hlti : (k : Int) < 10 := by omega
        have q := hL.cell k
        rw [List.getElem?_toArray, List.getElem?_map, show c.vals[k]? = some (valF c k) from by
          unfold valF
          rw [List.getD_eq_getElem?_getD, List.getElem?_eq_getElem (by rw [CF.vals_length]; exact hlt)]
          rfl] at q
        simp only [Option.map_some] at q
        have hv := HV.out k hlt
        obtain ⟨v, hvv⟩ : ∃ v, valF c k = v := ⟨_, rfl⟩
        have HVV := hide hvv
        rw [hvv] at q hv
        obtain ⟨n, hn⟩ : ∃ n : Nat, v = n := ⟨v.toNat, by omega⟩
        subst hn
        have HD := hide (fun W => digits20_any n (by omega) W)
        have hLl := Blk.lt hL
        have hz1 := textL_len HSM.out k (by omega)
        have hz2 := lineL_len HSM.out hlt
        have hz3 := name_len k hlt
        have hz4 : (mkB (Lib.decDigits n)).size ≤ 20 := by rw [Lib.size_eq, mkB_data, Lib.decDigits_length]; exact nDigits_le 19 _ (by omega)
        have hnx : mkB (textL c k) ++ nameB k ++ (⟨#[32]⟩ : ByteArray) ++ mkB (Lib.decDigits n) ++ (⟨#[10]⟩ : ByteArray) = mkB (textL c (k + 1)) := by
          apply ba_eq
          rw [textL_succ]
          unfold lineL
          rw [hvv, itoa_pos (by omega), Int.toNat_natCast]
          simp [mkB_data]
        obtain ⟨tk, htk⟩ : ∃ z, mkB (textL c k) = z := ⟨_, rfl⟩
        have htkz : tk.size ≤ 310 := by rw [← htk, Lib.size_eq, mkB_data]; omega
        have hnz : (nameB k).size ≤ 8 := by rw [Lib.size_eq]; exact hz3
        have NC := fun W => names20_cell W hlt
        rw [htk] at hnx ⊢
        obtain ⟨nk, hnk⟩ : ∃ z, nameB k = z := ⟨_, rfl⟩
        rw [hnk] at hnx hnz
        simp only [hnk] at NC
        obtain ⟨dk, hdk⟩ : ∃ z, mkB (Lib.decDigits n) = z := ⟨_, rfl⟩
        rw [hdk] at hnx hz4 HD
        have HNX := hide hnx
        have HNC := hide NC
        clear hL hvv hz1 hz2 hz3 hnx htk hnk hdk NC hv
        go_wp2_with fail
        obtain ⟨s1, hs1⟩ : ∃ z, tk ++ nk = z := ⟨_, rfl⟩
        obtain ⟨s2, hs2⟩ : ∃ z, s1 ++ (⟨#[32]⟩ : ByteArray) = z := ⟨_, rfl⟩
        obtain ⟨s3, hs3⟩ : ∃ z, s2 ++ dk = z := ⟨_, rfl⟩
        obtain ⟨s4, hs4⟩ : ∃ z, s3 ++ (⟨#[10]⟩ : ByteArray) = z := ⟨_, rfl⟩
        have z1 : s1.size ≤ 320 := by rw [← hs1, ByteArray.size_append]; omega
        have z2 : s2.size ≤ 330 := by rw [← hs2, ByteArray.size_append]; have : (⟨#[32]⟩ : ByteArray).size = 1 := rfl; omega
        have z3 : s3.size ≤ 350 := by rw [← hs3, ByteArray.size_append]; omega
        have HS4 : Hid (s4 = mkB (textL c (k + 1))) := by
          show s4 = _
          rw [← hs4, ← hs3, ← hs2, ← hs1]
          exact HNX.out
        have HLL := hide hLl
        clear HNX
        refine wp_region_S (fun w' => w'.cell? ⟨L, k, none⟩ = some (.int .i64 n)) 1000 (by kernel_rfl) (by exact q) (fun hHeld => ?_)
        refine wpAnyS_take (i := 0) (v := ?_) rfl (by kernel_rfl) (by kernel_rfl) (by kernel_rfl) (by kernel_rfl) (fun _ _ _ h => h) (Or.inl ⟨by rfl, ?_⟩) (by assumption) ?_
        rotate_left
        · intro w hSw; (try dsimp only at hSw); go_simp; try with_reducible rfl
        try simp only [Act.put, List.getElem_toArray, List.getElem_cons_succ, List.getElem_cons_zero, List.setIfInBounds_toArray, List.set_cons_zero, List.set_cons_succ]
        refine wpAnyS_take (i := 2) (v := ?_) rfl (by kernel_rfl) (by kernel_rfl) (by kernel_rfl) (by kernel_rfl) (fun _ _ _ h => h) (Or.inl ⟨by rfl, ?_⟩) (by assumption) ?_
        rotate_left
        · intro w hSw; (try dsimp only at hSw); go_simp; try with_reducible rfl
        try simp only [Act.put, List.getElem_toArray, List.getElem_cons_succ, List.getElem_cons_zero, List.setIfInBounds_toArray, List.set_cons_zero, List.set_cons_succ]
        refine wpAnyS_take (i := 7) (v := ?_) rfl (by kernel_rfl) (by kernel_rfl) (by kernel_rfl) (by kernel_rfl) (fun _ _ _ h => h) (Or.inl ⟨by rfl, ?_⟩) (by assumption) ?_
        rotate_left
        · intro w hSw; (try dsimp only at hSw); go_simp; try with_reducible rfl
        try simp only [Act.put, List.getElem_toArray, List.getElem_cons_succ, List.getElem_cons_zero, List.setIfInBounds_toArray, List.set_cons_zero, List.set_cons_succ]
        refine wpAnyS_take (i := 8) (v := ?_) rfl (by kernel_rfl) (by kernel_rfl) (by kernel_rfl) (by kernel_rfl) (fun _ _ _ h => h) (Or.inl ⟨by rfl, ?_⟩) (by assumption) ?_
        rotate_left
        · intro w hSw; (try dsimp only at hSw); go_simp; try with_reducible rfl
        try simp only [Act.put, List.getElem_toArray, List.getElem_cons_succ, List.getElem_cons_zero, List.setIfInBounds_toArray, List.set_cons_zero, List.set_cons_succ]
        refine wpAnyS_take (i := 9) (v := ?_) rfl (by kernel_rfl) (by kernel_rfl) (by kernel_rfl) (by kernel_rfl) (fun _ _ _ h => h) (Or.inl ⟨by rfl, ?_⟩) (by assumption) ?_
        rotate_left
        · intro w hSw; (try dsimp only at hSw); go_simp; try with_reducible rfl
        try simp only [Act.put, List.getElem_toArray, List.getElem_cons_succ, List.getElem_cons_zero, List.setIfInBounds_toArray, List.set_cons_zero, List.set_cons_succ]
        refine wpAnyS_take (i := 10) (v := ?_) rfl (by kernel_rfl) (by kernel_rfl) (by kernel_rfl) (by kernel_rfl) (fun _ _ _ h => h) (Or.inl ⟨by rfl, ?_⟩) (by assumption) ?_
        rotate_left
        · intro w hSw; (try dsimp only at hSw); go_simp; try with_reducible rfl
        try simp only [Act.put, List.getElem_toArray, List.getElem_cons_succ, List.getElem_cons_zero, List.setIfInBounds_toArray, List.set_cons_zero, List.set_cons_succ]
        refine wpAnyS_one (i := 1) rfl (by kernel_rfl) (fun K hK => ?_)
        go_simp
        go_at_call 57
        refine (HNM.out _).mono ?_
        rintro e3 w3 ⟨rfl, hw3⟩
        have nc := HNC.out wr.drew
        rw [← hw3] at nc
        have hb3 : Below wr.drew.heap.size wr.drew w3 := by
          subst hw3
          exact (Below.refl _ _).alloc (Nat.le_refl _) _
        have HB3 := hide (below2 HBL.out.drew hb3)
        have HL3 := hide ((hb3.block _ (Blk.lt HL.out.drew)).trans HL.out.drew : Blk w3 L 3 (c.vals.map (Value.int .i64)).toArray)
        have q3 := (hb3.cell (p := ⟨L, k, none⟩) (Blk.lt HL.out.drew)).trans hHeld
        clear hw3 hb3
        refine hK.out _ _ (fun _ => q3) (fun hH => ?_)
        have hHeld := hH rfl
        clear hK K hH
        try simp only [Act.put, List.getElem_toArray, List.getElem_cons_succ, List.getElem_cons_zero, List.setIfInBounds_toArray, List.set_cons_zero, List.set_cons_succ]
        refine wpAnyS_sub (C' := fun w' => w'.cell? ⟨L, k, none⟩ = some (.int .i64 n) ∧ w'.cell? ⟨wr.heap.size, k, none⟩ = some (.string nk)) (fun w' h => h.1) _ _ _ _ ?_
        clear hHeld
        have hHeld : _ ∧ _ := ⟨q3, nc⟩
        refine wpAnyS_take (i := 3) (v := ?_) rfl (by kernel_rfl) (by kernel_rfl) (by kernel_rfl) (by kernel_rfl) (fun _ _ _ h => h) (Or.inl ⟨by rfl, ?_⟩) (by assumption) ?_
        rotate_left
        · intro w hSw; (try dsimp only at hSw); go_simp; try with_reducible rfl
        try simp only [Act.put, List.getElem_toArray, List.getElem_cons_succ, List.getElem_cons_zero, List.setIfInBounds_toArray, List.set_cons_zero, List.set_cons_succ]
        refine wpAnyS_take (i := 4) (v := ?_) rfl (by kernel_rfl) (by kernel_rfl) (by kernel_rfl) (by kernel_rfl) (fun _ _ _ h => h) (Or.inl ⟨by rfl, ?_⟩) (by assumption) ?_
        rotate_left
        · intro w hSw; (try dsimp only at hSw); go_simp; try with_reducible rfl
        try simp only [Act.put, List.getElem_toArray, List.getElem_cons_succ, List.getElem_cons_zero, List.setIfInBounds_toArray, List.set_cons_zero, List.set_cons_succ]
        refine wpAnyS_take (i := 5) (v := .string s1) rfl (by kernel_rfl) (by kernel_rfl) (by kernel_rfl) (by kernel_rfl) (fun _ _ _ h => h) (Or.inl ⟨by rfl, ?_⟩) (by assumption) ?_
        · intro w hSw; (try dsimp only at hSw); go_simp; all_goals (first | rfl | omega | (rw [hs1]))
        try simp only [Act.put, List.getElem_toArray, List.getElem_cons_succ, List.getElem_cons_zero, List.setIfInBounds_toArray, List.set_cons_zero, List.set_cons_succ]
        refine wpAnyS_take (i := 6) (v := .string s2) rfl (by kernel_rfl) (by kernel_rfl) (by kernel_rfl) (by kernel_rfl) (fun _ _ _ h => h) (Or.inl ⟨by rfl, ?_⟩) (by assumption) ?_
        · intro w hSw; (try dsimp only at hSw); go_simp; all_goals (first | rfl | omega | (rw [hs2]))
        try simp only [Act.put, List.getElem_toArray, List.getElem_cons_succ, List.getElem_cons_zero, List.setIfInBounds_toArray, List.set_cons_zero, List.set_cons_succ]
        refine wpAnyS_one (i := 11) rfl (by kernel_rfl) (fun K hK => ?_)
        go_simp; go_at_call 58; refine (HD.out _).mono ?_; rintro e4 w4 ⟨rfl, rfl⟩
        refine hK.out _ _ (fun _ => hHeld) (fun hH => ?_)
        have hHeld := hH rfl
        clear hK K hH
        try simp only [Act.put, List.getElem_toArray, List.getElem_cons_succ, List.getElem_cons_zero, List.setIfInBounds_toArray, List.set_cons_zero, List.set_cons_succ]
        refine wpAnyS_take (i := 12) (v := .string s3) rfl (by kernel_rfl) (by kernel_rfl) (by kernel_rfl) (by kernel_rfl) (fun _ _ _ h => h) (Or.inl ⟨by rfl, ?_⟩) (by assumption) ?_
        · intro w hSw; (try dsimp only at hSw); go_simp; all_goals (first | rfl | omega | (rw [hs3]))
        try simp only [Act.put, List.getElem_toArray, List.getElem_cons_succ, List.getElem_cons_zero, List.setIfInBounds_toArray, List.set_cons_zero, List.set_cons_succ]
        refine wpAnyS_take (i := 13) (v := .string s4) rfl (by kernel_rfl) (by kernel_rfl) (by kernel_rfl) (by kernel_rfl) (fun _ _ _ h => h) (Or.inl ⟨by rfl, ?_⟩) (by assumption) ?_
        · intro w hSw; (try dsimp only at hSw); go_simp; all_goals (first | rfl | omega | (rw [hs4]))
        try simp only [Act.put, List.getElem_toArray, List.getElem_cons_succ, List.getElem_cons_zero, List.setIfInBounds_toArray, List.set_cons_zero, List.set_cons_succ]
        refine wpAnyS_take (i := 14) (v := ?_) rfl (by kernel_rfl) (by kernel_rfl) (by kernel_rfl) (by kernel_rfl) (fun _ _ _ h => h) (Or.inl ⟨by rfl, ?_⟩) (by assumption) ?_
        rotate_left
        · intro w hSw; (try dsimp only at hSw); go_simp; try with_reducible rfl
        try simp only [Act.put, List.getElem_toArray, List.getElem_cons_succ, List.getElem_cons_zero, List.setIfInBounds_toArray, List.set_cons_zero, List.set_cons_succ]
        refine wpAnyS_done (by kernel_rfl) ?_ _
        clear hHeld
        go_wp2_with fail
        go_roundg (10 - (k + 1))
        case rel => exact ⟨k + 1, by go_num, by rw [HS4.out], by omega, by omega, HL3.out, HB3.out⟩
        case measure => omega
      · have hk10 : k = 10 := by omega
        subst hk10
        clear hlt hkx hk
        obtain ⟨tk, htk⟩ : ∃ z, mkB (textL c 10) = z := ⟨_, rfl⟩
        rw [htk]
        go_wp2_with fail
        exact bodyPost_ret (v := .tuple #[.string tk, .int .i64 0]) (by simp [results, Tryd.results30, go_sem]) rfl ⟨by rw [htk], HBL.out⟩
  · rw [he] at HC ⊢
    rw [if_neg (by omega)]
    go_enter Tryd.func30, Tryd.ntmps30
    go_wp2_with fail
    refine (HC.out _).mono ?_
    rintro e1 w1 ⟨rfl, hb1⟩
    go_wp2_with fail
    exact bodyPost_ret (v := .tuple #[.string ⟨#[]⟩, .int .i64 9]) (by simp [results, Tryd.results30, go_sem]) rfl ⟨rfl, below2 ((Below.refl _ _).alloc (Nat.le_refl _) _) hb1⟩
end Go.Proofs.YtbpeienllhbffaaDoor
