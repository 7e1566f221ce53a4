/-
  The statement ConfTells: its walk.
-/
import Derived.Test.YtbpeienllhbffaaDoorCfRefText
import Derived.Test.YtbpeienllhbffaaDoorCfArgs
namespace Go.Proofs.YtbpeienllhbffaaDoor
set_option linter.unusedSimpArgs false
set_option linter.unusedVariables false
open Go.RowKit Go.Shelf

theorem conf_cells {W : World} {rb : Nat} {sv1 : Bool} {d first most rtt delay ex burst room backs : Int} (h : Blk W rb 46 #[.bool sv1, .int .i64 d, .int .i64 first, .int .i64 most, .int .i64 rtt, .int .i64 delay, .int .i64 ex, .int .i64 burst, .int .i64 room, .int .i64 backs]) : W.cell? ⟨rb, 0, none⟩ = some (.bool sv1) ∧ W.cell? ⟨rb, 1, none⟩ = some (.int .i64 d) ∧ W.cell? ⟨rb, 2, none⟩ = some (.int .i64 first) ∧ W.cell? ⟨rb, 3, none⟩ = some (.int .i64 most) ∧ W.cell? ⟨rb, 4, none⟩ = some (.int .i64 rtt) ∧ W.cell? ⟨rb, 5, none⟩ = some (.int .i64 delay) ∧ W.cell? ⟨rb, 6, none⟩ = some (.int .i64 ex) ∧ W.cell? ⟨rb, 7, none⟩ = some (.int .i64 burst) ∧ W.cell? ⟨rb, 8, none⟩ = some (.int .i64 room) ∧ W.cell? ⟨rb, 9, none⟩ = some (.int .i64 backs) :=
  ⟨h.cell 0, h.cell 1, h.cell 2, h.cell 3, h.cell 4, h.cell 5, h.cell 6, h.cell 7, h.cell 8, h.cell 9⟩
set_option maxRecDepth 100000 in
set_option maxHeartbeats 4000000 in
theorem ctells_any (c : CF) (w : World) (hE : Env w) (hc : c.small) : Calls Tryd.prog 9 #[.agg (confC c)] w fun e w' => e = .returned (.bool true) ∧ Below w.heap.size w w' := by
  have HE := hide hE
  have HT := hide (fun W E => text_any c W E hc)
  have HR := hide (fun W => text20_any c W)
  have HC := hide (fun W => check_any c W)
  have HC2 := hide (fun W => check20_any c W)
  have HD := hide (fun W => default_any c.sv W)
  have HD2 := hide (fun W => default20_any c.sv W)
  have HCW := hide (fun W E => cworks_any W E)
  have htt : ∃ t er, (∀ W, Env W → Calls Tryd.prog 29 #[.agg (confC c)] W fun e w' => e = .returned (.tuple #[.string t, .int .i64 er]) ∧ Below W.heap.size W w') ∧ (∀ W, Calls Tryd.prog 30 #[.agg (confC c)] W fun e w' => e = .returned (.tuple #[.string t, .int .i64 er]) ∧ Below W.heap.size W w') := by
    rcases err_two c with he | he
    · refine ⟨mkB (textL c 10), 0, fun W E => ?_, fun W => ?_⟩
      · have := HT.out W E
        rw [he] at this
        exact this
      · have := HR.out W
        rw [he] at this
        exact this
    · refine ⟨⟨#[]⟩, 9, fun W E => ?_, fun W => ?_⟩
      · have := HT.out W E
        rw [he] at this
        exact this
      · have := HR.out W
        rw [he] at this
        exact this
  obtain ⟨t, er, hT, hR⟩ := htt
  clear HT HR
  have HT := hide hT
  have HR := hide hR
  obtain ⟨ec, hec⟩ : ∃ z, errC c = z := ⟨_, rfl⟩
  rw [hec] at HC HC2
  obtain ⟨sv1, d, first, most, rtt, delay, ex, burst, room, backs⟩ := c
  simp only [confC, defaultCF] at HT HR HC HC2 HD HD2 ⊢
  clear hE hT hR hec hc
  go_enter Tryd.func9, Tryd.ntmps9
  go_wp2_with fail
  refine (HT.out _ (HE.out.later ((Below.refl _ _).alloc (Nat.le_refl _) _))).mono ?_
  rintro e1 w1 ⟨rfl, hb1⟩
  have hk0 := Blk.new w 46 #[.bool sv1, .int .i64 d, .int .i64 first, .int .i64 most, .int .i64 rtt, .int .i64 delay, .int .i64 ex, .int .i64 burst, .int .i64 room, .int .i64 backs]
  have HK1 := hide ((hb1.block _ (Blk.lt hk0)).trans hk0 : Blk w1 w.heap.size 46 #[.bool sv1, .int .i64 d, .int .i64 first, .int .i64 most, .int .i64 rtt, .int .i64 delay, .int .i64 ex, .int .i64 burst, .int .i64 room, .int .i64 backs])
  have HB1 := hide (below2 ((Below.refl w.heap.size w).alloc (Nat.le_refl _) (.cells #[.bool sv1, .int .i64 d, .int .i64 first, .int .i64 most, .int .i64 rtt, .int .i64 delay, .int .i64 ex, .int .i64 burst, .int .i64 room, .int .i64 backs] 46)) hb1)
  clear hb1 hk0 HT
  obtain ⟨rb, hrb⟩ : ∃ b, w.heap.size = b := ⟨_, rfl⟩
  rw [hrb] at HK1
  obtain ⟨c0, c1, c2, c3, c4, c5, c6, c7, c8, c9⟩ := conf_cells HK1.out
  go_wp2_with fail
  refine (HR.out _).mono ?_
  rintro e2 w2 ⟨rfl, hb2⟩
  have HK2 := hide ((hb2.block _ (Blk.lt HK1.out)).trans HK1.out : Blk w2 rb 46 #[.bool sv1, .int .i64 d, .int .i64 first, .int .i64 most, .int .i64 rtt, .int .i64 delay, .int .i64 ex, .int .i64 burst, .int .i64 room, .int .i64 backs])
  have HB2 := hide (below2 HB1.out hb2)
  clear hb2 HK1 HB1 HR c0 c1 c2 c3 c4 c5 c6 c7 c8 c9
  obtain ⟨c0, c1, c2, c3, c4, c5, c6, c7, c8, c9⟩ := conf_cells HK2.out
  go_wp2_with fail
  refine wp_region_S (fun w' => w'.cell? ⟨rb, 0, none⟩ = some (.bool sv1) ∧ w'.cell? ⟨rb, 1, none⟩ = some (.int .i64 d) ∧ w'.cell? ⟨rb, 2, none⟩ = some (.int .i64 first) ∧ w'.cell? ⟨rb, 3, none⟩ = some (.int .i64 most) ∧ w'.cell? ⟨rb, 4, none⟩ = some (.int .i64 rtt) ∧ w'.cell? ⟨rb, 5, none⟩ = some (.int .i64 delay) ∧ w'.cell? ⟨rb, 6, none⟩ = some (.int .i64 ex) ∧ w'.cell? ⟨rb, 7, none⟩ = some (.int .i64 burst) ∧ w'.cell? ⟨rb, 8, none⟩ = some (.int .i64 room) ∧ w'.cell? ⟨rb, 9, none⟩ = some (.int .i64 backs)) 1000 (by kernel_rfl) (by exact ⟨c0, c1, c2, c3, c4, c5, c6, c7, c8, c9⟩) (fun hHeld => ?_)
  refine wpAnyS_take (i := 0) (v := ?_) rfl (by kernel_rfl) (by kernel_rfl) (by kernel_rfl) (by kernel_rfl) (fun _ _ _ h => h) (Or.inl ⟨by rfl, ?_⟩) (by assumption) ?_
  rotate_left
  · intro w hSw; (try dsimp only at hSw); go_simp; try with_reducible rfl
  try simp only [Act.put, List.getElem_toArray, List.getElem_cons_succ, List.getElem_cons_zero, List.setIfInBounds_toArray, List.set_cons_zero, List.set_cons_succ]
  refine wpAnyS_take (i := 2) (v := ?_) rfl (by kernel_rfl) (by kernel_rfl) (by kernel_rfl) (by kernel_rfl) (fun _ _ _ h => h) (Or.inl ⟨by rfl, ?_⟩) (by assumption) ?_
  rotate_left
  · intro w hSw; (try dsimp only at hSw); go_simp; try with_reducible rfl
  try simp only [Act.put, List.getElem_toArray, List.getElem_cons_succ, List.getElem_cons_zero, List.setIfInBounds_toArray, List.set_cons_zero, List.set_cons_succ]
  refine wpAnyS_one (i := 1) rfl (by kernel_rfl) (fun K hK => ?_)
  go_simp; go_at_call 31; refine (HC.out _).mono ?_; rintro e3 w3 ⟨rfl, hb3⟩; have HK3 := hide ((hb3.block _ (Blk.lt (Blk.drew HK2.out))).trans (Blk.drew HK2.out) : Blk w3 rb 46 #[.bool sv1, .int .i64 d, .int .i64 first, .int .i64 most, .int .i64 rtt, .int .i64 delay, .int .i64 ex, .int .i64 burst, .int .i64 room, .int .i64 backs]); have HB3 := hide (below2 HB2.out.drew hb3); clear hb3
  refine hK.out _ _ (fun _ => conf_cells HK3.out) (fun hH => ?_)
  have hHeld := hH rfl
  clear hK K hH
  try simp only [Act.put, List.getElem_toArray, List.getElem_cons_succ, List.getElem_cons_zero, List.setIfInBounds_toArray, List.set_cons_zero, List.set_cons_succ]
  refine wpAnyS_one (i := 3) rfl (by kernel_rfl) (fun K hK => ?_)
  go_simp; go_at_call 32; refine (HC2.out _).mono ?_; rintro e4 w4 ⟨rfl, hb4⟩; have HK4 := hide ((hb4.block _ (Blk.lt HK3.out)).trans HK3.out : Blk w4 rb 46 #[.bool sv1, .int .i64 d, .int .i64 first, .int .i64 most, .int .i64 rtt, .int .i64 delay, .int .i64 ex, .int .i64 burst, .int .i64 room, .int .i64 backs]); have HB4 := hide (below2 HB3.out hb4); clear hb4
  refine hK.out _ _ (fun _ => conf_cells HK4.out) (fun hH => ?_)
  have hHeld := hH rfl
  clear hK K hH
  try simp only [Act.put, List.getElem_toArray, List.getElem_cons_succ, List.getElem_cons_zero, List.setIfInBounds_toArray, List.set_cons_zero, List.set_cons_succ]
  refine wpAnyS_take (i := 4) (v := ?_) rfl (by kernel_rfl) (by kernel_rfl) (by kernel_rfl) (by kernel_rfl) (fun _ _ _ h => h) (Or.inl ⟨by rfl, ?_⟩) (by assumption) ?_
  rotate_left
  · intro w hSw; (try dsimp only at hSw); go_simp; try with_reducible rfl
  try simp only [Act.put, List.getElem_toArray, List.getElem_cons_succ, List.getElem_cons_zero, List.setIfInBounds_toArray, List.set_cons_zero, List.set_cons_succ]
  refine wpAnyS_take (i := 5) (v := ?_) rfl (by kernel_rfl) (by kernel_rfl) (by kernel_rfl) (by kernel_rfl) (fun _ _ _ h => h) (Or.inl ⟨by rfl, ?_⟩) (by assumption) ?_
  rotate_left
  · intro w hSw; (try dsimp only at hSw); go_simp; try with_reducible rfl
  try simp only [Act.put, List.getElem_toArray, List.getElem_cons_succ, List.getElem_cons_zero, List.setIfInBounds_toArray, List.set_cons_zero, List.set_cons_succ]
  refine wpAnyS_take (i := 6) (v := ?_) rfl (by kernel_rfl) (by kernel_rfl) (by kernel_rfl) (by kernel_rfl) (fun _ _ _ h => h) (Or.inl ⟨by rfl, ?_⟩) (by assumption) ?_
  rotate_left
  · intro w hSw; (try dsimp only at hSw); go_simp; try with_reducible rfl
  try simp only [Act.put, List.getElem_toArray, List.getElem_cons_succ, List.getElem_cons_zero, List.setIfInBounds_toArray, List.set_cons_zero, List.set_cons_succ]
  refine wpAnyS_take (i := 7) (v := ?_) rfl (by kernel_rfl) (by kernel_rfl) (by kernel_rfl) (by kernel_rfl) (fun _ _ _ h => h) (Or.inl ⟨by rfl, ?_⟩) (by assumption) ?_
  rotate_left
  · intro w hSw; (try dsimp only at hSw); go_simp; try with_reducible rfl
  try simp only [Act.put, List.getElem_toArray, List.getElem_cons_succ, List.getElem_cons_zero, List.setIfInBounds_toArray, List.set_cons_zero, List.set_cons_succ]
  refine wpAnyS_take (i := 8) (v := ?_) rfl (by kernel_rfl) (by kernel_rfl) (by kernel_rfl) (by kernel_rfl) (fun _ _ _ h => h) (Or.inl ⟨by rfl, ?_⟩) (by assumption) ?_
  rotate_left
  · intro w hSw; (try dsimp only at hSw); go_simp; try with_reducible rfl
  try simp only [Act.put, List.getElem_toArray, List.getElem_cons_succ, List.getElem_cons_zero, List.setIfInBounds_toArray, List.set_cons_zero, List.set_cons_succ]
  refine wpAnyS_take (i := 9) (v := ?_) rfl (by kernel_rfl) (by kernel_rfl) (by kernel_rfl) (by kernel_rfl) (fun _ _ _ h => h) (Or.inl ⟨by rfl, ?_⟩) (by assumption) ?_
  rotate_left
  · intro w hSw; (try dsimp only at hSw); go_simp; try with_reducible rfl
  try simp only [Act.put, List.getElem_toArray, List.getElem_cons_succ, List.getElem_cons_zero, List.setIfInBounds_toArray, List.set_cons_zero, List.set_cons_succ]
  refine wpAnyS_take (i := 10) (v := ?_) rfl (by kernel_rfl) (by kernel_rfl) (by kernel_rfl) (by kernel_rfl) (fun _ _ _ h => h) (Or.inl ⟨by rfl, ?_⟩) (by assumption) ?_
  rotate_left
  · intro w hSw; (try dsimp only at hSw); go_simp; try with_reducible rfl
  try simp only [Act.put, List.getElem_toArray, List.getElem_cons_succ, List.getElem_cons_zero, List.setIfInBounds_toArray, List.set_cons_zero, List.set_cons_succ]
  refine wpAnyS_take (i := 11) (v := ?_) rfl (by kernel_rfl) (by kernel_rfl) (by kernel_rfl) (by kernel_rfl) (fun _ _ _ h => h) (Or.inl ⟨by rfl, ?_⟩) (by assumption) ?_
  rotate_left
  · intro w hSw; (try dsimp only at hSw); go_simp; try with_reducible rfl
  try simp only [Act.put, List.getElem_toArray, List.getElem_cons_succ, List.getElem_cons_zero, List.setIfInBounds_toArray, List.set_cons_zero, List.set_cons_succ]
  refine wpAnyS_take (i := 12) (v := ?_) rfl (by kernel_rfl) (by kernel_rfl) (by kernel_rfl) (by kernel_rfl) (fun _ _ _ h => h) (Or.inl ⟨by rfl, ?_⟩) (by assumption) ?_
  rotate_left
  · intro w hSw; (try dsimp only at hSw); go_simp; try with_reducible rfl
  try simp only [Act.put, List.getElem_toArray, List.getElem_cons_succ, List.getElem_cons_zero, List.setIfInBounds_toArray, List.set_cons_zero, List.set_cons_succ]
  refine wpAnyS_take (i := 13) (v := ?_) rfl (by kernel_rfl) (by kernel_rfl) (by kernel_rfl) (by kernel_rfl) (fun _ _ _ h => h) (Or.inl ⟨by rfl, ?_⟩) (by assumption) ?_
  rotate_left
  · intro w hSw; (try dsimp only at hSw); go_simp; try with_reducible rfl
  try simp only [Act.put, List.getElem_toArray, List.getElem_cons_succ, List.getElem_cons_zero, List.setIfInBounds_toArray, List.set_cons_zero, List.set_cons_succ]
  refine wpAnyS_take (i := 14) (v := ?_) rfl (by kernel_rfl) (by kernel_rfl) (by kernel_rfl) (by kernel_rfl) (fun _ _ _ h => h) (Or.inl ⟨by rfl, ?_⟩) (by assumption) ?_
  rotate_left
  · intro w hSw; (try dsimp only at hSw); go_simp; try with_reducible rfl
  try simp only [Act.put, List.getElem_toArray, List.getElem_cons_succ, List.getElem_cons_zero, List.setIfInBounds_toArray, List.set_cons_zero, List.set_cons_succ]
  refine wpAnyS_take (i := 15) (v := ?_) rfl (by kernel_rfl) (by kernel_rfl) (by kernel_rfl) (by kernel_rfl) (fun _ _ _ h => h) (Or.inl ⟨by rfl, ?_⟩) (by assumption) ?_
  rotate_left
  · intro w hSw; (try dsimp only at hSw); go_simp; try with_reducible rfl
  try simp only [Act.put, List.getElem_toArray, List.getElem_cons_succ, List.getElem_cons_zero, List.setIfInBounds_toArray, List.set_cons_zero, List.set_cons_succ]
  refine wpAnyS_take (i := 16) (v := ?_) rfl (by kernel_rfl) (by kernel_rfl) (by kernel_rfl) (by kernel_rfl) (fun _ _ _ h => h) (Or.inl ⟨by rfl, ?_⟩) (by assumption) ?_
  rotate_left
  · intro w hSw; (try dsimp only at hSw); go_simp; try with_reducible rfl
  try simp only [Act.put, List.getElem_toArray, List.getElem_cons_succ, List.getElem_cons_zero, List.setIfInBounds_toArray, List.set_cons_zero, List.set_cons_succ]
  refine wpAnyS_take (i := 17) (v := ?_) rfl (by kernel_rfl) (by kernel_rfl) (by kernel_rfl) (by kernel_rfl) (fun _ _ _ h => h) (Or.inl ⟨by rfl, ?_⟩) (by assumption) ?_
  rotate_left
  · intro w hSw; (try dsimp only at hSw); go_simp; try with_reducible rfl
  try simp only [Act.put, List.getElem_toArray, List.getElem_cons_succ, List.getElem_cons_zero, List.setIfInBounds_toArray, List.set_cons_zero, List.set_cons_succ]
  refine wpAnyS_take (i := 19) (v := ?_) rfl (by kernel_rfl) (by kernel_rfl) (by kernel_rfl) (by kernel_rfl) (fun _ _ _ h => h) (Or.inl ⟨by rfl, ?_⟩) (by assumption) ?_
  rotate_left
  · intro w hSw; (try dsimp only at hSw); go_simp; try with_reducible rfl
  try simp only [Act.put, List.getElem_toArray, List.getElem_cons_succ, List.getElem_cons_zero, List.setIfInBounds_toArray, List.set_cons_zero, List.set_cons_succ]
  refine wpAnyS_take (i := 20) (v := ?_) rfl (by kernel_rfl) (by kernel_rfl) (by kernel_rfl) (by kernel_rfl) (fun _ _ _ h => h) (Or.inl ⟨by rfl, ?_⟩) (by assumption) ?_
  rotate_left
  · intro w hSw; (try dsimp only at hSw); go_simp; try with_reducible rfl
  try simp only [Act.put, List.getElem_toArray, List.getElem_cons_succ, List.getElem_cons_zero, List.setIfInBounds_toArray, List.set_cons_zero, List.set_cons_succ]
  refine wpAnyS_one (i := 18) rfl (by kernel_rfl) (fun K hK => ?_)
  go_simp; go_at_call 33; refine (HD.out _).mono ?_; rintro e5 w5 ⟨rfl, hb5⟩; have HK5 := hide ((hb5.block _ (Blk.lt HK4.out)).trans HK4.out : Blk w5 rb 46 #[.bool sv1, .int .i64 d, .int .i64 first, .int .i64 most, .int .i64 rtt, .int .i64 delay, .int .i64 ex, .int .i64 burst, .int .i64 room, .int .i64 backs]); have HB5 := hide (below2 HB4.out hb5); clear hb5
  refine hK.out _ _ (fun _ => conf_cells HK5.out) (fun hH => ?_)
  have hHeld := hH rfl
  clear hK K hH
  try simp only [Act.put, List.getElem_toArray, List.getElem_cons_succ, List.getElem_cons_zero, List.setIfInBounds_toArray, List.set_cons_zero, List.set_cons_succ]
  refine wpAnyS_one (i := 21) rfl (by kernel_rfl) (fun K hK => ?_)
  go_simp; go_at_call 34; refine (HD2.out _).mono ?_; rintro e6 w6 ⟨rfl, hb6⟩; have HK6 := hide ((hb6.block _ (Blk.lt HK5.out)).trans HK5.out : Blk w6 rb 46 #[.bool sv1, .int .i64 d, .int .i64 first, .int .i64 most, .int .i64 rtt, .int .i64 delay, .int .i64 ex, .int .i64 burst, .int .i64 room, .int .i64 backs]); have HB6 := hide (below2 HB5.out hb6); clear hb6
  refine hK.out _ _ (fun _ => conf_cells HK6.out) (fun hH => ?_)
  have hHeld := hH rfl
  clear hK K hH
  try simp only [Act.put, List.getElem_toArray, List.getElem_cons_succ, List.getElem_cons_zero, List.setIfInBounds_toArray, List.set_cons_zero, List.set_cons_succ]
  refine wpAnyS_take (i := 22) (v := ?_) rfl (by kernel_rfl) (by kernel_rfl) (by kernel_rfl) (by kernel_rfl) (fun _ _ _ h => h) (Or.inl ⟨by rfl, ?_⟩) (by assumption) ?_
  rotate_left
  · intro w hSw; (try dsimp only at hSw); go_simp; try with_reducible rfl
  try simp only [Act.put, List.getElem_toArray, List.getElem_cons_succ, List.getElem_cons_zero, List.setIfInBounds_toArray, List.set_cons_zero, List.set_cons_succ]
  refine wpAnyS_take (i := 23) (v := ?_) rfl (by kernel_rfl) (by kernel_rfl) (by kernel_rfl) (by kernel_rfl) (fun _ _ _ h => h) (Or.inl ⟨by rfl, ?_⟩) (by assumption) ?_
  rotate_left
  · intro w hSw; (try dsimp only at hSw); go_simp; try with_reducible rfl
  try simp only [Act.put, List.getElem_toArray, List.getElem_cons_succ, List.getElem_cons_zero, List.setIfInBounds_toArray, List.set_cons_zero, List.set_cons_succ]
  refine wpAnyS_take (i := 24) (v := ?_) rfl (by kernel_rfl) (by kernel_rfl) (by kernel_rfl) (by kernel_rfl) (fun _ _ _ h => h) (Or.inl ⟨by rfl, ?_⟩) (by assumption) ?_
  rotate_left
  · intro w hSw; (try dsimp only at hSw); go_simp; try with_reducible rfl
  try simp only [Act.put, List.getElem_toArray, List.getElem_cons_succ, List.getElem_cons_zero, List.setIfInBounds_toArray, List.set_cons_zero, List.set_cons_succ]
  refine wpAnyS_one (i := 25) rfl (by kernel_rfl) (fun K hK => ?_)
  go_simp; go_at_call 35; refine (HCW.out _ (HE.out.later HB6.out)).mono ?_; rintro e7 w7 ⟨rfl, hb7⟩; have HK7 := hide ((hb7.block _ (Blk.lt HK6.out)).trans HK6.out : Blk w7 rb 46 #[.bool sv1, .int .i64 d, .int .i64 first, .int .i64 most, .int .i64 rtt, .int .i64 delay, .int .i64 ex, .int .i64 burst, .int .i64 room, .int .i64 backs]); have HB7 := hide (below2 HB6.out hb7); clear hb7
  refine hK.out _ _ (fun _ => conf_cells HK7.out) (fun hH => ?_)
  have hHeld := hH rfl
  clear hK K hH
  try simp only [Act.put, List.getElem_toArray, List.getElem_cons_succ, List.getElem_cons_zero, List.setIfInBounds_toArray, List.set_cons_zero, List.set_cons_succ]
  refine wpAnyS_take (i := 26) (v := ?_) rfl (by kernel_rfl) (by kernel_rfl) (by kernel_rfl) (by kernel_rfl) (fun _ _ _ h => h) (Or.inl ⟨by rfl, ?_⟩) (by assumption) ?_
  rotate_left
  · intro w hSw; (try dsimp only at hSw); go_simp; try with_reducible rfl
  try simp only [Act.put, List.getElem_toArray, List.getElem_cons_succ, List.getElem_cons_zero, List.setIfInBounds_toArray, List.set_cons_zero, List.set_cons_succ]
  refine wpAnyS_take (i := 27) (v := ?_) rfl (by kernel_rfl) (by kernel_rfl) (by kernel_rfl) (by kernel_rfl) (fun _ _ _ h => h) (Or.inl ⟨by rfl, ?_⟩) (by assumption) ?_
  rotate_left
  · intro w hSw; (try dsimp only at hSw); go_simp; try with_reducible rfl
  try simp only [Act.put, List.getElem_toArray, List.getElem_cons_succ, List.getElem_cons_zero, List.setIfInBounds_toArray, List.set_cons_zero, List.set_cons_succ]
  refine wpAnyS_done (by kernel_rfl) ?_ _
  clear hHeld
  go_wp2_with fail
  go_ret
  exact ⟨rfl, hrb ▸ HB7.out⟩
end Go.Proofs.YtbpeienllhbffaaDoor
