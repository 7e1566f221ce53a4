/-
  The statements of layer 10: sets, of one range. Printed by wip/genr10s.py.
-/
import Derived.Test.YtkmfhcjdajbbhaaRefAdd
import Derived.Test.YtkmfhcjdajbbhaaPersistWorks
namespace Go.Proofs.Ytkmfhcjdajbbhaa
set_option linter.unusedSimpArgs false
set_option linter.unusedVariables false
open Go.RowKit

theorem add1 {w W : World} {b : Nat} (lo hi : Int) (hs : SAt w W b none 256 []) :
    Calls Try.prog 14 #[.pointer (some ⟨b, 0, none⟩), .int .i64 lo, .int .i64 hi] W fun e w' => (∃ z, e = .returned (.int .i64 z)) ∧ ∃ g', SAt w w' b g' 256 (oneR ⟨lo, hi⟩) ∧ (∀ k, g' = some k → W.heap.size ≤ k) ∧ Only [b] W w' := by
  by_cases h : 0 ≤ lo ∧ lo ≤ hi ∧ hi ≤ 9007199254740991
  · obtain ⟨h0, h1, h2⟩ := h
    have e1 : oneR ⟨lo, hi⟩ = addR lo hi [] := by
      have a1 : isT lo = true := by simp [isT]; omega
      have a2 : isT hi = true := by simp [isT]; omega
      simp [oneR, a1, a2, h1, addR]
    rw [e1]
    refine (add_ok b none 256 lo hi [] W hs.set h0 h1 h2 (by rw [← e1]; unfold oneR; split <;> simp)).mono ?_
    intro e w' hp
    have hp' := hp
    obtain ⟨he, g', g1, g2, g3⟩ := hp'
    obtain ⟨k1, k2, k3⟩ := hs.step hp
    refine ⟨⟨_, he⟩, g', ⟨g1, hs.nb, fun k hk => ?_, k3.below⟩, fun k hk => ?_, g3⟩
    · rcases g2 k hk with h | h
      · cases h
      · exact Nat.le_trans hs.below.size h
    · rcases g2 k hk with h | h
      · cases h
      · exact h
  · have e1 : oneR ⟨lo, hi⟩ = [] := by
      unfold oneR isT
      rw [if_neg]
      simp
      omega
    rw [e1]
    refine (add_arg b none 256 lo hi [] W hs.set (by omega)).mono ?_
    rintro e w' ⟨he, hb⟩
    exact ⟨⟨_, he⟩, none, hs.later hb, fun k hk => (by cases hk), only_of_below hb⟩

theorem sets_nil (w : World) : Calls Try.prog 58 #[.slice none 0 0] w fun e w' => e = .returned (.tuple #[.pointer none, .pointer none]) ∧ w = w' := by
  go_enter Try.func58, Try.ntmps58
  go_wp2
  go_ret2
  exact ⟨rfl, rfl⟩

structure StA (w W : World) (b b2 : Nat) : Prop where
  s : SAt w W b none 256 []
  r : Blk W b2 122 #[.int .i64 256, .slice none 0 0]
  nb : w.heap.size ≤ b2
  ne : b2 ≠ b
theorem StA.later {w W W' : World} {b b2 : Nat} (h : StA w W b b2) (hb : Below W.heap.size W W') : StA w W' b b2 := ⟨h.s.later hb, (hb.block _ h.r.lt).trans h.r, h.nb, h.ne⟩
structure StM (w W : World) (b b2 : Nat) (g : Option Nat) (rs : List Rg) : Prop where
  s : SAt w W b g 256 rs
  r : Blk W b2 122 #[.int .i64 256, .slice none 0 0]
  nb : w.heap.size ≤ b2
  ne : b2 ≠ b
  ng : ∀ k, g = some k → k ≠ b2
theorem StM.later {w W W' : World} {b b2 : Nat} {g : Option Nat} {rs : List Rg} (h : StM w W b b2 g rs) (hb : Below W.heap.size W W') : StM w W' b b2 g rs := ⟨h.s.later hb, (hb.block _ h.r.lt).trans h.r, h.nb, h.ne, h.ng⟩
theorem StA.step {w W W' : World} {b b2 : Nat} {g : Option Nat} {rs : List Rg} (h : StA w W b b2) (hs : SAt w W' b g 256 rs) (hg : ∀ k, g = some k → W.heap.size ≤ k) (ho : Only [b] W W') : StM w W' b b2 g rs :=
  ⟨hs, ho.blk h.r (by simpa using h.ne), h.nb, h.ne, fun k hk e => by have h1 := hg k hk; have h2 := h.r.lt; omega⟩
structure StZ (w W : World) (b b2 : Nat) (g : Option Nat) (rs : List Rg) : Prop where
  s : SAt w W b g 256 rs
  lt : b2 < W.heap.size
  r : RefL W b2 rs
theorem StM.step {w W W' : World} {b b2 : Nat} {g : Option Nat} {rs : List Rg} (h : StM w W b b2 g rs) (hr : RefL W' b2 rs) (ho : Only [b2] W W') : StZ w W' b b2 g rs :=
  ⟨⟨h.s.set.only ho (by simpa using fun e => h.ne e.symm) (fun k hk => by simpa using h.ng k hk), h.s.nb, h.s.ng, h.s.below.trans (ho.below (fun x hx => by simp at hx; subst hx; exact h.nb) h.s.below.size)⟩, Nat.lt_of_lt_of_le h.r.lt ho.size, hr⟩

set_option maxRecDepth 100000 in
set_option maxHeartbeats 2000000 in
theorem sets_one (a : Option Addr) (c : Nat) (r : Rg) (w : World) (hv : RgAt w a [r]) :
    Calls Try.prog 58 #[.slice a 1 c] w fun e w' => ∃ b b2 g, e = .returned (.tuple #[.pointer (some ⟨b, 0, none⟩), .pointer (some ⟨b2, 0, none⟩)]) ∧ StZ w w' b b2 g (oneR r) := by
  obtain ⟨k, rfl, hk, z0, z1⟩ := hv 0 r rfl
  have HV := hide hv
  clear hv
  obtain ⟨lo, hi⟩ := r
  dsimp only at z0 z1
  clear z0 z1 hk
  go_enter Try.func58, Try.ntmps58
  go_wp2_with fail
  refine (snew_ok 256 _ (by omega) (by omega)).mono ?_
  intro e0 w0 hp
  obtain ⟨b, rfl, h⟩ := SAt.fresh (w := w) hp (Below.refl _ _)
  clear hp
  go_wp2_with fail
  refine (r04new_ok _).mono ?_
  rintro e1 w1 ⟨rfl, hw1⟩
  have hA : StA w w1 b w0.heap.size := by
    subst hw1
    exact ⟨h.alloc _, Blk.new _ _ _, h.below.size, fun e => by have := h.set.lt.1; omega⟩
  obtain ⟨b2, hb2⟩ : ∃ b2, w0.heap.size = b2 := ⟨_, rfl⟩
  rw [hb2] at hA ⊢
  clear hw1 hb2 h
  go_wp2_with fail
  go_loopg [8] 1 (fun kx s8 wr => (s8 = .int .i64 0 ∧ kx = 1 ∧ StA w wr b b2) ∨ (s8 = .int .i64 1 ∧ ∃ g, StZ w wr b b2 g (oneR ⟨lo, hi⟩)))
  case atStart => exact Or.inl ⟨rfl, rfl, hA⟩
  case round =>
    clear hA
    rcases hrel with ⟨rfl, rfl, hs⟩ | ⟨rfl, g, hz⟩
    · obtain ⟨k', hk', hkl, z0, z1⟩ := (HV.out.below hs.s.below) 0 _ rfl
      obtain rfl : k = k' := by injection hk' with e1; injection e1
      dsimp only at z0 z1
      have HS := hide hs
      clear hs hk' hkl
      go_wp2_with fail
      refine wp_region_S (fun w' => w'.cell? ⟨k, 0 * 2, none⟩ = some (.int .i64 lo) ∧ w'.cell? ⟨k, 0 * 2 + 1, none⟩ = some (.int .i64 hi)) 1000 (by kernel_rfl) (by exact ⟨z0, z1⟩) (fun hHeld => ?_)
      refine wpAnyS_take (i := 0) (v := ?_) rfl (by kernel_rfl) (by kernel_rfl) (by kernel_rfl) (by kernel_rfl) (fun _ _ _ h => h) (Or.inl ⟨by rfl, ?_⟩) (by assumption) ?_
      rotate_left
      · intro w hSw; (try dsimp only at hSw); go_simp; try with_reducible rfl
      try simp only [Act.put, List.getElem_toArray, List.getElem_cons_succ, List.getElem_cons_zero, List.setIfInBounds_toArray, List.set_cons_zero, List.set_cons_succ]
      refine wpAnyS_take (i := 1) (v := ?_) rfl (by kernel_rfl) (by kernel_rfl) (by kernel_rfl) (by kernel_rfl) (fun _ _ _ h => h) (Or.inl ⟨by rfl, ?_⟩) (by assumption) ?_
      rotate_left
      · intro w hSw; (try dsimp only at hSw); go_simp; try with_reducible rfl
      try simp only [Act.put, List.getElem_toArray, List.getElem_cons_succ, List.getElem_cons_zero, List.setIfInBounds_toArray, List.set_cons_zero, List.set_cons_succ]
      refine wpAnyS_take (i := 2) (v := ?_) rfl (by kernel_rfl) (by kernel_rfl) (by kernel_rfl) (by kernel_rfl) (fun _ _ _ h => h) (Or.inl ⟨by rfl, ?_⟩) (by assumption) ?_
      rotate_left
      · intro w hSw; (try dsimp only at hSw); go_simp; try with_reducible rfl
      try simp only [Act.put, List.getElem_toArray, List.getElem_cons_succ, List.getElem_cons_zero, List.setIfInBounds_toArray, List.set_cons_zero, List.set_cons_succ]
      refine wpAnyS_take (i := 3) (v := ?_) rfl (by kernel_rfl) (by kernel_rfl) (by kernel_rfl) (by kernel_rfl) (fun _ _ _ h => h) (Or.inl ⟨by rfl, ?_⟩) (by assumption) ?_
      rotate_left
      · intro w hSw; (try dsimp only at hSw); go_simp; try with_reducible rfl
      try simp only [Act.put, List.getElem_toArray, List.getElem_cons_succ, List.getElem_cons_zero, List.setIfInBounds_toArray, List.set_cons_zero, List.set_cons_succ]
      refine wpAnyS_take (i := 4) (v := ?_) rfl (by kernel_rfl) (by kernel_rfl) (by kernel_rfl) (by kernel_rfl) (fun _ _ _ h => h) (Or.inl ⟨by rfl, ?_⟩) (by assumption) ?_
      rotate_left
      · intro w hSw; (try dsimp only at hSw); go_simp; try with_reducible rfl
      try simp only [Act.put, List.getElem_toArray, List.getElem_cons_succ, List.getElem_cons_zero, List.setIfInBounds_toArray, List.set_cons_zero, List.set_cons_succ]
      refine wpAnyS_take (i := 5) (v := ?_) rfl (by kernel_rfl) (by kernel_rfl) (by kernel_rfl) (by kernel_rfl) (fun _ _ _ h => h) (Or.inl ⟨by rfl, ?_⟩) (by assumption) ?_
      rotate_left
      · intro w hSw; (try dsimp only at hSw); go_simp; try with_reducible rfl
      try simp only [Act.put, List.getElem_toArray, List.getElem_cons_succ, List.getElem_cons_zero, List.setIfInBounds_toArray, List.set_cons_zero, List.set_cons_succ]
      refine wpAnyS_take (i := 6) (v := ?_) rfl (by kernel_rfl) (by kernel_rfl) (by kernel_rfl) (by kernel_rfl) (fun _ _ _ h => h) (Or.inl ⟨by rfl, ?_⟩) (by assumption) ?_
      rotate_left
      · intro w hSw; (try dsimp only at hSw); go_simp; try with_reducible rfl
      try simp only [Act.put, List.getElem_toArray, List.getElem_cons_succ, List.getElem_cons_zero, List.setIfInBounds_toArray, List.set_cons_zero, List.set_cons_succ]
      refine wpAnyS_take (i := 7) (v := ?_) rfl (by kernel_rfl) (by kernel_rfl) (by kernel_rfl) (by kernel_rfl) (fun _ _ _ h => h) (Or.inl ⟨by rfl, ?_⟩) (by assumption) ?_
      rotate_left
      · intro w hSw; (try dsimp only at hSw); go_simp; try with_reducible rfl
      try simp only [Act.put, List.getElem_toArray, List.getElem_cons_succ, List.getElem_cons_zero, List.setIfInBounds_toArray, List.set_cons_zero, List.set_cons_succ]
      refine wpAnyS_take (i := 8) (v := ?_) rfl (by kernel_rfl) (by kernel_rfl) (by kernel_rfl) (by kernel_rfl) (fun _ _ _ h => h) (Or.inl ⟨by rfl, ?_⟩) (by assumption) ?_
      rotate_left
      · intro w hSw; (try dsimp only at hSw); go_simp; try with_reducible rfl
      try simp only [Act.put, List.getElem_toArray, List.getElem_cons_succ, List.getElem_cons_zero, List.setIfInBounds_toArray, List.set_cons_zero, List.set_cons_succ]
      refine wpAnyS_take (i := 9) (v := ?_) rfl (by kernel_rfl) (by kernel_rfl) (by kernel_rfl) (by kernel_rfl) (fun _ _ _ h => h) (Or.inl ⟨by rfl, ?_⟩) (by assumption) ?_
      rotate_left
      · intro w hSw; (try dsimp only at hSw); go_simp; try with_reducible rfl
      try simp only [Act.put, List.getElem_toArray, List.getElem_cons_succ, List.getElem_cons_zero, List.setIfInBounds_toArray, List.set_cons_zero, List.set_cons_succ]
      refine wpAnyS_take (i := 10) (v := ?_) rfl (by kernel_rfl) (by kernel_rfl) (by kernel_rfl) (by kernel_rfl) (fun _ _ _ h => h) (Or.inl ⟨by rfl, ?_⟩) (by assumption) ?_
      rotate_left
      · intro w hSw; (try dsimp only at hSw); go_simp; try with_reducible rfl
      try simp only [Act.put, List.getElem_toArray, List.getElem_cons_succ, List.getElem_cons_zero, List.setIfInBounds_toArray, List.set_cons_zero, List.set_cons_succ]
      refine wpAnyS_one (i := 11) rfl (by kernel_rfl) (fun K hK => ?_)
      go_simp; go_at_call 14; refine (add1 lo hi (HS.out.later (by first | exact Below.refl _ _ | exact (Below.refl _ _).drew | exact below_drewN (Below.refl _ _) _)).s).mono ?_; rintro e5 w5 ⟨⟨z, rfl⟩, g5, h5, h6, h7⟩; have HM := hide ((HS.out.later (by first | exact Below.refl _ _ | exact (Below.refl _ _).drew | exact below_drewN (Below.refl _ _) _)).step h5 h6 h7); clear h5 h6 h7
      refine hK.out _ _ (fun _ => rgAt_cells10 (HV.out.below HM.out.s.below) (show [(⟨lo, hi⟩ : Rg)][0]? = some ⟨lo, hi⟩ from rfl)) (fun hH => ?_)
      have hHeld := hH rfl
      clear hK K hH
      try simp only [Act.put, List.getElem_toArray, List.getElem_cons_succ, List.getElem_cons_zero, List.setIfInBounds_toArray, List.set_cons_zero, List.set_cons_succ]
      refine wpAnyS_done (by kernel_rfl) ?_ _
      clear HS
      have z0 := hHeld.1
      have z1 := hHeld.2
      clear hHeld
      go_wp2_with fail
      refine wp_region_S (fun w' => w'.cell? ⟨k, 0 * 2, none⟩ = some (.int .i64 lo) ∧ w'.cell? ⟨k, 0 * 2 + 1, none⟩ = some (.int .i64 hi)) 1000 (by kernel_rfl) (by exact ⟨z0, z1⟩) (fun hHeld => ?_)
      refine wpAnyS_take (i := 0) (v := ?_) rfl (by kernel_rfl) (by kernel_rfl) (by kernel_rfl) (by kernel_rfl) (fun _ _ _ h => h) (Or.inl ⟨by rfl, ?_⟩) (by assumption) ?_
      rotate_left
      · intro w hSw; (try dsimp only at hSw); go_simp; try with_reducible rfl
      try simp only [Act.put, List.getElem_toArray, List.getElem_cons_succ, List.getElem_cons_zero, List.setIfInBounds_toArray, List.set_cons_zero, List.set_cons_succ]
      refine wpAnyS_take (i := 1) (v := ?_) rfl (by kernel_rfl) (by kernel_rfl) (by kernel_rfl) (by kernel_rfl) (fun _ _ _ h => h) (Or.inl ⟨by rfl, ?_⟩) (by assumption) ?_
      rotate_left
      · intro w hSw; (try dsimp only at hSw); go_simp; try with_reducible rfl
      try simp only [Act.put, List.getElem_toArray, List.getElem_cons_succ, List.getElem_cons_zero, List.setIfInBounds_toArray, List.set_cons_zero, List.set_cons_succ]
      refine wpAnyS_take (i := 2) (v := ?_) rfl (by kernel_rfl) (by kernel_rfl) (by kernel_rfl) (by kernel_rfl) (fun _ _ _ h => h) (Or.inl ⟨by rfl, ?_⟩) (by assumption) ?_
      rotate_left
      · intro w hSw; (try dsimp only at hSw); go_simp; try with_reducible rfl
      try simp only [Act.put, List.getElem_toArray, List.getElem_cons_succ, List.getElem_cons_zero, List.setIfInBounds_toArray, List.set_cons_zero, List.set_cons_succ]
      refine wpAnyS_take (i := 3) (v := ?_) rfl (by kernel_rfl) (by kernel_rfl) (by kernel_rfl) (by kernel_rfl) (fun _ _ _ h => h) (Or.inl ⟨by rfl, ?_⟩) (by assumption) ?_
      rotate_left
      · intro w hSw; (try dsimp only at hSw); go_simp; try with_reducible rfl
      try simp only [Act.put, List.getElem_toArray, List.getElem_cons_succ, List.getElem_cons_zero, List.setIfInBounds_toArray, List.set_cons_zero, List.set_cons_succ]
      refine wpAnyS_take (i := 4) (v := ?_) rfl (by kernel_rfl) (by kernel_rfl) (by kernel_rfl) (by kernel_rfl) (fun _ _ _ h => h) (Or.inl ⟨by rfl, ?_⟩) (by assumption) ?_
      rotate_left
      · intro w hSw; (try dsimp only at hSw); go_simp; try with_reducible rfl
      try simp only [Act.put, List.getElem_toArray, List.getElem_cons_succ, List.getElem_cons_zero, List.setIfInBounds_toArray, List.set_cons_zero, List.set_cons_succ]
      refine wpAnyS_take (i := 5) (v := ?_) rfl (by kernel_rfl) (by kernel_rfl) (by kernel_rfl) (by kernel_rfl) (fun _ _ _ h => h) (Or.inl ⟨by rfl, ?_⟩) (by assumption) ?_
      rotate_left
      · intro w hSw; (try dsimp only at hSw); go_simp; try with_reducible rfl
      try simp only [Act.put, List.getElem_toArray, List.getElem_cons_succ, List.getElem_cons_zero, List.setIfInBounds_toArray, List.set_cons_zero, List.set_cons_succ]
      refine wpAnyS_take (i := 6) (v := ?_) rfl (by kernel_rfl) (by kernel_rfl) (by kernel_rfl) (by kernel_rfl) (fun _ _ _ h => h) (Or.inl ⟨by rfl, ?_⟩) (by assumption) ?_
      rotate_left
      · intro w hSw; (try dsimp only at hSw); go_simp; try with_reducible rfl
      try simp only [Act.put, List.getElem_toArray, List.getElem_cons_succ, List.getElem_cons_zero, List.setIfInBounds_toArray, List.set_cons_zero, List.set_cons_succ]
      refine wpAnyS_take (i := 7) (v := ?_) rfl (by kernel_rfl) (by kernel_rfl) (by kernel_rfl) (by kernel_rfl) (fun _ _ _ h => h) (Or.inl ⟨by rfl, ?_⟩) (by assumption) ?_
      rotate_left
      · intro w hSw; (try dsimp only at hSw); go_simp; try with_reducible rfl
      try simp only [Act.put, List.getElem_toArray, List.getElem_cons_succ, List.getElem_cons_zero, List.setIfInBounds_toArray, List.set_cons_zero, List.set_cons_succ]
      refine wpAnyS_take (i := 8) (v := ?_) rfl (by kernel_rfl) (by kernel_rfl) (by kernel_rfl) (by kernel_rfl) (fun _ _ _ h => h) (Or.inl ⟨by rfl, ?_⟩) (by assumption) ?_
      rotate_left
      · intro w hSw; (try dsimp only at hSw); go_simp; try with_reducible rfl
      try simp only [Act.put, List.getElem_toArray, List.getElem_cons_succ, List.getElem_cons_zero, List.setIfInBounds_toArray, List.set_cons_zero, List.set_cons_succ]
      refine wpAnyS_take (i := 9) (v := ?_) rfl (by kernel_rfl) (by kernel_rfl) (by kernel_rfl) (by kernel_rfl) (fun _ _ _ h => h) (Or.inl ⟨by rfl, ?_⟩) (by assumption) ?_
      rotate_left
      · intro w hSw; (try dsimp only at hSw); go_simp; try with_reducible rfl
      try simp only [Act.put, List.getElem_toArray, List.getElem_cons_succ, List.getElem_cons_zero, List.setIfInBounds_toArray, List.set_cons_zero, List.set_cons_succ]
      refine wpAnyS_take (i := 10) (v := ?_) rfl (by kernel_rfl) (by kernel_rfl) (by kernel_rfl) (by kernel_rfl) (fun _ _ _ h => h) (Or.inl ⟨by rfl, ?_⟩) (by assumption) ?_
      rotate_left
      · intro w hSw; (try dsimp only at hSw); go_simp; try with_reducible rfl
      try simp only [Act.put, List.getElem_toArray, List.getElem_cons_succ, List.getElem_cons_zero, List.setIfInBounds_toArray, List.set_cons_zero, List.set_cons_succ]
      refine wpAnyS_one (i := 11) rfl (by kernel_rfl) (fun K hK => ?_)
      go_simp; go_at_call 83; refine (r04add0 b2 lo hi _ (HM.out.later (by first | exact Below.refl _ _ | exact (Below.refl _ _).drew | exact below_drewN (Below.refl _ _) _)).r).mono ?_; rintro e6 w6 ⟨⟨z2, rfl⟩, h5, h6⟩; have HZ := hide ((HM.out.later (by first | exact Below.refl _ _ | exact (Below.refl _ _).drew | exact below_drewN (Below.refl _ _) _)).step h5 h6); clear h5 h6
      refine hK.out _ _ (fun _ => rgAt_cells10 (HV.out.below HZ.out.s.below) (show [(⟨lo, hi⟩ : Rg)][0]? = some ⟨lo, hi⟩ from rfl)) (fun hH => ?_)
      have hHeld := hH rfl
      clear hK K hH
      try simp only [Act.put, List.getElem_toArray, List.getElem_cons_succ, List.getElem_cons_zero, List.setIfInBounds_toArray, List.set_cons_zero, List.set_cons_succ]
      refine wpAnyS_done (by kernel_rfl) ?_ _
      have hz := HZ.out
      clear HM HZ hHeld z0 z1
      go_wp2_with fail
      go_roundg 0
      case rel => exact Or.inr ⟨rfl, g5, hz⟩
      case measure => omega
    · go_wp2_with fail
      go_ret2
      exact ⟨b, b2, g, rfl, hz⟩
end Go.Proofs.Ytkmfhcjdajbbhaa
