/-
  The statements of layer 10: set, four, works. Printed by wip/genworks10.py.
-/
import Derived.Test.YtkmfhcjdajbbhaaPersistHelp
import Derived.Test.YtkmfhcjdajbbhaaRegionStore
import Derived.Test.YtkmfhcjdajbbhaaSpanWorks
namespace Go.Proofs.Ytkmfhcjdajbbhaa
set_option linter.unusedSimpArgs false
set_option linter.unusedVariables false
open Go.RowKit

def setOf (xs : List Rg) : List Rg := xs.foldl (fun s r => addR r.lo r.hi s) []
def RgOk (r : Rg) : Prop := 0 ≤ r.lo ∧ r.lo ≤ r.hi ∧ r.hi ≤ 9007199254740991
theorem setOf_snoc (xs : List Rg) (r : Rg) : setOf (xs ++ [r]) = addR r.lo r.hi (setOf xs) := by simp [setOf]
theorem setOf_good_aux : ∀ (xs : List Rg) (s : List Rg), GoodR s → (∀ r ∈ xs, RgOk r) → GoodR (xs.foldl (fun s r => addR r.lo r.hi s) s) ∧ (xs.foldl (fun s r => addR r.lo r.hi s) s).length ≤ s.length + xs.length
  | [], s, hs, _ => ⟨hs, by simp⟩
  | r :: xs, s, hs, h => by
    obtain ⟨h0, h1, h2⟩ := h r (by simp)
    have hg := (addR_good hs h1 h0 h2).1
    obtain ⟨k1, k2⟩ := setOf_good_aux xs _ hg fun y hy => h y (by simp [hy])
    have := addR_le hs h1
    exact ⟨k1, by simp only [List.foldl_cons, List.length_cons]; omega⟩
theorem setOf_good {xs : List Rg} (h : ∀ r ∈ xs, RgOk r) : GoodR (setOf xs) ∧ (setOf xs).length ≤ xs.length := by
  have := setOf_good_aux xs [] GoodR.nil h
  simpa [setOf] using this
def SetPost (w : World) (rs : List Rg) (e : Ending) (w' : World) : Prop := ∃ b g, e = .returned (.pointer (some ⟨b, 0, none⟩)) ∧ SAt w w' b g 256 rs
set_option maxRecDepth 100000 in
set_option maxHeartbeats 2000000 in
theorem set10_any (a : Option Addr) (n cap : Nat) (xs : List Rg) (w : World) (hn : xs.length = n) (hl : n ≤ 200) (hv : RgAt w a xs) (hx : ∀ r ∈ xs, RgOk r) :
    Calls Try.prog 36 #[.slice a n cap] w (SetPost w (setOf xs)) := by
  have HV := hide hv
  have HX := hide hx
  have HN := hide hn
  clear hv hx hn
  go_enter Try.func36, Try.ntmps36
  go_wp2_with fail
  refine (snew_ok 256 _ (by omega) (by omega)).mono ?_
  intro e0 w0 hp
  obtain ⟨b, rfl, h⟩ := SAt.fresh (w := w) hp (Below.refl _ _)
  clear hp
  go_wp2_with fail
  go_loopg [5] n (fun kx s5 wr => ∃ (i : Nat) (g : Option Nat), s5 = .int .i64 i ∧ i ≤ n ∧ n - i ≤ kx ∧ SAt w wr b g 256 (setOf (xs.take i)))
  case atStart => exact ⟨0, none, rfl, by omega, by omega, h⟩
  case round =>
    clear h
    obtain ⟨i, g, rfl, hi, hkx, hs⟩ := hrel
    by_cases hlt : i < n
    · have hir : i < xs.length := by rw [HN.out]; exact hlt
      obtain ⟨r, hr⟩ : ∃ r, xs[i]? = some r := ⟨_, List.getElem?_eq_getElem hir⟩
      obtain ⟨h0, h1, h2⟩ := HX.out r (List.mem_of_getElem? hr)
      obtain ⟨k, rfl, hk, z0, z1⟩ := (HV.out.below hs.below) i r hr
      have HSN : Hid (setOf (xs.take (i + 1)) = addR r.lo r.hi (setOf (xs.take i))) := by
        show _ = _
        rw [List.take_add_one, hr]
        exact setOf_snoc _ _
      have hln := (setOf_good (xs := xs.take (i + 1)) (fun r hr => HX.out r (List.mem_of_mem_take hr))).2
      rw [HSN.out] at hln
      have hln2 : (addR r.lo r.hi (setOf (xs.take i))).length ≤ 256 := by
        have : (xs.take (i + 1)).length ≤ n := by rw [List.length_take, HN.out]; omega
        omega
      obtain ⟨lo, hi'⟩ := r
      dsimp only at *
      have hin : (i : Int) < (n : Int) := by omega
      have HLN := hide hln2
      have HR := hide hr
      clear hir hr hln hln2
      go_wp2_with fail
      refine wp_region_S (fun w' => w'.cell? ⟨k, i * 2, none⟩ = some (.int .i64 lo) ∧ w'.cell? ⟨k, i * 2 + 1, none⟩ = some (.int .i64 hi')) 1000 (by kernel_rfl) (by exact ⟨z0, z1⟩) (fun hHeld => ?_)
      refine wpAnyS_take (i := 0) (v := ?_) rfl (by kernel_rfl) (by kernel_rfl) (by kernel_rfl) (by kernel_rfl) (fun _ _ _ h => h) (Or.inl ⟨by rfl, ?_⟩) (by assumption) ?_
      rotate_left
      · intro w hSw; (try dsimp only at hSw); go_simp; try with_reducible rfl
      try simp only [Act.put, List.getElem_toArray, List.getElem_cons_succ, List.getElem_cons_zero, List.setIfInBounds_toArray, List.set_cons_zero, List.set_cons_succ]
      refine wpAnyS_take (i := 1) (v := ?_) rfl (by kernel_rfl) (by kernel_rfl) (by kernel_rfl) (by kernel_rfl) (fun _ _ _ h => h) (Or.inl ⟨by rfl, ?_⟩) (by assumption) ?_
      rotate_left
      · intro w hSw; (try dsimp only at hSw); go_simp; try with_reducible rfl
      try simp only [Act.put, List.getElem_toArray, List.getElem_cons_succ, List.getElem_cons_zero, List.setIfInBounds_toArray, List.set_cons_zero, List.set_cons_succ]
      refine wpAnyS_take (i := 2) (v := ?_) rfl (by kernel_rfl) (by kernel_rfl) (by kernel_rfl) (by kernel_rfl) (fun _ _ _ h => h) (Or.inl ⟨by rfl, ?_⟩) (by assumption) ?_
      rotate_left
      · intro w hSw; (try dsimp only at hSw); go_simp; try with_reducible rfl
      try simp only [Act.put, List.getElem_toArray, List.getElem_cons_succ, List.getElem_cons_zero, List.setIfInBounds_toArray, List.set_cons_zero, List.set_cons_succ]
      refine wpAnyS_take (i := 3) (v := ?_) rfl (by kernel_rfl) (by kernel_rfl) (by kernel_rfl) (by kernel_rfl) (fun _ _ _ h => h) (Or.inl ⟨by rfl, ?_⟩) (by assumption) ?_
      rotate_left
      · intro w hSw; (try dsimp only at hSw); go_simp; try with_reducible rfl
      try simp only [Act.put, List.getElem_toArray, List.getElem_cons_succ, List.getElem_cons_zero, List.setIfInBounds_toArray, List.set_cons_zero, List.set_cons_succ]
      refine wpAnyS_take (i := 4) (v := ?_) rfl (by kernel_rfl) (by kernel_rfl) (by kernel_rfl) (by kernel_rfl) (fun _ _ _ h => h) (Or.inl ⟨by rfl, ?_⟩) (by assumption) ?_
      rotate_left
      · intro w hSw; (try dsimp only at hSw); go_simp; try with_reducible rfl
      try simp only [Act.put, List.getElem_toArray, List.getElem_cons_succ, List.getElem_cons_zero, List.setIfInBounds_toArray, List.set_cons_zero, List.set_cons_succ]
      refine wpAnyS_take (i := 5) (v := ?_) rfl (by kernel_rfl) (by kernel_rfl) (by kernel_rfl) (by kernel_rfl) (fun _ _ _ h => h) (Or.inl ⟨by rfl, ?_⟩) (by assumption) ?_
      rotate_left
      · intro w hSw; (try dsimp only at hSw); go_simp; try with_reducible rfl
      try simp only [Act.put, List.getElem_toArray, List.getElem_cons_succ, List.getElem_cons_zero, List.setIfInBounds_toArray, List.set_cons_zero, List.set_cons_succ]
      refine wpAnyS_take (i := 6) (v := ?_) rfl (by kernel_rfl) (by kernel_rfl) (by kernel_rfl) (by kernel_rfl) (fun _ _ _ h => h) (Or.inl ⟨by rfl, ?_⟩) (by assumption) ?_
      rotate_left
      · intro w hSw; (try dsimp only at hSw); go_simp; try with_reducible rfl
      try simp only [Act.put, List.getElem_toArray, List.getElem_cons_succ, List.getElem_cons_zero, List.setIfInBounds_toArray, List.set_cons_zero, List.set_cons_succ]
      refine wpAnyS_take (i := 7) (v := ?_) rfl (by kernel_rfl) (by kernel_rfl) (by kernel_rfl) (by kernel_rfl) (fun _ _ _ h => h) (Or.inl ⟨by rfl, ?_⟩) (by assumption) ?_
      rotate_left
      · intro w hSw; (try dsimp only at hSw); go_simp; try with_reducible rfl
      try simp only [Act.put, List.getElem_toArray, List.getElem_cons_succ, List.getElem_cons_zero, List.setIfInBounds_toArray, List.set_cons_zero, List.set_cons_succ]
      refine wpAnyS_take (i := 8) (v := ?_) rfl (by kernel_rfl) (by kernel_rfl) (by kernel_rfl) (by kernel_rfl) (fun _ _ _ h => h) (Or.inl ⟨by rfl, ?_⟩) (by assumption) ?_
      rotate_left
      · intro w hSw; (try dsimp only at hSw); go_simp; try with_reducible rfl
      try simp only [Act.put, List.getElem_toArray, List.getElem_cons_succ, List.getElem_cons_zero, List.setIfInBounds_toArray, List.set_cons_zero, List.set_cons_succ]
      refine wpAnyS_take (i := 9) (v := ?_) rfl (by kernel_rfl) (by kernel_rfl) (by kernel_rfl) (by kernel_rfl) (fun _ _ _ h => h) (Or.inl ⟨by rfl, ?_⟩) (by assumption) ?_
      rotate_left
      · intro w hSw; (try dsimp only at hSw); go_simp; try with_reducible rfl
      try simp only [Act.put, List.getElem_toArray, List.getElem_cons_succ, List.getElem_cons_zero, List.setIfInBounds_toArray, List.set_cons_zero, List.set_cons_succ]
      refine wpAnyS_take (i := 10) (v := ?_) rfl (by kernel_rfl) (by kernel_rfl) (by kernel_rfl) (by kernel_rfl) (fun _ _ _ h => h) (Or.inl ⟨by rfl, ?_⟩) (by assumption) ?_
      rotate_left
      · intro w hSw; (try dsimp only at hSw); go_simp; try with_reducible rfl
      try simp only [Act.put, List.getElem_toArray, List.getElem_cons_succ, List.getElem_cons_zero, List.setIfInBounds_toArray, List.set_cons_zero, List.set_cons_succ]
      refine wpAnyS_one (i := 11) rfl (by kernel_rfl) (fun K hK => ?_)
      go_simp; go_at_call 14; refine (add_ok b g 256 lo hi' _ _ (hs.later (by first | exact Below.refl _ _ | exact below_drewN (Below.refl _ _) _)).set h0 h1 h2 HLN.out).mono ?_; intro e5 w5 hp; obtain ⟨rfl, g5, h5⟩ := (hs.later (by first | exact Below.refl _ _ | exact below_drewN (Below.refl _ _) _)).step hp
      refine hK.out _ _ (fun _ => rgAt_cells10 (HV.out.below h5.below) (show xs[i]? = some ⟨lo, hi'⟩ from HR.out)) (fun hH => ?_)
      have hHeld := hH rfl
      clear hK K hH
      try simp only [Act.put, List.getElem_toArray, List.getElem_cons_succ, List.getElem_cons_zero, List.setIfInBounds_toArray, List.set_cons_zero, List.set_cons_succ]
      refine wpAnyS_done (by kernel_rfl) ?_ _
      go_wp2_with fail
      go_roundg (n - (i + 1))
      case rel => exact ⟨i + 1, g5, by go_num, by omega, by omega, by rw [HSN.out]; exact h5⟩
      case measure => omega
    · obtain rfl : i = n := by omega
      have hin : ¬ (i : Int) < (i : Int) := by omega
      go_wp2_with fail
      go_ret
      refine ⟨b, g, rfl, ?_⟩
      rw [List.take_of_length_le (by rw [HN.out]; exact Nat.le_refl _)] at hs
      exact hs

theorem pkC_length (p : PK) : (pkC p).toList.length = 6 := rfl
theorem pksAt_new {w : World} {k t : Nat} {cs : Array Value} {ps : List PK} (h : Blk w k t cs) (e : cs = (ps.flatMap fun p => (pkC p).toList).toArray) (hs : ∀ p ∈ ps, p.small) : PksAt w (some ⟨k, 0, none⟩) ps := ⟨hs, fun i p hi => by
  subst e
  refine ⟨k, 0, rfl, h.lt, fun j v hj => ?_⟩
  rw [Nat.zero_add, h.cell, List.getElem?_toArray]
  have hj6 : j < 6 := by
    have := (Array.getElem?_eq_some_iff.1 hj).1
    exact this
  exact (flat_cell (fun p => (pkC p).toList) 6 pkC_length ps i j hj6).trans (by rw [hi]; simpa using hj)⟩
def fourP : List PK := [atP 1 10, atP 3 50, atP 5 60, atP 8 200]
theorem atP_small {n t : Int} (h : -9223372036854775808 ≤ n ∧ n ≤ 9223372036854775807) (h2 : -9223372036854775808 ≤ t ∧ t ≤ 9223372036854775807) : (atP n t).small := ⟨h, h2, by show -9223372036854775808 ≤ (100 : Int); decide, by show (100 : Int) ≤ 9223372036854775807; decide⟩
def FourPost (w : World) (e : Ending) (w' : World) : Prop := ∃ k, e = .returned (.slice (some ⟨k, 0, none⟩) 4 4) ∧ PksAt w' (some ⟨k, 0, none⟩) fourP ∧ k < w'.heap.size ∧ Below w.heap.size w w'
set_option maxHeartbeats 1000000 in
theorem four10_any (w : World) : Calls Try.prog 33 #[] w (FourPost w) := by
  go_enter Try.func33, Try.ntmps33
  go_wp2_with fail
  refine (at10_any _ _ _).mono ?_
  rintro e1 w1 ⟨rfl, hb1⟩
  go_wp2_with fail
  refine (at10_any _ _ _).mono ?_
  rintro e2 w2 ⟨rfl, hb2⟩
  have hb2 := bw_below' hb1 hb2
  clear hb1
  go_wp2_with fail
  refine (at10_any _ _ _).mono ?_
  rintro e3 w3 ⟨rfl, hb3⟩
  have hb3 := bw_below' hb2 hb3
  clear hb2
  go_wp2_with fail
  refine (at10_any _ _ _).mono ?_
  rintro e4 w4 ⟨rfl, hb4⟩
  have hb4 := bw_below' hb3 hb4
  clear hb3
  unfold pkV pkC atP
  go_wp2_with fail
  go_ret
  exact ⟨w4.heap.size, rfl, pksAt_new (Blk.new w4 55 _) rfl (by
    intro p hp
    unfold fourP at hp
    simp at hp
    rcases hp with rfl | rfl | rfl | rfl <;> exact atP_small (by decide) (by decide)), by simp, bw_below' hb4 ((Below.refl _ _).alloc (Nat.le_refl _) _)⟩
end Go.Proofs.Ytkmfhcjdajbbhaa
