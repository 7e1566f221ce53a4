/-
  Sets of ranges (package span): Add that finds no room.
-/
import Derived.Test.YtkmfhcjdajbbhaaSpanAdd
namespace Go.Proofs.Ytkmfhcjdajbbhaa
set_option linter.unusedSimpArgs false
set_option linter.unusedVariables false
open Go.RowKit

set_option maxRecDepth 100000 in
set_option maxHeartbeats 4000000 in
theorem add_limit (b : Nat) (g : Option Nat) (room : Nat) (lo hi : Int) (rs : List Rg) (w : World) (hS : IsSet w b g room rs) (l0 : 0 ≤ lo) (l1 : lo ≤ hi) (m1 : hi ≤ 9007199254740991) (hroom2 : room < (addR lo hi rs).length) :
    Calls Try.prog 14 #[.pointer (some ⟨b, 0, none⟩), .int .i64 lo, .int .i64 hi] w fun e w' => e = .returned (.int .i64 5) ∧ Below w.heap.size w w' := by
  obtain ⟨hlen, hr1, hroom⟩ := hS.len
  have hgood := hS.good
  have hb := hS.lt.1
  have HW : IsSet ((w.alloc (.cells #[.pointer (some ⟨b, 0, none⟩)] 23)).alloc (.cells #[.int .i64 hi] 3)) b g room rs := (hS.alloc _).alloc _
  have hW0 : Below w.heap.size w ((w.alloc (.cells #[.pointer (some ⟨b, 0, none⟩)] 23)).alloc (.cells #[.int .i64 hi] 3)) := ((Below.refl _ _).alloc (Nat.le_refl _) _).alloc (by simp) _
  have hx3 : Blk ((w.alloc (.cells #[.pointer (some ⟨b, 0, none⟩)] 23)).alloc (.cells #[.int .i64 hi] 3)) w.heap.size 23 #[.pointer (some ⟨b, 0, none⟩)] := (Blk.new w _ _).alloc _
  have hx5 : Blk ((w.alloc (.cells #[.pointer (some ⟨b, 0, none⟩)] 23)).alloc (.cells #[.int .i64 hi] 3)) (w.heap.size + 1) 3 #[.int .i64 hi] := blk_new_at (by simp)
  have l2 : lo ≤ 9007199254740991 := by omega
  have m0 : 0 ≤ hi := by omega
  have hnl : ¬ hi < lo := by omega
  have hw1 : IntKind.i64.wrap (lo - 1) = lo - 1 := by rw [IntKind.wrap_i64]; omega
  have HWW := hide hw1
  clear hw1
  go_enter Try.func14, Try.ntmps14
  obtain ⟨f, hf⟩ : ∃ f, fstHi (lo - 1) rs = f := ⟨_, rfl⟩
  obtain ⟨u, hu⟩ : ∃ u, fstLo (hi + 1) rs = u := ⟨_, rfl⟩
  obtain ⟨J, hJ⟩ : ∃ J, joined f u lo hi rs = J := ⟨_, rfl⟩
  have HF := hide hf
  have HU := hide hu
  have HJ := hide hJ
  have hfu : f ≤ u := by have := from_le_to hgood l1; omega
  have hun : u ≤ rs.length := by have := fstLe_lo (hi + 1) rs; omega
  clear hf hu hJ
  go_upto_if 39 with (first
    | (go_at_call 41; obtain ⟨a, c, c0, _, _, _, _, _⟩ := HW.cells; refine (snone_no b room _ c0 hr1).mono ?_; rintro e1 w1 ⟨rfl, rfl⟩)
    | (go_at_call_of 42 (Value.int IntKind.i64 lo); refine (sis_yes lo _ l0 l2).mono ?_; rintro e2 w2 ⟨rfl, rfl⟩) | (go_at_call 42; refine (sis_yes hi _ m0 m1).mono ?_; rintro e2 w2 ⟨rfl, rfl⟩)
    | (go_at_call 43; refine (first_any b g room (lo - 1) rs _ HW).mono ?_; rintro e3 w3 ⟨rfl, hb3⟩; rw [HF.out]; have HW3 := HW.below hb3; have hx33 := (only_of_below hb3 (S := [])).blk hx3 (by simp); have hx53 := (only_of_below hb3 (S := [])).blk hx5 (by simp); have hW3 := bw_below' hW0 hb3; have d3 : w3.cell? ⟨w.heap.size, 0, none⟩ = some (.pointer (some ⟨b, 0, none⟩)) := hx33.cell 0; have d5 : w3.cell? ⟨w.heap.size + 1, 0, none⟩ = some (.int .i64 hi) := hx53.cell 0; obtain ⟨a3, k3, s0, s1, hrow3, hB3, hown3, hat3⟩ := HW3.cells; have HAT3 := hide hat3; have HOWN3 := hide hown3; have HROW3 := hide hrow3; clear hat3 hown3 hrow3)
    | (go_at_call 44; refine (search_set b _ _ g room hi rs _ HW3 hx33 hx53 m0 m1).mono ?_; rintro e4 w4 ⟨rfl, hb4⟩; rw [HU.out]; have HW4 := HW3.below hb4; have hx34 := ((only_of_below hb4 (S := [])).blk hx33 (by simp)); have hx54 := ((only_of_below hb4 (S := [])).blk hx53 (by simp)); have hW4 := bw_below' hW3 hb4; have f3 : w4.cell? ⟨w.heap.size, 0, none⟩ = some (.pointer (some ⟨b, 0, none⟩)) := hx34.cell 0; have f5 : w4.cell? ⟨w.heap.size + 1, 0, none⟩ = some (.int .i64 hi) := hx54.cell 0; have hl5 := hx54.lt; have hl3 := hx34.lt))
  go_cut [] (fun wc => IsSet wc b g room rs ∧ Blk wc w.heap.size 23 #[.pointer (some ⟨b, 0, none⟩)] ∧ Blk wc (w.heap.size + 1) 3 #[.int .i64 hi] ∧ Blk wc w4.heap.size 62 #[.int .i64 J.lo, .int .i64 J.hi] ∧ Below w.heap.size w wc)
  case first =>
    have hb44 := HW4.lt.1
    have hg44 := fun k e => (HW4.lt.2 k e).1
    have h9 := Blk.new w4 62 #[.int .i64 lo, .int .i64 hi]
    have HW9 := HW4.alloc (.cells #[.int .i64 lo, .int .i64 hi] 62)
    have hx39 := hx34.alloc (.cells #[.int .i64 lo, .int .i64 hi] 62)
    have hx59 := hx54.alloc (.cells #[.int .i64 lo, .int .i64 hi] 62)
    have hW9 := bw_alloc' hW4 (.cells #[.int .i64 lo, .int .i64 hi] 62)
    clear HW3 hx33 hx53 hW3 HW4 hx34 hx54 hW4 f3 f5 d3 d5 hb4 hb3 HW hx3 hx5 hW0 s0 s1
    by_cases hlt : f < u
    · obtain ⟨m, rfl⟩ : ∃ m, u = m + 1 := ⟨u - 1, by omega⟩
      obtain ⟨x, hx⟩ : ∃ x, rs[f]? = some x := ⟨_, List.getElem?_eq_getElem (by omega)⟩
      obtain ⟨y, hy⟩ : ∃ y, rs[m]? = some y := ⟨_, List.getElem?_eq_getElem (by omega)⟩
      have e : J = ⟨min lo x.lo, max hi y.hi⟩ := by rw [← HJ.out]; unfold joined; rw [if_pos hlt, atR_some hx, Nat.add_sub_cancel, atR_some hy]
      refine name_world (fun W => IsSet W b g room rs ∧ Blk W w.heap.size 23 #[.pointer (some ⟨b, 0, none⟩)] ∧ Blk W (w.heap.size + 1) 3 #[.int .i64 hi] ∧ Blk W w4.heap.size 62 #[.int .i64 lo, .int .i64 hi] ∧ Below w.heap.size w W) ⟨HW9, hx39, hx59, h9, hW9⟩ ?_
      clear HW9 hx39 hx59 h9 hW9
      rintro W ⟨HW9, hx39, hx59, h9, hW9⟩
      obtain ⟨a9, k9, q0, q1, hv9, _, _, hat9⟩ := HW9.cells
      obtain ⟨k, rfl, hk, zx0, zx1⟩ := hat9 f x hx
      obtain ⟨k', hk', _, zy0, zy1⟩ := hat9 m y hy
      cases hk'
      clear hat9
      obtain ⟨X, hX⟩ : ∃ X, w4.heap.size = X := ⟨_, rfl⟩
      have hk44 := hg44 k hv9.symm
      have hg45 := hg44
      rw [hX] at h9 hb44 hl3 hl5 hk44 hg45 ⊢
      clear hg44
      have HXX := hide hX
      clear hX
      obtain ⟨X3, hX3⟩ : ∃ X, w.heap.size = X := ⟨_, rfl⟩
      obtain ⟨X5, hX5⟩ : ∃ X, X3 + 1 = X := ⟨_, rfl⟩
      rw [hX3] at hx39 hx59 hl3 hl5 hW9 ⊢
      rw [hX5] at hx59 hl5 ⊢
      have b1 : (0 : Int) ≤ (f : Int) := by omega
      have b2 : (f : Int) < (rs.length : Int) := by omega
      have b3 : (0 : Int) ≤ (m : Int) := by omega
      have b4 : (m : Int) < (rs.length : Int) := by omega
      have hwm : IntKind.i64.wrap (m : Int) = (m : Int) := by rw [IntKind.wrap_i64]; omega
      have hwn : IntKind.i64.wrap ((m : Int) + 1 - 1) = (m : Int) := by rw [IntKind.wrap_i64]; omega
      have hwo : IntKind.i64.wrap (((m + 1 : Nat) : Int) - 1) = (m : Int) := by rw [IntKind.wrap_i64]; omega
      have hmt : (m : Int).toNat = m := by omega
      have hP : (if x.lo < lo then x.lo else lo) = J.lo := by rw [e]; show _ = min lo x.lo; split <;> omega
      have hQ : (if hi < y.hi then y.hi else hi) = J.hi := by rw [e]; show _ = max hi y.hi; split <;> omega
      clear e
      have HX := hide hx
      have HY := hide hy
      have HX3 := hide hX3
      have HX5 := hide hX5
      clear hx hy hX3 hX5
      have hlt9 := h9.lt
      have q3 := hx39.cell 0
      have q5 := hx59.cell 0
      have y0 := h9.cell 0
      have y1 := h9.cell 1
      have y2 := h9.frozen 0
      have y3 := h9.frozen 1
      have n3 : X3 ≠ X := by omega
      have n5 : X5 ≠ X := by omega
      have nb : b ≠ X := by omega
      have nk : k ≠ X := by omega
      have N3 := hide n3
      have N5 := hide n5
      have NB := hide nb
      have NK := hide nk
      clear n3 n5 nb nk
      go_wp2_with fail
      go_region_held3 (fun w' => w'.cell? ⟨X3, 0, none⟩ = some (.pointer (some ⟨b, 0, none⟩)) ∧ w'.cell? ⟨X5, 0, none⟩ = some (.int .i64 hi) ∧ w'.cell? ⟨b, 1, none⟩ = some (.slice (some ⟨k, 0, none⟩) rs.length k9) ∧ w'.cell? ⟨k, f * 2, none⟩ = some (.int .i64 x.lo) ∧ w'.cell? ⟨k, m * 2 + 1, none⟩ = some (.int .i64 y.hi)) (first | exact ⟨q3, q5, q1, zx0, zy1⟩ | exact ⟨cfar (cfar q3 N3.out) N3.out, cfar (cfar q5 N5.out) N5.out, cfar (cfar q1 NB.out) NB.out, cfar (cfar zx0 NK.out) NK.out, cfar (cfar zy1 NK.out) NK.out⟩) (fail)
      all_goals
        go_wp2_with fail
        have hq1 := hW9.size
        have n3 := N3.out
        have n5 := N5.out
        have nb := NB.out
        have e5 := HX5.out
        have e3 := HX3.out
        have eX := HXX.out
        subst e5
        subst e3
        subst eX
        go_meet
        refine (fun (hO : Only [w4.heap.size] W _) h9' => ⟨HW9.only hO (by simpa using nb) (fun k' e => by rw [← hv9] at e; cases e; simpa using NK.out), hO.blk hx39 (by simpa using n3), hO.blk hx59 (by simpa using n5), h9', hW9.trans (hO.below (by simp; omega) (by omega))⟩) ?_ ?_
        · repeat (first | with_reducible refine Only.setCell ?_ (.inl (by simp)) _ | with_reducible refine Only.drewN ?_ _ | with_reducible refine Only.drew ?_)
          exact Only.refl _ _
        · exact (h9.set 0 (.int .i64 J.lo)).set 1 (.int .i64 J.hi)
    · have e : J = ⟨lo, hi⟩ := by rw [← HJ.out]; unfold joined; rw [if_neg hlt]
      subst e
      go_wp2_with fail
      go_meet
      exact ⟨HW9, hx39, hx59, h9, hW9⟩
  case rest =>
    have hbx := hW4.size
    clear HW3 hx33 hx53 hW3 HW4 hx34 hx54 hW4 f3 f5 d3 d5 hb4 hb3 HW hx3 hx5 hW0 s0 s1
    obtain ⟨HWc, hx3, hx5, h9, hWc⟩ := hcut
    have hlen2 : (room : Int) < (rs.length : Int) - ((u : Int) - (f : Int)) + 1 := by have := addR_length (lo := lo) (hi := hi) hgood l1; rw [HF.out, HU.out] at this; omega
    obtain ⟨ac, kc, q0, q1, hvc, hBc, hownc, _⟩ := HWc.cells
    have q3 := hx3.cell 0
    have q5 := hx5.cell 0
    have y0 := h9.cell 0
    have y1 := h9.cell 1
    have hwa : IntKind.i64.wrap ((u : Int) - (f : Int)) = (u : Int) - (f : Int) := by rw [IntKind.wrap_i64]; omega
    have hwb : IntKind.i64.wrap ((rs.length : Int) - ((u : Int) - (f : Int))) = (rs.length : Int) - ((u : Int) - (f : Int)) := by rw [IntKind.wrap_i64]; omega
    have hwc : IntKind.i64.wrap ((rs.length : Int) - ((u : Int) - (f : Int)) + 1) = (rs.length : Int) - ((u : Int) - (f : Int)) + 1 := by rw [IntKind.wrap_i64]; omega
    have HLL := hide hlen2
    have HV := hide hvc
    clear hvc
    go_wp2_with fail
    go_quiet (fail)
    go_wp2_with fail
    go_ret
    exact ⟨rfl, by first | exact below_drewN hWc _ | exact hWc⟩
end Go.Proofs.Ytkmfhcjdajbbhaa
