/-
  Sets of ranges: Add, Copy, Cut: 6 texts in one (SpanAdd, SpanAdd2, SpanCopy, SpanEq, SpanDelete, SpanCut).
-/
import Derived.Test.YtgicljeedegncaaGreatMgSpanB
import Derived.Deep.RegionHeld3
import Derived.Test.YtgicljeedegncaaGreatMgBase
import Derived.Deep.DeepCutAuto
import Derived.Lib.SliceRun
import Derived.Lib.BufferMore
namespace Go.Proofs.YtgicljeedegncaaGreat
set_option linter.unusedVariables false
set_option linter.unusedSimpArgs false
open Go.RowKit

set_option maxHeartbeats 1000000 in
theorem add_arg (b : Nat) (g : Option Nat) (room : Nat) (lo hi : Int) (rs : List Rg) (w : World) (hS : IsSet w b g room rs) (h : lo < 0 ∨ 9007199254740991 < lo ∨ hi < 0 ∨ 9007199254740991 < hi ∨ hi < lo) :
    Calls Tryz.prog 63 #[.pointer (some ⟨b, 0, none⟩), .int .i64 lo, .int .i64 hi] w fun e w' => e = .returned (.int .i64 2) ∧ Below w.heap.size w w' := by
  obtain ⟨hlen, hr1, hroom⟩ := hS.len
  obtain ⟨a, c, c0, c1, _, _, _, hat⟩ := hS.cells
  have hb := hS.lt.1
  have HNO := hide (snone_no b room ((w.alloc (.cells #[.pointer (some ⟨b, 0, none⟩)] 76)).alloc (.cells #[.int .i64 hi] 3)) ((World.cell?_alloc_lt _ _ _ (by simp; omega)).trans ((World.cell?_alloc_lt _ _ _ hb).trans c0)) hr1)
  have hfin : Below w.heap.size w ((w.alloc (.cells #[.pointer (some ⟨b, 0, none⟩)] 76)).alloc (.cells #[.int .i64 hi] 3)) := ((Below.refl _ _).alloc (Nat.le_refl _) _).alloc (by simp) _
  have H := hide h
  clear h hat c0 c1 hS
  by_cases h1 : lo < 0 ∨ 9007199254740991 < lo
  · have H1 := hide h1
    clear h1
    go_enter Tryz.func63, Tryz.ntmps63
    go_wp2_with (first | (go_at_call 112; refine HNO.out.mono ?_; rintro e1 w1 ⟨rfl, rfl⟩) | (go_at_call 113; refine (sis_no lo _ H1.out).mono ?_; rintro e2 w2 ⟨rfl, rfl⟩))
    go_ret
    exact ⟨rfl, hfin⟩
  · have l0 : 0 ≤ lo := by omega
    have l1 : lo ≤ 9007199254740991 := by omega
    clear h1
    by_cases h2 : hi < 0 ∨ 9007199254740991 < hi
    · have H2 := hide h2
      by_cases hne : lo = hi
      · exact absurd hne (by rintro rfl; have := H2.out; omega)
      clear h2 hne
      go_enter Tryz.func63, Tryz.ntmps63
      go_wp2_with (first | (go_at_call 112; refine HNO.out.mono ?_; rintro e1 w1 ⟨rfl, rfl⟩) | (go_at_call_of 113 (Value.int IntKind.i64 lo); refine (sis_yes lo _ l0 l1).mono ?_; rintro e2 w2 ⟨rfl, rfl⟩) | (go_at_call 113; refine (sis_no hi _ H2.out).mono ?_; rintro e2 w2 ⟨rfl, rfl⟩))
      go_ret
      exact ⟨rfl, hfin⟩
    · have m0 : 0 ≤ hi := by omega
      have m1 : hi ≤ 9007199254740991 := by omega
      have h3 : hi < lo := by have := H.out; omega
      clear h2
      go_enter Tryz.func63, Tryz.ntmps63
      go_wp2_with (first | (go_at_call 112; refine HNO.out.mono ?_; rintro e1 w1 ⟨rfl, rfl⟩) | (go_at_call_of 113 (Value.int IntKind.i64 lo); refine (sis_yes lo _ l0 l1).mono ?_; rintro e2 w2 ⟨rfl, rfl⟩) | (go_at_call 113; refine (sis_yes hi _ m0 m1).mono ?_; rintro e2 w2 ⟨rfl, rfl⟩))
      go_ret
      exact ⟨rfl, hfin⟩


theorem name_world {P : Program} {c : Code} {Q : Exit → Act → World → Prop} {a : Act} {w : World} (R : World → Prop) (hR : R w) (h : ∀ W, R W → c.wp P Q a W) : c.wp P Q a w := h w hR
theorem own_slice' {w : World} {base e size n : Nat} {v : Value} {xs : List Value} (h : w.ownsRow base e size v n xs) : ∃ A c, v = .slice A n c := by
  rcases h.2 with ⟨h0, h1⟩ | ⟨g, cap, cur, hv, _⟩
  · exact ⟨none, 0, by rw [h0, h1]⟩
  · exact ⟨_, _, hv⟩
theorem own_slice3 {w : World} {base e size n : Nat} {v : Value} {xs : List Value} (h : w.ownsRow base e size v n xs) : ∃ A m c, v = .slice A m c := by
  obtain ⟨A, c, e⟩ := own_slice' h
  exact ⟨A, n, c, e⟩
theorem cfar {w : World} {g X i j : Nat} {u v : Value} (h : w.cell? ⟨g, i, none⟩ = some v) (hne : g ≠ X) : (w.setCell ⟨X, j, none⟩ u).cell? ⟨g, i, none⟩ = some v := (World.cell?_setCell_other w ⟨X, j, none⟩ ⟨g, i, none⟩ u (by intro e; cases e; exact hne rfl)).trans h
theorem bw_below' {w w1 w2 : World} (h : Below w.heap.size w w1) (hB : Below w1.heap.size w1 w2) : Below w.heap.size w w2 := h.trans (hB.mono h.size)
theorem bw_alloc' {w w1 : World} (h : Below w.heap.size w w1) (o : Obj) : Below w.heap.size w (w1.alloc o) := h.alloc h.size o
theorem bw_only' {S : List Nat} {w w1 w2 : World} (h : Below w.heap.size w w1) (hO : Only S w1 w2) : Only S w w2 := (only_of_below (S := S) h).trans hO (fun x hx => .inl hx)
/-- What Add leaves, told. -/
def SAddPost (w : World) (b : Nat) (g : Option Nat) (room : Nat) (ys : List Rg) (e : Ending) (w' : World) : Prop :=
  e = .returned (.int .i64 0) ∧ ∃ g', IsSet w' b g' room ys ∧ (∀ k, g' = some k → g = some k ∨ w.heap.size ≤ k) ∧ Only (b :: g.toList) w w'

theorem add_done {w W w5 : World} {b room B : Nat} {g : Option Nat} {ys : List Rg} {v0 : Value} {a5 : Option Addr} {n5 c5 : Nat} (hr1 : 1 ≤ room) (hr2 : room ≤ 256) (hl : ys.length ≤ room) (hg : GoodR ys) (hbb : Blk w5 b 121 #[.int .i64 room, v0])
    (hown : w5.ownsRow 0 93 2 (.slice a5 n5 c5) ys.length (rgsCells ys)) (hO : Only g.toList W w5) (hB : ∀ k, (Value.slice a5 n5 c5).ownBlock = some k → g = some k ∨ B ≤ k) (hW : Below w.heap.size w W) (hb : b < w.heap.size)
    (hgl : ∀ k, g = some k → k < w.heap.size ∧ k ≠ b) (hBB : W.heap.size ≤ B) : SAddPost w b g room ys (.returned (.int .i64 0)) (w5.setCell ⟨b, 1, none⟩ (.slice a5 n5 c5)) := by
  have hsz := hW.size
  refine ⟨rfl, _, ⟨hr1, hr2, hl, hg, _, rfl, (hbb.set 1 (.slice a5 n5 c5)).eq rfl, own_only2 (S := [b]) hown ((Only.refl _ _).setCell (.inl (by simp)) _) (fun k hk hm => ?_)⟩, fun k hk => ?_, ?_⟩
  · simp at hm
    subst hm
    rcases hB _ hk with h | h
    · exact (hgl _ h).2 rfl
    · omega
  · rcases hB k hk with h | h
    · exact .inl h
    · exact .inr (by omega)
  · exact (bw_only' hW (hO.mono (S' := b :: g.toList) (fun x hx => .inl (by simp at hx ⊢; exact .inr hx)))).setCell (.inl (by simp)) _
theorem search_set (b X3 X5 : Nat) (g : Option Nat) (room : Nat) (hi : Int) (rs : List Rg) (W : World) (hS : IsSet W b g room rs) (h3 : Blk W X3 76 #[.pointer (some ⟨b, 0, none⟩)]) (h5 : Blk W X5 3 #[.int .i64 hi]) (m0 : 0 ≤ hi) (m1 : hi ≤ 9007199254740991) :
    Calls Tryz.prog 115 #[.int .i64 rs.length, .func (.func 116) #[] #[.pointer (some ⟨X3, 0, none⟩), .pointer (some ⟨X5, 0, none⟩)]] W fun e w' => e = .returned (.int .i64 (fstLo (hi + 1) rs)) ∧ Below W.heap.size W w' := by
  obtain ⟨hlen, _, hroom⟩ := hS.len
  have hgood := hS.good
  obtain ⟨a, c, c0, c1, _, _, _, hat⟩ := hS.cells
  refine (search_add ⟨X3, 0, none⟩ ⟨X5, 0, none⟩ rs.length (fstLo (hi + 1) rs) (fun i => decide (hi + 1 < (atR rs i).lo)) W (by omega) (fun d i hil => ?_) (fstLe_lo _ _) (fun i hil => ?_) (fun i hil hl => ?_)).mono (fun e w' ⟨he, q, hq⟩ => ⟨he, hq ▸ below_drewN (Below.refl _ _) q⟩)
  · obtain ⟨r, hr⟩ : ∃ r, rs[i]? = some r := ⟨_, List.getElem?_eq_getElem hil⟩
    obtain ⟨k, rfl, hk, z0, z1⟩ := hat i r hr
    rw [atR_some hr]
    exact add1_any _ _ b k i rs.length c hi r.lo _ (h3.cell 0) (h5.cell 0) c1 z0 (by omega) (by omega) m0 m1
  · have hl : i < rs.length := Nat.lt_of_lt_of_le hil (fstLe_lo _ rs)
    have := fstLo_lt hil (List.getElem?_eq_getElem hl)
    rw [atR_some (List.getElem?_eq_getElem hl)]
    simp; omega
  · have := fstLo_ge hgood hil (List.getElem?_eq_getElem hl)
    rw [atR_some (List.getElem?_eq_getElem hl)]
    simp; omega

set_option maxRecDepth 100000 in
set_option maxHeartbeats 4000000 in
theorem add_ok (b : Nat) (g : Option Nat) (room : Nat) (lo hi : Int) (rs : List Rg) (w : World) (hS : IsSet w b g room rs) (l0 : 0 ≤ lo) (l1 : lo ≤ hi) (m1 : hi ≤ 9007199254740991) (hroom2 : (addR lo hi rs).length ≤ room) :
    Calls Tryz.prog 63 #[.pointer (some ⟨b, 0, none⟩), .int .i64 lo, .int .i64 hi] w (SAddPost w b g room (addR lo hi rs)) := by
  obtain ⟨hlen, hr1, hroom⟩ := hS.len
  have hgood := hS.good
  have hb := hS.lt.1
  have HW : IsSet ((w.alloc (.cells #[.pointer (some ⟨b, 0, none⟩)] 76)).alloc (.cells #[.int .i64 hi] 3)) b g room rs := (hS.alloc _).alloc _
  have hW0 : Below w.heap.size w ((w.alloc (.cells #[.pointer (some ⟨b, 0, none⟩)] 76)).alloc (.cells #[.int .i64 hi] 3)) := ((Below.refl _ _).alloc (Nat.le_refl _) _).alloc (by simp) _
  have hx3 : Blk ((w.alloc (.cells #[.pointer (some ⟨b, 0, none⟩)] 76)).alloc (.cells #[.int .i64 hi] 3)) w.heap.size 76 #[.pointer (some ⟨b, 0, none⟩)] := (Blk.new w _ _).alloc _
  have hx5 : Blk ((w.alloc (.cells #[.pointer (some ⟨b, 0, none⟩)] 76)).alloc (.cells #[.int .i64 hi] 3)) (w.heap.size + 1) 3 #[.int .i64 hi] := blk_new_at (by simp)
  have l2 : lo ≤ 9007199254740991 := by omega
  have m0 : 0 ≤ hi := by omega
  have hnl : ¬ hi < lo := by omega
  have hw1 : IntKind.i64.wrap (lo - 1) = lo - 1 := by rw [IntKind.wrap_i64]; omega
  have HWW := hide hw1
  clear hw1
  go_enter Tryz.func63, Tryz.ntmps63
  obtain ⟨f, hf⟩ : ∃ f, fstHi (lo - 1) rs = f := ⟨_, rfl⟩
  obtain ⟨u, hu⟩ : ∃ u, fstLo (hi + 1) rs = u := ⟨_, rfl⟩
  obtain ⟨J, hJ⟩ : ∃ J, joined f u lo hi rs = J := ⟨_, rfl⟩
  have HF := hide hf
  have HU := hide hu
  have HJ := hide hJ
  have hfu : f ≤ u := by have := from_le_to hgood l1; omega
  have hun : u ≤ rs.length := by have := fstLe_lo (hi + 1) rs; omega
  clear hf hu hJ
  go_upto_if 39 with (first
    | (go_at_call 112; obtain ⟨a, c, c0, _, _, _, _, _⟩ := HW.cells; refine (snone_no b room _ c0 hr1).mono ?_; rintro e1 w1 ⟨rfl, rfl⟩)
    | (go_at_call_of 113 (Value.int IntKind.i64 lo); refine (sis_yes lo _ l0 l2).mono ?_; rintro e2 w2 ⟨rfl, rfl⟩) | (go_at_call 113; refine (sis_yes hi _ m0 m1).mono ?_; rintro e2 w2 ⟨rfl, rfl⟩)
    | (go_at_call 114; refine (first_any b g room (lo - 1) rs _ HW).mono ?_; rintro e3 w3 ⟨rfl, hb3⟩; rw [HF.out]; have HW3 := HW.below hb3; have hx33 := (only_of_below hb3 (S := [])).blk hx3 (by simp); have hx53 := (only_of_below hb3 (S := [])).blk hx5 (by simp); have hW3 := bw_below' hW0 hb3; have d3 : w3.cell? ⟨w.heap.size, 0, none⟩ = some (.pointer (some ⟨b, 0, none⟩)) := hx33.cell 0; have d5 : w3.cell? ⟨w.heap.size + 1, 0, none⟩ = some (.int .i64 hi) := hx53.cell 0; obtain ⟨a3, k3, s0, s1, hrow3, hB3, hown3, hat3⟩ := HW3.cells; have HAT3 := hide hat3; have HOWN3 := hide hown3; have HROW3 := hide hrow3; clear hat3 hown3 hrow3)
    | (go_at_call 115; refine (search_set b _ _ g room hi rs _ HW3 hx33 hx53 m0 m1).mono ?_; rintro e4 w4 ⟨rfl, hb4⟩; rw [HU.out]; have HW4 := HW3.below hb4; have hx34 := ((only_of_below hb4 (S := [])).blk hx33 (by simp)); have hx54 := ((only_of_below hb4 (S := [])).blk hx53 (by simp)); have hW4 := bw_below' hW3 hb4; have f3 : w4.cell? ⟨w.heap.size, 0, none⟩ = some (.pointer (some ⟨b, 0, none⟩)) := hx34.cell 0; have f5 : w4.cell? ⟨w.heap.size + 1, 0, none⟩ = some (.int .i64 hi) := hx54.cell 0; have hl5 := hx54.lt; have hl3 := hx34.lt))
  go_cut [] (fun wc => IsSet wc b g room rs ∧ Blk wc w.heap.size 76 #[.pointer (some ⟨b, 0, none⟩)] ∧ Blk wc (w.heap.size + 1) 3 #[.int .i64 hi] ∧ Blk wc w4.heap.size 93 #[.int .i64 J.lo, .int .i64 J.hi] ∧ Below w.heap.size w wc)
  case first =>
    have hb44 := HW4.lt.1
    have hg44 := fun k e => (HW4.lt.2 k e).1
    have h9 := Blk.new w4 93 #[.int .i64 lo, .int .i64 hi]
    have HW9 := HW4.alloc (.cells #[.int .i64 lo, .int .i64 hi] 93)
    have hx39 := hx34.alloc (.cells #[.int .i64 lo, .int .i64 hi] 93)
    have hx59 := hx54.alloc (.cells #[.int .i64 lo, .int .i64 hi] 93)
    have hW9 := bw_alloc' hW4 (.cells #[.int .i64 lo, .int .i64 hi] 93)
    clear HW3 hx33 hx53 hW3 HW4 hx34 hx54 hW4 f3 f5 d3 d5 hb4 hb3 HW hx3 hx5 hW0 s0 s1
    by_cases hlt : f < u
    · obtain ⟨m, rfl⟩ : ∃ m, u = m + 1 := ⟨u - 1, by omega⟩
      obtain ⟨x, hx⟩ : ∃ x, rs[f]? = some x := ⟨_, List.getElem?_eq_getElem (by omega)⟩
      obtain ⟨y, hy⟩ : ∃ y, rs[m]? = some y := ⟨_, List.getElem?_eq_getElem (by omega)⟩
      have e : J = ⟨min lo x.lo, max hi y.hi⟩ := by rw [← HJ.out]; unfold joined; rw [if_pos hlt, atR_some hx, Nat.add_sub_cancel, atR_some hy]
      refine name_world (fun W => IsSet W b g room rs ∧ Blk W w.heap.size 76 #[.pointer (some ⟨b, 0, none⟩)] ∧ Blk W (w.heap.size + 1) 3 #[.int .i64 hi] ∧ Blk W w4.heap.size 93 #[.int .i64 lo, .int .i64 hi] ∧ Below w.heap.size w W) ⟨HW9, hx39, hx59, h9, hW9⟩ ?_
      clear HW9 hx39 hx59 h9 hW9
      rintro W ⟨HW9, hx39, hx59, h9, hW9⟩
      obtain ⟨a9, k9, q0, q1, hv9, _, _, hat9⟩ := HW9.cells
      obtain ⟨k, rfl, hk, zx0, zx1⟩ := hat9 f x hx
      obtain ⟨k', hk', _, zy0, zy1⟩ := hat9 m y hy
      cases hk'
      clear hat9
      obtain ⟨X, hX⟩ : ∃ X, w4.heap.size = X := ⟨_, rfl⟩
      have hk44 := hg44 k hv9.symm
      have hg45 := hg44
      rw [hX] at h9 hb44 hl3 hl5 hk44 hg45 ⊢
      clear hg44
      have HXX := hide hX
      clear hX
      obtain ⟨X3, hX3⟩ : ∃ X, w.heap.size = X := ⟨_, rfl⟩
      obtain ⟨X5, hX5⟩ : ∃ X, X3 + 1 = X := ⟨_, rfl⟩
      rw [hX3] at hx39 hx59 hl3 hl5 hW9 ⊢
      rw [hX5] at hx59 hl5 ⊢
      have b1 : (0 : Int) ≤ (f : Int) := by omega
      have b2 : (f : Int) < (rs.length : Int) := by omega
      have b3 : (0 : Int) ≤ (m : Int) := by omega
      have b4 : (m : Int) < (rs.length : Int) := by omega
      have hwm : IntKind.i64.wrap (m : Int) = (m : Int) := by rw [IntKind.wrap_i64]; omega
      have hwn : IntKind.i64.wrap ((m : Int) + 1 - 1) = (m : Int) := by rw [IntKind.wrap_i64]; omega
      have hwo : IntKind.i64.wrap (((m + 1 : Nat) : Int) - 1) = (m : Int) := by rw [IntKind.wrap_i64]; omega
      have hmt : (m : Int).toNat = m := by omega
      have hP : (if x.lo < lo then x.lo else lo) = J.lo := by rw [e]; show _ = min lo x.lo; split <;> omega
      have hQ : (if hi < y.hi then y.hi else hi) = J.hi := by rw [e]; show _ = max hi y.hi; split <;> omega
      clear e
      have HX := hide hx
      have HY := hide hy
      have HX3 := hide hX3
      have HX5 := hide hX5
      clear hx hy hX3 hX5
      have hlt9 := h9.lt
      have q3 := hx39.cell 0
      have q5 := hx59.cell 0
      have y0 := h9.cell 0
      have y1 := h9.cell 1
      have y2 := h9.frozen 0
      have y3 := h9.frozen 1
      have n3 : X3 ≠ X := by omega
      have n5 : X5 ≠ X := by omega
      have nb : b ≠ X := by omega
      have nk : k ≠ X := by omega
      have N3 := hide n3
      have N5 := hide n5
      have NB := hide nb
      have NK := hide nk
      clear n3 n5 nb nk
      go_wp2_with fail
      go_region_held3 (fun w' => w'.cell? ⟨X3, 0, none⟩ = some (.pointer (some ⟨b, 0, none⟩)) ∧ w'.cell? ⟨X5, 0, none⟩ = some (.int .i64 hi) ∧ w'.cell? ⟨b, 1, none⟩ = some (.slice (some ⟨k, 0, none⟩) rs.length k9) ∧ w'.cell? ⟨k, f * 2, none⟩ = some (.int .i64 x.lo) ∧ w'.cell? ⟨k, m * 2 + 1, none⟩ = some (.int .i64 y.hi)) (first | exact ⟨q3, q5, q1, zx0, zy1⟩ | exact ⟨cfar (cfar q3 N3.out) N3.out, cfar (cfar q5 N5.out) N5.out, cfar (cfar q1 NB.out) NB.out, cfar (cfar zx0 NK.out) NK.out, cfar (cfar zy1 NK.out) NK.out⟩) (fail)
      all_goals
        go_wp2_with fail
        have hq1 := hW9.size
        have n3 := N3.out
        have n5 := N5.out
        have nb := NB.out
        have e5 := HX5.out
        have e3 := HX3.out
        have eX := HXX.out
        subst e5
        subst e3
        subst eX
        go_meet
        refine (fun (hO : Only [w4.heap.size] W _) h9' => ⟨HW9.only hO (by simpa using nb) (fun k' e => by rw [← hv9] at e; cases e; simpa using NK.out), hO.blk hx39 (by simpa using n3), hO.blk hx59 (by simpa using n5), h9', hW9.trans (hO.below (by simp; omega) (by omega))⟩) ?_ ?_
        · repeat (first | with_reducible refine Only.setCell ?_ (.inl (by simp)) _ | with_reducible refine Only.drewN ?_ _ | with_reducible refine Only.drew ?_)
          exact Only.refl _ _
        · exact (h9.set 0 (.int .i64 J.lo)).set 1 (.int .i64 J.hi)
    · have e : J = ⟨lo, hi⟩ := by rw [← HJ.out]; unfold joined; rw [if_neg hlt]
      subst e
      go_wp2_with fail
      go_meet
      exact ⟨HW9, hx39, hx59, h9, hW9⟩
  case rest =>
    have hbx := hW4.size
    clear HW3 hx33 hx53 hW3 HW4 hx34 hx54 hW4 f3 f5 d3 d5 hb4 hb3 HW hx3 hx5 hW0 s0 s1
    obtain ⟨HWc, hx3, hx5, h9, hWc⟩ := hcut
    have hlen2 : ¬ ((rs.length : Int) - ((u : Int) - (f : Int)) + 1 > (room : Int)) := by have := addR_length (lo := lo) (hi := hi) hgood l1; rw [HF.out, HU.out] at this; omega
    obtain ⟨ac, kc, q0, q1, hvc, hBc, hownc, _⟩ := HWc.cells
    have q3 := hx3.cell 0
    have q5 := hx5.cell 0
    have y0 := h9.cell 0
    have y1 := h9.cell 1
    have hwa : IntKind.i64.wrap ((u : Int) - (f : Int)) = (u : Int) - (f : Int) := by rw [IntKind.wrap_i64]; omega
    have hwb : IntKind.i64.wrap ((rs.length : Int) - ((u : Int) - (f : Int))) = (rs.length : Int) - ((u : Int) - (f : Int)) := by rw [IntKind.wrap_i64]; omega
    have hwc : IntKind.i64.wrap ((rs.length : Int) - ((u : Int) - (f : Int)) + 1) = (rs.length : Int) - ((u : Int) - (f : Int)) + 1 := by rw [IntKind.wrap_i64]; omega
    have HLL := hide hlen2
    have HV := hide hvc
    clear hvc
    go_wp2_with fail
    have hys : addR lo hi rs = rs.take f ++ J :: rs.drop u := by rw [addR_eq hgood l1, HF.out, HU.out, HJ.out]
    have hgd := (addR_good hgood l1 l0 m1).1
    rw [hys] at hroom2 hgd
    have HYS := hide hys
    have hgl := hide (fun k (e : g = some k) => hS.lt.2 k e)
    have hszc := hWc.size
    clear hys
    go_quiet (fail)
    go_wp2_with fail
    refine name_world (fun W => IsSet W b g room rs ∧ Blk W w.heap.size 76 #[.pointer (some ⟨b, 0, none⟩)] ∧ Blk W w4.heap.size 93 #[.int .i64 J.lo, .int .i64 J.hi] ∧ Below w.heap.size w W ∧ W.ownsRow 0 93 2 (.slice ac rs.length kc) rs.length (rgsCells rs) ∧ Blk W b 121 #[.int .i64 room, .slice ac rs.length kc]) ⟨by exact HWc.drewN _, by exact hx3.drewN _, by exact h9.drewN _, by exact below_drewN hWc _, by exact own_only2 (S := []) hownc ((Only.refl _ _).drewN _) (by simp), by exact hBc.drewN _⟩ ?_
    clear HWc hx3 hx5 h9 hWc q0 q1 q3 q5 y0 y1 hBc hownc hszc
    rintro W ⟨HWc, hx3, h9, hWc, hownc, hBc⟩
    have q1 := hBc.cell 1
    have q3 := hx3.cell 0
    have y0 := h9.cell 0
    have y1 := h9.cell 1
    have hl3 := hx3.lt
    have hl9 := h9.lt
    have hlb := hBc.lt
    have hszc := hWc.size
    have hbg := hide (show b ∉ g.toList from fun hm => absurd rfl ((hgl.out b (by simpa using hm)).2))
    have h3g := hide (show w.heap.size ∉ g.toList from fun hm => by have := (hgl.out w.heap.size (by simpa using hm)).1; omega)
    have n3b := hide (show w.heap.size ≠ b by omega)
    have n9b := hide (show w4.heap.size ≠ b by omega)
    have h9g := hide (show w4.heap.size ∉ g.toList from fun hm => by have := (hgl.out w4.heap.size (by simpa using hm)).1; omega)
    refine wp_region_S (fun w' => w'.cell? ⟨w.heap.size, 0, none⟩ = some (.pointer (some ⟨b, 0, none⟩)) ∧ w'.cell? ⟨b, 1, none⟩ = some (.slice ac rs.length kc) ∧ w'.cell? ⟨w4.heap.size, 0, none⟩ = some (.int .i64 J.lo) ∧ w'.cell? ⟨w4.heap.size, 1, none⟩ = some (.int .i64 J.hi)) 12 (by kernel_rfl) (by exact ⟨q3, q1, y0, y1⟩) (fun hHeld => ?_)
    refine wpAnyS_take (i := 0) (v := ?v1) rfl (by kernel_rfl) (by kernel_rfl) (by kernel_rfl) (by kernel_rfl) (fun _ _ _ h => h) (Or.inl ⟨by rfl, ?hy1⟩) (by assumption) ?rest1
    case hy1 => intro w hSw; (try dsimp only at hSw); go_simp; try with_reducible rfl
    try simp only [Act.put, List.setIfInBounds_toArray, List.set_cons_zero, List.set_cons_succ]
    refine wpAnyS_take (i := 1) (v := ?v2) rfl (by kernel_rfl) (by kernel_rfl) (by kernel_rfl) (by kernel_rfl) (fun _ _ _ h => h) (Or.inl ⟨by rfl, ?hy2⟩) (by assumption) ?rest2
    case hy2 => intro w hSw; (try dsimp only at hSw); go_simp; try with_reducible rfl
    try simp only [Act.put, List.setIfInBounds_toArray, List.set_cons_zero, List.set_cons_succ]
    refine wpAnyS_take (i := 2) (v := ?v3) rfl (by kernel_rfl) (by kernel_rfl) (by kernel_rfl) (by kernel_rfl) (fun _ _ _ h => h) (Or.inl ⟨by rfl, ?hy3⟩) (by assumption) ?rest3
    case hy3 => intro w hSw; (try dsimp only at hSw); go_simp; try with_reducible rfl
    try simp only [Act.put, List.setIfInBounds_toArray, List.set_cons_zero, List.set_cons_succ]
    refine wpAnyS_take (i := 3) (v := ?v4) rfl (by kernel_rfl) (by kernel_rfl) (by kernel_rfl) (by kernel_rfl) (fun _ _ _ h => h) (Or.inl ⟨by rfl, ?hy4⟩) (by assumption) ?rest4
    case hy4 => intro w hSw; (try dsimp only at hSw); go_simp; try with_reducible rfl
    try simp only [Act.put, List.setIfInBounds_toArray, List.set_cons_zero, List.set_cons_succ]
    refine wpAnyS_take (i := 4) (v := ?v5) rfl (by kernel_rfl) (by kernel_rfl) (by kernel_rfl) (by kernel_rfl) (fun _ _ _ h => h) (Or.inl ⟨by rfl, ?hy5⟩) (by assumption) ?rest5
    case hy5 => intro w hSw; (try dsimp only at hSw); go_simp; try with_reducible rfl
    try simp only [Act.put, List.setIfInBounds_toArray, List.set_cons_zero, List.set_cons_succ]
    refine wpAnyS_take (i := 5) (v := ?v6) rfl (by kernel_rfl) (by kernel_rfl) (by kernel_rfl) (by kernel_rfl) (fun _ _ _ h => h) (Or.inl ⟨by rfl, ?hy6⟩) (by assumption) ?rest6
    case hy6 => intro w hSw; (try dsimp only at hSw); go_simp; try with_reducible rfl
    try simp only [Act.put, List.setIfInBounds_toArray, List.set_cons_zero, List.set_cons_succ]
    refine wpAnyS_take (i := 6) (v := ?v7) rfl (by kernel_rfl) (by kernel_rfl) (by kernel_rfl) (by kernel_rfl) (fun _ _ _ h => h) (Or.inl ⟨by rfl, ?hy7⟩) (by assumption) ?rest7
    case hy7 => intro w hSw; (try dsimp only at hSw); go_simp; try with_reducible rfl
    try simp only [Act.put, List.setIfInBounds_toArray, List.set_cons_zero, List.set_cons_succ]
    refine wpAnyS_take (i := 7) (v := ?v8) rfl (by kernel_rfl) (by kernel_rfl) (by kernel_rfl) (by kernel_rfl) (fun _ _ _ h => h) (Or.inl ⟨by rfl, ?hy8⟩) (by assumption) ?rest8
    case hy8 => intro w hSw; (try dsimp only at hSw); go_simp; try with_reducible rfl
    try simp only [Act.put, List.setIfInBounds_toArray, List.set_cons_zero, List.set_cons_succ]
    refine wpAnyS_one (i := 8) rfl (by kernel_rfl) (fun K hK => ?_)
    go_simp
    refine hK.out _ _ (fun _ => ⟨(World.cell?_alloc_lt _ _ _ hl3).trans q3, (World.cell?_alloc_lt _ _ _ hlb).trans q1, (World.cell?_alloc_lt _ _ _ hl9).trans y0, (World.cell?_alloc_lt _ _ _ hl9).trans y1⟩) (fun hH => ?_)
    have hHeld := hH rfl
    clear hK K hH
    try simp only [Act.put, List.setIfInBounds_toArray, List.set_cons_zero, List.set_cons_succ]
    refine wpAnyS_one (i := 9) rfl (by kernel_rfl) (fun K hK => ?_)
    go_simp
    go_at_call 117
    refine (replace_any 0 rs.length 1 W.heap.size f u (.slice ac rs.length kc) rs J _ rfl (own_only2 (S := []) hownc (by repeat (first | exact Only.refl _ _ | with_reducible refine Only.alloc ?_ _ | with_reducible refine Only.drewN ?_ _ | with_reducible refine Only.drew ?_)) (by simp)) (by exact Blk.new W _ _) (by rw [HV.out]; intro e; have := (hgl.out _ e).1; omega) (by omega) (Nat.zero_le _) hfu hun).mono ?_
    rintro e w5 ⟨v5, rfl, hown5, hO5, hB5⟩; obtain ⟨a5, m5, c5, rfl⟩ := own_slice3 hown5; rw [HV.out] at hO5 hB5; have hO5 := Only.trans (S := g.toList) (w := W) (by repeat (first | exact Only.refl _ _ | with_reducible refine Only.alloc ?_ _ | with_reducible refine Only.drewN ?_ _ | with_reducible refine Only.drew ?_)) hO5 (fun x hx => .inl hx); have hbb := hO5.blk hBc (hbg.out); have z0 := hbb.cell 1; have z1 := hbb.frozen 1; have z2 := (hO5.blk hx3 h3g.out).cell 0; have z3 := (hO5.blk h9 h9g.out).cell 0; have z4 := (hO5.blk h9 h9g.out).cell 1
    refine hK.out _ _ (fun _ => ⟨z2, z0, z3, z4⟩) (fun hH => ?_)
    have hHeld := hH rfl
    clear hK K hH
    try simp only [Act.put, List.setIfInBounds_toArray, List.set_cons_zero, List.set_cons_succ]
    refine wpAnyS_one (i := 10) rfl (by kernel_rfl) (fun K hK => ?_)
    go_simp
    refine hK.out _ _ (fun _ => hHeld) (fun hH => ?_)
    have hHeld := hH rfl
    clear hK K hH
    try simp only [Act.put, List.setIfInBounds_toArray, List.set_cons_zero, List.set_cons_succ]
    refine wpAnyS_one (i := 11) rfl (by kernel_rfl) (fun K hK => ?_)
    go_simp
    refine hK.out _ _ (fun _ => hHeld) (fun hH => ?_)
    have hHeld := hH rfl
    clear hK K hH
    try simp only [Act.put, List.setIfInBounds_toArray, List.set_cons_zero, List.set_cons_succ]
    refine wpAnyS_one (i := 12) rfl (by kernel_rfl) (fun K hK => ?_)
    go_simp
    refine hK.out _ _ (fun h => absurd h (by decide)) (fun _ => ?_)
    clear hK K
    try simp only [Act.put, List.setIfInBounds_toArray, List.set_cons_zero, List.set_cons_succ]
    refine wpAnyS_done (by kernel_rfl) ?_ _
    all_goals
      go_wp2_with fail
      go_ret
      rw [HYS.out]
      exact add_done hr1 hroom hroom2 hgd hbb hown5 hO5 hB5 hWc hb hgl.out (by first | exact Nat.le_refl _ | (simp; done) | (simp; omega) | omega)
end Go.Proofs.YtgicljeedegncaaGreat

namespace Go.Proofs.YtgicljeedegncaaGreat
set_option linter.unusedSimpArgs false
set_option linter.unusedVariables false
open Go.RowKit

set_option maxRecDepth 100000 in
set_option maxHeartbeats 4000000 in
theorem add_limit (b : Nat) (g : Option Nat) (room : Nat) (lo hi : Int) (rs : List Rg) (w : World) (hS : IsSet w b g room rs) (l0 : 0 ≤ lo) (l1 : lo ≤ hi) (m1 : hi ≤ 9007199254740991) (hroom2 : room < (addR lo hi rs).length) :
    Calls Tryz.prog 63 #[.pointer (some ⟨b, 0, none⟩), .int .i64 lo, .int .i64 hi] w fun e w' => e = .returned (.int .i64 5) ∧ Below w.heap.size w w' := by
  obtain ⟨hlen, hr1, hroom⟩ := hS.len
  have hgood := hS.good
  have hb := hS.lt.1
  have HW : IsSet ((w.alloc (.cells #[.pointer (some ⟨b, 0, none⟩)] 76)).alloc (.cells #[.int .i64 hi] 3)) b g room rs := (hS.alloc _).alloc _
  have hW0 : Below w.heap.size w ((w.alloc (.cells #[.pointer (some ⟨b, 0, none⟩)] 76)).alloc (.cells #[.int .i64 hi] 3)) := ((Below.refl _ _).alloc (Nat.le_refl _) _).alloc (by simp) _
  have hx3 : Blk ((w.alloc (.cells #[.pointer (some ⟨b, 0, none⟩)] 76)).alloc (.cells #[.int .i64 hi] 3)) w.heap.size 76 #[.pointer (some ⟨b, 0, none⟩)] := (Blk.new w _ _).alloc _
  have hx5 : Blk ((w.alloc (.cells #[.pointer (some ⟨b, 0, none⟩)] 76)).alloc (.cells #[.int .i64 hi] 3)) (w.heap.size + 1) 3 #[.int .i64 hi] := blk_new_at (by simp)
  have l2 : lo ≤ 9007199254740991 := by omega
  have m0 : 0 ≤ hi := by omega
  have hnl : ¬ hi < lo := by omega
  have hw1 : IntKind.i64.wrap (lo - 1) = lo - 1 := by rw [IntKind.wrap_i64]; omega
  have HWW := hide hw1
  clear hw1
  go_enter Tryz.func63, Tryz.ntmps63
  obtain ⟨f, hf⟩ : ∃ f, fstHi (lo - 1) rs = f := ⟨_, rfl⟩
  obtain ⟨u, hu⟩ : ∃ u, fstLo (hi + 1) rs = u := ⟨_, rfl⟩
  obtain ⟨J, hJ⟩ : ∃ J, joined f u lo hi rs = J := ⟨_, rfl⟩
  have HF := hide hf
  have HU := hide hu
  have HJ := hide hJ
  have hfu : f ≤ u := by have := from_le_to hgood l1; omega
  have hun : u ≤ rs.length := by have := fstLe_lo (hi + 1) rs; omega
  clear hf hu hJ
  go_upto_if 39 with (first
    | (go_at_call 112; obtain ⟨a, c, c0, _, _, _, _, _⟩ := HW.cells; refine (snone_no b room _ c0 hr1).mono ?_; rintro e1 w1 ⟨rfl, rfl⟩)
    | (go_at_call_of 113 (Value.int IntKind.i64 lo); refine (sis_yes lo _ l0 l2).mono ?_; rintro e2 w2 ⟨rfl, rfl⟩) | (go_at_call 113; refine (sis_yes hi _ m0 m1).mono ?_; rintro e2 w2 ⟨rfl, rfl⟩)
    | (go_at_call 114; refine (first_any b g room (lo - 1) rs _ HW).mono ?_; rintro e3 w3 ⟨rfl, hb3⟩; rw [HF.out]; have HW3 := HW.below hb3; have hx33 := (only_of_below hb3 (S := [])).blk hx3 (by simp); have hx53 := (only_of_below hb3 (S := [])).blk hx5 (by simp); have hW3 := bw_below' hW0 hb3; have d3 : w3.cell? ⟨w.heap.size, 0, none⟩ = some (.pointer (some ⟨b, 0, none⟩)) := hx33.cell 0; have d5 : w3.cell? ⟨w.heap.size + 1, 0, none⟩ = some (.int .i64 hi) := hx53.cell 0; obtain ⟨a3, k3, s0, s1, hrow3, hB3, hown3, hat3⟩ := HW3.cells; have HAT3 := hide hat3; have HOWN3 := hide hown3; have HROW3 := hide hrow3; clear hat3 hown3 hrow3)
    | (go_at_call 115; refine (search_set b _ _ g room hi rs _ HW3 hx33 hx53 m0 m1).mono ?_; rintro e4 w4 ⟨rfl, hb4⟩; rw [HU.out]; have HW4 := HW3.below hb4; have hx34 := ((only_of_below hb4 (S := [])).blk hx33 (by simp)); have hx54 := ((only_of_below hb4 (S := [])).blk hx53 (by simp)); have hW4 := bw_below' hW3 hb4; have f3 : w4.cell? ⟨w.heap.size, 0, none⟩ = some (.pointer (some ⟨b, 0, none⟩)) := hx34.cell 0; have f5 : w4.cell? ⟨w.heap.size + 1, 0, none⟩ = some (.int .i64 hi) := hx54.cell 0; have hl5 := hx54.lt; have hl3 := hx34.lt))
  go_cut [] (fun wc => IsSet wc b g room rs ∧ Blk wc w.heap.size 76 #[.pointer (some ⟨b, 0, none⟩)] ∧ Blk wc (w.heap.size + 1) 3 #[.int .i64 hi] ∧ Blk wc w4.heap.size 93 #[.int .i64 J.lo, .int .i64 J.hi] ∧ Below w.heap.size w wc)
  case first =>
    have hb44 := HW4.lt.1
    have hg44 := fun k e => (HW4.lt.2 k e).1
    have h9 := Blk.new w4 93 #[.int .i64 lo, .int .i64 hi]
    have HW9 := HW4.alloc (.cells #[.int .i64 lo, .int .i64 hi] 93)
    have hx39 := hx34.alloc (.cells #[.int .i64 lo, .int .i64 hi] 93)
    have hx59 := hx54.alloc (.cells #[.int .i64 lo, .int .i64 hi] 93)
    have hW9 := bw_alloc' hW4 (.cells #[.int .i64 lo, .int .i64 hi] 93)
    clear HW3 hx33 hx53 hW3 HW4 hx34 hx54 hW4 f3 f5 d3 d5 hb4 hb3 HW hx3 hx5 hW0 s0 s1
    by_cases hlt : f < u
    · obtain ⟨m, rfl⟩ : ∃ m, u = m + 1 := ⟨u - 1, by omega⟩
      obtain ⟨x, hx⟩ : ∃ x, rs[f]? = some x := ⟨_, List.getElem?_eq_getElem (by omega)⟩
      obtain ⟨y, hy⟩ : ∃ y, rs[m]? = some y := ⟨_, List.getElem?_eq_getElem (by omega)⟩
      have e : J = ⟨min lo x.lo, max hi y.hi⟩ := by rw [← HJ.out]; unfold joined; rw [if_pos hlt, atR_some hx, Nat.add_sub_cancel, atR_some hy]
      refine name_world (fun W => IsSet W b g room rs ∧ Blk W w.heap.size 76 #[.pointer (some ⟨b, 0, none⟩)] ∧ Blk W (w.heap.size + 1) 3 #[.int .i64 hi] ∧ Blk W w4.heap.size 93 #[.int .i64 lo, .int .i64 hi] ∧ Below w.heap.size w W) ⟨HW9, hx39, hx59, h9, hW9⟩ ?_
      clear HW9 hx39 hx59 h9 hW9
      rintro W ⟨HW9, hx39, hx59, h9, hW9⟩
      obtain ⟨a9, k9, q0, q1, hv9, _, _, hat9⟩ := HW9.cells
      obtain ⟨k, rfl, hk, zx0, zx1⟩ := hat9 f x hx
      obtain ⟨k', hk', _, zy0, zy1⟩ := hat9 m y hy
      cases hk'
      clear hat9
      obtain ⟨X, hX⟩ : ∃ X, w4.heap.size = X := ⟨_, rfl⟩
      have hk44 := hg44 k hv9.symm
      have hg45 := hg44
      rw [hX] at h9 hb44 hl3 hl5 hk44 hg45 ⊢
      clear hg44
      have HXX := hide hX
      clear hX
      obtain ⟨X3, hX3⟩ : ∃ X, w.heap.size = X := ⟨_, rfl⟩
      obtain ⟨X5, hX5⟩ : ∃ X, X3 + 1 = X := ⟨_, rfl⟩
      rw [hX3] at hx39 hx59 hl3 hl5 hW9 ⊢
      rw [hX5] at hx59 hl5 ⊢
      have b1 : (0 : Int) ≤ (f : Int) := by omega
      have b2 : (f : Int) < (rs.length : Int) := by omega
      have b3 : (0 : Int) ≤ (m : Int) := by omega
      have b4 : (m : Int) < (rs.length : Int) := by omega
      have hwm : IntKind.i64.wrap (m : Int) = (m : Int) := by rw [IntKind.wrap_i64]; omega
      have hwn : IntKind.i64.wrap ((m : Int) + 1 - 1) = (m : Int) := by rw [IntKind.wrap_i64]; omega
      have hwo : IntKind.i64.wrap (((m + 1 : Nat) : Int) - 1) = (m : Int) := by rw [IntKind.wrap_i64]; omega
      have hmt : (m : Int).toNat = m := by omega
      have hP : (if x.lo < lo then x.lo else lo) = J.lo := by rw [e]; show _ = min lo x.lo; split <;> omega
      have hQ : (if hi < y.hi then y.hi else hi) = J.hi := by rw [e]; show _ = max hi y.hi; split <;> omega
      clear e
      have HX := hide hx
      have HY := hide hy
      have HX3 := hide hX3
      have HX5 := hide hX5
      clear hx hy hX3 hX5
      have hlt9 := h9.lt
      have q3 := hx39.cell 0
      have q5 := hx59.cell 0
      have y0 := h9.cell 0
      have y1 := h9.cell 1
      have y2 := h9.frozen 0
      have y3 := h9.frozen 1
      have n3 : X3 ≠ X := by omega
      have n5 : X5 ≠ X := by omega
      have nb : b ≠ X := by omega
      have nk : k ≠ X := by omega
      have N3 := hide n3
      have N5 := hide n5
      have NB := hide nb
      have NK := hide nk
      clear n3 n5 nb nk
      go_wp2_with fail
      go_region_held3 (fun w' => w'.cell? ⟨X3, 0, none⟩ = some (.pointer (some ⟨b, 0, none⟩)) ∧ w'.cell? ⟨X5, 0, none⟩ = some (.int .i64 hi) ∧ w'.cell? ⟨b, 1, none⟩ = some (.slice (some ⟨k, 0, none⟩) rs.length k9) ∧ w'.cell? ⟨k, f * 2, none⟩ = some (.int .i64 x.lo) ∧ w'.cell? ⟨k, m * 2 + 1, none⟩ = some (.int .i64 y.hi)) (first | exact ⟨q3, q5, q1, zx0, zy1⟩ | exact ⟨cfar (cfar q3 N3.out) N3.out, cfar (cfar q5 N5.out) N5.out, cfar (cfar q1 NB.out) NB.out, cfar (cfar zx0 NK.out) NK.out, cfar (cfar zy1 NK.out) NK.out⟩) (fail)
      all_goals
        go_wp2_with fail
        have hq1 := hW9.size
        have n3 := N3.out
        have n5 := N5.out
        have nb := NB.out
        have e5 := HX5.out
        have e3 := HX3.out
        have eX := HXX.out
        subst e5
        subst e3
        subst eX
        go_meet
        refine (fun (hO : Only [w4.heap.size] W _) h9' => ⟨HW9.only hO (by simpa using nb) (fun k' e => by rw [← hv9] at e; cases e; simpa using NK.out), hO.blk hx39 (by simpa using n3), hO.blk hx59 (by simpa using n5), h9', hW9.trans (hO.below (by simp; omega) (by omega))⟩) ?_ ?_
        · repeat (first | with_reducible refine Only.setCell ?_ (.inl (by simp)) _ | with_reducible refine Only.drewN ?_ _ | with_reducible refine Only.drew ?_)
          exact Only.refl _ _
        · exact (h9.set 0 (.int .i64 J.lo)).set 1 (.int .i64 J.hi)
    · have e : J = ⟨lo, hi⟩ := by rw [← HJ.out]; unfold joined; rw [if_neg hlt]
      subst e
      go_wp2_with fail
      go_meet
      exact ⟨HW9, hx39, hx59, h9, hW9⟩
  case rest =>
    have hbx := hW4.size
    clear HW3 hx33 hx53 hW3 HW4 hx34 hx54 hW4 f3 f5 d3 d5 hb4 hb3 HW hx3 hx5 hW0 s0 s1
    obtain ⟨HWc, hx3, hx5, h9, hWc⟩ := hcut
    have hlen2 : (room : Int) < (rs.length : Int) - ((u : Int) - (f : Int)) + 1 := by have := addR_length (lo := lo) (hi := hi) hgood l1; rw [HF.out, HU.out] at this; omega
    obtain ⟨ac, kc, q0, q1, hvc, hBc, hownc, _⟩ := HWc.cells
    have q3 := hx3.cell 0
    have q5 := hx5.cell 0
    have y0 := h9.cell 0
    have y1 := h9.cell 1
    have hwa : IntKind.i64.wrap ((u : Int) - (f : Int)) = (u : Int) - (f : Int) := by rw [IntKind.wrap_i64]; omega
    have hwb : IntKind.i64.wrap ((rs.length : Int) - ((u : Int) - (f : Int))) = (rs.length : Int) - ((u : Int) - (f : Int)) := by rw [IntKind.wrap_i64]; omega
    have hwc : IntKind.i64.wrap ((rs.length : Int) - ((u : Int) - (f : Int)) + 1) = (rs.length : Int) - ((u : Int) - (f : Int)) + 1 := by rw [IntKind.wrap_i64]; omega
    have HLL := hide hlen2
    have HV := hide hvc
    clear hvc
    go_wp2_with fail
    go_quiet (fail)
    go_wp2_with fail
    go_ret
    exact ⟨rfl, by first | exact below_drewN hWc _ | exact hWc⟩
end Go.Proofs.YtgicljeedegncaaGreat

namespace Go.Proofs.YtgicljeedegncaaGreat
set_option linter.unusedSimpArgs false
set_option linter.unusedVariables false
open Go.RowKit Go.Lib

def RgClonePost (w : World) (n : Nat) (xs : List Value) (e : Ending) (w' : World) : Prop := ∃ v, e = .returned v ∧ w'.ownsRow w.heap.size 93 2 v n xs ∧ Below w.heap.size w w'

set_option maxRecDepth 100000 in
set_option maxHeartbeats 1000000 in
theorem rclone_any (n : Nat) (v : Value) (rs : List Rg) (w : World) (hn : rs.length = n) (hown : w.ownsRow 0 93 2 v n (rgsCells rs)) (hm : n ≤ 512) :
    Calls Tryz.prog 132 #[v] w (RgClonePost w n (rgsCells rs)) := by
  obtain ⟨i0, hi, hz0, hz1, hz2⟩ := info_parts rg_info
  rcases own_split hown with ⟨rfl, h0, hx⟩ | ⟨g, cap, cur, rfl, hg, hB, hc, hm2, hcl, htk⟩
  · subst h0
    have hrs : rs = [] := List.eq_nil_of_length_eq_zero hn
    subst hrs
    have hnil0 := fun (W : World) => run_eql_slice_nil_nil (P := Tryz.prog) W (t := 50) (e := 93) 0 0 Tryz.underlying50
    go_enter Tryz.func132, Tryz.ntmps132
    go_wp2_with fail
    go_ret
    exact ⟨_, rfl, ⟨by simp [rgsCells], .inl ⟨rfl, rfl⟩⟩, Below.refl _ _⟩
  · have hrb := hB.lt
    have hl := rgs_length rs
    have hR : Reads w w.heap.size 2 (some ⟨g, 0, none⟩) n (rgsCells rs) := ⟨by rw [hl, hn], fun _ => ⟨_, rfl, hrb, fun j u hu => by
      obtain ⟨rest, hrest⟩ := cur_split htk n
      have : rs.take n = rs := by rw [← hn]; exact List.take_length
      rw [this] at hrest
      rw [add_at, hB.cell, List.getElem?_toArray, hrest, List.getElem?_append_left (List.getElem?_eq_some_iff.1 hu).1]; exact hu⟩⟩
    have HR := hide hR
    clear hR hl htk hcl hc hm2 hB hg hown hn
    have hnil := fun (W : World) => Lib.run_eql_slice_nil (P := Tryz.prog) W 50 93 (some ⟨g, 0, none⟩) n cap 0 0 Tryz.underlying50
    go_enter Tryz.func132, Tryz.ntmps132
    go_wp2_with (at_builtin; refine wpList_append_any _ rfl (.tmp 5) (.tmp 6) _ rfl w.heap.size 93 i0 _ 2 16 Tryz.underlying50 hi hz0 hz1 hz2 rfl (by decide) (.slice (some ⟨w.heap.size, 0, none⟩) 0 0) 0 [] rfl (by exact World.ownsRow_lit w #[] 0 (Nat.le_refl _) (by decide) rfl) w.heap.size (some ⟨g, 0, none⟩) n cap (rgsCells rs) rfl (by exact HR.out.alloc (Nat.le_refl _) _) rgs_one (by unfold maxLen; omega) (by omega) (by simp) ?_; intro v' w1 hown1 hg1 hat1)
    go_ret
    refine ⟨v', rfl, by simpa using hown1, ((Below.refl _ _).alloc (Nat.le_refl _) _).trans (Below.grown (Below.refl _ _) hg1 (by simp) (fun k hk => by simp [Value.ownBlock] at hk; omega))⟩


theorem own_zero {w : World} {base e size n : Nat} {v : Value} {xs : List Value} (h : w.ownsRow base e size v n xs) : w.ownsRow 0 e size v n xs := by
  refine ⟨h.1, ?_⟩
  rcases h.2 with h0 | ⟨g, cap, cur, hv, hg, r⟩
  · exact .inl h0
  · exact .inr ⟨g, cap, cur, hv, Nat.zero_le _, r⟩
def SCopyPost (w : World) (room : Nat) (rs : List Rg) (e : Ending) (w' : World) : Prop :=
  ∃ b' g', e = .returned (.pointer (some ⟨b', 0, none⟩)) ∧ IsSet w' b' g' room rs ∧ w.heap.size ≤ b' ∧ (∀ k, g' = some k → w.heap.size ≤ k) ∧ Below w.heap.size w w'

set_option maxRecDepth 100000 in
set_option maxHeartbeats 1000000 in
theorem scopy_any (b : Nat) (g : Option Nat) (room : Nat) (rs : List Rg) (w : World) (hS : IsSet w b g room rs) :
    Calls Tryz.prog 85 #[.pointer (some ⟨b, 0, none⟩)] w (SCopyPost w room rs) := by
  obtain ⟨hlen, hr1, hroom⟩ := hS.len
  have hgood := hS.good
  have hb := hS.lt.1
  obtain ⟨a, c, c0, c1, hv, hB, hown, hat⟩ := hS.cells
  have HNO := hide (snone_no b room w c0 hr1)
  have HV := hide hv
  clear hat hv hS
  go_enter Tryz.func85, Tryz.ntmps85
  go_wp2_with (go_at_call 112; refine HNO.out.mono ?_; rintro e1 w1 ⟨rfl, rfl⟩)
  go_region_held3 (fun w' => w'.cell? ⟨b, 0, none⟩ = some (.int .i64 room) ∧ w'.cell? ⟨b, 1, none⟩ = some (.slice a rs.length c))
    (first | exact ⟨c0, c1⟩ | exact ⟨d0, d1⟩ | exact ⟨(World.cell?_alloc_lt _ _ _ d2).trans d0, (World.cell?_alloc_lt _ _ _ d2).trans d1⟩)
    (first | (go_at_call 132; refine (rclone_any rs.length (.slice a rs.length c) rs _ rfl (own_only2 (S := []) hown (by repeat (first | exact Only.refl _ _ | with_reducible refine Only.alloc ?_ _ | with_reducible refine Only.drewN ?_ _ | with_reducible refine Only.drew ?_)) (by simp)) (by omega)).mono ?_; rintro e w5 ⟨v5, rfl, hown5, hB5⟩; obtain ⟨a5, m5, c5, rfl⟩ := own_slice3 hown5; have hbb := (only_of_below hB5 (S := [])).blk (by exact hB) (by simp); have d0 := hbb.cell 0; have d1 := hbb.cell 1; have d2 := hbb.lt))
  all_goals
    go_wp2_with fail
    go_ret
    refine ⟨w5.heap.size, _, rfl, ⟨hr1, hroom, hlen, hgood, _, rfl, Blk.new _ _ _, own_only2 (S := []) (own_zero hown5) ((Only.refl _ _).alloc _) (by simp)⟩, by exact hB5.size, fun k hk => (hown5.lt k hk).1, by first | exact hB5.alloc hB5.size _ | exact bw_alloc' (bw_below' ((Below.refl _ _).drew) hB5) _⟩
end Go.Proofs.YtgicljeedegncaaGreat

namespace Go.Proofs.YtgicljeedegncaaGreat
set_option linter.unusedSimpArgs false
set_option linter.unusedVariables false
open Go.RowKit

/-- A slice of ranges, as a walk reads it. -/
def RgAt (w : World) (a : Option Addr) (rs : List Rg) : Prop := ∀ (i : Nat) (r : Rg), rs[i]? = some r → ∃ k, a = some ⟨k, 0, none⟩ ∧ k < w.heap.size ∧ w.cell? ⟨k, i * 2, none⟩ = some (.int .i64 r.lo) ∧ w.cell? ⟨k, i * 2 + 1, none⟩ = some (.int .i64 r.hi)
theorem drn (w : World) (a b : Nat) : (w.drewN a).drewN b = w.drewN (a + b) := by simp
theorem list_ext_to {α : Type} {a b : List α} {n : Nat} (ha : a.length = n) (hb : b.length = n) (h : ∀ j, j < n → a[j]? = b[j]?) : a = b := by
  apply List.ext_getElem?
  intro j
  rcases Nat.lt_or_ge j n with hj | hj
  · exact h j hj
  · rw [List.getElem?_eq_none (by omega), List.getElem?_eq_none (by omega)]

end Go.Proofs.YtgicljeedegncaaGreat

namespace Go.Proofs.YtgicljeedegncaaGreat
set_option linter.unusedSimpArgs false
set_option linter.unusedVariables false
open Go.RowKit

set_option maxRecDepth 100000 in
set_option maxHeartbeats 4000000 in
theorem delete_some (base n t d g cap : Nat) (cur : List Value) (rs : List Rg) (w : World) (hn : rs.length = n) (hg : base ≤ g) (hB : Blk w g 93 cur.toArray) (hcap : n ≤ cap) (hm : cap ≤ maxLen) (hcl : cur.length = cap * 2) (ht : cur.take (n * 2) = rgsCells rs)
    (hl : n ≤ 1000) (ht0 : 0 < t) (htd : t + d = n) :
    Calls Tryz.prog 153 #[.slice (some ⟨g, 0, none⟩) n cap, .int .i64 0, .int .i64 t] w (RgPost w base (.slice (some ⟨g, 0, none⟩) n cap) (rs.drop t)) := by
  obtain ⟨i0, hi, hz0, hz1, hz2⟩ := info_parts rg_info
  unfold maxLen at hm
  obtain ⟨rest, hcur⟩ := cur_split ht t
  have hlA : (rgsCells (rs.take t)).length = t * 2 := by rw [rgs_length, List.length_take, hn]; congr 1; omega
  have hlD : (rgsCells (rs.drop t)).length = d * 2 := by rw [rgs_length, List.length_drop, hn]; congr 1; omega
  have hlr : (rs.drop t).length = d := by rw [List.length_drop, hn]; omega
  obtain ⟨A, hA⟩ : ∃ A, rgsCells (rs.take t) = A := ⟨_, rfl⟩
  obtain ⟨D, hD⟩ : ∃ D, rgsCells (rs.drop t) = D := ⟨_, rfl⟩
  have h1D : ∀ u ∈ D, u.oneCell' = true := by rw [← hD]; exact rgs_one
  rw [hA] at hcur hlA
  rw [hD] at hcur hlD
  have hdl : d * 2 ≤ cap * 2 := by omega
  have hT1 : (splice cur 0 D).take (d * 2) = D := by unfold splice; rw [List.take_zero, List.nil_append, List.take_left' hlD]
  have hL1 : (splice cur 0 D).length = cap * 2 := by rw [splice_length (by rw [hcl, hlD]; omega), hcl]
  have hfin : ∀ (w' : World) (C : List Value), Blk w' g 93 C.toArray → C.length = cap * 2 → C.take (d * 2) = D → Only [g] w w' → RgPost w base (.slice (some ⟨g, 0, none⟩) n cap) (rs.drop t) (.returned (.slice (some ⟨g, 0, none⟩) d cap)) w' := by
    intro w' C hC hCl hCt hO
    have hfo := own_mk (e := 93) (size := 2) (n := d) (cap := cap) hg hC (by omega) (by unfold maxLen; omega) hCl
    rw [hCt, ← hD] at hfo
    refine ⟨_, rfl, ?_, hO, fun k hk => .inl hk⟩
    rw [hlr]
    exact hfo
  have hDL : D.length = d * i0.size := by rw [hz1, hlD]
  have hfit : 0 * i0.size + D.length ≤ cur.length := by rw [Nat.zero_mul, hlD, hcl]; omega
  have hroom : 0 + d ≤ cap := by omega
  have hsD := src_blk hB hcur hlA
  have hi0 : ((0 : Int) == (t : Int)) = false := by rw [beq_eq_false_iff_ne]; omega
  have hb1 : (t : Int) ≤ (n : Int) := by omega
  have hb2 : (0 : Int) ≤ (t : Int) := by omega
  have hb3 : (d : Int) ≤ (n : Int) := by omega
  have hb4 : (n : Int) ≤ (cap : Int) := by omega
  have hntd : n - t = d := by omega
  have hnd : n - d = t := by omega
  have hc1 : ¬ (cap = d) := by omega
  have HF := hide hfin
  have HT1 := hide hT1
  have HL1 := hide hL1
  have HDL := hide hDL
  have HFIT := hide hfit
  have HSD := hide hsD
  have HB := hide hB
  have H1D := hide h1D
  have HCL := hide hcl
  have HFZ : Hid (d * 2 + t * (Value.agg #[.int .i64 0, .int .i64 0]).cells.size ≤ (splice cur 0 D).length) := by show d * 2 + t * _ ≤ _; rw [hL1, zcells_size]; omega
  have HLT : Hid ((splice (splice cur 0 D) (d * 2) (Builtin.zeroCells (Value.agg #[.int .i64 0, .int .i64 0]).cells t).toList).length = cap * 2) := by
    show List.length _ = _
    rw [splice_length (by rw [zeros_length, hL1]; omega), hL1]
  have HTT : Hid ((splice (splice cur 0 D) (d * 2) (Builtin.zeroCells (Value.agg #[.int .i64 0, .int .i64 0]).cells t).toList).take (d * 2) = D) := by
    show List.take _ _ = _
    rw [take_splice_low (Nat.le_refl _) (by rw [hL1]; omega), hT1]
  clear hfin hT1 hL1 hDL hfit hsD hB h1D hcl hlA hlD hlr hcur hA hD ht hn hdl
  rcases (by omega : cap ≠ t ∨ cap = t) with hct | hct
  · go_enter Tryz.func153, Tryz.ntmps153
    go_wp2_with fail
    go_region_law (refine step_append_in (s := .tmp 22) (x := .tmp 25) (t := 50) rfl rfl Tryz.underlying50 hi g 0 cap d (cap - t) ⟨g, t * 2, none⟩ cur D (by simp [Act.eval, Act.put]) (by simp [Act.eval, Act.put]; done) (by exact HB.out) HDL.out (by exact HSD.out) hroom HFIT.out H1D.out ?_; intro w1 hB1 hO1; rw [Nat.zero_mul] at hB1; have HB1 := hide hB1; clear hB1)
    go_wp2_with (with_reducible refine wpList_clear_k (s := .tmp 31) (t := 50) rfl rfl Tryz.underlying50 hi hz0 g (d * 2) t (cap - d) (splice cur 0 D) 93 rfl HB1.out HFZ.out rg_zero_one ?_; intro w2 hB2 hO2)
    go_ret
    exact HF.out _ _ hB2 HLT.out HTT.out ((((Only.refl [g] w).drew).trans hO1 (by simp)).trans hO2 (by simp))
  · obtain rfl : d = 0 := by omega
    obtain rfl : cap = t := by omega
    obtain rfl : n = cap := by omega
    have HD0 : Hid (D = []) := List.eq_nil_of_length_eq_zero (by rw [HDL.out, Nat.zero_mul])
    have HSE : Hid (∀ (j : Nat) (v : Value), D[j]? = some v → w.cell? ((⟨g, 0, none⟩ : Addr).add j) = some v) := by intro j v hj; rw [HD0.out] at hj; simp at hj
    go_enter Tryz.func153, Tryz.ntmps153
    go_wp2_with fail
    go_region_law (refine step_append_in (s := .tmp 22) (x := .tmp 25) (t := 50) rfl rfl Tryz.underlying50 hi g 0 n 0 0 ⟨g, 0, none⟩ cur D (by simp [Act.eval, Act.put]) (by simp [Act.eval, Act.put]; done) (by exact HB.out) HDL.out (by exact HSE.out) hroom HFIT.out H1D.out ?_; intro w1 hB1 hO1; rw [Nat.zero_mul] at hB1; have HB1 := hide hB1; clear hB1)
    go_wp2_with (with_reducible refine wpList_clear_k (s := .tmp 31) (t := 50) rfl rfl Tryz.underlying50 hi hz0 g 0 n n (splice cur 0 D) 93 rfl HB1.out HFZ.out rg_zero_one ?_; intro w2 hB2 hO2)
    go_ret
    exact HF.out _ _ hB2 HLT.out HTT.out ((((Only.refl [g] w).drew).trans hO1 (by simp)).trans hO2 (by simp))

set_option maxHeartbeats 1000000 in
/-- slices.Delete of the first ones. -/
theorem delete_any (base n t : Nat) (v : Value) (rs : List Rg) (w : World) (hn : rs.length = n) (hown : w.ownsRow base 93 2 v n (rgsCells rs)) (hl : n ≤ 1000) (ht : t ≤ n) :
    Calls Tryz.prog 153 #[v, .int .i64 0, .int .i64 t] w (RgPost w base v (rs.drop t)) := by
  rcases Nat.eq_zero_or_pos t with rfl | h0
  · have hP : RgPost w base v (rs.drop 0) (.returned v) w := ⟨v, rfl, by rw [List.drop_zero, hn]; exact hown, Only.refl _ w, fun k hk => .inl hk⟩
    have HP := hide hP
    clear hP
    rcases own_split hown with ⟨rfl, rfl, _⟩ | ⟨g, cap, cur, rfl, hg, hB, hc, hm, hcl, htk⟩
    · clear hown hn
      go_enter Tryz.func153, Tryz.ntmps153
      go_wp2_with fail
      go_ret
      exact HP.out
    · have hb1 : (0 : Int) ≤ (n : Int) := by omega
      have hb4 : (n : Int) ≤ (cap : Int) := by omega
      clear hown hn hB hcl htk
      go_enter Tryz.func153, Tryz.ntmps153
      go_wp2_with fail
      go_ret
      exact HP.out
  · rcases own_split hown with ⟨_, h1, _⟩ | ⟨g, cap, cur, rfl, hg, hB, hc, hm, hcl, htk⟩
    · omega
    · exact delete_some base n t (n - t) g cap cur rs w hn hg hB hc hm hcl htk hl h0 (by omega)
end Go.Proofs.YtgicljeedegncaaGreat

namespace Go.Proofs.YtgicljeedegncaaGreat
set_option linter.unusedVariables false
set_option linter.unusedSimpArgs false
open Go.RowKit

set_option maxHeartbeats 1000000 in
theorem cut_arg (b : Nat) (g : Option Nat) (room : Nat) (n : Int) (rs : List Rg) (w : World) (hS : IsSet w b g room rs) (h : n < 0 ∨ 9007199254740991 < n) :
    Calls Tryz.prog 106 #[.pointer (some ⟨b, 0, none⟩), .int .i64 n] w fun e w' => e = .returned (.int .i64 2) ∧ w' = w := by
  obtain ⟨hlen, hr1, hroom⟩ := hS.len
  obtain ⟨a, c, c0, c1, _, _, _, hat⟩ := hS.cells
  have HNO := hide (snone_no b room w c0 hr1)
  have H1 := hide h
  clear h hat c0 c1 hS
  go_enter Tryz.func106, Tryz.ntmps106
  go_wp2_with (first | (go_at_call 112; refine HNO.out.mono ?_; rintro e1 w1 ⟨rfl, rfl⟩) | (go_at_call 113; refine (sis_no n _ H1.out).mono ?_; rintro e2 w2 ⟨rfl, rfl⟩))
  go_ret
  exact ⟨rfl, rfl⟩

theorem good_drop {rs : List Rg} (h : GoodR rs) (k : Nat) : GoodR (rs.drop k) :=
  ⟨h.sorted.sublist (List.drop_sublist _ _), fun x hx => h.le x (List.mem_of_mem_drop hx), fun x hx => h.lo x (List.mem_of_mem_drop hx), fun x hx => h.hi x (List.mem_of_mem_drop hx)⟩
/-- The least number of the first range is another. -/
theorem IsSet.setLo {w : World} {b k room : Nat} {r : Rg} {t : List Rg} {J : Int} (h : IsSet w b (some k) room (r :: t)) (hg : GoodR (⟨J, r.hi⟩ :: t)) : IsSet (w.setCell ⟨k, 0, none⟩ (.int .i64 J)) b (some k) room (⟨J, r.hi⟩ :: t) := by
  obtain ⟨_, hkb⟩ := h.lt
  have hne := (hkb k rfl).2
  obtain ⟨h1, h2, h3, h4, v, hv, hB, hr⟩ := h
  refine ⟨h1, h2, h3, hg, v, hv, hB.far (fun e => hne e.symm) _, ?_⟩
  rcases own_split hr with ⟨rfl, h0, hx⟩ | ⟨g, cap, cur, rfl, hgb, hk, hc, hm, hcl, ht⟩
  · cases hv
  · cases hv
    have hk2 := hk.set 0 (.int .i64 J)
    rw [List.setIfInBounds_toArray] at hk2
    have hfo := own_mk (e := 93) (size := 2) (n := (r :: t).length) (cap := cap) hgb hk2 hc hm (by rw [List.length_set]; exact hcl)
    rw [List.take_set, ht] at hfo
    exact hfo

set_option maxRecDepth 100000 in
set_option maxHeartbeats 4000000 in
theorem cut_ok (b : Nat) (g : Option Nat) (room : Nat) (n : Int) (rs : List Rg) (w : World) (hS : IsSet w b g room rs) (l0 : 0 ≤ n) (l1 : n ≤ 9007199254740991) :
    Calls Tryz.prog 106 #[.pointer (some ⟨b, 0, none⟩), .int .i64 n] w (SAddPost w b g room (cutR n rs)) := by
  obtain ⟨hlen, hr1, hroom⟩ := hS.len
  have hgood := hS.good
  have hb := hS.lt.1
  obtain ⟨ac, kc, q0, q1, hv, hB, hown, _⟩ := hS.cells
  have HNO := hide (snone_no b room w q0 hr1)
  have HV := hide hv
  have hgl := hide (fun k (e : g = some k) => hS.lt.2 k e)
  have hbg := hide (show b ∉ g.toList from fun hm => absurd rfl ((hgl.out b (by simpa using hm)).2))
  obtain ⟨f, hf⟩ : ∃ f, fstHi n rs = f := ⟨_, rfl⟩
  obtain ⟨ys, hys⟩ : ∃ ys, rs.drop f = ys := ⟨_, rfl⟩
  have hfn : f ≤ rs.length := by rw [← hf]; exact fstLe_hi _ _
  have hcut := cutR_eq n rs
  rw [hf, hys] at hcut
  have hyl : ys.length ≤ room := by rw [← hys, List.length_drop]; omega
  have hyg : GoodR ys := by rw [← hys]; exact good_drop hgood f
  have hcg : GoodR (cutR n rs) := cutR_good hgood
  rw [hcut] at hcg ⊢
  have HF := hide hf
  have HY := hide hys
  clear hv hf hys hcut
  have HFI : Hid (∀ W, Below w.heap.size w W → Calls Tryz.prog 114 #[.pointer (some ⟨b, 0, none⟩), .int .i64 n] W fun e w' => e = .returned (.int .i64 f) ∧ Below w.heap.size w w' ∧ w'.cell? ⟨b, 1, none⟩ = some (.slice ac rs.length kc) ∧ b < w'.heap.size) := fun W hW => (first_any b g room n rs W (hS.below hW)).mono fun e w' ⟨h1, h2⟩ => by
    have h3 := bw_below' hW h2
    refine ⟨by rw [h1, HF.out], h3, ?_, Nat.lt_of_lt_of_le hb h3.size⟩
    rw [((only_of_below (S := []) h3).blk hB (by simp)).cell 1]
    rfl
  have HDE : Hid (∀ W, Below w.heap.size w W → Calls Tryz.prog 153 #[.slice ac rs.length kc, .int .i64 0, .int .i64 f] W fun e w' => ∃ a5 c5, e = .returned (.slice a5 ys.length c5) ∧ w'.ownsRow 0 93 2 (.slice a5 ys.length c5) ys.length (rgsCells ys) ∧ Only g.toList W w' ∧ (∀ k, (Value.slice a5 ys.length c5).ownBlock = some k → g = some k ∨ W.heap.size ≤ k) ∧ Blk w' b 121 #[.int .i64 room, .slice ac rs.length kc] ∧ SAddPost w b g room ys (.returned (.int .i64 0)) (w'.setCell ⟨b, 1, none⟩ (.slice a5 ys.length c5))) := fun W hW => by
    have hown' := own_only2 (S := []) hown (only_of_below hW) (by simp)
    refine (delete_any 0 rs.length f (.slice ac rs.length kc) rs W rfl hown' (by omega) hfn).mono ?_
    rintro e w' ⟨v5, rfl, h1, h2, h3⟩
    rw [HY.out] at h1
    obtain ⟨a5, c5, rfl⟩ := own_slice' h1
    rw [HV.out] at h2 h3
    have hbb := h2.blk ((only_of_below (S := []) hW).blk hB (by simp)) hbg.out
    exact ⟨a5, c5, rfl, h1, h2, h3, hbb, add_done hr1 hroom hyl hyg hbb h1 h2 h3 hW hb hgl.out (Nat.le_refl _)⟩
  clear hS hB hown
  cases ys with
  | nil =>
    go_enter Tryz.func106, Tryz.ntmps106
    go_wp2_with (first | (go_at_call 112; refine HNO.out.mono ?_; rintro e1 w1 ⟨rfl, rfl⟩) | (go_at_call 113; refine (sis_yes n _ l0 l1).mono ?_; rintro e2 w2 ⟨rfl, rfl⟩))
    refine wp_region_S (fun w' => w'.cell? ⟨b, 1, none⟩ = some (.slice ac rs.length kc)) 11 (by kernel_rfl) (by exact q1) (fun hHeld => ?_)
    refine wpAnyS_take (i := 0) (v := ?v1) rfl (by kernel_rfl) (by kernel_rfl) (by kernel_rfl) (by kernel_rfl) (fun _ _ _ h => h) (Or.inl ⟨by rfl, ?hy1⟩) (by assumption) ?rest1
    case hy1 => intro w hSw; (try dsimp only at hSw); go_simp; try with_reducible rfl
    try simp only [Act.put, List.setIfInBounds_toArray, List.set_cons_zero, List.set_cons_succ]
    refine wpAnyS_take (i := 1) (v := ?v2) rfl (by kernel_rfl) (by kernel_rfl) (by kernel_rfl) (by kernel_rfl) (fun _ _ _ h => h) (Or.inl ⟨by rfl, ?hy2⟩) (by assumption) ?rest2
    case hy2 => intro w hSw; (try dsimp only at hSw); go_simp; try with_reducible rfl
    try simp only [Act.put, List.setIfInBounds_toArray, List.set_cons_zero, List.set_cons_succ]
    refine wpAnyS_take (i := 2) (v := ?v3) rfl (by kernel_rfl) (by kernel_rfl) (by kernel_rfl) (by kernel_rfl) (fun _ _ _ h => h) (Or.inl ⟨by rfl, ?hy3⟩) (by assumption) ?rest3
    case hy3 => intro w hSw; (try dsimp only at hSw); go_simp; try with_reducible rfl
    try simp only [Act.put, List.setIfInBounds_toArray, List.set_cons_zero, List.set_cons_succ]
    refine wpAnyS_take (i := 3) (v := ?v4) rfl (by kernel_rfl) (by kernel_rfl) (by kernel_rfl) (by kernel_rfl) (fun _ _ _ h => h) (Or.inl ⟨by rfl, ?hy4⟩) (by assumption) ?rest4
    case hy4 => intro w hSw; (try dsimp only at hSw); go_simp; try with_reducible rfl
    try simp only [Act.put, List.setIfInBounds_toArray, List.set_cons_zero, List.set_cons_succ]
    refine wpAnyS_take (i := 4) (v := ?v5) rfl (by kernel_rfl) (by kernel_rfl) (by kernel_rfl) (by kernel_rfl) (fun _ _ _ h => h) (Or.inl ⟨by rfl, ?hy5⟩) (by assumption) ?rest5
    case hy5 => intro w hSw; (try dsimp only at hSw); go_simp; try with_reducible rfl
    try simp only [Act.put, List.setIfInBounds_toArray, List.set_cons_zero, List.set_cons_succ]
    refine wpAnyS_take (i := 5) (v := ?v6) rfl (by kernel_rfl) (by kernel_rfl) (by kernel_rfl) (by kernel_rfl) (fun _ _ _ h => h) (Or.inl ⟨by rfl, ?hy6⟩) (by assumption) ?rest6
    case hy6 => intro w hSw; (try dsimp only at hSw); go_simp; try with_reducible rfl
    try simp only [Act.put, List.setIfInBounds_toArray, List.set_cons_zero, List.set_cons_succ]
    refine wpAnyS_take (i := 6) (v := ?v7) rfl (by kernel_rfl) (by kernel_rfl) (by kernel_rfl) (by kernel_rfl) (fun _ _ _ h => h) (Or.inl ⟨by rfl, ?hy7⟩) (by assumption) ?rest7
    case hy7 => intro w hSw; (try dsimp only at hSw); go_simp; try with_reducible rfl
    try simp only [Act.put, List.setIfInBounds_toArray, List.set_cons_zero, List.set_cons_succ]
    refine wpAnyS_one (i := 7) rfl (by kernel_rfl) (fun K hK => ?_)
    go_simp; go_at_call 114; refine (HFI.out _ (by first | exact Below.refl _ _ | exact below_drewN (Below.refl _ _) _)).mono ?_; rintro e3 w3 ⟨rfl, hb3, z1, zb⟩
    refine hK.out _ _ (fun _ => z1) (fun hH => ?_)
    have hHeld := hH rfl
    clear hK K hH
    try simp only [Act.put, List.setIfInBounds_toArray, List.set_cons_zero, List.set_cons_succ]
    refine wpAnyS_one (i := 8) rfl (by kernel_rfl) (fun K hK => ?_)
    go_simp; go_at_call 153; refine (HDE.out _ (by first | exact hb3 | exact below_drewN hb3 _)).mono ?_; rintro e5 w5 ⟨a5, c5, rfl, hown5, hO5, hB5, hbb, hdone⟩; have z0 := hbb.cell 1; have z2 := hbb.frozen 1
    refine hK.out _ _ (fun _ => z0) (fun hH => ?_)
    have hHeld := hH rfl
    clear hK K hH
    try simp only [Act.put, List.setIfInBounds_toArray, List.set_cons_zero, List.set_cons_succ]
    refine wpAnyS_one (i := 9) rfl (by kernel_rfl) (fun K hK => ?_)
    go_simp
    refine hK.out _ _ (fun _ => z0) (fun hH => ?_)
    have hHeld := hH rfl
    clear hK K hH
    try simp only [Act.put, List.setIfInBounds_toArray, List.set_cons_zero, List.set_cons_succ]
    refine wpAnyS_one (i := 10) rfl (by kernel_rfl) (fun K hK => ?_)
    go_simp
    refine hK.out _ _ (fun _ => z0) (fun hH => ?_)
    have hHeld := hH rfl
    clear hK K hH
    try simp only [Act.put, List.setIfInBounds_toArray, List.set_cons_zero, List.set_cons_succ]
    refine wpAnyS_one (i := 11) rfl (by kernel_rfl) (fun K hK => ?_)
    go_simp
    refine hK.out _ _ (fun h => absurd h (by decide)) (fun _ => ?_)
    clear hK K
    try simp only [Act.put, List.setIfInBounds_toArray, List.set_cons_zero, List.set_cons_succ]
    refine wpAnyS_done (by kernel_rfl) ?_ _
    all_goals
      have HD := hide hdone
      clear hdone
      go_wp2_with fail
      go_ret
      exact HD.out
  | cons r t =>
    have hpos : (0 : Int) < (t.length : Int) + 1 := by omega
    obtain ⟨J, hJ⟩ : ∃ J, max r.lo n = J := ⟨_, rfl⟩
    have hP : (if r.lo < n then n else r.lo) = J := by rw [← hJ]; split <;> omega
    dsimp only at hcg ⊢
    rw [hJ] at hcg ⊢
    clear hJ
    go_enter Tryz.func106, Tryz.ntmps106
    go_wp2_with (first | (go_at_call 112; refine HNO.out.mono ?_; rintro e1 w1 ⟨rfl, rfl⟩) | (go_at_call 113; refine (sis_yes n _ l0 l1).mono ?_; rintro e2 w2 ⟨rfl, rfl⟩))
    refine wp_region_S (fun w' => w'.cell? ⟨b, 1, none⟩ = some (.slice ac rs.length kc)) 11 (by kernel_rfl) (by exact q1) (fun hHeld => ?_)
    refine wpAnyS_take (i := 0) (v := ?v8) rfl (by kernel_rfl) (by kernel_rfl) (by kernel_rfl) (by kernel_rfl) (fun _ _ _ h => h) (Or.inl ⟨by rfl, ?hy8⟩) (by assumption) ?rest8
    case hy8 => intro w hSw; (try dsimp only at hSw); go_simp; try with_reducible rfl
    try simp only [Act.put, List.setIfInBounds_toArray, List.set_cons_zero, List.set_cons_succ]
    refine wpAnyS_take (i := 1) (v := ?v9) rfl (by kernel_rfl) (by kernel_rfl) (by kernel_rfl) (by kernel_rfl) (fun _ _ _ h => h) (Or.inl ⟨by rfl, ?hy9⟩) (by assumption) ?rest9
    case hy9 => intro w hSw; (try dsimp only at hSw); go_simp; try with_reducible rfl
    try simp only [Act.put, List.setIfInBounds_toArray, List.set_cons_zero, List.set_cons_succ]
    refine wpAnyS_take (i := 2) (v := ?v10) rfl (by kernel_rfl) (by kernel_rfl) (by kernel_rfl) (by kernel_rfl) (fun _ _ _ h => h) (Or.inl ⟨by rfl, ?hy10⟩) (by assumption) ?rest10
    case hy10 => intro w hSw; (try dsimp only at hSw); go_simp; try with_reducible rfl
    try simp only [Act.put, List.setIfInBounds_toArray, List.set_cons_zero, List.set_cons_succ]
    refine wpAnyS_take (i := 3) (v := ?v11) rfl (by kernel_rfl) (by kernel_rfl) (by kernel_rfl) (by kernel_rfl) (fun _ _ _ h => h) (Or.inl ⟨by rfl, ?hy11⟩) (by assumption) ?rest11
    case hy11 => intro w hSw; (try dsimp only at hSw); go_simp; try with_reducible rfl
    try simp only [Act.put, List.setIfInBounds_toArray, List.set_cons_zero, List.set_cons_succ]
    refine wpAnyS_take (i := 4) (v := ?v12) rfl (by kernel_rfl) (by kernel_rfl) (by kernel_rfl) (by kernel_rfl) (fun _ _ _ h => h) (Or.inl ⟨by rfl, ?hy12⟩) (by assumption) ?rest12
    case hy12 => intro w hSw; (try dsimp only at hSw); go_simp; try with_reducible rfl
    try simp only [Act.put, List.setIfInBounds_toArray, List.set_cons_zero, List.set_cons_succ]
    refine wpAnyS_take (i := 5) (v := ?v13) rfl (by kernel_rfl) (by kernel_rfl) (by kernel_rfl) (by kernel_rfl) (fun _ _ _ h => h) (Or.inl ⟨by rfl, ?hy13⟩) (by assumption) ?rest13
    case hy13 => intro w hSw; (try dsimp only at hSw); go_simp; try with_reducible rfl
    try simp only [Act.put, List.setIfInBounds_toArray, List.set_cons_zero, List.set_cons_succ]
    refine wpAnyS_take (i := 6) (v := ?v14) rfl (by kernel_rfl) (by kernel_rfl) (by kernel_rfl) (by kernel_rfl) (fun _ _ _ h => h) (Or.inl ⟨by rfl, ?hy14⟩) (by assumption) ?rest14
    case hy14 => intro w hSw; (try dsimp only at hSw); go_simp; try with_reducible rfl
    try simp only [Act.put, List.setIfInBounds_toArray, List.set_cons_zero, List.set_cons_succ]
    refine wpAnyS_one (i := 7) rfl (by kernel_rfl) (fun K hK => ?_)
    go_simp; go_at_call 114; refine (HFI.out _ (by first | exact Below.refl _ _ | exact below_drewN (Below.refl _ _) _)).mono ?_; rintro e3 w3 ⟨rfl, hb3, z1, zb⟩
    refine hK.out _ _ (fun _ => z1) (fun hH => ?_)
    have hHeld := hH rfl
    clear hK K hH
    try simp only [Act.put, List.setIfInBounds_toArray, List.set_cons_zero, List.set_cons_succ]
    refine wpAnyS_one (i := 8) rfl (by kernel_rfl) (fun K hK => ?_)
    go_simp; go_at_call 153; refine (HDE.out _ (by first | exact hb3 | exact below_drewN hb3 _)).mono ?_; rintro e5 w5 ⟨a5, c5, rfl, hown5, hO5, hB5, hbb, hdone⟩; have z0 := hbb.cell 1; have z2 := hbb.frozen 1
    refine hK.out _ _ (fun _ => z0) (fun hH => ?_)
    have hHeld := hH rfl
    clear hK K hH
    try simp only [Act.put, List.setIfInBounds_toArray, List.set_cons_zero, List.set_cons_succ]
    refine wpAnyS_one (i := 9) rfl (by kernel_rfl) (fun K hK => ?_)
    go_simp
    refine hK.out _ _ (fun _ => z0) (fun hH => ?_)
    have hHeld := hH rfl
    clear hK K hH
    try simp only [Act.put, List.setIfInBounds_toArray, List.set_cons_zero, List.set_cons_succ]
    refine wpAnyS_one (i := 10) rfl (by kernel_rfl) (fun K hK => ?_)
    go_simp
    refine hK.out _ _ (fun _ => z0) (fun hH => ?_)
    have hHeld := hH rfl
    clear hK K hH
    try simp only [Act.put, List.setIfInBounds_toArray, List.set_cons_zero, List.set_cons_succ]
    refine wpAnyS_one (i := 11) rfl (by kernel_rfl) (fun K hK => ?_)
    go_simp
    refine hK.out _ _ (fun h => absurd h (by decide)) (fun _ => ?_)
    clear hK K
    try simp only [Act.put, List.setIfInBounds_toArray, List.set_cons_zero, List.set_cons_succ]
    refine wpAnyS_done (by kernel_rfl) ?_ _
    all_goals
      obtain ⟨_, g5, HS5, hg5, hO5w⟩ := hdone
      have HSS := hide HS5
      have HOO := hide hO5w
      have HGG := hide hg5
      clear HS5 hO5w hg5
      go_wp2_with fail
      refine name_world (fun W => IsSet W b g5 room (r :: t) ∧ Only (b :: g.toList) w W) ⟨by first | exact HSS.out | exact HSS.out.drewN _, by first | exact HOO.out | exact HOO.out.drewN _⟩ ?_
      clear HSS HOO z0 z2 hbb hown5 hO5 hB5
      have hg7 := HGG.out
      clear HGG
      rintro W ⟨HS5, hOW⟩
      obtain ⟨a7, c7, _, q7, hv7, _, hown7, hat7⟩ := HS5.cells
      obtain ⟨k, rfl, hkl, zk, _⟩ := hat7 0 r rfl
      have hk5 : g5 = some k := hv7.symm
      subst hk5
      have hkb := (HS5.lt.2 k rfl).2
      have zf : W.frozen? ⟨k, 0, none⟩ = false := by
        rcases own_split hown7 with ⟨e, _, _⟩ | ⟨g, cap, cur, e, _, hk, _⟩
        · cases e
        · cases e
          exact hk.frozen 0
      have HS7 := hide HS5
      have HO7 := hide hOW
      have HKB := hide hkb
      clear HS5 hOW hat7 hown7 hv7 hkb
      rw [List.length_cons] at q7
      rw [Nat.zero_mul] at zk
      refine wp_region_S (fun w' => w'.cell? ⟨b, 1, none⟩ = some (.slice (some ⟨k, 0, none⟩) (t.length + 1) c7) ∧ w'.cell? ⟨k, 0, none⟩ = some (.int .i64 r.lo)) 15 (by kernel_rfl) (by exact ⟨q7, zk⟩) (fun hHeld => ?_)
      refine wpAnyS_take (i := 0) (v := ?v15) rfl (by kernel_rfl) (by kernel_rfl) (by kernel_rfl) (by kernel_rfl) (fun _ _ _ h => h) (Or.inl ⟨by rfl, ?hy15⟩) (by assumption) ?rest15
      case hy15 => intro w hSw; (try dsimp only at hSw); go_simp; try with_reducible rfl
      try simp only [Act.put, List.setIfInBounds_toArray, List.set_cons_zero, List.set_cons_succ]
      refine wpAnyS_take (i := 1) (v := ?v16) rfl (by kernel_rfl) (by kernel_rfl) (by kernel_rfl) (by kernel_rfl) (fun _ _ _ h => h) (Or.inl ⟨by rfl, ?hy16⟩) (by assumption) ?rest16
      case hy16 => intro w hSw; (try dsimp only at hSw); go_simp; try with_reducible rfl
      try simp only [Act.put, List.setIfInBounds_toArray, List.set_cons_zero, List.set_cons_succ]
      refine wpAnyS_take (i := 2) (v := ?v17) rfl (by kernel_rfl) (by kernel_rfl) (by kernel_rfl) (by kernel_rfl) (fun _ _ _ h => h) (Or.inl ⟨by rfl, ?hy17⟩) (by assumption) ?rest17
      case hy17 => intro w hSw; (try dsimp only at hSw); go_simp; try with_reducible rfl
      try simp only [Act.put, List.setIfInBounds_toArray, List.set_cons_zero, List.set_cons_succ]
      refine wpAnyS_take (i := 3) (v := ?v18) rfl (by kernel_rfl) (by kernel_rfl) (by kernel_rfl) (by kernel_rfl) (fun _ _ _ h => h) (Or.inl ⟨by rfl, ?hy18⟩) (by assumption) ?rest18
      case hy18 => intro w hSw; (try dsimp only at hSw); go_simp; try with_reducible rfl
      try simp only [Act.put, List.setIfInBounds_toArray, List.set_cons_zero, List.set_cons_succ]
      refine wpAnyS_take (i := 4) (v := ?v19) rfl (by kernel_rfl) (by kernel_rfl) (by kernel_rfl) (by kernel_rfl) (fun _ _ _ h => h) (Or.inl ⟨by rfl, ?hy19⟩) (by assumption) ?rest19
      case hy19 => intro w hSw; (try dsimp only at hSw); go_simp; try with_reducible rfl
      try simp only [Act.put, List.setIfInBounds_toArray, List.set_cons_zero, List.set_cons_succ]
      refine wpAnyS_take (i := 5) (v := ?v20) rfl (by kernel_rfl) (by kernel_rfl) (by kernel_rfl) (by kernel_rfl) (fun _ _ _ h => h) (Or.inl ⟨by rfl, ?hy20⟩) (by assumption) ?rest20
      case hy20 => intro w hSw; (try dsimp only at hSw); go_simp; try with_reducible rfl
      try simp only [Act.put, List.setIfInBounds_toArray, List.set_cons_zero, List.set_cons_succ]
      refine wpAnyS_take (i := 6) (v := ?v21) rfl (by kernel_rfl) (by kernel_rfl) (by kernel_rfl) (by kernel_rfl) (fun _ _ _ h => h) (Or.inl ⟨by rfl, ?hy21⟩) (by assumption) ?rest21
      case hy21 => intro w hSw; (try dsimp only at hSw); go_simp; try with_reducible rfl
      try simp only [Act.put, List.setIfInBounds_toArray, List.set_cons_zero, List.set_cons_succ]
      refine wpAnyS_take (i := 7) (v := ?v22) rfl (by kernel_rfl) (by kernel_rfl) (by kernel_rfl) (by kernel_rfl) (fun _ _ _ h => h) (Or.inl ⟨by rfl, ?hy22⟩) (by assumption) ?rest22
      case hy22 => intro w hSw; (try dsimp only at hSw); go_simp; try with_reducible rfl
      try simp only [Act.put, List.setIfInBounds_toArray, List.set_cons_zero, List.set_cons_succ]
      refine wpAnyS_take (i := 8) (v := ?v23) rfl (by kernel_rfl) (by kernel_rfl) (by kernel_rfl) (by kernel_rfl) (fun _ _ _ h => h) (Or.inl ⟨by rfl, ?hy23⟩) (by assumption) ?rest23
      case hy23 => intro w hSw; (try dsimp only at hSw); go_simp; try with_reducible rfl
      try simp only [Act.put, List.setIfInBounds_toArray, List.set_cons_zero, List.set_cons_succ]
      refine wpAnyS_take (i := 9) (v := ?v24) rfl (by kernel_rfl) (by kernel_rfl) (by kernel_rfl) (by kernel_rfl) (fun _ _ _ h => h) (Or.inl ⟨by rfl, ?hy24⟩) (by assumption) ?rest24
      case hy24 => intro w hSw; (try dsimp only at hSw); go_simp; try with_reducible rfl
      try simp only [Act.put, List.setIfInBounds_toArray, List.set_cons_zero, List.set_cons_succ]
      refine wpAnyS_take (i := 10) (v := ?v25) rfl (by kernel_rfl) (by kernel_rfl) (by kernel_rfl) (by kernel_rfl) (fun _ _ _ h => h) (Or.inl ⟨by rfl, ?hy25⟩) (by assumption) ?rest25
      case hy25 => intro w hSw; (try dsimp only at hSw); go_simp; try with_reducible rfl
      try simp only [Act.put, List.setIfInBounds_toArray, List.set_cons_zero, List.set_cons_succ]
      refine wpAnyS_take (i := 11) (v := ?v26) rfl (by kernel_rfl) (by kernel_rfl) (by kernel_rfl) (by kernel_rfl) (fun _ _ _ h => h) (Or.inl ⟨by rfl, ?hy26⟩) (by assumption) ?rest26
      case hy26 => intro w hSw; (try dsimp only at hSw); go_simp; try with_reducible rfl
      try simp only [Act.put, List.setIfInBounds_toArray, List.set_cons_zero, List.set_cons_succ]
      refine wpAnyS_take (i := 12) (v := ?v27) rfl (by kernel_rfl) (by kernel_rfl) (by kernel_rfl) (by kernel_rfl) (fun _ _ _ h => h) (Or.inl ⟨by rfl, ?hy27⟩) (by assumption) ?rest27
      case hy27 => intro w hSw; (try dsimp only at hSw); go_simp; try with_reducible rfl
      try simp only [Act.put, List.setIfInBounds_toArray, List.set_cons_zero, List.set_cons_succ]
      refine wpAnyS_one (i := 13) rfl (by kernel_rfl) (fun K hK => ?_)
      go_simp
      refine hK.out _ _ (fun _ => hHeld) (fun hH => ?_)
      have hHeld := hH rfl
      clear hK K hH
      try simp only [Act.put, List.setIfInBounds_toArray, List.set_cons_zero, List.set_cons_succ]
      refine wpAnyS_one (i := 14) rfl (by kernel_rfl) (fun K hK => ?_)
      go_simp
      refine hK.out _ _ (fun _ => hHeld) (fun hH => ?_)
      have hHeld := hH rfl
      clear hK K hH
      try simp only [Act.put, List.setIfInBounds_toArray, List.set_cons_zero, List.set_cons_succ]
      refine wpAnyS_one (i := 15) rfl (by kernel_rfl) (fun K hK => ?_)
      go_simp
      refine hK.out _ _ (fun h => absurd h (by decide)) (fun _ => ?_)
      clear hK K
      try simp only [Act.put, List.setIfInBounds_toArray, List.set_cons_zero, List.set_cons_succ]
      refine wpAnyS_done (by kernel_rfl) ?_ _
      all_goals
        go_wp2_with fail
        go_ret
        refine ⟨rfl, some k, ?_, hg7, ?_⟩
        · first | exact (HS7.out.setLo hcg).drew | exact HS7.out.setLo hcg | exact (HS7.out.setLo hcg).drewN _
        · have hkm : k ∈ b :: g.toList ∨ w.heap.size ≤ k := by
            rcases hg7 k rfl with h | h
            · exact .inl (by rw [h]; simp)
            · exact .inr h
          first | exact (HO7.out.setCell hkm _).drew | exact HO7.out.setCell hkm _ | exact (HO7.out.setCell hkm _).drewN _
end Go.Proofs.YtgicljeedegncaaGreat
