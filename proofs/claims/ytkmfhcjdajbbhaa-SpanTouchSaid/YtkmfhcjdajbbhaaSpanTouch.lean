/-
  The statement SpanTouch: its walk. Printed by wip/gentouch.py.
-/
import Derived.Test.YtkmfhcjdajbbhaaSpanTouchLaw
import Derived.Test.YtkmfhcjdajbbhaaBits
import Derived.Test.YtkmfhcjdajbbhaaRegionStore
namespace Go.Proofs.Ytkmfhcjdajbbhaa
set_option linter.unusedSimpArgs false
set_option linter.unusedVariables false
open Go.RowKit

theorem rowsR_len (X Y : Nat → Int) : ∀ k, (rowsR X Y k).length ≤ k
  | 0 => Nat.le_refl _
  | k + 1 => by
    obtain ⟨a, b, c⟩ := rowB (X k) (Y k)
    have := addR_le (rowsR_good X Y k) b
    have := rowsR_len X Y k
    show (addR _ _ _).length ≤ _
    omega
def TouchAt (w W : World) (b : Nat) (g : Option Nat) (c : Nat) (gc : Option Nat) (rs : List Rg) (a : Option Addr) : Prop := AllS w W [⟨b, g, 256, rs⟩, ⟨c, gc, 256, rs⟩] ∧ RgFree W b g a rs.reverse
theorem TouchAt.later {w W w' : World} {b c : Nat} {g gc : Option Nat} {rs : List Rg} {a : Option Addr} (h : TouchAt w W b g c gc rs a) (hb : Below W.heap.size W w') : TouchAt w w' b g c gc rs a := ⟨h.1.later hb, h.2.below hb⟩
/-- Add, Cut that change nothing. -/
theorem TouchAt.step {w W w' : World} {b c : Nat} {g gc : Option Nat} {rs : List Rg} {a : Option Addr} {x : Ending} (h : TouchAt w W b g c gc rs a) (hp : SAddPost W b g 256 rs x w') : x = .returned (.int .i64 0) ∧ ∃ g', TouchAt w w' b g' c gc rs a := by
  obtain ⟨h1, g', h2, h3, h4⟩ := h.1.stepX hp
  exact ⟨h1, g', h2, h.2.step h3 h4⟩
theorem touch_add {w W : World} {b c : Nat} {g gc : Option Nat} {rs : List Rg} {a : Option Addr} (h : TouchAt w W b g c gc rs a) {lo hi : Int} (he : addR lo hi rs = rs) (h0 : 0 ≤ lo) (h1 : lo ≤ hi) (h2 : hi ≤ 9007199254740991) :
    Calls Try.prog 14 #[.pointer (some ⟨b, 0, none⟩), .int .i64 lo, .int .i64 hi] W fun e w' => e = .returned (.int .i64 0) ∧ ∃ g', TouchAt w w' b g' c gc rs a := by
  have hl := h.1.head.set.len
  refine (add_ok b g 256 lo hi rs W h.1.head.set h0 h1 h2 (by rw [he]; exact hl.1)).mono fun e w' hp => ?_
  rw [he] at hp
  exact h.step hp
theorem touch_cut_any {w W : World} {b c : Nat} {g gc : Option Nat} {rs : List Rg} {a : Option Addr} (h : TouchAt w W b g c gc rs a) {J : Int} (hJ : (if minOf rs < 0 then 0 else minOf rs) = J) :
    Calls Try.prog 24 #[.pointer (some ⟨b, 0, none⟩), .int .i64 J] W fun e w' => e = .returned (.int .i64 0) ∧ ∃ g', TouchAt w w' b g' c gc rs a := by
  obtain ⟨h1, h2, h3⟩ := touch_cut h.1.head.set.good hJ
  refine (cut_ok b g 256 J rs W h.1.head.set h2 h3).mono fun e w' hp => ?_
  rw [h1] at hp
  exact h.step hp
theorem touch_same_any {w W : World} {b c : Nat} {g gc : Option Nat} {rs : List Rg} {a : Option Addr} (h : TouchAt w W b g c gc rs a) :
    Calls Try.prog 23 #[.pointer (some ⟨b, 0, none⟩), .pointer (some ⟨c, 0, none⟩)] W fun e w' => e = .returned (.bool true) ∧ TouchAt w w' b g c gc rs a :=
  (ssame_any b c g gc 256 256 rs rs W h.1.head.set h.1.swap.head.set).mono fun e w' ⟨h1, h2⟩ => ⟨by rw [h1]; simp, h.later h2⟩
/-- One range of those that were handed out. -/
theorem TouchAt.at {w W : World} {b c : Nat} {g gc : Option Nat} {rs : List Rg} {a : Option Addr} (h : TouchAt w W b g c gc rs a) {i : Nat} {r : Rg} (hi : rs.reverse[i]? = some r) :
    ∃ k, a = some ⟨k, 0, none⟩ ∧ W.cell? ⟨k, i * 2, none⟩ = some (.int .i64 r.lo) ∧ W.cell? ⟨k, i * 2 + 1, none⟩ = some (.int .i64 r.hi) := by
  obtain ⟨k, e, _, z0, z1⟩ := h.2.1 i r hi
  exact ⟨k, e, z0, z1⟩
theorem RgAt.cells {W : World} {k : Nat} {rs : List Rg} (h : RgAt W (some ⟨k, 0, none⟩) rs) {i : Nat} {r : Rg} (hi : rs[i]? = some r) :
    W.cell? ⟨k, i * 2, none⟩ = some (.int .i64 r.lo) ∧ W.cell? ⟨k, i * 2 + 1, none⟩ = some (.int .i64 r.hi) := by
  obtain ⟨k', e, _, z0, z1⟩ := h i r hi
  cases e
  exact ⟨z0, z1⟩
theorem TouchAt.cells {w W : World} {b c k : Nat} {g gc : Option Nat} {rs : List Rg} (h : TouchAt w W b g c gc rs (some ⟨k, 0, none⟩)) {i : Nat} {r : Rg} (hi : rs.reverse[i]? = some r) :
    W.cell? ⟨k, i * 2, none⟩ = some (.int .i64 r.lo) ∧ W.cell? ⟨k, i * 2 + 1, none⟩ = some (.int .i64 r.hi) := by
  obtain ⟨k', e, z0, z1⟩ := h.at hi
  cases e
  exact ⟨z0, z1⟩

set_option maxRecDepth 100000 in
set_option maxHeartbeats 4000000 in
theorem stouch_any (a : Option Addr) (len cap : Nat) (which : Int) (X Y : Nat → Int) (w : World) (hz : PairsAt w a len X Y) (hwh : -9223372036854775808 ≤ which) (hwh2 : which ≤ 9223372036854775807) :
    Calls Try.prog 8 #[.slice a len cap, .int .i64 which] w fun e w' => e = .returned (.bool true) ∧ Below w.heap.size w w' := by
  have HZ := hide hz
  have hlen := hz.1
  clear hz
  go_enter Try.func8, Try.ntmps8
  go_wp2_with fail
  refine (snew_ok 256 _ (by omega) (by omega)).mono ?_
  intro e0 w0 hp
  obtain ⟨b, rfl, h⟩ := AllS.nil.fresh (w := w) (W := w) hp (Below.refl _ _)
  clear hp
  go_wp2_with fail
  go_loopg [7] 30 (fun kx s7 wr => ∃ (k : Nat) (g : Option Nat), s7 = .int .i64 k ∧ k ≤ 30 ∧ k ≤ len ∧ 30 - k ≤ kx ∧ AllS w wr [⟨b, g, 256, rowsR X Y k⟩])
  case atStart => exact ⟨0, none, rfl, by omega, by omega, by omega, h⟩
  case round =>
    obtain ⟨k, g, rfl, hk, hkl, hkx, hs⟩ := hrel
    clear h
    by_cases hlt : k < len ∧ k < 30
    · obtain ⟨hlt, hlt2⟩ := hlt
      obtain ⟨xb, xo, ha, hc, hd, hx0, hx1, hy0, hy1⟩ := HZ.out.at hs.head.below hlt
      subst ha
      have HR := hide (fun W => row_any (X k) (Y k) W hx0 hx1 hy0 hy1)
      obtain ⟨q0, q1, q2⟩ := rowB (X k) (Y k)
      have hln := rowsR_len X Y (k + 1)
      have hnx : addR (rowLo (X k)) (rowHi (X k) (Y k)) (rowsR X Y k) = rowsR X Y (k + 1) := rfl
      obtain ⟨lo, hlo⟩ : ∃ lo, rowLo (X k) = lo := ⟨_, rfl⟩
      obtain ⟨hi, hhi⟩ : ∃ hi, rowHi (X k) (Y k) = hi := ⟨_, rfl⟩
      rw [hlo, hhi] at HR q1 hnx
      rw [hlo] at q0
      rw [hhi] at q2
      obtain ⟨rs, hrs⟩ : ∃ rs, rowsR X Y k = rs := ⟨_, rfl⟩
      obtain ⟨ss, hss⟩ : ∃ ss, rowsR X Y (k + 1) = ss := ⟨_, rfl⟩
      rw [hrs] at hs hnx
      rw [hss] at hln hnx
      have HNX := hide hnx
      have HS := hide hs
      have HSS := hide hss
      clear hlo hhi hx0 hx1 hy0 hy1 hnx hrs hs hss
      have hd2 : wr.cell? ⟨xb, xo + k * 2 + 1, none⟩ = some (.int .i64 (Y k)) := hd
      have hkn : (k : Int) < (len : Int) := by omega
      have hk4 : (k : Int) < 30 := by omega
      go_wp2_with fail
      refine (HR.out _).mono ?_
      rintro e2 w2 ⟨rfl, hb2⟩
      have h2 := HS.out.later hb2
      clear HS hb2 hc hd hd2 HR
      go_wp2_with fail
      refine (add_ok b _ 256 lo hi rs _ h2.head.set q0 q1 (by omega) (by rw [HNX.out]; omega)).mono ?_
      rw [HNX.out]
      intro e5 w5 hp
      obtain ⟨rfl, g5, h5⟩ := h2.step hp
      clear h2 hp
      go_wp2_with fail
      go_roundg (30 - (k + 1))
      case rel => exact ⟨k + 1, g5, by go_num, by omega, by omega, by omega, by rw [HSS.out]; exact h5⟩
      case measure => omega
    · have hln := rowsR_len X Y k
      have hgd := rowsR_good X Y k
      obtain ⟨rs, hrs⟩ : ∃ rs, rowsR X Y k = rs := ⟨_, rfl⟩
      rw [hrs] at hs hln hgd
      clear hrs hkx
      rcases (by omega : len ≤ k ∨ (k < len ∧ k = 30)) with hend | ⟨hend, rfl⟩
      all_goals
        clear hlt
        as_aux_lemma =>
          go_wp2_with fail
          refine (scopy_any b _ 256 _ _ hs.head.set).mono ?_
          intro e3 w3 hp
          obtain ⟨c, gc, rfl, h3⟩ := hs.copy hp
          have h3 := h3.swap
          clear hs hp
          go_wp2_with fail
          refine (ranges_any b _ 256 _ _ h3.head.set).mono ?_
          rintro e8 w8 ⟨v1, rfl, hr1, _, hb8⟩
          obtain ⟨a1, n1, rfl⟩ := own_slice' hr1
          have h8 : TouchAt w w8 b g c gc rs a1 := ⟨h3.later hb8, RgFree.mk h3.head List.length_reverse hr1⟩
          clear h3 hb8 hr1
          go_wp2_with fail
          go_loopg [12] rs.length (fun kx s12 wr => ∃ (i : Nat) (g : Option Nat), s12 = .int .i64 i ∧ i ≤ rs.length ∧ rs.length - i ≤ kx ∧ TouchAt w wr b g c gc rs a1)
          case atStart => exact ⟨0, g, rfl, by omega, by omega, h8⟩
          case round =>
            clear h8
            obtain ⟨i, g, rfl, hi, hkx, hs⟩ := hrel
            by_cases hlt : i < rs.length
            · obtain ⟨r, hr⟩ : ∃ r, rs.reverse[i]? = some r := ⟨_, List.getElem?_eq_getElem (by rw [List.length_reverse]; exact hlt)⟩
              have hm : r ∈ rs := by have := List.mem_of_getElem? hr; simpa using this
              have hl := hgd.le r hm
              have hl0 := hgd.lo r hm
              have hl1 := hgd.hi r hm
              obtain ⟨kr, rfl, z0, z1⟩ := hs.at hr
              have HT1 := hide (touch_same hgd hm (Int.le_refl _) hl (Int.le_refl _))
              have HT2 := hide (touch_same hgd hm hl (Int.le_refl _) (Int.le_refl _))
              have HRR := hide hr
              have hin : (i : Int) < (rs.length : Int) := by omega
              clear hr hm
              have hS0 := hs
              go_wp2_with fail
              refine wp_region_S (fun w' => w'.cell? ⟨kr, i * 2, none⟩ = some (.int .i64 r.lo) ∧ w'.cell? ⟨kr, i * 2 + 1, none⟩ = some (.int .i64 r.hi)) 1000 (by kernel_rfl) (by exact ⟨z0, z1⟩) (fun hHeld => ?_)
              refine wpAnyS_take (i := 0) (v := ?_) rfl (by kernel_rfl) (by kernel_rfl) (by kernel_rfl) (by kernel_rfl) (fun _ _ _ h => h) (Or.inl ⟨by rfl, ?_⟩) (by assumption) ?_
              rotate_left
              · intro w hSw; (try dsimp only at hSw); go_simp; try with_reducible rfl
              try simp only [Act.put, List.getElem_toArray, List.getElem_cons_succ, List.getElem_cons_zero, List.setIfInBounds_toArray, List.set_cons_zero, List.set_cons_succ]
              refine wpAnyS_take (i := 1) (v := ?_) rfl (by kernel_rfl) (by kernel_rfl) (by kernel_rfl) (by kernel_rfl) (fun _ _ _ h => h) (Or.inl ⟨by rfl, ?_⟩) (by assumption) ?_
              rotate_left
              · intro w hSw; (try dsimp only at hSw); go_simp; try with_reducible rfl
              try simp only [Act.put, List.getElem_toArray, List.getElem_cons_succ, List.getElem_cons_zero, List.setIfInBounds_toArray, List.set_cons_zero, List.set_cons_succ]
              refine wpAnyS_take (i := 2) (v := ?_) rfl (by kernel_rfl) (by kernel_rfl) (by kernel_rfl) (by kernel_rfl) (fun _ _ _ h => h) (Or.inl ⟨by rfl, ?_⟩) (by assumption) ?_
              rotate_left
              · intro w hSw; (try dsimp only at hSw); go_simp; try with_reducible rfl
              try simp only [Act.put, List.getElem_toArray, List.getElem_cons_succ, List.getElem_cons_zero, List.setIfInBounds_toArray, List.set_cons_zero, List.set_cons_succ]
              refine wpAnyS_take (i := 3) (v := ?_) rfl (by kernel_rfl) (by kernel_rfl) (by kernel_rfl) (by kernel_rfl) (fun _ _ _ h => h) (Or.inl ⟨by rfl, ?_⟩) (by assumption) ?_
              rotate_left
              · intro w hSw; (try dsimp only at hSw); go_simp; try with_reducible rfl
              try simp only [Act.put, List.getElem_toArray, List.getElem_cons_succ, List.getElem_cons_zero, List.setIfInBounds_toArray, List.set_cons_zero, List.set_cons_succ]
              refine wpAnyS_take (i := 4) (v := ?_) rfl (by kernel_rfl) (by kernel_rfl) (by kernel_rfl) (by kernel_rfl) (fun _ _ _ h => h) (Or.inl ⟨by rfl, ?_⟩) (by assumption) ?_
              rotate_left
              · intro w hSw; (try dsimp only at hSw); go_simp; try with_reducible rfl
              try simp only [Act.put, List.getElem_toArray, List.getElem_cons_succ, List.getElem_cons_zero, List.setIfInBounds_toArray, List.set_cons_zero, List.set_cons_succ]
              refine wpAnyS_take (i := 5) (v := ?_) rfl (by kernel_rfl) (by kernel_rfl) (by kernel_rfl) (by kernel_rfl) (fun _ _ _ h => h) (Or.inl ⟨by rfl, ?_⟩) (by assumption) ?_
              rotate_left
              · intro w hSw; (try dsimp only at hSw); go_simp; try with_reducible rfl
              try simp only [Act.put, List.getElem_toArray, List.getElem_cons_succ, List.getElem_cons_zero, List.setIfInBounds_toArray, List.set_cons_zero, List.set_cons_succ]
              refine wpAnyS_take (i := 6) (v := ?_) rfl (by kernel_rfl) (by kernel_rfl) (by kernel_rfl) (by kernel_rfl) (fun _ _ _ h => h) (Or.inl ⟨by rfl, ?_⟩) (by assumption) ?_
              rotate_left
              · intro w hSw; (try dsimp only at hSw); go_simp; try with_reducible rfl
              try simp only [Act.put, List.getElem_toArray, List.getElem_cons_succ, List.getElem_cons_zero, List.setIfInBounds_toArray, List.set_cons_zero, List.set_cons_succ]
              refine wpAnyS_take (i := 7) (v := ?_) rfl (by kernel_rfl) (by kernel_rfl) (by kernel_rfl) (by kernel_rfl) (fun _ _ _ h => h) (Or.inl ⟨by rfl, ?_⟩) (by assumption) ?_
              rotate_left
              · intro w hSw; (try dsimp only at hSw); go_simp; try with_reducible rfl
              try simp only [Act.put, List.getElem_toArray, List.getElem_cons_succ, List.getElem_cons_zero, List.setIfInBounds_toArray, List.set_cons_zero, List.set_cons_succ]
              refine wpAnyS_take (i := 8) (v := ?_) rfl (by kernel_rfl) (by kernel_rfl) (by kernel_rfl) (by kernel_rfl) (fun _ _ _ h => h) (Or.inl ⟨by rfl, ?_⟩) (by assumption) ?_
              rotate_left
              · intro w hSw; (try dsimp only at hSw); go_simp; try with_reducible rfl
              try simp only [Act.put, List.getElem_toArray, List.getElem_cons_succ, List.getElem_cons_zero, List.setIfInBounds_toArray, List.set_cons_zero, List.set_cons_succ]
              refine wpAnyS_take (i := 9) (v := ?_) rfl (by kernel_rfl) (by kernel_rfl) (by kernel_rfl) (by kernel_rfl) (fun _ _ _ h => h) (Or.inl ⟨by rfl, ?_⟩) (by assumption) ?_
              rotate_left
              · intro w hSw; (try dsimp only at hSw); go_simp; try with_reducible rfl
              try simp only [Act.put, List.getElem_toArray, List.getElem_cons_succ, List.getElem_cons_zero, List.setIfInBounds_toArray, List.set_cons_zero, List.set_cons_succ]
              refine wpAnyS_take (i := 10) (v := ?_) rfl (by kernel_rfl) (by kernel_rfl) (by kernel_rfl) (by kernel_rfl) (fun _ _ _ h => h) (Or.inl ⟨by rfl, ?_⟩) (by assumption) ?_
              rotate_left
              · intro w hSw; (try dsimp only at hSw); go_simp; try with_reducible rfl
              try simp only [Act.put, List.getElem_toArray, List.getElem_cons_succ, List.getElem_cons_zero, List.setIfInBounds_toArray, List.set_cons_zero, List.set_cons_succ]
              refine wpAnyS_one (i := 11) rfl (by kernel_rfl) (fun K hK => ?_)
              go_simp; go_at_call 14; refine (touch_add (hs.later (by first | exact Below.refl _ _ | exact below_drewN (Below.refl _ _) _)) HT1.out hl0 hl hl1).mono ?_; rintro e5 w5 ⟨rfl, g5, hs5⟩
              refine hK.out _ _ (fun _ => hs5.cells HRR.out) (fun hH => ?_)
              have hHeld := hH rfl
              clear hK K hH
              try simp only [Act.put, List.getElem_toArray, List.getElem_cons_succ, List.getElem_cons_zero, List.setIfInBounds_toArray, List.set_cons_zero, List.set_cons_succ]
              refine wpAnyS_take (i := 12) (v := ?_) rfl (by kernel_rfl) (by kernel_rfl) (by kernel_rfl) (by kernel_rfl) (fun _ _ _ h => h) (Or.inl ⟨by rfl, ?_⟩) (by assumption) ?_
              rotate_left
              · intro w hSw; (try dsimp only at hSw); go_simp; try with_reducible rfl
              try simp only [Act.put, List.getElem_toArray, List.getElem_cons_succ, List.getElem_cons_zero, List.setIfInBounds_toArray, List.set_cons_zero, List.set_cons_succ]
              refine wpAnyS_take (i := 13) (v := ?_) rfl (by kernel_rfl) (by kernel_rfl) (by kernel_rfl) (by kernel_rfl) (fun _ _ _ h => h) (Or.inl ⟨by rfl, ?_⟩) (by assumption) ?_
              rotate_left
              · intro w hSw; (try dsimp only at hSw); go_simp; try with_reducible rfl
              try simp only [Act.put, List.getElem_toArray, List.getElem_cons_succ, List.getElem_cons_zero, List.setIfInBounds_toArray, List.set_cons_zero, List.set_cons_succ]
              refine wpAnyS_take (i := 14) (v := ?_) rfl (by kernel_rfl) (by kernel_rfl) (by kernel_rfl) (by kernel_rfl) (fun _ _ _ h => h) (Or.inl ⟨by rfl, ?_⟩) (by assumption) ?_
              rotate_left
              · intro w hSw; (try dsimp only at hSw); go_simp; try with_reducible rfl
              try simp only [Act.put, List.getElem_toArray, List.getElem_cons_succ, List.getElem_cons_zero, List.setIfInBounds_toArray, List.set_cons_zero, List.set_cons_succ]
              refine wpAnyS_take (i := 15) (v := ?_) rfl (by kernel_rfl) (by kernel_rfl) (by kernel_rfl) (by kernel_rfl) (fun _ _ _ h => h) (Or.inl ⟨by rfl, ?_⟩) (by assumption) ?_
              rotate_left
              · intro w hSw; (try dsimp only at hSw); go_simp; try with_reducible rfl
              try simp only [Act.put, List.getElem_toArray, List.getElem_cons_succ, List.getElem_cons_zero, List.setIfInBounds_toArray, List.set_cons_zero, List.set_cons_succ]
              refine wpAnyS_take (i := 16) (v := ?_) rfl (by kernel_rfl) (by kernel_rfl) (by kernel_rfl) (by kernel_rfl) (fun _ _ _ h => h) (Or.inl ⟨by rfl, ?_⟩) (by assumption) ?_
              rotate_left
              · intro w hSw; (try dsimp only at hSw); go_simp; try with_reducible rfl
              try simp only [Act.put, List.getElem_toArray, List.getElem_cons_succ, List.getElem_cons_zero, List.setIfInBounds_toArray, List.set_cons_zero, List.set_cons_succ]
              refine wpAnyS_take (i := 17) (v := ?_) rfl (by kernel_rfl) (by kernel_rfl) (by kernel_rfl) (by kernel_rfl) (fun _ _ _ h => h) (Or.inl ⟨by rfl, ?_⟩) (by assumption) ?_
              rotate_left
              · intro w hSw; (try dsimp only at hSw); go_simp; try with_reducible rfl
              try simp only [Act.put, List.getElem_toArray, List.getElem_cons_succ, List.getElem_cons_zero, List.setIfInBounds_toArray, List.set_cons_zero, List.set_cons_succ]
              refine wpAnyS_take (i := 18) (v := ?_) rfl (by kernel_rfl) (by kernel_rfl) (by kernel_rfl) (by kernel_rfl) (fun _ _ _ h => h) (Or.inl ⟨by rfl, ?_⟩) (by assumption) ?_
              rotate_left
              · intro w hSw; (try dsimp only at hSw); go_simp; try with_reducible rfl
              try simp only [Act.put, List.getElem_toArray, List.getElem_cons_succ, List.getElem_cons_zero, List.setIfInBounds_toArray, List.set_cons_zero, List.set_cons_succ]
              refine wpAnyS_take (i := 19) (v := ?_) rfl (by kernel_rfl) (by kernel_rfl) (by kernel_rfl) (by kernel_rfl) (fun _ _ _ h => h) (Or.inl ⟨by rfl, ?_⟩) (by assumption) ?_
              rotate_left
              · intro w hSw; (try dsimp only at hSw); go_simp; try with_reducible rfl
              try simp only [Act.put, List.getElem_toArray, List.getElem_cons_succ, List.getElem_cons_zero, List.setIfInBounds_toArray, List.set_cons_zero, List.set_cons_succ]
              refine wpAnyS_take (i := 20) (v := ?_) rfl (by kernel_rfl) (by kernel_rfl) (by kernel_rfl) (by kernel_rfl) (fun _ _ _ h => h) (Or.inl ⟨by rfl, ?_⟩) (by assumption) ?_
              rotate_left
              · intro w hSw; (try dsimp only at hSw); go_simp; try with_reducible rfl
              try simp only [Act.put, List.getElem_toArray, List.getElem_cons_succ, List.getElem_cons_zero, List.setIfInBounds_toArray, List.set_cons_zero, List.set_cons_succ]
              refine wpAnyS_take (i := 21) (v := ?_) rfl (by kernel_rfl) (by kernel_rfl) (by kernel_rfl) (by kernel_rfl) (fun _ _ _ h => h) (Or.inl ⟨by rfl, ?_⟩) (by assumption) ?_
              rotate_left
              · intro w hSw; (try dsimp only at hSw); go_simp; try with_reducible rfl
              try simp only [Act.put, List.getElem_toArray, List.getElem_cons_succ, List.getElem_cons_zero, List.setIfInBounds_toArray, List.set_cons_zero, List.set_cons_succ]
              refine wpAnyS_take (i := 22) (v := ?_) rfl (by kernel_rfl) (by kernel_rfl) (by kernel_rfl) (by kernel_rfl) (fun _ _ _ h => h) (Or.inl ⟨by rfl, ?_⟩) (by assumption) ?_
              rotate_left
              · intro w hSw; (try dsimp only at hSw); go_simp; try with_reducible rfl
              try simp only [Act.put, List.getElem_toArray, List.getElem_cons_succ, List.getElem_cons_zero, List.setIfInBounds_toArray, List.set_cons_zero, List.set_cons_succ]
              refine wpAnyS_take (i := 23) (v := ?_) rfl (by kernel_rfl) (by kernel_rfl) (by kernel_rfl) (by kernel_rfl) (fun _ _ _ h => h) (Or.inl ⟨by rfl, ?_⟩) (by assumption) ?_
              rotate_left
              · intro w hSw; (try dsimp only at hSw); go_simp; try with_reducible rfl
              try simp only [Act.put, List.getElem_toArray, List.getElem_cons_succ, List.getElem_cons_zero, List.setIfInBounds_toArray, List.set_cons_zero, List.set_cons_succ]
              refine wpAnyS_take (i := 24) (v := ?_) rfl (by kernel_rfl) (by kernel_rfl) (by kernel_rfl) (by kernel_rfl) (fun _ _ _ h => h) (Or.inl ⟨by rfl, ?_⟩) (by assumption) ?_
              rotate_left
              · intro w hSw; (try dsimp only at hSw); go_simp; try with_reducible rfl
              try simp only [Act.put, List.getElem_toArray, List.getElem_cons_succ, List.getElem_cons_zero, List.setIfInBounds_toArray, List.set_cons_zero, List.set_cons_succ]
              refine wpAnyS_one (i := 25) rfl (by kernel_rfl) (fun K hK => ?_)
              go_simp; go_at_call 14; refine (touch_add (hs5.later (by first | exact Below.refl _ _ | exact below_drewN (Below.refl _ _) _)) HT2.out (by omega) (Int.le_refl _) hl1).mono ?_; rintro e6 w6 ⟨rfl, g6, hs6⟩
              refine hK.out _ _ (fun _ => hs6.cells HRR.out) (fun hH => ?_)
              have hHeld := hH rfl
              clear hK K hH
              try simp only [Act.put, List.getElem_toArray, List.getElem_cons_succ, List.getElem_cons_zero, List.setIfInBounds_toArray, List.set_cons_zero, List.set_cons_succ]
              refine wpAnyS_take (i := 26) (v := ?_) rfl (by kernel_rfl) (by kernel_rfl) (by kernel_rfl) (by kernel_rfl) (fun _ _ _ h => h) (Or.inl ⟨by rfl, ?_⟩) (by assumption) ?_
              rotate_left
              · intro w hSw; (try dsimp only at hSw); go_simp; try with_reducible rfl
              try simp only [Act.put, List.getElem_toArray, List.getElem_cons_succ, List.getElem_cons_zero, List.setIfInBounds_toArray, List.set_cons_zero, List.set_cons_succ]
              refine wpAnyS_take (i := 27) (v := ?_) rfl (by kernel_rfl) (by kernel_rfl) (by kernel_rfl) (by kernel_rfl) (fun _ _ _ h => h) (Or.inl ⟨by rfl, ?_⟩) (by assumption) ?_
              rotate_left
              · intro w hSw; (try dsimp only at hSw); go_simp; try with_reducible rfl
              try simp only [Act.put, List.getElem_toArray, List.getElem_cons_succ, List.getElem_cons_zero, List.setIfInBounds_toArray, List.set_cons_zero, List.set_cons_succ]
              refine wpAnyS_done (by kernel_rfl) ?_ _
              go_wp2_with fail
              go_roundg (rs.length - (i + 1))
              case rel => exact ⟨i + 1, g6, by go_num, by omega, by omega, hs6⟩
              case measure => omega
            · obtain rfl : i = rs.length := by omega
              have hin : ¬ (rs.length : Int) < (rs.length : Int) := by omega
              clear hlt hi hkx
              obtain ⟨m, hm⟩ : ∃ m, minOf rs = m := ⟨_, rfl⟩
              obtain ⟨J, hJ⟩ : ∃ J, (if m < 0 then 0 else m) = J := ⟨_, rfl⟩
              have HJ := hide (show (if minOf rs < 0 then 0 else minOf rs) = J by rw [hm]; exact hJ)
              have HM := hide hm
              clear hm
              by_cases hn2 : rs.length < 2
              · have hi2 : (rs.length : Int) < 2 := by omega
                go_wp2_with fail
                refine (smin_any b _ 256 rs _ hs.1.head.set).mono ?_
                rintro e2 w2 ⟨rfl, hb2⟩
                rw [HM.out]
                have hs2 := hs.later hb2
                clear hs hb2
                go_wp2_with fail
                refine (touch_cut_any hs2 HJ.out).mono ?_
                rintro e3 w3 ⟨rfl, g3, hs3⟩
                clear hs2
                go_wp2_with fail
                refine (touch_same_any hs3).mono ?_
                rintro e4 w4 ⟨rfl, hs4⟩
                clear hs3
                clear hJ
                go_wp2_with fail
                refine (touch_same_any hs4).mono ?_
                rintro e5 w5 ⟨rfl, hs5⟩
                go_wp2_with fail
                refine (sworks_any _).mono ?_
                rintro e9 w9 ⟨rfl, hb9⟩
                go_wp2_with fail
                go_ret
                exact ⟨rfl, bw_below' hs5.1.head.below hb9⟩
              · have hi2 : ¬ (rs.length : Int) < 2 := by omega
                go_wp2_with fail
                refine (smin_any b _ 256 rs _ hs.1.head.set).mono ?_
                rintro e2 w2 ⟨rfl, hb2⟩
                rw [HM.out]
                have hs2 := hs.later hb2
                clear hs hb2
                go_wp2_with fail
                refine (touch_cut_any hs2 HJ.out).mono ?_
                rintro e3 w3 ⟨rfl, g3, hs3⟩
                clear hs2
                go_wp2_with fail
                refine (touch_same_any hs3).mono ?_
                rintro e4 w4 ⟨rfl, hs4⟩
                clear hs3
                clear hJ
                go_wp2_with fail
                have hb0 := Int.emod_nonneg which (show ((rs.length : Int) - 1) ≠ 0 by omega)
                have hb1 := Int.emod_lt_of_pos which (show 0 < (rs.length : Int) - 1 by omega)
                have hbr := bring_any which ((rs.length : Int) - 1) w4 (by omega) (by omega) hwh hwh2
                obtain ⟨K, hK⟩ : ∃ K : Nat, which % ((rs.length : Int) - 1) = (K : Int) := ⟨(which % ((rs.length : Int) - 1)).toNat, by omega⟩
                rw [hK] at hbr hb1
                clear hK hb0
                refine hbr.mono ?_
                rintro e5 w5 ⟨rfl, rfl⟩
                clear hbr
                have hK1 : K + 1 < rs.length := by omega
                have hK0 : K < rs.length := by omega
                have hK2 : (K : Int) + 1 < (rs.length : Int) := by omega
                have hK3 : (K : Int) < (rs.length : Int) := by omega
                obtain ⟨p, hp⟩ : ∃ p, rs.reverse[K]? = some p := ⟨_, List.getElem?_eq_getElem (by rw [List.length_reverse]; exact hK0)⟩
                obtain ⟨q, hq⟩ : ∃ q, rs.reverse[K + 1]? = some q := ⟨_, List.getElem?_eq_getElem (by rw [List.length_reverse]; exact hK1)⟩
                obtain ⟨t1, t2, t3, t4, t5⟩ := touch_join hgd hp hq
                obtain ⟨ys, hys⟩ : ∃ ys, addR (q.hi + 1) (p.lo - 1) rs = ys := ⟨_, rfl⟩
                have HADD := hide (fun W (h : TouchAt w W b g3 c gc rs a1) => (add_ok b g3 256 (q.hi + 1) (p.lo - 1) rs W h.1.head.set (by omega) t1 (by omega) (by omega)).mono fun e w' hp => h.1.stepX hp)
                rw [hys] at t4 t5
                simp only [hys] at HADD
                obtain ⟨kr, rfl, p0, p1⟩ := hs4.at hp
                obtain ⟨q0, q1⟩ := hs4.cells hq
                have HP := hide hp
                have HQ := hide hq
                have HT5 := hide t5
                clear hp hq hys t5 HJ HM
                obtain ⟨qlo, qhi⟩ := q
                obtain ⟨plo, phi⟩ := p
                dsimp only at *
                have e1 : IntKind.i64.wrap (K + 1) = (K : Int) + 1 := IntWalk.i64_in _ ⟨by omega, by omega⟩
                have e2 : ((K : Int) + 1).toNat = K + 1 := by omega
                have e5 : (0 : Int) ≤ (K : Int) + 1 := by omega
                have e3 : IntKind.i64.wrap (qhi + 1) = qhi + 1 := IntWalk.i64_in _ ⟨by omega, by omega⟩
                have e4 : IntKind.i64.wrap (plo - 1) = plo - 1 := IntWalk.i64_in _ ⟨by omega, by omega⟩
                go_wp2_with fail
                refine wp_region_S (fun w' => w'.cell? ⟨kr, K * 2, none⟩ = some (.int .i64 plo) ∧ w'.cell? ⟨kr, (K + 1) * 2 + 1, none⟩ = some (.int .i64 qhi)) 1000 (by kernel_rfl) (by exact ⟨p0, q1⟩) (fun hHeld => ?_)
                refine wpAnyS_take (i := 0) (v := ?_) rfl (by kernel_rfl) (by kernel_rfl) (by kernel_rfl) (by kernel_rfl) (fun _ _ _ h => h) (Or.inl ⟨by rfl, ?_⟩) (by assumption) ?_
                rotate_left
                · intro w hSw; (try dsimp only at hSw); go_simp; try with_reducible rfl
                try simp only [Act.put, List.getElem_toArray, List.getElem_cons_succ, List.getElem_cons_zero, List.setIfInBounds_toArray, List.set_cons_zero, List.set_cons_succ]
                refine wpAnyS_take (i := 1) (v := ?_) rfl (by kernel_rfl) (by kernel_rfl) (by kernel_rfl) (by kernel_rfl) (fun _ _ _ h => h) (Or.inl ⟨by rfl, ?_⟩) (by assumption) ?_
                rotate_left
                · intro w hSw; (try dsimp only at hSw); go_simp; try with_reducible rfl
                try simp only [Act.put, List.getElem_toArray, List.getElem_cons_succ, List.getElem_cons_zero, List.setIfInBounds_toArray, List.set_cons_zero, List.set_cons_succ]
                refine wpAnyS_take (i := 2) (v := ?_) rfl (by kernel_rfl) (by kernel_rfl) (by kernel_rfl) (by kernel_rfl) (fun _ _ _ h => h) (Or.inl ⟨by rfl, ?_⟩) (by assumption) ?_
                rotate_left
                · intro w hSw; (try dsimp only at hSw); go_simp; try with_reducible rfl
                try simp only [Act.put, List.getElem_toArray, List.getElem_cons_succ, List.getElem_cons_zero, List.setIfInBounds_toArray, List.set_cons_zero, List.set_cons_succ]
                refine wpAnyS_take (i := 3) (v := ?_) rfl (by kernel_rfl) (by kernel_rfl) (by kernel_rfl) (by kernel_rfl) (fun _ _ _ h => h) (Or.inl ⟨by rfl, ?_⟩) (by assumption) ?_
                rotate_left
                · intro w hSw; (try dsimp only at hSw); go_simp; try with_reducible rfl
                try simp only [Act.put, List.getElem_toArray, List.getElem_cons_succ, List.getElem_cons_zero, List.setIfInBounds_toArray, List.set_cons_zero, List.set_cons_succ]
                refine wpAnyS_take (i := 4) (v := ?_) rfl (by kernel_rfl) (by kernel_rfl) (by kernel_rfl) (by kernel_rfl) (fun _ _ _ h => h) (Or.inl ⟨by rfl, ?_⟩) (by assumption) ?_
                rotate_left
                · intro w hSw; (try dsimp only at hSw); go_simp; try with_reducible rfl
                try simp only [Act.put, List.getElem_toArray, List.getElem_cons_succ, List.getElem_cons_zero, List.setIfInBounds_toArray, List.set_cons_zero, List.set_cons_succ]
                refine wpAnyS_take (i := 5) (v := ?_) rfl (by kernel_rfl) (by kernel_rfl) (by kernel_rfl) (by kernel_rfl) (fun _ _ _ h => h) (Or.inl ⟨by rfl, ?_⟩) (by assumption) ?_
                rotate_left
                · intro w hSw; (try dsimp only at hSw); go_simp; try with_reducible rfl
                try simp only [Act.put, List.getElem_toArray, List.getElem_cons_succ, List.getElem_cons_zero, List.setIfInBounds_toArray, List.set_cons_zero, List.set_cons_succ]
                refine wpAnyS_take (i := 6) (v := ?_) rfl (by kernel_rfl) (by kernel_rfl) (by kernel_rfl) (by kernel_rfl) (fun _ _ _ h => h) (Or.inl ⟨by rfl, ?_⟩) (by assumption) ?_
                rotate_left
                · intro w hSw; (try dsimp only at hSw); go_simp; try with_reducible rfl
                try simp only [Act.put, List.getElem_toArray, List.getElem_cons_succ, List.getElem_cons_zero, List.setIfInBounds_toArray, List.set_cons_zero, List.set_cons_succ]
                refine wpAnyS_take (i := 7) (v := ?_) rfl (by kernel_rfl) (by kernel_rfl) (by kernel_rfl) (by kernel_rfl) (fun _ _ _ h => h) (Or.inl ⟨by rfl, ?_⟩) (by assumption) ?_
                rotate_left
                · intro w hSw; (try dsimp only at hSw); go_simp; try with_reducible rfl
                try simp only [Act.put, List.getElem_toArray, List.getElem_cons_succ, List.getElem_cons_zero, List.setIfInBounds_toArray, List.set_cons_zero, List.set_cons_succ]
                refine wpAnyS_take (i := 8) (v := ?_) rfl (by kernel_rfl) (by kernel_rfl) (by kernel_rfl) (by kernel_rfl) (fun _ _ _ h => h) (Or.inl ⟨by rfl, ?_⟩) (by assumption) ?_
                rotate_left
                · intro w hSw; (try dsimp only at hSw); go_simp; try with_reducible rfl
                try simp only [Act.put, List.getElem_toArray, List.getElem_cons_succ, List.getElem_cons_zero, List.setIfInBounds_toArray, List.set_cons_zero, List.set_cons_succ]
                refine wpAnyS_take (i := 9) (v := ?_) rfl (by kernel_rfl) (by kernel_rfl) (by kernel_rfl) (by kernel_rfl) (fun _ _ _ h => h) (Or.inl ⟨by rfl, ?_⟩) (by assumption) ?_
                rotate_left
                · intro w hSw; (try dsimp only at hSw); go_simp; try with_reducible rfl
                try simp only [Act.put, List.getElem_toArray, List.getElem_cons_succ, List.getElem_cons_zero, List.setIfInBounds_toArray, List.set_cons_zero, List.set_cons_succ]
                refine wpAnyS_take (i := 10) (v := ?_) rfl (by kernel_rfl) (by kernel_rfl) (by kernel_rfl) (by kernel_rfl) (fun _ _ _ h => h) (Or.inl ⟨by rfl, ?_⟩) (by assumption) ?_
                rotate_left
                · intro w hSw; (try dsimp only at hSw); go_simp; try with_reducible rfl
                try simp only [Act.put, List.getElem_toArray, List.getElem_cons_succ, List.getElem_cons_zero, List.setIfInBounds_toArray, List.set_cons_zero, List.set_cons_succ]
                refine wpAnyS_take (i := 11) (v := ?_) rfl (by kernel_rfl) (by kernel_rfl) (by kernel_rfl) (by kernel_rfl) (fun _ _ _ h => h) (Or.inl ⟨by rfl, ?_⟩) (by assumption) ?_
                rotate_left
                · intro w hSw; (try dsimp only at hSw); go_simp; try with_reducible rfl
                try simp only [Act.put, List.getElem_toArray, List.getElem_cons_succ, List.getElem_cons_zero, List.setIfInBounds_toArray, List.set_cons_zero, List.set_cons_succ]
                refine wpAnyS_take (i := 12) (v := ?_) rfl (by kernel_rfl) (by kernel_rfl) (by kernel_rfl) (by kernel_rfl) (fun _ _ _ h => h) (Or.inl ⟨by rfl, ?_⟩) (by assumption) ?_
                rotate_left
                · intro w hSw; (try dsimp only at hSw); go_simp; try with_reducible rfl
                try simp only [Act.put, List.getElem_toArray, List.getElem_cons_succ, List.getElem_cons_zero, List.setIfInBounds_toArray, List.set_cons_zero, List.set_cons_succ]
                refine wpAnyS_take (i := 13) (v := ?_) rfl (by kernel_rfl) (by kernel_rfl) (by kernel_rfl) (by kernel_rfl) (fun _ _ _ h => h) (Or.inl ⟨by rfl, ?_⟩) (by assumption) ?_
                rotate_left
                · intro w hSw; (try dsimp only at hSw); go_simp; try with_reducible rfl
                try simp only [Act.put, List.getElem_toArray, List.getElem_cons_succ, List.getElem_cons_zero, List.setIfInBounds_toArray, List.set_cons_zero, List.set_cons_succ]
                refine wpAnyS_one (i := 14) rfl (by kernel_rfl) (fun K hK => ?_)
                go_simp; go_at_call 14; refine (HADD.out _ (hs4.later (by first | exact Below.refl _ _ | exact below_drewN (Below.refl _ _) _))).mono ?_; rintro e6 w6 ⟨rfl, g6, hs6, hg6, ho6⟩; have hf6 := (hs4.later (by first | exact Below.refl _ _ | exact below_drewN (Below.refl _ _) _)).2.step hg6 ho6
                refine hK.out _ _ (fun _ => ⟨(hf6.1.cells HP.out).1, (hf6.1.cells HQ.out).2⟩) (fun hH => ?_)
                have hHeld := hH rfl
                clear hK K hH
                try simp only [Act.put, List.getElem_toArray, List.getElem_cons_succ, List.getElem_cons_zero, List.setIfInBounds_toArray, List.set_cons_zero, List.set_cons_succ]
                refine wpAnyS_take (i := 15) (v := ?_) rfl (by kernel_rfl) (by kernel_rfl) (by kernel_rfl) (by kernel_rfl) (fun _ _ _ h => h) (Or.inl ⟨by rfl, ?_⟩) (by assumption) ?_
                rotate_left
                · intro w hSw; (try dsimp only at hSw); go_simp; try with_reducible rfl
                try simp only [Act.put, List.getElem_toArray, List.getElem_cons_succ, List.getElem_cons_zero, List.setIfInBounds_toArray, List.set_cons_zero, List.set_cons_succ]
                refine wpAnyS_done (by kernel_rfl) ?_ _
                clear hs4 p0 p1 q0 q1
                go_wp2_with fail
                refine (ranges_any b _ 256 ys _ hs6.head.set).mono ?_
                rintro e7 w7 ⟨v2, rfl, hr2, _, hb7⟩
                obtain ⟨a2, n2, rfl⟩ := own_slice' hr2
                have h7 := hs6.later hb7
                have hg2 := own_rgat List.length_reverse hr2
                obtain ⟨k2, rfl, hk2, y0, y1⟩ := hg2 K _ HT5.out
                have hf7 := hf6.below hb7
                clear hs6 hf6 hb7 hr2
                have hkr := (hf7.2 kr rfl).2.2
                have x0 := (hf7.1.cells HP.out).2
                have x1 := (hf7.1.cells HQ.out).1
                dsimp only at x0 x1 y0 y1
                have e6 : ((ys.length : Int) == IntKind.i64.wrap ((rs.length : Int) - 1)) = true := by rw [IntWalk.i64_in _ ⟨by omega, by omega⟩, beq_iff_eq]; omega
                have e7 : IntKind.i64.wrap ((rs.length : Int) - 1) = (rs.length : Int) - 1 := IntWalk.i64_in _ ⟨by omega, by omega⟩
                have e8 : ((ys.length : Int) == (rs.length : Int) - 1) = true := by rw [beq_iff_eq]; omega
                have hK4 : (K : Int) < (ys.length : Int) := by omega
                have hK5 : K < ys.length := by omega
                clear hg2
                go_wp2_with fail
                refine wp_region_S (fun w' => w'.cell? ⟨kr, K * 2 + 1, none⟩ = some (.int .i64 phi) ∧ w'.cell? ⟨kr, (K + 1) * 2, none⟩ = some (.int .i64 qlo) ∧ w'.cell? ⟨k2, K * 2, none⟩ = some (.int .i64 qlo) ∧ w'.cell? ⟨k2, K * 2 + 1, none⟩ = some (.int .i64 phi)) 1000 (by kernel_rfl) (by exact ⟨x0, x1, y0, y1⟩) (fun hHeld => ?_)
                refine wpAnyS_take (i := 0) (v := ?_) rfl (by kernel_rfl) (by kernel_rfl) (by kernel_rfl) (by kernel_rfl) (fun _ _ _ h => h) (Or.inl ⟨by rfl, ?_⟩) (by assumption) ?_
                rotate_left
                · intro w hSw; (try dsimp only at hSw); go_simp; try with_reducible rfl
                try simp only [Act.put, List.getElem_toArray, List.getElem_cons_succ, List.getElem_cons_zero, List.setIfInBounds_toArray, List.set_cons_zero, List.set_cons_succ]
                refine wpAnyS_take (i := 1) (v := ?_) rfl (by kernel_rfl) (by kernel_rfl) (by kernel_rfl) (by kernel_rfl) (fun _ _ _ h => h) (Or.inl ⟨by rfl, ?_⟩) (by assumption) ?_
                rotate_left
                · intro w hSw; (try dsimp only at hSw); go_simp; try with_reducible rfl
                try simp only [Act.put, List.getElem_toArray, List.getElem_cons_succ, List.getElem_cons_zero, List.setIfInBounds_toArray, List.set_cons_zero, List.set_cons_succ]
                refine wpAnyS_take (i := 2) (v := ?_) rfl (by kernel_rfl) (by kernel_rfl) (by kernel_rfl) (by kernel_rfl) (fun _ _ _ h => h) (Or.inl ⟨by rfl, ?_⟩) (by assumption) ?_
                rotate_left
                · intro w hSw; (try dsimp only at hSw); go_simp; try with_reducible rfl
                try simp only [Act.put, List.getElem_toArray, List.getElem_cons_succ, List.getElem_cons_zero, List.setIfInBounds_toArray, List.set_cons_zero, List.set_cons_succ]
                refine wpAnyS_take (i := 3) (v := ?_) rfl (by kernel_rfl) (by kernel_rfl) (by kernel_rfl) (by kernel_rfl) (fun _ _ _ h => h) (Or.inl ⟨by rfl, ?_⟩) (by assumption) ?_
                rotate_left
                · intro w hSw; (try dsimp only at hSw); go_simp; try with_reducible rfl
                try simp only [Act.put, List.getElem_toArray, List.getElem_cons_succ, List.getElem_cons_zero, List.setIfInBounds_toArray, List.set_cons_zero, List.set_cons_succ]
                refine wpAnyS_take (i := 4) (v := ?_) rfl (by kernel_rfl) (by kernel_rfl) (by kernel_rfl) (by kernel_rfl) (fun _ _ _ h => h) (Or.inl ⟨by rfl, ?_⟩) (by assumption) ?_
                rotate_left
                · intro w hSw; (try dsimp only at hSw); go_simp; try with_reducible rfl
                try simp only [Act.put, List.getElem_toArray, List.getElem_cons_succ, List.getElem_cons_zero, List.setIfInBounds_toArray, List.set_cons_zero, List.set_cons_succ]
                refine wpAnyS_take (i := 5) (v := ?_) rfl (by kernel_rfl) (by kernel_rfl) (by kernel_rfl) (by kernel_rfl) (fun _ _ _ h => h) (Or.inl ⟨by rfl, ?_⟩) (by assumption) ?_
                rotate_left
                · intro w hSw; (try dsimp only at hSw); go_simp; try with_reducible rfl
                try simp only [Act.put, List.getElem_toArray, List.getElem_cons_succ, List.getElem_cons_zero, List.setIfInBounds_toArray, List.set_cons_zero, List.set_cons_succ]
                refine wpAnyS_take (i := 6) (v := ?_) rfl (by kernel_rfl) (by kernel_rfl) (by kernel_rfl) (by kernel_rfl) (fun _ _ _ h => h) (Or.inl ⟨by rfl, ?_⟩) (by assumption) ?_
                rotate_left
                · intro w hSw; (try dsimp only at hSw); go_simp; try with_reducible rfl
                try simp only [Act.put, List.getElem_toArray, List.getElem_cons_succ, List.getElem_cons_zero, List.setIfInBounds_toArray, List.set_cons_zero, List.set_cons_succ]
                refine wpAnyS_take (i := 7) (v := ?_) rfl (by kernel_rfl) (by kernel_rfl) (by kernel_rfl) (by kernel_rfl) (fun _ _ _ h => h) (Or.inl ⟨by rfl, ?_⟩) (by assumption) ?_
                rotate_left
                · intro w hSw; (try dsimp only at hSw); go_simp; try with_reducible rfl
                try simp only [Act.put, List.getElem_toArray, List.getElem_cons_succ, List.getElem_cons_zero, List.setIfInBounds_toArray, List.set_cons_zero, List.set_cons_succ]
                refine wpAnyS_take (i := 8) (v := ?_) rfl (by kernel_rfl) (by kernel_rfl) (by kernel_rfl) (by kernel_rfl) (fun _ _ _ h => h) (Or.inl ⟨by rfl, ?_⟩) (by assumption) ?_
                rotate_left
                · intro w hSw; (try dsimp only at hSw); go_simp; try with_reducible rfl
                try simp only [Act.put, List.getElem_toArray, List.getElem_cons_succ, List.getElem_cons_zero, List.setIfInBounds_toArray, List.set_cons_zero, List.set_cons_succ]
                refine wpAnyS_take (i := 9) (v := ?_) rfl (by kernel_rfl) (by kernel_rfl) (by kernel_rfl) (by kernel_rfl) (fun _ _ _ h => h) (Or.inl ⟨by rfl, ?_⟩) (by assumption) ?_
                rotate_left
                · intro w hSw; (try dsimp only at hSw); go_simp; try with_reducible rfl
                try simp only [Act.put, List.getElem_toArray, List.getElem_cons_succ, List.getElem_cons_zero, List.setIfInBounds_toArray, List.set_cons_zero, List.set_cons_succ]
                refine wpAnyS_take (i := 10) (v := ?_) rfl (by kernel_rfl) (by kernel_rfl) (by kernel_rfl) (by kernel_rfl) (fun _ _ _ h => h) (Or.inl ⟨by rfl, ?_⟩) (by assumption) ?_
                rotate_left
                · intro w hSw; (try dsimp only at hSw); go_simp; try with_reducible rfl
                try simp only [Act.put, List.getElem_toArray, List.getElem_cons_succ, List.getElem_cons_zero, List.setIfInBounds_toArray, List.set_cons_zero, List.set_cons_succ]
                refine wpAnyS_take (i := 11) (v := ?_) rfl (by kernel_rfl) (by kernel_rfl) (by kernel_rfl) (by kernel_rfl) (fun _ _ _ h => h) (Or.inl ⟨by rfl, ?_⟩) (by assumption) ?_
                rotate_left
                · intro w hSw; (try dsimp only at hSw); go_simp; try with_reducible rfl
                try simp only [Act.put, List.getElem_toArray, List.getElem_cons_succ, List.getElem_cons_zero, List.setIfInBounds_toArray, List.set_cons_zero, List.set_cons_succ]
                refine wpAnyS_take (i := 12) (v := ?_) rfl (by kernel_rfl) (by kernel_rfl) (by kernel_rfl) (by kernel_rfl) (fun _ _ _ h => h) (Or.inl ⟨by rfl, ?_⟩) (by assumption) ?_
                rotate_left
                · intro w hSw; (try dsimp only at hSw); go_simp; try with_reducible rfl
                try simp only [Act.put, List.getElem_toArray, List.getElem_cons_succ, List.getElem_cons_zero, List.setIfInBounds_toArray, List.set_cons_zero, List.set_cons_succ]
                refine wpAnyS_take (i := 13) (v := ?_) rfl (by kernel_rfl) (by kernel_rfl) (by kernel_rfl) (by kernel_rfl) (fun _ _ _ h => h) (Or.inl ⟨by rfl, ?_⟩) (by assumption) ?_
                rotate_left
                · intro w hSw; (try dsimp only at hSw); go_simp; try with_reducible rfl
                try simp only [Act.put, List.getElem_toArray, List.getElem_cons_succ, List.getElem_cons_zero, List.setIfInBounds_toArray, List.set_cons_zero, List.set_cons_succ]
                refine wpAnyS_take (i := 14) (v := ?_) rfl (by kernel_rfl) (by kernel_rfl) (by kernel_rfl) (by kernel_rfl) (fun _ _ _ h => h) (Or.inl ⟨by rfl, ?_⟩) (by assumption) ?_
                rotate_left
                · intro w hSw; (try dsimp only at hSw); go_simp; try with_reducible rfl
                try simp only [Act.put, List.getElem_toArray, List.getElem_cons_succ, List.getElem_cons_zero, List.setIfInBounds_toArray, List.set_cons_zero, List.set_cons_succ]
                refine wpAnyS_take (i := 15) (v := ?_) rfl (by kernel_rfl) (by kernel_rfl) (by kernel_rfl) (by kernel_rfl) (fun _ _ _ h => h) (Or.inl ⟨by rfl, ?_⟩) (by assumption) ?_
                rotate_left
                · intro w hSw; (try dsimp only at hSw); go_simp; try with_reducible rfl
                try simp only [Act.put, List.getElem_toArray, List.getElem_cons_succ, List.getElem_cons_zero, List.setIfInBounds_toArray, List.set_cons_zero, List.set_cons_succ]
                refine wpAnyS_take (i := 16) (v := ?_) rfl (by kernel_rfl) (by kernel_rfl) (by kernel_rfl) (by kernel_rfl) (fun _ _ _ h => h) (Or.inl ⟨by rfl, ?_⟩) (by assumption) ?_
                rotate_left
                · intro w hSw; (try dsimp only at hSw); go_simp; try with_reducible rfl
                try simp only [Act.put, List.getElem_toArray, List.getElem_cons_succ, List.getElem_cons_zero, List.setIfInBounds_toArray, List.set_cons_zero, List.set_cons_succ]
                refine wpAnyS_take (i := 17) (v := ?_) rfl (by kernel_rfl) (by kernel_rfl) (by kernel_rfl) (by kernel_rfl) (fun _ _ _ h => h) (Or.inl ⟨by rfl, ?_⟩) (by assumption) ?_
                rotate_left
                · intro w hSw; (try dsimp only at hSw); go_simp; try with_reducible rfl
                try simp only [Act.put, List.getElem_toArray, List.getElem_cons_succ, List.getElem_cons_zero, List.setIfInBounds_toArray, List.set_cons_zero, List.set_cons_succ]
                refine wpAnyS_take (i := 18) (v := ?_) rfl (by kernel_rfl) (by kernel_rfl) (by kernel_rfl) (by kernel_rfl) (fun _ _ _ h => h) (Or.inl ⟨by rfl, ?_⟩) (by assumption) ?_
                rotate_left
                · intro w hSw; (try dsimp only at hSw); go_simp; try with_reducible rfl
                try simp only [Act.put, List.getElem_toArray, List.getElem_cons_succ, List.getElem_cons_zero, List.setIfInBounds_toArray, List.set_cons_zero, List.set_cons_succ]
                refine wpAnyS_take (i := 19) (v := ?_) rfl (by kernel_rfl) (by kernel_rfl) (by kernel_rfl) (by kernel_rfl) (fun _ _ _ h => h) (Or.inl ⟨by rfl, ?_⟩) (by assumption) ?_
                rotate_left
                · intro w hSw; (try dsimp only at hSw); go_simp; try with_reducible rfl
                try simp only [Act.put, List.getElem_toArray, List.getElem_cons_succ, List.getElem_cons_zero, List.setIfInBounds_toArray, List.set_cons_zero, List.set_cons_succ]
                refine wpAnyS_take (i := 20) (v := ?_) rfl (by kernel_rfl) (by kernel_rfl) (by kernel_rfl) (by kernel_rfl) (fun _ _ _ h => h) (Or.inl ⟨by rfl, ?_⟩) (by assumption) ?_
                rotate_left
                · intro w hSw; (try dsimp only at hSw); go_simp; try with_reducible rfl
                try simp only [Act.put, List.getElem_toArray, List.getElem_cons_succ, List.getElem_cons_zero, List.setIfInBounds_toArray, List.set_cons_zero, List.set_cons_succ]
                refine wpAnyS_take (i := 21) (v := ?_) rfl (by kernel_rfl) (by kernel_rfl) (by kernel_rfl) (by kernel_rfl) (fun _ _ _ h => h) (Or.inl ⟨by rfl, ?_⟩) (by assumption) ?_
                rotate_left
                · intro w hSw; (try dsimp only at hSw); go_simp; try with_reducible rfl
                try simp only [Act.put, List.getElem_toArray, List.getElem_cons_succ, List.getElem_cons_zero, List.setIfInBounds_toArray, List.set_cons_zero, List.set_cons_succ]
                refine wpAnyS_take (i := 22) (v := ?_) rfl (by kernel_rfl) (by kernel_rfl) (by kernel_rfl) (by kernel_rfl) (fun _ _ _ h => h) (Or.inl ⟨by rfl, ?_⟩) (by assumption) ?_
                rotate_left
                · intro w hSw; (try dsimp only at hSw); go_simp; try with_reducible rfl
                try simp only [Act.put, List.getElem_toArray, List.getElem_cons_succ, List.getElem_cons_zero, List.setIfInBounds_toArray, List.set_cons_zero, List.set_cons_succ]
                refine wpAnyS_take (i := 23) (v := ?_) rfl (by kernel_rfl) (by kernel_rfl) (by kernel_rfl) (by kernel_rfl) (fun _ _ _ h => h) (Or.inl ⟨by rfl, ?_⟩) (by assumption) ?_
                rotate_left
                · intro w hSw; (try dsimp only at hSw); go_simp; try with_reducible rfl
                try simp only [Act.put, List.getElem_toArray, List.getElem_cons_succ, List.getElem_cons_zero, List.setIfInBounds_toArray, List.set_cons_zero, List.set_cons_succ]
                refine wpAnyS_take (i := 24) (v := ?_) rfl (by kernel_rfl) (by kernel_rfl) (by kernel_rfl) (by kernel_rfl) (fun _ _ _ h => h) (Or.inl ⟨by rfl, ?_⟩) (by assumption) ?_
                rotate_left
                · intro w hSw; (try dsimp only at hSw); go_simp; try with_reducible rfl
                try simp only [Act.put, List.getElem_toArray, List.getElem_cons_succ, List.getElem_cons_zero, List.setIfInBounds_toArray, List.set_cons_zero, List.set_cons_succ]
                refine wpAnyS_take (i := 25) (v := ?_) rfl (by kernel_rfl) (by kernel_rfl) (by kernel_rfl) (by kernel_rfl) (fun _ _ _ h => h) (Or.inl ⟨by rfl, ?_⟩) (by assumption) ?_
                rotate_left
                · intro w hSw; (try dsimp only at hSw); go_simp; try with_reducible rfl
                try simp only [Act.put, List.getElem_toArray, List.getElem_cons_succ, List.getElem_cons_zero, List.setIfInBounds_toArray, List.set_cons_zero, List.set_cons_succ]
                refine wpAnyS_one (i := 26) rfl (by kernel_rfl) (fun K hK => ?_)
                go_simp; go_at_call 21; refine (sworks_any _).mono ?_; rintro e9 w9 ⟨rfl, hb9⟩; have hz := hb9
                refine hK.out _ _ (fun _ => ⟨(hz.cell (p := ⟨kr, _, none⟩) hkr).trans x0, (hz.cell (p := ⟨kr, _, none⟩) hkr).trans x1, (hz.cell (p := ⟨k2, _, none⟩) hk2).trans y0, (hz.cell (p := ⟨k2, _, none⟩) hk2).trans y1⟩) (fun hH => ?_)
                have hHeld := hH rfl
                clear hK K hH
                try simp only [Act.put, List.getElem_toArray, List.getElem_cons_succ, List.getElem_cons_zero, List.setIfInBounds_toArray, List.set_cons_zero, List.set_cons_succ]
                refine wpAnyS_take (i := 27) (v := ?_) rfl (by kernel_rfl) (by kernel_rfl) (by kernel_rfl) (by kernel_rfl) (fun _ _ _ h => h) (Or.inl ⟨by rfl, ?_⟩) (by assumption) ?_
                rotate_left
                · intro w hSw; (try dsimp only at hSw); go_simp; try with_reducible rfl
                try simp only [Act.put, List.getElem_toArray, List.getElem_cons_succ, List.getElem_cons_zero, List.setIfInBounds_toArray, List.set_cons_zero, List.set_cons_succ]
                refine wpAnyS_take (i := 28) (v := ?_) rfl (by kernel_rfl) (by kernel_rfl) (by kernel_rfl) (by kernel_rfl) (fun _ _ _ h => h) (Or.inl ⟨by rfl, ?_⟩) (by assumption) ?_
                rotate_left
                · intro w hSw; (try dsimp only at hSw); go_simp; try with_reducible rfl
                try simp only [Act.put, List.getElem_toArray, List.getElem_cons_succ, List.getElem_cons_zero, List.setIfInBounds_toArray, List.set_cons_zero, List.set_cons_succ]
                refine wpAnyS_done (by kernel_rfl) ?_ _
                go_wp2_with fail
                go_ret
                exact ⟨rfl, bw_below' (h7.later (by first | exact Below.refl _ _ | exact below_drewN (Below.refl _ _) _)).head.below hz⟩
end Go.Proofs.Ytkmfhcjdajbbhaa
