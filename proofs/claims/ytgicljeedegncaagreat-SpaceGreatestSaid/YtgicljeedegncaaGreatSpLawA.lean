/-
  The statements of layer 17: packet, steady, ack, numbersOf; EqInts of the documents' helper.
-/
import Derived.Test.YtgicljeedegncaaGreatSpcLose
namespace Go.Proofs.YtgicljeedegncaaGreat
set_option linter.unusedSimpArgs false
set_option linter.unusedVariables false
open Go.RowKit

theorem packet17_any (n t : Int) (w : World) : Calls Tryz.prog 26 #[.int .i64 n, .int .i64 t] w fun e w' => e = .returned (pkA ⟨n, t, 100, true, true, false⟩) ∧ Below w.heap.size w w' := by
  unfold pkA
  go_enter Tryz.func26, Tryz.ntmps26
  go_wp2_with fail
  exact bodyPost_ret (v := .agg #[.int .i64 n, .int .i64 t, .int .i64 100, .bool true, .bool true, .bool false]) (by simp [results, Tryz.results26, go_sem]) rfl ⟨rfl, (Below.refl _ _).alloc (Nat.le_refl _) _⟩
theorem steady17_any (w : World) : Calls Tryz.prog 18 #[] w fun e w' => e = .returned (.agg #[.int .i64 100, .int .i64 1, .int .i64 100, .int .i64 0, .int .i64 0]) ∧ Below w.heap.size w w' := by
  go_enter Tryz.func18, Tryz.ntmps18
  go_wp2_with fail
  exact bodyPost_ret (v := .agg #[.int .i64 100, .int .i64 1, .int .i64 100, .int .i64 0, .int .i64 0]) (by simp [results, Tryz.results18, go_sem]) rfl ⟨rfl, (Below.refl _ _).alloc (Nat.le_refl _) _⟩
theorem rg_info17 : (Tryz.prog.info? 93).map (fun i => (i.zero, i.size, i.bytes)) = some (some (.agg #[.int .i64 0, .int .i64 0]), 2, 16) := by kernel_rfl
theorem int_info17 : (Tryz.prog.info? 3).map (fun i => (i.zero, i.size, i.bytes)) = some (some (.int .i64 0), 1, 8) := by kernel_rfl
/-- A row of integers. -/
def NumsAt (w : World) (a : Option Addr) (ns : List Int) : Prop := ∀ (i : Nat) (z : Int), ns[i]? = some z → ∃ k, a = some ⟨k, 0, none⟩ ∧ k < w.heap.size ∧ w.cell? ⟨k, i, none⟩ = some (.int .i64 z)
theorem NumsAt.below {w w' : World} {a : Option Addr} {ns : List Int} (h : NumsAt w a ns) (hb : Below w.heap.size w w') : NumsAt w' a ns := fun i z hi => by
  obtain ⟨k, e, hk, hc⟩ := h i z hi
  exact ⟨k, e, Nat.lt_of_lt_of_le hk hb.size, (hb.cell (p := ⟨k, i, none⟩) hk).trans hc⟩
theorem NumsAt.only {S : List Nat} {w w' : World} {a : Option Addr} {ns : List Int} (h : NumsAt w a ns) (ho : Only S w w') (hS : ∀ k, a = some ⟨k, 0, none⟩ → k ∉ S) : NumsAt w' a ns := fun i z hi => by
  obtain ⟨k, e, hk, hc⟩ := h i z hi
  exact ⟨k, e, Nat.lt_of_lt_of_le hk ho.size, (ho.cell (p := ⟨k, i, none⟩) hk (hS k e)).trans hc⟩
def intVs (ns : List Int) : List Value := ns.map fun z => .int .i64 z
theorem numsAt_new {w : World} {k t : Nat} {cs : Array Value} {ns : List Int} (h : Blk w k t cs) (e : cs = (intVs ns).toArray) : NumsAt w (some ⟨k, 0, none⟩) ns := fun i z hi => by
  subst e
  exact ⟨k, rfl, h.lt, by rw [h.cell, List.getElem?_toArray]; simp [intVs, hi]⟩
theorem own_ints17 {w : World} {base n c : Nat} {a : Option Addr} {ns : List Int} (hn : ns.length = n) (h : w.ownsRow base 3 1 (.slice a n c) n (intVs ns)) : NumsAt w a ns ∧ n ≤ c ∧ ∀ k o, a = some ⟨k, o, none⟩ → base ≤ k ∧ k < w.heap.size := by
  have hlt := h.lt
  rcases own_split h with ⟨h1, h0, _⟩ | ⟨k, cap, cur, e, hbk, hk, hc, hm, hcl, ht⟩
  · have : ns = [] := List.eq_nil_of_length_eq_zero (by omega)
    subst this
    cases h1
    exact ⟨fun i r hi => by simp at hi, by omega, fun k o e => by cases e⟩
  · cases e
    refine ⟨fun i z hi => ⟨k, rfl, hk.lt, ?_⟩, hc, fun x o e => by cases e; exact hlt k rfl⟩
    have hil : i < ns.length := (List.getElem?_eq_some_iff.1 hi).1
    rw [hk.cell, List.getElem?_toArray]
    have e : (cur.take (n * 1))[i]? = (intVs ns)[i]? := by rw [ht]
    rw [List.getElem?_take, if_pos (by omega)] at e
    rw [e]
    simp [intVs, hi]
set_option maxHeartbeats 2000000 in
theorem numbers17_any (a : Option Addr) (n cap : Nat) (qs : List PK) (w : World) (hn : qs.length = n) (hl : n ≤ 256) (hP : PksAt w a qs) :
    Calls Tryz.prog 24 #[.slice a n cap] w fun e w' => ∃ a2 c2, e = .returned (.slice a2 n c2) ∧ NumsAt w' a2 (qs.map PK.n) ∧ n ≤ c2 ∧ (∀ k o, a2 = some ⟨k, o, none⟩ → w.heap.size ≤ k ∧ k < w'.heap.size) ∧ Below w.heap.size w w' := by
  have HN := hide hn
  have HP := hide hP
  obtain ⟨i0, hi0, hz0, hz1, hz2⟩ := info_parts int_info17
  clear hn hP
  go_enter Tryz.func24, Tryz.ntmps24
  go_wp2_with fail
  go_loopg [3, 4] n (fun kx s3 s4 wr => ∃ i : Nat, s4 = .int .i64 i ∧ i ≤ n ∧ n - i ≤ kx ∧ wr.ownsRow w.heap.size 3 1 s3 i (intVs ((qs.take i).map PK.n)) ∧ Below w.heap.size w wr)
  case atStart => exact ⟨0, rfl, by omega, by omega, ⟨rfl, .inl ⟨rfl, rfl⟩⟩, Below.refl _ _⟩
  case round =>
    obtain ⟨i, rfl, hi, hkx, hown, hB⟩ := hrel
    by_cases hlt : i < n
    · obtain ⟨q, hq⟩ : ∃ q, qs[i]? = some q := ⟨_, List.getElem?_eq_getElem (by rw [HN.out]; exact hlt)⟩
      obtain ⟨k, o, rfl, hk, z0, z1, z2, z3, z4, z5⟩ := (HP.out.below hB (Nat.le_refl _)).cells hq
      have HTK : Hid (qs.take (i + 1) = qs.take i ++ [q]) := by show _ = _; rw [List.take_add_one, hq]; rfl
      have hin : (i : Int) < (n : Int) := by omega
      obtain ⟨A8, c8, hv8⟩ := own_slice' hown
      subst hv8
      have hsz := hB.size
      have HOW := hide hown
      have HB := hide hB
      obtain ⟨qn, qt, qz, qe, qf, qc⟩ := q
      dsimp only at z0
      obtain ⟨xs, hxs⟩ : ∃ xs, intVs ((qs.take i).map PK.n) = xs := ⟨_, rfl⟩
      rw [hxs] at HOW
      have HXS := hide hxs
      clear hown hB hq hxs z1 z2 z3 z4 z5
      go_wp2_with (at_builtin; refine wpList_append_any _ rfl (.tmp 11) (.tmp 17) _ rfl w.heap.size 3 i0 _ 1 8 Tryz.underlying29 hi0 hz0 hz1 hz2 rfl (by decide) (.slice A8 i c8) i xs rfl (by exact HOW.out.alloc _) (wr.heap.size + 1) (some ⟨wr.heap.size, 0, none⟩) 1 1 [.int .i64 qn] rfl (by exact reads_lit (blk_new_at (by simp)) (by simp) rfl) (by simp [Value.oneCell']) (by unfold maxLen; omega) (by omega) (by simp; omega) ?_; intro v8 w8 hown8 hg8 hat8)
      go_roundg (n - (i + 1))
      case rel =>
        refine ⟨i + 1, by go_num, by omega, by omega, ?_, Below.grown (HB.out.alloc hsz _) hg8 (by simp; omega) (fun x hx => (HOW.out.lt x hx).1)⟩
        rw [HTK.out, List.map_append]
        unfold intVs at *
        rw [List.map_append, HXS.out]
        exact hown8
      case measure => omega
    · obtain rfl : i = n := by omega
      have hin : ¬ (i : Int) < (i : Int) := by omega
      rw [List.take_of_length_le (by rw [HN.out]; exact Nat.le_refl _)] at hown
      obtain ⟨A8, c8, hv8⟩ := own_slice' hown
      subst hv8
      obtain ⟨h1, h2, h3⟩ := own_ints17 (by simp [HN.out]) hown
      go_wp2_with fail
      go_ret
      exact ⟨A8, c8, rfl, h1, h2, h3, hB⟩
set_option maxHeartbeats 2000000 in
theorem eqints_any (a b : Option Addr) (n m c d : Nat) (xs ys : List Int) (w : World) (hn : xs.length = n) (hm : ys.length = m) (hl : n ≤ 1000) (hA : NumsAt w a xs) (hB : NumsAt w b ys) :
    Calls Tryz.prog 23 #[.slice a n c, .slice b m d] w fun e w' => e = .returned (.bool (decide (xs = ys))) ∧ Below w.heap.size w w' := by
  by_cases hnm : n = m
  · subst hnm
    have HN := hide hn
    have HM := hide hm
    have HA := hide hA
    have HB := hide hB
    clear hn hm hA hB
    go_enter Tryz.func23, Tryz.ntmps23
    go_wp2_with fail
    go_loopg [5] n (fun kx s5 wr => ∃ i : Nat, s5 = .int .i64 i ∧ i ≤ n ∧ n - i ≤ kx ∧ Hid (xs.take i = ys.take i) ∧ Below w.heap.size w wr)
    case atStart => exact ⟨0, rfl, by omega, by omega, rfl, Below.refl _ _⟩
    case round =>
      obtain ⟨i, rfl, hi, hkx, heq, hW⟩ := hrel
      by_cases hlt : i < n
      · obtain ⟨x, hx⟩ : ∃ x, xs[i]? = some x := ⟨_, List.getElem?_eq_getElem (by rw [HN.out]; exact hlt)⟩
        obtain ⟨y, hy⟩ : ∃ y, ys[i]? = some y := ⟨_, List.getElem?_eq_getElem (by rw [HM.out]; exact hlt)⟩
        obtain ⟨k, rfl, hk, z0⟩ := (HA.out.below hW) i x hx
        obtain ⟨k2, rfl, hk2, z1⟩ := (HB.out.below hW) i y hy
        have hin : (i : Int) < (n : Int) := by omega
        have HX := hide hx
        have HY := hide hy
        have HE := heq
        have HW := hide hW
        clear hx hy heq hW
        by_cases hxy : x = y
        · subst hxy
          go_wp2_with fail
          go_quiet (fail)
          go_wp2_with fail
          go_roundg (n - (i + 1))
          case rel => exact ⟨i + 1, by go_num, by omega, by omega, (by show _ = _; rw [List.take_add_one, List.take_add_one, HX.out, HY.out, HE.out]), below_drewN HW.out _⟩
          case measure => omega
        · have hne : (x == y) = false := by simpa using hxy
          go_wp2_with fail
          go_quiet (fail)
          go_wp2_with fail
          go_ret
          refine ⟨?_, below_drewN HW.out _⟩
          rw [decide_eq_false (fun e => hxy (by have h1 := HX.out; rw [e, HY.out] at h1; exact (Option.some.inj h1).symm))]
          rfl
      · obtain rfl : i = n := by omega
        have hin : ¬ (i : Int) < (i : Int) := by omega
        have HE := heq
        clear heq
        go_wp2_with fail
        go_ret
        refine ⟨?_, hW⟩
        have h1 : xs.take i = ys.take i := HE.out
        rw [List.take_of_length_le (by rw [HN.out]; exact Nat.le_refl _), List.take_of_length_le (by rw [HM.out]; exact Nat.le_refl _)] at h1
        rw [decide_eq_true h1]
        rfl
  · have hne : (n : Int) ≠ (m : Int) := by omega
    have HN := hide hn
    have HM := hide hm
    clear hn hm hA hB
    go_enter Tryz.func23, Tryz.ntmps23
    go_wp2_with fail
    go_ret
    refine ⟨?_, Below.refl _ _⟩
    rw [decide_eq_false (fun e => hnm (by rw [← HN.out, ← HM.out, e]))]
    rfl
end Go.Proofs.YtgicljeedegncaaGreat
