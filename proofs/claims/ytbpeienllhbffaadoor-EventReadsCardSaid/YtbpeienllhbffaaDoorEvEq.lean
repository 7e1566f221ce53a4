/-
  Layer 22's law: equal; event.Count: their walks.
-/
import Derived.Test.YtbpeienllhbffaaDoorEvText
namespace Go.Proofs.YtbpeienllhbffaaDoor
set_option linter.unusedSimpArgs false
set_option linter.unusedVariables false
open Go.RowKit Go.Shelf

def cntE (es : List EV) (kind : Int) : Nat := (es.filter fun e => decide (e.kind = kind)).length
theorem cntE_le (es : List EV) (kind : Int) : cntE es kind ≤ es.length := List.length_filter_le _ _
set_option maxRecDepth 100000 in
set_option maxHeartbeats 4000000 in
theorem count_any (a : Option Addr) (cap : Nat) (es : List EV) (kind : Int) (w : World) (he : EvsAt w a es) (hn : es.length ≤ 4611686018427387904) : Calls Tryd.prog 27 #[.slice a es.length cap, .int .i64 kind] w fun x w' => x = .returned (.int .i64 (cntE es kind)) ∧ Below w.heap.size w w' := by
  have HEV := hide he
  obtain ⟨N, hN⟩ : ∃ N, es.length = N := ⟨_, rfl⟩
  have HN := hide hN
  rw [hN] at hn ⊢
  clear he hN
  go_enter Tryd.func27, Tryd.ntmps27
  go_wp2_with fail
  go_loopg [4, 9] N (fun kx s4 s9 wr => ∃ k : Nat, s9 = .int .i64 k ∧ s4 = .int .i64 (cntE (es.take k) kind) ∧ k ≤ N ∧ N - k ≤ kx ∧ Below w.heap.size w wr)
  case atStart => exact ⟨0, rfl, rfl, by omega, by omega, Below.refl _ _⟩
  case round =>
    obtain ⟨k, rfl, rfl, hk, hkx, hB⟩ := hrel
    have HB := hide hB
    have HEW := hide (HEV.out.later hB)
    clear hB
    by_cases hlt : k < N
    · have hlti : (k : Int) < (N : Int) := by omega
      have hk0 : (0 : Int) ≤ (k : Int) := by omega
      obtain ⟨e, hek⟩ : ∃ e, es[k]? = some e := ⟨_, List.getElem?_eq_getElem (by rw [HN.out]; exact hlt)⟩
      have hne : es ≠ [] := by intro h; rw [h] at hek; simp at hek
      obtain ⟨xb, xo, rfl, hxl, z0, z1, z2, z3⟩ : ∃ xb xo, a = some ⟨xb, xo, none⟩ ∧ xb < wr.heap.size ∧ wr.cell? ⟨xb, xo + k * 4, none⟩ = some (.int .i64 e.kind) ∧ wr.cell? ⟨xb, xo + k * 4 + 1, none⟩ = some (.int .i64 e.sp) ∧ wr.cell? ⟨xb, xo + k * 4 + 2, none⟩ = some (.int .i64 e.num) ∧ wr.cell? ⟨xb, xo + k * 4 + 3, none⟩ = some (.int .i64 e.n) := by
        rcases HEW.out with h | ⟨xb, xo, ha, hl, hc⟩
        · exact absurd h hne
        · exact ⟨xb, xo, ha, hl, hc k e hek⟩
      have hcs : cntE (es.take (k + 1)) kind = cntE (es.take k) kind + if e.kind = kind then 1 else 0 := by
        unfold cntE
        rw [List.take_add_one, hek, List.filter_append, List.length_append]
        simp only [Option.toList_some, List.filter_cons, List.filter_nil]
        by_cases h : e.kind = kind
        · simp [h]
        · simp [h]
      have hcl := cntE_le (es.take k) kind
      rw [List.length_take] at hcl
      obtain ⟨ek, es1, en, el⟩ := e
      simp only [] at z0 z1 z2 z3 hcs
      have hax : Below wr.heap.size wr (wr.alloc (.cells (evC ⟨ek, es1, en, el⟩) 36)) := (Below.refl _ _).alloc (Nat.le_refl _) _
      have HB2 := hide (below2 HB.out hax)
      obtain ⟨q, hq⟩ : ∃ q, cntE (es.take k) kind = q := ⟨_, rfl⟩
      rw [hq] at hcs hcl ⊢
      have HCS := hide hcs
      clear hek hne hcs hax hq
      by_cases hkd : ek = kind
      · subst hkd
        go_wp2_with fail
        go_roundg (N - (k + 1))
        case rel => exact ⟨k + 1, by go_num, by rw [HCS.out]; rfl, by omega, by omega, HB2.out⟩
        case measure => omega
      · have hb : (ek == kind) = false := by rw [beq_eq_false_iff_ne]; exact hkd
        go_wp2_with fail
        go_roundg (N - (k + 1))
        case rel => exact ⟨k + 1, by go_num, by rw [HCS.out, if_neg hkd]; rfl, by omega, by omega, HB2.out⟩
        case measure => omega
    · have hkN : k = N := by omega
      subst hkN
      have htk : es.take k = es := List.take_of_length_le (by rw [HN.out]; exact Nat.le_refl _)
      rw [htk]
      clear htk
      go_wp2_with fail
      exact bodyPost_ret (v := .int .i64 (cntE es kind)) (by simp [results, Tryd.results27, go_sem]) rfl ⟨rfl, HB.out⟩
/-- The cells of one event of a row. -/
theorem EvsAt.at {w : World} {a : Option Addr} {es : List EV} {k : Nat} {e : EV} (h : EvsAt w a es) (hk : es[k]? = some e) : ∃ xb xo, a = some ⟨xb, xo, none⟩ ∧ xb < w.heap.size ∧ w.cell? ⟨xb, xo + k * 4, none⟩ = some (.int .i64 e.kind) ∧ w.cell? ⟨xb, xo + k * 4 + 1, none⟩ = some (.int .i64 e.sp) ∧ w.cell? ⟨xb, xo + k * 4 + 2, none⟩ = some (.int .i64 e.num) ∧ w.cell? ⟨xb, xo + k * 4 + 3, none⟩ = some (.int .i64 e.n) := by
  rcases h with h | ⟨xb, xo, ha, hl, hc⟩
  · rw [h] at hk
    simp at hk
  · exact ⟨xb, xo, ha, hl, hc k e hk⟩
set_option maxRecDepth 100000 in
set_option maxHeartbeats 4000000 in
theorem evequal_any (a b : Option Addr) (ca cb : Nat) (es fs : List EV) (w : World) (he : EvsAt w a es) (hf : EvsAt w b fs) (hn : es.length ≤ 4611686018427387904) (hm : fs.length ≤ 4611686018427387904) : Calls Tryd.prog 16 #[.slice a es.length ca, .slice b fs.length cb] w fun x w' => x = .returned (.bool (decide (es = fs))) ∧ Below w.heap.size w w' := by
  have HEV := hide he
  have HFV := hide hf
  obtain ⟨N, hN⟩ : ∃ N, es.length = N := ⟨_, rfl⟩
  obtain ⟨M, hM⟩ : ∃ N, fs.length = N := ⟨_, rfl⟩
  obtain ⟨res, hres⟩ : ∃ r, decide (es = fs) = r := ⟨_, rfl⟩
  have HRES := hide hres
  have HN := hide hN
  have HM := hide hM
  rw [hN] at hn ⊢
  rw [hM] at hm ⊢
  rw [hres]
  clear he hf hN hM hres
  by_cases hNM : N = M
  · subst hNM
    go_enter Tryd.func16, Tryd.ntmps16
    go_wp2_with fail
    go_loopg [5] N (fun kx s5 wr => ∃ k : Nat, s5 = .int .i64 k ∧ k ≤ N ∧ N - k ≤ kx ∧ Hid (es.take k = fs.take k) ∧ Below w.heap.size w wr)
    case atStart => exact ⟨0, rfl, by omega, by omega, rfl, Below.refl _ _⟩
    case round =>
      obtain ⟨k, rfl, hk, hkx, heq, hB⟩ := hrel
      have HB := hide hB
      have HEW := hide (HEV.out.later hB)
      have HFW := hide (HFV.out.later hB)
      clear hB
      by_cases hlt : k < N
      · have hlti : (k : Int) < (N : Int) := by omega
        have hk0 : (0 : Int) ≤ (k : Int) := by omega
        obtain ⟨e, hek⟩ : ∃ e, es[k]? = some e := ⟨_, List.getElem?_eq_getElem (by rw [HN.out]; exact hlt)⟩
        obtain ⟨f, hfk⟩ : ∃ e, fs[k]? = some e := ⟨_, List.getElem?_eq_getElem (by rw [HM.out]; exact hlt)⟩
        obtain ⟨xb, xo, rfl, hxl, z0, z1, z2, z3⟩ := HEW.out.at hek
        obtain ⟨yb, yo, rfl, hyl, y0, y1, y2, y3⟩ := HFW.out.at hfk
        have hno : e ≠ f → res = false := fun h => by
          rw [← HRES.out, decide_eq_false]
          intro h2
          rw [h2, hfk] at hek
          exact h (by injection hek with h3; exact h3.symm)
        have hst : e = f → es.take (k + 1) = fs.take (k + 1) := fun h => by
          rw [List.take_add_one, List.take_add_one, hek, hfk, h, heq.out]
        have HNO := hide hno
        have HST := hide hst
        obtain ⟨e0, e1, e2, e3⟩ := e
        obtain ⟨f0, f1, f2, f3⟩ := f
        simp only [] at z0 z1 z2 z3 y0 y1 y2 y3
        clear hno hst hek hfk
        by_cases h0 : e0 = f0
        · subst h0
          by_cases h1 : e1 = f1
          · subst h1
            by_cases h2 : e2 = f2
            · subst h2
              by_cases h3 : e3 = f3
              · subst h3
                have HS2 := hide (HST.out rfl)
                clear HST HNO
                go_wp2_with fail
                go_quiet (fail)
                go_wp2_with fail
                go_roundg (N - (k + 1))
                case rel => exact ⟨k + 1, by go_num, by omega, by omega, HS2.out, below_drewN HB.out _⟩
                case measure => omega
              · have hb : (e3 == f3) = false := by rw [beq_eq_false_iff_ne]; exact h3
                obtain rfl : res = false := HNO.out (fun h => h3 (by injection h))
                clear HST HNO
                go_wp2_with fail
                go_quiet (fail)
                go_wp2_with fail
                exact bodyPost_ret (v := .bool false) (by simp [results, Tryd.results16, go_sem]) rfl ⟨rfl, below_drewN HB.out _⟩
            · have hb : (e2 == f2) = false := by rw [beq_eq_false_iff_ne]; exact h2
              obtain rfl : res = false := HNO.out (fun h => h2 (by injection h))
              clear HST HNO
              go_wp2_with fail
              go_quiet (fail)
              go_wp2_with fail
              exact bodyPost_ret (v := .bool false) (by simp [results, Tryd.results16, go_sem]) rfl ⟨rfl, below_drewN HB.out _⟩
          · have hb : (e1 == f1) = false := by rw [beq_eq_false_iff_ne]; exact h1
            obtain rfl : res = false := HNO.out (fun h => h1 (by injection h))
            clear HST HNO
            go_wp2_with fail
            go_quiet (fail)
            go_wp2_with fail
            exact bodyPost_ret (v := .bool false) (by simp [results, Tryd.results16, go_sem]) rfl ⟨rfl, below_drewN HB.out _⟩
        · have hb : (e0 == f0) = false := by rw [beq_eq_false_iff_ne]; exact h0
          obtain rfl : res = false := HNO.out (fun h => h0 (by injection h))
          clear HST HNO
          go_wp2_with fail
          go_quiet (fail)
          go_wp2_with fail
          exact bodyPost_ret (v := .bool false) (by simp [results, Tryd.results16, go_sem]) rfl ⟨rfl, below_drewN HB.out _⟩
      · have hkN : k = N := by omega
        subst hkN
        have hr : es = fs := by
          have := heq.out
          rw [List.take_of_length_le (by rw [HN.out]; exact Nat.le_refl _), List.take_of_length_le (by rw [HM.out]; exact Nat.le_refl _)] at this
          exact this
        obtain rfl : res = true := by rw [← HRES.out, decide_eq_true hr]
        clear hr
        go_wp2_with fail
        exact bodyPost_ret (v := .bool true) (by simp [results, Tryd.results16, go_sem]) rfl ⟨rfl, HB.out⟩
  · obtain rfl : res = false := by
      rw [← HRES.out, decide_eq_false]
      intro h
      exact hNM (by rw [← HN.out, ← HM.out, h])
    have hi : ¬ (N : Int) = (M : Int) := by omega
    have hb : ((N : Int) == (M : Int)) = false := by rw [beq_eq_false_iff_ne]; exact hi
    clear hNM
    go_enter Tryd.func16, Tryd.ntmps16
    go_wp2_with fail
    exact bodyPost_ret (v := .bool false) (by simp [results, Tryd.results16, go_sem]) rfl ⟨rfl, Below.refl _ _⟩
end Go.Proofs.YtbpeienllhbffaaDoor
