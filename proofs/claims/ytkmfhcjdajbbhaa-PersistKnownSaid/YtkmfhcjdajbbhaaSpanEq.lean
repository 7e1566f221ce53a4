/-
  Sets of ranges (package span): slices.Equal at ranges.
-/
import Derived.Test.YtkmfhcjdajbbhaaSpanCopy
namespace Go.Proofs.Ytkmfhcjdajbbhaa
set_option linter.unusedSimpArgs false
set_option linter.unusedVariables false
open Go.RowKit

/-- A slice of ranges, as a walk reads it. -/
def RgAt (w : World) (a : Option Addr) (rs : List Rg) : Prop := ∀ (i : Nat) (r : Rg), rs[i]? = some r → ∃ k, a = some ⟨k, 0, none⟩ ∧ k < w.heap.size ∧ w.cell? ⟨k, i * 2, none⟩ = some (.int .i64 r.lo) ∧ w.cell? ⟨k, i * 2 + 1, none⟩ = some (.int .i64 r.hi)
theorem drn (w : World) (a b : Nat) : (w.drewN a).drewN b = w.drewN (a + b) := by simp
theorem list_ext_to {α : Type} {a b : List α} {n : Nat} (ha : a.length = n) (hb : b.length = n) (h : ∀ j, j < n → a[j]? = b[j]?) : a = b := by
  apply List.ext_getElem?
  intro j
  rcases Nat.lt_or_ge j n with hj | hj
  · exact h j hj
  · rw [List.getElem?_eq_none (by omega), List.getElem?_eq_none (by omega)]

set_option maxHeartbeats 1000000 in
theorem seq_any (va ua : Option Addr) (vc uc n m : Nat) (rs ss : List Rg) (w : World) (hn : rs.length = n) (hm : ss.length = m) (hv : RgAt w va rs) (hu : RgAt w ua ss) (hl : n ≤ 1000) (hl2 : m ≤ 1000) :
    Calls Try.prog 50 #[.slice va n vc, .slice ua m uc] w fun e w' => e = .returned (.bool (decide (rs = ss))) ∧ ∃ q, w' = w.drewN q := by
  have HV := hide hv
  have HU := hide hu
  have HN := hide hn
  have HM := hide hm
  clear hv hu
  by_cases hnm : n = m
  · subst hnm
    clear hn hm
    go_enter Try.func50, Try.ntmps50
    go_wp2
    go_loopw [13] (fun s13 wr => ∃ k q : Nat, s13 = .int .i64 k ∧ k ≤ n ∧ (∀ j, j < k → rs[j]? = ss[j]?) ∧ wr = w.drewN q) (fun i _ => n - (intOf i).toNat)
    case atStart => exact ⟨0, 0, rfl, Nat.zero_le _, fun j hj => by omega, rfl⟩
    case round =>
      obtain ⟨k, q, rfl, hk, heq, rfl⟩ := hrel
      have HEQ := hide heq
      clear heq
      by_cases hlt : k < n
      · obtain ⟨x, hx⟩ : ∃ x, rs[k]? = some x := ⟨_, List.getElem?_eq_getElem (by rw [HN.out]; exact hlt)⟩
        obtain ⟨y, hy⟩ : ∃ y, ss[k]? = some y := ⟨_, List.getElem?_eq_getElem (by rw [HM.out]; exact hlt)⟩
        obtain ⟨g, rfl, _, a0, a1⟩ := HV.out k x hx
        obtain ⟨g2, rfl, _, b0, b1⟩ := HU.out k y hy
        have HX := hide hx
        have HY := hide hy
        clear hx hy
        have hki : (k : Int) < (n : Int) := by omega
        have hk0 : (0 : Int) ≤ (k : Int) := by omega
        by_cases hxy : x = y
        · subst hxy
          go_wp2
          go_quiet (fail)
          go_wp2
          go_roundw
          case rel => exact ⟨k + 1, _, by go_num, by omega, fun j hj => by
            rcases Nat.lt_or_ge j k with h | h
            · exact HEQ.out j h
            · obtain rfl : j = k := by omega
              rw [HX.out, HY.out], by first | rfl | (simp; done)⟩
          case measure => simp [intOf]; omega
        · have hd : decide (rs = ss) = false := by
            simp only [decide_eq_false_iff_not]
            intro e
            have h1 := HX.out
            rw [e, HY.out] at h1
            exact hxy (Option.some.inj h1).symm
          have HD := hide hd
          have hne : ¬ (x.lo = y.lo ∧ x.hi = y.hi) := fun ⟨h1, h2⟩ => hxy (by cases x; cases y; simp_all)
          by_cases hlo : x.lo = y.lo
          · have hhi : ¬ x.hi = y.hi := fun h => hne ⟨hlo, h⟩
            clear hne hxy hd
            go_wp2
            go_quiet (fail)
            go_wp2
            go_ret
            exact ⟨by have := HD.out; simp_all, _, by first | rfl | exact drn _ _ _⟩
          · clear hne hxy hd
            go_wp2
            go_quiet (fail)
            go_wp2
            go_ret
            exact ⟨by have := HD.out; simp_all, _, by first | rfl | exact drn _ _ _⟩
      · obtain rfl : k = n := by omega
        have hd : decide (rs = ss) = true := by
          simp only [decide_eq_true_eq]
          exact list_ext_to HN.out HM.out HEQ.out
        have HD := hide hd
        clear hd
        go_wp2
        go_ret
        exact ⟨by have := HD.out; simp_all, _, by first | rfl | exact drn _ _ _⟩
  · have hd : decide (rs = ss) = false := by
      simp only [decide_eq_false_iff_not]
      intro e
      rw [e] at hn
      omega
    have h1 : ¬ (n : Int) = (m : Int) := by omega
    rw [hd]
    clear hn hm hd
    go_enter Try.func50, Try.ntmps50
    go_wp2
    go_ret
    exact ⟨rfl, 0, rfl⟩
end Go.Proofs.Ytkmfhcjdajbbhaa
