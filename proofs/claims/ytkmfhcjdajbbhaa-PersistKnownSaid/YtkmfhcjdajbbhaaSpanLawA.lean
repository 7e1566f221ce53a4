/-
  The statements of the sets of ranges: equal, holds, row.
-/
import Derived.Test.YtkmfhcjdajbbhaaSpanIter3
import Derived.Test.YtkmfhcjdajbbhaaBring
namespace Go.Proofs.Ytkmfhcjdajbbhaa
set_option linter.unusedSimpArgs false
set_option linter.unusedVariables false
open Go.RowKit

set_option maxHeartbeats 1000000 in
theorem equal_any (va ua : Option Addr) (vc uc n m : Nat) (rs ss : List Rg) (w : World) (hn : rs.length = n) (hm : ss.length = m) (hv : RgAt w va rs) (hu : RgAt w ua ss) (hl : n ≤ 1000) (hl2 : m ≤ 1000) :
    Calls Try.prog 40 #[.slice va n vc, .slice ua m uc] w fun e w' => e = .returned (.bool (decide (rs = ss))) ∧ ∃ q, w' = w.drewN q := by
  have HV := hide hv
  have HU := hide hu
  have HN := hide hn
  have HM := hide hm
  clear hv hu
  by_cases hnm : n = m
  · subst hnm
    clear hn hm
    go_enter Try.func40, Try.ntmps40
    go_wp2
    go_loopw [5] (fun s13 wr => ∃ k q : Nat, s13 = .int .i64 k ∧ k ≤ n ∧ (∀ j, j < k → rs[j]? = ss[j]?) ∧ wr = w.drewN q) (fun i _ => n - (intOf i).toNat)
    case atStart => exact ⟨0, 0, rfl, Nat.zero_le _, fun j hj => by omega, rfl⟩
    case round =>
      obtain ⟨k, q, rfl, hk, heq, rfl⟩ := hrel
      have HEQ := hide heq
      clear heq
      by_cases hlt : k < n
      · obtain ⟨x, hx⟩ : ∃ x, rs[k]? = some x := ⟨_, List.getElem?_eq_getElem (by rw [HN.out]; exact hlt)⟩
        obtain ⟨y, hy⟩ : ∃ y, ss[k]? = some y := ⟨_, List.getElem?_eq_getElem (by rw [HM.out]; exact hlt)⟩
        obtain ⟨g, rfl, _, a0, a1⟩ := HV.out k x hx
        obtain ⟨g2, rfl, _, b0, b1⟩ := HU.out k y hy
        have HX := hide hx
        have HY := hide hy
        clear hx hy
        have hki : (k : Int) < (n : Int) := by omega
        have hk0 : (0 : Int) ≤ (k : Int) := by omega
        by_cases hxy : x = y
        · subst hxy
          go_wp2
          go_quiet (fail)
          go_wp2
          go_roundw
          case rel => exact ⟨k + 1, _, by go_num, by omega, fun j hj => by
            rcases Nat.lt_or_ge j k with h | h
            · exact HEQ.out j h
            · obtain rfl : j = k := by omega
              rw [HX.out, HY.out], by first | rfl | (simp; done)⟩
          case measure => simp [intOf]; omega
        · have hd : decide (rs = ss) = false := by
            simp only [decide_eq_false_iff_not]
            intro e
            have h1 := HX.out
            rw [e, HY.out] at h1
            exact hxy (Option.some.inj h1).symm
          have HD := hide hd
          have hne : ¬ (x.lo = y.lo ∧ x.hi = y.hi) := fun ⟨h1, h2⟩ => hxy (by cases x; cases y; simp_all)
          by_cases hlo : x.lo = y.lo
          · have hhi : ¬ x.hi = y.hi := fun h => hne ⟨hlo, h⟩
            clear hne hxy hd
            go_wp2
            go_quiet (fail)
            go_wp2
            go_ret
            exact ⟨by have := HD.out; simp_all, _, by first | rfl | exact drn _ _ _⟩
          · clear hne hxy hd
            go_wp2
            go_quiet (fail)
            go_wp2
            go_ret
            exact ⟨by have := HD.out; simp_all, _, by first | rfl | exact drn _ _ _⟩
      · obtain rfl : k = n := by omega
        have hd : decide (rs = ss) = true := by
          simp only [decide_eq_true_eq]
          exact list_ext_to HN.out HM.out HEQ.out
        have HD := hide hd
        clear hd
        go_wp2
        go_ret
        exact ⟨by have := HD.out; simp_all, _, by first | rfl | exact drn _ _ _⟩
  · have hd : decide (rs = ss) = false := by
      simp only [decide_eq_false_iff_not]
      intro e
      rw [e] at hn
      omega
    have h1 : ¬ (n : Int) = (m : Int) := by omega
    rw [hd]
    clear hn hm hd
    go_enter Try.func40, Try.ntmps40
    go_wp2
    go_ret
    exact ⟨rfl, 0, rfl⟩

theorem RgAt.below {w w' : World} {a : Option Addr} {rs : List Rg} (h : RgAt w a rs) (hb : Below w.heap.size w w') : RgAt w' a rs := fun i r hi => by
  obtain ⟨k, e, hk, z0, z1⟩ := h i r hi
  exact ⟨k, e, Nat.lt_of_lt_of_le hk hb.size, (hb.cell (p := ⟨k, _, none⟩) hk).trans z0, (hb.cell (p := ⟨k, _, none⟩) hk).trans z1⟩
theorem own_rgat {w : World} {base n c : Nat} {a : Option Addr} {rs : List Rg} (hn : rs.length = n) (h : w.ownsRow base 62 2 (.slice a n c) n (rgsCells rs)) : RgAt w a rs := by
  rcases own_split h with ⟨_, h0, _⟩ | ⟨k, cap, cur, e, _, hk, hc, hm, hcl, ht⟩
  · have : rs = [] := List.eq_nil_of_length_eq_zero (by omega)
    subst this
    intro i r hi
    simp at hi
  · cases e
    refine fun i r hi => ⟨k, rfl, hk.lt, ?_, ?_⟩
    all_goals
      have hil : i < rs.length := (List.getElem?_eq_some_iff.1 hi).1
      have hlt : ∀ j, j < 2 → cur[i * 2 + j]? = (rgCells r)[j]? := fun j hj => by
        have e : (cur.take (n * 2))[i * 2 + j]? = (rgsCells rs)[i * 2 + j]? := by rw [ht]
        rw [List.getElem?_take, if_pos (by omega)] at e
        rw [e]
        unfold rgsCells
        rw [flat_cell rgCells 2 rgCells_length rs i j hj, hi]
        rfl
    · rw [hk.cell, List.getElem?_toArray]; exact hlt 0 (by omega)
    · rw [hk.cell, List.getElem?_toArray]; exact hlt 1 (by omega)

set_option maxHeartbeats 1000000 in
theorem holds_any (b : Nat) (g : Option Nat) (room : Nat) (rs ss : List Rg) (ua : Option Addr) (m uc : Nat) (w : World) (hS : IsSet w b g room rs) (hm : ss.length = m) (hl : m ≤ 1000) (hu : RgAt w ua ss) :
    Calls Try.prog 49 #[.pointer (some ⟨b, 0, none⟩), .slice ua m uc] w fun e w' => e = .returned (.bool (decide (rs.reverse = ss))) ∧ Below w.heap.size w w' := by
  obtain ⟨hlen, hr1, hroom⟩ := hS.len
  have HR := hide (ranges_any b g room rs w hS)
  have HS := hide hS
  have HU := hide hu
  have HM := hide hm
  by_cases he : rs.reverse = ss
  · have hd : decide (rs.reverse = ss) = true := decide_eq_true he
    have hlm : ((rs.length : Int) == (m : Int)) = true := by rw [← hm, ← he, List.length_reverse]; simp
    have HD := hide hd
    rw [hd]
    clear hd he hS hu hm
    go_enter Try.func49, Try.ntmps49
    go_wp2_with (first
      | (go_at_call 39; refine HR.out.mono ?_; rintro e1 w1 ⟨v, rfl, hrow, hnil, hb⟩; obtain ⟨a1, c1, rfl⟩ := own_slice' hrow)
      | (go_at_call 40; refine (equal_any a1 ua c1 uc rs.length m rs.reverse ss _ List.length_reverse HM.out (own_rgat List.length_reverse hrow) (HU.out.below hb) (by omega) (by omega)).mono ?_; rintro e2 w2 ⟨rfl, q, rfl⟩; rw [HD.out])
      | (go_at_call 15; refine (slen_any b g room rs _ ((HS.out.below hb).drewN q)).mono ?_; rintro e3 w3 ⟨rfl, rfl⟩))
    go_ret
    exact ⟨rfl, below_drewN hb _⟩
  · have hd : decide (rs.reverse = ss) = false := decide_eq_false he
    have HD := hide hd
    rw [hd]
    clear hd he hS hu hm
    go_enter Try.func49, Try.ntmps49
    go_wp2_with (first
      | (go_at_call 39; refine HR.out.mono ?_; rintro e1 w1 ⟨v, rfl, hrow, hnil, hb⟩; obtain ⟨a1, c1, rfl⟩ := own_slice' hrow)
      | (go_at_call 40; refine (equal_any a1 ua c1 uc rs.length m rs.reverse ss _ List.length_reverse HM.out (own_rgat List.length_reverse hrow) (HU.out.below hb) (by omega) (by omega)).mono ?_; rintro e2 w2 ⟨rfl, q, rfl⟩; rw [HD.out]))
    go_ret
    exact ⟨rfl, below_drewN hb _⟩

/-- A row of two numbers as a range. -/
def rowLo (x : Int) : Int := x % 100
def rowHi (x y : Int) : Int := min 99 (x % 100 + y % 12)
set_option maxHeartbeats 1000000 in
theorem row_any (x y : Int) (w : World) (hx : -9223372036854775808 ≤ x) (hx2 : x ≤ 9223372036854775807) (hy : -9223372036854775808 ≤ y) (hy2 : y ≤ 9223372036854775807) :
    Calls Try.prog 22 #[.agg #[.int .i64 x, .int .i64 y]] w fun e w' => e = .returned (.tuple #[.int .i64 (rowLo x), .int .i64 (rowHi x y)]) ∧ Below w.heap.size w w' := by
  have b0 := Int.emod_nonneg x (show (100 : Int) ≠ 0 by omega)
  have b1 := Int.emod_lt_of_pos x (show (0 : Int) < 100 by omega)
  have d0 := Int.emod_nonneg y (show (12 : Int) ≠ 0 by omega)
  have d1 := Int.emod_lt_of_pos y (show (0 : Int) < 12 by omega)
  obtain ⟨J, hJ⟩ : ∃ J, rowHi x y = J := ⟨_, rfl⟩
  have hP : (if x % 100 + y % 12 < 99 then x % 100 + y % 12 else 99) = J := by rw [← hJ]; unfold rowHi; split <;> omega
  rw [hJ]
  unfold rowLo
  clear hJ
  have hwr : IntKind.i64.wrap (x % 100 + y % 12) = x % 100 + y % 12 := by rw [IntKind.wrap_i64]; omega
  go_enter Try.func22, Try.ntmps22
  go_wp2_with (first
    | (go_at_call_of 13 (Value.int IntKind.i64 100); refine (bring_any x 100 _ (by omega) (by omega) hx hx2).mono ?_; rintro e1 w1 ⟨rfl, rfl⟩)
    | (go_at_call_of 13 (Value.int IntKind.i64 12); refine (bring_any y 12 _ (by omega) (by omega) hy hy2).mono ?_; rintro e1 w1 ⟨rfl, rfl⟩))
  go_ret2
  exact ⟨rfl, (Below.refl _ _).alloc (Nat.le_refl _) _⟩
end Go.Proofs.Ytkmfhcjdajbbhaa
