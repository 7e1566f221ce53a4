/-
  Sets of ranges (package span): at, Has, Next, Len, Max, Min.
-/
import Derived.Test.YtkmfhcjdajbbhaaSpanSet
namespace Go.Proofs.Ytkmfhcjdajbbhaa
set_option linter.unusedSimpArgs false
set_option linter.unusedVariables false
open Go.RowKit

/-- The range that has n. -/
def rngOf (n : Int) (rs : List Rg) : Rg × Bool := match rs[fstHi n rs]? with
  | some r => if r.lo ≤ n then (r, true) else (⟨0, 0⟩, false)
  | none => (⟨0, 0⟩, false)

set_option maxHeartbeats 2000000 in
theorem at_any (b : Nat) (g : Option Nat) (room : Nat) (n : Int) (rs : List Rg) (r : Rg) (t : Bool) (w : World) (hS : IsSet w b g room rs) (hr : rngOf n rs = (r, t)) :
    Calls Try.prog 48 #[.pointer (some ⟨b, 0, none⟩), .int .i64 n] w fun e w' => e = .returned (.tuple #[.agg #[.int .i64 r.lo, .int .i64 r.hi], .bool t]) ∧ Below w.heap.size w w' := by
  obtain ⟨hlen, hr1, hroom⟩ := hS.len
  have hb := hS.lt.1
  have HFI := hide (first_any b g room n rs _ (hS.alloc (.cells #[.int .i64 0, .int .i64 0] 62)))
  obtain ⟨a, c, c0, c1, _, _, _, hat⟩ := hS.cells
  have hle := fstLe_hi n rs
  unfold rngOf at hr
  obtain ⟨i, hi⟩ : ∃ i, fstHi n rs = i := ⟨_, rfl⟩
  obtain ⟨N, hN⟩ : ∃ N, rs.length = N := ⟨_, rfl⟩
  rw [hi] at hr hle
  rw [hN] at c1 hle hlen
  have HI := hide hi
  have HN := hide hN
  have HNO := hide (snone_no b room (w.alloc (.cells #[.int .i64 0, .int .i64 0] 62)) ((World.cell?_alloc_lt _ _ _ hb).trans c0) hr1)
  have hfin : ∀ w1 : World, Below (w.alloc (.cells #[.int .i64 0, .int .i64 0] 62)).heap.size (w.alloc (.cells #[.int .i64 0, .int .i64 0] 62)) w1 → Below w.heap.size w w1 := fun w1 h => ((Below.refl _ _).alloc (Nat.le_refl _) _).trans (h.mono (by simp))
  have HFN := hide hfin
  rcases Nat.lt_or_ge i N with hlt | hge
  · obtain ⟨y, hy⟩ : ∃ y, rs[i]? = some y := ⟨_, List.getElem?_eq_getElem (by omega)⟩
    obtain ⟨k, rfl, hk, z0, z1⟩ := hat i y hy
    have hii : ((i : Int) == (N : Int)) = false := by rw [beq_eq_false_iff_ne]; omega
    have hi0 : (0 : Int) ≤ (i : Int) := by omega
    have hil : (i : Int) < (N : Int) := by omega
    rw [hy] at hr
    simp only at hr
    have HY := hide hy
    clear hat hy hi hN hfin
    by_cases hlo : y.lo ≤ n
    · rw [if_pos hlo] at hr
      cases hr
      have hd : decide (n < r.lo) = false := by simp; omega
      have hd2 : ¬ n < r.lo := by omega
      go_enter Try.func48, Try.ntmps48
      go_wp2_with (first | (go_at_call 41; refine HNO.out.mono ?_; rintro e1 w1 ⟨rfl, rfl⟩) | (go_at_call 43; refine HFI.out.mono ?_; rintro e2 w2 ⟨rfl, hb2⟩; rw [HI.out]; obtain ⟨hc2, hf2⟩ := bcell hb2; have hs2 := hb2.size; simp only [World.size_alloc] at hs2))
      refine bodyPost_ret (v := .tuple #[.agg #[.int .i64 r.lo, .int .i64 r.hi], .bool true]) (by simp [results, Try.results48, go_sem, hc2]) rfl ⟨rfl, ?_⟩
      iterate 2 refine Below.setCell ?_ (by simp) _
      exact HFN.out _ hb2
    · rw [if_neg hlo] at hr
      cases hr
      have hd : decide (n < y.lo) = true := by simp; omega
      have hd2 : n < y.lo := by omega
      go_enter Try.func48, Try.ntmps48
      go_wp2_with (first | (go_at_call 41; refine HNO.out.mono ?_; rintro e1 w1 ⟨rfl, rfl⟩) | (go_at_call 43; refine HFI.out.mono ?_; rintro e2 w2 ⟨rfl, hb2⟩; rw [HI.out]; obtain ⟨hc2, hf2⟩ := bcell hb2; have hs2 := hb2.size; simp only [World.size_alloc] at hs2))
      refine bodyPost_ret (v := .tuple #[.agg #[.int .i64 0, .int .i64 0], .bool false]) (by simp [results, Try.results48, go_sem, hc2]) rfl ⟨rfl, ?_⟩
      iterate 2 refine Below.setCell ?_ (by simp) _
      exact HFN.out _ hb2
  · obtain rfl : i = N := by omega
    rw [List.getElem?_eq_none (by omega)] at hr
    cases hr
    clear hat hi hN hfin
    go_enter Try.func48, Try.ntmps48
    go_wp2_with (first | (go_at_call 41; refine HNO.out.mono ?_; rintro e1 w1 ⟨rfl, rfl⟩) | (go_at_call 43; refine HFI.out.mono ?_; rintro e2 w2 ⟨rfl, hb2⟩; rw [HI.out]; obtain ⟨hc2, hf2⟩ := bcell hb2; have hs2 := hb2.size; simp only [World.size_alloc] at hs2))
    refine bodyPost_ret (v := .tuple #[.agg #[.int .i64 0, .int .i64 0], .bool false]) (by simp [results, Try.results48, go_sem, hc2]) rfl ⟨rfl, ?_⟩
    iterate 2 refine Below.setCell ?_ (by simp) _
    exact HFN.out _ hb2

theorem has_any (b : Nat) (g : Option Nat) (room : Nat) (n : Int) (rs : List Rg) (w : World) (hS : IsSet w b g room rs) :
    Calls Try.prog 20 #[.pointer (some ⟨b, 0, none⟩), .int .i64 n] w fun e w' => e = .returned (.bool (rngOf n rs).2) ∧ Below w.heap.size w w' := by
  obtain ⟨r, t, hr⟩ : ∃ r t, rngOf n rs = (r, t) := ⟨_, _, rfl⟩
  have HA := hide (at_any b g room n rs r t w hS hr)
  rw [hr]
  clear hr hS
  go_enter Try.func20, Try.ntmps20
  go_wp2_with (go_at_call 48; refine HA.out.mono ?_; rintro e1 w1 ⟨rfl, hb1⟩)
  go_ret
  exact ⟨rfl, hb1.alloc hb1.size _⟩

/-- What Next answers. -/
def nextOf (n : Int) (rs : List Rg) : Int := if 0 ≤ n ∧ n ≤ 9007199254740991 then (if (rngOf n rs).2 = true then (if (rngOf n rs).1.hi = 9007199254740991 then -1 else (rngOf n rs).1.hi + 1) else n) else -1
theorem rngOf_hi {n : Int} {rs : List Rg} (h : GoodR rs) (ht : (rngOf n rs).2 = true) : (rngOf n rs).1 ∈ rs ∧ (rngOf n rs).1.lo ≤ n ∧ n ≤ (rngOf n rs).1.hi := by
  unfold rngOf at ht ⊢
  cases hr : rs[fstHi n rs]? with
  | none => rw [hr] at ht; simp at ht
  | some r =>
    rw [hr] at ht
    simp only at ht ⊢
    by_cases hlo : r.lo ≤ n
    · rw [if_pos hlo]
      exact ⟨List.mem_of_getElem? hr, hlo, fstHi_ge h (Nat.le_refl _) hr⟩
    · rw [if_neg hlo] at ht; simp at ht
theorem rngOf_mem {n : Int} {rs : List Rg} (h : GoodR rs) : (rngOf n rs).2 = true ↔ memR n rs := by
  constructor
  · intro ht
    obtain ⟨h1, h2, h3⟩ := rngOf_hi h ht
    exact ⟨_, h1, h2, h3⟩
  · rintro ⟨r, hr, h1, h2⟩
    obtain ⟨j, hj⟩ := List.getElem?_of_mem hr
    have hle : fstHi n rs ≤ j := by
      rcases Nat.lt_or_ge j (fstHi n rs) with hlt | hge
      · have := fstHi_lt hlt hj; omega
      · exact hge
    unfold rngOf
    rcases Nat.lt_or_ge (fstHi n rs) j with hlt | hge
    · have hl : fstHi n rs < rs.length := by have := (List.getElem?_eq_some_iff.1 hj).1; omega
      have hx := List.getElem?_eq_getElem hl
      have h3 := h.gap hlt hx hj
      have h4 := fstHi_ge h (Nat.le_refl _) hx
      omega
    · obtain rfl : fstHi n rs = j := by omega
      rw [hj]
      simp [h1]

set_option maxHeartbeats 2000000 in
theorem snext_any (b : Nat) (g : Option Nat) (room : Nat) (n : Int) (rs : List Rg) (w : World) (hS : IsSet w b g room rs) :
    Calls Try.prog 19 #[.pointer (some ⟨b, 0, none⟩), .int .i64 n] w fun e w' => e = .returned (.int .i64 (nextOf n rs)) ∧ Below w.heap.size w w' := by
  obtain ⟨r, t, hr⟩ : ∃ r t, rngOf n rs = (r, t) := ⟨_, _, rfl⟩
  obtain ⟨hlen, hr1, hroom⟩ := hS.len
  obtain ⟨a, c, c0, _, _, _, _, _⟩ := hS.cells
  have HA := hide (at_any b g room n rs r t w hS hr)
  have HNO := hide (snone_no b room w c0 hr1)
  have hh := rngOf_hi (n := n) hS.good
  rw [hr] at hh
  simp only at hh
  unfold nextOf
  rw [hr]
  simp only
  by_cases hn : 0 ≤ n ∧ n ≤ 9007199254740991
  · rw [if_pos hn]
    obtain ⟨n0, n1⟩ := hn
    cases t with
    | false =>
      clear hr hh hS c0
      go_enter Try.func19, Try.ntmps19
      go_wp2_with (first | (go_at_call 41; refine HNO.out.mono ?_; rintro e1 w1 ⟨rfl, rfl⟩) | (go_at_call 42; refine (sis_yes n _ n0 n1).mono ?_; rintro e2 w2 ⟨rfl, rfl⟩) | (go_at_call 48; refine HA.out.mono ?_; rintro e3 w3 ⟨rfl, hb3⟩))
      go_ret
      exact ⟨rfl, hb3.alloc hb3.size _⟩
    | true =>
      obtain ⟨hm, hlo, hhi⟩ := hh rfl
      have hr0 := hS.good.lo r hm
      have hr1' := hS.good.hi r hm
      clear hr hh hS c0 hm
      rw [if_pos rfl]
      by_cases hmax : r.hi = 9007199254740991
      · rw [if_pos hmax]
        have hq : r.hi + 1 < 0 ∨ 9007199254740991 < r.hi + 1 := by omega
        have HQ := hide hq
        clear hmax hq
        go_enter Try.func19, Try.ntmps19
        go_wp2_with (first | (go_at_call 41; refine HNO.out.mono ?_; rintro e1 w1 ⟨rfl, rfl⟩) | (go_at_call 48; refine HA.out.mono ?_; rintro e3 w3 ⟨rfl, hb3⟩) | (go_at_call_of 42 (Value.int IntKind.i64 n); refine (sis_yes n _ n0 n1).mono ?_; rintro e2 w2 ⟨rfl, rfl⟩) | (go_at_call 42; refine (sis_no (r.hi + 1) _ HQ.out).mono ?_; rintro e2 w2 ⟨rfl, rfl⟩))
        go_ret
        exact ⟨rfl, hb3.alloc hb3.size _⟩
      · rw [if_neg hmax]
        have q0 : 0 ≤ r.hi + 1 := by omega
        have q1 : r.hi + 1 ≤ 9007199254740991 := by omega
        clear hmax
        go_enter Try.func19, Try.ntmps19
        go_wp2_with (first | (go_at_call 41; refine HNO.out.mono ?_; rintro e1 w1 ⟨rfl, rfl⟩) | (go_at_call 48; refine HA.out.mono ?_; rintro e3 w3 ⟨rfl, hb3⟩) | (go_at_call_of 42 (Value.int IntKind.i64 n); refine (sis_yes n _ n0 n1).mono ?_; rintro e2 w2 ⟨rfl, rfl⟩) | (go_at_call 42; refine (sis_yes (r.hi + 1) _ q0 q1).mono ?_; rintro e2 w2 ⟨rfl, rfl⟩))
        go_ret
        exact ⟨rfl, hb3.alloc hb3.size _⟩
  · rw [if_neg hn]
    have hq : n < 0 ∨ 9007199254740991 < n := by omega
    have HQ := hide hq
    clear hr hh hS c0 hn hq
    go_enter Try.func19, Try.ntmps19
    go_wp2_with (first | (go_at_call 41; refine HNO.out.mono ?_; rintro e1 w1 ⟨rfl, rfl⟩) | (go_at_call 42; refine (sis_no n _ HQ.out).mono ?_; rintro e2 w2 ⟨rfl, rfl⟩))
    go_ret
    exact ⟨rfl, Below.refl _ _⟩

set_option maxHeartbeats 1000000 in
theorem slen_any (b : Nat) (g : Option Nat) (room : Nat) (rs : List Rg) (w : World) (hS : IsSet w b g room rs) :
    Calls Try.prog 15 #[.pointer (some ⟨b, 0, none⟩)] w fun e w' => e = .returned (.int .i64 (rs.length : Nat)) ∧ w = w' := by
  obtain ⟨hlen, hr1, hroom⟩ := hS.len
  obtain ⟨a, c, c0, c1, _, _, _, _⟩ := hS.cells
  have HNO := hide (snone_no b room w c0 hr1)
  go_enter Try.func15, Try.ntmps15
  go_wp2_with (go_at_call 41; refine HNO.out.mono ?_; rintro e1 w1 ⟨rfl, rfl⟩)
  go_ret
  exact ⟨rfl, rfl⟩
/-- The ends. -/
def maxOf (rs : List Rg) : Int := if rs.length = 0 then -1 else (atR rs (rs.length - 1)).hi
def minOf (rs : List Rg) : Int := if rs.length = 0 then -1 else (atR rs 0).lo
set_option maxHeartbeats 1000000 in
theorem smax_any (b : Nat) (g : Option Nat) (room : Nat) (rs : List Rg) (w : World) (hS : IsSet w b g room rs) :
    Calls Try.prog 17 #[.pointer (some ⟨b, 0, none⟩)] w fun e w' => e = .returned (.int .i64 (maxOf rs)) ∧ Below w.heap.size w w' := by
  obtain ⟨hlen, hr1, hroom⟩ := hS.len
  obtain ⟨a, c, c0, c1, _, _, _, hat⟩ := hS.cells
  have HNO := hide (snone_no b room w c0 hr1)
  unfold maxOf
  obtain ⟨N, hN⟩ : ∃ N, rs.length = N := ⟨_, rfl⟩
  rw [hN] at c1 hlen ⊢
  rcases Nat.eq_zero_or_pos N with h0 | hp
  · subst h0
    clear hat hN
    go_enter Try.func17, Try.ntmps17
    go_wp2_with (go_at_call 41; refine HNO.out.mono ?_; rintro e1 w1 ⟨rfl, rfl⟩)
    go_ret
    exact ⟨rfl, Below.refl _ _⟩
  · rw [if_neg (by omega)]
    obtain ⟨y, hy⟩ : ∃ y, rs[N - 1]? = some y := ⟨_, List.getElem?_eq_getElem (by omega)⟩
    obtain ⟨k, rfl, hk, z0, z1⟩ := hat _ y hy
    rw [atR_some hy]
    obtain ⟨m, hm⟩ : ∃ m, N = m + 1 := ⟨N - 1, by omega⟩
    subst hm
    simp only [Nat.add_sub_cancel] at z0 z1
    have e0 : (((m + 1 : Nat) : Int) == 0) = false := by rw [beq_eq_false_iff_ne]; omega
    have e1 : ((m : Int) + 1 == 0) = false := by rw [beq_eq_false_iff_ne]; omega
    have hm0 : (0 : Int) ≤ (m : Int) := by omega
    have hm1 : (m : Int) < (m : Int) + 1 := by omega
    have HY := hide hy
    clear hat hN hy
    go_enter Try.func17, Try.ntmps17
    go_wp2_with (go_at_call 41; refine HNO.out.mono ?_; rintro e1 w1 ⟨rfl, rfl⟩)
    go_quiet (fail)
    go_wp2
    go_ret
    exact ⟨rfl, below_drewN (Below.refl _ _) _⟩
set_option maxHeartbeats 1000000 in
theorem smin_any (b : Nat) (g : Option Nat) (room : Nat) (rs : List Rg) (w : World) (hS : IsSet w b g room rs) :
    Calls Try.prog 18 #[.pointer (some ⟨b, 0, none⟩)] w fun e w' => e = .returned (.int .i64 (minOf rs)) ∧ Below w.heap.size w w' := by
  obtain ⟨hlen, hr1, hroom⟩ := hS.len
  obtain ⟨a, c, c0, c1, _, _, _, hat⟩ := hS.cells
  have HNO := hide (snone_no b room w c0 hr1)
  unfold minOf
  obtain ⟨N, hN⟩ : ∃ N, rs.length = N := ⟨_, rfl⟩
  rw [hN] at c1 hlen ⊢
  rcases Nat.eq_zero_or_pos N with h0 | hp
  · subst h0
    clear hat hN
    go_enter Try.func18, Try.ntmps18
    go_wp2_with (go_at_call 41; refine HNO.out.mono ?_; rintro e1 w1 ⟨rfl, rfl⟩)
    go_ret
    exact ⟨rfl, Below.refl _ _⟩
  · rw [if_neg (by omega)]
    obtain ⟨y, hy⟩ : ∃ y, rs[0]? = some y := ⟨_, List.getElem?_eq_getElem (by omega)⟩
    obtain ⟨k, rfl, hk, z0, z1⟩ := hat _ y hy
    rw [atR_some hy]
    simp only [Nat.zero_mul] at z0 z1
    have e0 : ((N : Int) == 0) = false := by rw [beq_eq_false_iff_ne]; omega
    have hm1 : (0 : Int) < (N : Int) := by omega
    have HY := hide hy
    clear hat hN hy
    go_enter Try.func18, Try.ntmps18
    go_wp2_with (go_at_call 41; refine HNO.out.mono ?_; rintro e1 w1 ⟨rfl, rfl⟩)
    go_ret
    exact ⟨rfl, Below.refl _ _⟩
end Go.Proofs.Ytkmfhcjdajbbhaa
