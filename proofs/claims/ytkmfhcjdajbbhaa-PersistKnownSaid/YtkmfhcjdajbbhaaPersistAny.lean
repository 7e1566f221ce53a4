/-
  Layer 10 (package persist): Period, as it is called; layers 7 and 8 (packages rtt, pto), at measures that may be; Is.
-/
import Derived.Test.YtkmfhcjdajbbhaaPersistPeriod
namespace Go.Proofs.Ytkmfhcjdajbbhaa
set_option linter.unusedSimpArgs false
set_option linter.unusedVariables false
open Go.RowKit

theorem period_any (a : Option Addr) (n cap : Nat) (ps : List PK) (q : Option Addr) (rs : List Rg) (first : Int) (w : World) (hn : ps.length = n) (hcap : n ≤ cap) (hP : PksAt w a ps) (ha : ∀ k o, a = some ⟨k, o, none⟩ → k < w.heap.size) (hA : AckAt w (.pointer q) rs) :
    Calls Try.prog 29 #[.slice a n cap, .pointer q, .int .i64 first] w fun e W' => e = .returned (perV (periodOf rs first ps)) ∧ Below w.heap.size w W' := by
  subst hn
  exact callsIn_wide.1 (period_in Fence.wide 5 trivial trivial trivial trivial trivial trivial trivial trivial rfl (by omega)
    (hide fun m p first Bf w h => callsIn_wide.2 (counts_any p first Bf w h (cell_lt h)))
    (hide fun m a b v rs Bk w h h2 h3 h4 => callsIn_wide.2 (free_any a b v rs Bk w h (cell_lt h) h2 (by have := h3.1; omega) h3.2.1 (by have := h4.1; omega) h4.2.1))
    (hide fun m a b B st w h => callsIn_wide.2 (keep_any a b B st w h))
    (hide fun m a n cap q first w => callsIn_wide.2 (pairs_any a n cap q first w))
    (hide fun m a len cap ps w h1 h2 h3 => callsIn_wide.2 (losscheck_any a len cap ps w h1 h2 h3))
    (hide fun m n w => callsIn_wide.2 (satis_any n w))
    a cap ps q rs first w hcap hP ha hA)

/-- A measure. -/
structure RT where
  latest : Int
  min : Int
  smooth : Int
  var : Int
  first : Int
def rtV (r : RT) : Value := .agg #[.int .i64 r.latest, .int .i64 r.min, .int .i64 r.smooth, .int .i64 r.var, .int .i64 r.first]
/-- One that is sampled, and small. -/
structure RT.ok (r : RT) : Prop where
  l : 0 ≤ r.latest ∧ r.latest ≤ 1099511627776
  m : 0 ≤ r.min ∧ r.min ≤ 1099511627776
  s : 0 ≤ r.smooth ∧ r.smooth ≤ 1099511627776
  v : 0 ≤ r.var ∧ r.var ≤ 1099511627776
  f : 0 ≤ r.first ∧ r.first ≤ 1099511627776
  lm : r.min ≤ r.latest
  sm : r.min ≤ r.smooth
set_option maxHeartbeats 1000000 in
theorem rtttime_any (k : Nat) (zs : List Int) (n cap : Nat) (t : TypeId) (w : World) (hB : Blk w k t (zs.map fun z => Value.int .i64 z).toArray) (hn : zs.length = n) (hl : n ≤ 100) (hz : ∀ z ∈ zs, 0 ≤ z ∧ z ≤ 9007199254740991) :
    Calls Try.prog 79 #[.slice (some ⟨k, 0, none⟩) n cap] w fun e w' => e = .returned (.bool true) ∧ w = w' := by
  have HB := hide hB
  have HZ := hide hz
  have HN := hide hn
  clear hB hz hn
  go_enter Try.func79, Try.ntmps79
  go_wp2_with fail
  go_loopg [7] n (fun kx s7 wr => ∃ i : Nat, s7 = .int .i64 i ∧ i ≤ n ∧ n - i ≤ kx ∧ wr = w)
  case atStart => exact ⟨0, rfl, by omega, by omega, rfl⟩
  case round =>
    obtain ⟨i, rfl, hi, hkx, rfl⟩ := hrel
    by_cases hlt : i < n
    · obtain ⟨z, hz⟩ : ∃ z, zs[i]? = some z := ⟨_, List.getElem?_eq_getElem (by rw [HN.out]; exact hlt)⟩
      obtain ⟨z0, z1⟩ := HZ.out z (List.mem_of_getElem? hz)
      have hc := HB.out.cell i
      rw [List.getElem?_toArray, List.getElem?_map, hz] at hc
      have hin : (i : Int) < (n : Int) := by omega
      have hn0 : ¬ z < 0 := by omega
      have hn1 : ¬ 9007199254740991 < z := by omega
      clear hz
      go_wp2_with fail
      go_roundg (n - (i + 1))
      case rel => exact ⟨i + 1, by go_num, by omega, by omega, rfl⟩
      case measure => omega
    · obtain rfl : i = n := by omega
      have hin : ¬ (i : Int) < (i : Int) := by omega
      go_wp2_with fail
      go_ret
      exact ⟨rfl, rfl⟩
set_option maxHeartbeats 1000000 in
theorem rttcheck_ok (r : RT) (w : World) (h : r.ok) : Calls Try.prog 56 #[rtV r] w fun e w' => e = .returned (.int .i64 0) ∧ Below w.heap.size w w' := by
  obtain ⟨⟨l0, l1⟩, ⟨m0, m1⟩, ⟨s0, s1⟩, ⟨v0, v1⟩, ⟨f0, f1⟩, lm, sm⟩ := h
  obtain ⟨la, mi, sm_, va, fi⟩ := r
  unfold rtV
  dsimp only at *
  have hf : (fi == -1) = false := by rw [beq_eq_false_iff_ne]; omega
  have hbw : Below w.heap.size w ((w.alloc (.cells #[.int .i64 la, .int .i64 mi, .int .i64 sm_, .int .i64 va, .int .i64 fi] 53)).alloc (.cells #[.int .i64 fi, .int .i64 la, .int .i64 mi, .int .i64 sm_, .int .i64 va] 3)) := ((Below.refl _ _).alloc (Nat.le_refl _) _).alloc (by simp) _
  have HT := hide (rtttime_any (w.heap.size + 1) [fi, la, mi, sm_, va] 5 5 3 ((w.alloc (.cells #[.int .i64 la, .int .i64 mi, .int .i64 sm_, .int .i64 va, .int .i64 fi] 53)).alloc (.cells #[.int .i64 fi, .int .i64 la, .int .i64 mi, .int .i64 sm_, .int .i64 va] 3)) (by
    have := Blk.new (w.alloc (.cells #[.int .i64 la, .int .i64 mi, .int .i64 sm_, .int .i64 va, .int .i64 fi] 53)) 3 #[.int .i64 fi, .int .i64 la, .int .i64 mi, .int .i64 sm_, .int .i64 va]
    rw [World.size_alloc] at this
    exact this) rfl (by omega) (by
    intro z hz
    simp at hz
    rcases hz with rfl | rfl | rfl | rfl | rfl <;> omega))
  have HBW := hide hbw
  obtain ⟨K, hK⟩ : ∃ K, (if sm_ < la then sm_ else la) = K := ⟨_, rfl⟩
  have hK1 : ¬ K < mi := by rw [← hK]; split <;> omega
  clear hbw
  go_enter Try.func56, Try.ntmps56
  go_wp2_with fail
  refine HT.out.mono ?_
  rintro e1 w1 ⟨rfl, rfl⟩
  go_wp2_with fail
  all_goals
    go_ret
    exact ⟨rfl, HBW.out⟩

theorem ptotime_any (n : Int) (w : World) (h0 : 0 ≤ n) (h1 : n ≤ 9007199254740991) : Calls Try.prog 80 #[.int .i64 n] w fun e w' => e = .returned (.int .i64 n) ∧ w = w' := by
  have hn : ¬ n < 0 := by omega
  have hn2 : ¬ 9007199254740991 < n := by omega
  go_enter Try.func80, Try.ntmps80
  go_wp2
  all_goals
    go_ret
    simp
    try omega
/-- The wait, of a measure, and a delay. -/
def baseOf (r : RT) (delay : Int) : Int := r.smooth + (if 4 * r.var < 1000000 then 1000000 else 4 * r.var) + delay
set_option maxRecDepth 100000 in
set_option maxHeartbeats 1000000 in
theorem ptobase_ok (r : RT) (delay : Int) (w : World) (h : r.ok) (d0 : 0 ≤ delay) (d1 : delay ≤ 1099511627776) : Calls Try.prog 81 #[rtV r, .int .i64 2, .int .i64 delay] w fun e w' => e = .returned (.int .i64 (baseOf r delay)) ∧ Below w.heap.size w w' := by
  have HCK := hide (rttcheck_ok r (w.alloc (.cells #[.int .i64 r.latest, .int .i64 r.min, .int .i64 r.smooth, .int .i64 r.var, .int .i64 r.first] 53)) h)
  have hbw : Below w.heap.size w (w.alloc (.cells #[.int .i64 r.latest, .int .i64 r.min, .int .i64 r.smooth, .int .i64 r.var, .int .i64 r.first] 53)) := (Below.refl _ _).alloc (Nat.le_refl _) _
  have hx := Blk.new w 53 #[.int .i64 r.latest, .int .i64 r.min, .int .i64 r.smooth, .int .i64 r.var, .int .i64 r.first]
  obtain ⟨⟨l0, l1⟩, ⟨m0, m1⟩, ⟨s0, s1⟩, ⟨v0, v1⟩, ⟨f0, f1⟩, lm, sm⟩ := h
  obtain ⟨la, mi, sm_, va, fi⟩ := r
  unfold rtV baseOf at *
  dsimp only at *
  by_cases c : 4 * va < 1000000
  · rw [if_pos c]
    have c2 : ¬ 1000000 ≤ 4 * va := by omega
    have HBW := hide hbw
    have HXX := hide hx
    have HTD := hide (fun W => ptotime_any delay W d0 (by omega))
    have HTB := hide (fun W => ptotime_any (sm_ + 1000000 + delay) W (by omega) (by omega))
    clear hbw hx
    go_enter Try.func81, Try.ntmps81
    go_wp2_with fail
    refine HCK.out.mono ?_
    rintro x1 w1 ⟨rfl, hb1⟩
    have hx := (hb1.block _ HXX.out.lt).trans HXX.out
    have y2 := Blk.cell hx 2
    have y3 := Blk.cell hx 3
    have HB1 := hide (bw_below' HBW.out hb1)
    clear hb1 hx
    go_wp2_with fail
    all_goals
      refine (HTD.out _).mono ?_
      rintro x2 w2 ⟨rfl, rfl⟩
      go_wp2_with fail
      refine (HTB.out _).mono ?_
      rintro x3 w3 ⟨rfl, rfl⟩
      go_wp2_with fail
      go_ret
      exact ⟨rfl, HB1.out⟩
  · rw [if_neg c]
    have c2 : 1000000 ≤ 4 * va := by omega
    have HBW := hide hbw
    have HXX := hide hx
    have HTD := hide (fun W => ptotime_any delay W d0 (by omega))
    have HTB := hide (fun W => ptotime_any (sm_ + 4 * va + delay) W (by omega) (by omega))
    clear hbw hx
    go_enter Try.func81, Try.ntmps81
    go_wp2_with fail
    refine HCK.out.mono ?_
    rintro x1 w1 ⟨rfl, hb1⟩
    have hx := (hb1.block _ HXX.out.lt).trans HXX.out
    have y2 := Blk.cell hx 2
    have y3 := Blk.cell hx 3
    have HB1 := hide (bw_below' HBW.out hb1)
    clear hb1 hx
    go_wp2_with fail
    all_goals
      refine (HTD.out _).mono ?_
      rintro x2 w2 ⟨rfl, rfl⟩
      go_wp2_with fail
      refine (HTB.out _).mono ?_
      rintro x3 w3 ⟨rfl, rfl⟩
      go_wp2_with fail
      go_ret
      exact ⟨rfl, HB1.out⟩
set_option maxRecDepth 100000 in
set_option maxHeartbeats 1000000 in
theorem ptopersist_ok (r : RT) (delay : Int) (w : World) (h : r.ok) (d0 : 0 ≤ delay) (d1 : delay ≤ 1099511627776) : Calls Try.prog 57 #[rtV r, .int .i64 delay] w fun e w' => e = .returned (.int .i64 (3 * baseOf r delay)) ∧ Below w.heap.size w w' := by
  have HPB := hide (ptobase_ok r delay (w.alloc (.cells #[.int .i64 r.latest, .int .i64 r.min, .int .i64 r.smooth, .int .i64 r.var, .int .i64 r.first] 53)) h d0 d1)
  have hbw : Below w.heap.size w (w.alloc (.cells #[.int .i64 r.latest, .int .i64 r.min, .int .i64 r.smooth, .int .i64 r.var, .int .i64 r.first] 53)) := (Below.refl _ _).alloc (Nat.le_refl _) _
  have hb0 : 0 ≤ baseOf r delay ∧ baseOf r delay ≤ 6597069766656 := by
    obtain ⟨⟨l0, l1⟩, ⟨m0, m1⟩, ⟨s0, s1⟩, ⟨v0, v1⟩, ⟨f0, f1⟩, lm, sm⟩ := h
    unfold baseOf
    split <;> omega
  have HT := hide (fun W => ptotime_any (3 * baseOf r delay) W (by omega) (by omega))
  obtain ⟨hb0, hb1⟩ := hb0
  obtain ⟨B, hB⟩ : ∃ B, baseOf r delay = B := ⟨_, rfl⟩
  rw [hB] at HPB HT hb0 hb1 ⊢
  have HBW := hide hbw
  unfold rtV at *
  clear hbw hB h
  go_enter Try.func57, Try.ntmps57
  go_wp2_with fail
  refine HPB.out.mono ?_
  rintro x1 w1 ⟨rfl, hb2⟩
  have HB1 := hide (bw_below' HBW.out hb2)
  clear hb2
  go_wp2_with fail
  refine (HT.out _).mono ?_
  rintro x2 w2 ⟨rfl, rfl⟩
  go_wp2_with fail
  go_ret
  exact ⟨rfl, HB1.out⟩
end Go.Proofs.Ytkmfhcjdajbbhaa
