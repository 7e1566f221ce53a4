/-
  The document's answer: New and Add of an empty set (sounderref04); sets of layer 10. Printed by wip/genr04.py.
-/
import Derived.Test.YtkmfhcjdajbbhaaRefPair
import Derived.Test.YtkmfhcjdajbbhaaRefTimes
import Derived.Test.YtkmfhcjdajbbhaaPersistWorks
namespace Go.Proofs.Ytkmfhcjdajbbhaa
set_option linter.unusedSimpArgs false
set_option linter.unusedVariables false
open Go.RowKit

theorem r04is_any (n : Int) (w : World) : Calls Try.prog 94 #[.int .i64 n] w fun e w' => e = .returned (.bool (isT n)) ∧ w = w' := by
  unfold isT
  by_cases h1 : 0 ≤ n
  · by_cases h2 : n ≤ 9007199254740991
    · go_enter Try.func94, Try.ntmps94
      go_wp2
      go_ret
      simp [h1, h2]
    · go_enter Try.func94, Try.ntmps94
      go_wp2
      go_ret
      simp [h1, h2]
  · go_enter Try.func94, Try.ntmps94
    go_wp2
    go_ret
    have h1 : ¬ 0 ≤ n := by omega
    simp [h1]

theorem rg_info04 : (Try.prog.info? 62).map (fun i => (i.zero, i.size, i.bytes)) = some (some (.agg #[.int .i64 0, .int .i64 0]), 2, 16) := by kernel_rfl
set_option maxHeartbeats 1000000 in
theorem added0_any (lo hi : Int) (w : World) : Calls Try.prog 95 #[.slice none 0 0, .agg #[.int .i64 lo, .int .i64 hi]] w fun e w' => ∃ a c, e = .returned (.slice a 1 c) ∧ RgAt w' a [⟨lo, hi⟩] ∧ (∀ k, a = some ⟨k, 0, none⟩ → w.heap.size ≤ k) ∧ Below w.heap.size w w' := by
  obtain ⟨i0, hi0, hz0, hz1, hz2⟩ := info_parts rg_info04
  have hbw : Below w.heap.size w (w.alloc (.cells #[.int .i64 lo, .int .i64 hi] 62)) := (Below.refl _ _).alloc (Nat.le_refl _) _
  have hx := Blk.new w 62 #[.int .i64 lo, .int .i64 hi]
  have HBW := hide hbw
  have HX := hide hx
  clear hbw hx
  go_enter Try.func95, Try.ntmps95
  go_wp2_with fail
  go_loopg [5, 6, 7] 0 (fun kx s5 s6 s7 wr => s5 = .slice none 0 0 ∧ s6 = .bool false ∧ s7 = .int .i64 0 ∧ wr = w.alloc (.cells #[.int .i64 lo, .int .i64 hi] 62))
  case atStart => exact ⟨rfl, rfl, rfl, rfl⟩
  case round =>
    obtain ⟨rfl, rfl, rfl, hw⟩ := hrel
    rw [← hw] at HBW HX
    have x0 := HX.out.cell 0
    have x1 := HX.out.cell 1
    have HW := hide hw
    have hsz : w.heap.size ≤ wr.heap.size := HBW.out.size
    clear hw
    go_wp2_with (at_builtin; refine wpList_append_any _ rfl (.tmp 73) (.tmp 75) _ rfl w.heap.size 62 i0 _ 2 16 Try.underlying63 hi0 hz0 hz1 hz2 rfl (by decide) (.slice none 0 0) 0 [] rfl (by exact ⟨by simp, .inl ⟨rfl, rfl⟩⟩) (wr.heap.size + 1) (some ⟨wr.heap.size, 0, none⟩) 1 1 [.int .i64 lo, .int .i64 hi] rfl (by exact reads_lit (blk_new_at (by simp)) (by simp) rfl) (by simp [Value.oneCell']) (by unfold maxLen; omega) (by omega) (by simp; omega) ?_; intro v5 w5 hown5 hg5 hat5)
    have ho : w5.ownsRow w.heap.size 62 2 v5 1 (rgsCells [⟨lo, hi⟩]) := hown5
    obtain ⟨a, c, rfl⟩ := own_slice' ho
    have hb5 : Below w.heap.size w w5 := Below.grown (HBW.out.alloc hsz _) hg5 (by simp; omega) (fun x hx => by cases hx)
    have HO := hide ho
    have HB := hide hb5
    clear ho hb5 hown5 hg5 hat5 x0 x1
    go_wp2_with fail
    go_ret
    exact ⟨a, c, rfl, own_rgat rfl HO.out, fun k e => by subst e; exact (HO.out.lt k rfl).1, HB.out⟩

set_option maxHeartbeats 1000000 in
theorem r04new_ok (w : World) : Calls Try.prog 82 #[.int .i64 256] w fun e w' => e = .returned (.tuple #[.pointer (some ⟨w.heap.size, 0, none⟩), .int .i64 0]) ∧ w' = w.alloc (.cells #[.int .i64 256, .slice none 0 0] 122) := by
  go_enter Try.func82, Try.ntmps82
  go_wp2
  go_ret2
  exact ⟨rfl, rfl⟩
/-- What one range makes of no range. -/
def oneR (r : Rg) : List Rg := if isT r.lo && isT r.hi && decide (r.lo ≤ r.hi) then [r] else []
set_option maxHeartbeats 2000000 in
theorem r04add0 (b : Nat) (lo hi : Int) (w : World) (hB : Blk w b 122 #[.int .i64 256, .slice none 0 0]) :
    Calls Try.prog 83 #[.pointer (some ⟨b, 0, none⟩), .int .i64 lo, .int .i64 hi] w fun e w' => (∃ z, e = .returned (.int .i64 z)) ∧ RefL w' b (oneR ⟨lo, hi⟩) ∧ Only [b] w w' := by
  have H1 := hide (fun W => r04is_any lo W)
  have H2 := hide (fun W => r04is_any hi W)
  have HB := hide hB
  have HN : Hid (∀ W, Below w.heap.size w W → RefL W b []) := by
    show ∀ W, _
    intro W hW
    have h := (hW.block b HB.out.lt).trans HB.out
    exact ⟨none, 0, Blk.cell (g := b) h 1, fun i r hi => by simp at hi⟩
  unfold oneR
  dsimp only
  clear hB
  cases h1 : isT lo with
  | false =>
    rw [h1] at H1
    clear h1
    go_enter Try.func83, Try.ntmps83
    go_wp2_with fail
    refine (H1.out _).mono ?_
    rintro e1 w1 ⟨rfl, rfl⟩
    go_wp2_with fail
    go_ret
    exact ⟨⟨_, rfl⟩, by simpa using HN.out _ (Below.refl _ _), Only.refl _ _⟩
  | true =>
    rw [h1] at H1
    clear h1
    cases h2 : isT hi with
    | false =>
      rw [h2] at H2
      clear h2
      go_enter Try.func83, Try.ntmps83
      go_wp2_with fail
      refine (H1.out _).mono ?_
      rintro e1 w1 ⟨rfl, rfl⟩
      go_wp2_with fail
      refine (H2.out _).mono ?_
      rintro e1 w1 ⟨rfl, rfl⟩
      go_wp2_with fail
      go_ret
      exact ⟨⟨_, rfl⟩, by simpa using HN.out _ (Below.refl _ _), Only.refl _ _⟩
    | true =>
      rw [h2] at H2
      clear h2
      by_cases h3 : lo ≤ hi
      · rw [decide_eq_true h3]
        have hn3 : ¬ hi < lo := by omega
        have y0 := HB.out.cell 0
        have y1 := HB.out.cell 1
        have f1 := HB.out.frozen 1
        go_enter Try.func83, Try.ntmps83
        go_wp2_with fail
        refine (H1.out _).mono ?_
        rintro e1 w1 ⟨rfl, rfl⟩
        go_wp2_with fail
        refine (H2.out _).mono ?_
        rintro e1 w1 ⟨rfl, rfl⟩
        go_wp2_with fail
        refine (added0_any lo hi _).mono ?_
        rintro e3 w3 ⟨a, c, rfl, hr, hlk, hb3⟩
        have hB3 : Blk w3 b 122 #[.int .i64 256, .slice none 0 0] := (hb3.block b HB.out.lt).trans HB.out
        have hne : Hid (∀ k, a = some ⟨k, 0, none⟩ → k ≠ b) := by
          show ∀ k, _
          intro k e h
          have := hlk k e
          have := HB.out.lt
          omega
        have HR := hide hr
        have HB3 := hide hB3
        have HO := hide (only_of_below (S := [b]) hb3)
        clear y0 y1 f1 hr hb3 hB3 hlk
        have y0 := HB3.out.cell 0
        have y1 := HB3.out.cell 1
        have f1 := HB3.out.frozen 1
        go_wp2_with fail
        go_ret
        refine ⟨⟨_, rfl⟩, ⟨a, c, (HB3.out.set 1 _).cell 1, fun i r hi => ?_⟩, HO.out.setCell (.inl (by simp)) _⟩
        obtain ⟨k, rfl, hk, z0, z1⟩ := HR.out i r hi
        have hkb := hne.out k rfl
        refine ⟨k, rfl, by rw [World.size_setCell]; exact hk, ?_, ?_⟩
        · rw [World.cell?_setCell_other _ _ _ _ (fun e => by injection e with e1; exact hkb (by first | exact e1 | exact e1.symm))]; exact z0
        · rw [World.cell?_setCell_other _ _ _ _ (fun e => by injection e with e1; exact hkb (by first | exact e1 | exact e1.symm))]; exact z1
      · rw [decide_eq_false h3]
        have hn3 : hi < lo := by omega
        go_enter Try.func83, Try.ntmps83
        go_wp2_with fail
        refine (H1.out _).mono ?_
        rintro e1 w1 ⟨rfl, rfl⟩
        go_wp2_with fail
        refine (H2.out _).mono ?_
        rintro e1 w1 ⟨rfl, rfl⟩
        go_wp2_with fail
        go_ret
        exact ⟨⟨_, rfl⟩, by simpa using HN.out _ (Below.refl _ _), Only.refl _ _⟩
end Go.Proofs.Ytkmfhcjdajbbhaa
