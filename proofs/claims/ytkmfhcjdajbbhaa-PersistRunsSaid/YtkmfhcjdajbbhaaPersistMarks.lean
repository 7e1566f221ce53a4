/-
  The statements of layer 10: marks.
-/
import Derived.Test.YtkmfhcjdajbbhaaPersistMade2
namespace Go.Proofs.Ytkmfhcjdajbbhaa
set_option linter.unusedSimpArgs false
set_option linter.unusedVariables false
open Go.RowKit

def marksR (Z : Nat → Int) : Nat → List Rg
  | 0 => []
  | k + 1 => addR (Z k % 200) (Z k % 200) (marksR Z k)
theorem marksR_good (Z : Nat → Int) : ∀ k, GoodR (marksR Z k) ∧ (marksR Z k).length ≤ k
  | 0 => ⟨GoodR.nil, Nat.le_refl _⟩
  | k + 1 => by
    obtain ⟨h1, h2⟩ := marksR_good Z k
    have h3 := addR_le (lo := Z k % 200) (hi := Z k % 200) h1 (Int.le_refl _)
    exact ⟨(addR_good h1 (Int.le_refl _) (by omega) (by omega)).1, by show (addR _ _ _).length ≤ _; omega⟩
theorem marksR_mem (Z : Nat → Int) (n : Int) : ∀ k, memR n (marksR Z k) ↔ ∃ i, i < k ∧ n = Z i % 200
  | 0 => ⟨fun h => absurd h (memR_nil n), fun ⟨i, h, _⟩ => absurd h (by omega)⟩
  | k + 1 => by
    show memR n (addR _ _ _) ↔ _
    rw [memR_addR n (marksR_good Z k).1 (Int.le_refl _), marksR_mem Z n k]
    constructor
    · rintro (⟨i, h1, h2⟩ | h)
      · exact ⟨i, by omega, h2⟩
      · exact ⟨k, by omega, by omega⟩
    · rintro ⟨i, h1, h2⟩
      rcases Nat.lt_or_ge i k with h | h
      · exact .inl ⟨i, h, h2⟩
      · obtain rfl : i = k := by omega
        exact .inr (by omega)
/-- The numbers that came in. -/
def OneAt (w : World) (a : Option Addr) (len : Nat) (Z : Nat → Int) : Prop :=
  len ≤ 9223372036854775807 ∧ ∀ i, i < len → ∃ xb xo, a = some ⟨xb, xo, none⟩ ∧ xb < w.heap.size ∧ w.cell? ⟨xb, xo + i, none⟩ = some (.int .i64 (Z i)) ∧ -9223372036854775808 ≤ Z i ∧ Z i ≤ 9223372036854775807
theorem one_of_rows {w : World} {a : Option Addr} {len : Nat} (h : RowsK w a len [some .i64]) : ∃ Z, OneAt w a len Z := by
  obtain ⟨h1, h2⟩ := h
  have key : ∀ i, ∃ x : Int, i < len → ∃ xb xo, a = some ⟨xb, xo, none⟩ ∧ xb < w.heap.size ∧ w.cell? ⟨xb, xo + i, none⟩ = some (.int .i64 x) ∧ -9223372036854775808 ≤ x ∧ x ≤ 9223372036854775807 := by
    intro i
    by_cases hi : i < len
    · obtain ⟨xb, xo, ha, hb, hc⟩ := h2 (by omega)
      obtain ⟨x, hx, x0, x1⟩ := (hc i hi 0 _ rfl).i64
      exact ⟨x, fun _ => ⟨xb, xo, ha, hb, by simpa using hx, x0, x1⟩⟩
    · exact ⟨0, fun h => absurd h hi⟩
  exact ⟨fun i => Classical.choose (key i), h1, fun i hi => Classical.choose_spec (key i) hi⟩
theorem OneAt.below {w w' : World} {B0 : Nat} {a : Option Addr} {len : Nat} {Z : Nat → Int} (h : OneAt w a len Z) (hb : Below B0 w w') (hB : w.heap.size ≤ B0) : OneAt w' a len Z := ⟨h.1, fun i hi => by
  obtain ⟨xb, xo, e, hl, c, r⟩ := h.2 i hi
  exact ⟨xb, xo, e, Nat.lt_of_lt_of_le hl hb.size, (hb.cell (p := ⟨xb, _, none⟩) (Nat.lt_of_lt_of_le hl hB)).trans c, r⟩⟩
theorem OneAt.cut {w : World} {a : Option Addr} {len L : Nat} {Z : Nat → Int} (h : OneAt w a len Z) (hL : L ≤ len) : OneAt w a L Z := ⟨Nat.le_trans hL h.1, fun i hi => h.2 i (by omega)⟩

set_option maxRecDepth 100000 in
set_option maxHeartbeats 2000000 in
theorem marks_any (a : Option Addr) (len cap : Nat) (Z : Nat → Int) (w : World) (hz : OneAt w a len Z) :
    Calls Try.prog 28 #[.slice a len cap] w (SetPost w (marksR Z (min len 40))) := by
  have HZ := hide hz
  have hlen := hz.1
  clear hz
  obtain ⟨L, hL⟩ : ∃ L, min len 40 = L := ⟨_, rfl⟩
  rw [hL]
  have hLL : L ≤ len ∧ L ≤ 40 ∧ (L = len ∨ L = 40) := by omega
  obtain ⟨hL0, hL1, hL2⟩ := hLL
  clear hL
  go_enter Try.func28, Try.ntmps28
  go_wp2_with fail
  refine (set10_any none 0 0 [] w rfl (by omega) (fun i r hi => by simp at hi) (by simp)).mono ?_
  rintro e0 w0 ⟨b, g, rfl, hs⟩
  rw [show setOf [] = [] from rfl] at hs
  go_wp2_with fail
  go_loopg [4] 40 (fun kx s4 wr => ∃ (k : Nat) (g : Option Nat), s4 = .int .i64 k ∧ k ≤ L ∧ 40 - k ≤ kx ∧ SAt w wr b g 256 (marksR Z k))
  case atStart => exact ⟨0, g, rfl, by omega, by omega, hs⟩
  case round =>
    clear hs
    obtain ⟨k, g, rfl, hk, hkx, hs⟩ := hrel
    by_cases hlt : k < L
    · obtain ⟨xb, xo, ha, hxl, c0, z0, z1⟩ := (HZ.out.below hs.below (Nat.le_refl _)).2 k (by omega)
      subst ha
      have hA0 := fun W => bring_any (Z k) 200 W (by omega) (by omega) z0 z1
      obtain ⟨h1, h2⟩ := marksR_good Z k
      have h3 := addR_le (lo := Z k % 200) (hi := Z k % 200) h1 (Int.le_refl _)
      have HM : Hid (marksR Z (k + 1) = addR (Z k % 200) (Z k % 200) (marksR Z k)) := rfl
      obtain ⟨x, hx⟩ : ∃ x, Z k % 200 = x := ⟨_, rfl⟩
      have hx0 : 0 ≤ x ∧ x < 200 := by omega
      obtain ⟨hx0, hx1⟩ := hx0
      rw [hx] at hA0 HM h3
      have HA0 := hide hA0
      have H3 := hide (show (addR x x (marksR Z k)).length ≤ 256 by omega)
      clear hx hA0 h1 h2 h3 z0 z1
      have hkl : (k : Int) < (len : Int) := by omega
      have hk40 : (k : Int) < 40 := by omega
      go_wp2_with fail
      refine (HA0.out _).mono ?_
      rintro e1 w1 ⟨rfl, rfl⟩
      go_wp2_with fail
      refine (add_ok b _ 256 x x _ _ hs.set hx0 (Int.le_refl _) (by omega) H3.out).mono ?_
      intro e2 w2 hp
      obtain ⟨rfl, g2, h2⟩ := hs.step hp
      clear hs hp
      go_wp2_with fail
      go_roundg (40 - (k + 1))
      case rel => exact ⟨k + 1, g2, by go_num, by omega, by omega, by rw [HM.out]; exact h2⟩
      case measure => omega
    · obtain rfl : k = L := by omega
      have hend : len ≤ k ∨ (k < len ∧ ¬ (k : Int) < 40) := by omega
      have HS := hide hs
      clear hs hL1 hL2 hkx
      rcases hend with hend | ⟨hend, h40⟩
      · clear hlt
        go_wp2_with fail
        go_ret
        exact ⟨b, g, rfl, HS.out⟩
      · clear hlt
        go_wp2_with fail
        go_ret
        exact ⟨b, g, rfl, HS.out⟩
end Go.Proofs.Ytkmfhcjdajbbhaa
