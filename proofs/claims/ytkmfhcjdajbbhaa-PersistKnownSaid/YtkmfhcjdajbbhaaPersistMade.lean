/-
  The statements of layer 10: made, marks.
-/
import Derived.Test.YtkmfhcjdajbbhaaPersistWorks2
import Derived.Test.YtkmfhcjdajbbhaaBring
import Derived.Test.YtkmfhcjdajbbhaaFlat
import Derived.BigQuiet
import Derived.Deep.QuietTactic
namespace Go.Proofs.Ytkmfhcjdajbbhaa
set_option linter.unusedSimpArgs false
set_option linter.unusedVariables false
open Go.RowKit

/-- Lost packets of rising numbers and times, of rows. -/
def madeF (N D B : Nat → Int) : Nat → Int × Int × List PK
  | 0 => (0, 0, [])
  | k + 1 => (((madeF N D B k).1 + 1 + N k % 3), ((madeF N D B k).2.1 + D k % 17179869184), (madeF N D B k).2.2 ++ [⟨(madeF N D B k).1 + 1 + N k % 3, (madeF N D B k).2.1 + D k % 17179869184, 100, !(B k % 4 == 0), true, false⟩])
def madeL (N D B : Nat → Int) (k : Nat) : List PK := (madeF N D B k).2.2
theorem madeF_bound (N D B : Nat → Int) : ∀ k : Nat, (k : Int) ≤ (madeF N D B k).1 ∧ (madeF N D B k).1 ≤ 3 * k ∧ 0 ≤ (madeF N D B k).2.1 ∧ (madeF N D B k).2.1 ≤ 17179869184 * k ∧ (madeF N D B k).2.2.length = k
  | 0 => ⟨by simp [madeF], by simp [madeF], by simp [madeF], by simp [madeF], rfl⟩
  | k + 1 => by
    obtain ⟨h1, h2, h3, h4, h5⟩ := madeF_bound N D B k
    simp only [madeF, List.length_append, List.length_cons, List.length_nil]
    omega
theorem madeL_len (N D B : Nat → Int) (k : Nat) : (madeL N D B k).length = k := (madeF_bound N D B k).2.2.2.2
theorem madeL_mem (N D B : Nat → Int) : ∀ (k : Nat) (p : PK), p ∈ madeL N D B k → 0 < p.n ∧ p.n ≤ (madeF N D B k).1 ∧ 0 ≤ p.t ∧ p.t ≤ (madeF N D B k).2.1 ∧ p.s = 100
  | 0, p, h => by simp [madeL, madeF] at h
  | k + 1, p, h => by
    obtain ⟨h1, h2, h3, h4, h5⟩ := madeF_bound N D B k
    have e : madeL N D B (k + 1) = madeL N D B k ++ [⟨(madeF N D B k).1 + 1 + N k % 3, (madeF N D B k).2.1 + D k % 17179869184, 100, !(B k % 4 == 0), true, false⟩] := rfl
    rw [e] at h
    simp only [madeF]
    rcases List.mem_append.1 h with h | h
    · have := madeL_mem N D B k p h
      omega
    · simp at h
      subst h
      refine ⟨?_, ?_, ?_, ?_, ?_⟩ <;> simp only <;> omega
theorem okPks_snoc : ∀ {ps : List PK} {last : Int} {p : PK}, okPks last ps = true → (∀ q ∈ ps, q.n < p.n) → last < p.n → p.n ≤ 9007199254740991 → 0 ≤ p.t → p.t ≤ 9007199254740991 → 1 ≤ p.s → p.s ≤ 65535 → okPks last (ps ++ [p]) = true
  | [], last, p, _, _, h1, h2, h3, h4, h5, h6 => by
    simp only [List.nil_append, okPks, Bool.and_true]
    exact okPk_iff.2 ⟨h1, h2, h3, h4, h5, h6⟩
  | q :: ps, last, p, h, hl, h1, h2, h3, h4, h5, h6 => by
    simp only [List.cons_append, okPks, Bool.and_eq_true] at h ⊢
    exact ⟨h.1, okPks_snoc h.2 (fun x hx => hl x (by simp [hx])) (hl q (by simp)) h2 h3 h4 h5 h6⟩
theorem madeL_ok (N D B : Nat → Int) : ∀ k, k ≤ 40 → okPks (-1) (madeL N D B k) = true
  | 0, _ => rfl
  | k + 1, hk => by
    obtain ⟨h1, h2, h3, h4, h5⟩ := madeF_bound N D B k
    have e : madeL N D B (k + 1) = madeL N D B k ++ [⟨(madeF N D B k).1 + 1 + N k % 3, (madeF N D B k).2.1 + D k % 17179869184, 100, !(B k % 4 == 0), true, false⟩] := rfl
    rw [e]
    refine okPks_snoc (madeL_ok N D B k (by omega)) (fun q hq => ?_) ?_ ?_ ?_ ?_ ?_ ?_
    · have := madeL_mem N D B k q hq
      simp only
      omega
    all_goals simp only
    all_goals omega
theorem madeL_small (N D B : Nat → Int) {k : Nat} (hk : k ≤ 40) : ∀ p ∈ madeL N D B k, p.small := fun p hp => by
  have h := madeL_mem N D B k p hp
  have := madeF_bound N D B k
  unfold PK.small
  omega
/-- The rows that came in. -/
def TriAt (w : World) (a : Option Addr) (len : Nat) (N D B : Nat → Int) : Prop :=
  len ≤ 9223372036854775807 ∧ ∀ i, i < len → ∃ xb xo, a = some ⟨xb, xo, none⟩ ∧ xb < w.heap.size ∧ w.cell? ⟨xb, xo + i * 3, none⟩ = some (.int .i64 (N i)) ∧ w.cell? ⟨xb, xo + i * 3 + 1, none⟩ = some (.int .i64 (D i)) ∧ w.cell? ⟨xb, xo + i * 3 + 2, none⟩ = some (.int .i64 (B i)) ∧
    (-9223372036854775808 ≤ N i ∧ N i ≤ 9223372036854775807) ∧ (-9223372036854775808 ≤ D i ∧ D i ≤ 9223372036854775807) ∧ (-9223372036854775808 ≤ B i ∧ B i ≤ 9223372036854775807)
theorem tri_of_rows {w : World} {a : Option Addr} {len : Nat} (h : RowsK w a len [some .i64, some .i64, some .i64]) : ∃ N D B, TriAt w a len N D B := by
  obtain ⟨h1, h2⟩ := h
  have key : ∀ i, ∃ x y z : Int, i < len → ∃ xb xo, a = some ⟨xb, xo, none⟩ ∧ xb < w.heap.size ∧ w.cell? ⟨xb, xo + i * 3, none⟩ = some (.int .i64 x) ∧ w.cell? ⟨xb, xo + i * 3 + 1, none⟩ = some (.int .i64 y) ∧ w.cell? ⟨xb, xo + i * 3 + 2, none⟩ = some (.int .i64 z) ∧
      (-9223372036854775808 ≤ x ∧ x ≤ 9223372036854775807) ∧ (-9223372036854775808 ≤ y ∧ y ≤ 9223372036854775807) ∧ (-9223372036854775808 ≤ z ∧ z ≤ 9223372036854775807) := by
    intro i
    by_cases hi : i < len
    · obtain ⟨xb, xo, ha, hb, hc⟩ := h2 (by omega)
      obtain ⟨x, hx, x0, x1⟩ := (hc i hi 0 _ rfl).i64
      obtain ⟨y, hy, y0, y1⟩ := (hc i hi 1 _ rfl).i64
      obtain ⟨z, hz, z0, z1⟩ := (hc i hi 2 _ rfl).i64
      exact ⟨x, y, z, fun _ => ⟨xb, xo, ha, hb, hx, hy, hz, ⟨x0, x1⟩, ⟨y0, y1⟩, ⟨z0, z1⟩⟩⟩
    · exact ⟨0, 0, 0, fun h => absurd h hi⟩
  exact ⟨fun i => Classical.choose (key i), fun i => Classical.choose (Classical.choose_spec (key i)), fun i => Classical.choose (Classical.choose_spec (Classical.choose_spec (key i))), h1, fun i hi => Classical.choose_spec (Classical.choose_spec (Classical.choose_spec (key i))) hi⟩
theorem TriAt.below {w w' : World} {B0 : Nat} {a : Option Addr} {len : Nat} {N D B : Nat → Int} (h : TriAt w a len N D B) (hb : Below B0 w w') (hB : w.heap.size ≤ B0) : TriAt w' a len N D B := ⟨h.1, fun i hi => by
  obtain ⟨xb, xo, e, hl, c0, c1, c2, r⟩ := h.2 i hi
  exact ⟨xb, xo, e, Nat.lt_of_lt_of_le hl hb.size, (hb.cell (p := ⟨xb, _, none⟩) (Nat.lt_of_lt_of_le hl hB)).trans c0, (hb.cell (p := ⟨xb, _, none⟩) (Nat.lt_of_lt_of_le hl hB)).trans c1, (hb.cell (p := ⟨xb, _, none⟩) (Nat.lt_of_lt_of_le hl hB)).trans c2, r⟩⟩
end Go.Proofs.Ytkmfhcjdajbbhaa
