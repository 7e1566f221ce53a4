/-
  Rows of two numbers that came in: the cells of one.
-/
import Derived.Test.YtkmfhcjdajbbhaaSpanMany
namespace Go.Proofs.Ytkmfhcjdajbbhaa
open Go.RowKit
theorem PairsAt.at {w wr : World} {a : Option Addr} {len : Nat} {X Y : Nat → Int} (h : PairsAt w a len X Y) (hb : Below w.heap.size w wr) {k : Nat} (hk : k < len) :
    ∃ xb xo, a = some ⟨xb, xo, none⟩ ∧ wr.cell? ⟨xb, xo + k * 2, none⟩ = some (.int .i64 (X k)) ∧ wr.cell? ⟨xb, xo + (k * 2 + 1), none⟩ = some (.int .i64 (Y k)) ∧
      -9223372036854775808 ≤ X k ∧ X k ≤ 9223372036854775807 ∧ -9223372036854775808 ≤ Y k ∧ Y k ≤ 9223372036854775807 := by
  obtain ⟨xb, xo, e, hl, h1, h2, hx⟩ := h.2 k hk
  exact ⟨xb, xo, e, (hb.cell (p := ⟨xb, _, none⟩) hl).trans h1, (hb.cell (p := ⟨xb, _, none⟩) hl).trans h2, hx⟩
end Go.Proofs.Ytkmfhcjdajbbhaa
