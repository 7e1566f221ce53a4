/-
  An array of three integers that came in.
-/
import Derived.Test.YtkmfhcjdajbbhaaFrames
namespace Go.Proofs.Ytkmfhcjdajbbhaa
open Go.ChangeShapes Go.WideShapes Go.Deep Go.RowKit
section
variable {H : Type} {enc : TypeId × Value → H} {P : Program} {w : World} {base : Nat} {spare : Nat → Bool} {held : Bool}
theorem arr3_of {r : Reach} {b0 : Nat} {t e : TypeId} {v : Value} {d : DataW H} {p : List MemPlace} (ht : P.underlying t = some (.array 3 e)) (he : P.underlying e = some (.int .i64)) (hC : P.cellsOf t = 3) (hCe : P.cellsOf e = 1)
    (hv : Value.okWide P w r b0 t v) (h : DataW.Trod enc P w base spare held t v d p) :
    ∃ a0 a1 a2, v = .agg #[.int .i64 a0, .int .i64 a1, .int .i64 a2] ∧ -9223372036854775808 ≤ a0 ∧ a0 ≤ 9223372036854775807 ∧ -9223372036854775808 ≤ a1 ∧ a1 ≤ 9223372036854775807 ∧ -9223372036854775808 ≤ a2 ∧ a2 ≤ 9223372036854775807 := by
  simp only [Value.okWide, ht] at hv
  obtain ⟨cs, rfl, hsz, _⟩ := hv
  obtain ⟨l⟩ := cs
  match l, hsz.trans hC with
  | [c0, c1, c2], _ =>
    obtain ⟨fuel, hf⟩ := h
    obtain ⟨xs, m, _, _, _, hl, hg⟩ := DataW.trod_array ht hf
    have g0 := hg 0 (by omega)
    have g1 := hg 1 (by omega)
    have g2 := hg 2 (by omega)
    simp [hCe, Value.cells] at g0 g1 g2
    rw [List.getElem?_eq_getElem (by omega)] at g0 g1 g2
    obtain ⟨a0, h0, _, w0⟩ := DataW.trod_int he g0
    obtain ⟨a1, h1, _, w1⟩ := DataW.trod_int he g1
    obtain ⟨a2, h2, _, w2⟩ := DataW.trod_int he g2
    simp at h0 h1 h2
    subst h0 h1 h2
    have b0 := bounds_i64 w0
    have b1 := bounds_i64 w1
    have b2 := bounds_i64 w2
    exact ⟨a0, a1, a2, rfl, b0.1, b0.2, b1.1, b1.2, b2.1, b2.2⟩
end
end Go.Proofs.Ytkmfhcjdajbbhaa
