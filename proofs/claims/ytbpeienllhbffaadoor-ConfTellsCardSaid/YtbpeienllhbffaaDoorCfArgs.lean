/-
  Arguments opened: nine numbers, a setting.
-/
import Derived.Test.YtbpeienllhbffaaDoorFrames
import Derived.Test.YtbpeienllhbffaaDoorCfMade
namespace Go.Proofs.YtbpeienllhbffaaDoor
open Go.ChangeShapes Go.WideShapes Go.Deep Go.RowKit
section
variable {H : Type} {enc : TypeId × Value → H} {P : Program} {w : World} {base : Nat} {spare : Nat → Bool} {held : Bool}
theorem arr9_of {r : Reach} {b0 : Nat} {t e : TypeId} {v : Value} {d : DataW H} {p : List MemPlace} (ht : P.underlying t = some (.array 9 e)) (he : P.underlying e = some (.int .i64)) (hC : P.cellsOf t = 9) (hCe : P.cellsOf e = 1)
    (hv : Value.okWide P w r b0 t v) (h : DataW.Trod enc P w base spare held t v d p) : ∃ l : L9, v = .agg l.arr ∧ l.Fits := by
  simp only [Value.okWide, ht] at hv
  obtain ⟨cs, rfl, hsz, _⟩ := hv
  obtain ⟨l⟩ := cs
  match l, hsz.trans hC with
  | [c0, c1, c2, c3, c4, c5, c6, c7, c8], _ =>
    obtain ⟨fuel, hf⟩ := h
    obtain ⟨xs, m, _, _, _, hl, hg⟩ := DataW.trod_array ht hf
    have g0 := hg 0 (by omega)
    have g1 := hg 1 (by omega)
    have g2 := hg 2 (by omega)
    have g3 := hg 3 (by omega)
    have g4 := hg 4 (by omega)
    have g5 := hg 5 (by omega)
    have g6 := hg 6 (by omega)
    have g7 := hg 7 (by omega)
    have g8 := hg 8 (by omega)
    simp [hCe, Value.cells] at g0 g1 g2 g3 g4 g5 g6 g7 g8
    rw [List.getElem?_eq_getElem (by omega)] at g0 g1 g2 g3 g4 g5 g6 g7 g8
    obtain ⟨a0, h0, _, w0⟩ := DataW.trod_int he g0
    obtain ⟨a1, h1, _, w1⟩ := DataW.trod_int he g1
    obtain ⟨a2, h2, _, w2⟩ := DataW.trod_int he g2
    obtain ⟨a3, h3, _, w3⟩ := DataW.trod_int he g3
    obtain ⟨a4, h4, _, w4⟩ := DataW.trod_int he g4
    obtain ⟨a5, h5, _, w5⟩ := DataW.trod_int he g5
    obtain ⟨a6, h6, _, w6⟩ := DataW.trod_int he g6
    obtain ⟨a7, h7, _, w7⟩ := DataW.trod_int he g7
    obtain ⟨a8, h8, _, w8⟩ := DataW.trod_int he g8
    simp at h0 h1 h2 h3 h4 h5 h6 h7 h8
    subst h0 h1 h2 h3 h4 h5 h6 h7 h8
    exact ⟨⟨a0, a1, a2, a3, a4, a5, a6, a7, a8⟩, rfl, bounds_i64 w0, bounds_i64 w1, bounds_i64 w2, bounds_i64 w3, bounds_i64 w4, bounds_i64 w5, bounds_i64 w6, bounds_i64 w7, bounds_i64 w8⟩
set_option linter.constructorNameAsVariable false in
theorem conf_of {r : Reach} {b0 : Nat} {v : Value} {d : DataW H} {p : List MemPlace} (hv : Value.okWide Tryd.prog w r b0 46 v) (h : DataW.Trod enc Tryd.prog w base spare held 46 v d p) : ∃ c : CF, v = .agg (confC c) ∧ c.small := by
  simp only [Value.okWide, Tryd.underlying46] at hv
  obtain ⟨cs, rfl, hsz, _⟩ := hv
  have hC : Tryd.prog.cellsOf 46 = 10 := by kernel_rfl
  have hCe : Tryd.prog.cellsOf 3 = 1 := by kernel_rfl
  have hCb : Tryd.prog.cellsOf 4 = 1 := by kernel_rfl
  obtain ⟨l⟩ := cs
  match l, hsz.trans hC with
  | [c0, c1, c2, c3, c4, c5, c6, c7, c8, c9], _ =>
    obtain ⟨fuel, hf⟩ := h
    obtain ⟨xs, m, _, _, _, hl, hg⟩ := DataW.trod_struct Tryd.underlying46 hf
    have hl10 : xs.length = 10 := hl
    have g0 := hg 0 _ rfl
    have g1 := hg 1 _ rfl
    have g2 := hg 2 _ rfl
    have g3 := hg 3 _ rfl
    have g4 := hg 4 _ rfl
    have g5 := hg 5 _ rfl
    have g6 := hg 6 _ rfl
    have g7 := hg 7 _ rfl
    have g8 := hg 8 _ rfl
    have g9 := hg 9 _ rfl
    simp [hCe, hCb, Value.cells] at g0 g1 g2 g3 g4 g5 g6 g7 g8 g9
    rw [List.getElem?_eq_getElem (by omega)] at g0 g1 g2 g3 g4 g5 g6 g7 g8 g9
    obtain ⟨a0, h0, _⟩ := DataW.trod_bool Tryd.underlying4 g0
    obtain ⟨a1, h1, _, w1⟩ := DataW.trod_int Tryd.underlying3 g1
    obtain ⟨a2, h2, _, w2⟩ := DataW.trod_int Tryd.underlying3 g2
    obtain ⟨a3, h3, _, w3⟩ := DataW.trod_int Tryd.underlying3 g3
    obtain ⟨a4, h4, _, w4⟩ := DataW.trod_int Tryd.underlying3 g4
    obtain ⟨a5, h5, _, w5⟩ := DataW.trod_int Tryd.underlying3 g5
    obtain ⟨a6, h6, _, w6⟩ := DataW.trod_int Tryd.underlying3 g6
    obtain ⟨a7, h7, _, w7⟩ := DataW.trod_int Tryd.underlying3 g7
    obtain ⟨a8, h8, _, w8⟩ := DataW.trod_int Tryd.underlying3 g8
    obtain ⟨a9, h9, _, w9⟩ := DataW.trod_int Tryd.underlying3 g9
    simp at h0 h1 h2 h3 h4 h5 h6 h7 h8 h9
    subst h0 h1 h2 h3 h4 h5 h6 h7 h8 h9
    refine ⟨⟨a0, a1, a2, a3, a4, a5, a6, a7, a8, a9⟩, rfl, fun i hi => ?_⟩
    have : i = 0 ∨ i = 1 ∨ i = 2 ∨ i = 3 ∨ i = 4 ∨ i = 5 ∨ i = 6 ∨ i = 7 ∨ i = 8 ∨ i = 9 := by omega
    rcases this with rfl | rfl | rfl | rfl | rfl | rfl | rfl | rfl | rfl | rfl
    · cases a0 <;> exact ⟨by show (-9223372036854775808 : Int) ≤ _; simp [valF, CF.vals], by simp [valF, CF.vals]⟩
    · exact bounds_i64 w1
    · exact bounds_i64 w2
    · exact bounds_i64 w3
    · exact bounds_i64 w4
    · exact bounds_i64 w5
    · exact bounds_i64 w6
    · exact bounds_i64 w7
    · exact bounds_i64 w8
    · exact bounds_i64 w9
end
end Go.Proofs.YtbpeienllhbffaaDoor
