/-
  The statements of layer 17: a step of a run, whatever it is; a run's beginning; the rows of steps.
-/
import Derived.Test.YtgicljeedegncaaGreatSpStepC
import Derived.Test.YtgicljeedegncaaGreatMgBase
namespace Go.Proofs.YtgicljeedegncaaGreat
set_option linter.unusedSimpArgs false
set_option linter.unusedVariables false
open Go.RowKit

section
variable [Kept]
/-- A run, whatever it holds: G was discarded, N calls at most, its space's room, its greatest number g at least. -/
structure RunS (w W : World) (r : Nat) (G : List Int) (N room : Nat) (f : Ft) (s : SpSt) (vs va vl : Value) (sent acked lost : List Int) (now : Int) : Prop where
  at_ : RunAt w W f s r vs va vl sent acked lost now
  ok : RunOk s sent acked lost G now N
  room : s.room = room
def StepPost (w : World) (r : Nat) (G : List Int) (N room : Nat) (g : Int) (e : Ending) (W' : World) : Prop :=
  e = .returned (.bool true) ∧ ∃ f s vs va vl sent acked lost now, RunS w W' r G N room f s vs va vl sent acked lost now ∧ g ≤ s.great
variable {w W W' : World} {r N room : Nat} {G sent acked lost : List Int} {f : Ft} {s : SpSt} {vs va vl : Value} {now : Int}
theorem RunS.later (h : RunS w W r G N room f s vs va vl sent acked lost now) (hb : Below W.heap.size W W') : RunS w W' r G N room f s vs va vl sent acked lost now := ⟨h.at_.later hb, h.ok, h.room⟩
theorem RunS.drew (h : RunS w W r G N room f s vs va vl sent acked lost now) : RunS w W.drew r G N room f s vs va vl sent acked lost now := h.later (Below.refl _ _).drew
theorem RunS.below (h : RunS w W r G N room f s vs va vl sent acked lost now) : Below w.heap.size w W := h.at_.sp.below
theorem RunS.sp (h : RunS w W r G N room f s vs va vl sent acked lost now) : IsSp W f s := h.at_.sp.sp
/-- A step. -/
theorem step17_any (kd af x0 x1 x2 : Int) (h : RunS w W r G N room f s vs va vl sent acked lost now) (hN : N ≤ 100)
    (a0 : -9223372036854775808 ≤ kd) (a1 : kd ≤ 9223372036854775807) (b0 : -9223372036854775808 ≤ af) (b1 : af ≤ 9223372036854775807) (c0 : -9223372036854775808 ≤ x0) (c1 : x0 ≤ 9223372036854775807) (d0 : -9223372036854775808 ≤ x1) (d1 : x1 ≤ 9223372036854775807) (e0 : -9223372036854775808 ≤ x2) (e1 : x2 ≤ 9223372036854775807) :
    Calls Tryz.prog 12 #[.pointer (some ⟨r, 0, none⟩), .agg #[.int .i64 kd, .int .i64 af, .int .i64 x0, .int .i64 x1, .int .i64 x2]] W (StepPost w r G (N + 1) room s.great) := by
  have q0 := Int.emod_nonneg kd (show (6 : Int) ≠ 0 by omega)
  have q1 := Int.emod_lt_of_pos kd (show (0 : Int) < 6 by omega)
  by_cases h1 : kd % 6 = 0 ∨ kd % 6 = 1 ∨ kd % 6 = 2
  · refine (step17_sent kd af x0 x1 x2 h.at_ h.ok hN a0 a1 b0 b1 c0 c1 d0 d1 e0 e1 h1).mono ?_
    rintro e W' ⟨rfl, f', s', vs', sent', now', h1, h2, h3, h4, _⟩
    exact ⟨rfl, f', s', vs', va, vl, sent', acked, lost, now', ⟨h1, h2, h4.trans h.room⟩, by omega⟩
  · by_cases h2 : kd % 6 = 3 ∨ kd % 6 = 4
    · refine (step17_ack kd af x0 x1 x2 h.at_ h.ok hN a0 a1 b0 b1 c0 c1 d0 d1 e0 e1 h2).mono ?_
      rintro e W' ⟨rfl, f', s', va', acked', now', h1, h2, h3, h4⟩
      exact ⟨rfl, f', s', vs, va', vl, sent, acked', lost, now', ⟨h1, h2, h4.trans h.room⟩, h3⟩
    · refine (step17_lose kd af x0 x1 x2 h.at_ h.ok hN a0 a1 b0 b1 c0 c1 d0 d1 e0 e1 (by omega)).mono ?_
      rintro e W' ⟨rfl, f', vl', lost', now', _, h1, h2⟩
      exact ⟨rfl, f', _, vs, va, vl', sent, acked, lost', now', ⟨h1, h2, h.room⟩, Int.le_refl _⟩
end
/-- No block is kept. -/
instance noKept : Kept := ⟨[], fun _ => none⟩
/-- From here on other blocks are kept. -/
theorem RunAt.keep {K1 : Kept} (K2 : Kept) {w W : World} {r : Nat} {sent acked lost : List Int} {f : Ft} {s : SpSt} {vs va vl : Value} {now : Int} (h : @RunAt K1 w W f s r vs va vl sent acked lost now) (hk : ∀ k ∈ K2.ks, W.heap[k]? = K2.what k ∧ k < W.heap.size ∧ k ∉ f.all ∧ k ≠ r ∧ vs.ownBlock ≠ some k ∧ va.ownBlock ≠ some k ∧ vl.ownBlock ≠ some k) : @RunAt K2 w W f s r vs va vl sent acked lost now := by
  obtain ⟨a1, a2, a3, a4, a5, a6, a7, a8, a9, a10, a11, a12, a13, _⟩ := h
  exact @RunAt.mk K2 _ _ _ _ _ _ _ _ _ _ _ _ a1 a2 a3 a4 a5 a6 a7 a8 a9 a10 a11 a12 a13 hk
section
variable {w W W' : World} {r N room : Nat} {G sent acked lost : List Int} {f : Ft} {s : SpSt} {vs va vl : Value} {now : Int}
/-- The run's beginning. -/
theorem run_start {W1 : World} (hs : IsSp W1 f ⟨room, -1, [], [], [], -1, -1, -1⟩) (hn : ∀ x ∈ f.all, w.heap.size ≤ x) (hb : Below w.heap.size w W1) :
    RunS w (W1.alloc (.cells #[.pointer (some ⟨f.b, 0, none⟩), .slice none 0 0, .slice none 0 0, .slice none 0 0, .int .i64 0, .int .i64 0] 31)) W1.heap.size [] 0 room f ⟨room, -1, [], [], [], -1, -1, -1⟩ (.slice none 0 0) (.slice none 0 0) (.slice none 0 0) [] [] [] 0 := by
  have hz := hb.size
  refine ⟨⟨⟨hs.alloc _, hn, hb.alloc hz _⟩, Blk.new _ _ _, hz, fun hm => by have := hs.lt _ hm; omega, ⟨rfl, .inl ⟨rfl, rfl⟩⟩, ⟨rfl, .inl ⟨rfl, rfl⟩⟩, ⟨rfl, .inl ⟨rfl, rfl⟩⟩, ?_, ?_, ?_, ?_, ?_, ?_, ?_⟩, ⟨.nil, ?_, ⟨Int.le_refl _, by show (-1 : Int) ≤ 3 * ((0 : Nat) : Int); decide⟩, by simp, fun x => by simp [memR_nil], by simp, ?_, ?_, ?_, ?_, rfl, .inl rfl, by decide, ?_⟩, rfl⟩
  iterate 6 (· intro x hx; simp [Value.ownBlock] at hx)
  · intro k hk
    cases hk
  all_goals (intro x hx; simp [Value.ownBlock] at hx)
theorem row_at {a : Option Addr} {len i : Nat} (h : RowsK w a len [some .i64, some .i64, some .i64, some .i64, some .i64]) (hi : i < len) (hb : Below w.heap.size w W) :
    ∃ xb xo kd af x0 x1 x2, a = some ⟨xb, xo, none⟩ ∧ (W.cell? ⟨xb, xo + i * 5, none⟩ = some (.int .i64 kd) ∧ W.cell? ⟨xb, xo + i * 5 + 1, none⟩ = some (.int .i64 af) ∧ W.cell? ⟨xb, xo + i * 5 + 2, none⟩ = some (.int .i64 x0) ∧ W.cell? ⟨xb, xo + i * 5 + 3, none⟩ = some (.int .i64 x1) ∧ W.cell? ⟨xb, xo + i * 5 + 4, none⟩ = some (.int .i64 x2)) ∧
      (-9223372036854775808 ≤ kd ∧ kd ≤ 9223372036854775807) ∧ (-9223372036854775808 ≤ af ∧ af ≤ 9223372036854775807) ∧ (-9223372036854775808 ≤ x0 ∧ x0 ≤ 9223372036854775807) ∧ (-9223372036854775808 ≤ x1 ∧ x1 ≤ 9223372036854775807) ∧ (-9223372036854775808 ≤ x2 ∧ x2 ≤ 9223372036854775807) := by
  obtain ⟨xb, xo, ha, hlt, hc⟩ := h.2 (by omega)
  obtain ⟨kd, h0, b0⟩ := (hc i hi 0 (some .i64) rfl).i64
  obtain ⟨af, h1, b1⟩ := (hc i hi 1 (some .i64) rfl).i64
  obtain ⟨x0, h2, b2⟩ := (hc i hi 2 (some .i64) rfl).i64
  obtain ⟨x1, h3, b3⟩ := (hc i hi 3 (some .i64) rfl).i64
  obtain ⟨x2, h4, b4⟩ := (hc i hi 4 (some .i64) rfl).i64
  have key : ∀ (j : Nat) v, w.cell? ⟨xb, xo + (i * 5 + j), none⟩ = some v → W.cell? ⟨xb, xo + i * 5 + j, none⟩ = some v := fun j v hv => by
    rw [Nat.add_assoc]
    exact (hb.cell (p := ⟨xb, xo + (i * 5 + j), none⟩) hlt).trans hv
  exact ⟨xb, xo, kd, af, x0, x1, x2, ha, ⟨key 0 _ h0, key 1 _ h1, key 2 _ h2, key 3 _ h3, key 4 _ h4⟩, b0, b1, b2, b3, b4⟩
end
end Go.Proofs.YtgicljeedegncaaGreat
