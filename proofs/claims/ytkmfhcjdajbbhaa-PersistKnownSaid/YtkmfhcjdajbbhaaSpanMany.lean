/-
  Several sets at once, apart from each other; rows of two numbers that came in.
-/
import Derived.Test.YtkmfhcjdajbbhaaSpanWorks
import Derived.Test.YtkmfhcjdajbbhaaSpanSame
import Derived.Test.YtkmfhcjdajbbhaaInts
import Derived.Test.YtkmfhcjdajbbhaaFlat
namespace Go.Proofs.Ytkmfhcjdajbbhaa
set_option linter.unusedVariables false
open Go.RowKit

/-- A set's place and content. -/
structure SD where
  b : Nat
  g : Option Nat
  room : Nat
  rs : List Rg
def SD.is (d : SD) (w W : World) : Prop := SAt w W d.b d.g d.room d.rs
/-- Two sets share no block. -/
def ApartS (d e : SD) : Prop := d.b ≠ e.b ∧ d.g ≠ some e.b ∧ e.g ≠ some d.b ∧ (∀ k, d.g = some k → e.g ≠ some k)
theorem ApartS.symm {d e : SD} (h : ApartS d e) : ApartS e d := ⟨h.1.symm, h.2.2.1, h.2.1, fun k hk he => h.2.2.2 k he hk⟩
def AllS (w W : World) (L : List SD) : Prop := (∀ d ∈ L, d.is w W) ∧ L.Pairwise ApartS
section
variable {w W w' : World} {d e : SD} {L : List SD} {x : Ending} {ys : List Rg}
theorem AllS.head (h : AllS w W (d :: L)) : SAt w W d.b d.g d.room d.rs := h.1 d (by simp)
theorem AllS.tail (h : AllS w W (d :: L)) : AllS w W L := ⟨fun e he => h.1 e (by simp [he]), (List.pairwise_cons.1 h.2).2⟩
theorem AllS.swap (h : AllS w W (d :: e :: L)) : AllS w W (e :: d :: L) := by
  obtain ⟨h1, h2⟩ := h
  obtain ⟨a1, a2⟩ := List.pairwise_cons.1 h2
  obtain ⟨b1, b2⟩ := List.pairwise_cons.1 a2
  refine ⟨fun f hf => h1 f (by simp at hf ⊢; rcases hf with h | h | h <;> simp [h]), List.pairwise_cons.2 ⟨fun f hf => ?_, List.pairwise_cons.2 ⟨fun f hf => a1 f (by simp [hf]), b2⟩⟩⟩
  rcases List.mem_cons.1 hf with rfl | hf
  · exact (a1 e (by simp)).symm
  · exact b1 f hf
theorem AllS.cons_swap {f : SD} (h : AllS w W (f :: d :: e :: L)) : AllS w W (f :: e :: d :: L) := by
  have h1 := h.tail.swap
  have h2 := (List.pairwise_cons.1 h.2).1
  exact ⟨fun y hy => by rcases List.mem_cons.1 hy with rfl | hy; exact h.1 _ (by simp); exact h1.1 y hy, List.pairwise_cons.2 ⟨fun y hy => h2 y (by simp at hy ⊢; rcases hy with h | h | h <;> simp [h]), h1.2⟩⟩
theorem AllS.drop2 (h : AllS w W (d :: e :: L)) : AllS w W (d :: L) := h.swap.tail
theorem AllS.later (h : AllS w W L) (hb : Below W.heap.size W w') : AllS w w' L := ⟨fun d hd => (h.1 d hd).later hb, h.2⟩
theorem AllS.nil : AllS w W [] := ⟨by simp, List.Pairwise.nil⟩
theorem AllS.perm {M : List SD} (h : AllS w W L) (hp : L.Perm M) : AllS w W M := ⟨fun d hd => h.1 d (hp.mem_iff.2 hd), (hp.pairwise_iff (fun h => ApartS.symm h)).1 h.2⟩
theorem AllS.up {A : List SD} (h : AllS w W (A ++ d :: L)) : AllS w W (d :: (A ++ L)) := h.perm List.perm_middle
theorem AllS.take {A : List SD} (h : AllS w W (A ++ L)) : AllS w W A := ⟨fun d hd => h.1 d (by simp [hd]), (List.pairwise_append.1 h.2).1⟩
theorem SAt.lts (h : SAt w W d.b d.g d.room d.rs) : d.b < W.heap.size ∧ ∀ k, d.g = some k → k < W.heap.size := ⟨h.set.lt.1, fun k hk => (h.set.lt.2 k hk).1⟩
/-- A set that a call has made. -/
theorem AllS.fresh (h : AllS w W L) {room : Nat} (hp : SNewPost W room x w') (hw : Below w.heap.size w W) : ∃ b, x = .returned (.tuple #[.pointer (some ⟨b, 0, none⟩), .int .i64 0]) ∧ AllS w w' (⟨b, none, room, []⟩ :: L) := by
  obtain ⟨b, rfl, h1, h2, h3⟩ := hp
  refine ⟨b, rfl, fun d hd => ?_, List.pairwise_cons.2 ⟨fun e he => ?_, h.2⟩⟩
  · rcases List.mem_cons.1 hd with rfl | hd
    · exact ⟨h1, Nat.le_trans hw.size h2, by simp, bw_below' hw h3⟩
    · exact (h.1 d hd).later h3
  · obtain ⟨hl1, hl2⟩ := (h.1 e he).lts
    exact ⟨fun e' => by simp only at e'; omega, by simp, fun e' => by have := hl2 _ e'; simp only at this; omega, by simp⟩
/-- A copy. -/
theorem AllS.copy (h : AllS w W (d :: L)) (hp : SCopyPost W d.room d.rs x w') : ∃ b g, x = .returned (.pointer (some ⟨b, 0, none⟩)) ∧ AllS w w' (⟨b, g, d.room, d.rs⟩ :: d :: L) := by
  obtain ⟨b, g, rfl, h1, h2, h3, h4⟩ := hp
  have hw := h.head.below
  refine ⟨b, g, rfl, fun e he => ?_, List.pairwise_cons.2 ⟨fun e he => ?_, h.2⟩⟩
  · rcases List.mem_cons.1 he with rfl | he
    · exact ⟨h1, Nat.le_trans hw.size h2, fun k hk => Nat.le_trans hw.size (h3 k hk), bw_below' hw h4⟩
    · exact (h.1 e he).later h4
  · obtain ⟨hl1, hl2⟩ := (h.1 e he).lts
    refine ⟨fun e' => by simp only at e'; omega, fun e' => by have := h3 _ e'; omega, fun e' => by have := hl2 _ e'; simp only at this; omega, fun k hk hk' => ?_⟩
    have := h3 k hk
    have := hl2 k hk'
    omega
/-- Add, Cut at the first. -/
theorem AllS.stepX (h : AllS w W (d :: L)) (hp : SAddPost W d.b d.g d.room ys x w') : x = .returned (.int .i64 0) ∧ ∃ g, AllS w w' (⟨d.b, g, d.room, ys⟩ :: L) ∧ (∀ k, g = some k → d.g = some k ∨ W.heap.size ≤ k) ∧ Only (d.b :: d.g.toList) W w' := by
  obtain ⟨a1, a2⟩ := List.pairwise_cons.1 h.2
  obtain ⟨he, g, hs⟩ := h.head.step hp
  obtain ⟨_, g', h1, h2, h3⟩ := hp
  refine ⟨he, g', ⟨fun e hx => ?_, List.pairwise_cons.2 ⟨fun e hx => ?_, a2⟩⟩, h2, h3⟩
  · rcases List.mem_cons.1 hx with rfl | hx
    · refine ⟨h1, h.head.nb, fun k hk => ?_, hs.below⟩
      rcases h2 k hk with h4 | h4
      · exact h.head.ng k h4
      · exact Nat.le_trans h.head.below.size h4
    · have ha := a1 e hx
      have hb := h.1 e (by simp [hx])
      refine ⟨hb.set.only h3 (fun hm => ?_) (fun k hk hm => ?_), hb.nb, hb.ng, hs.below⟩
      · simp at hm
        rcases hm with hm | hm
        · exact ha.1 hm.symm
        · exact ha.2.1 hm
      · simp at hm
        rcases hm with hm | hm
        · subst hm; exact ha.2.2.1 hk
        · exact ha.2.2.2 k hm hk
  · have ha := a1 e hx
    have hb := h.1 e (by simp [hx])
    obtain ⟨hl1, hl2⟩ := hb.lts
    refine ⟨ha.1, fun e' => ?_, ha.2.2.1, fun k hk hk' => ?_⟩
    · rcases h2 _ e' with h4 | h4
      · exact ha.2.1 h4
      · omega
    · rcases h2 _ hk with h4 | h4
      · exact ha.2.2.2 k h4 hk'
      · have := hl2 k hk'; omega
theorem AllS.step (h : AllS w W (d :: L)) (hp : SAddPost W d.b d.g d.room ys x w') : x = .returned (.int .i64 0) ∧ ∃ g, AllS w w' (⟨d.b, g, d.room, ys⟩ :: L) := by
  obtain ⟨h1, g, h2, _⟩ := h.stepX hp
  exact ⟨h1, g, h2⟩
/-- Ranges that lie apart from a set. -/
def RgFree (W : World) (b : Nat) (g : Option Nat) (a : Option Addr) (rs : List Rg) : Prop := RgAt W a rs ∧ ∀ k, a = some ⟨k, 0, none⟩ → b ≠ k ∧ g ≠ some k ∧ k < W.heap.size
theorem RgFree.below {b : Nat} {g : Option Nat} {a : Option Addr} {rs : List Rg} (h : RgFree W b g a rs) (hb : Below W.heap.size W w') : RgFree w' b g a rs :=
  ⟨h.1.below hb, fun k hk => by obtain ⟨h1, h2, h3⟩ := h.2 k hk; exact ⟨h1, h2, Nat.lt_of_lt_of_le h3 hb.size⟩⟩
theorem RgFree.step {b : Nat} {g g' : Option Nat} {a : Option Addr} {rs : List Rg} (h : RgFree W b g a rs) (h2 : ∀ k, g' = some k → g = some k ∨ W.heap.size ≤ k) (h3 : Only (b :: g.toList) W w') : RgFree w' b g' a rs := by
  refine ⟨fun i r hi => ?_, fun k hk => ?_⟩
  · obtain ⟨k, e, hk, z0, z1⟩ := h.1 i r hi
    obtain ⟨n1, n2, _⟩ := h.2 k e
    have hn : k ∉ b :: g.toList := by
      simp
      exact ⟨fun e => n1 e.symm, fun e => n2 e⟩
    exact ⟨k, e, Nat.lt_of_lt_of_le hk h3.size, (h3.cell (p := ⟨k, _, none⟩) hk hn).trans z0, (h3.cell (p := ⟨k, _, none⟩) hk hn).trans z1⟩
  · obtain ⟨n1, n2, n3⟩ := h.2 k hk
    refine ⟨n1, fun e => ?_, Nat.lt_of_lt_of_le n3 h3.size⟩
    rcases h2 k e with h4 | h4
    · exact n2 h4
    · omega
/-- The ranges that a set hands out. -/
theorem RgFree.mk {b room n c : Nat} {g : Option Nat} {a : Option Addr} {rs xs : List Rg} (hs : SAt w W b g room xs) (hn : rs.length = n) (h : w'.ownsRow W.heap.size 62 2 (.slice a n c) n (rgsCells rs)) : RgFree w' b g a rs := by
  refine ⟨own_rgat hn h, fun k hk => ?_⟩
  subst hk
  rcases own_split h with ⟨h0, _⟩ | ⟨k', cap, cur, e, hk, hB, _⟩
  · cases h0
  · cases e
    have l1 := hs.set.lt.1
    have l2 := hs.set.lt.2
    exact ⟨by omega, fun e => by have := (l2 _ e).1; omega, hB.lt⟩
end

/-- Rows of two numbers that came in. -/
def PairsAt (w : World) (a : Option Addr) (len : Nat) (X Y : Nat → Int) : Prop :=
  len ≤ 9223372036854775807 ∧ ∀ i, i < len → ∃ xb xo, a = some ⟨xb, xo, none⟩ ∧ xb < w.heap.size ∧ w.cell? ⟨xb, xo + i * 2, none⟩ = some (.int .i64 (X i)) ∧ w.cell? ⟨xb, xo + (i * 2 + 1), none⟩ = some (.int .i64 (Y i)) ∧
    -9223372036854775808 ≤ X i ∧ X i ≤ 9223372036854775807 ∧ -9223372036854775808 ≤ Y i ∧ Y i ≤ 9223372036854775807
theorem pairs_of_rows {w : World} {a : Option Addr} {len : Nat} (h : RowsK w a len [some .i64, some .i64]) : ∃ X Y, PairsAt w a len X Y := by
  obtain ⟨h1, h2⟩ := h
  have key : ∀ i, ∃ x y : Int, i < len → ∃ xb xo, a = some ⟨xb, xo, none⟩ ∧ xb < w.heap.size ∧ w.cell? ⟨xb, xo + i * 2, none⟩ = some (.int .i64 x) ∧ w.cell? ⟨xb, xo + (i * 2 + 1), none⟩ = some (.int .i64 y) ∧
      -9223372036854775808 ≤ x ∧ x ≤ 9223372036854775807 ∧ -9223372036854775808 ≤ y ∧ y ≤ 9223372036854775807 := by
    intro i
    by_cases hi : i < len
    · obtain ⟨xb, xo, ha, hb, hc⟩ := h2 (by omega)
      obtain ⟨x, hx, x0, x1⟩ := (hc i hi 0 _ rfl).i64
      obtain ⟨y, hy, y0, y1⟩ := (hc i hi 1 _ rfl).i64
      exact ⟨x, y, fun _ => ⟨xb, xo, ha, hb, hx, hy, x0, x1, y0, y1⟩⟩
    · exact ⟨0, 0, fun h => absurd h hi⟩
  refine ⟨fun i => Classical.choose (key i), fun i => Classical.choose (Classical.choose_spec (key i)), h1, fun i hi => Classical.choose_spec (Classical.choose_spec (key i)) hi⟩
theorem rowB (x y : Int) : 0 ≤ rowLo x ∧ rowLo x ≤ rowHi x y ∧ rowHi x y ≤ 99 := by unfold rowLo rowHi; omega
theorem addR_le {lo hi : Int} {rs : List Rg} (h : GoodR rs) (hl : lo ≤ hi) : (addR lo hi rs).length ≤ rs.length + 1 := by
  have h1 := addR_length h hl
  have h2 := from_le_to h hl
  omega
end Go.Proofs.Ytkmfhcjdajbbhaa
