/-
  The statement SentPlays: the state between its calls.
-/
import Derived.Test.YtcigkggdcogokaaSentSame
import Derived.Test.YtcigkggdcogokaaSentSums
import Derived.Test.YtcigkggdcogokaaFlat
import Derived.Deep.DeepCutAuto
namespace Go.Proofs.Ytcigkggdcogokaa
open Go.RowKit

/-- The two logs, and the call's box X. -/
structure Pl2 (w0 w : World) (b rb m room : Nat) (l1 : Int) (ps1 : List Pk) (l2 : Int) (ps2 : List Pk) (X : Nat) (cs : Array Value) : Prop where
  log : IsLog w b rb room l1 ps1
  ref : IsRef w m room l2 ps2
  bx : Blk w X 54 cs
  b0 : w0.heap.size ≤ b
  r0 : w0.heap.size ≤ rb
  m0 : w0.heap.size ≤ m
  bw : Below w0.heap.size w0 w
theorem IsLog.far_types {w : World} {b rb room : Nat} {l : Int} {ps : List Pk} (h : IsLog w b rb room l ps) : ∀ x ∈ [b, rb], ∃ t cs, Blk w x t cs ∧ (t = 62 ∨ t = 65) := by
  obtain ⟨c1, c2, h1, h2⟩ := h.blks
  intro x hx
  simp at hx
  rcases hx with rfl | rfl
  · exact ⟨_, _, h1, .inl rfl⟩
  · exact ⟨_, _, h2, .inr rfl⟩
theorem IsRef.only2 {S : List Nat} {w w' : World} {m room : Nat} {top : Int} {ps : List Pk} (h : IsRef w m room top ps) (ho : Only S w w') (hm : m ∉ S) (hS : ∀ x ∈ S, ∃ t cs, Blk w x t cs ∧ t ≠ 30) : IsRef w' m room top ps := by
  obtain ⟨h1, h2, v, hB, hv⟩ := h
  exact ⟨h1, h2, v, ho.blk hB hm, hv.far ho hS⟩
section
variable {w0 w w' : World} {b rb m room : Nat} {l1 l2 : Int} {ps1 ps2 : List Pk} {X : Nat} {cs : Array Value}
theorem Pl2.below (h : Pl2 w0 w b rb m room l1 ps1 l2 ps2 X cs) (hb : Below w.heap.size w w') : Pl2 w0 w' b rb m room l1 ps1 l2 ps2 X cs :=
  ⟨h.log.below hb, h.ref.below hb, (only_of_below hb (S := [])).blk h.bx (by simp), h.b0, h.r0, h.m0, bw_below h.bw hb⟩
theorem Pl2.drewN (h : Pl2 w0 w b rb m room l1 ps1 l2 ps2 X cs) (n : Nat) : Pl2 w0 (w.drewN n) b rb m room l1 ps1 l2 ps2 X cs := h.below (below_drewN (Below.refl _ _) n)
theorem Pl2.drew (h : Pl2 w0 w b rb m room l1 ps1 l2 ps2 X cs) : Pl2 w0 w.drew b rb m room l1 ps1 l2 ps2 X cs := h.drewN 1
theorem Pl2.alloc (h : Pl2 w0 w b rb m room l1 ps1 l2 ps2 X cs) (o : Obj) : Pl2 w0 (w.alloc o) b rb m room l1 ps1 l2 ps2 X cs := h.below ((Below.refl _ _).alloc (Nat.le_refl _) o)
theorem Pl2.putL (h : Pl2 w0 w b rb m room l1 ps1 l2 ps2 X cs) {rb' : Nat} {l1' : Int} {ps1' : List Pk} (hL : IsLog w' b rb' room l1' ps1') (hr : rb' = rb ∨ w.heap.size ≤ rb') (hO : Only [b, rb] w w') : Pl2 w0 w' b rb' m room l1' ps1' l2 ps2 X cs :=
  ⟨hL, h.ref.only hO (fun x hx => by obtain ⟨t, c, k1, k2⟩ := h.log.far_types x hx; exact ⟨t, c, k1, by rcases k2 with rfl | rfl <;> decide, by rcases k2 with rfl | rfl <;> decide⟩),
   hO.blk h.bx (fun hm => by obtain ⟨t, c, k1, k2⟩ := h.log.far_types X hm; have e := blk_type_ne k1 h.bx; rcases k2 with rfl | rfl <;> exact absurd e (by decide)), h.b0, rb_le hr h.r0 h.bw.size, h.m0, bw_only h.bw hO (fun x hx => by simp at hx; rcases hx with rfl | rfl; exact h.b0; exact h.r0)⟩
theorem IsLog.only_ref {m : Nat} (h : IsLog w b rb room l1 ps1) {c : Array Value} (hm : Blk w m 73 c) (hO : Only [m] w w') : IsLog w' b rb room l1 ps1 := by
  have hx := h.far_types
  refine h.only hO (fun hm' => ?_) (fun hm' => ?_)
  · obtain ⟨t, c', k1, k2⟩ := hx b (by simp)
    simp at hm'; subst hm'
    have e := blk_type_ne k1 hm; rcases k2 with rfl | rfl <;> exact absurd e (by decide)
  · obtain ⟨t, c', k1, k2⟩ := hx rb (by simp)
    simp at hm'; subst hm'
    have e := blk_type_ne k1 hm; rcases k2 with rfl | rfl <;> exact absurd e (by decide)
theorem Pl2.putR (h : Pl2 w0 w b rb m room l1 ps1 l2 ps2 X cs) {l2' : Int} {ps2' : List Pk} (hR : IsRef w' m room l2' ps2') (hO : Only [m] w w') : Pl2 w0 w' b rb m room l1 ps1 l2' ps2' X cs := by
  obtain ⟨c, hc⟩ := h.ref.blk
  exact ⟨h.log.only_ref hc hO, hR, hO.blk h.bx (fun hm => by simp at hm; subst hm; exact absurd (blk_type_ne hc h.bx) (by decide)), h.b0, h.r0, h.m0, bw_only h.bw hO (by simp; exact h.m0)⟩
end

/-- The logs that were copied, and the copies. -/
structure Pl4 (w0 w : World) (b rb m room : Nat) (l1 : Int) (ps1 : List Pk) (l2 : Int) (ps2 : List Pk) (X : Nat) (cs : Array Value) (b2 rb2 mm : Nat) (last : Int) (ps : List Pk) : Prop where
  o : Pl2 w0 w b rb m room l1 ps1 l2 ps2 X cs
  log2 : IsLog w b2 rb2 room last ps
  ref2 : IsRef w mm room last ps
  n1 : b2 ≠ b ∧ b2 ≠ rb ∧ rb2 ≠ b ∧ rb2 ≠ rb ∧ mm ≠ m
  l1 : w0.heap.size ≤ b2 ∧ w0.heap.size ≤ rb2 ∧ w0.heap.size ≤ mm
section
variable {w0 w w' : World} {b rb m room : Nat} {l1 l2 : Int} {ps1 ps2 : List Pk} {X : Nat} {cs : Array Value} {b2 rb2 mm : Nat} {last : Int} {ps : List Pk}
theorem Pl4.below (h : Pl4 w0 w b rb m room l1 ps1 l2 ps2 X cs b2 rb2 mm last ps) (hb : Below w.heap.size w w') : Pl4 w0 w' b rb m room l1 ps1 l2 ps2 X cs b2 rb2 mm last ps :=
  ⟨h.o.below hb, h.log2.below hb, h.ref2.below hb, h.n1, h.l1⟩
theorem Pl4.drew (h : Pl4 w0 w b rb m room l1 ps1 l2 ps2 X cs b2 rb2 mm last ps) : Pl4 w0 w.drew b rb m room l1 ps1 l2 ps2 X cs b2 rb2 mm last ps := h.below (below_drewN (Below.refl _ _) 1)
theorem Pl4.putL (h : Pl4 w0 w b rb m room l1 ps1 l2 ps2 X cs b2 rb2 mm last ps) {rb' : Nat} {l1' : Int} {ps1' : List Pk} (hL : IsLog w' b rb' room l1' ps1') (hr : rb' = rb ∨ w.heap.size ≤ rb') (hO : Only [b, rb] w w') : Pl4 w0 w' b rb' m room l1' ps1' l2 ps2 X cs b2 rb2 mm last ps := by
  obtain ⟨n1, n2, n3, n4, n5⟩ := h.n1
  have h1 := h.log2.lt
  refine ⟨h.o.putL hL hr hO, h.log2.only hO (by simp; omega) (by simp; omega), h.ref2.only hO (fun x hx => by obtain ⟨t, c, k1, k2⟩ := h.o.log.far_types x hx; exact ⟨t, c, k1, by rcases k2 with rfl | rfl <;> decide, by rcases k2 with rfl | rfl <;> decide⟩), ⟨n1, ?_, n3, ?_, n5⟩, h.l1⟩
  · rcases hr with rfl | hr
    · exact n2
    · omega
  · rcases hr with rfl | hr
    · exact n4
    · omega
theorem Pl4.putR (h : Pl4 w0 w b rb m room l1 ps1 l2 ps2 X cs b2 rb2 mm last ps) {l2' : Int} {ps2' : List Pk} (hR : IsRef w' m room l2' ps2') (hO : Only [m] w w') : Pl4 w0 w' b rb m room l1 ps1 l2' ps2' X cs b2 rb2 mm last ps := by
  obtain ⟨c, hc⟩ := h.o.ref.blk
  exact ⟨h.o.putR hR hO, h.log2.only_ref hc hO, h.ref2.only2 hO (by simpa using h.n1.2.2.2.2) (fun x hx => by simp at hx; subst hx; exact ⟨_, _, hc, by decide⟩), h.n1, h.l1⟩
theorem Pl4.new (h : Pl4 w0 w b rb m room l1 ps1 l2 ps2 X cs b2 rb2 mm last ps) : Pl2 w0 w b2 rb2 mm room last ps last ps X cs := ⟨h.log2, h.ref2, h.o.bx, h.l1.1, h.l1.2.1, h.l1.2.2, h.o.bw⟩
end

theorem drop_any (b rb room : Nat) (last n : Int) (ps : List Pk) (p : Pk) (t : Bool) (w : World) (hL : IsLog w b rb room last ps) (hg : getOf n ps = (p, t)) :
    Calls Try.prog 13 #[.pointer (some ⟨b, 0, none⟩), .int .i64 n] w fun e w' => e = .returned (.tuple #[.agg #[.int .i64 p.num, .int .i64 p.time, .int .i64 p.size, .bool p.el, .bool p.fl, .bool p.ect], .bool t]) ∧ IsLog w' b rb room last (without n ps) ∧ Only [b, rb] w w' := by
  cases hf : ps.find? (fun p => p.num == n) with
  | some q =>
    rw [getOf_some hf] at hg
    cases hg
    exact (drop_is b rb room last n _ ps w hL hf).mono fun e w' ⟨h1, h2, h3⟩ => ⟨h1, h2, h3⟩
  | none =>
    rw [getOf_none hf] at hg
    cases hg
    refine (drop_none b rb room last n ps w hL hf).mono fun e w' ⟨h1, h2⟩ => ⟨h1, ?_, only_of_below h2⟩
    rw [without_id (fun p hp hn => by have := (List.find?_eq_none.1 hf) p hp; simp at this; exact this hn)]
    exact hL.below h2
end Go.Proofs.Ytcigkggdcogokaa
