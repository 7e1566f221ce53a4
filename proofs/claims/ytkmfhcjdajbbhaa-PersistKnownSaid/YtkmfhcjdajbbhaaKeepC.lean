/-
  What a round of an iterator keeps: every row of cells but those of S.
-/
import Derived.Test.YtkmfhcjdajbbhaaPersistFree
import Derived.Test.YtkmfhcjdajbbhaaSpanIter
namespace Go.Proofs.Ytkmfhcjdajbbhaa
set_option linter.unusedSimpArgs false
set_option linter.unusedVariables false
open Go.RowKit

def KeepC (S : List Nat) (W W' : World) : Prop := W.heap.size ≤ W'.heap.size ∧ ∀ k o, W.heap[k]? = some o → o.isCells = true → k ∉ S → W'.heap[k]? = some o
section
variable {S : List Nat} {A B C : World}
theorem KeepC.refl (S : List Nat) (A : World) : KeepC S A A := ⟨Nat.le_refl _, fun _ _ h _ _ => h⟩
theorem KeepC.trans (h : KeepC S A B) (k : KeepC S B C) : KeepC S A C := ⟨Nat.le_trans h.1 k.1, fun x o h1 h2 h3 => k.2 x o (h.2 x o h1 h2 h3) h2 h3⟩
theorem keepC_below (h : Below A.heap.size A B) : KeepC S A B := ⟨h.size, fun k o h1 _ _ => (h.block k (Array.getElem?_eq_some_iff.1 h1).1).trans h1⟩
theorem KeepC.lt (h : KeepC S A B) {k : Nat} (hk : k < A.heap.size) : k < B.heap.size := Nat.lt_of_lt_of_le hk h.1
theorem cell_obj {p : Addr} {v : Value} (h : A.cell? p = some v) : ∃ o, A.heap[p.block]? = some o ∧ o.isCells = true := by
  unfold World.cell? at h
  split at h
  · rename_i e; exact ⟨_, e, rfl⟩
  · cases h
theorem KeepC.cell (h : KeepC S A B) {p : Addr} {v : Value} (hc : A.cell? p = some v) (hn : p.block ∉ S) : B.cell? p = some v := by
  obtain ⟨o, ho, hi⟩ := cell_obj hc
  rw [World.cell?_of_block ((h.2 _ o ho hi hn).trans ho.symm)]
  exact hc
theorem KeepC.blk (h : KeepC S A B) {k t : Nat} {cs : Array Value} (hb : Blk A k t cs) (hn : k ∉ S) : Blk B k t cs := h.2 k _ hb rfl hn
theorem keepC_putObj (W : World) (l : Nat) (o o' : Obj) (h : W.heap[l]? = some o) (hc : o.isCells = false) : KeepC S W (W.putObj l o') := by
  refine ⟨(grownBy_putObj' W l o').size, fun k x hk hx _ => ?_⟩
  have hlt := (Array.getElem?_eq_some_iff.1 hk).1
  refine ((grownBy_putObj' W l o').block k hlt (fun e => ?_)).trans hk
  cases e
  rw [h] at hk
  cases hk
  rw [hc] at hx
  cases hx
theorem IsSet.keepC {b room : Nat} {g : Option Nat} {rs : List Rg} (h : IsSet A b g room rs) (k : KeepC S A B) (hb : b ∉ S) (hg : ∀ x, g = some x → x ∉ S) : IsSet B b g room rs := by
  obtain ⟨h1, h2, h3, h4, v, hv, hB, hr⟩ := h
  refine ⟨h1, h2, h3, h4, v, hv, k.blk hB hb, hr.1, ?_⟩
  rcases hr.2 with h0 | ⟨x, cap, cur, hv', hg', hh, r⟩
  · exact .inl h0
  · exact .inr ⟨x, cap, cur, hv', hg', k.2 x _ hh rfl (hg x (by rw [← hv, hv']; rfl)), r⟩
theorem PksAt.keepC {a : Option Addr} {ps : List PK} (h : PksAt A a ps) (k : KeepC S A B) (hn : ∀ x o, a = some ⟨x, o, none⟩ → x ∉ S) : PksAt B a ps := ⟨h.1, fun i p hi => by
  obtain ⟨x, o, e, hk, hc⟩ := h.2 i p hi
  exact ⟨x, o, e, k.lt hk, fun j v hj => k.cell (hc j v hj) (hn x o e)⟩⟩
end

/-- A set that lies apart from S. -/
def AckS (S : List Nat) (w : World) (v : Value) (rs : List Rg) : Prop := (v = .pointer none ∧ rs = []) ∨ ∃ b g room, v = .pointer (some ⟨b, 0, none⟩) ∧ IsSet w b g room rs ∧ b ∉ S ∧ ∀ k, g = some k → k ∉ S
theorem AckS.at {S : List Nat} {w : World} {v : Value} {rs : List Rg} (h : AckS S w v rs) : AckAt w v rs := by
  rcases h with h | ⟨b, g, room, h1, h2, _⟩
  · exact .inl h
  · exact .inr ⟨b, g, room, h1, h2⟩
theorem AckS.keepC {S : List Nat} {A B : World} {v : Value} {rs : List Rg} (h : AckS S A v rs) (k : KeepC S A B) : AckS S B v rs := by
  rcases h with h | ⟨b, g, room, h1, h2, h3, h4⟩
  · exact .inl h
  · exact .inr ⟨b, g, room, h1, h2.keepC k h3 h4, h3, h4⟩
/-- What the iterator over the pairs reads. -/
structure PairCtx (S : List Nat) (W : World) (Bl Bc Bg Bf Bk : Nat) (a : Option Addr) (cap : Nat) (ps : List PK) (first : Int) (v : Value) (rs : List Rg) : Prop where
  l : W.cell? ⟨Bl, 0, none⟩ = some (.slice a ps.length cap)
  c : W.cell? ⟨Bc, 0, none⟩ = some (.func (.func 73) #[] #[.pointer (some ⟨Bf, 0, none⟩)])
  g : W.cell? ⟨Bg, 0, none⟩ = some (.func (.func 74) #[] #[.pointer (some ⟨Bk, 0, none⟩)])
  f : W.cell? ⟨Bf, 0, none⟩ = some (.int .i64 first)
  k : W.cell? ⟨Bk, 0, none⟩ = some v
  nl : Bl ∉ S
  nc : Bc ∉ S
  ng : Bg ∉ S
  nf : Bf ∉ S
  nk : Bk ∉ S
  na : ∀ x o, a = some ⟨x, o, none⟩ → x ∉ S
  ack : AckS S W v rs
  pks : PksAt W a ps
theorem PairCtx.keep {S : List Nat} {W W' : World} {Bl Bc Bg Bf Bk : Nat} {a : Option Addr} {cap : Nat} {ps : List PK} {first : Int} {v : Value} {rs : List Rg} (h : PairCtx S W Bl Bc Bg Bf Bk a cap ps first v rs) (k : KeepC S W W') :
    PairCtx S W' Bl Bc Bg Bf Bk a cap ps first v rs :=
  ⟨k.cell h.l h.nl, k.cell h.c h.nc, k.cell h.g h.ng, k.cell h.f h.nf, k.cell h.k h.nk, h.nl, h.nc, h.ng, h.nf, h.nk, h.na, h.ack.keepC k, h.pks.keepC k h.na⟩
theorem cell_lt {W : World} {k o : Nat} {v : Value} (h : W.cell? ⟨k, o, none⟩ = some v) : k < W.heap.size := by
  obtain ⟨x, hx, _⟩ := cell_obj h
  exact (Array.getElem?_eq_some_iff.1 hx).1
end Go.Proofs.Ytkmfhcjdajbbhaa
