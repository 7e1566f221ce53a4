/-
 6 texts in one (SpDuo, RowLaws, SpPlaysA, SpPlaysB, Nest, SpPlaysC).
-/
import Derived.Test.YtgicljeedegncaaGreatSrSame
import Derived.Test.YtgicljeedegncaaGreatTqSpanRow
import Derived.Test.YtgicljeedegncaaGreatBase
import Derived.Test.YtgicljeedegncaaGreatTqSentEach
import Derived.Laws.EntriesVeiled
import Derived.Laws.Tables
import Derived.Laws.Rows
import Derived.RegionTactic
import Derived.BigRegion
import Derived.Test.YtgicljeedegncaaGreatSpWorks
import Derived.Test.YtgicljeedegncaaGreatTqSentRef2
import Derived.SizedLaws
namespace Go.Proofs.YtgicljeedegncaaGreat
set_option linter.unusedSimpArgs false
set_option linter.unusedVariables false
open Go.RowKit

theorem IsSet.kinds {w : World} {b room : Nat} {g : Option Nat} {rs : List Rg} (h : IsSet w b g room rs) : (∃ cs, Blk w b 121 cs) ∧ ∀ k, g = some k → ∃ cs, Blk w k 93 cs := by
 obtain ⟨_, _, _, _, v, hv, hB, ho⟩ := h
 refine ⟨⟨_, hB⟩, fun k e => ?_⟩
 rcases ho.2 with ⟨h0, h1⟩ | ⟨k', cap, cur, hv', hg, hh, _⟩
 ·rw [h0] at hv; rw [← hv] at e; cases e
 ·rw [hv'] at hv
  rw [← hv] at e
  cases e
  exact ⟨_, hh⟩
theorem log_blks {w : World} {b rb room : Nat} {last : Int} {ps : List Pk} (h : IsLog w b rb room last ps) : (∃ c, Blk w b 119 c) ∧ ∃ c, Blk w rb 137 c := by
 obtain ⟨m, fr, ring, q, hC, hR, hG, hp⟩ := h
 exact ⟨⟨_, hC.blk⟩, _, hC.rng⟩
theorem IsSp.kinds {w : World} {f : Ft} {s : SpSt} (h : IsSp w f s) : ∀ x ∈ f.all, ∃ t cs, Blk w x t cs ∧ t ≠ 40 ∧ t ≠ 115 := by
 intro x hx
 obtain ⟨⟨c1, hl1⟩, c2, hl2⟩ := log_blks h.log
 obtain ⟨⟨c3, hk1⟩, hk2⟩ := h.kn.kinds
 obtain ⟨⟨c4, hm1⟩, hm2⟩ := h.rem.kinds
 simp only [Ft.all, List.mem_cons, List.mem_append, Option.mem_toList, Option.mem_def] at hx
 rcases hx with rfl | rfl | rfl | rfl | rfl | hx | hx
 ·exact ⟨_, _, h.blk, by decide, by decide⟩
 ·exact ⟨_, _, hl1, by decide, by decide⟩
 ·exact ⟨_, _, hl2, by decide, by decide⟩
 ·exact ⟨_, _, hk1, by decide, by decide⟩
 ·exact ⟨_, _, hm1, by decide, by decide⟩
 ·obtain ⟨c5, h5⟩ := hk2 x hx
  exact ⟨_, _, h5, by decide, by decide⟩
 ·obtain ⟨c5, h5⟩ := hm2 x hx
  exact ⟨_, _, h5, by decide, by decide⟩
/-- Both say the same; no block is shared. -/
structure Duo (w : World) (f : Ft) (d : Dt) (s : SpSt) : Prop where
 sp : IsSp w f s
 rs : IsRs w d s
 ap : ∀ x ∈ f.all, ¬ (x ∈ d.own ∨ RowB d x)
/-- The program's call has been, the document's not yet. -/
structure Duo2 (w : World) (f : Ft) (d : Dt) (s s0 : SpSt) : Prop where
 sp : IsSp w f s
 rs : IsRs w d s0
 ap : ∀ x ∈ f.all, ¬ (x ∈ d.own ∨ RowB d x)
section
variable {w w' : World} {f f' : Ft} {d d' : Dt} {s s' : SpSt}
theorem Duo.below (h : Duo w f d s) (hb : Below w.heap.size w w') : Duo w' f d s := ⟨h.sp.below hb, h.rs.below hb, h.ap⟩
theorem Duo2.below (h : Duo2 w f d s s') (hb : Below w.heap.size w w') : Duo2 w' f d s s' := ⟨h.sp.below hb, h.rs.below hb, h.ap⟩
theorem Duo.first (h : Duo w f d s) (hp : SpPost w f s' f' w') : Duo2 w' f' d s' s := by
 refine ⟨hp.sp, h.rs.only hp.only (fun x hx hm => h.ap x hm hx) h.sp.kinds, fun x hx hm => ?_⟩
 rcases hp.new x hx with h1 | h1
 ·exact h.ap x h1 hm
 ·have h2 := h.rs.lt x hm
  omega
theorem Duo2.second (h : Duo2 w f d s' s) (hp : RsPost w d s' d' w') : Duo w' f d' s' := by
 refine ⟨h.sp.only hp.only (fun x hx hm => h.ap x hx (.inl hm)), hp.rs, fun x hx hm => ?_⟩
 have h2 := h.sp.lt x hx
 rcases hm with hm | hm
 ·rcases hp.new x hm with h1 | h1
  ·exact h.ap x hx (.inl h1)
  ·omega
 ·rcases hp.row x hm with h1 | h1
  ·exact h.ap x hx (.inr h1)
  ·omega
end
/-- What May answers is told of every packet. -/
theorem mayC_all (s : SpSt) (p : Pk) (h : s.ps.length ≤ s.room) : ∃ c, MayC s p c := by
 by_cases h1 : p.may
 ·by_cases h2 : p.num ≤ s.last
  ·exact ⟨60, .inl ⟨.inr (.inl ⟨h1, h2, rfl⟩), by omega⟩⟩
  ·by_cases h3 : s.ps.length = s.room
   ·exact ⟨5, .inl ⟨.inr (.inr (.inl ⟨h1, by omega, h3, rfl⟩)), by omega⟩⟩
   ·have h4 : PutC s.room s.last s.ps p 0 := .inr (.inr (.inr ⟨h1, by omega, by omega, rfl⟩))
    by_cases h5 : (addR p.num p.num s.K).length ≤ 256
    ·exact ⟨0, .inr ⟨h4, .inr ⟨h5, rfl⟩⟩⟩
    ·exact ⟨5, .inr ⟨h4, .inl ⟨by omega, rfl⟩⟩⟩
 ·exact ⟨2, .inl ⟨.inl ⟨h1, rfl⟩, by omega⟩⟩
/-- The greatest number stands within its ends. -/
def GrOk (s : SpSt) : Prop := -1 ≤ s.great ∧ s.great ≤ 9007199254740991
theorem grOk_ack {s : SpSt} {ak : AK} (h : GrOk s) : GrOk (ackS s ak) := by
 by_cases he : ackE s ak = 0
 ·cases hr : ak.rs[0]? with
  | none => unfold ackS; rw [hr]; split <;> exact h
  | some r0 =>
   rw [ackS_ok he hr]
   have hck : okAk ak = true := by
    cases e : okAk ak with
    | true => rfl
    | false => unfold ackE at he; rw [e] at he; cases he
   have hok := ackOk_of hck
   unfold GrOk at h ⊢
   dsimp only
   have h1 := hok.ok r0 (List.mem_of_getElem? hr)
   split <;> omega
 ·rw [ackS_no he]; exact h
theorem grOk_lose {s : SpSt} {now : Int} {r : RT} (h : GrOk s) : GrOk (loseS s now r) := by
 unfold loseS
 split
 ·exact h
 ·exact h
end Go.Proofs.YtgicljeedegncaaGreat

namespace Go.Proofs.YtgicljeedegncaaGreat
set_option linter.unusedSimpArgs false
set_option linter.unusedVariables false
open Go.RowKit
section
variable {P : Program} {w : World}
theorem run_loadVar_at (a : Addr) (ty : TypeId) (cs : Array Value) (d : TypeDesc) (hc : ∀ j v, cs[j]? = some v → w.cell? (a.add j) = some v)
  (hu : P.underlying ty = some d) (hd : (match d with | .struct _ | .array _ _ => true | _ => false) = true) (hi : (P.info? ty).map (·.size) = some cs.size) :
  (loadVar ty a).run P w = .ok (.agg cs) w := by
 have hl : (loadCells a cs.toList.length).run P w = .ok cs.toList.toArray w :=
  run_loadCells_list (P := P) w a cs.toList (fun j v hv => hc j v (by simpa using hv))
 cases hq : P.info? ty with
 | none => simp [hq] at hi
 | some i =>
  have hs : i.size = cs.size := by simpa [hq] using hi
  have hagg : (isAgg ty).run P w = .ok true w := by
   unfold isAgg
   rw [Sem.run_bind, run_underlying hu w]
   cases d <;> simp_all
  simp only [Array.length_toList, Array.toArray_toList] at hl
  simp [loadVar, Sem.run_bind, hagg, sizeOf, typeInfo, hq, hs, hl]
theorem wp_load_at {o : Oper} {a : Act} {K : Act → World → Prop} {Q : Exit → Act → World → Prop} (ty : TypeId) (x : Operand) (ho : o.op = .load ty x)
  (p : Addr) (hx : a.eval x = .pointer (some p)) (cs : Array Value) (d : TypeDesc) (hc : ∀ j v, cs[j]? = some v → w.cell? (p.add j) = some v)
  (hu : P.underlying ty = some d) (hd : (match d with | .struct _ | .array _ _ => true | _ => false) = true) (hi : (P.info? ty).map (·.size) = some cs.size)
  (h : K (a.put o.dst (.agg cs)) w) : o.wp P a w K Q := by
 unfold Oper.wp execOp
 simp only [ho, hx, Instr.loadAt, Instr.sureAddr, Sem.run_bind, Sem.run_pure, Result.andThen_ok, run_loadVar_at p ty cs d hc hu hd hi]
 exact h
theorem wpList_load_at {ops : Array Oper} {rest : List Oper} {o : Oper} {a : Act} {Q : Exit → Act → World → Prop} (hgd : o.guard = none) (ty : TypeId) (x : Operand) (ho : o.op = .load ty x)
  (p : Addr) (hx : a.eval x = .pointer (some p)) (cs : Array Value) (d : TypeDesc) (hc : ∀ j v, cs[j]? = some v → w.cell? (p.add j) = some v)
  (hu : P.underlying ty = some d) (hd : (match d with | .struct _ | .array _ _ => true | _ => false) = true) (hi : (P.info? ty).map (·.size) = some cs.size)
  (h : wpList P ops Q rest (a.put o.dst (.agg cs)) w) : wpList P ops Q (o :: rest) a w :=
 wpList_plain hgd fun _ hK => wp_load_at ty x ho p hx cs d hc hu hd hi (hK _ _ h)
theorem wpList_load_rowW {ops : Array Oper} {rest : List Oper} {o : Oper} {a : Act} {Q : Exit → Act → World → Prop} (hwt : Region.wanted o (yielded ops a.tmps) = true) (ty : TypeId) (x : Operand) (ho : o.op = .load ty x)
  (g : Nat) (hx : a.eval x = .pointer (some ⟨g, 0, none⟩)) (t : TypeId) (cs : Array Value) (fr : Nat × Nat) (d : TypeDesc) (hg : w.heap[g]? = some (.cells cs t fr))
  (hu : P.underlying ty = some d) (hd : (match d with | .struct _ | .array _ _ => true | _ => false) = true) (hi : (P.info? ty).map (·.size) = some cs.size)
  (h : wpList P ops Q rest (a.put o.dst (.agg cs)) w) : wpList P ops Q (o :: rest) a w :=
 wpList_step fun K hK => by
  rw [if_pos hwt]
  exact wp_load_row ty x ho g hx t cs fr d hg hu hd hi (hK _ _ h)
end
theorem row_new (w : World) (t : TypeId) (zs cs : Array Value) : Below w.heap.size w ((w.alloc (.cells zs t)).setRow w.heap.size cs) := by
 have ha : Below w.heap.size w (w.alloc (.cells zs t)) := (Below.refl _ _).alloc (Nat.le_refl _) _
 have ho : Only [w.heap.size] (w.alloc (.cells zs t)) ((w.alloc (.cells zs t)).setRow w.heap.size cs) := only_setRow
 exact ha.trans (ho.below (B := w.heap.size) (by intro x hx; rw [List.mem_singleton] at hx; omega) (by simp))
end Go.Proofs.YtgicljeedegncaaGreat

namespace Go.Proofs.YtgicljeedegncaaGreat
set_option linter.unusedSimpArgs false
set_option linter.unusedVariables false
open Go.RowKit

/-- A call. -/
structure DO where
 kd : Int
 nw : Int
 p : Pk
 ak : AK
 a : Option Addr
 c : Nat
 r : RT
def DO.cells (x : DO) : Array Value := doC x.kd x.nw x.p x.ak x.a x.ak.rs.length x.c x.r
theorem DO.size (x : DO) : x.cells.size = 19 := rfl
structure DO.Ok (w : World) (x : DO) : Prop where
 k0 : -9223372036854775808 ≤ x.kd
 k1 : x.kd ≤ 9223372036854775807
 n0 : -9223372036854775808 ≤ x.nw
 n1 : x.nw ≤ 9223372036854775807
 s0 : -9223372036854775808 ≤ x.r.smooth
 s1 : x.r.smooth ≤ 9223372036854775807
 len : x.ak.rs.length * 16 ≤ 140737488351232
 reads : Reads w w.heap.size 2 x.a x.ak.rs.length (rgsCells x.ak.rs)
/-- The row of the calls. -/
def DosAt (w : World) (a : Option Addr) (xs : List DO) : Prop := ∀ (i : Nat) (x : DO), xs[i]? = some x → x.Ok w ∧ ∃ k o, a = some ⟨k, o, none⟩ ∧ k < w.heap.size ∧ ∀ (j : Nat) (v : Value), x.cells[j]? = some v → w.cell? ⟨k, o + (i * 19 + j), none⟩ = some v
theorem reads_below {w w' : World} {B B' size n : Nat} {a : Option Addr} {cs : List Value} (h : Reads w B size a n cs) (hB : B ≤ w.heap.size) (hb : Below w.heap.size w w') (h2 : B ≤ B') : Reads w' B' size a n cs := by
 refine ⟨h.1, fun hn => ?_⟩
 obtain ⟨ad, e, hlt, hc⟩ := h.2 hn
 exact ⟨ad, e, Nat.lt_of_lt_of_le hlt h2, fun j v hv => by
  have h3 := hc j v hv
  have h4 : (ad.add j).block = ad.block := by unfold Addr.add; split <;> rfl
  exact (hb.cell (p := ad.add j) (by rw [h4]; omega)).trans h3⟩
theorem DosAt.below {w w' : World} {a : Option Addr} {xs : List DO} (h : DosAt w a xs) (hb : Below w.heap.size w w') : DosAt w' a xs := fun i x hi => by
 obtain ⟨⟨k0, k1, n0, n1, s0, s1, hl, hr⟩, k, o, e, hk, hc⟩ := h i x hi
 exact ⟨⟨k0, k1, n0, n1, s0, s1, hl, reads_below hr (Nat.le_refl _) hb hb.size⟩, k, o, e, Nat.lt_of_lt_of_le hk hb.size, fun j v hj => (hb.cell (p := ⟨k, _, none⟩) hk).trans (hc j v hj)⟩
/-- Both spaces stand above what came in. -/
structure DuoL (n : Nat) (w : World) (f : Ft) (d : Dt) (s : SpSt) : Prop where
 duo : Duo w f d s
 lf : ∀ x ∈ f.all, n ≤ x
 ld : ∀ x, x ∈ d.own ∨ RowB d x → n ≤ x
 gr : GrOk s
structure DuoL2 (n : Nat) (w : World) (f : Ft) (d : Dt) (s s0 : SpSt) : Prop where
 duo : Duo2 w f d s s0
 lf : ∀ x ∈ f.all, n ≤ x
 ld : ∀ x, x ∈ d.own ∨ RowB d x → n ≤ x
 gr : GrOk s
section
variable {n : Nat} {w w' : World} {f f' : Ft} {d d' : Dt} {s s' : SpSt}
theorem DuoL.below (h : DuoL n w f d s) (hb : Below w.heap.size w w') : DuoL n w' f d s := ⟨h.duo.below hb, h.lf, h.ld, h.gr⟩
theorem DuoL2.below (h : DuoL2 n w f d s s') (hb : Below w.heap.size w w') : DuoL2 n w' f d s s' := ⟨h.duo.below hb, h.lf, h.ld, h.gr⟩
theorem DuoL.first (h : DuoL n w f d s) (hn : n ≤ w.heap.size) (hp : SpPost w f s' f' w') (hg : GrOk s') : DuoL2 n w' f' d s' s ∧ Below n w w' :=
 ⟨⟨h.duo.first hp, fun x hx => by
  rcases hp.new x hx with h1 | h1
  ·exact h.lf x h1
  ·omega, h.ld, hg⟩, hp.only.below (fun x hx => h.lf x hx) hn⟩
theorem DuoL2.second (h : DuoL2 n w f d s' s) (hn : n ≤ w.heap.size) (hp : RsPost w d s' d' w') : DuoL n w' f d' s' ∧ Below n w w' :=
 ⟨⟨h.duo.second hp, h.lf, fun x hx => by
  rcases hx with hx | hx
  ·rcases hp.new x hx with h1 | h1
   ·exact h.ld x (.inl h1)
   ·omega
  ·rcases hp.row x hx with h1 | h1
   ·exact h.ld x (.inr h1)
   ·omega, h.gr⟩, hp.only.below (fun x hx => h.ld x (.inl hx)) hn⟩
end
end Go.Proofs.YtgicljeedegncaaGreat

namespace Go.Proofs.YtgicljeedegncaaGreat
set_option linter.unusedSimpArgs false
set_option linter.unusedVariables false
open Go.RowKit

/-- The round's record lies apart from both spaces. -/
structure RdAt (W : World) (f : Ft) (d : Dt) (X : Nat) (C : Array Value) (a : Option Addr) (rs : List Rg) : Prop where
 box : Blk W X 67 C
 row : RgAt W a rs
 nf : X ∉ f.all
 nd : X ∉ d.own
 af : ∀ k, a = some ⟨k, 0, none⟩ → k ∉ f.all
 ad : ∀ k, a = some ⟨k, 0, none⟩ → k ∉ d.own
 al : ∀ k, a = some ⟨k, 0, none⟩ → k < W.heap.size
section
variable {W W' : World} {f f' : Ft} {d d' : Dt} {s s' : SpSt} {X : Nat} {C : Array Value} {a : Option Addr} {rs : List Rg}
theorem RdAt.below (h : RdAt W f d X C a rs) (hb : Below W.heap.size W W') : RdAt W' f d X C a rs :=
 ⟨(hb.block _ h.box.lt).trans h.box, h.row.below hb, h.nf, h.nd, h.af, h.ad, fun k e => Nat.lt_of_lt_of_le (h.al k e) hb.size⟩
theorem RdAt.first (h : RdAt W f d X C a rs) (hp : SpPost W f s' f' W') : RdAt W' f' d X C a rs :=
 ⟨hp.only.blk h.box h.nf, h.row.only hp.only h.af, fun hm => by
  rcases hp.new _ hm with h1 | h1
  ·exact h.nf h1
  ·have := h.box.lt; omega, h.nd, fun k e hm => by
  rcases hp.new _ hm with h1 | h1
  ·exact h.af k e h1
  ·have := h.al k e; omega, h.ad, fun k e => Nat.lt_of_lt_of_le (h.al k e) hp.only.size⟩
theorem RdAt.second (h : RdAt W f d X C a rs) (hp : RsPost W d s' d' W') : RdAt W' f d' X C a rs :=
 ⟨hp.only.blk h.box h.nd, h.row.only hp.only h.ad, h.nf, fun hm => by
  rcases hp.new _ hm with h1 | h1
  ·exact h.nd h1
  ·have := h.box.lt; omega, h.af, fun k e hm => by
  rcases hp.new _ hm with h1 | h1
  ·exact h.ad k e h1
  ·have := h.al k e; omega, fun k e => Nat.lt_of_lt_of_le (h.al k e) hp.only.size⟩
end
/-- What a call has told. -/
structure TdAt (W : World) (a : Option Addr) (qs : List PK) : Prop where
 row : PksAt W a qs
 lt : ∀ k o, a = some ⟨k, o, none⟩ → k < W.heap.size
theorem TdAt.below {W W' : World} {a : Option Addr} {qs : List PK} (h : TdAt W a qs) (hb : Below W.heap.size W W') : TdAt W' a qs :=
 ⟨h.row.below hb (Nat.le_refl _), fun k o e => Nat.lt_of_lt_of_le (h.lt k o e) hb.size⟩
theorem tdAt_nil (W : World) : TdAt W none [] := ⟨⟨by simp, by simp⟩, by simp⟩
/-- Between the program's call and the document's. -/
structure MidR (N : Nat) (W : World) (f : Ft) (d : Dt) (s s0 : SpSt) (X : Nat) (C : Array Value) (a : Option Addr) (rs : List Rg) (a1 : Option Addr) (qs : List PK) : Prop where
 duo : DuoL2 N W f d s s0
 rd : RdAt W f d X C a rs
 one : TdAt W a1 qs
 ad : ∀ k o, a1 = some ⟨k, o, none⟩ → k ∉ d.own
/-- What stands at a round's end. -/
structure EndR (N : Nat) (W : World) (f : Ft) (d : Dt) (s : SpSt) (X : Nat) (C : Array Value) (a1 a2 : Option Addr) (qs : List PK) : Prop where
 duo : DuoL N W f d s
 box : Blk W X 67 C
 one : TdAt W a1 qs
 two : TdAt W a2 qs
theorem EndR.below {N : Nat} {W W' : World} {f : Ft} {d : Dt} {s : SpSt} {X : Nat} {C : Array Value} {a1 a2 : Option Addr} {qs : List PK} (h : EndR N W f d s X C a1 a2 qs) (hb : Below W.heap.size W W') : EndR N W' f d s X C a1 a2 qs :=
 ⟨h.duo.below hb, (hb.block _ h.box.lt).trans h.box, h.one.below hb, h.two.below hb⟩
theorem MidR.below {N : Nat} {W W' : World} {f : Ft} {d : Dt} {s s0 : SpSt} {X : Nat} {C : Array Value} {a : Option Addr} {rs : List Rg} {a1 : Option Addr} {qs : List PK} (h : MidR N W f d s s0 X C a rs a1 qs) (hb : Below W.heap.size W W') : MidR N W' f d s s0 X C a rs a1 qs :=
 ⟨h.duo.below hb, h.rd.below hb, h.one.below hb, h.ad⟩
def sentC (s : SpSt) (p : Pk) (c : Int) : SpSt := if c = 0 then sentSt s p else s
theorem DuoL.two {n : Nat} {w : World} {f : Ft} {d : Dt} {s : SpSt} (h : DuoL n w f d s) : DuoL2 n w f d s s := ⟨⟨h.duo.sp, h.duo.rs, h.duo.ap⟩, h.lf, h.ld, h.gr⟩
theorem DuoL2.one {n : Nat} {w : World} {f : Ft} {d : Dt} {s : SpSt} (h : DuoL2 n w f d s s) : DuoL n w f d s := ⟨⟨h.duo.sp, h.duo.rs, h.duo.ap⟩, h.lf, h.ld, h.gr⟩
section
variable {n : Nat} {w : World} {f : Ft} {d : Dt} {s s' : SpSt} {X : Nat} {C : Array Value} {a : Option Addr} {rs : List Rg} {p : Pk} {c : Int}
theorem spsent_mid (h : DuoL n w f d s) (hr : RdAt w f d X C a rs) (hn : n ≤ w.heap.size) (hm : MayC s p c) :
  Calls Tryz.prog 25 #[.pointer (some ⟨f.b, 0, none⟩), pkA p] w fun e w' => e = .returned (.int .i64 c) ∧ ∃ f', f'.b = f.b ∧ MidR n w' f' d (sentC s p c) s X C a rs none [] ∧ Below n w w' := by
 by_cases hc : c = 0
 ·subst hc
  have hm2 := hm
  rcases hm with ⟨_, h1⟩ | ⟨h1, h2⟩
  ·exact (h1 rfl).elim
  ·obtain ⟨g1, g2, g3⟩ := h1.zero
   have hK : (addR p.num p.num s.K).length ≤ 256 := by
    rcases h2 with ⟨_, h3⟩ | ⟨h3, _⟩
    ·cases h3
    ·exact h3
   refine (spsent_ok f s p w h.duo.sp g1 g2 g3 hK).mono ?_
   rintro e w' ⟨he, f', hp⟩
   obtain ⟨k1, k2⟩ := h.first hn hp (show GrOk (sentSt s p) from h.gr)
   exact ⟨he, f', hp.b, ⟨by unfold sentC; rw [if_pos rfl]; exact k1, hr.first hp, tdAt_nil _, by simp⟩, k2⟩
 ·refine (spsent_no f s p c w h.duo.sp hm hc).mono ?_
  rintro e w' ⟨he, hb⟩
  exact ⟨he, f, rfl, ⟨by unfold sentC; rw [if_neg hc]; exact h.two.below hb, hr.below hb, tdAt_nil _, by simp⟩, hb.mono hn⟩
theorem r17sent_end (h : MidR n w f d (sentC s p c) s X C a rs none []) (hn : n ≤ w.heap.size) (hm : MayC s p c) :
  Calls Tryz.prog 33 #[.pointer (some ⟨d.m, 0, none⟩), pkA p] w fun e w' => e = .returned (.int .i64 c) ∧ ∃ d', d'.m = d.m ∧ EndR n w' f d' (sentC s p c) X C none none [] ∧ Below n w w' := by
 refine (r17sent_any d s p c w h.duo.duo.rs hm).mono ?_
 rintro e w' ⟨he, ⟨hc, hb⟩ | ⟨hc, d', hp⟩⟩
 ·have h2 := h.below hb
  have e2 : sentC s p c = s := by unfold sentC; rw [if_neg hc]
  rw [e2] at h2 ⊢
  exact ⟨he, d, rfl, ⟨h2.duo.one, h2.rd.box, h2.one, h2.one⟩, hb.mono hn⟩
 ·have e2 : sentC s p c = sentSt s p := by unfold sentC; rw [if_pos hc]
  rw [e2] at h ⊢
  obtain ⟨k1, k2⟩ := h.duo.second hn hp
  exact ⟨he, d', hp.m, ⟨k1, (h.rd.second hp).box, tdAt_nil _, tdAt_nil _⟩, k2⟩
theorem told_mid {z : Int} {qs : List PK} {e : Ending} {w' : World} (h : DuoL n w f d s) (hr : RdAt w f d X C a rs) (hn : n ≤ w.heap.size) (hg : GrOk s') (ht : ToldqPost w f s' qs z e w') :
  ∃ a1 c1 f', e = .returned (.tuple #[.slice a1 qs.length c1, .int .i64 z]) ∧ f'.b = f.b ∧ MidR n w' f' d s' s X C a rs a1 qs ∧ Below n w w' := by
 obtain ⟨a1, c1, f', he, h1, h2, h3, hp⟩ := ht
 obtain ⟨k1, k2⟩ := h.first hn hp hg
 exact ⟨a1, c1, f', he, hp.b, ⟨k1, hr.first hp, ⟨h1, fun k o e => (h3 k o e).2.1⟩, fun k o e hm => by
  have := h.duo.rs.lt k (.inl hm)
  have := (h3 k o e).1
  omega⟩, k2⟩
theorem told_end {z : Int} {qs : List PK} {a1 : Option Addr} {e : Ending} {w' : World} (h : MidR n w f d s' s X C a rs a1 qs) (hn : n ≤ w.heap.size) (ht : ToldrPost w d s' qs z e w') :
  ∃ b1 e1 d', e = .returned (.tuple #[.slice b1 qs.length e1, .int .i64 z]) ∧ d'.m = d.m ∧ EndR n w' f d' s' X C a1 b1 qs ∧ Below n w w' := by
 obtain ⟨b1, e1, d', he, h1, h2, h3, hp⟩ := ht
 obtain ⟨k1, k2⟩ := h.duo.second hn hp
 exact ⟨b1, e1, d', he, hp.m, ⟨k1, (h.rd.second hp).box, ⟨h.one.row.only hp.only h.ad, fun k o e => Nat.lt_of_lt_of_le (h.one.lt k o e) hp.only.size⟩, ⟨h1, fun k o e => (h3 k o e).2⟩⟩, k2⟩
theorem spack_mid {ak : AK} (ra : Option Addr) (rc : Nat) (h : DuoL n w f d s) (hr : RdAt w f d X C ra ak.rs) (hn : n ≤ w.heap.size) :
  Calls Tryz.prog 21 #[.pointer (some ⟨f.b, 0, none⟩), .agg (akC ak ra ak.rs.length rc)] w fun e w' =>
   ∃ a1 c1 f', e = .returned (.tuple #[.slice a1 (ackL s ak).length c1, .int .i64 (ackE s ak)]) ∧ f'.b = f.b ∧ MidR n w' f' d (ackS s ak) s X C ra ak.rs a1 (ackL s ak) ∧ Below n w w' :=
 (spackq_any f s ra rc ak w h.duo.sp hr.row hr.af).mono fun e w' ht => told_mid h hr hn (grOk_ack h.gr) ht
theorem r17ack_end {ak : AK} {a1 : Option Addr} (ra : Option Addr) (rc : Nat) (h : MidR n w f d (ackS s ak) s X C ra ak.rs a1 (ackL s ak)) (hn : n ≤ w.heap.size) (hl : ak.rs.length ≤ 1000) (hmay : ∀ p ∈ s.ps, p.may) (hln : s.ps.length ≤ 256) :
  Calls Tryz.prog 34 #[.pointer (some ⟨d.m, 0, none⟩), .agg (akC ak ra ak.rs.length rc)] w fun e w' =>
   ∃ b1 e1 d', e = .returned (.tuple #[.slice b1 (ackL s ak).length e1, .int .i64 (ackE s ak)]) ∧ d'.m = d.m ∧ EndR n w' f d' (ackS s ak) X C a1 b1 (ackL s ak) ∧ Below n w w' :=
 (r17ack_any d s ak ra rc w h.duo.duo.rs hl h.rd.row h.rd.ad hmay hln).mono fun e w' ht => told_end h hn ht
theorem splose_mid {now : Int} {r : RT} (h : DuoL n w f d s) (hr : RdAt w f d X C a rs) (hn : n ≤ w.heap.size) (hsm : -9223372036854775808 ≤ r.smooth ∧ r.smooth ≤ 9223372036854775807) :
  Calls Tryz.prog 17 #[.pointer (some ⟨f.b, 0, none⟩), .int .i64 now, rtV r] w fun e w' =>
   ∃ a1 c1 f', e = .returned (.tuple #[.slice a1 (loseL s now r).length c1, .int .i64 (loseE now r)]) ∧ f'.b = f.b ∧ MidR n w' f' d (loseS s now r) s X C a rs a1 (loseL s now r) ∧ Below n w w' :=
 (sploseq_any f s now r w h.duo.sp h.gr.1 h.gr.2 hsm).mono fun e w' ht => told_mid h hr hn (grOk_lose h.gr) ht
theorem r17lose_end {now : Int} {r : RT} {a1 : Option Addr} (h : MidR n w f d (loseS s now r) s X C a rs a1 (loseL s now r)) (hn : n ≤ w.heap.size) (hg : GrOk s) (hsm : -9223372036854775808 ≤ r.smooth ∧ r.smooth ≤ 9223372036854775807) (hmay : ∀ p ∈ s.ps, p.may) (hln : s.ps.length ≤ 256) (hck : checkL (s.ps.map toPK) = 0) :
  Calls Tryz.prog 35 #[.pointer (some ⟨d.m, 0, none⟩), .int .i64 now, rtV r] w fun e w' =>
   ∃ b1 e1 d', e = .returned (.tuple #[.slice b1 (loseL s now r).length e1, .int .i64 (loseE now r)]) ∧ d'.m = d.m ∧ EndR n w' f d' (loseS s now r) X C a1 b1 (loseL s now r) ∧ Below n w w' :=
 (r17lose_any d s now r w h.duo.duo.rs hg.1 hg.2 hsm hmay hln hck).mono fun e w' ht => told_end h hn ht
def nowS (s : SpSt) : SpSt := { s with ps := [], loss := -1, time := -1 }
theorem spdiscard_mid (h : DuoL n w f d s) (hr : RdAt w f d X C a rs) (hn : n ≤ w.heap.size) :
  Calls Tryz.prog 29 #[.pointer (some ⟨f.b, 0, none⟩)] w fun e w' => e = .returned (.tuple #[]) ∧ MidR n w' f d (nowS s) s X C a rs none [] ∧ Below n w w' := by
 refine (spdiscard_any f s w h.duo.sp).mono ?_
 rintro e w' ⟨he, hp⟩
 obtain ⟨k1, k2⟩ := h.first hn hp (show GrOk (nowS s) from h.gr)
 exact ⟨he, ⟨k1, hr.first hp, tdAt_nil _, by simp⟩, k2⟩
theorem r17discard_end (h : MidR n w f d (nowS s) s X C a rs none []) (hn : n ≤ w.heap.size) :
  Calls Tryz.prog 38 #[.pointer (some ⟨d.m, 0, none⟩)] w fun e w' => e = .returned (.tuple #[]) ∧ EndR n w' f d (nowS s) X C none none [] ∧ Below n w w' := by
 refine (r17discard_any d s w h.duo.duo.rs).mono ?_
 rintro e w' ⟨he, hp⟩
 obtain ⟨k1, k2⟩ := h.duo.second hn hp
 exact ⟨he, ⟨k1, (h.rd.second hp).box, tdAt_nil _, tdAt_nil _⟩, k2⟩
/-- How many are told. -/
theorem ackL_len (s : SpSt) (ak : AK) (h : s.ps.length ≤ 256) : (ackL s ak).length ≤ 1000 := by
 unfold ackL
 split
 ·have := List.length_filter_le (ackP ak.rs) (s.ps.map toPK)
  rw [List.length_map] at this
  omega
 ·simp
theorem loseL_len (s : SpSt) (now : Int) (r : RT) (h : s.ps.length ≤ 256) : (loseL s now r).length ≤ 1000 := by
 unfold loseL
 split
 ·have := List.length_filter_le (lostG (waitR r) s.great now) (s.ps.map toPK)
  rw [List.length_map] at this
  omega
 ·simp
end
/-- Both spaces anew: what is left behind is discarded. -/
theorem duo_copy {n : Nat} {w w1 w2 w3 : World} {f f1 : Ft} {d d1 : Dt} {s s9 : SpSt} {f9 : Ft} (h : DuoL n w f d s) (hn : n ≤ w.heap.size)
  (hs1 : IsSp w1 f1 s) (hl1 : ∀ x ∈ f1.all, w.heap.size ≤ x) (hb1 : Below w.heap.size w w1)
  (hs2 : IsRs w2 d1 s) (hl2 : ∀ x, x ∈ d1.own ∨ RowB d1 x → w1.heap.size ≤ x) (hb2 : Below w1.heap.size w1 w2)
  (h9 : SpPost w2 f s9 f9 w3) : DuoL n w3 f1 d1 s ∧ Below n w w3 := by
 have hlt := h.duo.sp.lt
 have hk := (h.duo.sp.below (bw_below' hb1 hb2)).kinds
 have hf1 := hs1.lt
 refine ⟨⟨⟨(hs1.below hb2).only h9.only (fun x hx hm => by have := hl1 x hx; have := hlt x hm; omega), hs2.only h9.only (fun x hx hm => by have := hl2 x hx; have := hlt x hm; have := hb1.size; omega) hk, fun x hx hm => by have := hf1 x hx; have := hl2 x hm; omega⟩, fun x hx => Nat.le_trans hn (hl1 x hx), fun x hx => Nat.le_trans hn (Nat.le_trans hb1.size (hl2 x hx)), h.gr⟩, ?_⟩
 have hb := bw_below' hb1 hb2
 exact (hb.mono hn).trans (h9.only.below (fun x hx => h.lf x hx) (Nat.le_trans hn hb.size))
end Go.Proofs.YtgicljeedegncaaGreat

namespace Go.Proofs.YtgicljeedegncaaGreat
set_option linter.unusedSimpArgs false
set_option linter.unusedVariables false
open Go.ChangeShapes Go.WideShapes Go.Deep Go.RowKit

/-- A cell's kind: plain, or a slice of plain records. -/
inductive NK where
 | pl (k : FK)
 | sl (ks : List FK) (b : Nat)
def nestFields (rec : TypeId → Option (List NK)) (P : Program) : List Field → Nat → Option (List NK)
 | [], _ => some []
 | f :: fs, off => match rec f.type with
  | some ks => if f.offset = off ∧ P.cellsOf f.type = ks.length then match nestFields rec P fs (off + ks.length) with
    | some r => some (ks ++ r)
    | none => none
   else none
  | none => none
def nestKinds (P : Program) : Nat → TypeId → Option (List NK)
 | 0, _ => none
 | n + 1, t => match P.underlying t with
  | some (.int k) => some [.pl (some k)]
  | some .bool => some [.pl none]
  | some (.slice e) => match flatKinds P n e with
   | some ks => if P.cellsOf e = ks.length ∧ 0 < ks.length then some [.sl ks (P.bytesOf e)] else none
   | none => none
  | some (.struct fs) => nestFields (nestKinds P n) P fs.toList 0
  | some (.array k e) => match nestKinds P n e with
   | some ks => if P.cellsOf e = ks.length then some (List.replicate k ks).flatten else none
   | none => none
  | _ => none
def NGood (w : World) (k : NK) (v : Option Value) : Prop := match k with
 | .pl k => FGood k v
 | .sl ks b => ∃ a len cap, v = some (.slice a len cap) ∧ RowsK w a len ks ∧ len ≤ cap ∧ (a = none → cap = 0) ∧ len * b ≤ reachBytes
section
variable {H : Type} {enc : TypeId × Value → H} {P : Program} {w : World} {base : Nat} {spare : Nat → Bool} {held : Bool}
/-- A slice of such records that came in. -/
def RowsN (w : World) (a : Option Addr) (len : Nat) (ks : List NK) : Prop :=
 len ≤ 9223372036854775807 ∧ (0 < len → ∃ xb xo, a = some ⟨xb, xo, none⟩ ∧ xb < w.heap.size ∧ ∀ i, i < len → ∀ (j : Nat) (k : NK), ks[j]? = some k → NGood w k (w.cell? ⟨xb, xo + (i * ks.length + j), none⟩))
end
end Go.Proofs.YtgicljeedegncaaGreat

namespace Go.Proofs.YtgicljeedegncaaGreat
set_option linter.unusedSimpArgs false
set_option linter.unusedVariables false
open Go.RowKit

theorem do_add (k o j : Nat) : (⟨k, o, none⟩ : Addr).add j = ⟨k, o + j, none⟩ := by unfold Addr.add; split <;> simp_all
def doK (b : Nat) : List NK := [.pl (some .i64), .pl (some .i64), .pl (some .i64), .pl (some .i64), .pl (some .i64), .pl none, .pl none, .pl none, .pl (some .i64), .sl [some .i64, some .i64] b, .pl none, .pl (some .i64), .pl (some .i64), .pl (some .i64), .pl (some .i64), .pl (some .i64), .pl (some .i64), .pl (some .i64), .pl (some .i64)]
end Go.Proofs.YtgicljeedegncaaGreat
