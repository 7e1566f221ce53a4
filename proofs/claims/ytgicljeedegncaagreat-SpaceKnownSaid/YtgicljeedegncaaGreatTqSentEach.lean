/-
 2 texts in one (Reads, SentEach).
-/
import Derived.Test.YtgicljeedegncaaGreatBase
import Derived.Maps.AppendAt
import Derived.Deep.AppendLies
import Derived.RegionTactic
import Derived.OwnWalk
import Derived.Test.YtgicljeedegncaaGreatTqSentW7
import Derived.Deep.RegionLaw
namespace Go.Proofs.YtgicljeedegncaaGreat
open List renaming getElem?_toArray → ZG
open Go.RowKit

theorem block_of_add (a : Addr) (n : Nat) : (a.add n).block = a.block := by unfold Addr.add; split <;> rfl
def Reads (w : World) (B size : Nat) (A : Option Addr) (n : Nat) (xs : List Value) : Prop :=
 xs.length = n * size ∧ (0 < n → ∃ ad, A = some ad ∧ ad.block < B ∧ ∀ j u, xs[j]? = some u → w.cell? (ad.add j) = some u)

section
variable {w w' : World} {B B' size n : Nat} {A : Option Addr} {xs : List Value}
theorem Reads.none_ : Reads w B size A 0 [] := ⟨by simp, fun h => absurd h (by omega)⟩
theorem Reads.keep (h : Reads w B size A n xs) (hk : ∀ p : Addr, p.block < B → w'.cell? p = w.cell? p) : Reads w' B size A n xs :=
 ⟨h.1, fun hn => by
  obtain ⟨ad, e, hb, hc⟩ := h.2 hn
  exact ⟨ad, e, hb, fun j u hu => (hk _ (by rw [block_of_add]; exact hb)).trans (hc j u hu)⟩⟩
theorem Reads.alloc (h : Reads w B size A n xs) (hB : B ≤ w.heap.size) (o : Obj) : Reads (w.alloc o) B size A n xs := h.keep fun p hp => World.cell?_alloc_lt w o p (by omega)
end

section
variable {P : Program} (w : World)

theorem run_append_of_nil (base : Nat) (t ty e : TypeId) (i : TypeInfo) (size : Nat) (ht : P.underlying t = some (.slice e)) (hi : P.info? e = some i)
  (v : Value) (n : Nat) (xs : List Value) (hown : w.ownsRow base e size v n xs) (c : Nat) : (Builtin.append_ #[t, t] ty #[v, .slice none 0 c]).run P w = .ok v w := by
 rcases hown.2 with ⟨rfl, rfl⟩ | ⟨g, cap, cur, rfl, _, _, hnc, _⟩
 ·simp [Builtin.append_, run_underlying ht, sizeOf, typeInfo, hi, Builtin.lenOf, Builtin.firstCells]
 ·simp [Builtin.append_, run_underlying ht, sizeOf, typeInfo, hi, Builtin.lenOf, Builtin.firstCells, hnc, storeCells]

theorem run_append_any (base : Nat) (t ty e : TypeId) (i : TypeInfo) (z : Value) (size bytes : Nat) (ht : P.underlying t = some (.slice e)) (hi : P.info? e = some i) (hz : i.zero = some z)
  (hsize : i.size = size) (hby : i.bytes = bytes) (hzs : z.cells.size = size) (hsz : 0 < size)
  (v : Value) (n : Nat) (xs : List Value) (hown : w.ownsRow base e size v n xs)
  (B : Nat) (A : Option Addr) (m c : Nat) (news : List Value) (hr : Reads w B size A m news) (h1 : ∀ u ∈ news, u.oneCell' = true)
  (h63 : n + m ≤ maxLen) (hbytes : (n + m) * bytes ≤ 140737488355328) (hbase : base ≤ w.heap.size) :
  ∃ v' w', (Builtin.append_ #[t, t] ty #[v, .slice A m c]).run P w = .ok v' w' ∧ w'.ownsRow base e size v' (n + m) (xs ++ news) ∧ w.grownBy w' v.ownBlock ∧
   (v'.ownBlock = v.ownBlock ∨ v'.ownBlock = some w.heap.size) := by
 rcases A with _ | ad
 ·have hm : m = 0 := by
   rcases Nat.eq_zero_or_pos m with h0 | h0
   ·exact h0
   ·obtain ⟨ad, h, _⟩ := hr.2 h0
    cases h
  subst hm
  have hn : news = [] := List.eq_nil_of_length_eq_zero (by simpa using hr.1)
  subst hn
  exact ⟨v, w, run_append_of_nil w base t ty e i size ht hi v n xs hown c, by simpa using hown, World.grownBy.refl w _, .inl rfl⟩
 ·have hcells : ∀ j u, news[j]? = some u → w.cell? (ad.add j) = some u := by
   intro j u hu
   rcases Nat.eq_zero_or_pos m with h0 | h0
   ·subst h0
    have hn : news = [] := List.eq_nil_of_length_eq_zero (by simpa using hr.1)
    subst hn
    simp at hu
   ·obtain ⟨ad', h, _, hc⟩ := hr.2 h0
    injection h with h
    subst h
    exact hc j u hu
  obtain ⟨v', w', hrun, h2, h3, _, h5⟩ := run_append_own_at (P := P) w base t ty e i z size bytes ht hi hz hsize hby hzs hsz v n xs hown ad m c news hr.1 hcells h1 h63 hbytes hbase
  exact ⟨v', w', hrun, h2, h3, h5⟩

theorem wp_append_any {o : Oper} {a : Act} {K : Act → World → Prop} {Q : Exit → Act → World → Prop} (s x : Operand) (t : TypeId)
  (ho : o.op = .call { callee := .builtin .append, args := #[s, x], argTypes := #[t, t] })
  (base : Nat) (e : TypeId) (i : TypeInfo) (z : Value) (size bytes : Nat) (ht : P.underlying t = some (.slice e)) (hi : P.info? e = some i) (hz : i.zero = some z)
  (hsize : i.size = size) (hby : i.bytes = bytes) (hzs : z.cells.size = size) (hsz : 0 < size)
  (v : Value) (n : Nat) (xs : List Value) (hs : a.eval s = v) (hown : w.ownsRow base e size v n xs)
  (B : Nat) (A : Option Addr) (m c : Nat) (news : List Value) (hx : a.eval x = .slice A m c) (hr : Reads w B size A m news) (h1 : ∀ u ∈ news, u.oneCell' = true)
  (h63 : n + m ≤ maxLen) (hbytes : (n + m) * bytes ≤ 140737488355328) (hbase : base ≤ w.heap.size)
  (h : ∀ v' w', w'.ownsRow base e size v' (n + m) (xs ++ news) → w.grownBy w' v.ownBlock → (v'.ownBlock = v.ownBlock ∨ v'.ownBlock = some w.heap.size) → K (a.put o.dst v') w') : o.wp P a w K Q := by
 obtain ⟨v', w', hrun, h2, h3, h4⟩ := run_append_any (P := P) w base t o.type e i z size bytes ht hi hz hsize hby hzs hsz v n xs hown B A m c news hr h1 h63 hbytes hbase
 unfold Oper.wp execOp
 simp only [ho, resolve, invoke, builtin, Sem.run_bind, Sem.run_pure, Result.andThen_ok, List.map_toArray, List.map_cons, List.map_nil, hs, hx, hrun]
 exact h v' w' h2 h3 h4

theorem wpList_append_any {ops : Array Oper} {rest : List Oper} {o : Oper} {a : Act} {Q : Exit → Act → World → Prop} (hgd : o.guard = none) (s x : Operand) (t : TypeId)
  (ho : o.op = .call { callee := .builtin .append, args := #[s, x], argTypes := #[t, t] })
  (base : Nat) (e : TypeId) (i : TypeInfo) (z : Value) (size bytes : Nat) (ht : P.underlying t = some (.slice e)) (hi : P.info? e = some i) (hz : i.zero = some z)
  (hsize : i.size = size) (hby : i.bytes = bytes) (hzs : z.cells.size = size) (hsz : 0 < size)
  (v : Value) (n : Nat) (xs : List Value) (hs : a.eval s = v) (hown : w.ownsRow base e size v n xs)
  (B : Nat) (A : Option Addr) (m c : Nat) (news : List Value) (hx : a.eval x = .slice A m c) (hr : Reads w B size A m news) (h1 : ∀ u ∈ news, u.oneCell' = true)
  (h63 : n + m ≤ maxLen) (hbytes : (n + m) * bytes ≤ 140737488355328) (hbase : base ≤ w.heap.size)
  (h : ∀ v' w', w'.ownsRow base e size v' (n + m) (xs ++ news) → w.grownBy w' v.ownBlock → (v'.ownBlock = v.ownBlock ∨ v'.ownBlock = some w.heap.size) → wpList P ops Q rest (a.put o.dst v') w') : wpList P ops Q (o :: rest) a w :=
 wpList_plain hgd fun _ hK => wp_append_any w s x t ho base e i z size bytes ht hi hz hsize hby hzs hsz v n xs hs hown B A m c news hx hr h1 h63 hbytes hbase fun v' w' h2 h3 h4 => hK _ _ (h v' w' h2 h3 h4)

theorem step_append_any {ops : Array Oper} {o : Oper} {a : Act} {K : Act → World → Prop} {Q : Exit → Act → World → Prop} {E : Prop} (hgd : o.guard = none) (s x : Operand) (t : TypeId)
  (ho : o.op = .call { callee := .builtin .append, args := #[s, x], argTypes := #[t, t] })
  (base : Nat) (e : TypeId) (i : TypeInfo) (z : Value) (size bytes : Nat) (ht : P.underlying t = some (.slice e)) (hi : P.info? e = some i) (hz : i.zero = some z)
  (hsize : i.size = size) (hby : i.bytes = bytes) (hzs : z.cells.size = size) (hsz : 0 < size)
  (v : Value) (n : Nat) (xs : List Value) (hs : a.eval s = v) (hown : w.ownsRow base e size v n xs)
  (B : Nat) (A : Option Addr) (m c : Nat) (news : List Value) (hx : a.eval x = .slice A m c) (hr : Reads w B size A m news) (h1 : ∀ u ∈ news, u.oneCell' = true)
  (h63 : n + m ≤ maxLen) (hbytes : (n + m) * bytes ≤ 140737488355328) (hbase : base ≤ w.heap.size)
  (h : ∀ v' w', w'.ownsRow base e size v' (n + m) (xs ++ news) → w.grownBy w' v.ownBlock → (v'.ownBlock = v.ownBlock ∨ v'.ownBlock = some w.heap.size) → K (a.put o.dst v') w') :
  if Region.wanted o (yielded ops a.tmps) = true then Oper.wp P o a w K Q else E := by
 have hw : Region.wanted o (yielded ops a.tmps) = true := by simp [Region.wanted, hgd]
 rw [if_pos hw]
 exact wp_append_any w s x t ho base e i z size bytes ht hi hz hsize hby hzs hsz v n xs hs hown B A m c news hx hr h1 h63 hbytes hbase h
end

theorem add_at (g j : Nat) : (⟨g, 0, none⟩ : Addr).add j = ⟨g, j, none⟩ := by
 unfold Addr.add
 split
 ·rename_i h; rw [h]
 ·simp
theorem blk_new_at {W : World} {t : TypeId} {cs : Array Value} {n : Nat} (h : n = W.heap.size) : Blk (W.alloc (.cells cs t)) n t cs := h ▸ Blk.new W t cs
theorem reads_lit {W : World} {g t B size n : Nat} {cs : List Value} (h : Blk W g t cs.toArray) (hg : g < B) (hl : cs.length = n * size) : Reads W B size (some ⟨g, 0, none⟩) n cs :=
 ⟨hl, fun _ => ⟨_, rfl, hg, fun j u hu => by rw [add_at, h.cell, ZG]; exact hu⟩⟩

theorem own_ne {w : World} {base e size n g t : Nat} {v : Value} {xs : List Value} {cs : Array Value} (h : w.ownsRow base e size v n xs) (hb : Blk w g t cs) (hne : e ≠ t) : some g ≠ v.ownBlock := by
 rcases h.2 with ⟨rfl, _⟩ | ⟨g', cap, cur, rfl, _, hh, _⟩
 ·simp [Value.ownBlock]
 ·intro he
  have : g = g' := by simpa [Value.ownBlock] using he
  subst this
  unfold Blk at hb
  rw [hb] at hh
  injection hh with hh
  injection hh with _ h2
  exact hne h2.symm
theorem blk_grown {w w' : World} {g t : Nat} {cs : Array Value} {row : Option Nat} (h : Blk w g t cs) (hg : w.grownBy w' row) (hn : some g ≠ row) : Blk w' g t cs := (hg.block g h.lt hn).trans h
theorem own_form {w : World} {base e size n : Nat} {v : Value} {xs : List Value} (h : w.ownsRow base e size v (n + 1) xs) : ∃ g cap, v = .slice (some ⟨g, 0, none⟩) (n + 1) cap := by
 rcases h.2 with ⟨_, h0⟩ | ⟨g, cap, cur, hv, _⟩
 ·omega
 ·exact ⟨g, cap, hv⟩
theorem own_blk {w : World} {base e size n : Nat} {v : Value} {xs : List Value} (h : w.ownsRow base e size v n xs) (hn : 1 ≤ n) : ∃ g cap rest, v = .slice (some ⟨g, 0, none⟩) n cap ∧ base ≤ g ∧ n ≤ cap ∧ Blk w g e (xs ++ rest).toArray := by
 rcases h.2 with ⟨_, h0⟩ | ⟨g, cap, cur, hv, hg, hh, hc, _, _, ht⟩
 ·omega
 ·refine ⟨g, cap, cur.toList.drop (n * size), hv, hg, hc, ?_⟩
  rw [← ht, List.take_append_drop]
  exact hh
theorem own_far {w : World} {base e size n : Nat} {v : Value} {xs : List Value} (h : w.ownsRow base e size v n xs) {p : Addr} (hp : some p.block ≠ v.ownBlock) (u : Value) : (w.setCell p u).ownsRow base e size v n xs := by
 refine ⟨h.1, ?_⟩
 rcases h.2 with h0 | ⟨g, cap, cur, hv, hg, hh, r⟩
 ·exact .inl h0
 ·refine .inr ⟨g, cap, cur, hv, hg, ?_, r⟩
  rw [Below.heap_setCell _ _ _ _ (fun e => hp (by rw [hv, ← e]; rfl))]
  exact hh
theorem name_world {P : Program} {c : Code} {Q : Exit → Act → World → Prop} {a : Act} {w : World} (R : World → Prop) (hR : R w) (h : ∀ W, R W → c.wp P Q a W) : c.wp P Q a w := h w hR
end Go.Proofs.YtgicljeedegncaaGreat

namespace Go.Proofs.YtgicljeedegncaaGreat
open List renaming getElem?_toArray → ZG
open Go.RowKit

/-- The packets from one number to another one. -/
def between (lo hi : Int) (ps : List Pk) : List Pk := ps.filter fun p => decide (lo ≤ p.num) && decide (p.num ≤ hi)

theorem live_length (q : List Sl) : (liveOf q).length ≤ q.length := by
 unfold liveOf; rw [List.length_map]; exact List.length_filter_le _ _
theorem live_append (a b : List Sl) : liveOf (a ++ b) = liveOf a ++ liveOf b := by simp [liveOf]
theorem between_at {lo hi : Int} {q : List Sl} {k : Nat} (hs : q.Pairwise fun a b => a.1.num < b.1.num) (h1 : firstAt lo q ≤ k) (h2 : ∀ j s, j < k → q[j]? = some s → firstAt lo q ≤ j → s.1.num ≤ hi)
  (h3 : ∀ s, q[k]? = some s → hi < s.1.num) : liveOf ((q.take k).drop (firstAt lo q)) = between lo hi (liveOf q) := by
 have e : q = q.take (firstAt lo q) ++ ((q.take k).drop (firstAt lo q) ++ q.drop k) := by
  rw [← List.append_assoc]
  have : q.take (firstAt lo q) = (q.take k).take (firstAt lo q) := by rw [List.take_take, Nat.min_eq_left h1]
  rw [this, List.take_append_drop, List.take_append_drop]
 conv => rhs; rw [e]
 rw [live_append, live_append]
 unfold between
 rw [List.filter_append, List.filter_append]
 have a1 : (liveOf (q.take (firstAt lo q))).filter (fun p => decide (lo ≤ p.num) && decide (p.num ≤ hi)) = [] := by
  rw [List.filter_eq_nil_iff]
  intro p hp
  obtain ⟨i, hi1, hi2⟩ := List.getElem_of_mem (mem_live hp)
  have hl : i < firstAt lo q := by simp at hi1; omega
  have := firstAt_lt (s := (p, true)) hl (by rw [← hi2, List.getElem_take, List.getElem?_eq_getElem])
  simp only at this
  simp; omega
 have a2 : (liveOf (q.drop k)).filter (fun p => decide (lo ≤ p.num) && decide (p.num ≤ hi)) = [] := by
  rw [List.filter_eq_nil_iff]
  intro p hp
  have hm := mem_live hp
  cases hq : q[k]? with
  | none => rw [List.drop_eq_nil_of_le (by simpa using hq)] at hm; cases hm
  | some s =>
   have hk := h3 s hq
   obtain ⟨hkl, hke⟩ := List.getElem?_eq_some_iff.1 hq
   rw [List.drop_eq_getElem_cons hkl, hke] at hm
   have hsd : (q.drop k).Pairwise fun a b => a.1.num < b.1.num := hs.sublist (List.drop_sublist _ _)
   rw [List.drop_eq_getElem_cons hkl, hke] at hsd
   rcases List.mem_cons.1 hm with rfl | hm
   ·simp only at hk; simp; omega
   ·have := (List.pairwise_cons.1 hsd).1 _ hm
    simp only at this; simp; omega
 have a3 : (liveOf ((q.take k).drop (firstAt lo q))).filter (fun p => decide (lo ≤ p.num) && decide (p.num ≤ hi)) = liveOf ((q.take k).drop (firstAt lo q)) := by
  rw [List.filter_eq_self]
  intro p hp
  obtain ⟨i, hi1, hi2⟩ := List.getElem_of_mem (mem_live hp)
  simp at hi1
  have hq : q[firstAt lo q + i]? = some (p, true) := by
   rw [← hi2, List.getElem_drop, List.getElem_take, List.getElem?_eq_getElem]
  have b1 := firstAt_ge (n := lo) hs (by omega) hq
  have b2 := h2 (firstAt lo q + i) _ (by omega) hq (by omega)
  simp only at b1 b2
  simp; omega
 rw [a1, a2, a3]
 simp
theorem upto_keep {q : List Sl} {i k : Nat} {s : Sl} (h : q[k]? = some s) (hi : i ≤ k) : liveOf ((q.take (k + 1)).drop i) = liveOf ((q.take k).drop i) ++ (if s.2 = true then [s.1] else []) := by
 have hl := (List.getElem?_eq_some_iff.1 h).1
 rw [List.take_add_one, h, List.drop_append_of_le_length (by simp; omega), live_append]
 congr 1
 simp only [Option.toList_some]
 rw [liveOf_cons]
 rfl

theorem pk_info : (Tryz.prog.info? 40).map (fun i => (i.zero, i.size, i.bytes)) = some (some (.agg #[.int .i64 0, .int .i64 0, .int .i64 0, .bool false, .bool false, .bool false]), 6, 32) := by kernel_rfl

/-- A row of packets of the call's own, in its box. -/
def RowAt (w : World) (base ob : Nat) (ps : List Pk) : Prop := ∃ v, Blk w ob 153 #[v] ∧ w.ownsRow base 40 6 v ps.length (ps.flatMap Pk.cells)

theorem pkCells_length (p : Pk) : p.cells.length = 6 := rfl

/-- What the row's 'put' leaves. -/
def RowPost (w : World) (base ob : Nat) (ps : List Pk) (e : Ending) (w' : World) : Prop := e = .returned (.tuple #[]) ∧ RowAt w' base ob ps ∧ Below base w w'

set_option maxHeartbeats 2000000 in
theorem rowput_any (base ob : Nat) (ps : List Pk) (p : Pk) (w : World) (h : RowAt w base ob ps) (hb : base ≤ ob) (hlen : ps.length ≤ 1000) :
  Calls Tryz.prog 137 #[.pointer (some ⟨ob, 0, none⟩), .agg #[.int .i64 p.num, .int .i64 p.time, .int .i64 p.size, .bool p.el, .bool p.fl, .bool p.ect]] w (RowPost w base ob (ps ++ [p])) := by
 obtain ⟨v, hB, hown⟩ := h
 have hob := hB.lt
 have c0 : w.cell? ⟨ob, 0, none⟩ = some v := hB.cell 0
 have hf := hB.frozen
 obtain ⟨i0, hi, hz0, hz1, hz2⟩ := info_parts pk_info
 go_enter Tryz.func137, Tryz.ntmps137
 go_wp2
 have hneo := own_ne hown hB (by decide)
 go_region_law (refine step_append_any _ rfl (.tmp 7) (.tmp 9) _ rfl base 40 i0 _ 6 32 Tryz.underlying153 hi hz0 hz1 hz2 rfl (by decide) v ps.length (ps.flatMap Pk.cells) rfl (by exact (((hown.alloc _)).alloc _)) (w.heap.size + 2) (some ⟨w.heap.size + 1, 0, none⟩) 1 1 p.cells rfl (by exact reads_lit (blk_new_at (by simp)) (by simp) rfl) (by simp [Pk.cells, Value.oneCell']) (by unfold maxLen; omega) (by omega) (by simp; omega) ?_; intro v' w1 hown1 hg1 hat1; obtain ⟨g', cap', rfl⟩ := own_form hown1; have hB1 := blk_grown (t := 153) (cs := #[v]) (by exact ((hB.alloc _).alloc _)) hg1 hneo; have d0 : w1.cell? ⟨ob, 0, none⟩ = some v := hB1.cell 0; have d1 := hB1.frozen)
 all_goals go_end0
 all_goals
  refine ⟨rfl, ⟨_, hB1.set 0 _, ?_⟩, ?_⟩
  ·have e1 : (ps ++ [p]).length = ps.length + 1 := by simp
   have e2 : (ps ++ [p]).flatMap Pk.cells = ps.flatMap Pk.cells ++ p.cells := by simp
   rw [e1, e2]
   exact own_far hown1 (own_ne hown1 hB1 (by decide)) _
  ·have hbw : base ≤ w.heap.size := by omega
   exact ((Below.trans (((Below.refl base w).alloc hbw _).alloc (by simp; omega) _).drew (Below.grown (Below.refl base _) hg1 (by simp; omega) (fun k hk => (hown.lt k hk).1)))).setCell hb _

theorem LogC.belowB {w w' : World} {b rb m room : Nat} {last : Int} {fr long many : Nat} {fl el : Int} {ring : List Sl} {B : Nat} (h : LogC w b rb m room last fr long many fl el ring) (ho : Below B w w') (hb : b < B) (hr : rb < B) : LogC w' b rb m room last fr long many fl el ring :=
 ⟨_, _, (ho.block b hb).trans h.blk, (ho.block rb hr).trans h.rng, h.m2, h.r1, h.r2⟩

theorem rowat_drewN {w : World} {base ob : Nat} {ps : List Pk} (h : RowAt w base ob ps) (n : Nat) : RowAt (w.drewN n) base ob ps := h

set_option maxHeartbeats 4000000 in
theorem each_any (base ob b rb room : Nat) (last lo hi : Int) (ps : List Pk) (w : World) (hL : IsLog w b rb room last ps) (hrow : RowAt w base ob []) (hob : base ≤ ob) (hb : b < base) (hrb : rb < base) :
  Calls Tryz.prog 136 #[.pointer (some ⟨b, 0, none⟩), .int .i64 lo, .int .i64 hi, .func (.func 137) #[.pointer (some ⟨ob, 0, none⟩)] #[]] w (RowPost w base ob (between lo hi ps)) := by
 obtain ⟨m, fr, ring, q, hC, hR, hG, hp⟩ := hL
 have hr1 := hC.r1
 have hr2 := hC.r2
 have hm2 := hC.m2
 have hfm := hR.frm
 have hqm := hR.long
 have hF := find_any lo hC hR hG.sorted
 have hle := firstAt_le lo q
 have hBA := fun k => @between_at lo hi q k
 have hobl : ob < w.heap.size := by obtain ⟨v, hv, _⟩ := hrow; exact hv.lt
 have hm3 : m ≤ 512 := by omega
 have hm4 : 1 ≤ m := by omega
 obtain ⟨i0, hie⟩ : ∃ i, firstAt lo q = i := ⟨_, rfl⟩
 rw [hie] at hF hle hBA
 have HF := hide hF
 have HI := hide hie
 have HM := hide hm2
 have HP := hide hp
 have HG := hide hG
 have HBA := hide hBA
 have HRW := hide hrow
 clear hF hie hm2 hp hG hBA hrow
 go_enter Tryz.func136, Tryz.ntmps136
 go_wp2_with (first | (go_at_call 99; refine (none_no b room _ (hC.cell 0) hr1).mono ?_; rintro e1 w1 ⟨rfl, rfl⟩) | (go_at_call 170; refine HF.out.mono ?_; rintro e1 w1 ⟨rfl, hb1⟩))
 go_loopg [8] q.length (fun kx s8 wr => ∃ k : Nat, s8 = .int .i64 k ∧ i0 ≤ k ∧ k ≤ q.length ∧ q.length - k ≤ kx ∧ Hid (∀ (j : Nat) (s : Sl), j < k → q[j]? = some s → i0 ≤ j → s.1.num ≤ hi) ∧ Hid (RowAt wr base ob (liveOf ((q.take k).drop i0))) ∧ Below base w wr)
 case atStart =>
  refine ⟨i0, rfl, Nat.le_refl _, hle, by omega, fun j s h1 _ h2 => by omega, ?_, hb1.mono (by omega)⟩
  rw [List.drop_take_self]
  obtain ⟨v, hv, hown⟩ := HRW.out
  obtain ⟨rfl, _⟩ | ⟨g, cap, cur, hvv, hg, hh, hr⟩ := hown.2
  ·exact ⟨_, (only_of_below hb1 (S := [])).blk hv (by simp), hown.1, .inl ⟨rfl, rfl⟩⟩
  ·refine ⟨v, (only_of_below hb1 (S := [])).blk hv (by simp), hown.1, .inr ⟨g, cap, cur, hvv, hg, ?_, hr⟩⟩
   exact (hb1.block g (Array.getElem?_eq_some_iff.1 hh).1).trans hh
 case round =>
  obtain ⟨k, rfl, hk1, hk2, hkx, HN, HR, hBw⟩ := hrel
  have hCw := hC.belowB hBw hb hrb
  have c2 : wr.cell? ⟨b, 2, none⟩ = some (.slice (some ⟨rb, 0, none⟩) m hCw.cap) := hCw.cell 2
  have c3 : wr.cell? ⟨b, 3, none⟩ = some (.int .i64 fr) := hCw.cell 3
  have c4 : wr.cell? ⟨b, 4, none⟩ = some (.int .i64 q.length) := hCw.cell 4
  have hA := fun (c : Nat) (W : World) (g2 : W.cell? ⟨b, 2, none⟩ = some (.slice (some ⟨rb, 0, none⟩) m c)) (g3 : W.cell? ⟨b, 3, none⟩ = some (.int .i64 fr)) => at_any b rb m fr k W g2 g3 (by omega) (by omega) (by omega) (by omega)
  have HAT := hide hA
  clear hA
  by_cases hlt : k < q.length
  ·have hs : q[k]? = some q[k] := List.getElem?_eq_getElem hlt
   obtain ⟨s, hsx⟩ : ∃ s, q[k] = s := ⟨_, rfl⟩
   rw [hsx] at hs
   have hat := hR.at_ k hlt
   rw [hs] at hat
   obtain ⟨z0, z1, z2, z3, z4, z5, z6⟩ := hCw.slot hat
   have hup := upto_keep hs hk1
   have hll : (liveOf ((q.take k).drop i0)).length ≤ 1000 := by
    have h1 := live_length ((q.take k).drop i0)
    simp only [List.length_drop, List.length_take] at h1
    omega
   have HS := hide hs
   have HX := hide hat
   clear hs hsx hat
   by_cases hnum : s.1.num ≤ hi
   ·have hN2 : Hid (∀ (j : Nat) (s : Sl), j < k + 1 → q[j]? = some s → i0 ≤ j → s.1.num ≤ hi) := fun j s' h1 h2 h3 => by
     by_cases e : j = k
     ·subst e; rw [HS.out] at h2; cases h2; exact hnum
     ·exact HN.out j s' (by omega) h2 h3
    cases hth : s.2
    ·rw [hth] at z6 hup
     simp only [Bool.false_eq_true, if_false, List.append_nil] at hup
     have HU := hide hup
     have HT := hide hth
     clear hup hth
     go_wp2_with (go_at_call 110; refine (HAT.out _ _ (by exact c2) (by exact c3)).mono ?_; rintro e4 w4 ⟨rfl, nq, rfl⟩)
     go_roundg (q.length - (k + 1))
     case measure => omega
     case rel => exact ⟨k + 1, by go_num, by omega, by omega, Nat.le_refl _, hN2, by rw [HU.out]; exact rowat_drewN HR.out _, below_drewN hBw _⟩
    ·rw [hth] at z6 hup
     simp only [if_true] at hup
     have HU := hide hup
     have HT := hide hth
     clear hup hth
     go_wp2_with (first | (go_at_call 110; refine (HAT.out _ _ (by exact c2) (by exact c3)).mono ?_; rintro e4 w4 ⟨rfl, nq, rfl⟩) | (go_at_call 137; refine (rowput_any base ob _ s.1 _ (rowat_drewN HR.out _) hob hll).mono ?_; rintro e5 w5 ⟨rfl, hR5, hB5⟩))
     go_roundg (q.length - (k + 1))
     case measure => omega
     case rel => exact ⟨k + 1, by go_num, by omega, by omega, Nat.le_refl _, hN2, by rw [HU.out]; exact hR5, (below_drewN hBw _).trans hB5⟩
   ·have hnum' : hi < s.1.num := by omega
    have hnd : decide (s.1.num ≤ hi) = false := by simp; omega
    go_wp2_with (go_at_call 110; refine (HAT.out _ _ (by exact c2) (by exact c3)).mono ?_; rintro e4 w4 ⟨rfl, nq, rfl⟩)
    go_end0
    refine ⟨rfl, ?_, below_drewN hBw _⟩
    rw [HP.out, ← HBA.out k HG.out.sorted hk1 HN.out (fun s' h => by rw [HS.out] at h; cases h; exact hnum')]
    exact rowat_drewN HR.out _
  ·obtain rfl : k = q.length := by omega
   go_wp2_with (go_at_call 110; refine (HAT.out _ _ (by exact c2) (by exact c3)).mono ?_; rintro e4 w4 ⟨rfl, nq, rfl⟩)
   go_end0
   refine ⟨rfl, ?_, hBw⟩
   rw [HP.out, ← HBA.out q.length HG.out.sorted hk1 HN.out (fun s' h => by simp at h)]
   exact HR.out

/-- A slice of packets in new memory. -/
def PksPost (w : World) (ps : List Pk) (e : Ending) (w' : World) : Prop := ∃ v, e = .returned v ∧ w'.ownsRow w.heap.size 40 6 v ps.length (ps.flatMap Pk.cells) ∧ Below w.heap.size w w'

set_option maxHeartbeats 1000000 in
theorem between_any (b rb room : Nat) (last lo hi : Int) (ps : List Pk) (w : World) (hL : IsLog w b rb room last ps) :
  Calls Tryz.prog 92 #[.pointer (some ⟨b, 0, none⟩), .int .i64 lo, .int .i64 hi] w (PksPost w (between lo hi ps)) := by
 have hL2 := hL
 obtain ⟨m, fr, ring, q, hC, hR, hG, hp⟩ := hL2
 have hb := hC.blk.lt
 have hrb := hC.rng.lt
 have hLa : IsLog (w.alloc (.cells #[.slice none 0 0] 153)) b rb room last ps := ⟨m, fr, ring, q, hC.alloc _, hR, hG, hp⟩
 have HE := hide (each_any w.heap.size w.heap.size b rb room last lo hi ps _ hLa ⟨_, Blk.new _ _ _, by simp, .inl ⟨rfl, rfl⟩⟩ (Nat.le_refl _) hb hrb)
 clear hp hLa hL
 go_enter Tryz.func92, Tryz.ntmps92
 go_wp2_with (go_at_call 136; refine HE.out.mono ?_; rintro e1 w1 ⟨rfl, ⟨v, hB1, hown1⟩, hb1⟩; have c0 : w1.cell? ⟨w.heap.size, 0, none⟩ = some v := hB1.cell 0)
 go_ret
 exact ⟨v, rfl, hown1, ((Below.refl _ _).alloc (Nat.le_refl _) _).trans hb1⟩

theorem between_all {ps : List Pk} (h : ∀ p ∈ ps, p.may) : between 0 9007199254740991 ps = ps := by
 unfold between
 rw [List.filter_eq_self]
 intro p hp
 obtain ⟨h1, h2, _⟩ := h p hp
 simp; omega

theorem IsLog.may {w : World} {b rb room : Nat} {last : Int} {ps : List Pk} (h : IsLog w b rb room last ps) : ∀ p ∈ ps, p.may := by
 obtain ⟨m, fr, ring, q, hC, hR, hG, hp⟩ := h
 rw [hp]; exact live_may hG.may
theorem IsLog.sorted {w : World} {b rb room : Nat} {last : Int} {ps : List Pk} (h : IsLog w b rb room last ps) : ps.Pairwise fun a b => a.num < b.num := by
 obtain ⟨m, fr, ring, q, hC, hR, hG, hp⟩ := h
 rw [hp]; exact live_sorted hG.sorted
theorem IsLog.room {w : World} {b rb room : Nat} {last : Int} {ps : List Pk} (h : IsLog w b rb room last ps) : ps.length ≤ room ∧ 1 ≤ room ∧ room ≤ 256 := by
 obtain ⟨m, fr, ring, q, hC, hR, hG, hp⟩ := h
 rw [hp]; exact ⟨hG.room, hC.r1, hC.r2⟩
theorem IsLog.lt {w : World} {b rb room : Nat} {last : Int} {ps : List Pk} (h : IsLog w b rb room last ps) : b < w.heap.size ∧ rb < w.heap.size ∧ b ≠ rb := by
 obtain ⟨m, fr, ring, q, hC, hR, hG, hp⟩ := h
 exact ⟨hC.blk.lt, hC.rng.lt, hC.ne⟩
theorem IsLog.only {S : List Nat} {w w' : World} {b rb room : Nat} {last : Int} {ps : List Pk} (h : IsLog w b rb room last ps) (ho : Only S w w') (hb : b ∉ S) (hr : rb ∉ S) : IsLog w' b rb room last ps := by
 obtain ⟨m, fr, ring, q, hC, hR, hG, hp⟩ := h
 exact ⟨m, fr, ring, q, hC.only ho hb hr, hR, hG, hp⟩
theorem IsLog.below {w w' : World} {b rb room : Nat} {last : Int} {ps : List Pk} (h : IsLog w b rb room last ps) (ho : Below w.heap.size w w') : IsLog w' b rb room last ps :=
 h.only (S := []) (only_of_below ho) (by simp) (by simp)
theorem IsLog.alloc {w : World} {b rb room : Nat} {last : Int} {ps : List Pk} (h : IsLog w b rb room last ps) (o : Obj) : IsLog (w.alloc o) b rb room last ps := by
 obtain ⟨m, fr, ring, q, hC, hR, hG, hp⟩ := h
 exact ⟨m, fr, ring, q, hC.alloc o, hR, hG, hp⟩
set_option maxHeartbeats 1000000 in
theorem all_any (b rb room : Nat) (last : Int) (ps : List Pk) (w : World) (hL : IsLog w b rb room last ps) :
  Calls Tryz.prog 50 #[.pointer (some ⟨b, 0, none⟩)] w (PksPost w ps) := by
 have hB := between_any b rb room last 0 9007199254740991 ps w hL
 rw [between_all hL.may] at hB
 have HE := hide hB
 clear hB hL
 go_enter Tryz.func50, Tryz.ntmps50
 go_wp2_with (go_at_call 92; refine HE.out.mono ?_; rintro e1 w1 ⟨v, rfl, hown1, hb1⟩)
 go_ret
 exact ⟨v, rfl, hown1, hb1⟩
end Go.Proofs.YtgicljeedegncaaGreat
