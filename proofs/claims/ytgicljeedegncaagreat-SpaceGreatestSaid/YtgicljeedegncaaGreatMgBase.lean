/-
  The rows, and the plain law of ranges: 11 texts in one (Base, Reads, RowOps, SpanPlain, SpanRow, RegionStore, Bring, Ints, Frames, Flat, PersistPlain).
-/
import Derived.WalkKit
import Derived.WalkSpells
import Derived.WalkLawsBesides
import Derived.Deep.QuietTactic
import Derived.BigQuiet
import Derived.Deep.Draws
import Derived.Laws.OwnMore
import Derived.Laws.Rows
import Derived.Laws.MakeOwn
import Derived.KernelRfl
import Derived.Maps.AppendAt
import Derived.Deep.AppendLies
import Derived.RegionTactic
import Derived.OwnWalk
import Derived.Laws.CopyOwn
import Derived.Lib.AppendZerosOnto
import Derived.Test.YtgicljeedegncaaGreatRows
import Derived.Lib.Overlaps
import Derived.Laws.Externs
import Derived.Deep.RegionLaw
import Derived.Deep.RegionHeld3
import Derived.StillTail
import Derived.OpenShut
import Derived.Deep.Slices
import Derived.Deep.Fields
import Derived.ChangeSame
import Derived.ProofKit
namespace Go.Proofs.YtgicljeedegncaaGreat
open Go.RowKit

/-- Block g is just the cells cs of element type t, none frozen. -/
def Blk (w : World) (g : Nat) (t : TypeId) (cs : Array Value) : Prop := w.heap[g]? = some (.cells cs t (0, 0))

section
variable {w w' : World} {g : Nat} {t : TypeId} {cs : Array Value}
theorem Blk.lt (h : Blk w g t cs) : g < w.heap.size := by
  rcases Nat.lt_or_ge g w.heap.size with hlt | hge
  · exact hlt
  · unfold Blk at h; rw [Array.getElem?_eq_none hge] at h; cases h
theorem Blk.cell (h : Blk w g t cs) (i : Nat) : w.cell? ⟨g, i, none⟩ = cs[i]? := cell_of_row w g i cs t (0, 0) h
theorem Blk.frozen (h : Blk w g t cs) (i : Nat) : w.frozen? ⟨g, i, none⟩ = false := by
  unfold Blk at h
  simp [World.frozen?, h]
theorem Blk.new (w : World) (t : TypeId) (cs : Array Value) : Blk (w.alloc (.cells cs t)) w.heap.size t cs := heap_alloc_new w _
theorem Blk.drew (h : Blk w g t cs) : Blk w.drew g t cs := h
theorem Blk.drewN (h : Blk w g t cs) (n : Nat) : Blk (w.drewN n) g t cs := h
theorem Blk.alloc (h : Blk w g t cs) (o : Obj) : Blk (w.alloc o) g t cs := (Below.heap_alloc w o g h.lt).trans h
theorem Blk.set (h : Blk w g t cs) (i : Nat) (u : Value) : Blk (w.setCell ⟨g, i, none⟩ u) g t (cs.setIfInBounds i u) := by
  unfold Blk at h ⊢
  simp [World.setCell, Array.getElem?_modify, h]
theorem Blk.far (h : Blk w g t cs) {p : Addr} (hp : g ≠ p.block) (u : Value) : Blk (w.setCell p u) g t cs := (Below.heap_setCell w p u g hp).trans h
theorem Blk.eq {cs' : Array Value} (h : Blk w g t cs) (e : cs = cs') : Blk w g t cs' := e ▸ h
end

/-- A fact kept from the walk. -/
theorem hide {p : Prop} (h : p) : Hid p := h

/-- Only the blocks of S, and new ones, have turned. -/
structure Only (S : List Nat) (w w' : World) : Prop where
  os : w'.os = w.os
  tape : w'.tape = w.tape
  output : w'.output = w.output
  size : w.heap.size ≤ w'.heap.size
  block : ∀ k, k < w.heap.size → k ∉ S → w'.heap[k]? = w.heap[k]?

section
variable {S S' : List Nat} {w w1 w' : World}
theorem Only.refl (S : List Nat) (w : World) : Only S w w := ⟨rfl, rfl, rfl, Nat.le_refl _, fun _ _ _ => rfl⟩
theorem Only.trans (h : Only S w w1) (k : Only S' w1 w') (hs : ∀ x ∈ S', x ∈ S ∨ w.heap.size ≤ x) : Only S w w' :=
  ⟨k.os.trans h.os, k.tape.trans h.tape, k.output.trans h.output, Nat.le_trans h.size k.size, fun i hi hn =>
    (k.block i (Nat.lt_of_lt_of_le hi h.size) (fun hm => by rcases hs i hm with h1 | h1; exact hn h1; omega)).trans (h.block i hi hn)⟩
theorem Only.mono (h : Only S w w') (hs : ∀ x ∈ S, x ∈ S' ∨ w.heap.size ≤ x) : Only S' w w' :=
  ⟨h.os, h.tape, h.output, h.size, fun i hi hn => h.block i hi (fun hm => by rcases hs i hm with h1 | h1; exact hn h1; omega)⟩
theorem Only.drew (h : Only S w w') : Only S w w'.drew := ⟨h.os, h.tape, h.output, h.size, h.block⟩
theorem Only.drewN (h : Only S w w') (n : Nat) : Only S w (w'.drewN n) := ⟨h.os, h.tape, h.output, h.size, h.block⟩
theorem Only.alloc (h : Only S w w') (o : Obj) : Only S w (w'.alloc o) :=
  ⟨h.os, h.tape, h.output, Nat.le_trans h.size (by simp), fun i hi hn => (Below.heap_alloc w' o i (Nat.lt_of_lt_of_le hi h.size)).trans (h.block i hi hn)⟩
theorem Only.setCell (h : Only S w w') {p : Addr} (hp : p.block ∈ S ∨ w.heap.size ≤ p.block) (u : Value) : Only S w (w'.setCell p u) :=
  ⟨h.os, h.tape, h.output, by simpa [World.setCell] using h.size, fun i hi hn => (Below.heap_setCell w' p u i (by
    rintro rfl
    rcases hp with hp | hp
    · exact hn hp
    · omega)).trans (h.block i hi hn)⟩
theorem Only.below {B : Nat} (h : Only S w w') (hS : ∀ x ∈ S, B ≤ x) (hB : B ≤ w.heap.size) : Below B w w' :=
  ⟨h.os, h.tape, h.output, h.size, fun k hk => h.block k (by omega) (fun hm => by have := hS k hm; omega)⟩
theorem Only.blk {g : Nat} {t : TypeId} {cs : Array Value} (h : Only S w w') (hb : Blk w g t cs) (hg : g ∉ S) : Blk w' g t cs := (h.block g hb.lt hg).trans hb
theorem Only.cell (h : Only S w w') {p : Addr} (hp : p.block < w.heap.size) (hn : p.block ∉ S) : w'.cell? p = w.cell? p := World.cell?_of_block (w := w) (h.block p.block hp hn)
theorem Only.frozen (h : Only S w w') {p : Addr} (hp : p.block < w.heap.size) (hn : p.block ∉ S) : w'.frozen? p = w.frozen? p := World.frozen?_of_block (w := w) (h.block p.block hp hn)
theorem only_of_below (h : Below w.heap.size w w') : Only S w w' := ⟨h.os, h.tape, h.output, h.size, fun k hk _ => h.block k hk⟩
theorem Only.of_nil (h : Only [] w w') : Below w.heap.size w w' := h.below (by simp) (Nat.le_refl _)
theorem Only.grown {row : Option Nat} (h : Only S w w') (hg : w'.grownBy w1 row) (hr : ∀ k, row = some k → k ∈ S ∨ w.heap.size ≤ k) : Only S w w1 :=
  ⟨hg.os.trans h.os, hg.tape.trans h.tape, hg.output.trans h.output, Nat.le_trans h.size hg.size, fun i hi hn =>
    (hg.block i (Nat.lt_of_lt_of_le hi h.size) (fun e => by rcases hr i e.symm with h1 | h1; exact hn h1; omega)).trans (h.block i hi hn)⟩
end

/-- Only draws, and new blocks: what a call leaves that only reads. -/
theorem below_drewN {B : Nat} {a w : World} (h : Below B a w) (n : Nat) : Below B a (w.drewN n) := ⟨h.os, h.tape, h.output, h.size, h.block⟩

theorem bcell {W w1 : World} (hb : Below W.heap.size W w1) : (∀ b o, b < W.heap.size → w1.cell? ⟨b, o, none⟩ = W.cell? ⟨b, o, none⟩) ∧ (∀ b o, b < W.heap.size → w1.frozen? ⟨b, o, none⟩ = W.frozen? ⟨b, o, none⟩) :=
  ⟨fun b o h => hb.cell (p := ⟨b, o, none⟩) h, fun b o h => hb.frozen (p := ⟨b, o, none⟩) h⟩

theorem ret_int {k : IntKind} {a b : Int} (h : a = b) : Ending.returned (.int k a) = .returned (.int k b) := by rw [h]

theorem ret_ptr {r a b : Nat} (h : a = b) : Ending.returned (.pointer (some ⟨r, a, none⟩)) = .returned (.pointer (some ⟨r, b, none⟩)) := by rw [h]
theorem emod_toNat (a b m : Nat) : (((a : Int) + (b : Int)) % (m : Int)).toNat = (a + b) % m := by rw [← Int.natCast_add, ← Int.natCast_emod, Int.toNat_natCast]
theorem emod_bounds (a b m : Nat) (h : 1 ≤ m) : 0 ≤ ((a : Int) + (b : Int)) % (m : Int) ∧ ((a : Int) + (b : Int)) % (m : Int) < m := ⟨Int.emod_nonneg _ (by omega), Int.emod_lt_of_pos _ (by omega)⟩

/-- make([]T, n) at elements of several cells: an equation for every world. -/
theorem make_rows {P : Program} (t e : TypeId) (i : TypeInfo) (z : Value) (size bytes : Nat) (ht : P.underlying t = some (.slice e)) (hi : P.info? e = some i) (hz : i.zero = some z) (hs : i.size = size) (hb : i.bytes = bytes)
    (n : Nat) (hn : n ≤ 100000) (hb2 : bytes ≤ 100000) (w : World) :
    (Instr.makeSlice t (.int .i64 (n : Int)) (.int .i64 (n : Int))).run P w = .ok (.slice (some ⟨w.heap.size, 0, none⟩) n n) (w.alloc (.cells (madeCells z.cells (n * size)) e)) := by
  have h : ((i.bytes * n : Nat) : Int) ≤ 281474976710656 := by
    rw [hb]
    have := Nat.mul_le_mul hb2 hn
    omega
  rw [Int.natCast_mul] at h
  have hr := run_make (P := P) w t e i z ht hi hz .i64 .i64 n n (by omega) (by omega) h (by omega)
  simp only [Int.toNat_natCast, hs] at hr
  exact hr

/-- A cell of a list of records of one width. -/
theorem flat_cell {α : Type} (f : α → List Value) (m : Nat) (hf : ∀ x, (f x).length = m) : ∀ (l : List α) (k j : Nat), j < m → (l.flatMap f)[k * m + j]? = (l[k]?).bind fun x => (f x)[j]?
  | [], k, j, _ => by simp
  | x :: l, 0, j, hj => by
    rw [List.flatMap_cons, List.getElem?_append_left (by rw [hf]; omega)]
    simp
  | x :: l, k + 1, j, hj => by
    rw [List.flatMap_cons, List.getElem?_append_right (by rw [hf, Nat.add_mul]; omega)]
    have e : (k + 1) * m + j - (f x).length = k * m + j := by rw [hf, Nat.add_mul]; omega
    rw [e, flat_cell f m hf l k j hj]
    simp
theorem flat_length {α : Type} (f : α → List Value) (m : Nat) (hf : ∀ x, (f x).length = m) (l : List α) : (l.flatMap f).length = l.length * m := by
  induction l with
  | nil => simp
  | cons x l ih => simp [List.flatMap_cons, ih, hf, Nat.add_mul]; omega
theorem flat_set {α : Type} (f : α → List Value) (m : Nat) (hf : ∀ x, (f x).length = m) : ∀ (l : List α) (k j : Nat) (x y : α) (u : Value), j < m → l[k]? = some x → f y = (f x).set j u →
    (l.flatMap f).set (k * m + j) u = (l.set k y).flatMap f
  | [], k, j, x, y, u, _, hx, _ => by simp at hx
  | a :: l, 0, j, x, y, u, hj, hx, hy => by
    have hx' : a = x := by simpa using hx
    subst hx'
    rw [List.flatMap_cons, List.set_append_left _ _ (by rw [hf]; omega)]
    simp [hy]
  | a :: l, k + 1, j, x, y, u, hj, hx, hy => by
    rw [List.flatMap_cons, List.set_append_right _ _ (by rw [hf, Nat.add_mul]; omega)]
    have e : (k + 1) * m + j - (f a).length = k * m + j := by rw [hf, Nat.add_mul]; omega
    rw [e, flat_set f m hf l k j x y u hj (by simpa using hx) hy]
    simp
end Go.Proofs.YtgicljeedegncaaGreat

namespace Go.Proofs.YtgicljeedegncaaGreat
open Go.RowKit

theorem block_of_add (a : Addr) (n : Nat) : (a.add n).block = a.block := by unfold Addr.add; split <;> rfl
theorem add_of_add (a : Addr) (i j : Nat) : (a.add i).add j = a.add (i + j) := by
  unfold Addr.add
  by_cases hi : i = 0 <;> by_cases hj : j = 0 <;> simp [hi, hj, Nat.add_assoc]

def Reads (w : World) (B size : Nat) (A : Option Addr) (n : Nat) (xs : List Value) : Prop :=
  xs.length = n * size ∧ (0 < n → ∃ ad, A = some ad ∧ ad.block < B ∧ ∀ j u, xs[j]? = some u → w.cell? (ad.add j) = some u)

section
variable {w w' : World} {B B' size n : Nat} {A : Option Addr} {xs : List Value}
theorem Reads.none_ : Reads w B size A 0 [] := ⟨by simp, fun h => absurd h (by omega)⟩
theorem Reads.at_ {k : Nat} (h : Reads w B 1 A n xs) (hk : k < n) : ∃ ad u, A = some ad ∧ ad.block < B ∧ xs[k]? = some u ∧ w.cell? (ad.add k) = some u := by
  obtain ⟨ad, e, hb, hc⟩ := h.2 (by omega)
  have hl : k < xs.length := by have := h.1; omega
  exact ⟨ad, xs[k], e, hb, List.getElem?_eq_getElem hl, hc k _ (List.getElem?_eq_getElem hl)⟩
theorem Reads.keep (h : Reads w B size A n xs) (hk : ∀ p : Addr, p.block < B → w'.cell? p = w.cell? p) : Reads w' B size A n xs :=
  ⟨h.1, fun hn => by
    obtain ⟨ad, e, hb, hc⟩ := h.2 hn
    exact ⟨ad, e, hb, fun j u hu => (hk _ (by rw [block_of_add]; exact hb)).trans (hc j u hu)⟩⟩
theorem Reads.more (h : Reads w B size A n xs) (hB : B ≤ B') : Reads w B' size A n xs :=
  ⟨h.1, fun hn => by
    obtain ⟨ad, e, hb, hc⟩ := h.2 hn
    exact ⟨ad, e, by omega, hc⟩⟩
theorem Reads.below (h : Reads w B size A n xs) (hb : Below B w w') : Reads w' B size A n xs := h.keep fun _ hp => hb.cell hp
theorem Reads.drew (h : Reads w B size A n xs) : Reads w.drew B size A n xs := h
theorem Reads.drewN (h : Reads w B size A n xs) (k : Nat) : Reads (w.drewN k) B size A n xs := h
theorem Reads.alloc (h : Reads w B size A n xs) (hB : B ≤ w.heap.size) (o : Obj) : Reads (w.alloc o) B size A n xs := h.keep fun p hp => World.cell?_alloc_lt w o p (by omega)
theorem Reads.setCell (h : Reads w B size A n xs) {p : Addr} (hB : B ≤ p.block) (u : Value) : Reads (w.setCell p u) B size A n xs :=
  h.keep fun q hq => World.cell?_setCell_other w p q u (fun e => by subst e; omega)
theorem Reads.grown (h : Reads w B size A n xs) {row : Option Nat} (hg : w.grownBy w' row) (hB : B ≤ w.heap.size) (hr : ∀ g, row = some g → B ≤ g) : Reads w' B size A n xs :=
  h.keep fun p hp => World.cell?_of_block (hg.block p.block (by omega) (fun e => by have := hr _ e.symm; omega))
theorem Reads.cut (h : Reads w B size A n xs) {k cap : Nat} (hk : k ≤ n) (hc : n ≤ cap) :
    Reads w B size (if cap = k then A else A.map (·.add (k * size))) (n - k) (xs.drop (k * size)) := by
  refine ⟨by rw [List.length_drop, h.1, Nat.sub_mul], fun hn => ?_⟩
  obtain ⟨ad, rfl, hb, hcell⟩ := h.2 (by omega)
  rw [if_neg (by omega)]
  refine ⟨ad.add (k * size), rfl, by rw [block_of_add]; exact hb, fun j u hu => ?_⟩
  rw [add_of_add]
  exact hcell _ u (by rw [← hu, List.getElem?_drop])
theorem Reads.of_own {base : Nat} {e : TypeId} {c : Nat} (h : w.ownsRow base e size (.slice A n c) n xs) : Reads w w.heap.size size A n xs := by
  refine ⟨h.1, fun hn => ?_⟩
  obtain ⟨g, cap, hv, _, hlt⟩ := h.form hn
  have hA : A = some ⟨g, 0, none⟩ := by injection hv
  subst hA
  exact ⟨_, rfl, hlt, h.cells (g := g) rfl⟩
end

section
variable {P : Program} (w : World)

theorem run_append_of_nil (base : Nat) (t ty e : TypeId) (i : TypeInfo) (size : Nat) (ht : P.underlying t = some (.slice e)) (hi : P.info? e = some i)
    (v : Value) (n : Nat) (xs : List Value) (hown : w.ownsRow base e size v n xs) (c : Nat) : (Builtin.append_ #[t, t] ty #[v, .slice none 0 c]).run P w = .ok v w := by
  rcases hown.2 with ⟨rfl, rfl⟩ | ⟨g, cap, cur, rfl, _, _, hnc, _⟩
  · simp [Builtin.append_, run_underlying ht, sizeOf, typeInfo, hi, Builtin.lenOf, Builtin.firstCells]
  · simp [Builtin.append_, run_underlying ht, sizeOf, typeInfo, hi, Builtin.lenOf, Builtin.firstCells, hnc, storeCells]

theorem run_append_any (base : Nat) (t ty e : TypeId) (i : TypeInfo) (z : Value) (size bytes : Nat) (ht : P.underlying t = some (.slice e)) (hi : P.info? e = some i) (hz : i.zero = some z)
    (hsize : i.size = size) (hby : i.bytes = bytes) (hzs : z.cells.size = size) (hsz : 0 < size)
    (v : Value) (n : Nat) (xs : List Value) (hown : w.ownsRow base e size v n xs)
    (B : Nat) (A : Option Addr) (m c : Nat) (news : List Value) (hr : Reads w B size A m news) (h1 : ∀ u ∈ news, u.oneCell' = true)
    (h63 : n + m ≤ maxLen) (hbytes : (n + m) * bytes ≤ 140737488355328) (hbase : base ≤ w.heap.size) :
    ∃ v' w', (Builtin.append_ #[t, t] ty #[v, .slice A m c]).run P w = .ok v' w' ∧ w'.ownsRow base e size v' (n + m) (xs ++ news) ∧ w.grownBy w' v.ownBlock ∧
      (v'.ownBlock = v.ownBlock ∨ v'.ownBlock = some w.heap.size) := by
  rcases A with _ | ad
  · have hm : m = 0 := by
      rcases Nat.eq_zero_or_pos m with h0 | h0
      · exact h0
      · obtain ⟨ad, h, _⟩ := hr.2 h0
        cases h
    subst hm
    have hn : news = [] := List.eq_nil_of_length_eq_zero (by simpa using hr.1)
    subst hn
    exact ⟨v, w, run_append_of_nil w base t ty e i size ht hi v n xs hown c, by simpa using hown, World.grownBy.refl w _, .inl rfl⟩
  · have hcells : ∀ j u, news[j]? = some u → w.cell? (ad.add j) = some u := by
      intro j u hu
      rcases Nat.eq_zero_or_pos m with h0 | h0
      · subst h0
        have hn : news = [] := List.eq_nil_of_length_eq_zero (by simpa using hr.1)
        subst hn
        simp at hu
      · obtain ⟨ad', h, _, hc⟩ := hr.2 h0
        injection h with h
        subst h
        exact hc j u hu
    obtain ⟨v', w', hrun, h2, h3, _, h5⟩ := run_append_own_at (P := P) w base t ty e i z size bytes ht hi hz hsize hby hzs hsz v n xs hown ad m c news hr.1 hcells h1 h63 hbytes hbase
    exact ⟨v', w', hrun, h2, h3, h5⟩

theorem wp_append_any {o : Oper} {a : Act} {K : Act → World → Prop} {Q : Exit → Act → World → Prop} (s x : Operand) (t : TypeId)
    (ho : o.op = .call { callee := .builtin .append, args := #[s, x], argTypes := #[t, t] })
    (base : Nat) (e : TypeId) (i : TypeInfo) (z : Value) (size bytes : Nat) (ht : P.underlying t = some (.slice e)) (hi : P.info? e = some i) (hz : i.zero = some z)
    (hsize : i.size = size) (hby : i.bytes = bytes) (hzs : z.cells.size = size) (hsz : 0 < size)
    (v : Value) (n : Nat) (xs : List Value) (hs : a.eval s = v) (hown : w.ownsRow base e size v n xs)
    (B : Nat) (A : Option Addr) (m c : Nat) (news : List Value) (hx : a.eval x = .slice A m c) (hr : Reads w B size A m news) (h1 : ∀ u ∈ news, u.oneCell' = true)
    (h63 : n + m ≤ maxLen) (hbytes : (n + m) * bytes ≤ 140737488355328) (hbase : base ≤ w.heap.size)
    (h : ∀ v' w', w'.ownsRow base e size v' (n + m) (xs ++ news) → w.grownBy w' v.ownBlock → (v'.ownBlock = v.ownBlock ∨ v'.ownBlock = some w.heap.size) → K (a.put o.dst v') w') : o.wp P a w K Q := by
  obtain ⟨v', w', hrun, h2, h3, h4⟩ := run_append_any (P := P) w base t o.type e i z size bytes ht hi hz hsize hby hzs hsz v n xs hown B A m c news hr h1 h63 hbytes hbase
  unfold Oper.wp execOp
  simp only [ho, resolve, invoke, builtin, Sem.run_bind, Sem.run_pure, Result.andThen_ok, List.map_toArray, List.map_cons, List.map_nil, hs, hx, hrun]
  exact h v' w' h2 h3 h4

theorem wpList_append_any {ops : Array Oper} {rest : List Oper} {o : Oper} {a : Act} {Q : Exit → Act → World → Prop} (hgd : o.guard = none) (s x : Operand) (t : TypeId)
    (ho : o.op = .call { callee := .builtin .append, args := #[s, x], argTypes := #[t, t] })
    (base : Nat) (e : TypeId) (i : TypeInfo) (z : Value) (size bytes : Nat) (ht : P.underlying t = some (.slice e)) (hi : P.info? e = some i) (hz : i.zero = some z)
    (hsize : i.size = size) (hby : i.bytes = bytes) (hzs : z.cells.size = size) (hsz : 0 < size)
    (v : Value) (n : Nat) (xs : List Value) (hs : a.eval s = v) (hown : w.ownsRow base e size v n xs)
    (B : Nat) (A : Option Addr) (m c : Nat) (news : List Value) (hx : a.eval x = .slice A m c) (hr : Reads w B size A m news) (h1 : ∀ u ∈ news, u.oneCell' = true)
    (h63 : n + m ≤ maxLen) (hbytes : (n + m) * bytes ≤ 140737488355328) (hbase : base ≤ w.heap.size)
    (h : ∀ v' w', w'.ownsRow base e size v' (n + m) (xs ++ news) → w.grownBy w' v.ownBlock → (v'.ownBlock = v.ownBlock ∨ v'.ownBlock = some w.heap.size) → wpList P ops Q rest (a.put o.dst v') w') : wpList P ops Q (o :: rest) a w :=
  wpList_plain hgd fun _ hK => wp_append_any w s x t ho base e i z size bytes ht hi hz hsize hby hzs hsz v n xs hs hown B A m c news hx hr h1 h63 hbytes hbase fun v' w' h2 h3 h4 => hK _ _ (h v' w' h2 h3 h4)

theorem step_append_any {ops : Array Oper} {o : Oper} {a : Act} {K : Act → World → Prop} {Q : Exit → Act → World → Prop} {E : Prop} (hgd : o.guard = none) (s x : Operand) (t : TypeId)
    (ho : o.op = .call { callee := .builtin .append, args := #[s, x], argTypes := #[t, t] })
    (base : Nat) (e : TypeId) (i : TypeInfo) (z : Value) (size bytes : Nat) (ht : P.underlying t = some (.slice e)) (hi : P.info? e = some i) (hz : i.zero = some z)
    (hsize : i.size = size) (hby : i.bytes = bytes) (hzs : z.cells.size = size) (hsz : 0 < size)
    (v : Value) (n : Nat) (xs : List Value) (hs : a.eval s = v) (hown : w.ownsRow base e size v n xs)
    (B : Nat) (A : Option Addr) (m c : Nat) (news : List Value) (hx : a.eval x = .slice A m c) (hr : Reads w B size A m news) (h1 : ∀ u ∈ news, u.oneCell' = true)
    (h63 : n + m ≤ maxLen) (hbytes : (n + m) * bytes ≤ 140737488355328) (hbase : base ≤ w.heap.size)
    (h : ∀ v' w', w'.ownsRow base e size v' (n + m) (xs ++ news) → w.grownBy w' v.ownBlock → (v'.ownBlock = v.ownBlock ∨ v'.ownBlock = some w.heap.size) → K (a.put o.dst v') w') :
    if Region.wanted o (yielded ops a.tmps) = true then Oper.wp P o a w K Q else E := by
  have hw : Region.wanted o (yielded ops a.tmps) = true := by simp [Region.wanted, hgd]
  rw [if_pos hw]
  exact wp_append_any w s x t ho base e i z size bytes ht hi hz hsize hby hzs hsz v n xs hs hown B A m c news hx hr h1 h63 hbytes hbase h
end

theorem add_at (g j : Nat) : (⟨g, 0, none⟩ : Addr).add j = ⟨g, j, none⟩ := by
  unfold Addr.add
  split
  · rename_i h; rw [h]
  · simp
theorem blk_new_at {W : World} {t : TypeId} {cs : Array Value} {n : Nat} (h : n = W.heap.size) : Blk (W.alloc (.cells cs t)) n t cs := h ▸ Blk.new W t cs
theorem reads_lit {W : World} {g t B size n : Nat} {cs : List Value} (h : Blk W g t cs.toArray) (hg : g < B) (hl : cs.length = n * size) : Reads W B size (some ⟨g, 0, none⟩) n cs :=
  ⟨hl, fun _ => ⟨_, rfl, hg, fun j u hu => by rw [add_at, h.cell, List.getElem?_toArray]; exact hu⟩⟩

theorem own_ne {w : World} {base e size n g t : Nat} {v : Value} {xs : List Value} {cs : Array Value} (h : w.ownsRow base e size v n xs) (hb : Blk w g t cs) (hne : e ≠ t) : some g ≠ v.ownBlock := by
  rcases h.2 with ⟨rfl, _⟩ | ⟨g', cap, cur, rfl, _, hh, _⟩
  · simp [Value.ownBlock]
  · intro he
    have : g = g' := by simpa [Value.ownBlock] using he
    subst this
    unfold Blk at hb
    rw [hb] at hh
    injection hh with hh
    injection hh with _ h2
    exact hne h2.symm
theorem blk_grown {w w' : World} {g t : Nat} {cs : Array Value} {row : Option Nat} (h : Blk w g t cs) (hg : w.grownBy w' row) (hn : some g ≠ row) : Blk w' g t cs := (hg.block g h.lt hn).trans h
theorem own_form {w : World} {base e size n : Nat} {v : Value} {xs : List Value} (h : w.ownsRow base e size v (n + 1) xs) : ∃ g cap, v = .slice (some ⟨g, 0, none⟩) (n + 1) cap := by
  rcases h.2 with ⟨_, h0⟩ | ⟨g, cap, cur, hv, _⟩
  · omega
  · exact ⟨g, cap, hv⟩
theorem own_blk {w : World} {base e size n : Nat} {v : Value} {xs : List Value} (h : w.ownsRow base e size v n xs) (hn : 1 ≤ n) : ∃ g cap rest, v = .slice (some ⟨g, 0, none⟩) n cap ∧ base ≤ g ∧ n ≤ cap ∧ Blk w g e (xs ++ rest).toArray := by
  rcases h.2 with ⟨_, h0⟩ | ⟨g, cap, cur, hv, hg, hh, hc, _, _, ht⟩
  · omega
  · refine ⟨g, cap, cur.toList.drop (n * size), hv, hg, hc, ?_⟩
    rw [← ht, List.take_append_drop]
    exact hh
theorem own_far {w : World} {base e size n : Nat} {v : Value} {xs : List Value} (h : w.ownsRow base e size v n xs) {p : Addr} (hp : some p.block ≠ v.ownBlock) (u : Value) : (w.setCell p u).ownsRow base e size v n xs := by
  refine ⟨h.1, ?_⟩
  rcases h.2 with h0 | ⟨g, cap, cur, hv, hg, hh, r⟩
  · exact .inl h0
  · refine .inr ⟨g, cap, cur, hv, hg, ?_, r⟩
    rw [Below.heap_setCell _ _ _ _ (fun e => hp (by rw [hv, ← e]; rfl))]
    exact hh
theorem own_drewN {w : World} {base e size n : Nat} {v : Value} {xs : List Value} (h : w.ownsRow base e size v n xs) (k : Nat) : (w.drewN k).ownsRow base e size v n xs := h
end Go.Proofs.YtgicljeedegncaaGreat

namespace Go.Proofs.YtgicljeedegncaaGreat
open Go.RowKit

theorem only_setRow {w : World} {g : Nat} {cs : Array Value} : Only [g] w (w.setRow g cs) :=
  ⟨rfl, rfl, rfl, by simp [World.setRow], fun k hk hn => setRow_other w g k cs (by simpa using hn)⟩
theorem blk_setRow {w : World} {g t : Nat} {cur cs : Array Value} (h : Blk w g t cur) : Blk (w.setRow g cs) g t cs := setRow_heap w g cur cs t (0, 0) h
theorem own_mk {w : World} {base e size n g cap : Nat} {cur : List Value} (hg : base ≤ g) (hB : Blk w g e cur.toArray) (hn : n ≤ cap) (hc : cap ≤ maxLen) (hl : cur.length = cap * size) : w.ownsRow base e size (.slice (some ⟨g, 0, none⟩) n cap) n (cur.take (n * size)) := by
  have h1 : n * size ≤ cap * size := Nat.mul_le_mul_right _ hn
  exact ⟨by rw [List.length_take]; omega, .inr ⟨g, cap, cur.toArray, rfl, hg, hB, hn, hc, by simpa using hl, by simp⟩⟩
theorem own_split {w : World} {base e size n : Nat} {v : Value} {xs : List Value} (h : w.ownsRow base e size v n xs) : (v = .slice none 0 0 ∧ n = 0 ∧ xs = []) ∨
    ∃ (g cap : Nat) (cur : List Value), v = .slice (some ⟨g, 0, none⟩) n cap ∧ base ≤ g ∧ Blk w g e cur.toArray ∧ n ≤ cap ∧ cap ≤ maxLen ∧ cur.length = cap * size ∧ cur.take (n * size) = xs := by
  rcases h.2 with ⟨h0, h1⟩ | ⟨g, cap, cur, hv, hg, hh, hc, hm, hs, ht⟩
  · exact .inl ⟨h0, h1, List.eq_nil_of_length_eq_zero (by rw [h.1, h1]; simp)⟩
  · exact .inr ⟨g, cap, cur.toList, hv, hg, by rw [Array.toArray_toList]; exact hh, hc, hm, by simpa using hs, ht⟩

section
variable {P : Program} {w : World}

/-- copy: as many records as the shorter of the two has. -/
theorem run_copy_rows {dT sT ty elem : TypeId} {i : TypeInfo} (hu : P.underlying dT = some (.slice elem)) (hi : P.info? elem = some i) {g o dLen dCap : Nat} {ad : Addr} {sLen sCap n : Nat} {cur cs : List Value} {t : TypeId}
    (hg : Blk w g t cur.toArray) (hn : Nat.min sLen dLen = n) (hcl : cs.length = n * i.size) (hsrc : ∀ j v, cs[j]? = some v → w.cell? (ad.add j) = some v) (hfit : o + cs.length ≤ cur.length) (h1 : ∀ v ∈ cs, v.oneCell' = true) :
    (Builtin.copy_ #[dT, sT] ty #[.slice (some ⟨g, o, none⟩) dLen dCap, .slice (some ad) sLen sCap]).run P w = .ok (goInt n) (w.setRow g (splice cur o cs).toArray) := by
  have hl := run_loadCells_list (P := P) w ad cs hsrc
  have hst := run_storeCells_at P g o t cs 0 cur.toArray w hg (by simpa using hfit) h1
  rw [hcl] at hl
  simp only [Nat.add_zero] at hst
  simp [Builtin.copy_, run_underlying hu, Builtin.lenOf, Builtin.firstCells, sizeOf, typeInfo, hi, hn, hl, hst, splice]
/-- clear: zero records. -/
theorem run_clear_rows {t ty elem : TypeId} {i : TypeInfo} {z : Value} (hu : P.underlying t = some (.slice elem)) (hi : P.info? elem = some i) (hz : i.zero = some z) {g o n c : Nat} {cur : List Value} {t' : TypeId}
    (hg : Blk w g t' cur.toArray) (hfit : o + n * z.cells.size ≤ cur.length) (h1 : ∀ v ∈ (Builtin.zeroCells z.cells n).toList, v.oneCell' = true) :
    (Builtin.clear_ #[t] ty #[.slice (some ⟨g, o, none⟩) n c]).run P w = .ok (.tuple #[]) (w.setRow g (splice cur o (Builtin.zeroCells z.cells n).toList).toArray) := by
  have hl : (Builtin.zeroCells z.cells n).toList.length = n * z.cells.size := by simp [Builtin.zeroCells]
  rcases Nat.eq_zero_or_pos n with h0 | h0
  · subst h0
    have e : (Builtin.zeroCells z.cells 0).toList = [] := by simp [Builtin.zeroCells]
    rw [e]
    have e2 : splice cur o ([] : List Value) = cur := by simp [splice]
    rw [e2, setRow_self w g cur.toArray t' (0, 0) hg]
    simp [Builtin.clear_, run_underlying hu]
  · have hst := run_storeCells_at P g o t' (Builtin.zeroCells z.cells n).toList 0 cur.toArray w hg (by rw [hl]; simpa using hfit) h1
    simp only [Nat.add_zero] at hst
    have hn : n ≠ 0 := by omega
    simp only [Builtin.clear_, zeroValue, typeInfo]
    simp [run_underlying hu, hi, hz, hst, splice, hn]
/-- append within the capacity: the records go over what stood behind. -/
theorem run_append_in {t ty elem : TypeId} {i : TypeInfo} (hu : P.underlying t = some (.slice elem)) (hi : P.info? elem = some i) {g n c m c2 : Nat} {ad : Addr} {cur cs : List Value}
    (hg : Blk w g elem cur.toArray) (hcl : cs.length = m * i.size) (hsrc : ∀ j v, cs[j]? = some v → w.cell? (ad.add j) = some v) (hroom : n + m ≤ c) (hfit : n * i.size + cs.length ≤ cur.length) (h1 : ∀ v ∈ cs, v.oneCell' = true) :
    (Builtin.append_ #[t, t] ty #[.slice (some ⟨g, 0, none⟩) n c, .slice (some ad) m c2]).run P w = .ok (.slice (some ⟨g, 0, none⟩) (n + m) c) (w.setRow g (splice cur (n * i.size) cs).toArray) := by
  rw [run_append_room w t ty elem i hu hi g n c cur.toArray hg ad m c2 cs hcl hsrc h1 hroom (by simpa using hfit)]
  simp [splice]

/-! the same, at a step of the walk -/
variable {ops : Array Oper} {rest : List Oper} {o : Oper} {a : Act} {Q : Exit → Act → World → Prop} {K : Act → World → Prop} {E : Prop}
theorem wp_copy_k {d s : Operand} {dT sT : TypeId} (ho : o.op = .call { callee := .builtin .copy, args := #[d, s], argTypes := #[dT, sT] }) {elem : TypeId} {i : TypeInfo} (hu : P.underlying dT = some (.slice elem)) (hi : P.info? elem = some i)
    (g off dLen dCap : Nat) (ad : Addr) (sLen sCap n : Nat) (cur cs : List Value) (t : TypeId) (hd : a.eval d = .slice (some ⟨g, off, none⟩) dLen dCap) (hs : a.eval s = .slice (some ad) sLen sCap)
    (hg : Blk w g t cur.toArray) (hn : Nat.min sLen dLen = n) (hcl : cs.length = n * i.size) (hsrc : ∀ j v, cs[j]? = some v → w.cell? (ad.add j) = some v) (hfit : off + cs.length ≤ cur.length) (h1 : ∀ v ∈ cs, v.oneCell' = true)
    (h : ∀ w', Blk w' g t (splice cur off cs).toArray → Only [g] w w' → K (a.put o.dst (goInt n)) w') : o.wp P a w K Q := by
  have hr := run_copy_rows (P := P) (dT := dT) (sT := sT) (ty := o.type) (dCap := dCap) (sCap := sCap) hu hi hg hn hcl hsrc hfit h1
  unfold Oper.wp execOp
  simp only [ho, resolve, invoke, builtin, Sem.run_bind, Sem.run_pure, Result.andThen_ok, List.map_toArray, List.map_cons, List.map_nil, hd, hs, hr]
  exact h _ (blk_setRow hg) only_setRow
theorem wpList_copy_k (hgd : o.guard = none) {d s : Operand} {dT sT : TypeId} (ho : o.op = .call { callee := .builtin .copy, args := #[d, s], argTypes := #[dT, sT] }) {elem : TypeId} {i : TypeInfo} (hu : P.underlying dT = some (.slice elem)) (hi : P.info? elem = some i)
    (g off dLen dCap : Nat) (ad : Addr) (sLen sCap n : Nat) (cur cs : List Value) (t : TypeId) (hd : a.eval d = .slice (some ⟨g, off, none⟩) dLen dCap) (hs : a.eval s = .slice (some ad) sLen sCap)
    (hg : Blk w g t cur.toArray) (hn : Nat.min sLen dLen = n) (hcl : cs.length = n * i.size) (hsrc : ∀ j v, cs[j]? = some v → w.cell? (ad.add j) = some v) (hfit : off + cs.length ≤ cur.length) (h1 : ∀ v ∈ cs, v.oneCell' = true)
    (h : ∀ w', Blk w' g t (splice cur off cs).toArray → Only [g] w w' → wpList P ops Q rest (a.put o.dst (goInt n)) w') : wpList P ops Q (o :: rest) a w :=
  wpList_plain hgd fun _ hK => wp_copy_k ho hu hi g off dLen dCap ad sLen sCap n cur cs t hd hs hg hn hcl hsrc hfit h1 fun w' h2 h3 => hK _ _ (h w' h2 h3)
theorem step_copy_k (hgd : o.guard = none) {d s : Operand} {dT sT : TypeId} (ho : o.op = .call { callee := .builtin .copy, args := #[d, s], argTypes := #[dT, sT] }) {elem : TypeId} {i : TypeInfo} (hu : P.underlying dT = some (.slice elem)) (hi : P.info? elem = some i)
    (g off dLen dCap : Nat) (ad : Addr) (sLen sCap n : Nat) (cur cs : List Value) (t : TypeId) (hd : a.eval d = .slice (some ⟨g, off, none⟩) dLen dCap) (hs : a.eval s = .slice (some ad) sLen sCap)
    (hg : Blk w g t cur.toArray) (hn : Nat.min sLen dLen = n) (hcl : cs.length = n * i.size) (hsrc : ∀ j v, cs[j]? = some v → w.cell? (ad.add j) = some v) (hfit : off + cs.length ≤ cur.length) (h1 : ∀ v ∈ cs, v.oneCell' = true)
    (h : ∀ w', Blk w' g t (splice cur off cs).toArray → Only [g] w w' → K (a.put o.dst (goInt n)) w') : if Region.wanted o (yielded ops a.tmps) = true then Oper.wp P o a w K Q else E := by
  have hw : Region.wanted o (yielded ops a.tmps) = true := by simp [Region.wanted, hgd]
  rw [if_pos hw]
  exact wp_copy_k ho hu hi g off dLen dCap ad sLen sCap n cur cs t hd hs hg hn hcl hsrc hfit h1 h
theorem wpList_clear_k (hgd : o.guard = none) {s : Operand} {t : TypeId} (ho : o.op = .call { callee := .builtin .clear, args := #[s], argTypes := #[t] }) {elem : TypeId} {i : TypeInfo} {z : Value} (hu : P.underlying t = some (.slice elem)) (hi : P.info? elem = some i) (hz : i.zero = some z)
    (g off n c : Nat) (cur : List Value) (t' : TypeId) (hs : a.eval s = .slice (some ⟨g, off, none⟩) n c) (hg : Blk w g t' cur.toArray) (hfit : off + n * z.cells.size ≤ cur.length) (h1 : ∀ v ∈ (Builtin.zeroCells z.cells n).toList, v.oneCell' = true)
    (h : ∀ w', Blk w' g t' (splice cur off (Builtin.zeroCells z.cells n).toList).toArray → Only [g] w w' → wpList P ops Q rest (a.put o.dst (.tuple #[])) w') : wpList P ops Q (o :: rest) a w := by
  refine wpList_plain hgd fun _ hK => ?_
  have hr := run_clear_rows (P := P) (t := t) (ty := o.type) (c := c) hu hi hz hg hfit h1
  unfold Oper.wp execOp
  simp only [ho, resolve, invoke, builtin, Sem.run_bind, Sem.run_pure, Result.andThen_ok, List.map_toArray, List.map_cons, List.map_nil, hs, hr]
  exact hK _ _ (h _ (blk_setRow hg) only_setRow)
theorem wp_append_in {s x : Operand} {t : TypeId} (ho : o.op = .call { callee := .builtin .append, args := #[s, x], argTypes := #[t, t] }) {elem : TypeId} {i : TypeInfo} (hu : P.underlying t = some (.slice elem)) (hi : P.info? elem = some i)
    (g n c m c2 : Nat) (ad : Addr) (cur cs : List Value) (hs : a.eval s = .slice (some ⟨g, 0, none⟩) n c) (hx : a.eval x = .slice (some ad) m c2)
    (hg : Blk w g elem cur.toArray) (hcl : cs.length = m * i.size) (hsrc : ∀ j v, cs[j]? = some v → w.cell? (ad.add j) = some v) (hroom : n + m ≤ c) (hfit : n * i.size + cs.length ≤ cur.length) (h1 : ∀ v ∈ cs, v.oneCell' = true)
    (h : ∀ w', Blk w' g elem (splice cur (n * i.size) cs).toArray → Only [g] w w' → K (a.put o.dst (.slice (some ⟨g, 0, none⟩) (n + m) c)) w') : o.wp P a w K Q := by
  have hr := run_append_in (P := P) (t := t) (ty := o.type) (c2 := c2) hu hi hg hcl hsrc hroom hfit h1
  unfold Oper.wp execOp
  simp only [ho, resolve, invoke, builtin, Sem.run_bind, Sem.run_pure, Result.andThen_ok, List.map_toArray, List.map_cons, List.map_nil, hs, hx, hr]
  exact h _ (blk_setRow hg) only_setRow
theorem wpList_append_in (hgd : o.guard = none) {s x : Operand} {t : TypeId} (ho : o.op = .call { callee := .builtin .append, args := #[s, x], argTypes := #[t, t] }) {elem : TypeId} {i : TypeInfo} (hu : P.underlying t = some (.slice elem)) (hi : P.info? elem = some i)
    (g n c m c2 : Nat) (ad : Addr) (cur cs : List Value) (hs : a.eval s = .slice (some ⟨g, 0, none⟩) n c) (hx : a.eval x = .slice (some ad) m c2)
    (hg : Blk w g elem cur.toArray) (hcl : cs.length = m * i.size) (hsrc : ∀ j v, cs[j]? = some v → w.cell? (ad.add j) = some v) (hroom : n + m ≤ c) (hfit : n * i.size + cs.length ≤ cur.length) (h1 : ∀ v ∈ cs, v.oneCell' = true)
    (h : ∀ w', Blk w' g elem (splice cur (n * i.size) cs).toArray → Only [g] w w' → wpList P ops Q rest (a.put o.dst (.slice (some ⟨g, 0, none⟩) (n + m) c)) w') : wpList P ops Q (o :: rest) a w :=
  wpList_plain hgd fun _ hK => wp_append_in ho hu hi g n c m c2 ad cur cs hs hx hg hcl hsrc hroom hfit h1 fun w' h2 h3 => hK _ _ (h w' h2 h3)
theorem step_append_in (hgd : o.guard = none) {s x : Operand} {t : TypeId} (ho : o.op = .call { callee := .builtin .append, args := #[s, x], argTypes := #[t, t] }) {elem : TypeId} {i : TypeInfo} (hu : P.underlying t = some (.slice elem)) (hi : P.info? elem = some i)
    (g n c m c2 : Nat) (ad : Addr) (cur cs : List Value) (hs : a.eval s = .slice (some ⟨g, 0, none⟩) n c) (hx : a.eval x = .slice (some ad) m c2)
    (hg : Blk w g elem cur.toArray) (hcl : cs.length = m * i.size) (hsrc : ∀ j v, cs[j]? = some v → w.cell? (ad.add j) = some v) (hroom : n + m ≤ c) (hfit : n * i.size + cs.length ≤ cur.length) (h1 : ∀ v ∈ cs, v.oneCell' = true)
    (h : ∀ w', Blk w' g elem (splice cur (n * i.size) cs).toArray → Only [g] w w' → K (a.put o.dst (.slice (some ⟨g, 0, none⟩) (n + m) c)) w') : if Region.wanted o (yielded ops a.tmps) = true then Oper.wp P o a w K Q else E := by
  have hw : Region.wanted o (yielded ops a.tmps) = true := by simp [Region.wanted, hgd]
  rw [if_pos hw]
  exact wp_append_in ho hu hi g n c m c2 ad cur cs hs hx hg hcl hsrc hroom hfit h1 h
/-- append(s, make(S, k)...) beyond the capacity: a new row. -/
theorem wpList_append_zeros (hgd : o.guard = none) {s x : Operand} {t tn : TypeId} (ho : o.op = .call { callee := .builtin .append, args := #[s, x], argTypes := #[t, tn] }) {elem : TypeId} {i : TypeInfo} {z : Value} {kn : IntKind} (hu : P.underlying t = some (.slice elem)) (htn : P.underlying tn = some (.int kn))
    (hi : P.info? elem = some i) (hz : i.zero = some z) (hzs : z.cells.size = i.size) (hs0 : 0 < i.size)
    (ad : Addr) (n c k m : Nat) (zk : Int) (hkz : zk = (k : Int)) (hm : n + k = m) (olds : List Value) (hs : a.eval s = .slice (some ad) n c) (hx : a.eval x = .int .i64 zk) (hol : olds.length = n * i.size) (hold : ∀ j v, olds[j]? = some v → w.cell? (ad.add j) = some v)
    (h0 : 0 < k) (hg : c < n + k) (hb1 : 1 ≤ i.bytes) (hb : (n + k) * i.bytes ≤ 140737488355328)
    (h : ∀ (G : Nat) (cur : List Value) w', m ≤ G → G ≤ maxLen → cur.length = G * i.size → cur.take (n * i.size) = olds → Blk w' w.heap.size elem cur.toArray → Only [] w w' → w.heap.size < w'.heap.size → wpList P ops Q rest (a.put o.dst (.slice (some ⟨w.heap.size, 0, none⟩) m G)) w') : wpList P ops Q (o :: rest) a w := by
  subst hkz hm
  refine wpList_plain hgd fun _ hK => ?_
  have hnk : n + k ≤ 140737488355328 := Nat.le_trans (Nat.le_mul_of_pos_right _ hb1) hb
  have hkb : k * i.bytes ≤ 281474976710656 := by
    have : k * i.bytes ≤ (n + k) * i.bytes := Nat.mul_le_mul_right _ (by omega)
    omega
  have hf : (Builtin.firstCells i.size n (.slice (some ad) n c)).run P w.drew = .ok olds.toArray w.drew := run_firstCells_some w.drew i.size n ad n c olds hol hold
  have hr := Lib.run_append_grow_zeros w t tn o.type elem i z .i64 kn hu htn hi hz (some ad) n c olds hf k h0 hs0 hg (by omega) hkb (growslice_fits hg hb)
  have hge := grownCap_ge w (n + k) c elem
  have hle := grownCap_le_maxLen w (n + k) c elem (by unfold maxLen; omega)
  unfold Oper.wp execOp
  simp only [ho, resolve, invoke, builtin, Sem.run_bind, Sem.run_pure, Result.andThen_ok, List.map_toArray, List.map_cons, List.map_nil, hs, hx, hr]
  refine hK _ _ (h _ (olds ++ (Builtin.zeroCells z.cells k).toList ++ (Builtin.zeroCells z.cells (grownCap w (n + k) c elem - (n + k))).toList) _ hge hle ?_ ?_ ?_ ?_ ?_)
  · simp only [List.length_append, Array.length_toList, size_zeroCells, hol, hzs, ← Nat.add_mul]
    congr 1; omega
  · rw [List.append_assoc, List.take_append_of_le_length (by omega), List.take_of_length_le (by omega)]
  · have := Blk.new w.drew elem (olds.toArray ++ Builtin.zeroCells z.cells k ++ Builtin.zeroCells z.cells (grownCap w (n + k) c elem - (n + k)))
    exact this.eq (by apply Array.ext'; simp)
  · exact (Only.refl [] w).drew.alloc _
  · simp
end

theorem splice_length {L cs : List Value} {off : Nat} (h : off + cs.length ≤ L.length) : (splice L off cs).length = L.length := length_splice L off cs h
end Go.Proofs.YtgicljeedegncaaGreat

namespace Go.Proofs.YtgicljeedegncaaGreat
set_option linter.unusedSimpArgs false
set_option linter.unusedVariables false

/-- A range. -/
structure Rg where
  lo : Int
  hi : Int
  deriving DecidableEq

/-- Ranges that rise, do not touch, and have a number at least. -/
structure GoodR (rs : List Rg) : Prop where
  sorted : rs.Pairwise fun a b => a.hi + 1 < b.lo
  le : ∀ r ∈ rs, r.lo ≤ r.hi
  lo : ∀ r ∈ rs, 0 ≤ r.lo
  hi : ∀ r ∈ rs, r.hi ≤ 9007199254740991
def memR (n : Int) (rs : List Rg) : Prop := ∃ r ∈ rs, r.lo ≤ n ∧ n ≤ r.hi

/-- The place of the first range that ends at n, or behind it. -/
def fstHi (n : Int) (rs : List Rg) : Nat := (rs.takeWhile fun r => decide (r.hi < n)).length
/-- The place of the first range that begins behind n. -/
def fstLo (n : Int) (rs : List Rg) : Nat := (rs.takeWhile fun r => decide (r.lo ≤ n)).length

theorem twl_cons {α : Type} (p : α → Bool) (x : α) (l : List α) : ((x :: l).takeWhile p).length = if p x = true then (l.takeWhile p).length + 1 else 0 := by
  rw [List.takeWhile_cons]
  split <;> simp_all
theorem tw_le {α : Type} (p : α → Bool) (l : List α) : (l.takeWhile p).length ≤ l.length := (List.takeWhile_sublist _).length_le
theorem tw_lt {α : Type} {p : α → Bool} : ∀ {l : List α} {i : Nat} {x : α}, i < (l.takeWhile p).length → l[i]? = some x → p x = true
  | [], i, x, _, h => by simp at h
  | y :: l, i, x, hi, h => by
    rw [twl_cons] at hi
    split at hi
    · rename_i hy
      cases i with
      | zero => simp at h; subst h; exact hy
      | succ i => exact tw_lt (l := l) (i := i) (by omega) (by simpa using h)
    · omega
theorem tw_ge {α : Type} {p : α → Bool} {R : α → α → Prop} (hp : ∀ a b, R a b → p b = true → p a = true) : ∀ {l : List α} {i : Nat} {x : α}, l.Pairwise R → (l.takeWhile p).length ≤ i → l[i]? = some x → p x = false
  | [], i, x, _, _, h => by simp at h
  | y :: l, i, x, hs, hi, h => by
    obtain ⟨h1, h2⟩ := List.pairwise_cons.1 hs
    rw [twl_cons] at hi
    split at hi
    · cases i with
      | zero => omega
      | succ i => exact tw_ge hp (l := l) (i := i) h2 (by omega) (by simpa using h)
    · rename_i hy
      cases i with
      | zero => simp at h; subst h; simpa using hy
      | succ i =>
        have hm : x ∈ l := List.mem_of_getElem? (i := i) (by simpa using h)
        have := h1 x hm
        cases hx : p x with
        | false => rfl
        | true => exact absurd (hp y x this hx) hy

theorem fstHi_lt {n : Int} {rs : List Rg} {i : Nat} {r : Rg} (hi : i < fstHi n rs) (h : rs[i]? = some r) : r.hi < n := by simpa using tw_lt hi h
theorem fstLo_lt {n : Int} {rs : List Rg} {i : Nat} {r : Rg} (hi : i < fstLo n rs) (h : rs[i]? = some r) : r.lo ≤ n := by simpa using tw_lt hi h
theorem fstLe_hi (n : Int) (rs : List Rg) : fstHi n rs ≤ rs.length := tw_le _ _
theorem fstLe_lo (n : Int) (rs : List Rg) : fstLo n rs ≤ rs.length := tw_le _ _
theorem GoodR.pw {rs : List Rg} (h : GoodR rs) : rs.Pairwise fun a b => a.hi < b.hi ∧ a.lo < b.lo := by
  have h1 := h.sorted
  have h2 := h.le
  clear h
  induction rs with
  | nil => exact List.Pairwise.nil
  | cons r rs ih =>
    obtain ⟨k1, k2⟩ := List.pairwise_cons.1 h1
    refine List.pairwise_cons.2 ⟨fun x hx => ?_, ih k2 (fun x hx => h2 x (by simp [hx]))⟩
    have a1 := k1 x hx
    have a2 := h2 x (by simp [hx])
    have a3 := h2 r (by simp)
    omega
theorem fstHi_ge {n : Int} {rs : List Rg} {i : Nat} {r : Rg} (h : GoodR rs) (hi : fstHi n rs ≤ i) (hr : rs[i]? = some r) : n ≤ r.hi := by
  have := tw_ge (R := fun a b : Rg => a.hi < b.hi ∧ a.lo < b.lo) (p := fun r : Rg => decide (r.hi < n)) (fun a b hab hb => by simp at hb ⊢; omega) h.pw hi hr
  simpa using this
theorem fstLo_ge {n : Int} {rs : List Rg} {i : Nat} {r : Rg} (h : GoodR rs) (hi : fstLo n rs ≤ i) (hr : rs[i]? = some r) : n < r.lo := by
  have := tw_ge (R := fun a b : Rg => a.hi < b.hi ∧ a.lo < b.lo) (p := fun r : Rg => decide (r.lo ≤ n)) (fun a b hab hb => by simp at hb ⊢; omega) h.pw hi hr
  simpa using this
theorem GoodR.gap {rs : List Rg} (h : GoodR rs) {i j : Nat} {a b : Rg} (hij : i < j) (ha : rs[i]? = some a) (hb : rs[j]? = some b) : a.hi + 1 < b.lo := by
  obtain ⟨h1, e1⟩ := List.getElem?_eq_some_iff.1 ha
  obtain ⟨h2, e2⟩ := List.getElem?_eq_some_iff.1 hb
  have := List.pairwise_iff_getElem.1 h.sorted i j h1 h2 hij
  rw [e1, e2] at this; exact this

/-- The set with the numbers from lo to hi besides. -/
def addR (lo hi : Int) : List Rg → List Rg
  | [] => [⟨lo, hi⟩]
  | r :: rs => if r.hi < lo - 1 then r :: addR lo hi rs else if hi + 1 < r.lo then ⟨lo, hi⟩ :: r :: rs else addR (min lo r.lo) (max hi r.hi) rs
/-- The set without what lies below b. -/
def cutR (b : Int) : List Rg → List Rg
  | [] => []
  | r :: rs => if r.hi < b then cutR b rs else ⟨max r.lo b, r.hi⟩ :: rs

theorem GoodR.cons {r : Rg} {rs : List Rg} (h : GoodR (r :: rs)) : GoodR rs ∧ r.lo ≤ r.hi ∧ 0 ≤ r.lo ∧ r.hi ≤ 9007199254740991 ∧ (∀ x ∈ rs, r.hi + 1 < x.lo) := by
  obtain ⟨h1, h2⟩ := List.pairwise_cons.1 h.sorted
  exact ⟨⟨h2, fun x hx => h.le x (by simp [hx]), fun x hx => h.lo x (by simp [hx]), fun x hx => h.hi x (by simp [hx])⟩, h.le r (by simp), h.lo r (by simp), h.hi r (by simp), h1⟩
theorem GoodR.mk_cons {r : Rg} {rs : List Rg} (h : GoodR rs) (h1 : r.lo ≤ r.hi) (h2 : 0 ≤ r.lo) (h3 : r.hi ≤ 9007199254740991) (h4 : ∀ x ∈ rs, r.hi + 1 < x.lo) : GoodR (r :: rs) :=
  ⟨List.pairwise_cons.2 ⟨h4, h.sorted⟩, fun x hx => by rcases List.mem_cons.1 hx with rfl | hx; exact h1; exact h.le x hx, fun x hx => by rcases List.mem_cons.1 hx with rfl | hx; exact h2; exact h.lo x hx,
   fun x hx => by rcases List.mem_cons.1 hx with rfl | hx; exact h3; exact h.hi x hx⟩
theorem GoodR.nil : GoodR [] := ⟨List.Pairwise.nil, by simp, by simp, by simp⟩
theorem memR_cons (n : Int) (r : Rg) (rs : List Rg) : memR n (r :: rs) ↔ (r.lo ≤ n ∧ n ≤ r.hi) ∨ memR n rs := by
  unfold memR
  constructor
  · rintro ⟨x, hx, h⟩
    rcases List.mem_cons.1 hx with rfl | hx
    · exact .inl h
    · exact .inr ⟨x, hx, h⟩
  · rintro (h | ⟨x, hx, h⟩)
    · exact ⟨r, by simp, h⟩
    · exact ⟨x, by simp [hx], h⟩
theorem memR_nil (n : Int) : ¬ memR n [] := by rintro ⟨x, hx, _⟩; simp at hx
theorem memR_gt {n : Int} {rs : List Rg} {b : Int} (h : ∀ x ∈ rs, b < x.lo) (hm : memR n rs) : b < n := by
  obtain ⟨x, hx, h1, h2⟩ := hm
  have := h x hx
  omega

theorem addR_good : ∀ {rs : List Rg} {lo hi : Int}, GoodR rs → lo ≤ hi → 0 ≤ lo → hi ≤ 9007199254740991 → GoodR (addR lo hi rs) ∧ (∀ b : Int, b < lo → (∀ x ∈ rs, b < x.lo) → ∀ x ∈ addR lo hi rs, b < x.lo)
  | [], lo, hi, _, h1, h2, h3 => by
    unfold addR
    exact ⟨GoodR.nil.mk_cons h1 h2 h3 (by simp), fun b hb _ x hx => by simp at hx; subst hx; exact hb⟩
  | r :: rs, lo, hi, h, h1, h2, h3 => by
    obtain ⟨g, a1, a2, a3, a4⟩ := h.cons
    unfold addR
    split
    · rename_i c
      obtain ⟨k1, k2⟩ := addR_good g h1 h2 h3
      refine ⟨k1.mk_cons a1 a2 a3 (k2 (r.hi + 1) (by omega) a4), fun b hb hx x hm => ?_⟩
      rcases List.mem_cons.1 hm with rfl | hm
      · exact hx _ (by simp)
      · exact k2 b hb (fun y hy => hx y (by simp [hy])) x hm
    · split
      · rename_i c1 c2
        refine ⟨h.mk_cons h1 h2 h3 (fun x hx => ?_), fun b hb hx x hm => ?_⟩
        · rcases List.mem_cons.1 hx with rfl | hx
          · exact c2
          · have := a4 x hx; show hi + 1 < x.lo; omega
        · rcases List.mem_cons.1 hm with rfl | hm
          · exact hb
          · exact hx x hm
      · rename_i c1 c2
        obtain ⟨k1, k2⟩ := addR_good (rs := rs) (lo := min lo r.lo) (hi := max hi r.hi) g (by omega) (by omega) (by omega)
        exact ⟨k1, fun b hb hx x hm => k2 b (by have := hx r (by simp); omega) (fun y hy => hx y (by simp [hy])) x hm⟩
theorem memR_addR (n : Int) : ∀ {rs : List Rg} {lo hi : Int}, GoodR rs → lo ≤ hi → (memR n (addR lo hi rs) ↔ memR n rs ∨ (lo ≤ n ∧ n ≤ hi))
  | [], lo, hi, _, h1 => by
    unfold addR
    rw [memR_cons]
    constructor
    · rintro (h | h)
      · exact .inr h
      · exact absurd h (memR_nil n)
    · rintro (h | h)
      · exact absurd h (memR_nil n)
      · exact .inl h
  | r :: rs, lo, hi, h, h1 => by
    obtain ⟨g, a1, a2, a3, a4⟩ := h.cons
    unfold addR
    split
    · rw [memR_cons, memR_cons, memR_addR n g h1]
      constructor
      · rintro (h | h | h)
        · exact .inl (.inl h)
        · exact .inl (.inr h)
        · exact .inr h
      · rintro ((h | h) | h)
        · exact .inl h
        · exact .inr (.inl h)
        · exact .inr (.inr h)
    · split
      · rw [memR_cons (r := ⟨lo, hi⟩)]
        exact or_comm
      · rename_i c1 c2
        rw [memR_addR n g (by omega), memR_cons]
        constructor
        · rintro (h | h)
          · exact .inl (.inr h)
          · by_cases e : lo ≤ n ∧ n ≤ hi
            · exact .inr e
            · exact .inl (.inl (by omega))
        · rintro ((h | h) | h)
          · exact .inr (by omega)
          · exact .inl h
          · exact .inr (by omega)
theorem cutR_good : ∀ {rs : List Rg} {b : Int}, GoodR rs → GoodR (cutR b rs)
  | [], b, _ => GoodR.nil
  | r :: rs, b, h => by
    obtain ⟨g, a1, a2, a3, a4⟩ := h.cons
    unfold cutR
    split
    · exact cutR_good g
    · exact g.mk_cons (by show max r.lo b ≤ r.hi; omega) (by show 0 ≤ max r.lo b; omega) a3 a4
theorem memR_cutR (n : Int) : ∀ {rs : List Rg} {b : Int}, GoodR rs → (memR n (cutR b rs) ↔ memR n rs ∧ b ≤ n)
  | [], b, _ => by unfold cutR; exact ⟨fun h => absurd h (memR_nil n), fun h => absurd h.1 (memR_nil n)⟩
  | r :: rs, b, h => by
    obtain ⟨g, a1, a2, a3, a4⟩ := h.cons
    unfold cutR
    split
    · rename_i c
      rw [memR_cutR n g, memR_cons]
      constructor
      · rintro ⟨h1, h2⟩; exact ⟨.inr h1, h2⟩
      · rintro ⟨h1 | h1, h2⟩
        · omega
        · exact ⟨h1, h2⟩
    · rename_i c
      rw [memR_cons, memR_cons]
      have e : (∀ h : memR n rs, b ≤ n) := fun hm => by have := memR_gt a4 hm; omega
      constructor
      · rintro (h1 | h1)
        · exact ⟨.inl (by simp only at h1; omega), by simp only at h1; omega⟩
        · exact ⟨.inr h1, e h1⟩
      · rintro ⟨h1 | h1, h2⟩
        · exact .inl (by simp only; omega)
        · exact .inr h1
/-- Two sets that have the same numbers have the same ranges. -/
theorem ext_R : ∀ {a b : List Rg}, GoodR a → GoodR b → (∀ n, memR n a ↔ memR n b) → a = b
  | [], [], _, _, _ => rfl
  | [], y :: b, _, hb, h => by
    obtain ⟨_, b1, _⟩ := hb.cons
    exact absurd ((h y.lo).2 ((memR_cons _ _ _).2 (.inl ⟨Int.le_refl _, b1⟩))) (memR_nil _)
  | x :: a, [], ha, _, h => by
    obtain ⟨_, b1, _⟩ := ha.cons
    exact absurd ((h x.lo).1 ((memR_cons _ _ _).2 (.inl ⟨Int.le_refl _, b1⟩))) (memR_nil _)
  | x :: a, y :: b, ha, hb, h => by
    obtain ⟨ga, a1, a2, a3, a4⟩ := ha.cons
    obtain ⟨gb, b1, b2, b3, b4⟩ := hb.cons
    have xl := (h x.lo).1 ((memR_cons _ _ _).2 (.inl ⟨Int.le_refl _, a1⟩))
    have yl := (h y.lo).2 ((memR_cons _ _ _).2 (.inl ⟨Int.le_refl _, b1⟩))
    have e1 : x.lo = y.lo := by
      rcases (memR_cons _ _ _).1 xl with k | k <;> rcases (memR_cons _ _ _).1 yl with k' | k'
      · omega
      · have := memR_gt a4 k'; omega
      · have := memR_gt b4 k; omega
      · have := memR_gt a4 k'; have := memR_gt b4 k; omega
    have e2 : x.hi = y.hi := by
      rcases Int.lt_trichotomy x.hi y.hi with c | c | c
      · exfalso
        have := (h (x.hi + 1)).2 ((memR_cons _ _ _).2 (.inl (by omega)))
        rcases (memR_cons _ _ _).1 this with k | k
        · omega
        · have := memR_gt a4 k; omega
      · exact c
      · exfalso
        have := (h (y.hi + 1)).1 ((memR_cons _ _ _).2 (.inl (by omega)))
        rcases (memR_cons _ _ _).1 this with k | k
        · omega
        · have := memR_gt b4 k; omega
    have exy : x = y := by cases x; cases y; simp_all
    subst exy
    congr 1
    refine ext_R ga gb fun n => ⟨fun hm => ?_, fun hm => ?_⟩
    · rcases (memR_cons _ _ _).1 ((h n).1 ((memR_cons _ _ _).2 (.inr hm))) with k | k
      · have := memR_gt a4 hm; omega
      · exact k
    · rcases (memR_cons _ _ _).1 ((h n).2 ((memR_cons _ _ _).2 (.inr hm))) with k | k
      · have := memR_gt b4 hm; omega
      · exact k

theorem from_le_to {rs : List Rg} {lo hi : Int} (h : GoodR rs) (hl : lo ≤ hi) : fstHi (lo - 1) rs ≤ fstLo (hi + 1) rs := by
  rcases Nat.lt_or_ge (fstLo (hi + 1) rs) (fstHi (lo - 1) rs) with hlt | hge
  · exfalso
    have h1 := fstLe_hi (lo - 1) rs
    have hx : rs[fstLo (hi + 1) rs]? = some rs[fstLo (hi + 1) rs] := List.getElem?_eq_getElem (by omega)
    have a := fstHi_lt hlt hx
    have b := fstLo_ge h (Nat.le_refl _) hx
    have c := h.le _ (List.mem_of_getElem? hx)
    omega
  · exact hge

theorem fstHi_cons (n : Int) (r : Rg) (rs : List Rg) : fstHi n (r :: rs) = if r.hi < n then fstHi n rs + 1 else 0 := by
  unfold fstHi; rw [twl_cons]; simp
theorem fstLo_cons (n : Int) (r : Rg) (rs : List Rg) : fstLo n (r :: rs) = if r.lo ≤ n then fstLo n rs + 1 else 0 := by
  unfold fstLo; rw [twl_cons]; simp
theorem fstHi_zero {n : Int} : ∀ {rs : List Rg}, (∀ x ∈ rs, n ≤ x.hi) → fstHi n rs = 0
  | [], _ => rfl
  | r :: rs, h => by rw [fstHi_cons, if_neg (by have := h r (by simp); omega)]
theorem fstLo_congr {a b : Int} : ∀ {rs : List Rg}, (∀ x ∈ rs, x.lo ≤ a ↔ x.lo ≤ b) → fstLo a rs = fstLo b rs
  | [], _ => rfl
  | r :: rs, h => by
    rw [fstLo_cons, fstLo_cons, fstLo_congr (rs := rs) (fun x hx => h x (by simp [hx]))]
    by_cases c : r.lo ≤ a
    · rw [if_pos c, if_pos ((h r (by simp)).1 c)]
    · rw [if_neg c, if_neg (fun k => c ((h r (by simp)).2 k))]
/-- What lies at a place (or nothing of note). -/
def atR (rs : List Rg) (i : Nat) : Rg := (rs[i]?).getD ⟨0, 0⟩
theorem atR_some {rs : List Rg} {i : Nat} {r : Rg} (h : rs[i]? = some r) : atR rs i = r := by unfold atR; rw [h]; rfl
/-- The range that is put in. -/
def joined (f t : Nat) (lo hi : Int) (rs : List Rg) : Rg := if f < t then ⟨min lo (atR rs f).lo, max hi (atR rs (t - 1)).hi⟩ else ⟨lo, hi⟩
theorem joined_succ (f t : Nat) (lo hi : Int) (r : Rg) (rs : List Rg) : joined (f + 1) (t + 1) lo hi (r :: rs) = joined f t lo hi rs := by
  unfold joined
  by_cases c : f < t
  · rw [if_pos c, if_pos (by omega)]
    have e1 : atR (r :: rs) (f + 1) = atR rs f := rfl
    have e2 : atR (r :: rs) (t + 1 - 1) = atR rs (t - 1) := by
      rw [show t + 1 - 1 = (t - 1) + 1 by omega]; rfl
    rw [e1, e2]
  · rw [if_neg c, if_neg (by omega)]
/-- As the program makes it: what lies ahead of a place, one range, what lies behind another place. -/
theorem addR_eq : ∀ {rs : List Rg} {lo hi : Int}, GoodR rs → lo ≤ hi →
    addR lo hi rs = rs.take (fstHi (lo - 1) rs) ++ joined (fstHi (lo - 1) rs) (fstLo (hi + 1) rs) lo hi rs :: rs.drop (fstLo (hi + 1) rs)
  | [], lo, hi, _, _ => by simp [addR, fstHi, fstLo, joined]
  | r :: rs, lo, hi, h, hl => by
    obtain ⟨g, a1, a2, a3, a4⟩ := h.cons
    unfold addR
    rw [fstHi_cons, fstLo_cons]
    by_cases c1 : r.hi < lo - 1
    · rw [if_pos c1, if_pos c1, if_pos (by omega), joined_succ, addR_eq g hl]
      rfl
    · rw [if_neg c1, if_neg c1]
      by_cases c2 : hi + 1 < r.lo
      · rw [if_pos c2, if_neg (by omega)]
        simp [joined]
      · rw [if_neg c2, if_pos (by omega), addR_eq g (by omega)]
        have hlo : ∀ x ∈ rs, min lo r.lo - 1 ≤ x.hi := fun x hx => by have := a4 x hx; have := g.le x hx; omega
        rw [fstHi_zero hlo, fstLo_congr (a := max hi r.hi + 1) (b := hi + 1) (fun x hx => by have := a4 x hx; omega)]
        simp only [List.take_zero, List.nil_append, List.drop_succ_cons, List.cons.injEq, and_true]
        unfold joined
        rw [if_pos (show 0 < fstLo (hi + 1) rs + 1 by omega)]
        rcases Nat.eq_zero_or_pos (fstLo (hi + 1) rs) with hz | hp
        · rw [hz, if_neg (by omega)]
          rfl
        · rw [if_pos hp]
          have hle := fstLe_lo (hi + 1) rs
          obtain ⟨x, hx⟩ : ∃ x, rs[0]? = some x := ⟨_, List.getElem?_eq_getElem (by omega)⟩
          obtain ⟨y, hy⟩ : ∃ y, rs[fstLo (hi + 1) rs - 1]? = some y := ⟨_, List.getElem?_eq_getElem (by omega)⟩
          have hx2 := a4 x (List.mem_of_getElem? hx)
          have hy2 := a4 y (List.mem_of_getElem? hy)
          have hy3 := g.le y (List.mem_of_getElem? hy)
          rw [atR_some hx, atR_some hy]
          have e1 : atR (r :: rs) 0 = r := rfl
          have e2 : atR (r :: rs) (fstLo (hi + 1) rs + 1 - 1) = y := by
            refine atR_some ?_
            rw [show fstLo (hi + 1) rs + 1 - 1 = (fstLo (hi + 1) rs - 1) + 1 by omega]
            simpa using hy
          rw [e1, e2]
          congr 1 <;> omega
theorem cutR_eq (b : Int) : ∀ (rs : List Rg), cutR b rs = match rs.drop (fstHi b rs) with
    | [] => []
    | r :: l => ⟨max r.lo b, r.hi⟩ :: l
  | [] => rfl
  | r :: rs => by
    unfold cutR
    rw [fstHi_cons]
    by_cases c : r.hi < b
    · rw [if_pos c, if_pos c, List.drop_succ_cons]; exact cutR_eq b rs
    · rw [if_neg c, if_neg c]; rfl
theorem addR_length {rs : List Rg} {lo hi : Int} (h : GoodR rs) (hl : lo ≤ hi) : (addR lo hi rs).length + fstLo (hi + 1) rs = rs.length + fstHi (lo - 1) rs + 1 := by
  have h1 := fstLe_hi (lo - 1) rs
  have h2 := fstLe_lo (hi + 1) rs
  rw [addR_eq h hl]
  simp only [List.length_append, List.length_take, List.length_cons, List.length_drop]
  omega
end Go.Proofs.YtgicljeedegncaaGreat

namespace Go.Proofs.YtgicljeedegncaaGreat
set_option linter.unusedSimpArgs false
set_option linter.unusedVariables false
open Go.RowKit

def rgCells (r : Rg) : List Value := [.int .i64 r.lo, .int .i64 r.hi]
theorem rgCells_length (r : Rg) : (rgCells r).length = 2 := rfl
def rgsCells (rs : List Rg) : List Value := rs.flatMap rgCells
theorem rgs_length (rs : List Rg) : (rgsCells rs).length = rs.length * 2 := flat_length rgCells 2 rgCells_length rs
theorem rgs_append (a b : List Rg) : rgsCells (a ++ b) = rgsCells a ++ rgsCells b := by simp [rgsCells]
theorem rgs_one {rs : List Rg} : ∀ u ∈ rgsCells rs, u.oneCell' = true := by
  intro u hu
  obtain ⟨s, _, hs⟩ := List.mem_flatMap.1 hu
  simp [rgCells] at hs
  rcases hs with h | h <;> subst h <;> rfl
theorem rg_info : (Tryz.prog.info? 93).map (fun i => (i.zero, i.size, i.bytes)) = some (some (.agg #[.int .i64 0, .int .i64 0]), 2, 16) := by kernel_rfl
theorem rg_zero_one {n : Nat} : ∀ v ∈ (Builtin.zeroCells (Value.agg #[.int .i64 0, .int .i64 0]).cells n).toList, v.oneCell' = true := by
  intro v hv
  simp [Builtin.zeroCells, Value.cells] at hv
  obtain ⟨a, ha, rfl⟩ := hv
  rcases Nat.mod_two_eq_zero_or_one a with h | h <;> rw [h] <;> rfl

/-- The cells of a row: those of the ranges ahead of a place, those from there on, the rest. -/
theorem cur_split {cur : List Value} {rs : List Rg} {n : Nat} (h : cur.take (n * 2) = rgsCells rs) (f : Nat) : ∃ rest, cur = rgsCells (rs.take f) ++ (rgsCells (rs.drop f) ++ rest) := by
  refine ⟨cur.drop (n * 2), ?_⟩
  rw [← List.append_assoc, ← rgs_append, List.take_append_drop, ← h, List.take_append_drop]
theorem src_blk {w : World} {g t o : Nat} {cur pre cs post : List Value} (h : Blk w g t cur.toArray) (e : cur = pre ++ (cs ++ post)) (ho : pre.length = o) : ∀ j v, cs[j]? = some v → w.cell? ((⟨g, o, none⟩ : Addr).add j) = some v := by
  intro j v hj
  have hadd : (⟨g, o, none⟩ : Addr).add j = ⟨g, o + j, none⟩ := by unfold Addr.add; split <;> simp_all
  have hl : j < cs.length := (List.getElem?_eq_some_iff.1 hj).1
  rw [hadd, h.cell, List.getElem?_toArray, e, List.getElem?_append_right (by omega), List.getElem?_append_left (by omega), show o + j - pre.length = j by omega]
  exact hj
theorem splice_mid {pre mid post cs : List Value} {o : Nat} (ho : pre.length = o) (hl : cs.length = mid.length) : splice (pre ++ (mid ++ post)) o cs = pre ++ (cs ++ post) := by
  unfold splice
  rw [List.take_left' ho, hl, ← List.append_assoc pre mid post, List.drop_left' (by simp; omega)]
theorem rg_cells_new (x : Rg) : #[Value.int .i64 x.lo, .int .i64 x.hi] = (rgCells x).toArray := rfl

/-- slices.overlaps of rows in two blocks. -/
theorem overlaps_apart {w : World} {a b : Nat} {ca cb : Array Value} (oa ob la xa lb xb : Nat) (hA : Blk w a 93 ca) (hB : Blk w b 93 cb) (hne : a ≠ b) (h0 : cb.size ≠ 0) :
    (callFunc 158 #[.slice (some ⟨a, oa, none⟩) la xa, .slice (some ⟨b, ob, none⟩) lb xb]).run Tryz.prog w = .ok (.value (.bool false)) w := by
  obtain ⟨i0, hi, hz0, hz1, hz2⟩ := info_parts rg_info
  have hz : ∀ w, (Go.sizeOf 93).run Tryz.prog w = .ok 2 w := fun w => by simp [sizeOf, typeInfo, hi, hz1]
  have hsa : w.shape? a = some (93, ca.size) := by unfold Blk at hA; simp [World.shape?, hA]
  have hsb : w.shape? b = some (93, cb.size) := by unfold Blk at hB; simp [World.shape?, hB]
  have hov := Lib.run_overlaps_apart (P := Tryz.prog) w 50 4 93 Tryz.underlying50 2 hz ⟨a, oa, none⟩ ⟨b, ob, none⟩ la xa lb xb hne _ _ _ _ hsa hsb h0 (hA.frozen _) (hA.frozen _)
  rw [run_callFunc_extern (f := 158) Tryz.func158 (by kernel_rfl) (by kernel_rfl) (by kernel_rfl) (e := Extern.SlicesOverlaps.overlaps #[50, 50] #[4]) (by kernel_rfl), hov]
  rfl
end Go.Proofs.YtgicljeedegncaaGreat

namespace Go.Proofs.YtgicljeedegncaaGreat
open Go

section
variable {P : Program} {ops : Array Oper} {Q : Exit → Act → World → Prop} {md : Region.Mode} {C : World → Prop} {st : Nat}

/-- Whatever order is picked from here on; C holds behind every operation until st has come up. -/
def wpAnyS (P : Program) (md : Region.Mode) (ops : Array Oper) (Q : Exit → Act → World → Prop) (C : World → Prop) (st : Nat) : Nat → Array Bool → Act → World → Prop
  | 0, listed, a, w => Region.ready md ops listed = [] ∧ Q .normal a w
  | fuel + 1, listed, a, w =>
    (Region.ready md ops listed = [] → Q .normal a w) ∧
    ∀ i ∈ Region.ready md ops listed, wpOp P ops Q i (fun a' w' => ((listed.setIfInBounds i true).getD st false = false → C w') ∧ wpAnyS P md ops Q C st fuel (listed.setIfInBounds i true) a' w') a w

theorem wpAny_of_S : ∀ (fuel : Nat) (listed : Array Bool) (a : Act) (w : World), wpAnyS P md ops Q C st fuel listed a w → wpAny P md ops Q fuel listed a w
  | 0, _, _, _, h => h
  | fuel + 1, _, _, _, h => ⟨h.1, fun i hi => wpOp_mono (fun a' w' h' => wpAny_of_S fuel _ a' w' h'.2) (h.2 i hi)⟩

theorem wpAnyS_first {i : Nat} {oi : Oper} {v : Value} (hi : ops[i]? = some oi) (hsel : ∀ (j : Nat) (o : Oper) cs b, ops[j]? = some o → o.op ≠ .select cs b)
    (hQ : ∀ c a w, Q (.panic c) (a.put oi.dst v) w → Q (.panic c) a w) (hst : Region.waitsFor md ops st i = true ∨ ops.size ≤ st) (his : i ≠ st) :
    ∀ (fuel : Nat) (listed : Array Bool) (a : Act) (w : World),
      (∀ j oj, ops[j]? = some oj → j ≠ i → listed.getD j true = false → (∀ e ∈ oj.after, Region.binds md e = true → e.on ≠ i) → oi.apart ops oj = true) →
      listed.getD st false = false → i ∈ Region.ready md ops listed → YieldsIf P ops C oi v a → C w →
      wpAnyS P md ops Q C st fuel (listed.setIfInBounds i true) (a.put oi.dst v) w → wpAnyS P md ops Q C st (fuel + 1) listed a w := by
  intro fuel
  induction fuel with
  | zero =>
    intro listed a w _ _ hr hy hS H
    refine ⟨fun h => (by rw [h] at hr; cases hr), fun j hj => ?_⟩
    by_cases hji : j = i
    · subst hji; exact hy.wpOp hi hS ⟨fun _ => hS, H⟩
    · have := ready_mono hj hji
      rw [H.1] at this
      cases this
  | succ fuel ih =>
    intro listed a w hfree hsu hr hy hS H
    refine ⟨fun h => (by rw [h] at hr; cases hr), fun j hj => ?_⟩
    by_cases hji : j = i
    · subst hji; exact hy.wpOp hi hS ⟨fun _ => hS, H⟩
    · have h1 := H.2 j (ready_mono hj hji)
      obtain ⟨hjun, oj, hoj, hall⟩ := mem_ready.1 hj
      have hiun := (mem_ready.1 hr).1
      have hnot : ∀ e ∈ oj.after, Region.binds md e = true → e.on ≠ i := fun e he hb heq => by
        have h1 := hall e he hb
        rw [heq, getD_both hiun] at h1
        cases h1
      have hjs : j ≠ st := fun e => by
        subst e
        rcases hst with hst | hst
        case inr => have := (Array.getElem?_eq_some_iff.1 hoj).1; omega
        obtain ⟨o', ho', e', he', hb', hon⟩ := Region.waitsFor_spec hst
        have : o' = oj := Option.some.inj (ho'.symm.trans hoj)
        subst this
        exact hnot e' he' hb' hon
      have h2 := wpOp_putIf hoj (hfree j oj hoj hji hjun hnot) (fun cs b => hsel i oi cs b hi) (fun cs b => hsel j oj cs b hoj) hQ hy h1
      have hfree' : ∀ k ok, ops[k]? = some ok → k ≠ i → (listed.setIfInBounds j true).getD k true = false →
          (∀ e ∈ ok.after, Region.binds md e = true → e.on ≠ i) → oi.apart ops ok = true := fun k ok hk hki hun hno => by
        refine hfree k ok hk hki ?_ hno
        by_cases hjk : j = k
        · subst hjk; exact hjun
        · rw [getD_set_ne true hjk] at hun; exact hun
      -- st has not come up: it waits for i
      have hstun : (listed.setIfInBounds j true).getD st false = false := by rw [getD_set_ne false hjs]; exact hsu
      refine wpOp_mono (fun a' w' h3 => ?_) h2
      have hC : C w' := h3.2.1 (by rw [getD_set_ne false hjs, getD_set_ne false his]; exact hsu)
      refine ⟨fun _ => hC, ih (listed.setIfInBounds j true) a' w' hfree' hstun (ready_mono hr (Ne.symm hji)) h3.1 hC ?_⟩
      rw [Array.setIfInBounds_comm _ _ hji]
      exact h3.2.2

/-- Take number i first: st waits for it. -/
theorem wpAnyS_take {i : Nat} {oi : Oper} {v : Value} {fuel : Nat} {listed : Array Bool} {a : Act} {w : World} (hi : ops[i]? = some oi) (hst : ((Region.waitsFor md ops st i || decide (ops.size ≤ st)) && i != st && !listed.getD st false) = true)
    (hs : Region.noSelect ops = true) (hf : Region.free md ops listed i = true) (hr : (Region.ready md ops listed).contains i = true)
    (hQ : ∀ c a w, Q (.panic c) (a.put oi.dst v) w → Q (.panic c) a w) (hy : YieldsIf P ops C oi v a) (hC : C w)
    (h : wpAnyS P md ops Q C st fuel (listed.setIfInBounds i true) (a.put oi.dst v) w) : wpAnyS P md ops Q C st (fuel + 1) listed a w := by
  simp only [Bool.and_eq_true, Bool.or_eq_true, decide_eq_true_eq, bne_iff_ne, ne_eq, Bool.not_eq_true'] at hst
  exact wpAnyS_first hi (Region.noSelect_spec hs) hQ hst.1.1 hst.1.2 fuel listed a w (Region.free_spec hi hf) hst.2 (by simpa using hr) hy hC h
/-- One operation alone may come up. -/
theorem wpAnyS_one {i : Nat} {o : Oper} {fuel : Nat} {listed : Array Bool} {a : Act} {w : World} (ho : ops[i]? = some o) (hr : Region.ready md ops listed = [i])
    (h : ∀ K' : Act → World → Prop, Shut (∀ a w, ((listed.setIfInBounds i true).getD st false = false → C w) → (((listed.setIfInBounds i true).getD st false = false → C w) → wpAnyS P md ops Q C st fuel (listed.setIfInBounds i true) a w) → K' a w) → if Region.wanted o (yielded ops a.tmps) = true then Oper.wp P o a w K' Q else K' (a.put o.dst undef) w) :
    wpAnyS P md ops Q C st (fuel + 1) listed a w := by
  refine ⟨fun h0 => (by rw [hr] at h0; cases h0), fun j hj => ?_⟩
  rw [hr] at hj
  have hji : j = i := by simpa using hj
  subst hji
  exact wpOp_step ho (fun K' hK => h K' (fun a w hS hW => hK a w ⟨hS, hW hS⟩))
/-- All have come up. -/
theorem wpAnyS_done {listed : Array Bool} {a : Act} {w : World} (hr : Region.ready md ops listed = []) (h : Q .normal a w) : ∀ fuel, wpAnyS P md ops Q C st fuel listed a w
  | 0 => ⟨hr, h⟩
  | _ + 1 => ⟨fun _ => h, by rw [hr]; simp⟩
/-- The beginning. -/
theorem wp_region_S (C : World → Prop) (st : Nat) {id : Nat} {a : Act} {w : World} (hm : P.follows .mixedOrders = true) (hC : C w.drew)
    (h : C w.drew → wpAnyS P .any ops Q C st ops.size (Array.replicate ops.size false) a w.drew) : (Code.region id ops true).wp P Q a w :=
  wp_region_any hm (wpAny_of_S _ _ _ _ (h hC))
end
end Go.Proofs.YtgicljeedegncaaGreat

namespace Go.Proofs.YtgicljeedegncaaGreat
open Go.RowKit

theorem tmod_neg (i n : Int) (hn : 1 ≤ n) (hi : i < 0) : (i % n = 0 ∧ i.tmod n = 0) ∨ (1 ≤ i % n ∧ i.tmod n = i % n - n) := by
  have h0 := Int.emod_nonneg i (show n ≠ 0 by omega)
  rw [Int.tmod_eq_emod]
  by_cases hd : n ∣ i
  · left
    have := Int.emod_eq_zero_of_dvd hd
    rw [this]; simp [hd]
  · right
    have h1 : i % n ≠ 0 := fun h => hd (Int.dvd_of_emod_eq_zero h)
    have h2 : ¬ (0 ≤ i ∨ n ∣ i) := by intro h; rcases h with h | h; omega; exact hd h
    rw [if_neg h2]
    omega

set_option maxHeartbeats 400000 in
theorem bring_any (i n : Int) (w : World) (hn : 1 ≤ n) (hn2 : n ≤ 4611686018427387904) (hi : -9223372036854775808 ≤ i) (hi2 : i ≤ 9223372036854775807) :
    Calls Tryz.prog 11 #[.int .i64 i, .int .i64 n] w fun e w' => e = .returned (.int .i64 (i % n)) ∧ w = w' := by
  have b0 := Int.emod_nonneg i (show n ≠ 0 by omega)
  have b1 := Int.emod_lt_of_pos i (show 0 < n by omega)
  have hz : (n == 0) = false := by rw [beq_eq_false_iff_ne]; omega
  by_cases h : 0 ≤ i
  · go_enter Tryz.func11, Tryz.ntmps11
    go_wp2
    go_ret
    exact ⟨rfl, rfl⟩
  · have h' : i < 0 := by omega
    rcases tmod_neg i n hn h' with ⟨h1, h2⟩ | ⟨h1, h2⟩
    · have H1 := hide h1
      have H2 := hide h2
      have c0 : 0 ≤ i.tmod n := by omega
      clear h1 h2
      go_enter Tryz.func11, Tryz.ntmps11
      go_wp2
      go_ret
      exact ⟨ret_int (by rw [H1.out]; exact H2.out), rfl⟩
    · have H2 := hide h2
      have c0 : i.tmod n < 0 := by omega
      have c1 : 0 ≤ i.tmod n + n := by omega
      have c2 : i.tmod n + n ≤ n := by omega
      clear h2
      go_enter Tryz.func11, Tryz.ntmps11
      go_wp2
      go_ret
      exact ⟨ret_int (by have := H2.out; show i.tmod n + n = i % n; omega), rfl⟩
end Go.Proofs.YtgicljeedegncaaGreat

namespace Go.Proofs.YtgicljeedegncaaGreat
open Go.RowKit

/-- What the walk is told of a slice of integers that came in. -/
def IntsAt (w : World) (a : Option Addr) (len cap : Nat) (zs : List Int) : Prop :=
  (a = none ∧ len = 0 ∧ cap = 0 ∧ zs = []) ∨
  ∃ x, a = some x ∧ len ≤ cap ∧ cap ≤ maxLen ∧ zs.length = cap ∧ (∀ i, i < zs.length → w.cell? (x.add i) = some (.int .i64 (zs.getD i 0))) ∧ ∀ n ∈ zs, (Lit.int .i64 n).wf = true

theorem intsAt_get {w : World} {a : Option Addr} {len cap k : Nat} {zs : List Int} (h : IntsAt w a len cap zs) (hk : k < len) :
    ∃ x z, a = some x ∧ w.cell? (x.add k) = some (.int .i64 z) ∧ x.block < w.heap.size ∧ -9223372036854775808 ≤ z ∧ z ≤ 9223372036854775807 ∧ len ≤ 9223372036854775807 := by
  rcases h with ⟨_, rfl, _⟩ | ⟨x, rfl, hl, hm, hz, hc, hw⟩
  · omega
  · have hkz : k < zs.length := by omega
    have hz2 := hc k hkz
    have hmem : zs.getD k 0 ∈ zs := by
      rw [List.getD_eq_getElem?_getD, List.getElem?_eq_getElem hkz]; exact List.getElem_mem hkz
    have hwf := hw _ hmem
    have hb := bounds_i64 hwf
    have hlt := World.block_lt_of_cell? _ _ hz2
    rw [block_of_add] at hlt
    unfold maxLen at hm
    exact ⟨x, _, rfl, hz2, hlt, hb.1, hb.2, by omega⟩
end Go.Proofs.YtgicljeedegncaaGreat

namespace Go.Proofs.YtgicljeedegncaaGreat
open Go.ChangeShapes Go.WideShapes Go.Deep Go.RowKit

section
variable {H : Type} {enc : TypeId × Value → H} {P : Program} {w : World} {base : Nat} {spare : Nat → Bool} {held : Bool}
theorem open_slice_fields {t e : TypeId} {fs : Array Field} {fuel : Nat} {cs : List Value} {x : DataW H × List MemPlace} (ht : P.underlying t = some (.slice e)) (he : P.underlying e = some (.struct fs))
    (hone : oneCellFields P fs = true) (hC : P.cellsOf e = fs.size) (h : DataW.trod enc P w base spare held fuel t cs = some x) :
    (cs = [.slice none 0 0] ∧ x = (.nil, [])) ∨
    ∃ (a : Addr) (len cap m : Nat) (D : Nat → DataW H) (Pl : Nat → List MemPlace), cs = [.slice (some a) len cap] ∧ base ≤ a.block ∧ len ≤ cap ∧ cap ≤ maxLen ∧ m = (if spare a.block then cap else len) ∧
      x = (.slice ((List.range len).map D) ((List.range (m - len)).map fun j => D (len + j)), MemPlace.row a (m * fs.size) ++ (List.range m).flatMap Pl) ∧
      ∀ i, i < m → ∃ (ys : List (DataW H × List MemPlace)) (n : Nat), D i = .agg (ys.map (·.1)) ∧ Pl i = ys.flatMap (·.2) ∧ ys.length = fs.size ∧
        ∀ (j : Nat) (f : Field), fs[j]? = some f → ∃ (v : Value) (y : DataW H × List MemPlace), w.cell? (a.add (i * fs.size + j)) = some v ∧ ys[j]? = some y ∧ DataW.trod enc P w base spare held n f.type [v] = some y := by
  rcases open_slice ht h with h0 | ⟨a, len, cap, m, n, D, Pl, hcs, hb, hl, hm, hmm, hx, hi⟩
  · exact .inl h0
  · refine .inr ⟨a, len, cap, m, D, Pl, hcs, hb, hl, hm, hmm, by rw [hC] at hx; exact hx, fun i him => ?_⟩
    obtain ⟨cs', hc, ht'⟩ := hi i him
    rw [hC] at hc
    obtain ⟨ys, n', hn', hy, hlen, hyl, hf⟩ := DataW.trod_struct he ht'
    obtain ⟨_, hcl, hat⟩ := World.cells?_some hc
    simp only [Prod.mk.injEq] at hy
    refine ⟨ys, n', hy.1, hy.2, hyl, fun j f hj => ?_⟩
    obtain ⟨ho, hk⟩ := hone_of hone j f hj
    have hjl : j < fs.size := (Array.getElem?_eq_some_iff.1 hj).1
    have hcell := hat j hjl
    have hv : cs'[j]? = some (cs'[j]'(by omega)) := List.getElem?_eq_getElem (by omega)
    have h1 := hf j f hj
    rw [ho, hk] at h1
    have hone' : (cs'.drop j).take 1 = [cs'[j]'(by omega)] := by
      rw [List.drop_eq_getElem_cons (by omega)]
      rfl
    rw [hone'] at h1
    have hys : ys[j]? = some (ys[j]'(by omega)) := List.getElem?_eq_getElem (by omega)
    refine ⟨_, _, ?_, hys, h1.trans hys⟩
    rw [← Go.Deep.add_add, hcell, hv]
end

/-- A slice of records of nf integers that came in. -/
def RecsAt (w : World) (a : Option Addr) (len nf : Nat) : Prop :=
  len ≤ 9223372036854775807 ∧ (0 < len → ∃ xb xo, a = some ⟨xb, xo, none⟩ ∧ xb < w.heap.size ∧ ∀ i j, i < len → j < nf → ∃ z, w.cell? ⟨xb, xo + (i * nf + j), none⟩ = some (.int .i64 z) ∧ -9223372036854775808 ≤ z ∧ z ≤ 9223372036854775807)

theorem spot_none {w : World} {x : Addr} {v : Value} (h : w.cell? x = some v) : x.spot = none := by
  unfold World.cell? at h
  split at h
  · cases hs : x.spot with
    | none => rfl
    | some k => simp [hs] at h
  · cases h

section
variable {H : Type} {enc : TypeId × Value → H} {P : Program} {w : World} {base : Nat} {spare : Nat → Bool} {held : Bool}
theorem recs_of_trod {t e : TypeId} {fs : Array Field} {fuel : Nat} {a : Option Addr} {len cap : Nat} {x : DataW H × List MemPlace} (ht : P.underlying t = some (.slice e)) (he : P.underlying e = some (.struct fs))
    (hone : oneCellFields P fs = true) (hC : P.cellsOf e = fs.size) (h0 : 0 < fs.size) (hint : ∀ (j : Nat) (f : Field), fs[j]? = some f → P.underlying f.type = some (.int .i64)) (h : DataW.trod enc P w base spare held fuel t [.slice a len cap] = some x) : RecsAt w a len fs.size := by
  rcases open_slice_fields ht he hone hC h with ⟨hcs, _⟩ | ⟨ad, l, c, m, D, Pl, hcs, _, hl, hm, hmm, _, hf⟩
  · simp at hcs
    obtain ⟨rfl, rfl, rfl⟩ := hcs
    exact ⟨by omega, fun h => absurd h (by omega)⟩
  · simp at hcs
    obtain ⟨rfl, rfl, rfl⟩ := hcs
    have hlm : len ≤ m := by rw [hmm]; split <;> omega
    unfold maxLen at hm
    refine ⟨by omega, fun hpos => ?_⟩
    have get : ∀ i j, i < len → j < fs.size → ∃ z, w.cell? (ad.add (i * fs.size + j)) = some (.int .i64 z) ∧ -9223372036854775808 ≤ z ∧ z ≤ 9223372036854775807 := by
      intro i j hi hj
      obtain ⟨ys, n, _, _, _, hfl⟩ := hf i (by omega)
      obtain ⟨v, y, hc, _, ht'⟩ := hfl j fs[j] (Array.getElem?_eq_getElem hj)
      obtain ⟨z, hz, _, hw⟩ := DataW.trod_int (hint j _ (Array.getElem?_eq_getElem hj)) ht'
      simp at hz
      subst hz
      have hb := bounds_i64 hw
      exact ⟨z, hc, hb.1, hb.2⟩
    obtain ⟨z0, hz0, _⟩ := get 0 0 hpos h0
    rw [Nat.zero_mul, Nat.zero_add] at hz0
    have hadd : ad.add 0 = ad := by unfold Addr.add; simp
    rw [hadd] at hz0
    have hsp := spot_none hz0
    have hlt := World.block_lt_of_cell? _ _ hz0
    obtain ⟨xb, xo, sp⟩ := ad
    simp only at hsp
    subst hsp
    refine ⟨xb, xo, rfl, hlt, fun i j hi hj => ?_⟩
    obtain ⟨z, hz, hb⟩ := get i j hi hj
    refine ⟨z, ?_, hb⟩
    have e : (⟨xb, xo, none⟩ : Addr).add (i * fs.size + j) = ⟨xb, xo + (i * fs.size + j), none⟩ := by
      unfold Addr.add
      split
      · rename_i h; rw [h]; rfl
      · rfl
    rw [← e]; exact hz

theorem arr2_of {r : Reach} {b0 : Nat} {t e : TypeId} {v : Value} {d : DataW H} {p : List MemPlace} (ht : P.underlying t = some (.array 2 e)) (he : P.underlying e = some (.int .i64)) (hC : P.cellsOf t = 2) (hCe : P.cellsOf e = 1)
    (hv : Value.okWide P w r b0 t v) (h : DataW.Trod enc P w base spare held t v d p) :
    ∃ a0 a1, v = .agg #[.int .i64 a0, .int .i64 a1] ∧ -9223372036854775808 ≤ a0 ∧ a0 ≤ 9223372036854775807 ∧ -9223372036854775808 ≤ a1 ∧ a1 ≤ 9223372036854775807 := by
  simp only [Value.okWide, ht] at hv
  obtain ⟨cs, rfl, hsz, _⟩ := hv
  obtain ⟨l⟩ := cs
  match l, hsz.trans hC with
  | [c0, c1], _ =>
    obtain ⟨fuel, hf⟩ := h
    obtain ⟨xs, m, _, _, _, hl, hg⟩ := DataW.trod_array ht hf
    have g0 := hg 0 (by omega)
    have g1 := hg 1 (by omega)
    simp [hCe, Value.cells] at g0 g1
    rw [List.getElem?_eq_getElem (by omega)] at g0 g1
    obtain ⟨a0, h0, _, w0⟩ := DataW.trod_int he g0
    obtain ⟨a1, h1, _, w1⟩ := DataW.trod_int he g1
    simp at h0 h1
    subst h0 h1
    have b0 := bounds_i64 w0
    have b1 := bounds_i64 w1
    exact ⟨a0, a1, rfl, b0.1, b0.2, b1.1, b1.2⟩
end
end Go.Proofs.YtgicljeedegncaaGreat

namespace Go.Proofs.YtgicljeedegncaaGreat
open Go.ChangeShapes Go.WideShapes Go.Deep Go.RowKit

/-- A cell's kind: an integer or a bool. -/
abbrev FK := Option IntKind
def flatFields (rec : TypeId → Option (List FK)) (P : Program) : List Field → Nat → Option (List FK)
  | [], _ => some []
  | f :: fs, off => match rec f.type with
    | some ks => if f.offset = off ∧ P.cellsOf f.type = ks.length then match flatFields rec P fs (off + ks.length) with
        | some r => some (ks ++ r)
        | none => none
      else none
    | none => none
/-- The kinds of a type's cells, where they are all plain. -/
def flatKinds (P : Program) : Nat → TypeId → Option (List FK)
  | 0, _ => none
  | n + 1, t => match P.underlying t with
    | some (.int k) => some [some k]
    | some .bool => some [none]
    | some (.struct fs) => flatFields (flatKinds P n) P fs.toList 0
    | some (.array k e) => match flatKinds P n e with
      | some ks => if P.cellsOf e = ks.length then some (List.replicate k ks).flatten else none
      | none => none
    | _ => none
/-- What such a cell holds. -/
def FGood (k : FK) (v : Option Value) : Prop := match k with
  | some i => ∃ z, v = some (.int i z) ∧ (Lit.int i z).wf = true
  | none => ∃ b, v = some (.bool b)
theorem FGood.i64 {v : Option Value} (h : FGood (some .i64) v) : ∃ z, v = some (.int .i64 z) ∧ -9223372036854775808 ≤ z ∧ z ≤ 9223372036854775807 := by
  obtain ⟨z, hz, hw⟩ := h
  have hb := bounds_i64 hw
  exact ⟨z, hz, hb.1, hb.2⟩
theorem FGood.bool {v : Option Value} (h : FGood none v) : ∃ b, v = some (.bool b) := h

theorem flat_rep {ks : List FK} : ∀ (n j : Nat) (k : FK), ((List.replicate n ks).flatten)[j]? = some k → 0 < ks.length → j / ks.length < n ∧ ks[j % ks.length]? = some k
  | 0, j, k, h, _ => by simp at h
  | n + 1, j, k, h, hp => by
    rw [List.replicate_succ, List.flatten_cons] at h
    by_cases hj : j < ks.length
    · rw [List.getElem?_append_left hj] at h
      rw [Nat.div_eq_of_lt hj, Nat.mod_eq_of_lt hj]
      exact ⟨by omega, h⟩
    · rw [List.getElem?_append_right (by omega)] at h
      obtain ⟨h1, h2⟩ := flat_rep n (j - ks.length) k h hp
      have e : j = (j - ks.length) + ks.length := by omega
      rw [e, Nat.add_div_right _ hp, Nat.add_mod_right]
      exact ⟨by omega, h2⟩

section
variable {H : Type} {enc : TypeId × Value → H} {P : Program} {w : World} {base : Nat} {spare : Nat → Bool} {held : Bool}
theorem flat_of : ∀ (n : Nat) {t : TypeId} {ks : List FK} {fuel : Nat} {cs : List Value} {x : DataW H × List MemPlace}, flatKinds P n t = some ks → DataW.trod enc P w base spare held fuel t cs = some x → ∀ (j : Nat) (k : FK), ks[j]? = some k → FGood k cs[j]?
  | 0, t, ks, fuel, cs, x, hk, _ => by simp [flatKinds] at hk
  | n + 1, t, ks, fuel, cs, x, hk, h => by
    unfold flatKinds at hk
    split at hk
    · rename_i i hu
      obtain ⟨z, rfl, _, hw⟩ := DataW.trod_int hu h
      cases hk
      intro j k hj
      cases j with
      | zero => simp at hj; subst hj; exact ⟨z, rfl, hw⟩
      | succ j => simp at hj
    · rename_i hu
      obtain ⟨b, rfl, _⟩ := DataW.trod_bool hu h
      cases hk
      intro j k hj
      cases j with
      | zero => simp at hj; subst hj; exact ⟨b, rfl⟩
      | succ j => simp at hj
    · rename_i fs hu
      obtain ⟨xs, m, _, _, _, hxl, hf⟩ := DataW.trod_struct hu h
      have key : ∀ (l pre : List Field) (off : Nat) (r : List FK), fs.toList = pre ++ l → flatFields (flatKinds P n) P l off = some r → ∀ (j : Nat) (k : FK), r[j]? = some k → FGood k cs[off + j]? := by
        intro l
        induction l with
        | nil => intro pre off r _ hr j k hj; simp [flatFields] at hr; subst hr; simp at hj
        | cons f l ih =>
          intro pre off r hp hr j k hj
          unfold flatFields at hr
          split at hr
          · rename_i ks1 h1
            split at hr
            · rename_i hc
              obtain ⟨hc1, hc2⟩ := hc
              split at hr
              · rename_i r2 h2
                cases hr
                have hat : fs[pre.length]? = some f := by
                  rw [← Array.getElem?_toList, hp, List.getElem?_append_right (Nat.le_refl _)]; simp
                have h3 := hf _ _ hat
                have hlt : pre.length < fs.size := (Array.getElem?_eq_some_iff.1 hat).1
                rw [List.getElem?_eq_getElem (by omega)] at h3
                have h4 := flat_of n h1 h3
                by_cases hjl : j < ks1.length
                · rw [List.getElem?_append_left hjl] at hj
                  have h5 := h4 j k hj
                  rw [List.getElem?_take, if_pos (by omega), List.getElem?_drop, hc1] at h5
                  exact h5
                · rw [List.getElem?_append_right (by omega)] at hj
                  have h5 := ih (pre ++ [f]) (off + ks1.length) r2 (by rw [hp]; simp) h2 (j - ks1.length) k hj
                  rw [show off + ks1.length + (j - ks1.length) = off + j by omega] at h5
                  exact h5
              · cases hr
            · cases hr
          · cases hr
      intro j k hj
      have := key fs.toList [] 0 ks (by simp) hk j k hj
      simpa using this
    · rename_i m e hu
      split at hk
      · rename_i ks1 h1
        split at hk
        · rename_i hc
          cases hk
          obtain ⟨xs, m2, _, _, _, hxl, hf⟩ := DataW.trod_array hu h
          intro j k hj
          rcases Nat.eq_zero_or_pos ks1.length with h0 | h0
          · have h2 := List.eq_nil_of_length_eq_zero h0
            subst h2
            exfalso
            have : ((List.replicate m ([] : List FK)).flatten) = [] := by simp
            rw [this] at hj; simp at hj
          · obtain ⟨h2, h3⟩ := flat_rep m j k hj h0
            have h4 := hf _ h2
            rw [List.getElem?_eq_getElem (by omega)] at h4
            have h5 := flat_of n h1 h4 _ k h3
            have hml := Nat.mod_lt j h0
            rw [List.getElem?_take, if_pos (by omega), List.getElem?_drop, hc] at h5
            rw [show j / ks1.length * ks1.length + j % ks1.length = j by rw [Nat.mul_comm]; exact Nat.div_add_mod j _] at h5
            exact h5
        · cases hk
      · cases hk
    · cases hk

/-- A slice of plain records that came in. -/
def RowsK (w : World) (a : Option Addr) (len : Nat) (ks : List FK) : Prop :=
  len ≤ 9223372036854775807 ∧ (0 < len → ∃ xb xo, a = some ⟨xb, xo, none⟩ ∧ xb < w.heap.size ∧ ∀ i, i < len → ∀ (j : Nat) (k : FK), ks[j]? = some k → FGood k (w.cell? ⟨xb, xo + (i * ks.length + j), none⟩))

theorem FGood.some_ {k : FK} {v : Option Value} (h : FGood k v) : ∃ u, v = some u := by
  cases k with
  | none => obtain ⟨b, hb⟩ := h; exact ⟨_, hb⟩
  | some i => obtain ⟨z, hz, _⟩ := h; exact ⟨_, hz⟩

theorem caps_of_trod {t e : TypeId} {fuel : Nat} {a : Option Addr} {len cap : Nat} {x : DataW H × List MemPlace} (ht : P.underlying t = some (.slice e))
    (h : DataW.trod enc P w base spare held fuel t [.slice a len cap] = some x) : len ≤ cap ∧ (a = none → cap = 0) := by
  rcases open_slice ht h with ⟨hcs, _⟩ | ⟨ad, l, c, m, n', D, Pl, hcs, hb, hl, hm, hmm, hx, hi⟩
  · simp at hcs
    obtain ⟨rfl, rfl, rfl⟩ := hcs
    exact ⟨Nat.le_refl _, fun _ => rfl⟩
  · simp at hcs
    obtain ⟨rfl, rfl, rfl⟩ := hcs
    exact ⟨by omega, fun h => by cases h⟩
theorem rows_of_trod {n : Nat} {t e : TypeId} {ks : List FK} {fuel : Nat} {a : Option Addr} {len cap : Nat} {x : DataW H × List MemPlace} (ht : P.underlying t = some (.slice e)) (hk : flatKinds P n e = some ks) (hC : P.cellsOf e = ks.length) (h0 : 0 < ks.length)
    (h : DataW.trod enc P w base spare held fuel t [.slice a len cap] = some x) : RowsK w a len ks := by
  rcases open_slice ht h with ⟨hcs, _⟩ | ⟨ad, l, c, m, n', D, Pl, hcs, hb, hl, hm, hmm, hx, hi⟩
  · simp at hcs
    obtain ⟨rfl, rfl, rfl⟩ := hcs
    exact ⟨by omega, fun h => absurd h (by omega)⟩
  · simp at hcs
    obtain ⟨rfl, rfl, rfl⟩ := hcs
    have hlm : len ≤ m := by rw [hmm]; split <;> omega
    unfold maxLen at hm
    refine ⟨by omega, fun hpos => ?_⟩
    have get : ∀ i, i < len → ∀ (j : Nat) (k : FK), ks[j]? = some k → FGood k (w.cell? (ad.add (i * ks.length + j))) := by
      intro i hil j k hj
      obtain ⟨cs', hc, ht'⟩ := hi i (by omega)
      rw [hC] at hc
      obtain ⟨_, hcl, hat⟩ := World.cells?_some hc
      have hjl : j < ks.length := (List.getElem?_eq_some_iff.1 hj).1
      have h1 := flat_of n hk ht' j k hj
      rw [← Go.Deep.add_add, hat j hjl]
      exact h1
    obtain ⟨k0, hk0⟩ : ∃ k, ks[0]? = some k := ⟨_, List.getElem?_eq_getElem h0⟩
    obtain ⟨u, hu⟩ := (get 0 hpos 0 k0 hk0).some_
    rw [Nat.zero_mul, Nat.zero_add] at hu
    have hadd : ad.add 0 = ad := by unfold Addr.add; simp
    rw [hadd] at hu
    have hsp := spot_none hu
    have hlt := World.block_lt_of_cell? _ _ hu
    obtain ⟨xb, xo, sp⟩ := ad
    simp only at hsp
    subst hsp
    refine ⟨xb, xo, rfl, hlt, fun i hil j k hj => ?_⟩
    have e : (⟨xb, xo, none⟩ : Addr).add (i * ks.length + j) = ⟨xb, xo + (i * ks.length + j), none⟩ := by
      unfold Addr.add
      split
      · rename_i h; rw [h]; rfl
      · rfl
    rw [← e]; exact get i hil j k hj
end
end Go.Proofs.YtgicljeedegncaaGreat

namespace Go.Proofs.YtgicljeedegncaaGreat
set_option linter.unusedSimpArgs false
set_option linter.unusedVariables false

/-- A packet. -/
structure PK where
  n : Int
  t : Int
  s : Int
  e : Bool
  f : Bool
  c : Bool
  deriving DecidableEq
def pkC (p : PK) : Array Value := #[.int .i64 p.n, .int .i64 p.t, .int .i64 p.s, .bool p.e, .bool p.f, .bool p.c]
def pkV (p : PK) : Value := .agg (pkC p)
/-- Its numbers are ints. -/
def PK.small (p : PK) : Prop := (-9223372036854775808 ≤ p.n ∧ p.n ≤ 9223372036854775807) ∧ (-9223372036854775808 ≤ p.t ∧ p.t ≤ 9223372036854775807) ∧ (-9223372036854775808 ≤ p.s ∧ p.s ≤ 9223372036854775807)
/-- May it be, behind a number? -/
def okPk (last : Int) (p : PK) : Bool := decide (last < p.n) && decide (p.n ≤ 9007199254740991) && (decide (0 ≤ p.t) && decide (p.t ≤ 9007199254740991)) && decide (1 ≤ p.s) && decide (p.s ≤ 65535)
def okPks : Int → List PK → Bool
  | _, [] => true
  | last, p :: ps => okPk last p && okPks p.n ps
theorem okPk_iff {last : Int} {p : PK} : okPk last p = true ↔ last < p.n ∧ p.n ≤ 9007199254740991 ∧ 0 ≤ p.t ∧ p.t ≤ 9007199254740991 ∧ 1 ≤ p.s ∧ p.s ≤ 65535 := by
  unfold okPk
  simp only [Bool.and_eq_true, decide_eq_true_eq]
  constructor
  · rintro ⟨⟨⟨⟨h1, h2⟩, h3, h4⟩, h5⟩, h6⟩; exact ⟨h1, h2, h3, h4, h5, h6⟩
  · rintro ⟨h1, h2, h3, h4, h5, h6⟩; exact ⟨⟨⟨⟨h1, h2⟩, h3, h4⟩, h5⟩, h6⟩
theorem okPks_mem : ∀ {ps : List PK} {last : Int}, okPks last ps = true → ∀ p ∈ ps, last < p.n ∧ p.n ≤ 9007199254740991 ∧ 0 ≤ p.t ∧ p.t ≤ 9007199254740991 ∧ 1 ≤ p.s ∧ p.s ≤ 65535
  | [], _, _, p, hp => by simp at hp
  | q :: ps, last, h, p, hp => by
    simp only [okPks, Bool.and_eq_true] at h
    obtain ⟨h1, h2⟩ := h
    have h3 := okPk_iff.1 h1
    rcases List.mem_cons.1 hp with rfl | hp
    · exact h3
    · have := okPks_mem h2 p hp
      omega
/-- Does it count? -/
def counts (first : Int) (p : PK) : Bool := p.e && decide (first < p.t)
/-- Was nothing between them acknowledged? -/
def freeR (rs : List Rg) (a b : PK) : Bool := !(rs.reverse.any fun x => decide ((if a.n + 1 < x.lo then x.lo else a.n + 1) ≤ (if b.n - 1 < x.hi then b.n - 1 else x.hi)))
theorem freeR_iff {rs : List Rg} {a b : PK} (h : ∀ r ∈ rs, r.lo ≤ r.hi) : freeR rs a b = true ↔ ∀ m : Int, a.n < m → m < b.n → ¬ memR m rs := by
  unfold freeR
  rw [Bool.not_eq_true', List.any_eq_false]
  simp only [decide_eq_true_eq, List.mem_reverse]
  constructor
  · rintro k m h1 h2 ⟨x, hx, h3, h4⟩
    have hl := h x hx
    have hk := k x hx
    split at hk <;> split at hk <;> omega
  · rintro k x hx hc
    have := h x hx
    refine k (if a.n + 1 < x.lo then x.lo else a.n + 1) (by split <;> omega) ?_ ⟨x, hx, by split <;> omega, ?_⟩
    · split at hc <;> split at hc <;> split <;> omega
    · split at hc <;> split at hc <;> split <;> omega
def pairOk (rs : List Rg) (first : Int) (a b : PK) : Bool := counts first a && counts first b && decide (a.t ≤ b.t) && freeR rs a b
def pairsL (rs : List Rg) (first : Int) : List PK → List (PK × PK)
  | [] => []
  | a :: ps => ((ps.filter fun b => pairOk rs first a b).map fun b => (a, b)) ++ pairsL rs first ps
/-- What is kept of a pair. -/
structure Per where
  d : Int
  lo : Int
  hi : Int
  some : Bool
  deriving DecidableEq
def Per.none : Per := ⟨0, 0, 0, false⟩
def keepP (st : Per) (x : PK × PK) : Per := if !st.some || decide (st.d < x.2.t - x.1.t) then ⟨x.2.t - x.1.t, x.1.n, x.2.n, true⟩ else st
/-- The period. -/
def periodR (rs : List Rg) (first : Int) (ps : List PK) : Per := (pairsL rs first ps).foldl keepP Per.none
theorem pairsL_mem {rs : List Rg} {first : Int} : ∀ {ps : List PK} {x : PK × PK}, x ∈ pairsL rs first ps → x.1 ∈ ps ∧ x.2 ∈ ps ∧ pairOk rs first x.1 x.2 = true
  | [], x, h => by simp [pairsL] at h
  | a :: ps, x, h => by
    rcases List.mem_append.1 h with h | h
    · obtain ⟨b, hb, rfl⟩ := List.mem_map.1 h
      obtain ⟨h1, h2⟩ := List.mem_filter.1 hb
      exact ⟨by simp, by simp [h1], h2⟩
    · obtain ⟨h1, h2, h3⟩ := pairsL_mem h
      exact ⟨by simp [h1], by simp [h2], h3⟩
end Go.Proofs.YtgicljeedegncaaGreat
