/-
 2 texts in one (RowOps, SpanRow).
-/
import Derived.Test.YtgicljeedegncaaGreatTqSentEach
import Derived.Laws.CopyOwn
import Derived.Lib.AppendZerosOnto
import Derived.Test.YtgicljeedegncaaGreatTqSrPlain
import Derived.Test.YtgicljeedegncaaGreatRows
import Derived.Lib.Overlaps
import Derived.Laws.Externs
import Derived.Deep.RegionLaw
namespace Go.Proofs.YtgicljeedegncaaGreat
open List renaming getElem?_toArray → ZG
open Go.RowKit

theorem only_setRow {w : World} {g : Nat} {cs : Array Value} : Only [g] w (w.setRow g cs) :=
 ⟨rfl, rfl, rfl, by simp [World.setRow], fun k hk hn => setRow_other w g k cs (by simpa using hn)⟩
theorem blk_setRow {w : World} {g t : Nat} {cur cs : Array Value} (h : Blk w g t cur) : Blk (w.setRow g cs) g t cs := setRow_heap w g cur cs t (0, 0) h
theorem own_mk {w : World} {base e size n g cap : Nat} {cur : List Value} (hg : base ≤ g) (hB : Blk w g e cur.toArray) (hn : n ≤ cap) (hc : cap ≤ maxLen) (hl : cur.length = cap * size) : w.ownsRow base e size (.slice (some ⟨g, 0, none⟩) n cap) n (cur.take (n * size)) := by
 have h1 : n * size ≤ cap * size := Nat.mul_le_mul_right _ hn
 exact ⟨by rw [List.length_take]; omega, .inr ⟨g, cap, cur.toArray, rfl, hg, hB, hn, hc, by simpa using hl, by simp⟩⟩
theorem own_split {w : World} {base e size n : Nat} {v : Value} {xs : List Value} (h : w.ownsRow base e size v n xs) : (v = .slice none 0 0 ∧ n = 0 ∧ xs = []) ∨
  ∃ (g cap : Nat) (cur : List Value), v = .slice (some ⟨g, 0, none⟩) n cap ∧ base ≤ g ∧ Blk w g e cur.toArray ∧ n ≤ cap ∧ cap ≤ maxLen ∧ cur.length = cap * size ∧ cur.take (n * size) = xs := by
 rcases h.2 with ⟨h0, h1⟩ | ⟨g, cap, cur, hv, hg, hh, hc, hm, hs, ht⟩
 ·exact .inl ⟨h0, h1, List.eq_nil_of_length_eq_zero (by rw [h.1, h1]; simp)⟩
 ·exact .inr ⟨g, cap, cur.toList, hv, hg, by rw [Array.toArray_toList]; exact hh, hc, hm, by simpa using hs, ht⟩

section
variable {P : Program} {w : World}

/-- copy: as many records as the shorter of the two has. -/
theorem run_copy_rows {dT sT ty elem : TypeId} {i : TypeInfo} (hu : P.underlying dT = some (.slice elem)) (hi : P.info? elem = some i) {g o dLen dCap : Nat} {ad : Addr} {sLen sCap n : Nat} {cur cs : List Value} {t : TypeId}
  (hg : Blk w g t cur.toArray) (hn : Nat.min sLen dLen = n) (hcl : cs.length = n * i.size) (hsrc : ∀ j v, cs[j]? = some v → w.cell? (ad.add j) = some v) (hfit : o + cs.length ≤ cur.length) (h1 : ∀ v ∈ cs, v.oneCell' = true) :
  (Builtin.copy_ #[dT, sT] ty #[.slice (some ⟨g, o, none⟩) dLen dCap, .slice (some ad) sLen sCap]).run P w = .ok (goInt n) (w.setRow g (splice cur o cs).toArray) := by
 have hl := run_loadCells_list (P := P) w ad cs hsrc
 have hst := run_storeCells_at P g o t cs 0 cur.toArray w hg (by simpa using hfit) h1
 rw [hcl] at hl
 simp only [Nat.add_zero] at hst
 simp [Builtin.copy_, run_underlying hu, Builtin.lenOf, Builtin.firstCells, sizeOf, typeInfo, hi, hn, hl, hst, splice]
/-- clear: zero records. -/
theorem run_clear_rows {t ty elem : TypeId} {i : TypeInfo} {z : Value} (hu : P.underlying t = some (.slice elem)) (hi : P.info? elem = some i) (hz : i.zero = some z) {g o n c : Nat} {cur : List Value} {t' : TypeId}
  (hg : Blk w g t' cur.toArray) (hfit : o + n * z.cells.size ≤ cur.length) (h1 : ∀ v ∈ (Builtin.zeroCells z.cells n).toList, v.oneCell' = true) :
  (Builtin.clear_ #[t] ty #[.slice (some ⟨g, o, none⟩) n c]).run P w = .ok (.tuple #[]) (w.setRow g (splice cur o (Builtin.zeroCells z.cells n).toList).toArray) := by
 have hl : (Builtin.zeroCells z.cells n).toList.length = n * z.cells.size := by simp [Builtin.zeroCells]
 rcases Nat.eq_zero_or_pos n with h0 | h0
 ·subst h0
  have e : (Builtin.zeroCells z.cells 0).toList = [] := by simp [Builtin.zeroCells]
  rw [e]
  have e2 : splice cur o ([] : List Value) = cur := by simp [splice]
  rw [e2, setRow_self w g cur.toArray t' (0, 0) hg]
  simp [Builtin.clear_, run_underlying hu]
 ·have hst := run_storeCells_at P g o t' (Builtin.zeroCells z.cells n).toList 0 cur.toArray w hg (by rw [hl]; simpa using hfit) h1
  simp only [Nat.add_zero] at hst
  have hn : n ≠ 0 := by omega
  simp only [Builtin.clear_, zeroValue, typeInfo]
  simp [run_underlying hu, hi, hz, hst, splice, hn]
/-- append within the capacity: the records go over what stood behind. -/
theorem run_append_in {t ty elem : TypeId} {i : TypeInfo} (hu : P.underlying t = some (.slice elem)) (hi : P.info? elem = some i) {g n c m c2 : Nat} {ad : Addr} {cur cs : List Value}
  (hg : Blk w g elem cur.toArray) (hcl : cs.length = m * i.size) (hsrc : ∀ j v, cs[j]? = some v → w.cell? (ad.add j) = some v) (hroom : n + m ≤ c) (hfit : n * i.size + cs.length ≤ cur.length) (h1 : ∀ v ∈ cs, v.oneCell' = true) :
  (Builtin.append_ #[t, t] ty #[.slice (some ⟨g, 0, none⟩) n c, .slice (some ad) m c2]).run P w = .ok (.slice (some ⟨g, 0, none⟩) (n + m) c) (w.setRow g (splice cur (n * i.size) cs).toArray) := by
 rw [run_append_room w t ty elem i hu hi g n c cur.toArray hg ad m c2 cs hcl hsrc h1 hroom (by simpa using hfit)]
 simp [splice]

/-! the same, at a step of the walk -/
variable {ops : Array Oper} {rest : List Oper} {o : Oper} {a : Act} {Q : Exit → Act → World → Prop} {K : Act → World → Prop} {E : Prop}
theorem wp_copy_k {d s : Operand} {dT sT : TypeId} (ho : o.op = .call { callee := .builtin .copy, args := #[d, s], argTypes := #[dT, sT] }) {elem : TypeId} {i : TypeInfo} (hu : P.underlying dT = some (.slice elem)) (hi : P.info? elem = some i)
  (g off dLen dCap : Nat) (ad : Addr) (sLen sCap n : Nat) (cur cs : List Value) (t : TypeId) (hd : a.eval d = .slice (some ⟨g, off, none⟩) dLen dCap) (hs : a.eval s = .slice (some ad) sLen sCap)
  (hg : Blk w g t cur.toArray) (hn : Nat.min sLen dLen = n) (hcl : cs.length = n * i.size) (hsrc : ∀ j v, cs[j]? = some v → w.cell? (ad.add j) = some v) (hfit : off + cs.length ≤ cur.length) (h1 : ∀ v ∈ cs, v.oneCell' = true)
  (h : ∀ w', Blk w' g t (splice cur off cs).toArray → Only [g] w w' → K (a.put o.dst (goInt n)) w') : o.wp P a w K Q := by
 have hr := run_copy_rows (P := P) (dT := dT) (sT := sT) (ty := o.type) (dCap := dCap) (sCap := sCap) hu hi hg hn hcl hsrc hfit h1
 unfold Oper.wp execOp
 simp only [ho, resolve, invoke, builtin, Sem.run_bind, Sem.run_pure, Result.andThen_ok, List.map_toArray, List.map_cons, List.map_nil, hd, hs, hr]
 exact h _ (blk_setRow hg) only_setRow
theorem wpList_copy_k (hgd : o.guard = none) {d s : Operand} {dT sT : TypeId} (ho : o.op = .call { callee := .builtin .copy, args := #[d, s], argTypes := #[dT, sT] }) {elem : TypeId} {i : TypeInfo} (hu : P.underlying dT = some (.slice elem)) (hi : P.info? elem = some i)
  (g off dLen dCap : Nat) (ad : Addr) (sLen sCap n : Nat) (cur cs : List Value) (t : TypeId) (hd : a.eval d = .slice (some ⟨g, off, none⟩) dLen dCap) (hs : a.eval s = .slice (some ad) sLen sCap)
  (hg : Blk w g t cur.toArray) (hn : Nat.min sLen dLen = n) (hcl : cs.length = n * i.size) (hsrc : ∀ j v, cs[j]? = some v → w.cell? (ad.add j) = some v) (hfit : off + cs.length ≤ cur.length) (h1 : ∀ v ∈ cs, v.oneCell' = true)
  (h : ∀ w', Blk w' g t (splice cur off cs).toArray → Only [g] w w' → wpList P ops Q rest (a.put o.dst (goInt n)) w') : wpList P ops Q (o :: rest) a w :=
 wpList_plain hgd fun _ hK => wp_copy_k ho hu hi g off dLen dCap ad sLen sCap n cur cs t hd hs hg hn hcl hsrc hfit h1 fun w' h2 h3 => hK _ _ (h w' h2 h3)
theorem step_copy_k (hgd : o.guard = none) {d s : Operand} {dT sT : TypeId} (ho : o.op = .call { callee := .builtin .copy, args := #[d, s], argTypes := #[dT, sT] }) {elem : TypeId} {i : TypeInfo} (hu : P.underlying dT = some (.slice elem)) (hi : P.info? elem = some i)
  (g off dLen dCap : Nat) (ad : Addr) (sLen sCap n : Nat) (cur cs : List Value) (t : TypeId) (hd : a.eval d = .slice (some ⟨g, off, none⟩) dLen dCap) (hs : a.eval s = .slice (some ad) sLen sCap)
  (hg : Blk w g t cur.toArray) (hn : Nat.min sLen dLen = n) (hcl : cs.length = n * i.size) (hsrc : ∀ j v, cs[j]? = some v → w.cell? (ad.add j) = some v) (hfit : off + cs.length ≤ cur.length) (h1 : ∀ v ∈ cs, v.oneCell' = true)
  (h : ∀ w', Blk w' g t (splice cur off cs).toArray → Only [g] w w' → K (a.put o.dst (goInt n)) w') : if Region.wanted o (yielded ops a.tmps) = true then Oper.wp P o a w K Q else E := by
 have hw : Region.wanted o (yielded ops a.tmps) = true := by simp [Region.wanted, hgd]
 rw [if_pos hw]
 exact wp_copy_k ho hu hi g off dLen dCap ad sLen sCap n cur cs t hd hs hg hn hcl hsrc hfit h1 h
theorem wpList_clear_k (hgd : o.guard = none) {s : Operand} {t : TypeId} (ho : o.op = .call { callee := .builtin .clear, args := #[s], argTypes := #[t] }) {elem : TypeId} {i : TypeInfo} {z : Value} (hu : P.underlying t = some (.slice elem)) (hi : P.info? elem = some i) (hz : i.zero = some z)
  (g off n c : Nat) (cur : List Value) (t' : TypeId) (hs : a.eval s = .slice (some ⟨g, off, none⟩) n c) (hg : Blk w g t' cur.toArray) (hfit : off + n * z.cells.size ≤ cur.length) (h1 : ∀ v ∈ (Builtin.zeroCells z.cells n).toList, v.oneCell' = true)
  (h : ∀ w', Blk w' g t' (splice cur off (Builtin.zeroCells z.cells n).toList).toArray → Only [g] w w' → wpList P ops Q rest (a.put o.dst (.tuple #[])) w') : wpList P ops Q (o :: rest) a w := by
 refine wpList_plain hgd fun _ hK => ?_
 have hr := run_clear_rows (P := P) (t := t) (ty := o.type) (c := c) hu hi hz hg hfit h1
 unfold Oper.wp execOp
 simp only [ho, resolve, invoke, builtin, Sem.run_bind, Sem.run_pure, Result.andThen_ok, List.map_toArray, List.map_cons, List.map_nil, hs, hr]
 exact hK _ _ (h _ (blk_setRow hg) only_setRow)
theorem wp_append_in {s x : Operand} {t : TypeId} (ho : o.op = .call { callee := .builtin .append, args := #[s, x], argTypes := #[t, t] }) {elem : TypeId} {i : TypeInfo} (hu : P.underlying t = some (.slice elem)) (hi : P.info? elem = some i)
  (g n c m c2 : Nat) (ad : Addr) (cur cs : List Value) (hs : a.eval s = .slice (some ⟨g, 0, none⟩) n c) (hx : a.eval x = .slice (some ad) m c2)
  (hg : Blk w g elem cur.toArray) (hcl : cs.length = m * i.size) (hsrc : ∀ j v, cs[j]? = some v → w.cell? (ad.add j) = some v) (hroom : n + m ≤ c) (hfit : n * i.size + cs.length ≤ cur.length) (h1 : ∀ v ∈ cs, v.oneCell' = true)
  (h : ∀ w', Blk w' g elem (splice cur (n * i.size) cs).toArray → Only [g] w w' → K (a.put o.dst (.slice (some ⟨g, 0, none⟩) (n + m) c)) w') : o.wp P a w K Q := by
 have hr := run_append_in (P := P) (t := t) (ty := o.type) (c2 := c2) hu hi hg hcl hsrc hroom hfit h1
 unfold Oper.wp execOp
 simp only [ho, resolve, invoke, builtin, Sem.run_bind, Sem.run_pure, Result.andThen_ok, List.map_toArray, List.map_cons, List.map_nil, hs, hx, hr]
 exact h _ (blk_setRow hg) only_setRow
theorem wpList_append_in (hgd : o.guard = none) {s x : Operand} {t : TypeId} (ho : o.op = .call { callee := .builtin .append, args := #[s, x], argTypes := #[t, t] }) {elem : TypeId} {i : TypeInfo} (hu : P.underlying t = some (.slice elem)) (hi : P.info? elem = some i)
  (g n c m c2 : Nat) (ad : Addr) (cur cs : List Value) (hs : a.eval s = .slice (some ⟨g, 0, none⟩) n c) (hx : a.eval x = .slice (some ad) m c2)
  (hg : Blk w g elem cur.toArray) (hcl : cs.length = m * i.size) (hsrc : ∀ j v, cs[j]? = some v → w.cell? (ad.add j) = some v) (hroom : n + m ≤ c) (hfit : n * i.size + cs.length ≤ cur.length) (h1 : ∀ v ∈ cs, v.oneCell' = true)
  (h : ∀ w', Blk w' g elem (splice cur (n * i.size) cs).toArray → Only [g] w w' → wpList P ops Q rest (a.put o.dst (.slice (some ⟨g, 0, none⟩) (n + m) c)) w') : wpList P ops Q (o :: rest) a w :=
 wpList_plain hgd fun _ hK => wp_append_in ho hu hi g n c m c2 ad cur cs hs hx hg hcl hsrc hroom hfit h1 fun w' h2 h3 => hK _ _ (h w' h2 h3)
theorem step_append_in (hgd : o.guard = none) {s x : Operand} {t : TypeId} (ho : o.op = .call { callee := .builtin .append, args := #[s, x], argTypes := #[t, t] }) {elem : TypeId} {i : TypeInfo} (hu : P.underlying t = some (.slice elem)) (hi : P.info? elem = some i)
  (g n c m c2 : Nat) (ad : Addr) (cur cs : List Value) (hs : a.eval s = .slice (some ⟨g, 0, none⟩) n c) (hx : a.eval x = .slice (some ad) m c2)
  (hg : Blk w g elem cur.toArray) (hcl : cs.length = m * i.size) (hsrc : ∀ j v, cs[j]? = some v → w.cell? (ad.add j) = some v) (hroom : n + m ≤ c) (hfit : n * i.size + cs.length ≤ cur.length) (h1 : ∀ v ∈ cs, v.oneCell' = true)
  (h : ∀ w', Blk w' g elem (splice cur (n * i.size) cs).toArray → Only [g] w w' → K (a.put o.dst (.slice (some ⟨g, 0, none⟩) (n + m) c)) w') : if Region.wanted o (yielded ops a.tmps) = true then Oper.wp P o a w K Q else E := by
 have hw : Region.wanted o (yielded ops a.tmps) = true := by simp [Region.wanted, hgd]
 rw [if_pos hw]
 exact wp_append_in ho hu hi g n c m c2 ad cur cs hs hx hg hcl hsrc hroom hfit h1 h
/-- append(s, make(S, k)...) beyond the capacity: a new row. -/
theorem wpList_append_zeros (hgd : o.guard = none) {s x : Operand} {t tn : TypeId} (ho : o.op = .call { callee := .builtin .append, args := #[s, x], argTypes := #[t, tn] }) {elem : TypeId} {i : TypeInfo} {z : Value} {kn : IntKind} (hu : P.underlying t = some (.slice elem)) (htn : P.underlying tn = some (.int kn))
  (hi : P.info? elem = some i) (hz : i.zero = some z) (hzs : z.cells.size = i.size) (hs0 : 0 < i.size)
  (ad : Addr) (n c k m : Nat) (zk : Int) (hkz : zk = (k : Int)) (hm : n + k = m) (olds : List Value) (hs : a.eval s = .slice (some ad) n c) (hx : a.eval x = .int .i64 zk) (hol : olds.length = n * i.size) (hold : ∀ j v, olds[j]? = some v → w.cell? (ad.add j) = some v)
  (h0 : 0 < k) (hg : c < n + k) (hb1 : 1 ≤ i.bytes) (hb : (n + k) * i.bytes ≤ 140737488355328)
  (h : ∀ (G : Nat) (cur : List Value) w', m ≤ G → G ≤ maxLen → cur.length = G * i.size → cur.take (n * i.size) = olds → Blk w' w.heap.size elem cur.toArray → Only [] w w' → w.heap.size < w'.heap.size → wpList P ops Q rest (a.put o.dst (.slice (some ⟨w.heap.size, 0, none⟩) m G)) w') : wpList P ops Q (o :: rest) a w := by
 subst hkz hm
 refine wpList_plain hgd fun _ hK => ?_
 have hnk : n + k ≤ 140737488355328 := Nat.le_trans (Nat.le_mul_of_pos_right _ hb1) hb
 have hkb : k * i.bytes ≤ 281474976710656 := by
  have : k * i.bytes ≤ (n + k) * i.bytes := Nat.mul_le_mul_right _ (by omega)
  omega
 have hf : (Builtin.firstCells i.size n (.slice (some ad) n c)).run P w.drew = .ok olds.toArray w.drew := run_firstCells_some w.drew i.size n ad n c olds hol hold
 have hr := Lib.run_append_grow_zeros w t tn o.type elem i z .i64 kn hu htn hi hz (some ad) n c olds hf k h0 hs0 hg (by omega) hkb (growslice_fits hg hb)
 have hge := grownCap_ge w (n + k) c elem
 have hle := grownCap_le_maxLen w (n + k) c elem (by unfold maxLen; omega)
 unfold Oper.wp execOp
 simp only [ho, resolve, invoke, builtin, Sem.run_bind, Sem.run_pure, Result.andThen_ok, List.map_toArray, List.map_cons, List.map_nil, hs, hx, hr]
 refine hK _ _ (h _ (olds ++ (Builtin.zeroCells z.cells k).toList ++ (Builtin.zeroCells z.cells (grownCap w (n + k) c elem - (n + k))).toList) _ hge hle ?_ ?_ ?_ ?_ ?_)
 ·simp only [List.length_append, Array.length_toList, size_zeroCells, hol, hzs, ← Nat.add_mul]
  congr 1; omega
 ·rw [List.append_assoc, List.take_append_of_le_length (by omega), List.take_of_length_le (by omega)]
 ·have := Blk.new w.drew elem (olds.toArray ++ Builtin.zeroCells z.cells k ++ Builtin.zeroCells z.cells (grownCap w (n + k) c elem - (n + k)))
  exact this.eq (by apply Array.ext'; simp)
 ·exact (Only.refl [] w).drew.alloc _
 ·simp
end

theorem splice_length {L cs : List Value} {off : Nat} (h : off + cs.length ≤ L.length) : (splice L off cs).length = L.length := length_splice L off cs h
end Go.Proofs.YtgicljeedegncaaGreat

namespace Go.Proofs.YtgicljeedegncaaGreat
open List renaming getElem?_toArray → ZG
set_option linter.unusedSimpArgs false
set_option linter.unusedVariables false
open Go.RowKit

def rgCells (r : Rg) : List Value := [.int .i64 r.lo, .int .i64 r.hi]
theorem rgCells_length (r : Rg) : (rgCells r).length = 2 := rfl
def rgsCells (rs : List Rg) : List Value := rs.flatMap rgCells
theorem rgs_length (rs : List Rg) : (rgsCells rs).length = rs.length * 2 := flat_length rgCells 2 rgCells_length rs
theorem rgs_append (a b : List Rg) : rgsCells (a ++ b) = rgsCells a ++ rgsCells b := by simp [rgsCells]
theorem rgs_one {rs : List Rg} : ∀ u ∈ rgsCells rs, u.oneCell' = true := by
 intro u hu
 obtain ⟨s, _, hs⟩ := List.mem_flatMap.1 hu
 simp [rgCells] at hs
 rcases hs with h | h <;> subst h <;> rfl
theorem rg_info : (Tryz.prog.info? 93).map (fun i => (i.zero, i.size, i.bytes)) = some (some (.agg #[.int .i64 0, .int .i64 0]), 2, 16) := by kernel_rfl
theorem rg_zero_one {n : Nat} : ∀ v ∈ (Builtin.zeroCells (Value.agg #[.int .i64 0, .int .i64 0]).cells n).toList, v.oneCell' = true := by
 intro v hv
 simp [Builtin.zeroCells, Value.cells] at hv
 obtain ⟨a, ha, rfl⟩ := hv
 rcases Nat.mod_two_eq_zero_or_one a with h | h <;> rw [h] <;> rfl

/-- The cells of a row: those of the ranges ahead of a place, those from there on, the rest. -/
theorem cur_split {cur : List Value} {rs : List Rg} {n : Nat} (h : cur.take (n * 2) = rgsCells rs) (f : Nat) : ∃ rest, cur = rgsCells (rs.take f) ++ (rgsCells (rs.drop f) ++ rest) := by
 refine ⟨cur.drop (n * 2), ?_⟩
 rw [← List.append_assoc, ← rgs_append, List.take_append_drop, ← h, List.take_append_drop]
theorem src_blk {w : World} {g t o : Nat} {cur pre cs post : List Value} (h : Blk w g t cur.toArray) (e : cur = pre ++ (cs ++ post)) (ho : pre.length = o) : ∀ j v, cs[j]? = some v → w.cell? ((⟨g, o, none⟩ : Addr).add j) = some v := by
 intro j v hj
 have hadd : (⟨g, o, none⟩ : Addr).add j = ⟨g, o + j, none⟩ := by unfold Addr.add; split <;> simp_all
 have hl : j < cs.length := (List.getElem?_eq_some_iff.1 hj).1
 rw [hadd, h.cell, ZG, e, List.getElem?_append_right (by omega), List.getElem?_append_left (by omega), show o + j - pre.length = j by omega]
 exact hj
theorem splice_mid {pre mid post cs : List Value} {o : Nat} (ho : pre.length = o) (hl : cs.length = mid.length) : splice (pre ++ (mid ++ post)) o cs = pre ++ (cs ++ post) := by
 unfold splice
 rw [List.take_left' ho, hl, ← List.append_assoc pre mid post, List.drop_left' (by simp; omega)]
/-- slices.overlaps of rows in two blocks. -/
theorem overlaps_apart {w : World} {a b : Nat} {ca cb : Array Value} (oa ob la xa lb xb : Nat) (hA : Blk w a 93 ca) (hB : Blk w b 93 cb) (hne : a ≠ b) (h0 : cb.size ≠ 0) :
  (callFunc 158 #[.slice (some ⟨a, oa, none⟩) la xa, .slice (some ⟨b, ob, none⟩) lb xb]).run Tryz.prog w = .ok (.value (.bool false)) w := by
 obtain ⟨i0, hi, hz0, hz1, hz2⟩ := info_parts rg_info
 have hz : ∀ w, (Go.sizeOf 93).run Tryz.prog w = .ok 2 w := fun w => by simp [sizeOf, typeInfo, hi, hz1]
 have hsa : w.shape? a = some (93, ca.size) := by unfold Blk at hA; simp [World.shape?, hA]
 have hsb : w.shape? b = some (93, cb.size) := by unfold Blk at hB; simp [World.shape?, hB]
 have hov := Lib.run_overlaps_apart (P := Tryz.prog) w 50 4 93 Tryz.underlying50 2 hz ⟨a, oa, none⟩ ⟨b, ob, none⟩ la xa lb xb hne _ _ _ _ hsa hsb h0 (hA.frozen _) (hA.frozen _)
 rw [run_callFunc_extern (f := 158) Tryz.func158 (by kernel_rfl) (by kernel_rfl) (by kernel_rfl) (e := Extern.SlicesOverlaps.overlaps #[50, 50] #[4]) (by kernel_rfl), hov]
 rfl
end Go.Proofs.YtgicljeedegncaaGreat
