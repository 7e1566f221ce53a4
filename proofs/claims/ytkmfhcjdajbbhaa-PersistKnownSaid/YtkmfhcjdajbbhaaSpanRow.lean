/-
  Rows of ranges: slices.Insert, Replace, Delete at []api.Range.
-/
import Derived.Test.YtkmfhcjdajbbhaaRowOps
import Derived.Test.YtkmfhcjdajbbhaaSpanPlain
import Derived.Test.YtkmfhcjdajbbhaaRows
import Derived.Lib.Overlaps
import Derived.Laws.Externs
import Derived.Deep.RegionLaw
namespace Go.Proofs.Ytkmfhcjdajbbhaa
set_option linter.unusedSimpArgs false
set_option linter.unusedVariables false
open Go.RowKit

def rgCells (r : Rg) : List Value := [.int .i64 r.lo, .int .i64 r.hi]
theorem rgCells_length (r : Rg) : (rgCells r).length = 2 := rfl
def rgsCells (rs : List Rg) : List Value := rs.flatMap rgCells
theorem rgs_length (rs : List Rg) : (rgsCells rs).length = rs.length * 2 := flat_length rgCells 2 rgCells_length rs
theorem rgs_append (a b : List Rg) : rgsCells (a ++ b) = rgsCells a ++ rgsCells b := by simp [rgsCells]
theorem rgs_one {rs : List Rg} : ∀ u ∈ rgsCells rs, u.oneCell' = true := by
  intro u hu
  obtain ⟨s, _, hs⟩ := List.mem_flatMap.1 hu
  simp [rgCells] at hs
  rcases hs with h | h <;> subst h <;> rfl
theorem rg_info : (Try.prog.info? 62).map (fun i => (i.zero, i.size, i.bytes)) = some (some (.agg #[.int .i64 0, .int .i64 0]), 2, 16) := by kernel_rfl
theorem rg_zero_one {n : Nat} : ∀ v ∈ (Builtin.zeroCells (Value.agg #[.int .i64 0, .int .i64 0]).cells n).toList, v.oneCell' = true := by
  intro v hv
  simp [Builtin.zeroCells, Value.cells] at hv
  obtain ⟨a, ha, rfl⟩ := hv
  rcases Nat.mod_two_eq_zero_or_one a with h | h <;> rw [h] <;> rfl

/-- The cells of a row: those of the ranges ahead of a place, those from there on, the rest. -/
theorem cur_split {cur : List Value} {rs : List Rg} {n : Nat} (h : cur.take (n * 2) = rgsCells rs) (f : Nat) : ∃ rest, cur = rgsCells (rs.take f) ++ (rgsCells (rs.drop f) ++ rest) := by
  refine ⟨cur.drop (n * 2), ?_⟩
  rw [← List.append_assoc, ← rgs_append, List.take_append_drop, ← h, List.take_append_drop]
theorem src_blk {w : World} {g t o : Nat} {cur pre cs post : List Value} (h : Blk w g t cur.toArray) (e : cur = pre ++ (cs ++ post)) (ho : pre.length = o) : ∀ j v, cs[j]? = some v → w.cell? ((⟨g, o, none⟩ : Addr).add j) = some v := by
  intro j v hj
  have hadd : (⟨g, o, none⟩ : Addr).add j = ⟨g, o + j, none⟩ := by unfold Addr.add; split <;> simp_all
  have hl : j < cs.length := (List.getElem?_eq_some_iff.1 hj).1
  rw [hadd, h.cell, List.getElem?_toArray, e, List.getElem?_append_right (by omega), List.getElem?_append_left (by omega), show o + j - pre.length = j by omega]
  exact hj
theorem splice_mid {pre mid post cs : List Value} {o : Nat} (ho : pre.length = o) (hl : cs.length = mid.length) : splice (pre ++ (mid ++ post)) o cs = pre ++ (cs ++ post) := by
  unfold splice
  rw [List.take_left' ho, hl, ← List.append_assoc pre mid post, List.drop_left' (by simp; omega)]
theorem rg_cells_new (x : Rg) : #[Value.int .i64 x.lo, .int .i64 x.hi] = (rgCells x).toArray := rfl

/-- slices.overlaps of rows in two blocks. -/
theorem overlaps_apart {w : World} {a b : Nat} {ca cb : Array Value} (oa ob la xa lb xb : Nat) (hA : Blk w a 62 ca) (hB : Blk w b 62 cb) (hne : a ≠ b) (h0 : cb.size ≠ 0) :
    (callFunc 65 #[.slice (some ⟨a, oa, none⟩) la xa, .slice (some ⟨b, ob, none⟩) lb xb]).run Try.prog w = .ok (.value (.bool false)) w := by
  obtain ⟨i0, hi, hz0, hz1, hz2⟩ := info_parts rg_info
  have hz : ∀ w, (Go.sizeOf 62).run Try.prog w = .ok 2 w := fun w => by simp [sizeOf, typeInfo, hi, hz1]
  have hsa : w.shape? a = some (62, ca.size) := by unfold Blk at hA; simp [World.shape?, hA]
  have hsb : w.shape? b = some (62, cb.size) := by unfold Blk at hB; simp [World.shape?, hB]
  have hov := Lib.run_overlaps_apart (P := Try.prog) w 63 4 62 Try.underlying63 2 hz ⟨a, oa, none⟩ ⟨b, ob, none⟩ la xa lb xb hne _ _ _ _ hsa hsb h0 (hA.frozen _) (hA.frozen _)
  rw [run_callFunc_extern (f := 65) Try.func65 (by kernel_rfl) (by kernel_rfl) (by kernel_rfl) (e := Extern.SlicesOverlaps.overlaps #[63, 63] #[4]) (by kernel_rfl), hov]
  rfl
end Go.Proofs.Ytkmfhcjdajbbhaa
