/-
  A slice of integers that came in.
-/
import Derived.Test.YtkmfhcjdajbbhaaBring
import Derived.Test.YtkmfhcjdajbbhaaReads
import Derived.OpenShut
namespace Go.Proofs.Ytkmfhcjdajbbhaa
open Go.RowKit

/-- What the walk is told of a slice of integers that came in. -/
def IntsAt (w : World) (a : Option Addr) (len cap : Nat) (zs : List Int) : Prop :=
  (a = none ∧ len = 0 ∧ cap = 0 ∧ zs = []) ∨
  ∃ x, a = some x ∧ len ≤ cap ∧ cap ≤ maxLen ∧ zs.length = cap ∧ (∀ i, i < zs.length → w.cell? (x.add i) = some (.int .i64 (zs.getD i 0))) ∧ ∀ n ∈ zs, (Lit.int .i64 n).wf = true

theorem intsAt_get {w : World} {a : Option Addr} {len cap k : Nat} {zs : List Int} (h : IntsAt w a len cap zs) (hk : k < len) :
    ∃ x z, a = some x ∧ w.cell? (x.add k) = some (.int .i64 z) ∧ x.block < w.heap.size ∧ -9223372036854775808 ≤ z ∧ z ≤ 9223372036854775807 ∧ len ≤ 9223372036854775807 := by
  rcases h with ⟨_, rfl, _⟩ | ⟨x, rfl, hl, hm, hz, hc, hw⟩
  · omega
  · have hkz : k < zs.length := by omega
    have hz2 := hc k hkz
    have hmem : zs.getD k 0 ∈ zs := by
      rw [List.getD_eq_getElem?_getD, List.getElem?_eq_getElem hkz]; exact List.getElem_mem hkz
    have hwf := hw _ hmem
    have hb := bounds_i64 hwf
    have hlt := World.block_lt_of_cell? _ _ hz2
    rw [block_of_add] at hlt
    unfold maxLen at hm
    exact ⟨x, _, rfl, hz2, hlt, hb.1, hb.2, by omega⟩
end Go.Proofs.Ytkmfhcjdajbbhaa
