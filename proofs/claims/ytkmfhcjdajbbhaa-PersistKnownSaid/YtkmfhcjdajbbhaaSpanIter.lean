/-
  Sets of ranges (package span): the iterator over the ranges, the greatest one first; what is collected of it; how many numbers there are.
-/
import Derived.Test.YtkmfhcjdajbbhaaSpanCut
import Derived.RangeFuncNested
import Derived.RangeFuncBound
import Derived.RangeFuncCalls
import Derived.RangeFuncLeaves
import Derived.Shelf.Abstract
import Derived.OwnWalkIn
import Derived.TacticsInMore
import Derived.LoopNIn
import Derived.LoopIn
namespace Go.Proofs.Ytkmfhcjdajbbhaa
set_option linter.unusedSimpArgs false
set_option linter.unusedVariables false
open Go.RowKit Go.Shelf
attribute [local go_sem] Oper.semAt_some

/-- The blocks of T lie as they lay. -/
def KeepsT (T : List Nat) (W W' : World) : Prop := ∀ k ∈ T, W'.heap[k]? = W.heap[k]?
section
variable {T : List Nat} {A B C : World}
theorem KeepsT.refl (T : List Nat) (A : World) : KeepsT T A A := fun _ _ => rfl
theorem KeepsT.trans (h : KeepsT T A B) (k : KeepsT T B C) : KeepsT T A C := fun x hx => (k x hx).trans (h x hx)
theorem KeepsT.cell (h : KeepsT T A B) {k : Nat} (hk : k ∈ T) (i : Nat) : B.cell? ⟨k, i, none⟩ = A.cell? ⟨k, i, none⟩ := by simp only [World.cell?, h k hk]
theorem keepsT_b {w : World} (hT : ∀ k ∈ T, k < w.heap.size) (W : World) (l : Nat) (o o' : Obj) (hl : w.heap.size ≤ l) (h : W.heap[l]? = some o) (_ : o.isCells = false) (_ : o.isWalk = false) : KeepsT T W (W.putObj l o') := fun k hk =>
  (grownBy_putObj' W l o').block k (by have := hT k hk; have := (Array.getElem?_eq_some_iff.1 h).1; omega) (fun e => by cases e; have := hT _ hk; omega)
theorem keepsT_below {n : Nat} (hT : ∀ k ∈ T, k < n) (h : Below n A B) : KeepsT T A B := fun k hk => h.block k (hT k hk)
end
/-- What the iterator reads. -/
structure FallAt (W : World) (T : List Nat) (Bs b : Nat) (rs : List Rg) : Prop where
  inBs : Bs ∈ T
  inb : b ∈ T
  box : W.cell? ⟨Bs, 0, none⟩ = some (.pointer (some ⟨b, 0, none⟩))
  row : ∃ a c, W.cell? ⟨b, 1, none⟩ = some (.slice a rs.length c) ∧ ∀ (i : Nat) (r : Rg), rs[i]? = some r → ∃ k, a = some ⟨k, 0, none⟩ ∧ k ∈ T ∧ W.cell? ⟨k, i * 2, none⟩ = some (.int .i64 r.lo) ∧ W.cell? ⟨k, i * 2 + 1, none⟩ = some (.int .i64 r.hi)
theorem FallAt.keeps {W W' : World} {T : List Nat} {Bs b : Nat} {rs : List Rg} (h : FallAt W T Bs b rs) (k : KeepsT T W W') : FallAt W' T Bs b rs := by
  obtain ⟨h1, h2, h3, a, c, h4, h5⟩ := h
  refine ⟨h1, h2, (k.cell h1 0).trans h3, a, c, (k.cell h2 1).trans h4, fun i r hi => ?_⟩
  obtain ⟨g, e, hg, z0, z1⟩ := h5 i r hi
  exact ⟨g, e, hg, (k.cell hg _).trans z0, (k.cell hg _).trans z1⟩
def encR (r : Rg) : Value := .agg #[.int .i64 r.lo, .int .i64 r.hi]

set_option maxRecDepth 100000 in
set_option maxHeartbeats 2000000 in
theorem falling1_in (F : Fence) (n : Nat) (hF : F.fn 68) (hro : F.round = none) (hn : 1 ≤ n) (l Bs b : Nat) (T : List Nat) (rs : List Rg) (hlen : rs.length ≤ 1000) (J Jx : List Rg → World → Prop)
    (hY : ∀ pre x W, J pre W → pre.length < rs.length → YieldAt F (n - 1) Try.prog l #[encR x] W fun e W' =>
      (e = .returned (.bool true) ∧ J (pre ++ [x]) W' ∧ KeepsT T W W') ∨ (e = .returned (.bool false) ∧ Jx (pre ++ [x]) W'))
    (W : World) (hA : FallAt W T Bs b rs) (h0 : J [] W) :
    CallsIn F n Try.prog 68 #[.func (.yield l) #[] #[], .pointer (some ⟨Bs, 0, none⟩)] W fun e W' => (∃ v, e = .returned v) ∧
      ((∃ ys, ys = rs.reverse ∧ J ys W') ∨ (∃ pre, pre <+: rs.reverse ∧ Jx pre W')) := by
  refine callsIn_of_wp Try.func68 rfl hF ?_ hro
  simp only [Try.ntmps68, List.size_toArray, List.length_cons, List.length_nil, Nat.reduceAdd, Nat.reduceSub, Array.replicate_succ, Array.replicate_zero, List.push_toArray, List.append_toArray, List.nil_append, List.cons_append]
  have HA := hide hA
  obtain ⟨_, _, q0, a, c, q1, _⟩ := hA
  have hw1 : IntKind.i64.wrap ((rs.length : Int) - 1) = (rs.length : Int) - 1 := by rw [IntKind.wrap_i64]; omega
  gi_wp2
  gi_loopw [3] (fun s3 wr => ∃ m : Nat, m ≤ rs.length ∧ s3 = .int .i64 ((m : Int) - 1) ∧ J (rs.drop m).reverse wr ∧ FallAt wr T Bs b rs)
    (fun s3 _ => (intOf s3 + 1).toNat)
  case atStart => exact ⟨rs.length, Nat.le_refl _, rfl, by rw [List.drop_length]; exact h0, HA.out⟩
  case round =>
    obtain ⟨m, hm, rfl, hJs, hAr⟩ := hrel
    have HAR := hide hAr
    obtain ⟨_, _, p0, ar, cr, p1, hat⟩ := hAr
    cases m with
    | zero =>
      rw [show (((0 : Nat) : Int) - 1) = -1 from rfl]
      have hneg : ¬ (0 : Int) ≤ -1 := by omega
      gi_wp2
      refine ⟨fun _ h => (by cases h), ?_⟩
      gi_wp2
      go_end0
      exact ⟨⟨_, rfl⟩, .inl ⟨_, rfl, by simpa using hJs⟩⟩
    | succ m =>
      obtain ⟨r, hr⟩ : ∃ r, rs[m]? = some r := ⟨_, List.getElem?_eq_getElem (by omega)⟩
      obtain ⟨k, rfl, hk, z0, z1⟩ := hat m r hr
      have hstep : (rs.drop (m + 1)).reverse ++ [r] = (rs.drop m).reverse := by
        have e : rs.drop m = r :: rs.drop (m + 1) := by
          rw [List.drop_eq_getElem_cons (by omega : m < rs.length)]
          congr 1
          have := List.getElem?_eq_getElem (show m < rs.length by omega)
          rw [hr] at this
          exact (Option.some.inj this).symm
        rw [e, List.reverse_cons]
      obtain ⟨fn, tmps, assign, body, hy, hR⟩ := hY _ r wr hJs (by simp; omega)
      unfold encR at hy
      rw [hstep] at hR
      rw [show (((m + 1 : Nat) : Int) - 1) = (m : Int) by omega]
      have hm0 : (0 : Int) ≤ (m : Int) := by omega
      have hm1 : (m : Int) < (rs.length : Int) := by omega
      have hw2 : IntKind.i64.wrap ((m : Int) - 1) = (m : Int) - 1 := by rw [IntKind.wrap_i64]; omega
      clear hat hstep
      gi_wp2
      refine hR.mono ?_
      rintro e W3 (⟨rfl, hJ3, hk3⟩ | ⟨rfl, hJx3⟩)
      · gi_wp2
        go_roundw
        case rel => exact ⟨m, by omega, rfl, hJ3, HAR.out.keeps hk3⟩
        case measure => simp [intOf]
      · gi_wp2
        go_end0
        exact ⟨⟨_, rfl⟩, .inr ⟨_, ⟨(rs.take m).reverse, by rw [← List.reverse_append, List.take_append_drop]⟩, hJx3⟩⟩

set_option maxHeartbeats 1000000 in
/-- falling: the receiver is boxed; the function value captures the box. -/
theorem falling_in (F : Fence) (n : Nat) (hF : F.fn 47) (hro : F.round = none) (b : Nat) (w : World) :
    CallsIn F n Try.prog 47 #[.pointer (some ⟨b, 0, none⟩)] w fun e w' => e = .returned (.func (.func 68) #[] #[.pointer (some ⟨w.heap.size, 0, none⟩)]) ∧ w' = w.alloc (.cells #[.pointer (some ⟨b, 0, none⟩)] 23) := by
  refine callsIn_of_wp Try.func47 rfl hF ?_ hro
  simp only [Try.ntmps47, List.size_toArray, List.length_cons, List.length_nil, Nat.reduceAdd, Nat.reduceSub, Array.replicate_succ, Array.replicate_zero, List.push_toArray, List.append_toArray, List.nil_append, List.cons_append]
  gi_wp2
  go_ret
  exact ⟨rfl, rfl⟩

theorem falling_stops (F : Fence) (n : Nat) (hF : F.fn 68) (hro : F.round = none) (hn : 1 ≤ n) (Bs b : Nat) (T : List Nat) (rs : List Rg) (hlen : rs.length ≤ 1000) (w : World) (hA : FallAt w T Bs b rs) (hT : ∀ k ∈ T, k < w.heap.size) :
    SeqStopsK F n Try.prog 68 #[.pointer (some ⟨Bs, 0, none⟩)] (fun r : Rg => #[encR r]) (KeepsT T) (fun ys => ys = rs.reverse) (fun pre => pre <+: rs.reverse) rs.length w := fun l J Jx W hW _ _ hY h0 =>
  falling1_in F n hF hro hn l Bs b T rs hlen J Jx hY W (hA.keeps (keepsT_below hT hW)) h0
end Go.Proofs.Ytkmfhcjdajbbhaa
