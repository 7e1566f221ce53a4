/-
 Layer 24 (judge): slices.Backward over what went by the pacer: the iterator's contract.
-/
import Derived.Test.YtidfngcclbhoaaaJgThrough
import Derived.Test.YtidfngcclbhoaaaRoundRegion
import Derived.RangeFuncNested
import Derived.RangeFuncBound
import Derived.RangeFuncCalls
import Derived.RangeFuncLeaves
import Derived.Shelf.Abstract
import Derived.OwnWalkIn
import Derived.TacticsInMore
import Derived.LoopNIn
import Derived.LoopIn
namespace Go.Proofs.Ytidfngcclbhoaaa
set_option linter.unusedSimpArgs false
set_option linter.unusedVariables false
open Go.RowKit Go.Shelf
attribute [local go_sem] Oper.semAt_some

/-- The blocks of T lie as they lay. -/
def KeepsT (T : List Nat) (W W' : World) : Prop := ∀ k ∈ T, W'.heap[k]? = W.heap[k]?
section
variable {T : List Nat} {A B C : World}
theorem KeepsT.refl (T : List Nat) (A : World) : KeepsT T A A := fun _ _ => rfl
theorem KeepsT.trans (h : KeepsT T A B) (k : KeepsT T B C) : KeepsT T A C := fun x hx => (k x hx).trans (h x hx)
theorem KeepsT.cell (h : KeepsT T A B) {k : Nat} (hk : k ∈ T) (i : Nat) : B.cell? ⟨k, i, none⟩ = A.cell? ⟨k, i, none⟩ := by simp only [World.cell?, h k hk]
theorem keepsT_b {w : World} (hT : ∀ k ∈ T, k < w.heap.size) (W : World) (l : Nat) (o o' : Obj) (hl : w.heap.size ≤ l) (h : W.heap[l]? = some o) (_ : o.isCells = false) (_ : o.isWalk = false) : KeepsT T W (W.putObj l o') := fun k hk =>
 (grownBy_putObj' W l o').block k (by have := hT k hk; have := (Array.getElem?_eq_some_iff.1 h).1; omega) (fun e => by cases e; have := hT _ hk; omega)
theorem keepsT_below {n : Nat} (hT : ∀ k ∈ T, k < n) (h : Below n A B) : KeepsT T A B := fun k hk => h.block k (hT k hk)
end
def okPcd (p : PCD) : Prop := (0 ≤ p.t ∧ p.t ≤ 68719476736) ∧ (1 ≤ p.size ∧ p.size ≤ 65535)
/-- What a round is handed: an index, and a packet that went by. -/
abbrev PX := { x : Nat × PCD // okPcd x.2 }
def encP (p : PCD) : Value := .agg #[.int .i64 p.t, .int .i64 p.size]
def encX (x : PX) : Array Value := #[.int .i64 (x.1.1 : Int), encP x.1.2]
/-- All, the last one first. -/
def allX (l : List PCD) (h : ∀ p ∈ l, okPcd p) : Nat → List PX
 | 0 => []
 | n + 1 => (match hn : l[n]? with
  | some p => [⟨(n, p), h p (List.mem_of_getElem? hn)⟩]
  | none => []) ++ allX l h n
theorem allX_succ (l : List PCD) (h : ∀ p ∈ l, okPcd p) (n : Nat) (p : PCD) (hp : l[n]? = some p) : allX l h (n + 1) = ⟨(n, p), h p (List.mem_of_getElem? hp)⟩ :: allX l h n := by
 rw [allX]
 split
 ·rename_i q hq
  have : q = p := by rw [hp] at hq; exact (Option.some.inj hq).symm
  subst this
  rfl
 ·rename_i hq
  rw [hp] at hq
  cases hq
theorem allX_map (l : List PCD) (h : ∀ p ∈ l, okPcd p) : ∀ n, n ≤ l.length → (allX l h n).map (fun x => x.1.2) = (l.take n).reverse
 | 0, _ => by simp [allX]
 | n + 1, hn => by
  obtain ⟨p, hp⟩ : ∃ p, l[n]? = some p := ⟨_, List.getElem?_eq_getElem (by omega)⟩
  rw [allX_succ l h n p hp, List.map_cons, allX_map l h n (by omega), List.take_add_one, hp, List.reverse_append]
  rfl
/-- What the iterator reads. -/
structure BackAt (W : World) (T : List Nat) (Bs : Nat) (l : List PCD) : Prop where
 inBs : Bs ∈ T
 row : ∃ a c, W.cell? ⟨Bs, 0, none⟩ = some (.slice a l.length c) ∧ ∀ (i : Nat) (p : PCD), l[i]? = some p → ∃ k, a = some ⟨k, 0, none⟩ ∧ k ∈ T ∧ W.cell? ⟨k, i * 2, none⟩ = some (.int .i64 p.t) ∧ W.cell? ⟨k, i * 2 + 1, none⟩ = some (.int .i64 p.size)
theorem BackAt.keeps {W W' : World} {T : List Nat} {Bs : Nat} {l : List PCD} (h : BackAt W T Bs l) (k : KeepsT T W W') : BackAt W' T Bs l := by
 obtain ⟨h1, a, c, h4, h5⟩ := h
 refine ⟨h1, a, c, (k.cell h1 0).trans h4, fun i r hi => ?_⟩
 obtain ⟨g, e, hg, z0, z1⟩ := h5 i r hi
 exact ⟨g, e, hg, (k.cell hg _).trans z0, (k.cell hg _).trans z1⟩
set_option maxRecDepth 100000 in
set_option maxHeartbeats 2000000 in
theorem back1_in (F : Fence) (n : Nat) (hF : F.fn 83) (hro : F.round = none) (hn : 1 ≤ n) (l Bs : Nat) (T : List Nat) (ps : List PCD) (hok : ∀ p ∈ ps, okPcd p) (hlen : ps.length ≤ 2000) (J Jx : List PX → World → Prop)
  (hY : ∀ pre x W, J pre W → pre.length < ps.length → YieldAt F (n - 1) Try.prog l (encX x) W fun e W' =>
   (e = .returned (.bool true) ∧ J (pre ++ [x]) W' ∧ KeepsT T W W') ∨ (e = .returned (.bool false) ∧ Jx (pre ++ [x]) W'))
  (W : World) (hA : BackAt W T Bs ps) (h0 : J [] W) :
  CallsIn F n Try.prog 83 #[.func (.yield l) #[] #[], .pointer (some ⟨Bs, 0, none⟩)] W fun e W' => (∃ v, e = .returned v) ∧
   ((∃ ys, ys = allX ps hok ps.length ∧ J ys W') ∨ (∃ pre, pre <+: allX ps hok ps.length ∧ Jx pre W')) := by
 refine callsIn_of_wp Try.func83 rfl hF ?_ hro
 simp only [Try.ntmps83, List.size_toArray, List.length_cons, List.length_nil, Nat.reduceAdd, Nat.reduceSub, Array.replicate_succ, Array.replicate_zero, List.push_toArray, List.append_toArray, List.nil_append, List.cons_append]
 have HA := hide hA
 obtain ⟨_, a, c, q1, _⟩ := hA
 have hw1 : IntKind.i64.wrap ((ps.length : Int) - 1) = (ps.length : Int) - 1 := by rw [IntKind.wrap_i64]; omega
 gi_wp2
 gi_loopw [3] (fun s3 wr => ∃ (m : Nat) (pre : List PX), m ≤ ps.length ∧ s3 = .int .i64 ((m : Int) - 1) ∧ pre ++ allX ps hok m = allX ps hok ps.length ∧ pre.length = ps.length - m ∧ J pre wr ∧ BackAt wr T Bs ps)
  (fun s3 _ => (intOf s3 + 1).toNat)
 case atStart => exact ⟨ps.length, [], Nat.le_refl _, rfl, rfl, by simp, h0, HA.out⟩
 case round =>
  obtain ⟨m, pre, hm, rfl, hpre, hpl, hJs, hAr⟩ := hrel
  have HAR := hide hAr
  obtain ⟨_, ar, cr, p1, hat⟩ := hAr
  cases m with
  | zero =>
   rw [show (((0 : Nat) : Int) - 1) = -1 from rfl]
   have hneg : ¬ (0 : Int) ≤ -1 := by omega
   gi_wp2
   go_end0
   exact ⟨⟨_, rfl⟩, .inl (by rw [← hpre, allX, List.append_nil]; exact hJs)⟩
  | succ m =>
   obtain ⟨r, hr⟩ : ∃ r, ps[m]? = some r := ⟨_, List.getElem?_eq_getElem (by omega)⟩
   obtain ⟨k, rfl, hk, z0, z1⟩ := hat m r hr
   rw [allX_succ ps hok m r hr] at hpre
   obtain ⟨x, hx⟩ : ∃ x : PX, (⟨(m, r), hok r (List.mem_of_getElem? hr)⟩ : PX) = x := ⟨_, rfl⟩
   have hxe : encX x = #[.int .i64 (m : Int), .agg #[.int .i64 r.t, .int .i64 r.size]] := by rw [← hx]; rfl
   rw [hx] at hpre
   obtain ⟨fn, tmps, assign, body, hy, hR⟩ := hY pre x wr hJs (by omega)
   rw [hxe] at hy
   rw [show (((m + 1 : Nat) : Int) - 1) = (m : Int) by omega]
   have hm0 : (0 : Int) ≤ (m : Int) := by omega
   have hm1 : (m : Int) < (ps.length : Int) := by omega
   have hw2 : IntKind.i64.wrap ((m : Int) - 1) = (m : Int) - 1 := by rw [IntKind.wrap_i64]; omega
   have HPRE := hide hpre
   clear hat hx hxe hpre
   gi_wp2
   refine hR.mono ?_
   rintro e W3 (⟨rfl, hJ3, hk3⟩ | ⟨rfl, hJx3⟩)
   ·gi_wp2
    go_roundw
    case rel => exact ⟨m, pre ++ [x], by omega, rfl, by rw [List.append_assoc]; exact HPRE.out, by rw [List.length_append]; simp; omega, hJ3, HAR.out.keeps hk3⟩
    case measure => simp [intOf]
   ·gi_wp2
    refine bodyPost_ret (results_none rfl _ _ _) rfl ?_
    exact ⟨⟨_, rfl⟩, .inr ⟨_, ⟨allX ps hok m, by rw [List.append_assoc]; exact HPRE.out⟩, hJx3⟩⟩
set_option maxHeartbeats 1000000 in
theorem back_in (F : Fence) (n : Nat) (hF : F.fn 70) (hro : F.round = none) (a : Option Addr) (len cap : Nat) (w : World) :
  CallsIn F n Try.prog 70 #[.slice a len cap] w fun e w' => e = .returned (.func (.func 83) #[] #[.pointer (some ⟨w.heap.size, 0, none⟩)]) ∧ w' = w.alloc (.cells #[.slice a len cap] 56) := by
 refine callsIn_of_wp Try.func70 rfl hF ?_ hro
 simp only [Try.ntmps70, List.size_toArray, List.length_cons, List.length_nil, Nat.reduceAdd, Nat.reduceSub, Array.replicate_succ, Array.replicate_zero, List.push_toArray, List.append_toArray, List.nil_append, List.cons_append]
 gi_wp2
 go_ret
 exact ⟨rfl, rfl⟩
theorem back_stops (F : Fence) (n : Nat) (hF : F.fn 83) (hro : F.round = none) (hn : 1 ≤ n) (Bs : Nat) (T : List Nat) (ps : List PCD) (hok : ∀ p ∈ ps, okPcd p) (hlen : ps.length ≤ 2000) (w : World) (hA : BackAt w T Bs ps) (hT : ∀ k ∈ T, k < w.heap.size) :
  SeqStopsK F n Try.prog 83 #[.pointer (some ⟨Bs, 0, none⟩)] encX (KeepsT T) (fun ys => ys = allX ps hok ps.length) (fun pre => pre <+: allX ps hok ps.length) ps.length w := fun l J Jx W hW _ _ hY h0 =>
 back1_in F n hF hro hn l Bs T ps hok hlen J Jx hY W (hA.keeps (keepsT_below hT hW)) h0
end Go.Proofs.Ytidfngcclbhoaaa
