/-
 A region that draws its order, in a round of a range over a function, at the wide fence: by the laws of the walk without a fence (the loads first, under a condition on the world).
-/
import Derived.RangeFuncNested
import Derived.RangeFuncBound
import Derived.RangeFuncCalls
import Derived.Deep.RegionHeld3
import Derived.OrdersIn
namespace Go
theorem rows_in_wide {l n : Nat} {P : Program} {row : String} {args : Array Value} {w : World} {R : Value → World → Prop} (h : Rows P row args w R) : RowsIn (Fence.wide.inRound l) n P row args w R :=
 fun c cs _ => let ⟨v, w', r, s⟩ := h c cs; ⟨v, w', r, stepsIn_wide.2 s⟩
theorem oper_in_round {P : Program} {o : Oper} {a : Act} {w : World} {next : Act → World → Prop} {Q : Exit → Act → World → Prop} (l n : Nat) (hd : ∀ c, o.op ≠ .defer c) (h : o.wp P a w next Q) : o.wpIn (Fence.wide.inRound l) n P a w next Q := by
 unfold Oper.wp at h
 unfold Oper.wpIn
 refine ⟨fun _ _ => trivial, ?_⟩
 rw [Oper.semAt_eq _ _ _ hd]
 generalize (execOp a.eval o).run P w = r at h ⊢
 have hdep : (Fence.wide.inRound l).depth.isSome = true → 1 ≤ n := fun h => by simp [Fence.wide] at h
 cases r with
 | ok x w' =>
  cases x <;> first
   | exact h
   | exact ⟨hdep, CallsIn.inRound l (callsIn_wide.2 h)⟩
   | exact ⟨hdep, rows_in_wide h⟩
   | exact h.elim
 | halt x w' => cases x <;> first | exact h | exact h.elim
def Region.noDefer (ops : Array Oper) : Bool := ops.all fun o => match o.op with | .defer _ => false | _ => true
theorem Region.noDefer_spec {ops : Array Oper} (h : Region.noDefer ops = true) {j : Nat} {o : Oper} (ho : ops[j]? = some o) : ∀ c, o.op ≠ .defer c := by
 intro c hc
 unfold Region.noDefer at h
 rw [Array.all_eq_true] at h
 obtain ⟨hj, hjo⟩ := Array.getElem?_eq_some_iff.1 ho
 have := h j hj
 rw [hjo, hc] at this
 cases this
theorem any_in_round {P : Program} {md : Region.Mode} {ops : Array Oper} {Q : Exit → Act → World → Prop} (l n : Nat) (hnd : Region.noDefer ops = true) (hq : ¬ LetsOut Q) :
  ∀ (fuel : Nat) (listed : Array Bool) (a : Act) (w : World), wpAny P md ops Q fuel listed a w → wpAnyIn (Fence.wide.inRound l) n P md ops Q fuel listed a w
 | 0, _, _, _, h => h
 | fuel + 1, listed, a, w, h => by
  refine ⟨h.1, fun i hi => ?_⟩
  have hop := h.2 i hi
  have hop2 : wpOp P ops Q i (wpAnyIn (Fence.wide.inRound l) n P md ops Q fuel (listed.setIfInBounds i true)) a w := wpOp_mono (fun a w hh => any_in_round l n hnd hq fuel _ a w hh) hop
  clear hop
  unfold wpOp at hop2
  unfold wpOpIn
  cases ho : ops[i]? with
  | none => simpa [ho] using hop2
  | some o =>
   simp only [ho] at hop2 ⊢
   by_cases hw : Region.wanted o (yielded ops a.tmps) = true
   ·simp only [hw, if_true] at hop2 ⊢
    rcases hop2 with h1 | ⟨_, h1⟩
    ·exact oper_in_round l n (Region.noDefer_spec hnd ho) h1
    ·exact absurd h1 hq
   ·simp only [hw, Bool.false_eq_true, if_false] at hop2 ⊢
    exact ⟨fun _ _ => trivial, hop2⟩
/-- The beginning of such a region. -/
theorem round_region_held {P : Program} {ops : Array Oper} {Q : Exit → Act → World → Prop} {l n id : Nat} {a : Act} {w : World} (S : World → Prop) (hm : P.follows .mixedOrders = true) (hnd : Region.noDefer ops = true) (hq : ¬ LetsOut Q) (hS : S w.drew)
  (h : S w.drew → wpAnyH P .any ops Q S ops.size (Array.replicate ops.size false) a w.drew) : (Code.region id ops true).wpIn (Fence.wide.inRound l) n P Q a w :=
 wpIn_region_any hm (any_in_round l n hnd hq _ _ _ _ (wpAny_of_held _ _ _ _ (h hS)))
end Go
