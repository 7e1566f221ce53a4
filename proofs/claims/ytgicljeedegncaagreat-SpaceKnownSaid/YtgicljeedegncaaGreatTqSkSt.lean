/-
 3 texts in one (RegionGrow, SkList, SkSt).
-/
import Derived.Test.YtgicljeedegncaaGreatBase
import Derived.Deep.RegionHeld3
import Derived.Test.YtgicljeedegncaaGreatSpPlaysW
import Derived.Test.YtgicljeedegncaaGreatSkNil
import Derived.Test.YtgicljeedegncaaGreatTqSpLawB
import Derived.Great.CaseRows
import Derived.Test.YtgicljeedegncaaGreatSpWorks
namespace Go.Proofs.YtgicljeedegncaaGreat
open List renaming getElem?_toArray → ZG
open Go.Act renaming put → ZP
set_option linter.unusedSimpArgs false
set_option linter.unusedVariables false
open Go Go.RowKit

/-- The slots hold these values. -/
def putL : List (Nat × Value) → Act → Act
 | [], a => a
 | (d, v) :: l, a => putL l (a.put (some d) v)
theorem putL_defers : ∀ (l : List (Nat × Value)) (a : Act), (putL l a).defers = a.defers
 | [], _ => rfl
 | (d, v) :: l, a => by rw [putL, putL_defers l]; rfl
theorem putL_out : ∀ (l : List (Nat × Value)) (a : Act) (t : Nat), t ∉ l.map (·.1) → (putL l a).tmps[t]? = a.tmps[t]?
 | [], _, _, _ => rfl
 | (d, v) :: l, a, t, h => by
  rw [putL, putL_out l _ t (fun hm => h (by simp [hm]))]
  simp only [ZP]
  rw [Array.getElem?_setIfInBounds_ne (fun e => h (by simp [e]))]
theorem putL_in : ∀ (l : List (Nat × Value)) (a : Act) (d : Nat) (v : Value), (l.map (·.1)).Nodup → (d, v) ∈ l → d < a.tmps.size → (putL l a).tmps[d]? = some v
 | (d', v') :: l, a, d, v, hn, hm, hd => by
  rw [List.map_cons, List.nodup_cons] at hn
  rw [putL]
  rcases List.mem_cons.1 hm with h | h
  ·cases h
   rw [putL_out l _ _ hn.1]
   simp [ZP, hd]
  ·exact putL_in l _ d v hn.2 h (by simpa [ZP] using hd)
/-- The operations that are left, and their slots; what is known of their values. -/
structure Grown (D : List (Nat × Nat)) (V : Nat → Value → World → Prop) (a0 : Act) (w0 : World) (vs : Nat → Value) (listed : Array Bool) (a : Act) (w : World) : Prop where
 size : a.tmps.size = a0.tmps.size
 defers : a.defers = a0.defers
 ins : ∀ i d, (i, d) ∈ D → listed.getD i true = true → a.tmps[d]? = some (vs i) ∧ V i (vs i) w
 out : ∀ t, t ∉ D.map (·.2) → a.tmps[t]? = a0.tmps[t]?
 below : Below w0.heap.size w0 w
def leftN (ops : Array Oper) (listed : Array Bool) : Nat := ((List.range ops.size).filter fun i => !listed.getD i true).length
def acyc (ops : Array Oper) : Bool := (List.range ops.size).all fun i => ((ops[i]?).map fun o => o.after.all fun e => decide (e.on < i)).getD true
/-- Each operation that has not come up is one of D, unguarded. -/
def covers (ops : Array Oper) (listed : Array Bool) (D : List (Nat × Nat)) : Bool := (List.range ops.size).all fun i => listed.getD i true || ((ops[i]?).map fun o => D.any (fun p => p.1 == i && o.dst == some p.2) && o.guard.isNone).getD false
theorem all_listed {ops : Array Oper} {md : Region.Mode} {listed : Array Bool} (hc : acyc ops = true) (hr : Region.ready md ops listed = []) : ∀ n i, i < n → i < ops.size → listed.getD i true = true
 | 0, _, h, _ => absurd h (Nat.not_lt_zero _)
 | n + 1, i, h, hi => by
  by_cases hin : i < n
  ·exact all_listed hc hr n i hin hi
  ·cases e : listed.getD i true with
   | true => rfl
   | false =>
    exfalso
    have h1 : i ∈ Region.ready md ops listed := by
     refine mem_ready.2 ⟨e, ops[i], Array.getElem?_eq_getElem hi, fun x hx _ => ?_⟩
     have h2 := List.all_eq_true.1 hc i (List.mem_range.2 hi)
     rw [Array.getElem?_eq_getElem hi] at h2
     simp only [Option.map_some, Option.getD_some, Array.all_eq_true'] at h2
     have h3 := of_decide_eq_true (h2 x hx)
     have h4 := all_listed hc hr n x.on (by omega) (by omega)
     rw [Array.getD_eq_getD_getElem?] at h4 ⊢
     have h5 : i < listed.size := by
      rcases Nat.lt_or_ge i listed.size with h6 | h6
      ·exact h6
      ·rw [Array.getD_eq_getD_getElem?, Array.getElem?_eq_none h6] at e; cases e
     rw [Array.getElem?_eq_getElem (by omega)] at h4 ⊢
     exact h4
    rw [hr] at h1
    cases h1
theorem leftN_set {ops : Array Oper} {listed : Array Bool} {i : Nat} (hi : i < ops.size) (hl : listed.getD i true = false) : leftN ops (listed.setIfInBounds i true) < leftN ops listed := by
 have hls : i < listed.size := by
  rcases Nat.lt_or_ge i listed.size with h | h
  ·exact h
  ·rw [Array.getD_eq_getD_getElem?, Array.getElem?_eq_none h] at hl; cases hl
 have e : ((List.range ops.size).filter fun j => !(listed.setIfInBounds i true).getD j true) = ((List.range ops.size).filter fun j => !listed.getD j true).filter fun j => j != i := by
  rw [List.filter_filter]
  apply List.filter_congr
  intro j _
  by_cases hj : j = i
  ·subst hj
   simp [Array.getD_eq_getD_getElem?, hls]
  ·rw [Array.getD_eq_getD_getElem?, Array.getElem?_setIfInBounds_ne (Ne.symm hj), ← Array.getD_eq_getD_getElem?]
   simp [hj]
 unfold leftN
 rw [e]
 exact List.length_filter_lt_length_iff_exists.2 ⟨i, List.mem_filter.2 ⟨List.mem_range.2 hi, by rw [hl]; rfl⟩, by simp⟩
theorem nodup_snd : ∀ {D : List (Nat × Nat)} {i d e : Nat}, (D.map (·.1)).Nodup → (i, d) ∈ D → (i, e) ∈ D → d = e
 | p :: D, i, d, e, hn, h1, h2 => by
  rw [List.map_cons, List.nodup_cons] at hn
  rcases List.mem_cons.1 h1 with h1 | h1 <;> rcases List.mem_cons.1 h2 with h2 | h2
  ·rw [← h1] at h2; exact (congrArg Prod.snd h2).symm
  ·exact absurd (List.mem_map.2 ⟨_, h2, by rw [← h1]⟩) hn.1
  ·exact absurd (List.mem_map.2 ⟨_, h1, by rw [← h2]⟩) hn.1
  ·exact nodup_snd hn.2 h1 h2
theorem nodup_fst : ∀ {D : List (Nat × Nat)} {i j d : Nat}, (D.map (·.2)).Nodup → (i, d) ∈ D → (j, d) ∈ D → i = j
 | p :: D, i, j, d, hn, h1, h2 => by
  rw [List.map_cons, List.nodup_cons] at hn
  rcases List.mem_cons.1 h1 with h1 | h1 <;> rcases List.mem_cons.1 h2 with h2 | h2
  ·rw [← h1] at h2; exact (congrArg Prod.fst h2).symm
  ·exact absurd (List.mem_map.2 ⟨_, h2, by rw [← h1]⟩) hn.1
  ·exact absurd (List.mem_map.2 ⟨_, h1, by rw [← h2]⟩) hn.1
  ·exact nodup_fst hn.2 h1 h2
theorem wpAnyH_grow {P : Program} {md : Region.Mode} {ops : Array Oper} {Q : Exit → Act → World → Prop} {S : World → Prop} (D : List (Nat × Nat)) (V : Nat → Value → World → Prop) {a0 : Act} {w0 : World} {listed0 : Array Bool}
  (hmono : ∀ i v w w', V i v w → Below w.heap.size w w' → V i v w') (hS : ∀ w', Below w0.heap.size w0 w' → S w')
  (hc : acyc ops = true) (hcov : covers ops listed0 D = true) (hnd : (D.map (·.2)).Nodup) (hnd1 : (D.map (·.1)).Nodup) (hsz : ∀ p ∈ D, p.2 < a0.tmps.size)
  (hstep : ∀ i d, (i, d) ∈ D → ∀ o, ops[i]? = some o → o.dst = some d → ∀ a w, (∀ j e, (j, e) ∈ D → (o.after.any fun x => Region.binds md x && x.on == j) = true → ∃ v, a.tmps[e]? = some v ∧ V j v w) → (∀ t, t ∉ D.map (·.2) → a.tmps[t]? = a0.tmps[t]?) → Below w0.heap.size w0 w →
   ∀ K : Act → World → Prop, (∀ v w', V i v w' → Below w.heap.size w w' → K (a.put (some d) v) w') → o.wp P a w K Q)
  (hend : ∀ vs : Nat → Value, ∀ w, (∀ i d, (i, d) ∈ D → V i (vs i) w) → Below w0.heap.size w0 w → Q .normal (putL (D.map fun p => (p.2, vs p.1)) a0) w) :
  ∀ (fuel : Nat) (vs : Nat → Value) (listed : Array Bool) (a : Act) (w : World), leftN ops listed ≤ fuel → covers ops listed D = true → Grown D V a0 w0 vs listed a w → (∀ i d, (i, d) ∈ D → i < ops.size) → wpAnyH P md ops Q S fuel listed a w := by
 have hfin : ∀ (vs : Nat → Value) (listed : Array Bool) (a : Act) (w : World), Grown D V a0 w0 vs listed a w → (∀ i d, (i, d) ∈ D → i < ops.size) → Region.ready md ops listed = [] → Q .normal a w := by
  intro vs listed a w h hlt hr
  have hall := all_listed hc hr ops.size
  have e : a = putL (D.map fun p => (p.2, vs p.1)) a0 := by
   have e1 : (D.map fun p => (p.2, vs p.1)).map (·.1) = D.map (·.2) := by rw [List.map_map]; rfl
   obtain ⟨t, df⟩ := a
   have h1 : t = (putL (D.map fun p => (p.2, vs p.1)) a0).tmps := by
    apply Array.ext_getElem?
    intro k
    by_cases hk : k ∈ D.map (·.2)
    ·obtain ⟨⟨i, d⟩, hm, rfl⟩ := List.mem_map.1 hk
     rw [(h.ins i d hm (hall i (hlt i d hm) (hlt i d hm))).1, putL_in _ _ d (vs i) (by rw [e1]; exact hnd) (List.mem_map.2 ⟨(i, d), hm, rfl⟩) (hsz _ hm)]
    ·rw [h.out k hk, putL_out _ _ k (by rw [e1]; exact hk)]
   have h2 : df = (putL (D.map fun p => (p.2, vs p.1)) a0).defers := by rw [putL_defers]; exact h.defers
   rw [h1, h2]
  rw [e]
  exact hend vs w (fun i d hm => (h.ins i d hm (hall i (hlt i d hm) (hlt i d hm))).2) h.below
 intro fuel
 induction fuel with
 | zero =>
  intro vs listed a w hf _ h hlt
  have hr : Region.ready md ops listed = [] := by
   cases e : Region.ready md ops listed with
   | nil => rfl
   | cons i r =>
    exfalso
    obtain ⟨h1, o, ho, _⟩ := mem_ready.1 (show i ∈ Region.ready md ops listed by rw [e]; simp)
    have := leftN_set (Array.getElem?_eq_some_iff.1 ho).1 h1
    omega
  exact ⟨hr, hfin vs listed a w h hlt hr⟩
 | succ fuel ih =>
  intro vs listed a w hf hcv h hlt
  refine ⟨fun hr => hfin vs listed a w h hlt hr, fun i hi => ?_⟩
  obtain ⟨hl, o, ho, hdep⟩ := mem_ready.1 hi
  have his := (Array.getElem?_eq_some_iff.1 ho).1
  have h2 := List.all_eq_true.1 hcv i (List.mem_range.2 his)
  rw [hl, ho] at h2
  simp only [Bool.false_or, Option.map_some, Option.getD_some, Bool.and_eq_true, List.any_eq_true, beq_iff_eq, Option.isNone_iff_eq_none] at h2
  obtain ⟨⟨⟨i', d⟩, hm, rfl, hd⟩, hg⟩ := h2
  dsimp only at *
  unfold wpOp
  simp only [ho]
  have hw : Region.wanted o (yielded ops a.tmps) = true := by unfold Region.wanted; rw [hg]
  rw [if_pos hw]
  refine .inl (hstep i' d hm o ho hd a w (fun j e hj hx => ?_) h.out h.below _ (fun v w' hv hb => ?_))
  ·obtain ⟨x, hx1, hx2⟩ := Array.any_eq_true'.1 hx
   simp only [Bool.and_eq_true, beq_iff_eq] at hx2
   have h3 := hdep x hx1 hx2.1
   rw [hx2.2] at h3
   exact ⟨vs j, h.ins j e hj (by
    rw [Array.getD_eq_getD_getElem?] at h3 ⊢
    rcases Nat.lt_or_ge j listed.size with h6 | h6
    ·rw [Array.getElem?_eq_getElem h6] at h3 ⊢; exact h3
    ·rw [Array.getElem?_eq_none h6] at h3; cases h3)⟩
  ·have hbw : Below w0.heap.size w0 w' := h.below.trans (hb.mono h.below.size)
   refine ⟨hS _ hbw, ih (fun j => if j = i' then v else vs j) _ _ _ (by have := leftN_set his hl; omega) ?_ ⟨by simp [ZP, h.size], h.defers, ?_, ?_, hbw⟩ hlt⟩
   ·refine List.all_eq_true.2 fun k hk => ?_
    have h4 := List.all_eq_true.1 hcv k hk
    by_cases hki : k = i'
    ·subst hki
     rw [Array.getD_eq_getD_getElem?]
     have : k < listed.size := by
      rcases Nat.lt_or_ge k listed.size with h6 | h6
      ·exact h6
      ·rw [Array.getD_eq_getD_getElem?, Array.getElem?_eq_none h6] at hl; cases hl
     simp [this]
    ·rw [Array.getD_eq_getD_getElem?, Array.getElem?_setIfInBounds_ne (Ne.symm hki), ← Array.getD_eq_getD_getElem?]
     exact h4
   ·intro j e hj hlj
    by_cases hji : j = i'
    ·subst hji
     have he : e = d := by
      have := hnd1
      exact nodup_snd hnd1 hj hm
     subst he
     rw [if_pos rfl]
     refine ⟨?_, hv⟩
     have : e < a.tmps.size := by rw [h.size]; exact hsz _ hm
     simp [ZP, this]
    ·rw [if_neg hji]
     rw [Array.getD_eq_getD_getElem?, Array.getElem?_setIfInBounds_ne (Ne.symm hji), ← Array.getD_eq_getD_getElem?] at hlj
     obtain ⟨h7, h8⟩ := h.ins j e hj hlj
     refine ⟨?_, hmono _ _ _ _ h8 hb⟩
     have hne : d ≠ e := fun he => hji (by subst he; exact nodup_fst hnd hj hm)
     simp only [ZP]
     rw [Array.getElem?_setIfInBounds_ne hne]
     exact h7
   ·intro t ht
    have hne : d ≠ t := fun he => ht (by subst he; exact List.mem_map.2 ⟨_, hm, rfl⟩)
    simp only [ZP]
    rw [Array.getElem?_setIfInBounds_ne hne]
    exact h.out t ht
/-- One operation of the plan. -/
def StepOk (P : Program) (md : Region.Mode) (ops : Array Oper) (Q : Exit → Act → World → Prop) (D : List (Nat × Nat)) (V : Nat → Value → World → Prop) (a0 : Act) (w0 : World) (p : Nat × Nat) : Prop :=
 ∃ o, ops[p.1]? = some o ∧ ∀ a w, (∀ j e, (j, e) ∈ D → (o.after.any fun x => Region.binds md x && x.on == j) = true → ∃ v, a.tmps[e]? = some v ∧ V j v w) → (∀ t, t ∉ D.map (·.2) → a.tmps[t]? = a0.tmps[t]?) → Below w0.heap.size w0 w →
  ∀ K : Act → World → Prop, (∀ v w', V p.1 v w' → Below w.heap.size w w' → K (a.put (some p.2) v) w') → o.wp P a w K Q
def growOk (ops : Array Oper) (listed : Array Bool) (D : List (Nat × Nat)) (n fuel : Nat) : Bool :=
 acyc ops && covers ops listed D && decide (D.map (·.2)).Nodup && decide (D.map (·.1)).Nodup && D.all (fun p => decide (p.2 < n) && decide (p.1 < ops.size) && !listed.getD p.1 true) && decide (leftN ops listed ≤ fuel)
theorem wpAnyH_grown {P : Program} {md : Region.Mode} {ops : Array Oper} {Q : Exit → Act → World → Prop} {S : World → Prop} (D : List (Nat × Nat)) (V : Nat → Value → World → Prop) {fuel : Nat} {a0 : Act} {w0 : World} {listed : Array Bool}
  (hck : growOk ops listed D a0.tmps.size fuel = true) (hmono : ∀ i v w w', V i v w → Below w.heap.size w w' → V i v w') (hS : ∀ w', Below w0.heap.size w0 w' → S w')
  (hstep : ∀ p ∈ D, StepOk P md ops Q D V a0 w0 p)
  (hend : ∀ vs : Nat → Value, ∀ w, (∀ i d, (i, d) ∈ D → V i (vs i) w) → Below w0.heap.size w0 w → Q .normal (putL (D.map fun p => (p.2, vs p.1)) a0) w) : wpAnyH P md ops Q S fuel listed a0 w0 := by
 unfold growOk at hck
 simp only [Bool.and_eq_true, decide_eq_true_eq, List.all_eq_true, Bool.not_eq_true'] at hck
 obtain ⟨⟨⟨⟨⟨h1, h2⟩, h3⟩, h4⟩, h5⟩, h6⟩ := hck
 refine wpAnyH_grow D V hmono hS h1 h2 h3 h4 (fun p hp => (h5 p hp).1.1) (fun i d hm o ho _ a w hd hout hb K hK => ?_) hend fuel (fun _ => undef) listed a0 w0 h6 h2 ⟨rfl, rfl, fun i d hm hl => ?_, fun _ _ => rfl, Below.refl _ _⟩ (fun i d hm => (h5 _ hm).1.2)
 ·obtain ⟨o', ho', h⟩ := hstep _ hm
  dsimp only at ho' h
  rw [ho] at ho'
  cases ho'
  exact h a w hd hout hb K hK
 ·have := (h5 _ hm).2
  dsimp only at this
  rw [this] at hl
  cases hl
end Go.Proofs.YtgicljeedegncaaGreat

namespace Go.Proofs.YtgicljeedegncaaGreat
open List renaming getElem?_toArray → ZG
open Go.Act renaming put → ZP
set_option linter.unusedSimpArgs false
set_option linter.unusedVariables false
open Go.RowKit

theorem wp_rows {P : Program} {o : Oper} {a : Act} {w : World} {K : Act → World → Prop} {Q : Exit → Act → World → Prop} (t e : TypeId) (parts : Array (Nat × Operand)) (s : Nat) (vs : List Value) (ho : o.op = .buildSlice t vs.length parts)
  (hu : P.underlying t = some (.slice e)) (hsz : (P.info? e).map (·.size) = some s) (hz : ((P.info? e).bind (·.zero)).isSome = true) (hs : 0 < s) (hpos : 0 < vs.length) (hsmall : vs.length * s ≤ 2 ^ 24)
  (hev : (parts.map fun (i, x) => (i, a.eval x)).toList = (vs.zipIdx 0).map fun x => (x.2, x.1)) (h1 : ∀ v ∈ vs, v.cells.size = s)
  (h : K (a.put o.dst (.slice (some ⟨w.heap.size, 0, none⟩) vs.length vs.length)) (w.alloc (.cells (vs.flatMap fun v => v.cells.toList).toArray e))) : o.wp P a w K Q := by
 cases hie : P.info? e with
 | none => simp [hie] at hsz
 | some ie =>
  simp only [hie, Option.map_some, Option.some.injEq, Option.bind_some] at hsz hz
  obtain ⟨z, hzz⟩ := Option.isSome_iff_exists.1 hz
  have hp := Nat.mul_pos hpos hs
  exact wp_buildSlice t e vs.length parts ho _ ie z hu hie hzz (by rw [hsz]; omega) (by rw [hsz]; omega) (by rw [hev, hsz]; exact Go.Great.fill_whole hs vs ((Array.range (vs.length * s)).map (z.cells[· % z.cells.size]!)) h1 (by simp)) h
def endsC : Array Value := #[.int .i64 (-9223372036854775808), .int .i64 (-1), .int .i64 0, .int .i64 1, .int .i64 2, .int .i64 255, .int .i64 256, .int .i64 257, .int .i64 9007199254740991, .int .i64 9007199254740992, .int .i64 9223372036854775807]
def endsZ : List Int := [-9223372036854775808, -1, 0, 1, 2, 255, 256, 257, 9007199254740991, 9007199254740992, 9223372036854775807]
theorem ends_at {i : Nat} (hi : i < 11) : ∃ x, endsC[i]? = some (.int .i64 x) ∧ -9223372036854775808 ≤ x ∧ x ≤ 9223372036854775807 := by
 rcases (by omega : i = 0 ∨ i = 1 ∨ i = 2 ∨ i = 3 ∨ i = 4 ∨ i = 5 ∨ i = 6 ∨ i = 7 ∨ i = 8 ∨ i = 9 ∨ i = 10) with rfl | rfl | rfl | rfl | rfl | rfl | rfl | rfl | rfl | rfl | rfl
 all_goals exact ⟨_, rfl, by omega, by omega⟩
/-- The ends lie there. -/
structure EnAt (w W : World) (E : Nat) : Prop where
 blk : Blk W E 3 endsC
 below : Below w.heap.size w W
theorem EnAt.later {w W W' : World} {E : Nat} (h : EnAt w W E) (hb : Below W.heap.size W W') : EnAt w W' E := ⟨(hb.block _ h.blk.lt).trans h.blk, bw_below' h.below hb⟩
def p33 : Pk := ⟨3, 3, 100, true, true, false⟩
def pMx : Pk := ⟨9007199254740991, 9, 100, true, true, false⟩
def p00 : Pk := ⟨0, 0, 0, false, false, false⟩
def ak0 : AK := ⟨0, [], false, 0, 0, 0⟩
def akR (r : Rg) : AK := ⟨0, [r], false, 0, 0, 0⟩
def rt0 : RT := ⟨0, 0, 0, 0, 0⟩
def rtS : RT := ⟨100, 1, 100, 0, 0⟩
def OneAt (w : World) (v : Value) (r : Rg) : Prop := ∃ b, v = .slice (some ⟨b, 0, none⟩) 1 1 ∧ RgAt w (some ⟨b, 0, none⟩) [r]
def AckOf (w : World) (v : Value) (r : Rg) : Prop := ∃ a c, v = .agg (ackC a 1 c) ∧ RgAt w a [r]
def DoOf (w : World) (v : Value) (kd nw : Int) (p : Pk) (r : Rg) (rt : RT) : Prop := ∃ a c, v = .agg (doC kd nw p (akR r) a 1 c rt) ∧ RgAt w a [r]
def ListOf (w : World) (v : Value) : Prop := ∃ g xs, v = .slice (some ⟨g, 0, none⟩) 9 9 ∧ xs.length = 9 ∧ DosAt w (some ⟨g, 0, none⟩) xs
def skV (x y : Int) : Nat → Value → World → Prop
 | 2, v, _ => v = pkA p33
 | 12, v, w => OneAt w v ⟨x, y⟩
 | 13, v, w => AckOf w v ⟨x, y⟩
 | 14, v, w => DoOf w v 3 0 p33 ⟨x, y⟩ rt0
 | 15, v, _ => v = pkA pMx
 | 16, v, _ => v = .agg (doC 0 0 pMx ak0 none 0 0 rt0)
 | 21, v, _ => v = rtV rtS
 | 22, v, _ => v = .agg (doC 5 y p00 ak0 none 0 0 rtS)
 | 24, v, w => OneAt w v ⟨9007199254740991, 9007199254740991⟩
 | 25, v, w => AckOf w v ⟨9007199254740991, 9007199254740991⟩
 | 26, v, w => DoOf w v 3 0 p00 ⟨9007199254740991, 9007199254740991⟩ rt0
 | 48, v, w => OneAt w v ⟨x, x⟩
 | 49, v, w => AckOf w v ⟨x, x⟩
 | 50, v, w => DoOf w v 4 0 p00 ⟨x, x⟩ rt0
 | 51, v, w => ListOf w v
 | 52, v, w => ListOf w v
 | _, _, _ => True
section
variable {w w' : World} {v : Value} {r : Rg} {kd nw : Int} {p : Pk} {rt : RT}
theorem OneAt.below (h : OneAt w v r) (hb : Below w.heap.size w w') : OneAt w' v r := by
 obtain ⟨b, e, hr⟩ := h
 exact ⟨b, e, hr.below hb⟩
theorem AckOf.below (h : AckOf w v r) (hb : Below w.heap.size w w') : AckOf w' v r := by
 obtain ⟨a, c, e, hr⟩ := h
 exact ⟨a, c, e, hr.below hb⟩
theorem DoOf.below (h : DoOf w v kd nw p r rt) (hb : Below w.heap.size w w') : DoOf w' v kd nw p r rt := by
 obtain ⟨a, c, e, hr⟩ := h
 exact ⟨a, c, e, hr.below hb⟩
theorem ListOf.below (h : ListOf w v) (hb : Below w.heap.size w w') : ListOf w' v := by
 obtain ⟨g, xs, e, hl, hd⟩ := h
 exact ⟨g, xs, e, hl, hd.below hb⟩
theorem skV_mono (x y : Int) : ∀ i v w w', skV x y i v w → Below w.heap.size w w' → skV x y i v w' := by
 intro i v w w' h hb
 unfold skV at h ⊢
 split at h
 all_goals first
  | exact h
  | exact OneAt.below h hb
  | exact AckOf.below h hb
  | exact DoOf.below h hb
  | exact ListOf.below h hb
end
theorem ev_of {a : Act} {t : Nat} {v : Value} (h : a.tmps[t]? = some v) : a.eval (.tmp t) = v := by
 simp [Act.eval, Array.getD_eq_getD_getElem?, h]
theorem dosAt_flat {W : World} {g : Nat} {t : TypeId} {cs : Array Value} {xs : List DO} (hB : Blk W g t cs) (hcs : cs = (xs.flatMap fun x => x.cells.toList).toArray) (hok : ∀ x ∈ xs, x.Ok W) : DosAt W (some ⟨g, 0, none⟩) xs := fun i x hi =>
 ⟨hok x (List.mem_of_getElem? hi), g, 0, rfl, hB.lt, fun j v hj => by
  have hj19 : j < 19 := by
   rcases Nat.lt_or_ge j 19 with h1 | h1
   ·exact h1
   ·rw [Array.getElem?_eq_none (by rw [DO.size]; exact h1)] at hj; cases hj
  rw [Nat.zero_add]
  refine (hB.cell (i * 19 + j)).trans ?_
  rw [hcs, ZG, flat_cell _ 19 (fun x => by rw [Array.length_toList]; exact DO.size x) xs i j hj19, hi]
  rw [← Array.getElem?_toList] at hj
  exact hj⟩
def nineDo (x y : Int) (a1 a4 a8 : Option Addr) (c1 c4 c8 : Nat) : List DO := [⟨0, 0, ⟨x, y, 9, true, true, false⟩, ak0, none, 0, rt0⟩, ⟨3, 0, p33, akR ⟨x, y⟩, a1, c1, rt0⟩, ⟨0, 0, pMx, ak0, none, 0, rt0⟩, ⟨5, y, p00, ak0, none, 0, rtS⟩, ⟨3, 0, p00, akR ⟨9007199254740991, 9007199254740991⟩, a4, c4, rt0⟩, ⟨6, 0, p00, ak0, none, 0, rt0⟩, ⟨5, 50, p00, ak0, none, 0, ⟨0, 0, x, 0, y⟩⟩, ⟨7, 0, p00, ak0, none, 0, rt0⟩, ⟨4, 0, p00, akR ⟨x, x⟩, a8, c8, rt0⟩]
/-- Nine calls, laid one behind the other. -/
theorem nine_list {W : World} {x y : Int} {a1 a4 a8 : Option Addr} {c1 c4 c8 : Nat} (hx : -9223372036854775808 ≤ x ∧ x ≤ 9223372036854775807) (hy : -9223372036854775808 ≤ y ∧ y ≤ 9223372036854775807)
  (h1 : RgAt W a1 [⟨x, y⟩]) (h4 : RgAt W a4 [⟨9007199254740991, 9007199254740991⟩]) (h8 : RgAt W a8 [⟨x, x⟩]) {t : Nat} {cs : Array Value} (hcs : cs = ((nineDo x y a1 a4 a8 c1 c4 c8).flatMap fun x => x.cells.toList).toArray) :
  ListOf (W.alloc (.cells cs t)) (.slice (some ⟨W.heap.size, 0, none⟩) 9 9) := by
 have hb : Below W.heap.size W (W.alloc (.cells cs t)) := (Below.refl _ _).alloc (Nat.le_refl _) _
 have hr0 : Reads (W.alloc (.cells cs t)) (W.alloc (.cells cs t)).heap.size 2 none 0 [] := Reads.none_
 have g1 := (h1.below hb).reads (n := 1) rfl
 have g4 := (h4.below hb).reads (n := 1) rfl
 have g8 := (h8.below hb).reads (n := 1) rfl
 obtain ⟨hx0, hx1⟩ := hx
 obtain ⟨hy0, hy1⟩ := hy
 refine ⟨W.heap.size, nineDo x y a1 a4 a8 c1 c4 c8, rfl, rfl, dosAt_flat (Blk.new W t cs) hcs fun d hd => ?_⟩
 simp only [nineDo, List.mem_cons, List.not_mem_nil, or_false] at hd
 rcases hd with rfl | rfl | rfl | rfl | rfl | rfl | rfl | rfl | rfl
 all_goals
  refine ⟨?_, ?_, ?_, ?_, ?_, ?_, ?_, ?_⟩
  all_goals first
   | exact hr0
   | exact g1
   | exact g4
   | exact g8
   | (dsimp only [rt0, rtS, akR, ak0, List.length_cons, List.length_nil]; omega)
end Go.Proofs.YtgicljeedegncaaGreat

namespace Go.Proofs.YtgicljeedegncaaGreat
open List renaming getElem?_toArray → ZG
open Go.Act renaming put → ZP
set_option linter.unusedSimpArgs false
set_option linter.unusedVariables false
open Go.RowKit

theorem addR_grow : ∀ (rs : List Rg) (lo hi : Int), (addR lo hi rs).length ≤ rs.length + 1
 | [], _, _ => by simp [addR]
 | r :: rs, lo, hi => by
  unfold addR
  split
  ·have := addR_grow rs lo hi
   simp only [List.length_cons]
   omega
  ·split
   ·simp
   ·have := addR_grow rs (min lo r.lo) (max hi r.hi)
    simp only [List.length_cons]
    omega
def stK : Nat → SpSt
 | 0 => ⟨256, -1, [], [], [], -1, -1, -1⟩
 | i + 1 => sentSt (stK i) (p17 (2 * i) i)
theorem stK_room : ∀ i, (stK i).room = 256
 | 0 => rfl
 | i + 1 => stK_room i
theorem stK_ps : ∀ i, (stK i).ps.length = i
 | 0 => rfl
 | i + 1 => by
  have := stK_ps i
  simp [stK, sentSt, this]
theorem stK_K : ∀ i, (stK i).K.length ≤ i
 | 0 => Nat.le_refl _
 | i + 1 => by
  have h1 := stK_K i
  have h2 := addR_grow (stK i).K (p17 (2 * i) i).num (p17 (2 * i) i).num
  show (addR _ _ _).length ≤ i + 1
  omega
theorem stK_last : ∀ i, (stK i).last < 2 * i
 | 0 => by decide
 | i + 1 => by
  show (2 * (i : Int)) < 2 * ((i + 1 : Nat) : Int)
  omega
theorem sent_k {w : World} {f : Ft} {i : Nat} (hi : i < 256) (h : IsSp w f (stK i)) :
  Calls Tryz.prog 25 #[.pointer (some ⟨f.b, 0, none⟩), pkA (p17 (2 * i) i)] w fun e w' => e = .returned (.int .i64 0) ∧ ∃ f', SpPost w f (stK (i + 1)) f' w' :=
 spsent_ok f (stK i) (p17 (2 * i) i) w h (p17_may (by omega) (by omega) (by omega) (by omega)) (stK_last i) (by rw [stK_ps, stK_room]; exact hi) (by
  have h1 := stK_K i
  have h2 := addR_grow (stK i).K (p17 (2 * i) i).num (p17 (2 * i) i).num
  omega)
def akX : AK := ⟨0, [⟨510, 510⟩, ⟨500, 500⟩, ⟨0, 0⟩], false, 0, 0, 0⟩
def pkX (n t : Int) : PK := ⟨n, t, 100, true, true, false⟩
def sX : SpSt := ackS (stK 256) akX
theorem kx_E : ackE (stK 256) akX = 0 := by decide +kernel
theorem kx_L : ackL (stK 256) akX = [pkX 0 0, pkX 500 250, pkX 510 255] := by decide +kernel
theorem kx_S : sX.room = 256 ∧ sX.last = 510 ∧ sX.ps.length = 253 ∧ 256 < (addR 512 512 sX.K).length ∧ (addR 511 511 sX.K).length ≤ 256 := by decide +kernel
theorem kx_may : MayC sX (p17 512 9) 5 := .inr ⟨.inr (.inr (.inr ⟨p17_may (by decide) (by decide) (by decide) (by decide), by rw [kx_S.2.1]; decide, by rw [kx_S.2.2.1, kx_S.1]; decide, rfl⟩)), .inl ⟨kx_S.2.2.2.1, rfl⟩⟩
theorem kx_sent {w : World} {f : Ft} (h : IsSp w f sX) :
  Calls Tryz.prog 25 #[.pointer (some ⟨f.b, 0, none⟩), pkA (p17 511 9)] w fun e w' => e = .returned (.int .i64 0) ∧ ∃ f', SpPost w f (sentSt sX (p17 511 9)) f' w' :=
 spsent_ok f sX (p17 511 9) w h (p17_may (by decide) (by decide) (by decide) (by decide)) (by rw [kx_S.2.1]; decide) (by rw [kx_S.2.2.1, kx_S.1]; decide) kx_S.2.2.2.2
end Go.Proofs.YtgicljeedegncaaGreat
