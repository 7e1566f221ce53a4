/-
  The statement SpanSets: is. Printed by wip/genis.py.
-/
import Derived.Test.YtkmfhcjdajbbhaaSpanIsLaw
import Derived.Test.YtkmfhcjdajbbhaaRegionStore
namespace Go.Proofs.Ytkmfhcjdajbbhaa
set_option linter.unusedSimpArgs false
set_option linter.unusedVariables false
open Go.RowKit

structure IsAt (w W : World) (b : Nat) (g : Option Nat) (room : Nat) (rs : List Rg) (a : Option Addr) : Prop where
  set : IsSet W b g room rs
  bits : Blk W w.heap.size 40 (bitC (bitR rs))
  row : RgAt W a rs.reverse
  below : Below w.heap.size w W
theorem IsAt.later {w W w' : World} {b room : Nat} {g : Option Nat} {rs : List Rg} {a : Option Addr} (h : IsAt w W b g room rs a) (hb : Below W.heap.size W w') : IsAt w w' b g room rs a :=
  ⟨h.set.below hb, (hb.block _ h.bits.lt).trans h.bits, h.row.below hb, bw_below' h.below hb⟩
theorem IsAt.bit {w W : World} {b room : Nat} {g : Option Nat} {rs : List Rg} {a : Option Addr} (h : IsAt w W b g room rs a) {n : Nat} (hn : n < 101) : W.cell? ⟨w.heap.size, n, none⟩ = some (.int .i64 (bitR rs n)) := (h.bits.cell n).trans (bitC_get _ hn)
theorem cnt_le {rs : List Rg} : (∀ r ∈ rs, r.lo ≤ r.hi ∧ 0 ≤ r.lo ∧ r.hi ≤ 99) → 0 ≤ cntR rs ∧ cntR rs ≤ 100 * rs.length := by
  induction rs with
  | nil => intro _; simp [cntR]
  | cons r rs ih =>
    intro h
    have h1 := h r (by simp)
    have h2 := ih (fun x hx => h x (by simp [hx]))
    simp only [cntR, List.length_cons]
    omega
/-- What lies above the place i of what falls. -/
def lastAt (rs : List Rg) (i : Nat) : Int := if i = 0 then 200 else (atR rs.reverse (i - 1)).lo
theorem last_ok {rs : List Rg} (h : GoodR rs) (hh : ∀ r ∈ rs, r.hi ≤ 99) {i : Nat} {r : Rg} (hr : rs.reverse[i]? = some r) : r.hi + 1 < lastAt rs i ∧ lastAt rs i ≤ 200 := by
  have hm : r ∈ rs := by have := List.mem_of_getElem? hr; simpa using this
  have := hh r hm
  unfold lastAt
  by_cases c : i = 0
  · rw [if_pos c]; omega
  · rw [if_neg c]
    obtain ⟨hi, e⟩ := List.getElem?_eq_some_iff.1 hr
    have hx : rs.reverse[i - 1]? = some rs.reverse[i - 1] := List.getElem?_eq_getElem (by omega)
    rw [atR_some hx]
    have hrev : rs.reverse.Pairwise fun a b => b.hi + 1 < a.lo := List.pairwise_reverse.2 h.sorted
    have := List.pairwise_iff_getElem.1 hrev (i - 1) i (by omega) hi (by omega)
    rw [e] at this
    have hm2 : rs.reverse[i - 1] ∈ rs := List.mem_reverse.1 (List.mem_of_getElem? hx)
    have := h.le _ hm2
    have := hh _ hm2
    omega
theorem last_next {rs : List Rg} {i : Nat} {r : Rg} (hr : rs.reverse[i]? = some r) : lastAt rs (i + 1) = r.lo := by
  unfold lastAt
  rw [if_neg (by omega), show i + 1 - 1 = i by omega, atR_some hr]
theorem cnt_next {rs : List Rg} {i : Nat} {r : Rg} (hr : rs[i]? = some r) : cntR (rs.take (i + 1)) = cntR (rs.take i) + (r.hi - r.lo + 1) := by
  rw [List.take_add_one, hr, cntR_append]
  simp [cntR]
theorem rgAt_cells {W : World} {k : Nat} {rs : List Rg} (h : RgAt W (some ⟨k, 0, none⟩) rs) {i : Nat} {r : Rg} (hi : rs[i]? = some r) :
    W.cell? ⟨k, i * 2, none⟩ = some (.int .i64 r.lo) ∧ W.cell? ⟨k, i * 2 + 1, none⟩ = some (.int .i64 r.hi) := by
  obtain ⟨k', e, _, z0, z1⟩ := h i r hi
  cases e
  exact ⟨z0, z1⟩
theorem bit_one {rs : List Rg} {m : Nat} (h : memR m rs) : bitR rs m = 1 := by unfold bitR; rw [if_pos h]
theorem bit_none {rs : List Rg} {m : Nat} (h : ¬ memR m rs) : bitR rs m = 0 := by unfold bitR; rw [if_neg h]

set_option maxRecDepth 100000 in
set_option maxHeartbeats 4000000 in
theorem is_any (b : Nat) (g : Option Nat) (room : Nat) (rs : List Rg) (w : World) (hS : IsSet w b g room rs) (hh : ∀ r ∈ rs, r.hi ≤ 99) :
    Calls Try.prog 26 #[.pointer (some ⟨b, 0, none⟩), .agg (bitC (bitR rs))] w fun e w' => e = .returned (.bool true) ∧ Below w.heap.size w w' := by
  have hgd := hS.good
  have hlen := hS.len
  have HH := hide hh
  have HR := hide (ranges_any b g room rs (w.alloc (.cells (bitC (bitR rs)) 40)) (hS.alloc _))
  go_enter Try.func26, Try.ntmps26
  go_wp2_with fail
  refine HR.out.mono ?_
  rintro e1 w1 ⟨v, rfl, hrow, _, hb⟩
  obtain ⟨a1, c1, rfl⟩ := own_slice' hrow
  have h1 : IsAt w w1 b g room rs a1 := ⟨(hS.alloc _).below hb, (hb.block _ (Blk.new w _ _).lt).trans (Blk.new w _ _), own_rgat List.length_reverse hrow, bw_below' ((Below.refl _ _).alloc (Nat.le_refl _) _) hb⟩
  clear HR hrow hb hS hh
  go_wp2_with fail
  go_loopg [6, 7, 8] rs.length (fun kx s6 s7 s8 wr => ∃ i : Nat, s8 = .int .i64 i ∧ i ≤ rs.length ∧ rs.length - i ≤ kx ∧ s7 = .int .i64 (lastAt rs i) ∧ s6 = .int .i64 (cntR (rs.reverse.take i)) ∧ IsAt w wr b g room rs a1)
  case atStart => exact ⟨0, rfl, by omega, by omega, rfl, rfl, h1⟩
  case round =>
    clear h1
    obtain ⟨i, rfl, hi, hkx, rfl, rfl, hs⟩ := hrel
    by_cases hlt : i < rs.length
    · obtain ⟨r, hr⟩ : ∃ r, rs.reverse[i]? = some r := ⟨_, List.getElem?_eq_getElem (by rw [List.length_reverse]; exact hlt)⟩
      have hm : r ∈ rs := by have := List.mem_of_getElem? hr; simpa using this
      have hl := hgd.le r hm
      have hl0 := hgd.lo r hm
      have hl1 := HH.out r hm
      obtain ⟨k1, k2⟩ := last_ok hgd HH.out hr
      have k3 := last_next hr
      have k4 := cnt_next hr
      have k5 := cnt_le (rs := rs.reverse.take i) (fun x hx => by
        have hx : x ∈ rs := by have := List.mem_of_mem_take hx; simpa using this
        exact ⟨hgd.le x hx, hgd.lo x hx, HH.out x hx⟩)
      rw [List.length_take, List.length_reverse, show min i rs.length = i by omega] at k5
      obtain ⟨kr, rfl, _, z0, z1⟩ := hs.row i r hr
      have HMEM := hide (fun (m : Nat) (h : r.lo ≤ m) (h' : (m : Int) ≤ r.hi) => (⟨r, hm, h, h'⟩ : memR m rs))
      obtain ⟨la, hla⟩ : ∃ la, lastAt rs i = la := ⟨_, rfl⟩
      obtain ⟨cn, hcn⟩ : ∃ cn, cntR (rs.reverse.take i) = cn := ⟨_, rfl⟩
      rw [hla] at k1 k2 ⊢
      rw [hcn] at k4 k5 ⊢
      have K3 := hide k3
      have K4 := hide k4
      have HRR := hide hr
      clear hr hm hla hcn k3 k4
      obtain ⟨lo, hi'⟩ := r
      dsimp only at *
      have hin : (i : Int) < (rs.length : Int) := by omega
      have hng : decide (hi' < lo) = false := decide_eq_false (by omega)
      have e1 : IntKind.i64.wrap (la - 1) = la - 1 := IntWalk.i64_in _ ⟨by omega, by omega⟩
      have hnl : decide (la - 1 ≤ hi') = false := decide_eq_false (by omega)
      have hn0 : decide (lo < 0) = false := decide_eq_false (by omega)
      go_wp2_with fail
      refine wp_region_S (fun w' => w'.cell? ⟨kr, i * 2, none⟩ = some (.int .i64 lo) ∧ w'.cell? ⟨kr, i * 2 + 1, none⟩ = some (.int .i64 hi')) 1000 (by kernel_rfl) (by exact ⟨z0, z1⟩) (fun hHeld => ?_)
      refine wpAnyS_take (i := 0) (v := ?_) rfl (by kernel_rfl) (by kernel_rfl) (by kernel_rfl) (by kernel_rfl) (fun _ _ _ h => h) (Or.inl ⟨by rfl, ?_⟩) (by assumption) ?_
      rotate_left
      · intro w hSw; (try dsimp only at hSw); go_simp; try with_reducible rfl
      try simp only [Act.put, List.getElem_toArray, List.getElem_cons_succ, List.getElem_cons_zero, List.setIfInBounds_toArray, List.set_cons_zero, List.set_cons_succ]
      refine wpAnyS_take (i := 1) (v := ?_) rfl (by kernel_rfl) (by kernel_rfl) (by kernel_rfl) (by kernel_rfl) (fun _ _ _ h => h) (Or.inl ⟨by rfl, ?_⟩) (by assumption) ?_
      rotate_left
      · intro w hSw; (try dsimp only at hSw); go_simp; try with_reducible rfl
      try simp only [Act.put, List.getElem_toArray, List.getElem_cons_succ, List.getElem_cons_zero, List.setIfInBounds_toArray, List.set_cons_zero, List.set_cons_succ]
      refine wpAnyS_take (i := 2) (v := ?_) rfl (by kernel_rfl) (by kernel_rfl) (by kernel_rfl) (by kernel_rfl) (fun _ _ _ h => h) (Or.inl ⟨by rfl, ?_⟩) (by assumption) ?_
      rotate_left
      · intro w hSw; (try dsimp only at hSw); go_simp; try with_reducible rfl
      try simp only [Act.put, List.getElem_toArray, List.getElem_cons_succ, List.getElem_cons_zero, List.setIfInBounds_toArray, List.set_cons_zero, List.set_cons_succ]
      refine wpAnyS_take (i := 3) (v := ?_) rfl (by kernel_rfl) (by kernel_rfl) (by kernel_rfl) (by kernel_rfl) (fun _ _ _ h => h) (Or.inl ⟨by rfl, ?_⟩) (by assumption) ?_
      rotate_left
      · intro w hSw; (try dsimp only at hSw); go_simp; try with_reducible rfl
      try simp only [Act.put, List.getElem_toArray, List.getElem_cons_succ, List.getElem_cons_zero, List.setIfInBounds_toArray, List.set_cons_zero, List.set_cons_succ]
      refine wpAnyS_take (i := 4) (v := ?_) rfl (by kernel_rfl) (by kernel_rfl) (by kernel_rfl) (by kernel_rfl) (fun _ _ _ h => h) (Or.inl ⟨by rfl, ?_⟩) (by assumption) ?_
      rotate_left
      · intro w hSw; (try dsimp only at hSw); go_simp; try with_reducible rfl
      try simp only [Act.put, List.getElem_toArray, List.getElem_cons_succ, List.getElem_cons_zero, List.setIfInBounds_toArray, List.set_cons_zero, List.set_cons_succ]
      refine wpAnyS_take (i := 5) (v := ?_) rfl (by kernel_rfl) (by kernel_rfl) (by kernel_rfl) (by kernel_rfl) (fun _ _ _ h => h) (Or.inl ⟨by rfl, ?_⟩) (by assumption) ?_
      rotate_left
      · intro w hSw; (try dsimp only at hSw); go_simp; try with_reducible rfl
      try simp only [Act.put, List.getElem_toArray, List.getElem_cons_succ, List.getElem_cons_zero, List.setIfInBounds_toArray, List.set_cons_zero, List.set_cons_succ]
      refine wpAnyS_take (i := 6) (v := ?_) rfl (by kernel_rfl) (by kernel_rfl) (by kernel_rfl) (by kernel_rfl) (fun _ _ _ h => h) (Or.inl ⟨by rfl, ?_⟩) (by assumption) ?_
      rotate_left
      · intro w hSw; (try dsimp only at hSw); go_simp; try with_reducible rfl
      try simp only [Act.put, List.getElem_toArray, List.getElem_cons_succ, List.getElem_cons_zero, List.setIfInBounds_toArray, List.set_cons_zero, List.set_cons_succ]
      refine wpAnyS_take (i := 7) (v := ?_) rfl (by kernel_rfl) (by kernel_rfl) (by kernel_rfl) (by kernel_rfl) (fun _ _ _ h => h) (Or.inl ⟨by rfl, ?_⟩) (by assumption) ?_
      rotate_left
      · intro w hSw; (try dsimp only at hSw); go_simp; try with_reducible rfl
      try simp only [Act.put, List.getElem_toArray, List.getElem_cons_succ, List.getElem_cons_zero, List.setIfInBounds_toArray, List.set_cons_zero, List.set_cons_succ]
      refine wpAnyS_take (i := 8) (v := ?_) rfl (by kernel_rfl) (by kernel_rfl) (by kernel_rfl) (by kernel_rfl) (fun _ _ _ h => h) (Or.inl ⟨by rfl, ?_⟩) (by assumption) ?_
      rotate_left
      · intro w hSw; (try dsimp only at hSw); go_simp; try with_reducible rfl
      try simp only [Act.put, List.getElem_toArray, List.getElem_cons_succ, List.getElem_cons_zero, List.setIfInBounds_toArray, List.set_cons_zero, List.set_cons_succ]
      refine wpAnyS_take (i := 9) (v := ?_) rfl (by kernel_rfl) (by kernel_rfl) (by kernel_rfl) (by kernel_rfl) (fun _ _ _ h => h) (Or.inl ⟨by rfl, ?_⟩) (by assumption) ?_
      rotate_left
      · intro w hSw; (try dsimp only at hSw); go_simp; try with_reducible rfl
      try simp only [Act.put, List.getElem_toArray, List.getElem_cons_succ, List.getElem_cons_zero, List.setIfInBounds_toArray, List.set_cons_zero, List.set_cons_succ]
      refine wpAnyS_take (i := 10) (v := ?_) rfl (by kernel_rfl) (by kernel_rfl) (by kernel_rfl) (by kernel_rfl) (fun _ _ _ h => h) (Or.inl ⟨by rfl, ?_⟩) (by assumption) ?_
      rotate_left
      · intro w hSw; (try dsimp only at hSw); go_simp; try with_reducible rfl
      try simp only [Act.put, List.getElem_toArray, List.getElem_cons_succ, List.getElem_cons_zero, List.setIfInBounds_toArray, List.set_cons_zero, List.set_cons_succ]
      refine wpAnyS_take (i := 11) (v := ?_) rfl (by kernel_rfl) (by kernel_rfl) (by kernel_rfl) (by kernel_rfl) (fun _ _ _ h => h) (Or.inl ⟨by rfl, ?_⟩) (by assumption) ?_
      rotate_left
      · intro w hSw; (try dsimp only at hSw); go_simp; try with_reducible rfl
      try simp only [Act.put, List.getElem_toArray, List.getElem_cons_succ, List.getElem_cons_zero, List.setIfInBounds_toArray, List.set_cons_zero, List.set_cons_succ]
      refine wpAnyS_take (i := 12) (v := ?_) rfl (by kernel_rfl) (by kernel_rfl) (by kernel_rfl) (by kernel_rfl) (fun _ _ _ h => h) (Or.inl ⟨by rfl, ?_⟩) (by assumption) ?_
      rotate_left
      · intro w hSw; (try dsimp only at hSw); go_simp; try with_reducible rfl
      try simp only [Act.put, List.getElem_toArray, List.getElem_cons_succ, List.getElem_cons_zero, List.setIfInBounds_toArray, List.set_cons_zero, List.set_cons_succ]
      refine wpAnyS_take (i := 13) (v := ?_) rfl (by kernel_rfl) (by kernel_rfl) (by kernel_rfl) (by kernel_rfl) (fun _ _ _ h => h) (Or.inl ⟨by rfl, ?_⟩) (by assumption) ?_
      rotate_left
      · intro w hSw; (try dsimp only at hSw); go_simp; try with_reducible rfl
      try simp only [Act.put, List.getElem_toArray, List.getElem_cons_succ, List.getElem_cons_zero, List.setIfInBounds_toArray, List.set_cons_zero, List.set_cons_succ]
      refine wpAnyS_take (i := 14) (v := ?_) rfl (by kernel_rfl) (by kernel_rfl) (by kernel_rfl) (by kernel_rfl) (fun _ _ _ h => h) (Or.inl ⟨by rfl, ?_⟩) (by assumption) ?_
      rotate_left
      · intro w hSw; (try dsimp only at hSw); go_simp; try with_reducible rfl
      try simp only [Act.put, List.getElem_toArray, List.getElem_cons_succ, List.getElem_cons_zero, List.setIfInBounds_toArray, List.set_cons_zero, List.set_cons_succ]
      refine wpAnyS_take (i := 15) (v := ?_) rfl (by kernel_rfl) (by kernel_rfl) (by kernel_rfl) (by kernel_rfl) (fun _ _ _ h => h) (Or.inl ⟨by rfl, ?_⟩) (by assumption) ?_
      rotate_left
      · intro w hSw; (try dsimp only at hSw); go_simp; try with_reducible rfl
      try simp only [Act.put, List.getElem_toArray, List.getElem_cons_succ, List.getElem_cons_zero, List.setIfInBounds_toArray, List.set_cons_zero, List.set_cons_succ]
      refine wpAnyS_take (i := 16) (v := ?_) rfl (by kernel_rfl) (by kernel_rfl) (by kernel_rfl) (by kernel_rfl) (fun _ _ _ h => h) (Or.inl ⟨by rfl, ?_⟩) (by assumption) ?_
      rotate_left
      · intro w hSw; (try dsimp only at hSw); go_simp; try with_reducible rfl
      try simp only [Act.put, List.getElem_toArray, List.getElem_cons_succ, List.getElem_cons_zero, List.setIfInBounds_toArray, List.set_cons_zero, List.set_cons_succ]
      refine wpAnyS_take (i := 17) (v := ?_) rfl (by kernel_rfl) (by kernel_rfl) (by kernel_rfl) (by kernel_rfl) (fun _ _ _ h => h) (Or.inl ⟨by rfl, ?_⟩) (by assumption) ?_
      rotate_left
      · intro w hSw; (try dsimp only at hSw); go_simp; try with_reducible rfl
      try simp only [Act.put, List.getElem_toArray, List.getElem_cons_succ, List.getElem_cons_zero, List.setIfInBounds_toArray, List.set_cons_zero, List.set_cons_succ]
      refine wpAnyS_take (i := 18) (v := ?_) rfl (by kernel_rfl) (by kernel_rfl) (by kernel_rfl) (by kernel_rfl) (fun _ _ _ h => h) (Or.inl ⟨by rfl, ?_⟩) (by assumption) ?_
      rotate_left
      · intro w hSw; (try dsimp only at hSw); go_simp; try with_reducible rfl
      try simp only [Act.put, List.getElem_toArray, List.getElem_cons_succ, List.getElem_cons_zero, List.setIfInBounds_toArray, List.set_cons_zero, List.set_cons_succ]
      refine wpAnyS_take (i := 19) (v := ?_) rfl (by kernel_rfl) (by kernel_rfl) (by kernel_rfl) (by kernel_rfl) (fun _ _ _ h => h) (Or.inl ⟨by rfl, ?_⟩) (by assumption) ?_
      rotate_left
      · intro w hSw; (try dsimp only at hSw); go_simp; try with_reducible rfl
      try simp only [Act.put, List.getElem_toArray, List.getElem_cons_succ, List.getElem_cons_zero, List.setIfInBounds_toArray, List.set_cons_zero, List.set_cons_succ]
      refine wpAnyS_take (i := 20) (v := ?_) rfl (by kernel_rfl) (by kernel_rfl) (by kernel_rfl) (by kernel_rfl) (fun _ _ _ h => h) (Or.inl ⟨by rfl, ?_⟩) (by assumption) ?_
      rotate_left
      · intro w hSw; (try dsimp only at hSw); go_simp; try with_reducible rfl
      try simp only [Act.put, List.getElem_toArray, List.getElem_cons_succ, List.getElem_cons_zero, List.setIfInBounds_toArray, List.set_cons_zero, List.set_cons_succ]
      refine wpAnyS_take (i := 21) (v := ?_) rfl (by kernel_rfl) (by kernel_rfl) (by kernel_rfl) (by kernel_rfl) (fun _ _ _ h => h) (Or.inl ⟨by rfl, ?_⟩) (by assumption) ?_
      rotate_left
      · intro w hSw; (try dsimp only at hSw); go_simp; try with_reducible rfl
      try simp only [Act.put, List.getElem_toArray, List.getElem_cons_succ, List.getElem_cons_zero, List.setIfInBounds_toArray, List.set_cons_zero, List.set_cons_succ]
      refine wpAnyS_take (i := 22) (v := ?_) rfl (by kernel_rfl) (by kernel_rfl) (by kernel_rfl) (by kernel_rfl) (fun _ _ _ h => h) (Or.inl ⟨by rfl, ?_⟩) (by assumption) ?_
      rotate_left
      · intro w hSw; (try dsimp only at hSw); go_simp; try with_reducible rfl
      try simp only [Act.put, List.getElem_toArray, List.getElem_cons_succ, List.getElem_cons_zero, List.setIfInBounds_toArray, List.set_cons_zero, List.set_cons_succ]
      refine wpAnyS_take (i := 23) (v := ?_) rfl (by kernel_rfl) (by kernel_rfl) (by kernel_rfl) (by kernel_rfl) (fun _ _ _ h => h) (Or.inl ⟨by rfl, ?_⟩) (by assumption) ?_
      rotate_left
      · intro w hSw; (try dsimp only at hSw); go_simp; try with_reducible rfl
      try simp only [Act.put, List.getElem_toArray, List.getElem_cons_succ, List.getElem_cons_zero, List.setIfInBounds_toArray, List.set_cons_zero, List.set_cons_succ]
      refine wpAnyS_take (i := 24) (v := ?_) rfl (by kernel_rfl) (by kernel_rfl) (by kernel_rfl) (by kernel_rfl) (fun _ _ _ h => h) (Or.inl ⟨by rfl, ?_⟩) (by assumption) ?_
      rotate_left
      · intro w hSw; (try dsimp only at hSw); go_simp; try with_reducible rfl
      try simp only [Act.put, List.getElem_toArray, List.getElem_cons_succ, List.getElem_cons_zero, List.setIfInBounds_toArray, List.set_cons_zero, List.set_cons_succ]
      refine wpAnyS_take (i := 25) (v := ?_) rfl (by kernel_rfl) (by kernel_rfl) (by kernel_rfl) (by kernel_rfl) (fun _ _ _ h => h) (Or.inl ⟨by rfl, ?_⟩) (by assumption) ?_
      rotate_left
      · intro w hSw; (try dsimp only at hSw); go_simp; try with_reducible rfl
      try simp only [Act.put, List.getElem_toArray, List.getElem_cons_succ, List.getElem_cons_zero, List.setIfInBounds_toArray, List.set_cons_zero, List.set_cons_succ]
      refine wpAnyS_take (i := 26) (v := ?_) rfl (by kernel_rfl) (by kernel_rfl) (by kernel_rfl) (by kernel_rfl) (fun _ _ _ h => h) (Or.inl ⟨by rfl, ?_⟩) (by assumption) ?_
      rotate_left
      · intro w hSw; (try dsimp only at hSw); go_simp; try with_reducible rfl
      try simp only [Act.put, List.getElem_toArray, List.getElem_cons_succ, List.getElem_cons_zero, List.setIfInBounds_toArray, List.set_cons_zero, List.set_cons_succ]
      refine wpAnyS_take (i := 27) (v := ?_) rfl (by kernel_rfl) (by kernel_rfl) (by kernel_rfl) (by kernel_rfl) (fun _ _ _ h => h) (Or.inl ⟨by rfl, ?_⟩) (by assumption) ?_
      rotate_left
      · intro w hSw; (try dsimp only at hSw); go_simp; try with_reducible rfl
      try simp only [Act.put, List.getElem_toArray, List.getElem_cons_succ, List.getElem_cons_zero, List.setIfInBounds_toArray, List.set_cons_zero, List.set_cons_succ]
      refine wpAnyS_take (i := 28) (v := ?_) rfl (by kernel_rfl) (by kernel_rfl) (by kernel_rfl) (by kernel_rfl) (fun _ _ _ h => h) (Or.inl ⟨by rfl, ?_⟩) (by assumption) ?_
      rotate_left
      · intro w hSw; (try dsimp only at hSw); go_simp; try with_reducible rfl
      try simp only [Act.put, List.getElem_toArray, List.getElem_cons_succ, List.getElem_cons_zero, List.setIfInBounds_toArray, List.set_cons_zero, List.set_cons_succ]
      refine wpAnyS_done (by kernel_rfl) ?_ _
      clear e1
      go_wp2_with fail
      go_loopg [6, 9] 100 (fun ky s6 s9 wi => ∃ m : Nat, s9 = .int .i64 m ∧ s6 = .int .i64 (cn + ((m : Int) - lo)) ∧ lo ≤ (m : Int) ∧ (m : Int) ≤ hi' + 1 ∧ 100 - m ≤ ky ∧ IsAt w wi b g room rs (some ⟨kr, 0, none⟩))
      case atStart => exact ⟨lo.toNat, by rw [show ((lo.toNat : Nat) : Int) = lo by omega], by rw [show cn + (((lo.toNat : Nat) : Int) - lo) = cn by omega], by omega, by omega, by omega, by first | exact hs | exact hs.later (Below.refl _ _).drew⟩
      case round =>
        clear hs z0 z1
        obtain ⟨m, rfl, rfl, hm0, hm1, hky, hs⟩ := hrel
        have z1 := (rgAt_cells hs.row HRR.out).2
        dsimp only at z1
        by_cases hlt2 : (m : Int) ≤ hi'
        · have hbit := hs.bit (n := m) (by omega)
          rw [bit_one (HMEM.out m hm0 hlt2)] at hbit
          have hm3 : ¬ (100 : Int) < (m : Int) := by omega
          have hm4 : (m : Int) < 101 := by omega
          obtain ⟨A, hA⟩ : ∃ A, cn + ((m : Int) - lo) = A := ⟨_, rfl⟩
          have hw1 : wrap64 (A + 1) = cn + (((m + 1 : Nat) : Int) - lo) := by unfold wrap64; omega
          have HW1 := hide hw1
          rw [hA]
          obtain ⟨A2, hA2⟩ : ∃ A2, wrap64 (A + 1) = A2 := ⟨_, rfl⟩
          rw [hA2] at HW1
          clear hA hw1 hn0 hnl hng
          go_wp2_with fail
          go_roundg (100 - (m + 1))
          case rel => exact ⟨m + 1, by go_num, by rw [HW1.out], by omega, by omega, by omega, hs⟩
          case measure => omega
        · have hmh : (m : Int) = hi' + 1 := by omega
          have hni : ¬ (m : Int) ≤ hi' := by omega
          rw [show cn + ((m : Int) - lo) = cntR (rs.reverse.take (i + 1)) by rw [K4.out]; omega]
          have hla : (Value.int .i64 lo) = .int .i64 (lastAt rs (i + 1)) := by rw [K3.out]
          have HLA := hide hla
          obtain ⟨C1, hC1⟩ : ∃ C1, cntR (rs.reverse.take (i + 1)) = C1 := ⟨_, rfl⟩
          rw [hC1]
          have HC1 := hide hC1
          clear hmh hlt2 hm0 hm1 hky hla hC1 hn0 hnl hng
          go_wp2_with fail
          go_roundg (rs.length - (i + 1))
          case rel => exact ⟨i + 1, by go_num, by omega, by omega, HLA.out, by rw [HC1.out], hs⟩
          case measure => omega
    · obtain rfl : i = rs.length := by omega
      have hin : ¬ (rs.length : Int) < (rs.length : Int) := by omega
      have hall : cntR (rs.reverse.take rs.length) = tS (bitR rs) (101 - 0) := by
        rw [List.take_of_length_le (by rw [List.length_reverse]; exact Nat.le_refl _), cntR_reverse]
        exact (tS_cnt hgd (fun r hr => by have := HH.out r hr; omega)).symm
      rw [hall]
      obtain ⟨A, hA⟩ : ∃ A, tS (bitR rs) (101 - 0) = A := ⟨_, rfl⟩
      rw [hA]
      have HA := hide hA
      clear hA hall hlt hi hkx
      go_wp2_with fail
      go_loopg [6, 10] 101 (fun kx s6 s10 wi => ∃ n : Nat, s10 = .int .i64 n ∧ s6 = .int .i64 (tS (bitR rs) (101 - n)) ∧ n ≤ 101 ∧ 101 - n ≤ kx ∧ IsAt w wi b g room rs a1)
      case atStart => exact ⟨0, rfl, by rw [HA.out], by omega, by omega, hs⟩
      case round =>
        clear hs HA
        obtain ⟨n, rfl, rfl, hn, hkx, hs⟩ := hrel
        by_cases hlt : n < 101
        · have hn1 : (n : Int) < 101 := by omega
          have hst := tS_step (bitR rs) hlt
          have hbd := tS_bound rs (101 - n)
          have hbd2 := tS_bound rs (101 - (n + 1))
          obtain ⟨A, hA⟩ : ∃ A, tS (bitR rs) (101 - n) = A := ⟨_, rfl⟩
          obtain ⟨B, hB⟩ : ∃ B, tS (bitR rs) (101 - (n + 1)) = B := ⟨_, rfl⟩
          rw [hA] at hst hbd ⊢
          rw [hB] at hst hbd2
          have HST := hide hst
          have HB := hide hB
          clear hA hB hst
          go_wp2_with fail
          go_loopg [11] 101 (fun ky s11 wi => ∃ N : Nat, s11 = .int .i64 N ∧ n ≤ N ∧ N ≤ 100 ∧ 101 - N ≤ ky ∧ Hid (∀ m : Int, (n : Int) ≤ m → m < N → memR m rs) ∧ IsAt w wi b g room rs a1)
          case atStart => exact ⟨n, rfl, by omega, by omega, by omega, hide (fun m h1 h2 => absurd h1 (by omega)), hs⟩
          case round =>
            clear hs
            obtain ⟨N, rfl, hN0, hN1, hky, hal, hs⟩ := hrel
            have hN2 : (N : Int) < 101 := by omega
            have hbit := hs.bit (n := N) (by omega)
            by_cases hmem : memR N rs
            · have hN3 : N ≤ 99 := by
                obtain ⟨r, hr, h1, h2⟩ := hmem
                have := HH.out r hr
                omega
              have hal2 := hide (fun m : Int => fun (h1 : (n : Int) ≤ m) (h2 : m < ((N + 1 : Nat) : Int)) => (by
                rcases Int.lt_or_le m N with h | h
                · exact hal.out m h1 h
                · rw [show m = (N : Int) by omega]; exact hmem : memR m rs))
              rw [bit_one hmem] at hbit
              clear hmem hal
              go_wp2_with fail
              go_roundg (101 - (N + 1))
              case rel => exact ⟨N + 1, by go_num, by omega, by omega, by omega, hal2, hs⟩
              case measure => omega
            · have HNX := hide (next_is hgd (n := n) (N := N) (by omega) (by omega) (by omega) hal.out hmem)
              rw [bit_none hmem] at hbit
              have hbn := hs.bit (n := n) hlt
              have HAS := hide (rngOf_dec (n := n) hgd)
              clear hal hmem hky
              by_cases hnm : memR n rs
              · rw [bit_one hnm] at hbn HST
                rw [decide_eq_true hnm] at HAS
                have HNM := hide (bit_one hnm)
                clear hnm
                have hAB : wrap64 (A - 1) = B := by have := HST.out; unfold wrap64; omega
                have hAB := hide hAB
                go_wp2_with fail
                refine wp_region_S (fun w' => w'.cell? ⟨w.heap.size, n, none⟩ = some (.int .i64 1)) 1000 (by kernel_rfl) (by exact hbn) (fun hHeld => ?_)
                refine wpAnyS_take (i := 0) (v := ?_) rfl (by kernel_rfl) (by kernel_rfl) (by kernel_rfl) (by kernel_rfl) (fun _ _ _ h => h) (Or.inl ⟨by rfl, ?_⟩) (by assumption) ?_
                rotate_left
                · intro w hSw; (try dsimp only at hSw); go_simp; try with_reducible rfl
                try simp only [Act.put, List.getElem_toArray, List.getElem_cons_succ, List.getElem_cons_zero, List.setIfInBounds_toArray, List.set_cons_zero, List.set_cons_succ]
                refine wpAnyS_take (i := 1) (v := ?_) rfl (by kernel_rfl) (by kernel_rfl) (by kernel_rfl) (by kernel_rfl) (fun _ _ _ h => h) (Or.inl ⟨by rfl, ?_⟩) (by assumption) ?_
                rotate_left
                · intro w hSw; (try dsimp only at hSw); go_simp; try with_reducible rfl
                try simp only [Act.put, List.getElem_toArray, List.getElem_cons_succ, List.getElem_cons_zero, List.setIfInBounds_toArray, List.set_cons_zero, List.set_cons_succ]
                refine wpAnyS_take (i := 3) (v := ?_) rfl (by kernel_rfl) (by kernel_rfl) (by kernel_rfl) (by kernel_rfl) (fun _ _ _ h => h) (Or.inl ⟨by rfl, ?_⟩) (by assumption) ?_
                rotate_left
                · intro w hSw; (try dsimp only at hSw); go_simp; try with_reducible rfl
                try simp only [Act.put, List.getElem_toArray, List.getElem_cons_succ, List.getElem_cons_zero, List.setIfInBounds_toArray, List.set_cons_zero, List.set_cons_succ]
                refine wpAnyS_take (i := 4) (v := ?_) rfl (by kernel_rfl) (by kernel_rfl) (by kernel_rfl) (by kernel_rfl) (fun _ _ _ h => h) (Or.inl ⟨by rfl, ?_⟩) (by assumption) ?_
                rotate_left
                · intro w hSw; (try dsimp only at hSw); go_simp; try with_reducible rfl
                try simp only [Act.put, List.getElem_toArray, List.getElem_cons_succ, List.getElem_cons_zero, List.setIfInBounds_toArray, List.set_cons_zero, List.set_cons_succ]
                refine wpAnyS_take (i := 5) (v := ?_) rfl (by kernel_rfl) (by kernel_rfl) (by kernel_rfl) (by kernel_rfl) (fun _ _ _ h => h) (Or.inl ⟨by rfl, ?_⟩) (by assumption) ?_
                rotate_left
                · intro w hSw; (try dsimp only at hSw); go_simp; try with_reducible rfl
                try simp only [Act.put, List.getElem_toArray, List.getElem_cons_succ, List.getElem_cons_zero, List.setIfInBounds_toArray, List.set_cons_zero, List.set_cons_succ]
                refine wpAnyS_take (i := 6) (v := ?_) rfl (by kernel_rfl) (by kernel_rfl) (by kernel_rfl) (by kernel_rfl) (fun _ _ _ h => h) (Or.inl ⟨by rfl, ?_⟩) (by assumption) ?_
                rotate_left
                · intro w hSw; (try dsimp only at hSw); go_simp; try with_reducible rfl
                try simp only [Act.put, List.getElem_toArray, List.getElem_cons_succ, List.getElem_cons_zero, List.setIfInBounds_toArray, List.set_cons_zero, List.set_cons_succ]
                refine wpAnyS_one (i := 2) rfl (by kernel_rfl) (fun K hK => ?_)
                go_simp; go_at_call 20; refine (has_any b g room n rs _ (hs.later (by first | exact Below.refl _ _ | exact below_drewN (Below.refl _ _) _)).set).mono ?_; rintro e2 w2 ⟨rfl, hb2⟩; rw [HAS.out]; have hs2 := (hs.later (by first | exact Below.refl _ _ | exact below_drewN (Below.refl _ _) _)).later hb2
                refine hK.out _ _ (fun _ => by rw [← HNM.out]; exact hs2.bit hlt) (fun hH => ?_)
                have hHeld := hH rfl
                clear hK K hH
                try simp only [Act.put, List.getElem_toArray, List.getElem_cons_succ, List.getElem_cons_zero, List.setIfInBounds_toArray, List.set_cons_zero, List.set_cons_succ]
                refine wpAnyS_take (i := 7) (v := ?_) rfl (by kernel_rfl) (by kernel_rfl) (by kernel_rfl) (by kernel_rfl) (fun _ _ _ h => h) (Or.inl ⟨by rfl, ?_⟩) (by assumption) ?_
                rotate_left
                · intro w hSw; (try dsimp only at hSw); go_simp; try with_reducible rfl
                try simp only [Act.put, List.getElem_toArray, List.getElem_cons_succ, List.getElem_cons_zero, List.setIfInBounds_toArray, List.set_cons_zero, List.set_cons_succ]
                refine wpAnyS_take (i := 8) (v := ?_) rfl (by kernel_rfl) (by kernel_rfl) (by kernel_rfl) (by kernel_rfl) (fun _ _ _ h => h) (Or.inl ⟨by rfl, ?_⟩) (by assumption) ?_
                rotate_left
                · intro w hSw; (try dsimp only at hSw); go_simp; try with_reducible rfl
                try simp only [Act.put, List.getElem_toArray, List.getElem_cons_succ, List.getElem_cons_zero, List.setIfInBounds_toArray, List.set_cons_zero, List.set_cons_succ]
                refine wpAnyS_take (i := 9) (v := ?_) rfl (by kernel_rfl) (by kernel_rfl) (by kernel_rfl) (by kernel_rfl) (fun _ _ _ h => h) (Or.inl ⟨by rfl, ?_⟩) (by assumption) ?_
                rotate_left
                · intro w hSw; (try dsimp only at hSw); go_simp; try with_reducible rfl
                try simp only [Act.put, List.getElem_toArray, List.getElem_cons_succ, List.getElem_cons_zero, List.setIfInBounds_toArray, List.set_cons_zero, List.set_cons_succ]
                refine wpAnyS_take (i := 10) (v := ?_) rfl (by kernel_rfl) (by kernel_rfl) (by kernel_rfl) (by kernel_rfl) (fun _ _ _ h => h) (Or.inl ⟨by rfl, ?_⟩) (by assumption) ?_
                rotate_left
                · intro w hSw; (try dsimp only at hSw); go_simp; try with_reducible rfl
                try simp only [Act.put, List.getElem_toArray, List.getElem_cons_succ, List.getElem_cons_zero, List.setIfInBounds_toArray, List.set_cons_zero, List.set_cons_succ]
                refine wpAnyS_take (i := 12) (v := ?_) rfl (by kernel_rfl) (by kernel_rfl) (by kernel_rfl) (by kernel_rfl) (fun _ _ _ h => h) (Or.inl ⟨by rfl, ?_⟩) (by assumption) ?_
                rotate_left
                · intro w hSw; (try dsimp only at hSw); go_simp; try with_reducible rfl
                try simp only [Act.put, List.getElem_toArray, List.getElem_cons_succ, List.getElem_cons_zero, List.setIfInBounds_toArray, List.set_cons_zero, List.set_cons_succ]
                refine wpAnyS_one (i := 11) rfl (by kernel_rfl) (fun K hK => ?_)
                go_simp; go_at_call 19; refine (snext_any b g room n rs _ (hs2.later (by first | exact Below.refl _ _ | exact below_drewN (Below.refl _ _) _)).set).mono ?_; rintro e3 w3 ⟨rfl, hb3⟩; rw [HNX.out]; have hs3 := (hs2.later (by first | exact Below.refl _ _ | exact below_drewN (Below.refl _ _) _)).later hb3
                refine hK.out _ _ (fun _ => by rw [← HNM.out]; exact hs3.bit hlt) (fun hH => ?_)
                have hHeld := hH rfl
                clear hK K hH
                try simp only [Act.put, List.getElem_toArray, List.getElem_cons_succ, List.getElem_cons_zero, List.setIfInBounds_toArray, List.set_cons_zero, List.set_cons_succ]
                refine wpAnyS_take (i := 13) (v := ?_) rfl (by kernel_rfl) (by kernel_rfl) (by kernel_rfl) (by kernel_rfl) (fun _ _ _ h => h) (Or.inl ⟨by rfl, ?_⟩) (by assumption) ?_
                rotate_left
                · intro w hSw; (try dsimp only at hSw); go_simp; try with_reducible rfl
                try simp only [Act.put, List.getElem_toArray, List.getElem_cons_succ, List.getElem_cons_zero, List.setIfInBounds_toArray, List.set_cons_zero, List.set_cons_succ]
                refine wpAnyS_take (i := 14) (v := ?_) rfl (by kernel_rfl) (by kernel_rfl) (by kernel_rfl) (by kernel_rfl) (fun _ _ _ h => h) (Or.inl ⟨by rfl, ?_⟩) (by assumption) ?_
                rotate_left
                · intro w hSw; (try dsimp only at hSw); go_simp; try with_reducible rfl
                try simp only [Act.put, List.getElem_toArray, List.getElem_cons_succ, List.getElem_cons_zero, List.setIfInBounds_toArray, List.set_cons_zero, List.set_cons_succ]
                refine wpAnyS_done (by kernel_rfl) ?_ _
                clear hbit hbn
                have hbn := hs3.bit (n := n) hlt
                rw [HNM.out] at hbn
                have hAB := hAB.out
                go_wp2_with fail
                go_roundg (101 - (n + 1))
                case rel => exact ⟨n + 1, by go_num, congrArg (Value.int .i64) (by have := HST.out; have := HB.out; omega), by omega, by omega, hs3⟩
                case measure => omega
              · rw [bit_none hnm] at hbn HST
                rw [decide_eq_false hnm] at HAS
                have HNM := hide (bit_none hnm)
                clear hnm
                have hAB : wrap64 (A - 0) = B := by have := HST.out; unfold wrap64; omega
                have hAB := hide hAB
                go_wp2_with fail
                refine wp_region_S (fun w' => w'.cell? ⟨w.heap.size, n, none⟩ = some (.int .i64 0)) 1000 (by kernel_rfl) (by exact hbn) (fun hHeld => ?_)
                refine wpAnyS_take (i := 0) (v := ?_) rfl (by kernel_rfl) (by kernel_rfl) (by kernel_rfl) (by kernel_rfl) (fun _ _ _ h => h) (Or.inl ⟨by rfl, ?_⟩) (by assumption) ?_
                rotate_left
                · intro w hSw; (try dsimp only at hSw); go_simp; try with_reducible rfl
                try simp only [Act.put, List.getElem_toArray, List.getElem_cons_succ, List.getElem_cons_zero, List.setIfInBounds_toArray, List.set_cons_zero, List.set_cons_succ]
                refine wpAnyS_take (i := 1) (v := ?_) rfl (by kernel_rfl) (by kernel_rfl) (by kernel_rfl) (by kernel_rfl) (fun _ _ _ h => h) (Or.inl ⟨by rfl, ?_⟩) (by assumption) ?_
                rotate_left
                · intro w hSw; (try dsimp only at hSw); go_simp; try with_reducible rfl
                try simp only [Act.put, List.getElem_toArray, List.getElem_cons_succ, List.getElem_cons_zero, List.setIfInBounds_toArray, List.set_cons_zero, List.set_cons_succ]
                refine wpAnyS_take (i := 3) (v := ?_) rfl (by kernel_rfl) (by kernel_rfl) (by kernel_rfl) (by kernel_rfl) (fun _ _ _ h => h) (Or.inl ⟨by rfl, ?_⟩) (by assumption) ?_
                rotate_left
                · intro w hSw; (try dsimp only at hSw); go_simp; try with_reducible rfl
                try simp only [Act.put, List.getElem_toArray, List.getElem_cons_succ, List.getElem_cons_zero, List.setIfInBounds_toArray, List.set_cons_zero, List.set_cons_succ]
                refine wpAnyS_take (i := 4) (v := ?_) rfl (by kernel_rfl) (by kernel_rfl) (by kernel_rfl) (by kernel_rfl) (fun _ _ _ h => h) (Or.inl ⟨by rfl, ?_⟩) (by assumption) ?_
                rotate_left
                · intro w hSw; (try dsimp only at hSw); go_simp; try with_reducible rfl
                try simp only [Act.put, List.getElem_toArray, List.getElem_cons_succ, List.getElem_cons_zero, List.setIfInBounds_toArray, List.set_cons_zero, List.set_cons_succ]
                refine wpAnyS_take (i := 5) (v := ?_) rfl (by kernel_rfl) (by kernel_rfl) (by kernel_rfl) (by kernel_rfl) (fun _ _ _ h => h) (Or.inl ⟨by rfl, ?_⟩) (by assumption) ?_
                rotate_left
                · intro w hSw; (try dsimp only at hSw); go_simp; try with_reducible rfl
                try simp only [Act.put, List.getElem_toArray, List.getElem_cons_succ, List.getElem_cons_zero, List.setIfInBounds_toArray, List.set_cons_zero, List.set_cons_succ]
                refine wpAnyS_take (i := 6) (v := ?_) rfl (by kernel_rfl) (by kernel_rfl) (by kernel_rfl) (by kernel_rfl) (fun _ _ _ h => h) (Or.inl ⟨by rfl, ?_⟩) (by assumption) ?_
                rotate_left
                · intro w hSw; (try dsimp only at hSw); go_simp; try with_reducible rfl
                try simp only [Act.put, List.getElem_toArray, List.getElem_cons_succ, List.getElem_cons_zero, List.setIfInBounds_toArray, List.set_cons_zero, List.set_cons_succ]
                refine wpAnyS_one (i := 2) rfl (by kernel_rfl) (fun K hK => ?_)
                go_simp; go_at_call 20; refine (has_any b g room n rs _ (hs.later (by first | exact Below.refl _ _ | exact below_drewN (Below.refl _ _) _)).set).mono ?_; rintro e2 w2 ⟨rfl, hb2⟩; rw [HAS.out]; have hs2 := (hs.later (by first | exact Below.refl _ _ | exact below_drewN (Below.refl _ _) _)).later hb2
                refine hK.out _ _ (fun _ => by rw [← HNM.out]; exact hs2.bit hlt) (fun hH => ?_)
                have hHeld := hH rfl
                clear hK K hH
                try simp only [Act.put, List.getElem_toArray, List.getElem_cons_succ, List.getElem_cons_zero, List.setIfInBounds_toArray, List.set_cons_zero, List.set_cons_succ]
                refine wpAnyS_take (i := 7) (v := ?_) rfl (by kernel_rfl) (by kernel_rfl) (by kernel_rfl) (by kernel_rfl) (fun _ _ _ h => h) (Or.inl ⟨by rfl, ?_⟩) (by assumption) ?_
                rotate_left
                · intro w hSw; (try dsimp only at hSw); go_simp; try with_reducible rfl
                try simp only [Act.put, List.getElem_toArray, List.getElem_cons_succ, List.getElem_cons_zero, List.setIfInBounds_toArray, List.set_cons_zero, List.set_cons_succ]
                refine wpAnyS_take (i := 8) (v := ?_) rfl (by kernel_rfl) (by kernel_rfl) (by kernel_rfl) (by kernel_rfl) (fun _ _ _ h => h) (Or.inl ⟨by rfl, ?_⟩) (by assumption) ?_
                rotate_left
                · intro w hSw; (try dsimp only at hSw); go_simp; try with_reducible rfl
                try simp only [Act.put, List.getElem_toArray, List.getElem_cons_succ, List.getElem_cons_zero, List.setIfInBounds_toArray, List.set_cons_zero, List.set_cons_succ]
                refine wpAnyS_take (i := 9) (v := ?_) rfl (by kernel_rfl) (by kernel_rfl) (by kernel_rfl) (by kernel_rfl) (fun _ _ _ h => h) (Or.inl ⟨by rfl, ?_⟩) (by assumption) ?_
                rotate_left
                · intro w hSw; (try dsimp only at hSw); go_simp; try with_reducible rfl
                try simp only [Act.put, List.getElem_toArray, List.getElem_cons_succ, List.getElem_cons_zero, List.setIfInBounds_toArray, List.set_cons_zero, List.set_cons_succ]
                refine wpAnyS_take (i := 10) (v := ?_) rfl (by kernel_rfl) (by kernel_rfl) (by kernel_rfl) (by kernel_rfl) (fun _ _ _ h => h) (Or.inl ⟨by rfl, ?_⟩) (by assumption) ?_
                rotate_left
                · intro w hSw; (try dsimp only at hSw); go_simp; try with_reducible rfl
                try simp only [Act.put, List.getElem_toArray, List.getElem_cons_succ, List.getElem_cons_zero, List.setIfInBounds_toArray, List.set_cons_zero, List.set_cons_succ]
                refine wpAnyS_take (i := 12) (v := ?_) rfl (by kernel_rfl) (by kernel_rfl) (by kernel_rfl) (by kernel_rfl) (fun _ _ _ h => h) (Or.inl ⟨by rfl, ?_⟩) (by assumption) ?_
                rotate_left
                · intro w hSw; (try dsimp only at hSw); go_simp; try with_reducible rfl
                try simp only [Act.put, List.getElem_toArray, List.getElem_cons_succ, List.getElem_cons_zero, List.setIfInBounds_toArray, List.set_cons_zero, List.set_cons_succ]
                refine wpAnyS_one (i := 11) rfl (by kernel_rfl) (fun K hK => ?_)
                go_simp; go_at_call 19; refine (snext_any b g room n rs _ (hs2.later (by first | exact Below.refl _ _ | exact below_drewN (Below.refl _ _) _)).set).mono ?_; rintro e3 w3 ⟨rfl, hb3⟩; rw [HNX.out]; have hs3 := (hs2.later (by first | exact Below.refl _ _ | exact below_drewN (Below.refl _ _) _)).later hb3
                refine hK.out _ _ (fun _ => by rw [← HNM.out]; exact hs3.bit hlt) (fun hH => ?_)
                have hHeld := hH rfl
                clear hK K hH
                try simp only [Act.put, List.getElem_toArray, List.getElem_cons_succ, List.getElem_cons_zero, List.setIfInBounds_toArray, List.set_cons_zero, List.set_cons_succ]
                refine wpAnyS_take (i := 13) (v := ?_) rfl (by kernel_rfl) (by kernel_rfl) (by kernel_rfl) (by kernel_rfl) (fun _ _ _ h => h) (Or.inl ⟨by rfl, ?_⟩) (by assumption) ?_
                rotate_left
                · intro w hSw; (try dsimp only at hSw); go_simp; try with_reducible rfl
                try simp only [Act.put, List.getElem_toArray, List.getElem_cons_succ, List.getElem_cons_zero, List.setIfInBounds_toArray, List.set_cons_zero, List.set_cons_succ]
                refine wpAnyS_take (i := 14) (v := ?_) rfl (by kernel_rfl) (by kernel_rfl) (by kernel_rfl) (by kernel_rfl) (fun _ _ _ h => h) (Or.inl ⟨by rfl, ?_⟩) (by assumption) ?_
                rotate_left
                · intro w hSw; (try dsimp only at hSw); go_simp; try with_reducible rfl
                try simp only [Act.put, List.getElem_toArray, List.getElem_cons_succ, List.getElem_cons_zero, List.setIfInBounds_toArray, List.set_cons_zero, List.set_cons_succ]
                refine wpAnyS_done (by kernel_rfl) ?_ _
                clear hbit hbn
                have hbn := hs3.bit (n := n) hlt
                rw [HNM.out] at hbn
                have hAB2 : A = B := by have := HST.out; omega
                subst hAB2
                go_wp2_with fail
                go_roundg (101 - (n + 1))
                case rel => exact ⟨n + 1, by go_num, congrArg (Value.int .i64) (by have := HST.out; have := HB.out; omega), by omega, by omega, hs3⟩
                case measure => omega
        · obtain rfl : n = 101 := by omega
          rw [show tS (bitR rs) (101 - 101) = 0 from rfl]
          go_wp2_with fail
          go_ret
          exact ⟨rfl, hs.below⟩
end Go.Proofs.Ytkmfhcjdajbbhaa
