/-
  event.forms: the forms of kinds, in a map: its walk.
-/
import Derived.Test.YtbpeienllhbffaaDoorEvPlain
import Derived.Test.YtbpeienllhbffaaDoorCfEnv
import Derived.MapKept
import Derived.MapFrom
namespace Go.Proofs.YtbpeienllhbffaaDoor
set_option linter.unusedSimpArgs false
set_option linter.unusedVariables false
open Go.RowKit Go.Shelf

/-- Which function tells where a field is. -/
def fidF : Nat → Nat
  | 1 => 73
  | 2 => 74
  | _ => 75
def fdC (f : Fd) : List Value := [.func (.func (fidF f.j)) #[] #[], .int .i64 f.lo, .int .i64 f.hi]
def fdsC (fs : List Fd) : Array Value := (fs.flatMap fdC).toArray
def formV (k B : Nat) : Value := .agg #[.string (wordF k), .slice (some ⟨B, 0, none⟩) (fieldsF k).length (fieldsF k).length]
/-- The map's entries when n forms have been laid. -/
def formsE (B : Nat → Nat) (n : Nat) : Array MapEntry := ((List.range n).map fun i => ⟨.int .i64 ((i + 1 : Nat) : Int), formV (i + 1) (B (i + 1)), i⟩).toArray
theorem formsE_succ (B : Nat → Nat) (n : Nat) : formsE B (n + 1) = (formsE B n).push ⟨.int .i64 ((n + 1 : Nat) : Int), formV (n + 1) (B (n + 1)), n⟩ := by
  unfold formsE
  rw [List.range_succ, List.map_append]
  simp
theorem formsE_congr {B B' : Nat → Nat} {n : Nat} (h : ∀ i < n, B (i + 1) = B' (i + 1)) : formsE B n = formsE B' n := by
  unfold formsE
  congr 1
  apply List.map_congr_left
  intro i hi
  rw [h i (List.mem_range.1 hi)]
/-- The forms, in memory. -/
structure FormsAt (w : World) (M n : Nat) (B : Nat → Nat) : Prop where
  map : w.heap[M]? = some (.map (formsE B n) n)
  rows : ∀ k, 1 ≤ k → k ≤ n → Blk w (B k) 88 (fdsC (fieldsF k))
theorem FormsAt.mlt {w : World} {M n : Nat} {B : Nat → Nat} (h : FormsAt w M n B) : M < w.heap.size := by
  rcases Nat.lt_or_ge M w.heap.size with hl | hl
  · exact hl
  · have := h.map
    rw [Array.getElem?_eq_none hl] at this
    cases this
theorem FormsAt.below {w w' : World} {M n : Nat} {B : Nat → Nat} (h : FormsAt w M n B) (hb : Below w.heap.size w w') : FormsAt w' M n B :=
  ⟨(hb.block M h.mlt).trans h.map, fun k h1 h2 => (hb.block _ (Blk.lt (h.rows k h1 h2))).trans (h.rows k h1 h2)⟩
theorem FormsAt.only {S : List Nat} {w w' : World} {M n : Nat} {B : Nat → Nat} (h : FormsAt w M n B) (ho : Only S w w') (hM : M ∉ S) (hB : ∀ k, 1 ≤ k → k ≤ n → B k ∉ S) : FormsAt w' M n B :=
  ⟨(ho.block M h.mlt hM).trans h.map, fun k h1 h2 => ho.blk (h.rows k h1 h2) (hB k h1 h2)⟩
theorem mt : Tryd.prog.underlying 84 = some (.map 3 82) := Tryd.underlying84
theorem find_forms (B : Nat → Nat) (n : Nat) (k : Int) : Instr.findNow (.int .i64) (.int .i64 k) (formsE B n).toList 0 = some (if 1 ≤ k ∧ k ≤ n then some ((k - 1).toNat, formV k.toNat (B k.toNat)) else none) := by
  have hall : ∀ x ∈ (formsE B n).toList, MapKept.IsKey (.int .i64) x.key := fun x hx => by
    unfold formsE at hx
    simp only [List.toList_toArray] at hx
    obtain ⟨i, hi, rfl⟩ := List.mem_map.1 hx
    rfl
  rcases MapKept.findNow_spec (d := .int .i64) (k := .int .i64 k) rfl (formsE B n).toList 0 hall with ⟨h, hne⟩ | ⟨j, e, h, hj, he⟩
  · rw [h, if_neg]
    rintro ⟨h1, h2⟩
    refine hne ⟨.int .i64 (((k.toNat - 1) + 1 : Nat) : Int), formV ((k.toNat - 1) + 1) (B ((k.toNat - 1) + 1)), k.toNat - 1⟩ ?_ ?_
    · unfold formsE
      simp only [List.toList_toArray]
      exact List.mem_map.2 ⟨k.toNat - 1, List.mem_range.2 (by omega), rfl⟩
    · show Value.int .i64 _ = Value.int .i64 k
      congr 1
      omega
  · rw [h]
    unfold formsE at hj
    simp only [List.toList_toArray] at hj
    rw [List.getElem?_map] at hj
    have hjn : j < n := by
      rcases Nat.lt_or_ge j n with hl | hl
      · exact hl
      · rw [List.getElem?_eq_none (by simpa using hl)] at hj
        cases hj
    rw [List.getElem?_range hjn] at hj
    simp only [Option.map_some, Option.some.injEq] at hj
    subst hj
    have hk : ((j + 1 : Nat) : Int) = k := by injection he
    rw [if_pos (by omega)]
    have e1 : k.toNat = j + 1 := by omega
    have e2 : (k - 1).toNat = 0 + j := by omega
    rw [e1, e2]
theorem lookup_forms {w : World} {M : Nat} {B : Nat → Nat} (h : FormsAt w M 6 B) (k : Int) : (Instr.lookup 84 (.map (some M)) (.int .i64 k) true).run Tryd.prog w = .ok (.tuple (match kindOf k with
    | some j => #[formV j (B j), .bool true]
    | none => #[.agg #[.string ⟨#[]⟩, .slice none 0 0], .bool false])) w := by
  have hf := find_forms B 6 k
  have hz : (zeroValue 82).run Tryd.prog w = .ok (.agg #[.string ⟨#[]⟩, .slice none 0 0]) w := by kernel_rfl
  have hi : Tryd.prog.underlying 3 = some (.int .i64) := Tryd.underlying3
  unfold kindOf
  by_cases hk : 1 ≤ k ∧ k ≤ ((6 : Nat) : Int)
  · rw [if_pos hk] at hf
    rw [if_pos (by omega)]
    simp [Instr.lookup, run_underlying mt, MapKept.run_getObj_map h.map, MapKept.run_checkKey hi (k := .int .i64 k) rfl, MapKept.run_findKey hi hf, Result.andThen]
  · rw [if_neg hk] at hf
    rw [if_neg (by omega)]
    simp [Instr.lookup, run_underlying mt, MapKept.run_getObj_map h.map, MapKept.run_checkKey hi (k := .int .i64 k) rfl, MapKept.run_findKey hi hf, hz, Result.andThen]
/-- A form is laid. -/
def putW (w : World) (M n : Nat) (B : Nat → Nat) : World := { w with heap := w.heap.setIfInBounds M (.map (formsE B (n + 1)) (n + 1)) }
theorem put_run {w : World} {M n : Nat} {B : Nat → Nat} (h : w.heap[M]? = some (.map (formsE B n) n)) {k : Int} (hk : k = ((n + 1 : Nat) : Int)) : (Instr.mapUpdate 84 (.map (some M)) (.int .i64 k) (formV (n + 1) (B (n + 1)))).run Tryd.prog w = .ok () (putW w M n B) := by
  have hf := find_forms B n k
  have hi : Tryd.prog.underlying 3 = some (.int .i64) := Tryd.underlying3
  rw [if_neg (by omega)] at hf
  simp [Instr.mapUpdate, run_underlying mt, MapKept.run_getObj_map h, MapKept.run_checkKey hi (k := .int .i64 k) rfl, MapKept.run_findKey hi hf, MapKept.run_setObj_map _ h, Result.andThen]
  unfold putW
  rw [formsE_succ, hk]
theorem putW_only (w : World) (M n : Nat) (B : Nat → Nat) : Only [M] w (putW w M n B) := by
  refine ⟨rfl, rfl, rfl, by simp [putW], fun k hk hM => ?_⟩
  show (w.heap.setIfInBounds M _)[k]? = _
  rw [Array.getElem?_setIfInBounds_ne (by intro e; subst e; simp at hM)]
theorem putW_map {w : World} {M n : Nat} {B : Nat → Nat} (h : M < w.heap.size) : (putW w M n B).heap[M]? = some (.map (formsE B (n + 1)) (n + 1)) := by
  show (w.heap.setIfInBounds M _)[M]? = _
  rw [Array.getElem?_setIfInBounds_self, if_pos h]
theorem FormsAt.put {w : World} {M n : Nat} {B : Nat → Nat} (h : FormsAt w M n B) (hr : Blk w (B (n + 1)) 88 (fdsC (fieldsF (n + 1)))) (hM : ∀ k, 1 ≤ k → k ≤ n + 1 → B k ≠ M) : FormsAt (putW w M n B) M (n + 1) B := by
  refine ⟨putW_map h.mlt, fun k h1 h2 => (putW_only w M n B).blk ?_ (by simpa using hM k h1 h2)⟩
  by_cases hk : k ≤ n
  · exact h.rows k h1 hk
  · obtain rfl : k = n + 1 := by omega
    exact hr
theorem putW_size (w : World) (M n : Nat) (B : Nat → Nat) : (putW w M n B).heap.size = w.heap.size := by simp [putW]
theorem upon_insert {o : Oper} {a : Act} {K : Act → World → Prop} {Q : Exit → Act → World → Prop} {W : World} {M n : Nat} {B : Nat → Nat} {k : Int} {V : Value} (hk : k = ((n + 1 : Nat) : Int)) (hV : V = formV (n + 1) (B (n + 1))) (hb : W.heap[M]? = some (.map (formsE B n) n))
    (h : ∀ W', W' = putW W M n B → o.upon Tryd.prog a K Q ((Result.ok () W').andThen fun (_ : Unit) w' => Result.ok Next.skip w')) : o.upon Tryd.prog a K Q (((Instr.mapUpdate 84 (.map (some M)) (.int .i64 k) V).run Tryd.prog W).andThen fun (_ : Unit) w' => Result.ok Next.skip w') := by
  subst hV
  rw [put_run hb hk]
  exact h _ rfl
def boxC (f : Fd) : Array Value := #[.func (.func (fidF f.j)) #[] #[], .int .i64 f.lo, .int .i64 f.hi]
def Bf (w : World) (k : Nat) : Nat := w.heap.size + 3 + k
/-- While the forms are laid. -/
structure FmW (w W : World) (n : Nat) : Prop where
  sp : Blk W w.heap.size 88 (boxC fSp)
  nu : Blk W (w.heap.size + 1) 88 (boxC fNum)
  sz : Blk W (w.heap.size + 2) 88 (boxC fSize)
  fm : FormsAt W (w.heap.size + 3) n (Bf w)
  bl : Below w.heap.size w W
  size : W.heap.size = w.heap.size + 4 + n
theorem FmW.start (w : World) : FmW w ((((w.alloc (.cells (boxC fSp) 88)).alloc (.cells (boxC fNum) 88)).alloc (.cells (boxC fSize) 88)).alloc (.map #[] 0)) 0 := by
  have h0 := Blk.new w 88 (boxC fSp)
  have h1 := Blk.new (w.alloc (.cells (boxC fSp) 88)) 88 (boxC fNum)
  have h2 := Blk.new ((w.alloc (.cells (boxC fSp) 88)).alloc (.cells (boxC fNum) 88)) 88 (boxC fSize)
  refine ⟨((h0.alloc _).alloc _).alloc _, ?_, ?_, ⟨?_, fun k h1 h2 => by omega⟩, (((((Below.refl _ _).alloc (Nat.le_refl _) _).alloc (by simp) _).alloc (by simp; try omega) _).alloc (by simp; try omega) _), by simp⟩
  · have := (h1.alloc (.cells (boxC fSize) 88)).alloc (.map #[] 0)
    simpa using this
  · have := h2.alloc (.map #[] 0)
    simpa using this
  · show (Array.push _ _)[w.heap.size + 3]? = _
    rw [Array.getElem?_push]
    simp [formsE]
theorem FmW.next {w W : World} {n : Nat} (h : FmW w W n) (cs : Array Value) (hc : cs = fdsC (fieldsF (n + 1))) : FmW w (putW (W.alloc (.cells cs 88)) (w.heap.size + 3) n (Bf w)) (n + 1) := by
  subst hc
  have hsz := h.size
  have ho := putW_only (W.alloc (.cells (fdsC (fieldsF (n + 1))) 88)) (w.heap.size + 3) n (Bf w)
  have hb : Below W.heap.size W (W.alloc (.cells (fdsC (fieldsF (n + 1))) 88)) := (Below.refl _ _).alloc (Nat.le_refl _) _
  refine ⟨ho.blk (h.sp.alloc _) (by simp), ho.blk (h.nu.alloc _) (by simp), ho.blk (h.sz.alloc _) (by simp), (h.fm.below hb).put ?_ (fun k h1 h2 => by unfold Bf; omega), (below2 h.bl hb).trans (ho.below (fun x hx => by simp at hx; omega) (below2 h.bl hb).size), ?_⟩
  · have := Blk.new W 88 (fdsC (fieldsF (n + 1)))
    rw [hsz] at this
    have e : Bf w (n + 1) = w.heap.size + 4 + n := by unfold Bf; omega
    rw [e]
    exact this
  · rw [putW_size]
    simp
    omega
theorem FmW.put {w W : World} {n : Nat} (h : FmW w W n) (cs : Array Value) : (W.alloc (.cells cs 88)).heap[w.heap.size + 3]? = some (.map (formsE (Bf w) n) n) :=
  (h.fm.below ((Below.refl W.heap.size W).alloc (Nat.le_refl _) (.cells cs 88))).map
theorem FmW.cells {w W : World} {n : Nat} (h : FmW w W n) : W.cell? ⟨w.heap.size, 0, none⟩ = some (.func (.func 73) #[] #[]) ∧ W.cell? ⟨w.heap.size, 1, none⟩ = some (.int .i64 0) ∧ W.cell? ⟨w.heap.size, 2, none⟩ = some (.int .i64 2) ∧
    W.cell? ⟨w.heap.size + 1, 0, none⟩ = some (.func (.func 74) #[] #[]) ∧ W.cell? ⟨w.heap.size + 1, 1, none⟩ = some (.int .i64 0) ∧ W.cell? ⟨w.heap.size + 1, 2, none⟩ = some (.int .i64 9007199254740991) ∧
    W.cell? ⟨w.heap.size + 1 + 1, 0, none⟩ = some (.func (.func 75) #[] #[]) ∧ W.cell? ⟨w.heap.size + 1 + 1, 1, none⟩ = some (.int .i64 1) ∧ W.cell? ⟨w.heap.size + 1 + 1, 2, none⟩ = some (.int .i64 65535) :=
  ⟨h.sp.cell 0, h.sp.cell 1, h.sp.cell 2, h.nu.cell 0, h.nu.cell 1, h.nu.cell 2, h.sz.cell 0, h.sz.cell 1, h.sz.cell 2⟩
set_option maxRecDepth 100000 in
set_option maxHeartbeats 4000000 in
theorem forms_any (w : World) : Calls Tryd.prog 50 #[] w fun e w' => ∃ M B, e = .returned (.map (some M)) ∧ FormsAt w' M 6 B ∧ w.heap.size ≤ M ∧ (∀ k, 1 ≤ k → k ≤ 6 → w.heap.size ≤ B k) ∧ Below w.heap.size w w' := by
  have hmm := @run_makeMap Tryd.prog
  have H0 := hide (FmW.start w)
  go_enter Tryd.func50, Tryd.ntmps50
  go_wp2_with fail
  refine upon_insert (n := 0) (B := Bf w) rfl rfl (H0.out.put _) ?_
  intro W1 hW
  have H1 : Hid (FmW w W1 1) := by
    rw [hW]
    exact H0.out.next _ rfl
  clear hW H0
  obtain ⟨a0, a1, a2, b0, b1, b2, d0, d1, d2⟩ := H1.out.cells
  go_wp2_with fail
  clear a0 a1 a2 b0 b1 b2 d0 d1 d2
  refine upon_insert (n := 1) (B := Bf w) rfl ?_ (H1.out.put _) ?_
  · rw [H1.out.size]
    rfl
  intro W2 hW
  have H2 : Hid (FmW w W2 2) := by
    rw [hW]
    exact H1.out.next _ rfl
  clear hW H1
  obtain ⟨a0, a1, a2, b0, b1, b2, d0, d1, d2⟩ := H2.out.cells
  go_wp2_with fail
  clear a0 a1 a2 b0 b1 b2 d0 d1 d2
  refine upon_insert (n := 2) (B := Bf w) rfl ?_ (H2.out.put _) ?_
  · rw [H2.out.size]
    rfl
  intro W3 hW
  have H3 : Hid (FmW w W3 3) := by
    rw [hW]
    exact H2.out.next _ rfl
  clear hW H2
  obtain ⟨a0, a1, a2, b0, b1, b2, d0, d1, d2⟩ := H3.out.cells
  go_wp2_with fail
  clear a0 a1 a2 b0 b1 b2 d0 d1 d2
  refine upon_insert (n := 3) (B := Bf w) rfl ?_ (H3.out.put _) ?_
  · rw [H3.out.size]
    rfl
  intro W4 hW
  have H4 : Hid (FmW w W4 4) := by
    rw [hW]
    exact H3.out.next _ rfl
  clear hW H3
  obtain ⟨a0, a1, a2, b0, b1, b2, d0, d1, d2⟩ := H4.out.cells
  go_wp2_with fail
  clear a0 a1 a2 b0 b1 b2 d0 d1 d2
  refine upon_insert (n := 4) (B := Bf w) rfl ?_ (H4.out.put _) ?_
  · rw [H4.out.size]
    rfl
  intro W5 hW
  have H5 : Hid (FmW w W5 5) := by
    rw [hW]
    exact H4.out.next _ rfl
  clear hW H4
  obtain ⟨a0, a1, a2, b0, b1, b2, d0, d1, d2⟩ := H5.out.cells
  go_wp2_with fail
  clear a0 a1 a2 b0 b1 b2 d0 d1 d2
  refine upon_insert (n := 5) (B := Bf w) rfl ?_ (H5.out.put _) ?_
  · rw [H5.out.size]
    rfl
  intro W6 hW
  have H6 : Hid (FmW w W6 6) := by
    rw [hW]
    exact H5.out.next _ rfl
  clear hW H5
  go_wp2_with fail
  go_ret
  exact ⟨_, Bf w, rfl, H6.out.fm, by omega, fun k h1 h2 => by unfold Bf; omega, H6.out.bl⟩
end Go.Proofs.YtbpeienllhbffaaDoor
