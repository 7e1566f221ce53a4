/-
  Texts whose lines are turned round, with blanks and remarks; texts of some of the lines: plain Lean.
-/
import Derived.Test.YtbpeienllhbffaaDoorCfExamples
import Derived.Lib.Replace
namespace Go.Proofs.YtbpeienllhbffaaDoor
set_option linter.unusedSimpArgs false
set_option linter.unusedVariables false
open Go

theorem index_at (c : UInt8) : ∀ (x r : List UInt8), c ∉ x → Lib.index (x ++ c :: r) [c] = (x.length : Int)
  | [], r, _ => by rw [List.nil_append, Lib.index]; simp [List.isPrefixOf]
  | b :: x, r, h => by
    have hb : b ≠ c := fun e => h (by simp [e])
    have ih := index_at c x r (fun e => h (List.mem_cons_of_mem _ e))
    have hp : ([c] : List UInt8).isPrefixOf (b :: (x ++ c :: r)) = false := by simp [List.isPrefixOf, Ne.symm hb]
    rw [List.cons_append, Lib.index, hp, ih]
    have hn : ¬ ((x.length : Int) == -1) = true := fun e => by have := beq_iff_eq.1 e; omega
    simp [hn]
theorem index_not (c : UInt8) : ∀ (x : List UInt8), c ∉ x → Lib.index x [c] = -1
  | [], _ => rfl
  | b :: x, h => by
    have hb : b ≠ c := fun e => h (by simp [e])
    have ih := index_not c x (fun e => h (List.mem_cons_of_mem _ e))
    have hp : ([c] : List UInt8).isPrefixOf (b :: x) = false := by simp [List.isPrefixOf, Ne.symm hb]
    rw [Lib.index, hp, ih]
    rfl
theorem drop_past (x r : List UInt8) (c : UInt8) : (x ++ c :: r).drop (x.length + 1) = r := by
  rw [List.drop_append]
  simp
theorem replace_one {a b new : List UInt8} (ha : 32 ∉ a) (hb : 32 ∉ b) (hn : ([32] == new) = false) : Lib.replaceAll (a ++ 32 :: b) [32] new = a ++ new ++ b := by
  have hi := index_at 32 a b ha
  have hc : Lib.count (a ++ 32 :: b) [32] = 1 := by
    rw [Lib.count_hit (by simp) hi]
    show 1 + Lib.count ((a ++ 32 :: b).drop (a.length + 1)) [32] = 1
    rw [drop_past, Lib.count_miss (index_not 32 b hb)]
  unfold Lib.replaceAll Lib.replace Lib.replaceNum
  rw [if_neg (by rw [hn]; decide), if_pos (.inl (by omega)), hc, Lib.replaceK_hit _ _ _ _ _ hi]
  show (a ++ 32 :: b).take a.length ++ new ++ Lib.replaceK [32] new 0 ((a ++ 32 :: b).drop (a.length + 1)) = _
  rw [drop_past, List.take_left]
  rfl
/-- A row's line, turned. -/
def turnL (i : Nat) (n : Int) : List UInt8 := 32 :: 32 :: (nameL i ++ 32 :: 32 :: 32 :: (Lib.itoa n ++ [32]))
theorem turn_rep {i : Nat} {n : Int} (hi : i < 10) (h0 : 0 ≤ n) : [32, 32] ++ Lib.replaceAll (rowL i n) [32] [32, 32, 32] ++ [32] = turnL i n := by
  unfold rowL turnL
  rw [replace_one (name_word i hi).2.1 (by rw [itoa_pos h0]; exact dec_no _ 32 (by decide)) rfl]
  simp
theorem turn_wl {i : Nat} {n : Int} (hi : i < 10) (h0 : 0 ≤ n) : wl [] (turnL i n) = [nameL i, Lib.itoa n] := by
  have hw := name_word i hi
  unfold turnL
  rw [wl_blank, wl_blank, wl_word _ _ _ hw.2.1, List.nil_append, wl_close hw.1, wl_blank, wl_blank, itoa_pos h0, wl_word _ _ _ (dec_no _ 32 (by decide)), List.nil_append, wl_close (dec_ne _)]
  rfl
theorem turn_asc {i : Nat} {n : Int} (hi : i < 10) (h0 : 0 ≤ n) : Asc (turnL i n) := fun b hb => by
  unfold turnL at hb
  rw [itoa_pos h0] at hb
  simp only [List.mem_cons, List.mem_append, List.not_mem_nil, or_false] at hb
  rcases hb with h | h | h | h | h | h | h | h
  · subst h; decide
  · subst h; decide
  · exact name_asc hi b h
  · subst h; decide
  · subst h; decide
  · subst h; decide
  · exact dec_asc _ b h
  · subst h; decide
theorem turn_no {i : Nat} {n : Int} (hi : i < 10) (h0 : 0 ≤ n) : 10 ∉ turnL i n := fun hb => by
  unfold turnL at hb
  rw [itoa_pos h0] at hb
  simp only [List.mem_cons, List.mem_append, List.not_mem_nil, or_false] at hb
  rcases hb with h | h | h | h | h | h | h | h
  · exact absurd h (by decide)
  · exact absurd h (by decide)
  · exact (name_word i hi).2.2.1 h
  · exact absurd h (by decide)
  · exact absurd h (by decide)
  · exact absurd h (by decide)
  · exact dec_no _ 10 (by decide) h
  · exact absurd h (by decide)
theorem reads_turned (f : Nat → Int) : ∀ (is : List Nat), is.Nodup → (∀ i ∈ is, i < 10 ∧ 0 ≤ f i ∧ f i < 10000000000000000 ∧ (i = 0 → f i ≤ 1)) → LinesRead (is.flatMap fun i => [turnL i (f i), [32, 35]]) (is.map fun i => (i, f i))
  | [], _, _ => .nil
  | i :: is, hn, h => by
    obtain ⟨hi, h0, h1, h2⟩ := h i (by simp)
    rw [List.nodup_cons] at hn
    refine .row (turn_asc hi h0) hi h0 h1 h2 (turn_wl hi h0) ?_ (.void (fun b hb => ?_) (.inr ⟨[], [], by decide +kernel⟩) (reads_turned f is hn.2 (fun j hj => h j (List.mem_cons_of_mem _ hj))))
    · rw [List.map_map]
      simpa using hn.1
    · simp at hb
      rcases hb with rfl | rfl <;> decide
def headL : List (List UInt8) := [[35, 32, 116, 117, 114, 110, 101, 100], []]
/-- The turned lines from the first to the k-th. -/
def turnedL (c : CF) (f k : Nat) : List (List UInt8) := headL ++ (List.range k).flatMap fun i => [turnL ((i + f) % 10) (valF c ((i + f) % 10)), [32, 35]]
theorem turned_succ (c : CF) (f k : Nat) : closed (turnedL c f (k + 1)) = closed (turnedL c f k) ++ (turnL ((k + f) % 10) (valF c ((k + f) % 10)) ++ [10, 32, 35, 10]) := by
  unfold turnedL
  rw [List.range_succ, List.flatMap_append, ← List.append_assoc, closed_app]
  congr 1
  simp [closed]
theorem ring_all : ∀ f < 10, ((List.range 10).map fun i => (i + f) % 10).Nodup ∧ ∀ i < 10, i ∈ (List.range 10).map fun i => (i + f) % 10 := by decide +kernel
theorem turn_size {c : CF} (h : okC c = true) {i : Nat} (hi : i < 10) : (turnL i (valF c i)).length ≤ 36 := by
  have h1 := lineL_len (ok_small h) hi
  unfold lineL at h1
  unfold turnL nameL
  simp only [List.length_cons, List.length_append, List.length_nil] at h1 ⊢
  omega
theorem turned_size {c : CF} (h : okC c = true) (f : Nat) : ∀ k, (closed (turnedL c f k)).length ≤ 10 + 40 * k
  | 0 => by show (closed headL).length ≤ _; decide
  | k + 1 => by
    have := turned_size h f k
    have := turn_size h (i := (k + f) % 10) (by omega)
    rw [turned_succ, List.length_append, List.length_append]
    simp only [List.length_cons, List.length_nil]
    omega
theorem parse_turned {c : CF} (h : okC c = true) {f : Nat} (hf : f < 10) : parseC (mkB (closed (turnedL c f 10))) = (c, 0, 0) := by
  have hv := ok_vals h
  obtain ⟨hnd, hall⟩ := ring_all f hf
  have e : (List.range 10).flatMap (fun i => [turnL ((i + f) % 10) (valF c ((i + f) % 10)), [32, 35]]) = ((List.range 10).map fun i => (i + f) % 10).flatMap fun i => [turnL i (valF c i), [32, 35]] := by rw [List.flatMap_map]
  have hin : ∀ i ∈ (List.range 10).map (fun i => (i + f) % 10), i < 10 := fun i hi => by
    obtain ⟨j, _, rfl⟩ := List.mem_map.1 hi
    omega
  have hr : LinesRead (turnedL c f 10) (((List.range 10).map fun i => (i + f) % 10).map fun i => (i, valF c i)) := by
    unfold turnedL headL
    rw [e]
    refine .void (fun b hb => ?_) (.inr ⟨[], [[116, 117, 114, 110, 101, 100]], by decide +kernel⟩) (.void (fun b hb => by cases hb) void_nil (reads_turned (valF c) _ hnd (fun i hi => ⟨hin i hi, hv i (hin i hi)⟩)))
    simp at hb
    rcases hb with rfl | rfl | rfl | rfl | rfl | rfl | rfl | rfl <;> decide
  have h1 : ∀ x ∈ turnedL c f 10, 10 ∉ x := fun x hx => by
    unfold turnedL headL at hx
    rw [e] at hx
    rcases List.mem_append.1 hx with hx | hx
    · simp at hx
      rcases hx with rfl | rfl <;> decide
    · obtain ⟨i, hi, hx⟩ := List.mem_flatMap.1 hx
      simp at hx
      rcases hx with rfl | rfl
      · exact turn_no (hin i hi) (hv i (hin i hi)).1
      · decide
  have h2 : ∀ p ∈ ((List.range 10).map fun i => (i + f) % 10).map (fun i => (i, valF c i)), p.2 = valF c p.1 := fun p hp => by
    obtain ⟨i, hi, rfl⟩ := List.mem_map.1 hp
    rfl
  have h3 : ∀ i < 10, i ∈ (((List.range 10).map fun i => (i + f) % 10).map fun i => (i, valF c i)).map (·.1) := fun i hi => by
    rw [List.map_map]
    exact List.mem_map.2 ⟨i, hall i hi, rfl⟩
  have hz := turned_size h f 10
  rw [parse_closed hr h1 (by omega), setAll_full h2 h3 _ rfl, ofVals_vals, if_pos (err_ok.2 h)]
/-! ### Some of the lines -/
def fewL (c : CF) (B : Nat → Bool) (k : Nat) : List (List UInt8) := ((List.range k).filter B).map fun i => rowL i (valF c i)
def mixF (c d : CF) (B : Nat → Bool) (i : Nat) : Int := if B i then valF c i else valF d i
def mixL (c d : CF) (B : Nat → Bool) (k : Nat) : List (List UInt8) := (List.range k).map fun i => rowL i (mixF c d B i)
theorem few_yes (c : CF) {B : Nat → Bool} {k : Nat} (h : B k = true) : closed (fewL c B (k + 1)) = closed (fewL c B k) ++ (rowL k (valF c k) ++ [10]) := by
  unfold fewL
  rw [List.range_succ, List.filter_append, List.map_append, closed_app]
  congr 1
  simp [closed, h]
theorem few_no (c : CF) {B : Nat → Bool} {k : Nat} (h : B k = false) : closed (fewL c B (k + 1)) = closed (fewL c B k) := by
  unfold fewL
  rw [List.range_succ, List.filter_append, List.map_append, closed_app]
  simp [closed, h]
theorem mix_succ (c d : CF) (B : Nat → Bool) (k : Nat) : closed (mixL c d B (k + 1)) = closed (mixL c d B k) ++ (rowL k (mixF c d B k) ++ [10]) := by
  unfold mixL
  rw [List.range_succ, List.map_append, closed_app]
  congr 1
  simp [closed]
theorem row_size {c : CF} (h : okC c = true) {i : Nat} (hi : i < 10) : (rowL i (valF c i)).length ≤ 30 := by
  have h1 := lineL_len (ok_small h) hi
  rw [lineL_row] at h1
  simp only [List.length_append, List.length_cons, List.length_nil] at h1
  omega
theorem mix_size {c d : CF} (hc : okC c = true) (hd : okC d = true) (B : Nat → Bool) : ∀ k ≤ 10, (closed (mixL c d B k)).length ≤ 31 * k
  | 0, _ => by show (closed []).length ≤ _; decide
  | k + 1, h => by
    have h0 := mix_size hc hd B k (by omega)
    have h1 := row_size hc (i := k) (by omega)
    have h2 := row_size hd (i := k) (by omega)
    rw [mix_succ, List.length_append, List.length_append]
    unfold mixF
    simp only [List.length_cons, List.length_nil]
    split <;> omega
theorem few_size {c : CF} (hc : okC c = true) (B : Nat → Bool) : ∀ k ≤ 10, (closed (fewL c B k)).length ≤ 31 * k
  | 0, _ => by show (closed []).length ≤ _; decide
  | k + 1, h => by
    have h0 := few_size hc B k (by omega)
    have h1 := row_size hc (i := k) (by omega)
    cases hb : B k with
    | false =>
      rw [few_no c hb]
      omega
    | true =>
      rw [few_yes c hb, List.length_append, List.length_append]
      simp only [List.length_cons, List.length_nil]
      omega
theorem err_two (c : CF) : errC c = 0 ∨ errC c = 9 := by
  unfold errC
  split
  · exact .inl rfl
  · exact .inr rfl
/-- Lines that are left out are those of the default that is no server. -/
theorem parse_few {c : CF} (h : okC c = true) (B : Nat → Bool) : ∃ r : CF, ∃ er : Int, (er = 0 ∨ er = 9) ∧ parseC (mkB (closed (fewL c B 10))) = (r, 0, er) ∧ parseC (mkB (closed (mixL c (defaultCF false) B 10))) = (r, 0, er) := by
  have hv := ok_vals h
  have hw := ok_vals (ex_ok false)
  have hmx : ∀ i < 10, 0 ≤ mixF c (defaultCF false) B i ∧ mixF c (defaultCF false) B i < 10000000000000000 ∧ (i = 0 → mixF c (defaultCF false) B i ≤ 1) := fun i hi => by
    unfold mixF
    split
    · exact hv i hi
    · exact hw i hi
  have hmem : ∀ i ∈ (List.range 10).filter B, i < 10 := fun i hi => List.mem_range.1 (List.mem_filter.1 hi).1
  have r1 := reads_rows (valF c) ((List.range 10).filter B) (List.nodup_range.filter B) (fun i hi => ⟨hmem i hi, hv i (hmem i hi)⟩)
  have r2 := reads_rows (mixF c (defaultCF false) B) (List.range 10) List.nodup_range (fun i hi => ⟨List.mem_range.1 hi, hmx i (List.mem_range.1 hi)⟩)
  have n1 : ∀ x ∈ fewL c B 10, 10 ∉ x := fun x hx => by
    obtain ⟨i, hi, rfl⟩ := List.mem_map.1 hx
    exact rowL_no (hmem i hi) (hv i (hmem i hi)).1
  have n2 : ∀ x ∈ mixL c (defaultCF false) B 10, 10 ∉ x := fun x hx => by
    obtain ⟨i, hi, rfl⟩ := List.mem_map.1 hx
    exact rowL_no (List.mem_range.1 hi) (hmx i (List.mem_range.1 hi)).1
  have z1 := few_size h B 10 (by omega)
  have z2 := mix_size h (ex_ok false) B 10 (by omega)
  have e : setAll (defaultCF false).vals (((List.range 10).filter B).map fun i => (i, valF c i)) = setAll (defaultCF false).vals ((List.range 10).map fun i => (i, mixF c (defaultCF false) B i)) := by
    apply ext_getD
    · rw [setAll_length, setAll_length]
    · intro j hj
      rw [setAll_length] at hj
      have hj10 : j < 10 := hj
      rw [setAll_get (valF c) _ _ (fun p hp => by obtain ⟨i, _, rfl⟩ := List.mem_map.1 hp; rfl) j hj, setAll_get (mixF c (defaultCF false) B) _ _ (fun p hp => by obtain ⟨i, _, rfl⟩ := List.mem_map.1 hp; rfl) j hj]
      rw [List.map_map, List.map_map]
      have hid : ∀ (l : List Nat) (g : Nat → Int), l.map ((fun x : Nat × Int => x.1) ∘ fun i => (i, g i)) = l := fun l g => by
        rw [show ((fun x : Nat × Int => x.1) ∘ fun i => (i, g i)) = id from rfl, List.map_id]
      rw [hid, hid, if_pos (List.mem_range.2 hj10)]
      unfold mixF
      cases hb : B j with
      | true => rw [if_pos (List.mem_filter.2 ⟨List.mem_range.2 hj10, hb⟩)]; rfl
      | false => rw [if_neg (fun hm => by have := (List.mem_filter.1 hm).2; rw [hb] at this; cases this)]; rfl
  have p1 := parse_closed r1 n1 (by unfold fewL at z1; omega)
  have p2 := parse_closed r2 n2 (by unfold mixL at z2; omega)
  rw [e] at p1
  generalize ofVals (setAll (defaultCF false).vals ((List.range 10).map fun i => (i, mixF c (defaultCF false) B i))) = r at p1 p2
  rcases err_two r with he | he
  · rw [he, if_pos rfl] at p1 p2
    exact ⟨r, 0, .inl rfl, p1, p2⟩
  · rw [he, if_neg (by omega)] at p1 p2
    exact ⟨zeroCF, 9, .inr rfl, p1, p2⟩
end Go.Proofs.YtbpeienllhbffaaDoor
