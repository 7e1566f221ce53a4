/-
  event: what is written is read as it was, line by line; the events that rows make: plain Lean.
-/
import Derived.Test.YtbpeienllhbffaaDoorEvTextPlain
import Derived.Test.YtbpeienllhbffaaDoorCfTurn
namespace Go.Proofs.YtbpeienllhbffaaDoor
set_option linter.unusedSimpArgs false
set_option linter.unusedVariables false
open Go

theorem split_glue : ∀ (ws : List (List UInt8)), (∀ x ∈ ws, 32 ∉ x) → ws ≠ [] → Lib.splitB spB 0 (ws.length - 1) (mkB (glue (ws.map mkB))) = ws.map mkB
  | [], _, h => absurd rfl h
  | [x], _, _ => rfl
  | x :: y :: r, h, _ => by
    have hx := h x (by simp)
    have ih := split_glue (y :: r) (fun z hz => h z (List.mem_cons_of_mem _ hz)) (by simp)
    have hg : glue ((x :: y :: r).map mkB) = x ++ 32 :: glue ((y :: r).map mkB) := rfl
    have hi : Lib.indexB (mkB (x ++ 32 :: glue ((y :: r).map mkB))) spB = (x.length : Nat) := index_at 32 x _ hx
    rw [hg, show (x :: y :: r).length - 1 = ((y :: r).length - 1) + 1 by simp, Lib.splitB_hit _ _ _ _ _ hi]
    generalize hG : glue ((y :: r).map mkB) = G at *
    have e1 : (mkB (x ++ 32 :: G)).extract 0 (x.length + 0) = mkB x := ba_eq (by simp [ByteArray.data_extract, mkB])
    have e2 : (mkB (x ++ 32 :: G)).extract (x.length + 1) (mkB (x ++ 32 :: G)).size = mkB G := ba_eq (by
      rw [ByteArray.data_extract, Array.toList_extract, mkB_data, Lib.size_eq, mkB_data, mkB_data]
      simp
      exact List.take_of_length_le (by omega))
    have e3 : spB.size = 1 := rfl
    rw [e3, e1, e2, ih]
    rfl
theorem count_glue : ∀ (ws : List (List UInt8)), (∀ x ∈ ws, 32 ∉ x) → (glue (ws.map mkB)).count 32 = ws.length - 1
  | [], _ => rfl
  | [x], h => by
    have hx := h x (by simp)
    show x.count 32 = 0
    exact List.count_eq_zero.2 hx
  | x :: y :: r, h => by
    have hx := h x (by simp)
    have ih := count_glue (y :: r) (fun z hz => h z (List.mem_cons_of_mem _ hz))
    have hg : glue ((x :: y :: r).map mkB) = x ++ 32 :: glue ((y :: r).map mkB) := rfl
    rw [hg, List.count_append, List.count_cons_self, ih, List.count_eq_zero.2 hx]
    simp
theorem parts_glue (ws : List (List UInt8)) (h : ∀ x ∈ ws, 32 ∉ x) (hn : ws ≠ []) : partsB (mkB (glue (ws.map mkB))) = ws.map mkB := by
  unfold partsB
  have : Lib.countB (mkB (glue (ws.map mkB))) spB = ws.length - 1 := (Lib.count_one 32 _).trans (count_glue ws h)
  rw [this]
  exact split_glue ws h hn
/-- The words of an event's line. -/
def wordsL (e : EV) (k : Nat) : List (List UInt8) := (wordF k).data.toList :: (fieldsF k).map fun f => Lib.itoa (e.get f.j)
def rowE (e : EV) (k : Nat) : List UInt8 := (wordF k).data.toList ++ numsL e (fieldsF k)
theorem glue_nums (e : EV) : ∀ (fs : List Fd) (x : List UInt8), glue ((x :: fs.map fun f => Lib.itoa (e.get f.j)).map mkB) = x ++ numsL e fs
  | [], x => by simp [glue, numsL, mkB]
  | f :: fs, x => by
    have ih := glue_nums e fs (Lib.itoa (e.get f.j))
    have hg : glue ((x :: (f :: fs).map fun f => Lib.itoa (e.get f.j)).map mkB) = x ++ 32 :: glue ((Lib.itoa (e.get f.j) :: fs.map fun f => Lib.itoa (e.get f.j)).map mkB) := rfl
    rw [hg, ih]
    simp [numsL]
theorem glue_row (e : EV) (k : Nat) : glue ((wordsL e k).map mkB) = rowE e k := glue_nums e _ _
theorem num_itoa {n : Int} (h0 : 0 ≤ n) (h1 : n < 10000000000000000) : numZ (mkB (Lib.itoa n)) = some n := by
  have hz : (mkB (Lib.itoa n)).size ≤ 16 := by
    rw [Lib.size_eq, mkB_data, itoa_pos h0, Lib.decDigits_length]
    exact nDigits_le 15 n.toNat (by omega)
  unfold numZ
  have ha : Lib.atoiAll (mkB (Lib.itoa n)).data.toList = .ok n := by rw [mkB_data]; exact atoi_itoa h0 (by omega)
  rw [ha]
  exact if_pos ⟨hz, rfl⟩
theorem word_no : ∀ k < 7, 32 ∉ (wordF k).data.toList ∧ 10 ∉ (wordF k).data.toList := by decide +kernel
theorem itoa_no {n : Int} (h : 0 ≤ n) (c : UInt8) (hc : c.toNat < 48) : c ∉ Lib.itoa n := by
  rw [itoa_pos h]
  exact dec_no _ c hc
/-- What an event that may be holds. -/
theorem okEV_cases {e : EV} (h : okEV e = true) : ∃ k, kindOf e.kind = some k ∧ (1 ≤ k ∧ k ≤ 6) ∧ e.kind = (k : Int) ∧ (∀ f ∈ fieldsF k, 0 ≤ e.get f.j ∧ e.get f.j < 10000000000000000) := by
  unfold okEV at h
  cases hk : kindOf e.kind with
  | none => rw [hk] at h; cases h
  | some k =>
    rw [hk] at h
    simp only [Bool.and_eq_true, decide_eq_true_eq] at h
    obtain ⟨h1, h2, h3⟩ := kind_some hk
    refine ⟨k, rfl, ⟨h1, h2⟩, h3.symm, fun f hf => ?_⟩
    have hi := List.all_eq_true.1 h.1 f hf
    unfold inF at hi
    simp only [Bool.and_eq_true, decide_eq_true_eq] at hi
    have hb : 0 ≤ f.lo ∧ f.hi < 10000000000000000 := by
      have : k = 1 ∨ k = 2 ∨ k = 3 ∨ k = 4 ∨ k = 5 ∨ k = 6 := by omega
      rcases this with rfl | rfl | rfl | rfl | rfl | rfl <;> simp only [fieldsF, List.mem_cons, List.not_mem_nil, or_false] at hf
      · rcases hf with rfl | rfl | rfl <;> decide
      · rcases hf with rfl | rfl | rfl <;> decide
      · rcases hf with rfl | rfl <;> decide
      · subst hf; decide
      · subst hf; decide
      · subst hf; decide
    omega
theorem read_row {e : EV} (h : okEV e = true) {k : Nat} (hk : kindOf e.kind = some k) : readE (mkB (rowE e k)) = some e := by
  obtain ⟨k', hk', ⟨h1, h2⟩, h3, h4⟩ := okEV_cases h
  obtain rfl : k' = k := by rw [hk] at hk'; exact (Option.some.inj hk').symm
  have hw : ∀ x ∈ wordsL e k', 32 ∉ x := fun x hx => by
    unfold wordsL at hx
    rcases List.mem_cons.1 hx with rfl | hx
    · exact (word_no k' (by omega)).1
    · obtain ⟨f, hf, rfl⟩ := List.mem_map.1 hx
      exact itoa_no (h4 f hf).1 32 (by decide)
  have hp := parts_glue (wordsL e k') hw (by simp [wordsL])
  rw [glue_row] at hp
  unfold readE
  rw [hp]
  have hf : fitsK ((wordsL e k').map mkB) k' = true := by
    unfold fitsK
    rw [Bool.and_eq_true, decide_eq_true_eq, decide_eq_true_eq]
    exact ⟨by simp [wordsL, partAt, mkB_eta], by simp [wordsL]⟩
  unfold readW
  rw [kindW_some.2 ⟨⟨h1, h2⟩, hf⟩]
  have hev : evOf ((wordsL e k').map mkB) k' = some e := by
    have hok := h
    unfold okEV at hok
    rw [hk] at hok
    simp only [Bool.and_eq_true, decide_eq_true_eq] at hok
    have hst := hok.2
    have hnum : ∀ f ∈ fieldsF k', numZ (mkB (Lib.itoa (e.get f.j))) = some (e.get f.j) := fun f hf => num_itoa (h4 f hf).1 (h4 f hf).2
    clear hp hf hw h4 hok h hk hk'
    obtain ⟨e0, e1, e2, e3⟩ := e
    simp only at h3
    subst h3
    have : k' = 1 ∨ k' = 2 ∨ k' = 3 ∨ k' = 4 ∨ k' = 5 ∨ k' = 6 := by omega
    rcases this with rfl | rfl | rfl | rfl | rfl | rfl <;>
      simp [fieldsF, fSp, fNum, fSize, EV.get] at hnum <;>
      simp [fieldsF, fSp, fNum, fSize, EV.get, EV.set, strike, zeroEV] at hst <;>
      simp [evOf, evN, wordsL, fieldsF, fSp, fNum, fSize, EV.get, EV.set, partAt, zeroEV, hnum, hst]
  simp only [hev, h, if_true]
theorem row_no {e : EV} (h : okEV e = true) {k : Nat} (hk : kindOf e.kind = some k) : 10 ∉ rowE e k := by
  obtain ⟨k', hk', ⟨h1, h2⟩, h3, h4⟩ := okEV_cases h
  obtain rfl : k' = k := by rw [hk] at hk'; exact (Option.some.inj hk').symm
  unfold rowE numsL
  intro hm
  rcases List.mem_append.1 hm with hm | hm
  · exact (word_no k' (by omega)).2 hm
  · obtain ⟨f, hf, hm⟩ := List.mem_flatMap.1 hm
    rcases List.mem_cons.1 hm with hm | hm
    · exact absurd hm (by decide)
    · exact itoa_no (h4 f hf).1 10 (by decide) hm
theorem line_row {e : EV} {k : Nat} (hk : kindOf e.kind = some k) : lineE e = rowE e k ++ [10] := by
  unfold lineE rowE
  rw [hk]
theorem line_form {e : EV} (h : okEV e = true) : ∃ r, lineE e = r ++ [10] ∧ 10 ∉ r ∧ readE (mkB r) = some e := by
  obtain ⟨k, hk, _⟩ := okEV_cases h
  exact ⟨rowE e k, line_row hk, row_no h hk, read_row h hk⟩
theorem cut_at (x r : List UInt8) (h : 10 ∉ x) : Lib.cut (x ++ 10 :: r) [10] = (x, r, true) := by
  have hi := index_at 10 x r h
  unfold Lib.cut
  rw [if_pos (by omega)]
  simp [hi]
theorem textE_cons (e : EV) (es : List EV) : textE (e :: es) = lineE e ++ textE es := by unfold textE; rw [List.flatMap_cons]
theorem textE_app (a b : List EV) : textE (a ++ b) = textE a ++ textE b := by unfold textE; rw [List.flatMap_append]
/-- Lines of events that may be are read, and the rest behind them. -/
theorem parse_app : ∀ (es : List EV) (rest : List UInt8) (acc : List EV) (k : Nat), es.all okEV = true → (textE es ++ rest).length ≤ k → acc.length + es.length ≤ 4000 → ∃ k', rest.length ≤ k' ∧ parseL k (textE es ++ rest) acc = parseL k' rest (acc ++ es)
  | [], rest, acc, k, _, hk, _ => ⟨k, by simpa [textE] using hk, by simp [textE]⟩
  | e :: es, rest, acc, k, h, hk, hl => by
    rw [List.all_cons, Bool.and_eq_true] at h
    obtain ⟨r, h1, h2, h3⟩ := line_form h.1
    have hs : textE (e :: es) ++ rest = r ++ 10 :: (textE es ++ rest) := by rw [textE_cons, h1]; simp
    rw [hs] at hk ⊢
    rw [List.length_append, List.length_cons] at hk
    rw [List.length_cons] at hl
    obtain ⟨k, rfl⟩ : ∃ j, k = j + 1 := ⟨k - 1, by omega⟩
    obtain ⟨k', h4, h5⟩ := parse_app es rest (acc ++ [e]) k h.2 (by omega) (by rw [List.length_append, List.length_singleton]; omega)
    refine ⟨k', h4, ?_⟩
    rw [parseL, if_neg (by simp), if_neg (by omega), cut_at r _ h2]
    simp only [Bool.true_eq_false, if_false, h3]
    rw [h5, List.append_assoc, List.singleton_append]
theorem parse_nil (k : Nat) (acc : List EV) : parseL k [] acc = (acc, 0, 0) := by
  cases k with
  | zero => rfl
  | succ k => rw [parseL, if_pos rfl]
theorem parse_written {es : List EV} (h : es.all okEV = true) (hn : es.length ≤ 4000) (hs : (textE es).length ≤ 1048576) : parseE (mkB (textE es)) = (es, 0, 0) := by
  unfold parseE
  rw [if_neg (by rw [Lib.size_eq, mkB_data]; omega), mkB_data]
  obtain ⟨k', _, h2⟩ := parse_app es [] [] (mkB (textE es)).size h (by rw [List.append_nil, Lib.size_eq, mkB_data]; exact Nat.le_refl _) (by simpa using hn)
  rw [List.append_nil] at h2
  rw [h2, parse_nil, List.nil_append]
/-- A line that is none is told at its place. -/
theorem parse_spoilt {es : List EV} (h : es.all okEV = true) (hn : es.length < 4000) {odd : List UInt8} (ho : readE (mkB odd) = none) (h10 : 10 ∉ odd) (t : List UInt8) (hs : (textE es ++ (odd ++ 10 :: t)).length ≤ 1048576) :
    parseE (mkB (textE es ++ (odd ++ 10 :: t))) = ([], (es.length : Int) + 1, 4) := by
  unfold parseE
  rw [if_neg (by rw [Lib.size_eq, mkB_data]; omega), mkB_data]
  obtain ⟨k', h1, h2⟩ := parse_app es (odd ++ 10 :: t) [] (mkB (textE es ++ (odd ++ 10 :: t))).size h (by rw [Lib.size_eq, mkB_data]; exact Nat.le_refl _) (by simp only [List.length_nil]; omega)
  rw [List.length_append, List.length_cons] at h1
  obtain ⟨k', rfl⟩ : ∃ j, k' = j + 1 := ⟨k' - 1, by omega⟩
  rw [h2, List.nil_append, parseL, if_neg (by simp), if_neg (by omega), cut_at odd t h10]
  simp only [Bool.true_eq_false, if_false, ho]
/-- One line of an event. -/
theorem count_text : ∀ (es : List EV), es.all okEV = true → (textE es).count 10 = es.length
  | [], _ => rfl
  | e :: es, h => by
    rw [List.all_cons, Bool.and_eq_true] at h
    obtain ⟨r, h1, h2, h3⟩ := line_form h.1
    rw [textE_cons, h1, List.count_append, List.count_append, List.count_eq_zero.2 h2, count_text es h.2]
    simp
    omega
/-! ### Rows -/
structure RE where
  k : Int
  s : Int
  n : Int
def reC (r : RE) : Array Value := #[.int .i64 r.k, .int .i64 r.s, .int .i64 r.n]
def evRow (r : RE) : EV :=
  if r.k % 6 = 0 then ⟨1, r.s % 3, r.n % 9007199254740992, 1 + r.n % 65535⟩
  else if r.k % 6 = 1 then ⟨2, r.s % 3, r.n % 9007199254740992, 1 + (r.n.tdiv 7) % 65535⟩
  else if r.k % 6 = 2 then ⟨3, r.s % 3, 0, 1 + r.n % 2⟩
  else if r.k % 6 = 3 then ⟨4, 0, 0, 2400 + r.n % 1099511625377⟩
  else if r.k % 6 = 4 then ⟨5, r.s % 3, 0, 0⟩
  else ⟨6, 0, 0, 1 + r.n % 999⟩
def madeE (l : List RE) : List EV := l.map evRow
theorem okEV_made (r : RE) : okEV (evRow r) = true := by
  unfold evRow
  split
  · simp [okEV, kindOf, fieldsF, fSp, fNum, fSize, inF, EV.get, EV.set, strike, zeroEV]; omega
  · split
    · simp [okEV, kindOf, fieldsF, fSp, fNum, fSize, inF, EV.get, EV.set, strike, zeroEV]
      generalize r.n.tdiv 7 = m
      omega
    · split
      · simp [okEV, kindOf, fieldsF, fSp, fNum, fSize, inF, EV.get, EV.set, strike, zeroEV]; omega
      · split
        · simp [okEV, kindOf, fieldsF, fSp, fNum, fSize, inF, EV.get, EV.set, strike, zeroEV]; omega
        · split
          · simp [okEV, kindOf, fieldsF, fSp, fNum, fSize, inF, EV.get, EV.set, strike, zeroEV]; omega
          · simp [okEV, kindOf, fieldsF, fSp, fNum, fSize, inF, EV.get, EV.set, strike, zeroEV]; omega
theorem made_all (l : List RE) : (madeE l).all okEV = true := by
  unfold madeE
  rw [List.all_eq_true]
  intro e he
  obtain ⟨r, _, rfl⟩ := List.mem_map.1 he
  exact okEV_made r
theorem made_small (l : List RE) : ∀ e ∈ madeE l, e.small := fun e he => okEV_small (List.all_eq_true.1 (made_all l) e he)
end Go.Proofs.YtbpeienllhbffaaDoor
