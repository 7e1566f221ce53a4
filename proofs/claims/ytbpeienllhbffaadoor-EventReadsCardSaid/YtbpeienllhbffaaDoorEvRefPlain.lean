/-
  The document's answer for layer 22: words, number, read, in plain Lean; it reads what the program reads.
-/
import Derived.Test.YtbpeienllhbffaaDoorEvMadePlain
namespace Go.Proofs.YtbpeienllhbffaaDoor
set_option linter.unusedSimpArgs false
set_option linter.unusedVariables false
open Go
/-- What stands between the blanks. -/
def splitR : List UInt8 → List UInt8 → List (List UInt8)
  | cur, [] => [cur]
  | cur, b :: l => if b = 32 then cur :: splitR [] l else splitR (cur ++ [b]) l
theorem splitR_word : ∀ (x cur r : List UInt8), 32 ∉ x → splitR cur (x ++ r) = splitR (cur ++ x) r
  | [], cur, r, _ => by simp
  | b :: x, cur, r, h => by
    have hb : b ≠ 32 := fun e => h (by simp [e])
    have hx : 32 ∉ x := fun e => h (List.mem_cons_of_mem _ e)
    rw [List.cons_append, splitR, if_neg hb, splitR_word x _ r hx, List.append_assoc, List.singleton_append]
theorem splitR_ne : ∀ (l cur : List UInt8), splitR cur l ≠ []
  | [], cur => by simp [splitR]
  | b :: l, cur => by
    rw [splitR]
    split
    · simp
    · exact splitR_ne l _
theorem splitR_len : ∀ (l cur : List UInt8), (splitR cur l).length ≤ l.length + 1
  | [], cur => by simp [splitR]
  | b :: l, cur => by
    rw [splitR]
    split
    · have := splitR_len l []
      simp only [List.length_cons]
      omega
    · have := splitR_len l (cur ++ [b])
      simp only [List.length_cons]
      omega
theorem splitR_size : ∀ (l cur : List UInt8), ∀ x ∈ splitR cur l, x.length ≤ cur.length + l.length
  | [], cur, x, h => by
    simp only [splitR, List.mem_singleton] at h
    subst h
    simp
  | b :: l, cur, x, h => by
    rw [splitR] at h
    split at h
    · rcases List.mem_cons.1 h with rfl | h
      · omega
      · have := splitR_size l [] x h
        simp only [List.length_nil, List.length_cons] at this ⊢
        omega
    · have := splitR_size l _ x h
      simp only [List.length_append, List.length_cons, List.length_nil] at this ⊢
      omega
theorem splitR_glue : ∀ (ws : List (List UInt8)), (∀ x ∈ ws, 32 ∉ x) → ws ≠ [] → splitR [] (glue (ws.map mkB)) = ws
  | [], _, h => absurd rfl h
  | [x], h, _ => by
    have hx := h x (by simp)
    have := splitR_word x [] [] hx
    rw [List.append_nil] at this
    show splitR [] x = [x]
    rw [this]
    simp [splitR]
  | x :: y :: r, h, _ => by
    have hx := h x (by simp)
    have ih := splitR_glue (y :: r) (fun z hz => h z (List.mem_cons_of_mem _ hz)) (by simp)
    have hg : glue ((x :: y :: r).map mkB) = x ++ 32 :: glue ((y :: r).map mkB) := rfl
    rw [hg, splitR_word x [] _ hx, splitR, if_pos rfl, ih]
    rfl
def goN : Int → List UInt8 → Int
  | n, [] => n
  | n, b :: l => if b.toNat < 48 ∨ 57 < b.toNat then -1 else goN (10 * n + ((b.toNat : Int) - 48)) l
def numR (l : List UInt8) : Int := if l.length = 0 ∨ 16 < l.length then -1 else goN 0 l
theorem goN_dec (u : Nat) : ∀ r, goN 0 (Lib.decDigits u ++ r) = goN u r := by
  induction u using Nat.strongRecOn with
  | _ u ih =>
    intro r
    by_cases h : u < 10
    · rw [Lib.decDigits, dif_pos h]
      have e : (UInt8.ofNat (48 + u)).toNat = 48 + u := by rw [UInt8.toNat_ofNat']; omega
      rw [List.singleton_append, goN, e, if_neg (by omega)]
      congr 1
      omega
    · rw [Lib.decDigits, dif_neg h, List.append_assoc, ih (u / 10) (by omega)]
      have e : (UInt8.ofNat (48 + u % 10)).toNat = 48 + u % 10 := by rw [UInt8.toNat_ofNat']; omega
      rw [List.singleton_append, goN, e, if_neg (by omega)]
      congr 1
      omega
theorem numR_itoa {n : Int} (h0 : 0 ≤ n) (h1 : n < 10000000000000000) : numR (Lib.itoa n) = n := by
  have hl : (Lib.itoa n).length ≤ 16 := by
    rw [itoa_pos h0, Lib.decDigits_length]
    exact nDigits_le 15 n.toNat (by omega)
  have hne : (Lib.itoa n).length ≠ 0 := by
    rw [itoa_pos h0]
    intro h
    exact dec_ne _ (List.eq_nil_of_length_eq_zero h)
  unfold numR
  rw [if_neg (by omega), itoa_pos h0]
  have := goN_dec n.toNat []
  rw [List.append_nil] at this
  rw [this]
  simp only [goN]
  omega
def readV (ws : List (List UInt8)) (a b c : Int) : EV :=
  if ws.getD 0 [] = [97, 99, 107, 101, 100] then ⟨1, a, b, c⟩
  else if ws.getD 0 [] = [108, 111, 115, 116] then ⟨2, a, b, c⟩
  else if ws.getD 0 [] = [112, 114, 111, 98, 101] then ⟨3, a, 0, b⟩
  else if ws.getD 0 [] = [119, 105, 110, 100, 111, 119] then ⟨4, 0, 0, a⟩
  else if ws.getD 0 [] = [99, 111, 108, 108, 97, 112, 115, 101] then ⟨5, a, 0, 0⟩
  else ⟨6, 0, 0, a⟩
def readR (s : List UInt8) : EV := readV (splitR [] s) (numR ((splitR [] s).getD 1 [])) (numR ((splitR [] s).getD 2 [])) (numR ((splitR [] s).getD 3 []))
theorem readR_row {e : EV} (h : okEV e = true) {k : Nat} (hk : kindOf e.kind = some k) : readR (rowE e k) = e := by
  obtain ⟨k', hk', ⟨h1, h2⟩, h3, h4⟩ := okEV_cases h
  obtain rfl : k' = k := by rw [hk] at hk'; exact (Option.some.inj hk').symm
  have hw : ∀ x ∈ wordsL e k', 32 ∉ x := fun x hx => by
    unfold wordsL at hx
    rcases List.mem_cons.1 hx with rfl | hx
    · exact (word_no k' (by omega)).1
    · obtain ⟨f, hf, rfl⟩ := List.mem_map.1 hx
      exact itoa_no (h4 f hf).1 32 (by decide)
  have hs : splitR [] (rowE e k') = wordsL e k' := by rw [← glue_row]; exact splitR_glue _ hw (by simp [wordsL])
  unfold readR
  rw [hs]
  have hok := h
  unfold okEV at hok
  rw [hk] at hok
  simp only [Bool.and_eq_true, decide_eq_true_eq] at hok
  have hst := hok.2
  have hnum : ∀ f ∈ fieldsF k', numR (Lib.itoa (e.get f.j)) = e.get f.j := fun f hf => numR_itoa (h4 f hf).1 (h4 f hf).2
  clear hw h4 hok h hk hk' hs
  obtain ⟨e0, e1, e2, e3⟩ := e
  simp only at h3
  subst h3
  have : k' = 1 ∨ k' = 2 ∨ k' = 3 ∨ k' = 4 ∨ k' = 5 ∨ k' = 6 := by omega
  rcases this with rfl | rfl | rfl | rfl | rfl | rfl <;>
    simp [fieldsF, fSp, fNum, fSize, EV.get] at hnum <;>
    simp [fieldsF, fSp, fNum, fSize, EV.get, EV.set, strike, zeroEV] at hst <;>
    simp [readV, wordsL, wordF, fieldsF, fSp, fNum, fSize, EV.get, hnum, hst]
theorem readE_R (r : List UInt8) : readE (mkB r) = if okEV (readR r) = true ∧ lineE (readR r) = r ++ [10] then some (readR r) else none := by
  cases he : readE (mkB r) with
  | some e =>
    obtain ⟨h2, h1⟩ := read_back _ _ he
    obtain ⟨k, hk, _⟩ := okEV_cases h2
    have h3 : rowE e k ++ [10] = r ++ [10] := by rw [← line_row hk]; exact h1
    have h4 : r = rowE e k := by have := List.append_cancel_right h3; exact this.symm
    have h5 : readR r = e := by rw [h4]; exact readR_row h2 hk
    rw [h5, if_pos ⟨h2, h1⟩]
  | none =>
    by_cases hc : okEV (readR r) = true ∧ lineE (readR r) = r ++ [10]
    · obtain ⟨k, hk, _⟩ := okEV_cases hc.1
      have h3 : rowE (readR r) k ++ [10] = r ++ [10] := by rw [← line_row hk]; exact hc.2
      have h4 : rowE (readR r) k = r := List.append_cancel_right h3
      have h5 := read_row hc.1 hk
      rw [h4, he] at h5
      cases h5
    · rw [if_neg hc]
end Go.Proofs.YtbpeienllhbffaaDoor
