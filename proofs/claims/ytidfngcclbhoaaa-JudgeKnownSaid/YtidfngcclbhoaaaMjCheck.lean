/-
 Confs; the document: Check: 4 texts in one (CfPlainB, CfParsePlain, CfLaws, JrCheck).
-/
import Derived.Test.YtidfngcclbhoaaaCfPlain
import Derived.Lib.ItoaLen
import Derived.Lib.TrimU
import Derived.Lib.SplitLaws
import Derived.Laws.RangeString
import Derived.Test.YtidfngcclbhoaaaJgLook
namespace Go.Proofs.Ytidfngcclbhoaaa
set_option linter.unusedSimpArgs false
set_option linter.unusedVariables false
open Go

theorem ba_app (a b : ByteArray) : (a ++ b).data.toList = a.data.toList ++ b.data.toList := by simp
theorem ba_size (a : ByteArray) : a.size = a.data.toList.length := Lib.size_eq a
def lineL (c : CF) (i : Nat) : List UInt8 := (nameB i).data.toList ++ [32] ++ Lib.itoa (valF c i) ++ [10]
def textL (c : CF) (n : Nat) : List UInt8 := (List.range n).flatMap (lineL c)
theorem textL_succ (c : CF) (n : Nat) : textL c (n + 1) = textL c n ++ lineL c n := by
 unfold textL
 rw [List.range_succ, List.flatMap_append]
 simp
/-- A setting whose numbers are int64. -/
def CF.small (c : CF) : Prop := ∀ i < 10, -9223372036854775808 ≤ valF c i ∧ valF c i ≤ 9223372036854775807
theorem name_len : ∀ i < 10, (nameB i).data.toList.length ≤ 8
 | 0, _ => by decide
 | 1, _ => by decide
 | 2, _ => by decide
 | 3, _ => by decide
 | 4, _ => by decide
 | 5, _ => by decide
 | 6, _ => by decide
 | 7, _ => by decide
 | 8, _ => by decide
 | 9, _ => by decide
 | n + 10, h => by omega
theorem lineL_len {c : CF} (hc : c.small) {i : Nat} (hi : i < 10) : (lineL c i).length ≤ 31 := by
 have h1 := name_len i hi
 have h2 := Lib.itoa_length_le (valF c i) (hc i hi).1 (hc i hi).2
 unfold lineL
 simp only [List.length_append, List.length_cons, List.length_nil]
 omega
theorem textL_len {c : CF} (hc : c.small) : ∀ n ≤ 10, (textL c n).length ≤ 31 * n
 | 0, _ => by simp [textL]
 | n + 1, h => by
  have h1 := textL_len hc n (by omega)
  have h2 := lineL_len hc (i := n) (by omega)
  rw [textL_succ, List.length_append]
  omega
theorem textL_ne (c : CF) : textL c 10 ≠ [] := by
 rw [textL_succ]
 unfold lineL
 simp
def numberB (s : ByteArray) : Option Int := match Lib.atoiAll s.data.toList with
 | .ok n => if 0 ≤ n ∧ s.size ≤ 16 ∧ Lib.itoa n = s.data.toList then some n else none
 | _ => none
theorem numberB_ok {s : ByteArray} {v : Int} (h : Lib.atoiAll s.data.toList = .ok v) : numberB s = if 0 ≤ v ∧ s.size ≤ 16 ∧ Lib.itoa v = s.data.toList then some v else none := by
 unfold numberB
 rw [h]
theorem ba_eq {a b : ByteArray} (h : a.data.toList = b.data.toList) : a = b := by
 obtain ⟨⟨x⟩⟩ := a
 obtain ⟨⟨y⟩⟩ := b
 simp at h
 rw [h]
def isBlank (x : Nat) : Bool := decide (x = 32)
def wordsB (s : ByteArray) : List ByteArray := Lib.goFieldsP isBlank s
/-- The place of a name; -1: there is none. -/
def placeN (s : ByteArray) (n : Nat) : Option Nat := (List.range n).find? fun i => decide (nameB i = s)
def placeI (s : ByteArray) : Int := match placeN s 10 with
 | some k => (k : Int)
 | none => -1
theorem placeN_succ (s : ByteArray) (n : Nat) : placeN s (n + 1) = (placeN s n).or (if nameB n = s then some n else none) := by
 unfold placeN
 rw [List.range_succ, List.find?_append]
 congr 1
 by_cases h : nameB n = s
 ·simp [List.find?, h]
 ·simp [List.find?, h]
theorem placeN_lt {s : ByteArray} {n k : Nat} (h : placeN s n = some k) : k < n ∧ nameB k = s := by
 unfold placeN at h
 have h1 := List.find?_some h
 have h2 := List.mem_of_find?_eq_some h
 exact ⟨List.mem_range.1 h2, by simpa using h1⟩
theorem placeN_mono {s : ByteArray} {n m k : Nat} (h : placeN s n = some k) (hm : n ≤ m) : placeN s m = some k := by
 induction m with
 | zero =>
  have : n = 0 := by omega
  subst this
  exact h
 | succ m ih =>
  by_cases hn : n = m + 1
  ·rw [← hn]
   exact h
  ·rw [placeN_succ, ih (by omega)]
   rfl
end Go.Proofs.Ytidfngcclbhoaaa

namespace Go.Proofs.Ytidfngcclbhoaaa
set_option linter.unusedSimpArgs false
set_option linter.unusedVariables false
open Go

/-- The spans of words lie in the text, and are not empty. -/
theorem spans_ok (p : Nat → Bool) (s : ByteArray) : ∀ (f pos : Nat) (st : Option Nat) (acc : List (Nat × Nat)), (∀ x ∈ acc, x.1 < x.2 ∧ x.2 ≤ s.size) → (∀ a, st = some a → a < pos ∧ a < s.size) →
  (∀ x ∈ (Lib.spansFromP p s f pos st acc).1, x.1 < x.2 ∧ x.2 ≤ s.size) ∧ ∀ a, (Lib.spansFromP p s f pos st acc).2 = some a → a < s.size
 | 0, pos, st, acc, h1, h2 => ⟨h1, fun a ha => (h2 a ha).2⟩
 | f + 1, pos, st, acc, h1, h2 => by
  have hw := Lib.width_pos s pos
  unfold Lib.spansFromP
  by_cases hp : pos < s.size
  ·rw [if_pos hp]
   by_cases hb : p (Utf8.decode s pos).1 = true
   ·rw [if_pos hb]
    cases st with
    | none => exact spans_ok p s f _ none acc h1 (fun a ha => by cases ha)
    | some a =>
     refine spans_ok p s f _ none _ (fun x hx => ?_) (fun a ha => by cases ha)
     rcases List.mem_append.1 hx with hx | hx
     ·exact h1 x hx
     ·simp at hx
      subst hx
      have := (h2 a rfl).1
      exact ⟨this, by show pos ≤ s.size; omega⟩
   ·rw [if_neg hb]
    cases st with
    | none => exact spans_ok p s f _ (some pos) acc h1 (fun a ha => by cases ha; omega)
    | some a => exact spans_ok p s f _ (some a) acc h1 (fun b hb => by cases hb; have := h2 a rfl; omega)
  ·rw [if_neg hp]
   exact ⟨h1, fun a ha => (h2 a ha).2⟩
theorem extract_size (s : ByteArray) (a b : Nat) (hb : b ≤ s.size) : (s.extract a b).size = b - a := by
 rw [ByteArray.size_extract]
 omega
theorem words_ok (l w : ByteArray) (h : w ∈ wordsB l) : 0 < w.size ∧ w.size ≤ l.size := by
 unfold wordsB Lib.goFieldsP Lib.spansOfP Lib.closeSpans at h
 obtain ⟨x, hx, rfl⟩ := List.mem_map.1 h
 obtain ⟨h1, h2⟩ := spans_ok isBlank l l.size 0 none [] (by simp) (fun a ha => by cases ha)
 have hok : x.1 < x.2 ∧ x.2 ≤ l.size := by
  cases hst : (Lib.spansFromP isBlank l l.size 0 none []).2 with
  | none =>
   rw [hst] at hx
   exact h1 x hx
  | some a =>
   rw [hst] at hx
   rcases List.mem_append.1 hx with hx | hx
   ·exact h1 x hx
   ·simp at hx
    subst hx
    exact ⟨h2 a hst, Nat.le_refl _⟩
 rw [extract_size _ _ _ hok.2]
 omega
def nlB : ByteArray := ⟨#[10]⟩
def linesB (s : ByteArray) : List ByteArray := Lib.splitB nlB 0 (Lib.countB s nlB) s
theorem splitB_size (sep : ByteArray) : ∀ (k : Nat) (s x : ByteArray), x ∈ Lib.splitB sep 0 k s → x.size ≤ s.size
 | 0, s, x, h => by
  simp [Lib.splitB] at h
  rw [h]
  exact Nat.le_refl _
 | k + 1, s, x, h => by
  unfold Lib.splitB at h
  split at h
  ·simp at h
   rw [h]
   exact Nat.le_refl _
  ·rcases List.mem_cons.1 h with h | h
   ·rw [h, ByteArray.size_extract]
    omega
   ·have := splitB_size sep k _ x h
    rw [ByteArray.size_extract] at this
    omega
theorem lines_size {s x : ByteArray} (h : x ∈ linesB s) : x.size ≤ s.size := splitB_size _ _ _ _ h
theorem lines_length (s : ByteArray) : (linesB s).length = Lib.countB s nlB + 1 := Lib.splitB_all nlB (by decide) 0 _ s rfl
structure PSt where
 vs : List Int
 had : List ByteArray
def emptyB : ByteArray := ⟨#[]⟩
def wordAt (l : ByteArray) (i : Nat) : ByteArray := (wordsB l).getD i emptyB
def memB (w : ByteArray) (had : List ByteArray) : Bool := had.any fun x => decide (x = w)
theorem memB_iff {w : ByteArray} {had : List ByteArray} : memB w had = true ↔ w ∈ had := by
 unfold memB
 rw [List.any_eq_true]
 constructor
 ·rintro ⟨x, hx, h⟩
  have := of_decide_eq_true h
  subst this
  exact hx
 ·intro h
  exact ⟨w, h, decide_eq_true rfl⟩
/-- What a line does. -/
def stepC (st : PSt) (l : ByteArray) : Option PSt :=
 if (wordsB l).length = 0 ∨ (wordAt l 0).data.toList.head? = some 35 then some st else
 match placeN (wordAt l 0) 10 with
 | none => none
 | some k => if memB (wordAt l 0) st.had = true ∨ (wordsB l).length ≠ 2 then none else
  match numberB (wordAt l 1) with
  | none => none
  | some n => if k = 0 ∧ 1 < n then none else some ⟨st.vs.set k n, st.had ++ [wordAt l 0]⟩
/-- What lines do: the first that is none, or what is known behind them. -/
def runC : Nat → PSt → List ByteArray → Nat ⊕ PSt
 | _, st, [] => .inr st
 | i, st, l :: ls => match stepC st l with
  | none => .inl i
  | some st' => runC (i + 1) st' ls
def pst0 : PSt := ⟨(defaultCF false).vals, []⟩
/-- Parse: the setting, the line, the error. -/
def parseC (s : ByteArray) : CF × Int × Int :=
 if 65536 < s.size then (zeroCF, 0, 5) else
 match runC 0 pst0 (linesB s) with
 | .inl i => (zeroCF, (i : Int) + 1, 4)
 | .inr st => if errC (ofVals st.vs) = 0 then (ofVals st.vs, 0, 0) else (zeroCF, 0, errC (ofVals st.vs))
theorem runC_cons {i : Nat} {st st' : PSt} {l : ByteArray} {ls : List ByteArray} (h : stepC st l = some st') : runC i st (l :: ls) = runC (i + 1) st' ls := by
 rw [runC, h]
theorem runC_bad {i : Nat} {st : PSt} {l : ByteArray} {ls : List ByteArray} (h : stepC st l = none) : runC i st (l :: ls) = .inl i := by
 rw [runC, h]
end Go.Proofs.Ytidfngcclbhoaaa

namespace Go.Proofs.Ytidfngcclbhoaaa
set_option linter.unusedSimpArgs false
set_option linter.unusedVariables false
open Go

/-- The words of a line of ASCII bytes. -/
def wl : List UInt8 → List UInt8 → List (List UInt8)
 | cur, [] => if cur = [] then [] else [cur]
 | cur, b :: l => if b = 32 then (if cur = [] then wl [] l else cur :: wl [] l) else wl (cur ++ [b]) l
theorem wl_spans (s : ByteArray) (ha : ∀ b ∈ s.data.toList, b.toNat < 128) : ∀ (f pos : Nat) (st : Option Nat) (acc : List (Nat × Nat)), s.size ≤ pos + f → pos ≤ s.size → (∀ a, st = some a → a < pos) →
  acc.map (fun p => Lib.pieceU s.data.toList p.1 p.2) ++ wl (Lib.openPiece s.data.toList st pos) (s.data.toList.drop pos) = (Lib.closeSpans s (Lib.spansFromP isBlank s f pos st acc)).map (fun p => Lib.pieceU s.data.toList p.1 p.2)
 | f, pos, st, acc, h, hp, hst => by
  by_cases hlt : pos < s.size
  ·obtain ⟨f, rfl⟩ : ∃ g, f = g + 1 := ⟨f - 1, by omega⟩
   have hl : pos < s.data.toList.length := by rw [← Lib.size_eq]; exact hlt
   have hg : s[pos]'hlt = s.data.toList[pos]'hl := rfl
   have hb : (s[pos]'hlt).toNat < 128 := ha _ (by rw [hg]; exact List.getElem_mem hl)
   have hdec := decode_ascii s pos hlt hb
   have hdr : s.data.toList.drop pos = s[pos]'hlt :: s.data.toList.drop (pos + 1) := by rw [hg]; exact List.drop_eq_getElem_cons hl
   have hgrow : ∀ a, a ≤ pos → Lib.pieceU s.data.toList a pos ++ [s[pos]'hlt] = Lib.pieceU s.data.toList a (pos + 1) := fun a hle => by
    have := Lib.pieceU_grow s.data.toList a pos 1 hle
    rw [hdr] at this
    exact this
   rw [hdr]
   simp only [wl, Lib.spansFromP, if_pos hlt, hdec]
   by_cases hsp : s[pos]'hlt = 32
   ·have hbk : isBlank (s[pos]'hlt).toNat = true := by rw [hsp]; rfl
    rw [if_pos hsp]
    simp only [hbk, if_true]
    cases st with
    | none =>
     have ih := wl_spans s ha f (pos + 1) none acc (by omega) (by omega) (fun a h => by cases h)
     simpa [Lib.openPiece] using ih
    | some a =>
     have hpn := Lib.pieceU_ne s.data.toList a pos (hst a rfl) (by omega)
     have ih := wl_spans s ha f (pos + 1) none (acc ++ [(a, pos)]) (by omega) (by omega) (fun a h => by cases h)
     simpa [Lib.openPiece, hpn] using ih
   ·have hbk : isBlank (s[pos]'hlt).toNat = false := by
     unfold isBlank
     rw [decide_eq_false]
     intro e
     apply hsp
     exact UInt8.toNat_inj.1 e
    rw [if_neg hsp]
    simp only [hbk, Bool.false_eq_true, if_false]
    cases st with
    | none =>
     have ih := wl_spans s ha f (pos + 1) (some pos) acc (by omega) (by omega) (fun a h => by cases h; omega)
     have e := hgrow pos (Nat.le_refl _)
     have e0 : Lib.pieceU s.data.toList pos pos = [] := by unfold Lib.pieceU; simp
     rw [e0] at e
     simp only [Lib.openPiece] at ih ⊢
     rw [e]
     exact ih
    | some a =>
     have ih := wl_spans s ha f (pos + 1) (some a) acc (by omega) (by omega) (fun b h => by cases h; have := hst a rfl; omega)
     simp only [Lib.openPiece] at ih ⊢
     rw [hgrow a (Nat.le_of_lt (hst a rfl))]
     exact ih
  ·obtain rfl : pos = s.size := by omega
   have hd : s.data.toList.drop s.size = [] := List.drop_eq_nil_of_le (by rw [← Lib.size_eq]; exact Nat.le_refl _)
   rw [hd, Lib.spansFromP_end isBlank s _ _ _ _ hlt]
   cases st with
   | none => simp [Lib.closeSpans, Lib.openPiece, wl]
   | some a =>
    have := Lib.pieceU_ne s.data.toList a s.size (hst a rfl) (by rw [← Lib.size_eq]; exact Nat.le_refl _)
    simp [Lib.closeSpans, Lib.openPiece, this, wl]
def mkB (l : List UInt8) : ByteArray := ⟨l.toArray⟩
theorem mkB_data (l : List UInt8) : (mkB l).data.toList = l := rfl
theorem mkB_eta (s : ByteArray) : mkB s.data.toList = s := ba_eq rfl
theorem map_mkB : ∀ {done : List ByteArray} {fl : List (List UInt8)}, done.map (·.data.toList) = fl → done = fl.map mkB
 | [], _, h => by rw [← h]; rfl
 | x :: t, _, h => by
  rw [← h, List.map_cons, List.map_cons, mkB_eta, ← map_mkB rfl]
/-- Bytes below 128. -/
def Asc (l : List UInt8) : Prop := ∀ b ∈ l, b.toNat < 128
theorem words_wl (l : List UInt8) (ha : Asc l) : wordsB (mkB l) = (wl [] l).map mkB := by
 apply map_mkB
 have h := wl_spans (mkB l) ha (mkB l).size 0 none [] (by omega) (by omega) (fun a h => by cases h)
 simp only [List.map_nil, List.nil_append, Lib.openPiece, List.drop_zero] at h
 rw [mkB_data] at h
 rw [h]
 unfold wordsB Lib.goFieldsP Lib.spansOfP
 rw [List.map_map]
 apply List.map_congr_left
 intro x _
 show ((mkB l).extract x.1 x.2).data.toList = _
 rw [Lib.extract_data]
 rfl
theorem wl_word : ∀ (x cur r : List UInt8), 32 ∉ x → wl cur (x ++ r) = wl (cur ++ x) r
 | [], cur, r, _ => by simp
 | b :: x, cur, r, h => by
  have hb : b ≠ 32 := fun e => h (by simp [e])
  have hx : 32 ∉ x := fun e => h (List.mem_cons_of_mem _ e)
  rw [List.cons_append, wl, if_neg hb, wl_word x _ r hx, List.append_assoc, List.singleton_append]
theorem wl_blank (r : List UInt8) : wl [] (32 :: r) = wl [] r := by simp [wl]
theorem wl_close {cur : List UInt8} (h : cur ≠ []) (r : List UInt8) : wl cur (32 :: r) = cur :: wl [] r := by simp [wl, h]
theorem wl_end {cur : List UInt8} (h : cur ≠ []) : wl cur [] = [cur] := by simp [wl, h]
theorem wl_hash (r : List UInt8) : ∀ cur : List UInt8, ∃ t q, wl (35 :: cur) r = (35 :: t) :: q := by
 induction r with
 | nil => exact fun cur => ⟨cur, [], by simp [wl]⟩
 | cons b r ih =>
  intro cur
  by_cases hb : b = 32
  ·exact ⟨cur, wl [] r, by simp [wl, hb]⟩
  ·rw [wl, if_neg hb, List.cons_append]
   exact ih _
/-! ### Numbers -/
theorem parse_dec (u : Nat) : ∀ r, u < 1000000000000000000 → Lib.parseUint10 0 (Lib.decDigits u ++ r) = Lib.parseUint10 u r := by
 induction u using Nat.strongRecOn with
 | _ u ih =>
  intro r hu
  by_cases h : u < 10
  ·rw [Lib.decDigits, dif_pos h]
   have e : (UInt8.ofNat (48 + u)).toNat = 48 + u := by rw [UInt8.toNat_ofNat']; omega
   rw [List.singleton_append, Lib.parseUint10, e, if_pos (by omega), if_neg (by omega), if_neg (by omega)]
   congr 1
   omega
  ·rw [Lib.decDigits, dif_neg h, List.append_assoc, ih (u / 10) (by omega) _ (by omega)]
   have e : (UInt8.ofNat (48 + u % 10)).toNat = 48 + u % 10 := by rw [UInt8.toNat_ofNat']; omega
   rw [List.singleton_append, Lib.parseUint10, e, if_pos (by omega), if_neg (by omega), if_neg (by omega)]
   congr 1
   omega
theorem dec_digit (u : Nat) : ∀ b ∈ Lib.decDigits u, 48 ≤ b.toNat ∧ b.toNat ≤ 57 := by
 induction u using Nat.strongRecOn with
 | _ u ih =>
  intro b hb
  by_cases h : u < 10
  ·rw [Lib.decDigits, dif_pos h] at hb
   rw [List.mem_singleton.1 hb, UInt8.toNat_ofNat']
   omega
  ·rw [Lib.decDigits, dif_neg h] at hb
   rcases List.mem_append.1 hb with hb | hb
   ·exact ih (u / 10) (by omega) b hb
   ·rw [List.mem_singleton.1 hb, UInt8.toNat_ofNat']
    omega
theorem dec_ne (u : Nat) : Lib.decDigits u ≠ [] := by
 intro h
 have h1 := Lib.decDigits_length u
 have h2 := Lib.nDigits_pos u
 rw [h] at h1
 simp at h1
 omega
theorem nDigits_le : ∀ (k u : Nat), u < 10 ^ (k + 1) → Lib.nDigits u ≤ k + 1
 | 0, u, h => by rw [Lib.nDigits_small (by simpa using h)]; exact Nat.le_refl _
 | k + 1, u, h => by
  by_cases h1 : u < 10
  ·rw [Lib.nDigits_small h1]
   omega
  ·rw [Lib.nDigits_big h1]
   have := nDigits_le k (u / 10) (by rw [Nat.pow_succ] at h; omega)
   omega
theorem itoa_pos {n : Int} (h : 0 ≤ n) : Lib.itoa n = Lib.decDigits n.toNat := by unfold Lib.itoa; rw [if_neg (by omega)]
theorem atoi_itoa {n : Int} (h0 : 0 ≤ n) (h1 : n < 1000000000000000000) : Lib.atoiAll (Lib.itoa n) = .ok n := by
 rw [itoa_pos h0]
 have hne := dec_ne n.toNat
 have hdg := dec_digit n.toNat
 have hp := parse_dec n.toNat [] (by omega)
 rw [List.append_nil, show Lib.parseUint10 n.toNat [] = .ok n.toNat from rfl] at hp
 cases hl : Lib.decDigits n.toNat with
 | nil => exact absurd hl hne
 | cons c r =>
  rw [hl] at hp hdg
  have hc := hdg c (by simp)
  have hm : Lib.parseMag (c :: r) = .ok n.toNat := by unfold Lib.parseMag; rw [if_neg (by simp), hp]
  unfold Lib.atoiAll
  simp only []
  rw [if_neg (by omega), hm]
  simp only []
  rw [if_neg (by omega), if_neg (by omega), if_neg (by omega)]
  congr 1
  omega
theorem number_itoa {n : Int} (h0 : 0 ≤ n) (h1 : n < 10000000000000000) : numberB (mkB (Lib.itoa n)) = some n := by
 have hz : (mkB (Lib.itoa n)).size ≤ 16 := by
  rw [Lib.size_eq, mkB_data, itoa_pos h0, Lib.decDigits_length]
  exact nDigits_le 15 n.toNat (by omega)
 rw [numberB_ok (s := mkB (Lib.itoa n)) (v := n) (by rw [mkB_data]; exact atoi_itoa h0 (by omega)), if_pos ⟨h0, hz, rfl⟩]
/-! ### Steps -/
def nameL (i : Nat) : List UInt8 := (nameB i).data.toList
theorem name_word : ∀ i < 10, nameL i ≠ [] ∧ 32 ∉ nameL i ∧ 10 ∉ nameL i ∧ (nameL i).head? ≠ some 35 ∧ (nameL i).all (fun b => decide (b.toNat < 128)) = true := by decide +kernel
theorem place_name : ∀ i < 10, placeN (nameB i) 10 = some i := by decide +kernel
theorem name_inj : ∀ i < 10, ∀ j < 10, nameB i = nameB j → i = j := by decide +kernel
theorem name_asc {i : Nat} (hi : i < 10) : Asc (nameL i) := fun b hb => by
 have h := (name_word i hi).2.2.2.2
 rw [List.all_eq_true] at h
 simpa using h b hb
theorem dec_asc (u : Nat) : Asc (Lib.decDigits u) := fun b hb => by have := dec_digit u b hb; omega
theorem dec_no (u : Nat) (c : UInt8) (hc : c.toNat < 48) : c ∉ Lib.decDigits u := fun h => by have := dec_digit u c h; omega
/-- A line without words, or whose first word begins with '#'. -/
def Void (x : List UInt8) : Prop := wl [] x = [] ∨ ∃ t q, wl [] x = (35 :: t) :: q
theorem step_void {x : List UInt8} (ha : Asc x) (hv : Void x) (st : PSt) : stepC st (mkB x) = some st := by
 unfold stepC wordAt
 rw [words_wl x ha]
 rcases hv with h | ⟨t, q, h⟩
 ·rw [h, if_pos (.inl rfl)]
 ·rw [h, if_pos (.inr rfl)]
theorem step_row {x : List UInt8} (ha : Asc x) {i : Nat} {n : Int} (hi : i < 10) (h0 : 0 ≤ n) (h1 : n < 10000000000000000) (h2 : i = 0 → n ≤ 1) (hx : wl [] x = [nameL i, Lib.itoa n]) (st : PSt) (hh : nameB i ∉ st.had) :
  stepC st (mkB x) = some ⟨st.vs.set i n, st.had ++ [nameB i]⟩ := by
 have hw0 : wordAt (mkB x) 0 = nameB i := by unfold wordAt; rw [words_wl x ha, hx]; exact mkB_eta _
 have hw1 : wordAt (mkB x) 1 = mkB (Lib.itoa n) := by unfold wordAt; rw [words_wl x ha, hx]; rfl
 have hl : (wordsB (mkB x)).length = 2 := by rw [words_wl x ha, hx]; rfl
 unfold stepC
 rw [hw0, hw1, hl, if_neg (fun h => h.elim (fun h => by omega) (fun h => (name_word i hi).2.2.2.1 h)), place_name i hi]
 simp only []
 rw [if_neg (fun h => h.elim (fun h => hh (memB_iff.1 h)) (fun h => h rfl)), number_itoa h0 h1]
 simp only []
 rw [if_neg (fun h => by have := h2 h.1; omega)]
/-- Lines of which each is void, or a row: the rows. -/
inductive LinesRead : List (List UInt8) → List (Nat × Int) → Prop
 | nil : LinesRead [] []
 | void {x ls ps} : Asc x → Void x → LinesRead ls ps → LinesRead (x :: ls) ps
 | row {x ls ps i n} : Asc x → i < 10 → 0 ≤ n → n < 10000000000000000 → (i = 0 → n ≤ 1) → wl [] x = [nameL i, Lib.itoa n] → i ∉ ps.map (·.1) → LinesRead ls ps → LinesRead (x :: ls) ((i, n) :: ps)
theorem LinesRead.app {ls ls' : List (List UInt8)} {ps ps' : List (Nat × Int)} (h : LinesRead ls ps) (h' : LinesRead ls' ps') (hd : ∀ i, i ∈ ps.map (·.1) → i ∉ ps'.map (·.1)) : LinesRead (ls ++ ls') (ps ++ ps') := by
 induction h with
 | nil => exact h'
 | void ha hv _ ih => exact .void ha hv (ih hd)
 | row ha hi h0 h1 h2 hx hn _ ih =>
  refine .row ha hi h0 h1 h2 hx ?_ (ih fun i hi => hd i (by simp; exact .inr (by simpa using hi)))
  show _ ∉ List.map _ (_ ++ ps')
  rw [List.map_append, List.mem_append]
  rintro (h | h)
  ·exact hn h
  ·exact hd _ (by simp) h
def setAll : List Int → List (Nat × Int) → List Int
 | vs, [] => vs
 | vs, p :: ps => setAll (vs.set p.1 p.2) ps
theorem LinesRead.run {ls : List (List UInt8)} {ps : List (Nat × Int)} (h : LinesRead ls ps) : ∀ (k : Nat) (st : PSt), (∀ i < 10, i ∈ ps.map (·.1) → nameB i ∉ st.had) → ∃ had, runC k st (ls.map mkB) = .inr ⟨setAll st.vs ps, had⟩ := by
 induction h with
 | nil => exact fun k st _ => ⟨st.had, rfl⟩
 | void ha hv _ ih =>
  intro k st hh
  obtain ⟨had, h⟩ := ih (k + 1) st hh
  exact ⟨had, by rw [List.map_cons, runC_cons (step_void ha hv st), h]⟩
 | @row x ls ps i n ha hi h0 h1 h2 hx hn _ ih =>
  intro k st hh
  have hst := step_row ha hi h0 h1 h2 hx st (hh i hi (by simp))
  obtain ⟨had, h⟩ := ih (k + 1) ⟨st.vs.set i n, st.had ++ [nameB i]⟩ (fun j hj hm => by
   rw [List.mem_append]
   rintro (h | h)
   ·exact hh j hj (by simp; exact .inr (by simpa using hm)) h
   ·simp at h
    have := name_inj j hj i hi h
    subst this
    exact hn hm)
  exact ⟨had, by rw [List.map_cons, runC_cons hst, h]; rfl⟩
theorem setAll_length : ∀ (ps : List (Nat × Int)) (vs : List Int), (setAll vs ps).length = vs.length
 | [], vs => rfl
 | p :: ps, vs => by rw [setAll, setAll_length ps, List.length_set]
/-- What is set, if each row says what is so. -/
theorem setAll_get (f : Nat → Int) : ∀ (ps : List (Nat × Int)) (vs : List Int), (∀ p ∈ ps, p.2 = f p.1) → ∀ j < vs.length, (setAll vs ps).getD j 0 = if j ∈ ps.map (·.1) then f j else vs.getD j 0
 | [], vs, _, j, _ => by simp [setAll]
 | p :: ps, vs, h, j, hj => by
  rw [setAll, setAll_get f ps _ (fun q hq => h q (List.mem_cons_of_mem _ hq)) j (by rw [List.length_set]; exact hj)]
  by_cases h1 : j ∈ ps.map (·.1)
  ·rw [if_pos h1, if_pos (by simp; exact .inr (by simpa using h1))]
  ·rw [if_neg h1]
   by_cases h2 : j = p.1
   ·subst h2
    rw [if_pos (by simp), List.getD_eq_getElem?_getD, List.getElem?_set_self hj]
    exact h p (by simp)
   ·rw [if_neg (by simp at h1 ⊢; exact ⟨h2, h1⟩), List.getD_eq_getElem?_getD, List.getElem?_set_ne (fun e => h2 e.symm), ← List.getD_eq_getElem?_getD]
theorem ext_getD {a b : List Int} (hl : a.length = b.length) (h : ∀ j < a.length, a.getD j 0 = b.getD j 0) : a = b := by
 apply List.ext_getElem hl
 intro j h1 h2
 have := h j h1
 rw [List.getD_eq_getElem?_getD, List.getD_eq_getElem?_getD, List.getElem?_eq_getElem h1, List.getElem?_eq_getElem h2] at this
 exact this
/-! ### Lines -/
def linesL (l : List UInt8) : List (List UInt8) := Lib.splitK [10] 0 (Lib.count l [10]) l
theorem lines_list (l : List UInt8) : linesB (mkB l) = (linesL l).map mkB := map_mkB (Lib.splitB_data nlB 0 _ (mkB l))
theorem index_nl : ∀ (x r : List UInt8), 10 ∉ x → Lib.index (x ++ 10 :: r) [10] = (x.length : Int)
 | [], r, _ => by rw [List.nil_append, Lib.index]; simp [List.isPrefixOf]
 | b :: x, r, h => by
  have hb : b ≠ 10 := fun e => h (by simp [e])
  have ih := index_nl x r (fun e => h (List.mem_cons_of_mem _ e))
  have hp : ([10] : List UInt8).isPrefixOf (b :: (x ++ 10 :: r)) = false := by simp [List.isPrefixOf, Ne.symm hb]
  rw [List.cons_append, Lib.index, hp, ih]
  have hn : ¬ ((x.length : Int) == -1) = true := fun e => by have := beq_iff_eq.1 e; omega
  simp [hn]
theorem index_none : ∀ (x : List UInt8), 10 ∉ x → Lib.index x [10] = -1
 | [], _ => rfl
 | b :: x, h => by
  have hb : b ≠ 10 := fun e => h (by simp [e])
  have ih := index_none x (fun e => h (List.mem_cons_of_mem _ e))
  have hp : ([10] : List UInt8).isPrefixOf (b :: x) = false := by simp [List.isPrefixOf, Ne.symm hb]
  rw [Lib.index, hp, ih]
  rfl
theorem linesL_cons (x r : List UInt8) (h : 10 ∉ x) : linesL (x ++ 10 :: r) = x :: linesL r := by
 have hi := index_nl x r h
 have hd : (x ++ 10 :: r).drop (x.length + 1) = r := by
  rw [List.drop_append]
  simp
 unfold linesL
 rw [Lib.count_hit (by simp) hi]
 show Lib.splitK [10] 0 (1 + Lib.count ((x ++ 10 :: r).drop (x.length + 1)) [10]) (x ++ 10 :: r) = _
 rw [hd, Nat.add_comm, Lib.splitK, hi]
 have hn : ¬ ((x.length : Int) == -1) = true := fun e => by have := beq_iff_eq.1 e; omega
 rw [if_neg hn]
 have e : ((x.length : Int)).toNat = x.length := by omega
 rw [e]
 show (x ++ 10 :: r).take (x.length + 0) :: Lib.splitK [10] 0 (Lib.count r [10]) ((x ++ 10 :: r).drop (x.length + 1)) = _
 rw [hd]
 simp
theorem linesL_one (x : List UInt8) (h : 10 ∉ x) : linesL x = [x] := by
 unfold linesL
 rw [Lib.count_miss (index_none x h)]
 rfl
/-- Lines, each closed by a line feed. -/
def closed (ls : List (List UInt8)) : List UInt8 := ls.flatMap fun x => x ++ [10]
theorem linesL_closed : ∀ (ls : List (List UInt8)), (∀ x ∈ ls, 10 ∉ x) → linesL (closed ls) = ls ++ [[]]
 | [], _ => by rw [closed, List.flatMap_nil, linesL_one [] (by simp)]; rfl
 | x :: ls, h => by
  have e : closed (x :: ls) = x ++ 10 :: closed ls := by unfold closed; rw [List.flatMap_cons, List.append_assoc]; rfl
  rw [e, linesL_cons x _ (h x (by simp)), linesL_closed ls (fun y hy => h y (List.mem_cons_of_mem _ hy))]
  rfl
theorem closed_app (a b : List (List UInt8)) : closed (a ++ b) = closed a ++ closed b := by unfold closed; rw [List.flatMap_append]
theorem void_nil : Void [] := .inl (by simp [wl])
theorem parse_closed {ls : List (List UInt8)} {ps : List (Nat × Int)} (h : LinesRead ls ps) (hn : ∀ x ∈ ls, 10 ∉ x) (hs : (closed ls).length ≤ 65536) :
  parseC (mkB (closed ls)) = if errC (ofVals (setAll (defaultCF false).vals ps)) = 0 then (ofVals (setAll (defaultCF false).vals ps), 0, 0) else (zeroCF, 0, errC (ofVals (setAll (defaultCF false).vals ps))) := by
 have hr : LinesRead (ls ++ [[]]) ps := by
  have := h.app (.void (x := []) (fun b hb => by cases hb) void_nil .nil) (fun i _ => by simp)
  rwa [List.append_nil] at this
 obtain ⟨had, hr⟩ := hr.run 0 pst0 (fun i _ _ => by simp [pst0])
 unfold parseC
 have hz : ¬ 65536 < (mkB (closed ls)).size := by rw [Lib.size_eq, mkB_data]; omega
 rw [if_neg hz, lines_list, linesL_closed ls hn, hr]
 rfl
/-! ### A setting that may be -/
theorem ok_vals {c : CF} (h : okC c = true) : ∀ i < 10, 0 ≤ valF c i ∧ valF c i < 10000000000000000 ∧ (i = 0 → valF c i ≤ 1) := by
 unfold okC dOk at h
 simp only [Bool.and_eq_true, decide_eq_true_eq] at h
 obtain ⟨⟨hd1, hd2⟩, hr⟩ := h
 have hrow : ∀ i < 10, loF c i ≤ valF c i ∧ valF c i ≤ hiF c i := fun i hi => by
  have := rowsOk_row hr hi
  unfold rowOk at this
  simpa using this
 have h3 := hrow 3 (by omega)
 have e3 : valF c 3 = c.most := rfl
 simp only [loF, hiF, e3] at h3
 intro i hi
 have h := hrow i hi
 have : i = 0 ∨ i = 1 ∨ i = 2 ∨ i = 3 ∨ i = 4 ∨ i = 5 ∨ i = 6 ∨ i = 7 ∨ i = 8 ∨ i = 9 := by omega
 rcases this with rfl | rfl | rfl | rfl | rfl | rfl | rfl | rfl | rfl | rfl <;> simp only [loF, hiF] at h <;> omega
theorem err_ok {c : CF} : errC c = 0 ↔ okC c = true := by
 unfold errC
 cases okC c <;> simp
theorem ok_small {c : CF} (h : okC c = true) : c.small := fun i hi => by have := ok_vals h i hi; omega
/-- A row's line. -/
def rowL (i : Nat) (n : Int) : List UInt8 := nameL i ++ 32 :: Lib.itoa n
theorem rowL_no {i : Nat} {n : Int} (hi : i < 10) (h0 : 0 ≤ n) : 10 ∉ rowL i n := by
 unfold rowL
 rw [itoa_pos h0, List.mem_append, List.mem_cons]
 rintro (h | h | h)
 ·exact (name_word i hi).2.2.1 h
 ·exact absurd h (by decide)
 ·exact dec_no _ 10 (by decide) h
theorem rowL_asc {i : Nat} {n : Int} (hi : i < 10) (h0 : 0 ≤ n) : Asc (rowL i n) := fun b hb => by
 unfold rowL at hb
 rw [itoa_pos h0, List.mem_append, List.mem_cons] at hb
 rcases hb with h | h | h
 ·exact name_asc hi b h
 ·subst h; decide
 ·exact dec_asc _ b h
theorem wl_row {i : Nat} {n : Int} (hi : i < 10) (h0 : 0 ≤ n) : wl [] (rowL i n) = [nameL i, Lib.itoa n] := by
 have hw := name_word i hi
 unfold rowL
 rw [wl_word _ _ _ hw.2.1, List.nil_append, wl_close hw.1, itoa_pos h0]
 have := wl_word (Lib.decDigits n.toNat) [] [] (dec_no _ 32 (by decide))
 rw [List.append_nil, List.nil_append] at this
 rw [this, wl_end (dec_ne _)]
theorem lineL_row (c : CF) (i : Nat) : lineL c i = rowL i (valF c i) ++ [10] := by unfold lineL rowL nameL; simp
theorem textL_closed (c : CF) (n : Nat) : textL c n = closed ((List.range n).map fun i => rowL i (valF c i)) := by
 unfold textL closed
 rw [List.flatMap_map]
 congr 1
 funext i
 exact lineL_row c i
theorem reads_rows (f : Nat → Int) : ∀ (is : List Nat), is.Nodup → (∀ i ∈ is, i < 10 ∧ 0 ≤ f i ∧ f i < 10000000000000000 ∧ (i = 0 → f i ≤ 1)) → LinesRead (is.map fun i => rowL i (f i)) (is.map fun i => (i, f i))
 | [], _, _ => .nil
 | i :: is, hn, h => by
  obtain ⟨hi, h0, h1, h2⟩ := h i (by simp)
  rw [List.nodup_cons] at hn
  refine .row (rowL_asc hi h0) hi h0 h1 h2 (wl_row hi h0) ?_ (reads_rows f is hn.2 (fun j hj => h j (List.mem_cons_of_mem _ hj)))
  rw [List.map_map]
  simpa using hn.1
theorem vals_eq {c : CF} : ∀ j, c.vals.getD j 0 = valF c j := fun j => rfl
theorem setAll_full {c : CF} {ps : List (Nat × Int)} (h : ∀ p ∈ ps, p.2 = valF c p.1) (hm : ∀ i < 10, i ∈ ps.map (·.1)) (vs : List Int) (hv : vs.length = 10) : setAll vs ps = c.vals := by
 apply ext_getD
 ·rw [setAll_length, hv]; rfl
 ·intro j hj
  rw [setAll_length] at hj
  rw [setAll_get (valF c) ps vs h j hj, if_pos (hm j (by omega))]
  rfl
theorem text_size {c : CF} (h : okC c = true) : (textL c 10).length ≤ 310 := textL_len (ok_small h) 10 (by omega)
/-- What is written is read as it was. -/
theorem parse_text {c : CF} (h : okC c = true) : parseC (mkB (textL c 10)) = (c, 0, 0) := by
 have hv := ok_vals h
 have hz := text_size h
 rw [textL_closed] at hz ⊢
 have hr := reads_rows (valF c) (List.range 10) List.nodup_range (fun i hi => ⟨List.mem_range.1 hi, hv i (List.mem_range.1 hi)⟩)
 have h1 : ∀ x ∈ (List.range 10).map fun i => rowL i (valF c i), 10 ∉ x := fun x hx => by
  obtain ⟨i, hi, rfl⟩ := List.mem_map.1 hx
  exact rowL_no (List.mem_range.1 hi) (hv i (List.mem_range.1 hi)).1
 have h2 : ∀ p ∈ (List.range 10).map fun i => (i, valF c i), p.2 = valF c p.1 := fun p hp => by
  obtain ⟨i, hi, rfl⟩ := List.mem_map.1 hp
  rfl
 have h3 : ∀ i < 10, i ∈ ((List.range 10).map fun i => (i, valF c i)).map (·.1) := fun i hi => by
  rw [List.map_map]
  simpa using hi
 rw [parse_closed hr h1 (by omega), setAll_full h2 h3 _ rfl, ofVals_vals, if_pos (err_ok.2 h)]
end Go.Proofs.Ytidfngcclbhoaaa

namespace Go.Proofs.Ytidfngcclbhoaaa
set_option linter.unusedSimpArgs false
set_option linter.unusedVariables false
open Go.RowKit Go.Shelf
theorem ok_rows {c : CF} : okC c = true ↔ (1200 ≤ c.d ∧ c.d ≤ 65527) ∧ (2 * c.d ≤ c.first ∧ c.first ≤ c.most) ∧ (2 * c.d ≤ c.most ∧ c.most ≤ 1099511627776) ∧ (1000000 ≤ c.rtt ∧ c.rtt ≤ 60000000000) ∧ (0 ≤ c.delay ∧ c.delay ≤ 16384000000) ∧ (0 ≤ c.ex ∧ c.ex ≤ 20) ∧ (c.d ≤ c.burst ∧ c.burst ≤ 1073741824) ∧ (2 ≤ c.room ∧ c.room ≤ 256) ∧ (0 ≤ c.backs ∧ c.backs ≤ 10) := by
 unfold okC dOk rowsOk
 rw [Bool.and_eq_true, Bool.and_eq_true, List.all_eq_true, decide_eq_true_eq, decide_eq_true_eq]
 constructor
 ·rintro ⟨hd, hr⟩
  have hrow : ∀ i < 10, loF c i ≤ valF c i ∧ valF c i ≤ hiF c i := fun i hi => by
   have := hr i (List.mem_range.2 hi)
   unfold rowOk at this
   simpa using this
  exact ⟨hd, hrow 2 (by omega), hrow 3 (by omega), hrow 4 (by omega), hrow 5 (by omega), hrow 6 (by omega), hrow 7 (by omega), hrow 8 (by omega), hrow 9 (by omega)⟩
 ·rintro ⟨hd, h2, h3, h4, h5, h6, h7, h8, h9⟩
  refine ⟨hd, fun i hi => ?_⟩
  have hi := List.mem_range.1 hi
  have : i = 0 ∨ i = 1 ∨ i = 2 ∨ i = 3 ∨ i = 4 ∨ i = 5 ∨ i = 6 ∨ i = 7 ∨ i = 8 ∨ i = 9 := by omega
  have key : ∀ j, loF c j ≤ valF c j ∧ valF c j ≤ hiF c j → rowOk c j = true := fun j h => by
   unfold rowOk
   simpa using h
  rcases this with rfl | rfl | rfl | rfl | rfl | rfl | rfl | rfl | rfl | rfl
  ·obtain ⟨sv, _⟩ := c
   cases sv <;> rfl
  ·exact key 1 hd
  ·exact key 2 h2
  ·exact key 3 h3
  ·exact key 4 h4
  ·exact key 5 h5
  ·exact key 6 h6
  ·exact key 7 h7
  ·exact key 8 h8
  ·exact key 9 h9
theorem err_no0 {c : CF} (h : ¬ okC c = true) : errC c = 9 := by
 unfold errC
 rw [if_neg h]
theorem in20_is (n lo hi : Int) (w : World) (b : Bool) (hb : (decide (lo ≤ n) && decide (n ≤ hi)) = b) : Calls Try.prog 64 #[.int .i64 n, .int .i64 lo, .int .i64 hi] w fun e w' => e = .returned (.bool b) ∧ w = w' := by
 subst hb
 by_cases h1 : lo ≤ n
 ·by_cases h2 : n ≤ hi
  ·rw [decide_eq_true h1, decide_eq_true h2]
   go_enter Try.func64, Try.ntmps64
   go_wp2
   go_ret
   exact ⟨rfl, rfl⟩
  ·rw [decide_eq_true h1, decide_eq_false h2]
   go_enter Try.func64, Try.ntmps64
   go_wp2
   go_ret
   exact ⟨rfl, rfl⟩
 ·rw [decide_eq_false h1]
  go_enter Try.func64, Try.ntmps64
  go_wp2
  go_ret
  exact ⟨rfl, rfl⟩
theorem in_yes {n lo hi : Int} (h : lo ≤ n ∧ n ≤ hi) : (decide (lo ≤ n) && decide (n ≤ hi)) = true := by rw [decide_eq_true h.1, decide_eq_true h.2]; rfl
theorem in_not {n lo hi : Int} (h : ¬ (lo ≤ n ∧ n ≤ hi)) : (decide (lo ≤ n) && decide (n ≤ hi)) = false := by
 rw [Bool.and_eq_false_iff, decide_eq_false_iff_not, decide_eq_false_iff_not]
 omega
set_option maxRecDepth 100000 in
set_option maxHeartbeats 4000000 in
theorem check20_any (c : CF) (w : World) : Calls Try.prog 34 #[.agg (confC c)] w fun e w' => e = .returned (.int .i64 (errC c)) ∧ Below w.heap.size w w' := by
 have hk := ok_rows (c := c)
 have h9 := fun (h : ¬ okC c = true) => err_no0 h
 have h0 := fun (h : okC c = true) => err_ok.2 h
 obtain ⟨er, her⟩ : ∃ er, errC c = er := ⟨_, rfl⟩
 rw [her] at h9 h0 ⊢
 obtain ⟨sv, d, first, most, rtt, delay, ex, burst, room, backs⟩ := c
 simp only [confC] at hk h9 h0 ⊢
 by_cases q0 : 1200 ≤ d ∧ d ≤ 65527
 ·have I0 := hide (fun W => in20_is d (1200) (65527) W true (in_yes q0))
  by_cases q1 : 2 * d ≤ most ∧ most ≤ 1099511627776
  ·have I1 := hide (fun W => in20_is most (2 * d) (1099511627776) W true (in_yes q1))
   by_cases q2 : 2 * d ≤ first ∧ first ≤ most
   ·have I2 := hide (fun W => in20_is first (2 * d) (most) W true (in_yes q2))
    by_cases q3 : 1000000 ≤ rtt ∧ rtt ≤ 60000000000
    ·have I3 := hide (fun W => in20_is rtt (1000000) (60000000000) W true (in_yes q3))
     by_cases q4 : 0 ≤ delay ∧ delay ≤ 16384000000
     ·have I4 := hide (fun W => in20_is delay (0) (16384000000) W true (in_yes q4))
      by_cases q5 : 0 ≤ ex ∧ ex ≤ 20
      ·have I5 := hide (fun W => in20_is ex (0) (20) W true (in_yes q5))
       by_cases q6 : d ≤ burst ∧ burst ≤ 1073741824
       ·have I6 := hide (fun W => in20_is burst (d) (1073741824) W true (in_yes q6))
        by_cases q7 : 2 ≤ room ∧ room ≤ 256
        ·have I7 := hide (fun W => in20_is room (2) (256) W true (in_yes q7))
         by_cases q8 : 0 ≤ backs ∧ backs ≤ 10
         ·have I8 := hide (fun W => in20_is backs (0) (10) W true (in_yes q8))
          obtain rfl : er = 0 := h0 (hk.2 ⟨q0, q2, q1, q3, q4, q5, q6, q7, q8⟩)
          clear hk h9 h0 her q1 q2 q3 q4 q5 q6 q7 q8
          go_enter Try.func34, Try.ntmps34
          go_wp2_with fail
          refine (I0.out _).mono ?_
          rintro e0 w0 ⟨rfl, rfl⟩
          go_wp2_with fail
          refine (I1.out _).mono ?_
          rintro e1 w1 ⟨rfl, rfl⟩
          go_wp2_with fail
          refine (I2.out _).mono ?_
          rintro e2 w2 ⟨rfl, rfl⟩
          go_wp2_with fail
          refine (I3.out _).mono ?_
          rintro e3 w3 ⟨rfl, rfl⟩
          go_wp2_with fail
          refine (I4.out _).mono ?_
          rintro e4 w4 ⟨rfl, rfl⟩
          go_wp2_with fail
          refine (I5.out _).mono ?_
          rintro e5 w5 ⟨rfl, rfl⟩
          go_wp2_with fail
          refine (I6.out _).mono ?_
          rintro e6 w6 ⟨rfl, rfl⟩
          go_wp2_with fail
          refine (I7.out _).mono ?_
          rintro e7 w7 ⟨rfl, rfl⟩
          go_wp2_with fail
          refine (I8.out _).mono ?_
          rintro e8 w8 ⟨rfl, rfl⟩
          go_wp2_with fail
          go_ret
          exact ⟨rfl, (Below.refl _ _).alloc (Nat.le_refl _) _⟩
         ·have I8 := hide (fun W => in20_is backs (0) (10) W false (in_not q8))
          obtain rfl : er = 9 := h9 (fun e => q8 (hk.1 e).2.2.2.2.2.2.2.2)
          clear hk h9 h0 her q1 q2 q3 q4 q5 q6 q7 q8
          go_enter Try.func34, Try.ntmps34
          go_wp2_with fail
          refine (I0.out _).mono ?_
          rintro e0 w0 ⟨rfl, rfl⟩
          go_wp2_with fail
          refine (I1.out _).mono ?_
          rintro e1 w1 ⟨rfl, rfl⟩
          go_wp2_with fail
          refine (I2.out _).mono ?_
          rintro e2 w2 ⟨rfl, rfl⟩
          go_wp2_with fail
          refine (I3.out _).mono ?_
          rintro e3 w3 ⟨rfl, rfl⟩
          go_wp2_with fail
          refine (I4.out _).mono ?_
          rintro e4 w4 ⟨rfl, rfl⟩
          go_wp2_with fail
          refine (I5.out _).mono ?_
          rintro e5 w5 ⟨rfl, rfl⟩
          go_wp2_with fail
          refine (I6.out _).mono ?_
          rintro e6 w6 ⟨rfl, rfl⟩
          go_wp2_with fail
          refine (I7.out _).mono ?_
          rintro e7 w7 ⟨rfl, rfl⟩
          go_wp2_with fail
          refine (I8.out _).mono ?_
          rintro e8 w8 ⟨rfl, rfl⟩
          go_wp2_with fail
          go_ret
          exact ⟨rfl, (Below.refl _ _).alloc (Nat.le_refl _) _⟩
        ·have I7 := hide (fun W => in20_is room (2) (256) W false (in_not q7))
         obtain rfl : er = 9 := h9 (fun e => q7 (hk.1 e).2.2.2.2.2.2.2.1)
         clear hk h9 h0 her q1 q2 q3 q4 q5 q6 q7
         go_enter Try.func34, Try.ntmps34
         go_wp2_with fail
         refine (I0.out _).mono ?_
         rintro e0 w0 ⟨rfl, rfl⟩
         go_wp2_with fail
         refine (I1.out _).mono ?_
         rintro e1 w1 ⟨rfl, rfl⟩
         go_wp2_with fail
         refine (I2.out _).mono ?_
         rintro e2 w2 ⟨rfl, rfl⟩
         go_wp2_with fail
         refine (I3.out _).mono ?_
         rintro e3 w3 ⟨rfl, rfl⟩
         go_wp2_with fail
         refine (I4.out _).mono ?_
         rintro e4 w4 ⟨rfl, rfl⟩
         go_wp2_with fail
         refine (I5.out _).mono ?_
         rintro e5 w5 ⟨rfl, rfl⟩
         go_wp2_with fail
         refine (I6.out _).mono ?_
         rintro e6 w6 ⟨rfl, rfl⟩
         go_wp2_with fail
         refine (I7.out _).mono ?_
         rintro e7 w7 ⟨rfl, rfl⟩
         go_wp2_with fail
         go_ret
         exact ⟨rfl, (Below.refl _ _).alloc (Nat.le_refl _) _⟩
       ·have I6 := hide (fun W => in20_is burst (d) (1073741824) W false (in_not q6))
        obtain rfl : er = 9 := h9 (fun e => q6 (hk.1 e).2.2.2.2.2.2.1)
        clear hk h9 h0 her q1 q2 q3 q4 q5 q6
        go_enter Try.func34, Try.ntmps34
        go_wp2_with fail
        refine (I0.out _).mono ?_
        rintro e0 w0 ⟨rfl, rfl⟩
        go_wp2_with fail
        refine (I1.out _).mono ?_
        rintro e1 w1 ⟨rfl, rfl⟩
        go_wp2_with fail
        refine (I2.out _).mono ?_
        rintro e2 w2 ⟨rfl, rfl⟩
        go_wp2_with fail
        refine (I3.out _).mono ?_
        rintro e3 w3 ⟨rfl, rfl⟩
        go_wp2_with fail
        refine (I4.out _).mono ?_
        rintro e4 w4 ⟨rfl, rfl⟩
        go_wp2_with fail
        refine (I5.out _).mono ?_
        rintro e5 w5 ⟨rfl, rfl⟩
        go_wp2_with fail
        refine (I6.out _).mono ?_
        rintro e6 w6 ⟨rfl, rfl⟩
        go_wp2_with fail
        go_ret
        exact ⟨rfl, (Below.refl _ _).alloc (Nat.le_refl _) _⟩
      ·have I5 := hide (fun W => in20_is ex (0) (20) W false (in_not q5))
       obtain rfl : er = 9 := h9 (fun e => q5 (hk.1 e).2.2.2.2.2.1)
       clear hk h9 h0 her q1 q2 q3 q4 q5
       go_enter Try.func34, Try.ntmps34
       go_wp2_with fail
       refine (I0.out _).mono ?_
       rintro e0 w0 ⟨rfl, rfl⟩
       go_wp2_with fail
       refine (I1.out _).mono ?_
       rintro e1 w1 ⟨rfl, rfl⟩
       go_wp2_with fail
       refine (I2.out _).mono ?_
       rintro e2 w2 ⟨rfl, rfl⟩
       go_wp2_with fail
       refine (I3.out _).mono ?_
       rintro e3 w3 ⟨rfl, rfl⟩
       go_wp2_with fail
       refine (I4.out _).mono ?_
       rintro e4 w4 ⟨rfl, rfl⟩
       go_wp2_with fail
       refine (I5.out _).mono ?_
       rintro e5 w5 ⟨rfl, rfl⟩
       go_wp2_with fail
       go_ret
       exact ⟨rfl, (Below.refl _ _).alloc (Nat.le_refl _) _⟩
     ·have I4 := hide (fun W => in20_is delay (0) (16384000000) W false (in_not q4))
      obtain rfl : er = 9 := h9 (fun e => q4 (hk.1 e).2.2.2.2.1)
      clear hk h9 h0 her q1 q2 q3 q4
      go_enter Try.func34, Try.ntmps34
      go_wp2_with fail
      refine (I0.out _).mono ?_
      rintro e0 w0 ⟨rfl, rfl⟩
      go_wp2_with fail
      refine (I1.out _).mono ?_
      rintro e1 w1 ⟨rfl, rfl⟩
      go_wp2_with fail
      refine (I2.out _).mono ?_
      rintro e2 w2 ⟨rfl, rfl⟩
      go_wp2_with fail
      refine (I3.out _).mono ?_
      rintro e3 w3 ⟨rfl, rfl⟩
      go_wp2_with fail
      refine (I4.out _).mono ?_
      rintro e4 w4 ⟨rfl, rfl⟩
      go_wp2_with fail
      go_ret
      exact ⟨rfl, (Below.refl _ _).alloc (Nat.le_refl _) _⟩
    ·have I3 := hide (fun W => in20_is rtt (1000000) (60000000000) W false (in_not q3))
     obtain rfl : er = 9 := h9 (fun e => q3 (hk.1 e).2.2.2.1)
     clear hk h9 h0 her q1 q2 q3
     go_enter Try.func34, Try.ntmps34
     go_wp2_with fail
     refine (I0.out _).mono ?_
     rintro e0 w0 ⟨rfl, rfl⟩
     go_wp2_with fail
     refine (I1.out _).mono ?_
     rintro e1 w1 ⟨rfl, rfl⟩
     go_wp2_with fail
     refine (I2.out _).mono ?_
     rintro e2 w2 ⟨rfl, rfl⟩
     go_wp2_with fail
     refine (I3.out _).mono ?_
     rintro e3 w3 ⟨rfl, rfl⟩
     go_wp2_with fail
     go_ret
     exact ⟨rfl, (Below.refl _ _).alloc (Nat.le_refl _) _⟩
   ·have I2 := hide (fun W => in20_is first (2 * d) (most) W false (in_not q2))
    obtain rfl : er = 9 := h9 (fun e => q2 (hk.1 e).2.1)
    clear hk h9 h0 her q1 q2
    go_enter Try.func34, Try.ntmps34
    go_wp2_with fail
    refine (I0.out _).mono ?_
    rintro e0 w0 ⟨rfl, rfl⟩
    go_wp2_with fail
    refine (I1.out _).mono ?_
    rintro e1 w1 ⟨rfl, rfl⟩
    go_wp2_with fail
    refine (I2.out _).mono ?_
    rintro e2 w2 ⟨rfl, rfl⟩
    go_wp2_with fail
    go_ret
    exact ⟨rfl, (Below.refl _ _).alloc (Nat.le_refl _) _⟩
  ·have I1 := hide (fun W => in20_is most (2 * d) (1099511627776) W false (in_not q1))
   obtain rfl : er = 9 := h9 (fun e => q1 (hk.1 e).2.2.1)
   clear hk h9 h0 her q1
   go_enter Try.func34, Try.ntmps34
   go_wp2_with fail
   refine (I0.out _).mono ?_
   rintro e0 w0 ⟨rfl, rfl⟩
   go_wp2_with fail
   refine (I1.out _).mono ?_
   rintro e1 w1 ⟨rfl, rfl⟩
   go_wp2_with fail
   go_ret
   exact ⟨rfl, (Below.refl _ _).alloc (Nat.le_refl _) _⟩
 ·have I0 := hide (fun W => in20_is d (1200) (65527) W false (in_not q0))
  obtain rfl : er = 9 := h9 (fun e => q0 (hk.1 e).1)
  clear hk h9 h0 her q0
  go_enter Try.func34, Try.ntmps34
  go_wp2_with fail
  refine (I0.out _).mono ?_
  rintro e0 w0 ⟨rfl, rfl⟩
  go_wp2_with fail
  go_ret
  exact ⟨rfl, (Below.refl _ _).alloc (Nat.le_refl _) _⟩
end Go.Proofs.Ytidfngcclbhoaaa
