/-
 Lists of rows, names, own: 3 texts in one (JrPlain, JrName, JrOwn).
-/
import Derived.Test.YtidfngcclbhoaaaJrLook
import Derived.Test.YtidfngcclbhoaaaMjWorks
namespace Go.Proofs.Ytidfngcclbhoaaa
open List renaming getElem?_toArray → ZG, getElem?_cons_zero → ZH, getElem?_cons_succ → ZJ
open Go.Value renaming int → ZI
open Go.IntKind renaming i64 → ZQ
set_option linter.unusedSimpArgs false
set_option linter.unusedVariables false
open Go.RowKit Go.Shelf
instance (p : PKT) : Decidable (okP p) := by unfold okP; infer_instance
instance (p : PCD) : Decidable (okPcd p) := by unfold okPcd; infer_instance
instance (p : PIE) : Decidable (okPie p) := by unfold okPie; infer_instance
instance (r : RW) (e : EVJ) : Decidable (EvOk r e) := by unfold EvOk; infer_instance
instance (k : KN) (r : RW) (e : EVJ) : Decidable (EvLost k r e) := by unfold EvLost; infer_instance
instance (k : KN) (r : RW) (rs : List RGJ) (e : EVJ) : Decidable (EvOkR k r rs e) := by unfold EvOkR; infer_instance
def knB (k : KN) : Bool := (k.shut == false) && ((k.told == false) && (k.flying.all (fun p => decide (okP p)) && (decide (k.flying.length ≤ 1900) && (k.paced.all (fun p => decide (okPcd p)) && (decide (k.paced.length ≤ 1900) && (k.pieces.all (fun p => decide (okPie p)) && (decide (k.pieces.length ≤ 1900)
 && (decide (0 ≤ k.c.d ∧ k.c.d ≤ 65527) && (decide (k.window ≤ 1099511627776) && (decide (0 ≤ k.got ∧ k.got ≤ 1000000) && decide (0 ≤ k.own 0 ∧ k.own 0 ≤ 9)))))))))))
theorem knB_ok {k : KN} (h : knB k = true) : KnOkG k ∧ KnOkR k := by
 unfold knB at h
 simp only [Bool.and_eq_true, List.all_eq_true, decide_eq_true_eq, beq_iff_eq] at h
 obtain ⟨h1, h2, h3, h4, h5, h6, h7, h8, h9, h10, h11, h12⟩ := h
 exact ⟨⟨h1, h2, h3, h4, h5, h6, h7, h8, h9, h10, h11, h12.2⟩, ⟨h1, h2, h3, h4, h6, h8, h9, h11, h12⟩⟩
def pkB (k : KN) (r : RW) : Bool := decide (r.en = 0) && (decide (r.o.sp = 0 ∨ r.o.sp = 3) && (decide (r.o.pr = false → isN r.o.num = true → 1 ≤ r.o.size → r.o.size ≤ k.c.d → r.o.sp = 0 → k.last 0 < r.o.num → r.o.fl = true)
 && (decide (r.o.pr = true → r.o.fl = true) && decide (r.o.pr = true → k.valid = false → decide (addI k.sent r.o.size ≤ numI (3 * k.got)) = true))))
theorem pkB_ok {k : KN} {r : RW} (h : pkB k r = true) : PkOk k r := by
 unfold pkB at h
 simp only [Bool.and_eq_true, decide_eq_true_eq] at h
 obtain ⟨h1, h2, h3, h4, h5⟩ := h
 exact ⟨h1, h2, h3, h4, fun a b => decide_eq_true (h5 a b)⟩
def evsB (r : RW) (rs : List RGJ) : KN → List EVJ → Bool
 | _, [] => true
 | k, e :: es => decide (EvOkR k r rs e) && match eventP k r rs e with
  | .ok k' => evsB r rs k' es
  | .error _ => true
theorem evsB_ok {r : RW} {rs : List RGJ} : ∀ (es : List EVJ) (k : KN), evsB r rs k es = true → EvsR r rs k es
 | [], _, _ => trivial
 | e :: es, k, h => by
  unfold evsB at h
  rw [Bool.and_eq_true, decide_eq_true_eq] at h
  refine ⟨h.1, fun k' hk => evsB_ok es k' ?_⟩
  have := h.2
  rw [hk] at this
  exact this
def errB (x : RR) : Bool := match x.es with
 | [e] => closesP e && !(e.n == x.r.err)
 | _ => false
/-- Does the program's contract speak of a row; and (ref) the document's? -/
def rowB (ref : Bool) (k : KN) (x : RR) : Bool :=
 decide (x.es.length = x.r.en) && (decide (x.r.en ≤ 2000) && (decide (x.rs.length = x.r.rn) && (decide (x.r.rn ≤ 2000) && (decide (isN x.r.t = true → x.r.t ≤ 68719476736) && (((x.r.err == 0) || errB x)
 && (decide (x.r.kind = 0 ∨ x.r.kind = 1 ∨ x.r.kind = 2 ∨ x.r.kind = 3 ∨ x.r.kind = 4 ∨ x.r.kind = 6 ∨ x.r.kind = 9) && ((!(x.r.kind == 1) || (x.es.isEmpty && pkB { k with t := x.r.t } x.r))
 && ((!(x.r.kind == 2) || (!(isSp x.r.sp) || ((x.r.sp == 0) && !x.rs.isEmpty))) && ((!(x.r.kind == 6) || (!(isSp x.r.sp) && !(k.flying.any (spP x.r.sp))))
 && ((x.es.all (fun e => decide (EvOk x.r e)) || (!ref && match x.es with
   | [e] => decide (EvLost { k with t := x.r.t } x.r e)
   | _ => false))
 && (!ref || ((x.r.kind == 1) || match stepG { k with t := x.r.t } x.r x.rs with
   | .ok k1 => evsB x.r x.rs k1 x.es
   | .error _ => true))))))))))))
theorem rowB_ok {ref : Bool} {k : KN} {x : RR} (h : rowB ref k x = true) : RowOkG k x ∧ (ref = true → RowOkR k x) := by
 obtain ⟨r, es, rs⟩ := x
 unfold rowB at h
 simp only [Bool.and_eq_true, decide_eq_true_eq] at h
 obtain ⟨h1, h2, h3, h4, h5, h6, h7, h8, h9, h10, h11, h12⟩ := h
 have herr : (r.err == 0) = false → ∃ e, es = [e] ∧ closesP e = true ∧ (e.n == r.err) = false := by
  intro he
  rw [he, Bool.false_or] at h6
  unfold errB at h6
  simp only at h6
  split at h6
  ·rename_i e
   rw [Bool.and_eq_true, Bool.not_eq_true'] at h6
   exact ⟨e, rfl, h6.1, h6.2⟩
  ·cases h6
 have hpk : r.kind = 1 → es = [] ∧ PkOk { k with t := r.t } r := by
  intro hk
  rw [show (r.kind == 1) = true by simpa using hk] at h8
  simp only [Bool.not_true, Bool.false_or, Bool.and_eq_true, List.isEmpty_iff] at h8
  exact ⟨h8.1, pkB_ok h8.2⟩
 have hack : r.kind = 2 → isSp r.sp = false ∨ (r.sp = 0 ∧ rs ≠ []) := by
  intro hk
  rw [show (r.kind == 2) = true by simpa using hk] at h9
  simp only [Bool.not_true, Bool.false_or, Bool.or_eq_true, Bool.not_eq_true', Bool.and_eq_true, beq_iff_eq] at h9
  rcases h9 with h9 | ⟨h9, h9'⟩
  ·exact .inl h9
  ·exact .inr ⟨h9, by intro h0; rw [h0] at h9'; cases h9'⟩
 have hdis : r.kind = 6 → isSp r.sp = false ∧ k.flying.any (spP r.sp) = false := by
  intro hk
  rw [show (r.kind == 6) = true by simpa using hk] at h10
  simp only [Bool.not_true, Bool.false_or, Bool.not_eq_true', Bool.and_eq_true] at h10
  exact h10
 refine ⟨⟨h1, h2, h3, h4, h5, herr, h7, hpk, hack, fun hk => (hdis hk).2, ?_⟩, fun hr => ⟨h1, h2, h3, h4, herr, h7, hpk, hack, fun hk => (hdis hk).1, ?_⟩⟩
 ·rw [Bool.or_eq_true] at h11
  rcases h11 with h11 | h11
  ·rw [List.all_eq_true] at h11
   exact .inl fun e he => of_decide_eq_true (h11 e he)
  ·rw [Bool.and_eq_true] at h11
   replace h11 := h11.2
   split at h11
   ·rename_i e
    exact .inr ⟨e, rfl, of_decide_eq_true h11⟩
   ·cases h11
 ·intro hk k1 hk1
  subst hr
  simp only [Bool.not_true, Bool.false_or] at h12
  rw [show (r.kind == 1) = false by simpa using hk, Bool.false_or, hk1] at h12
  exact evsB_ok _ _ h12
def listB (ref : Bool) : KN → List RR → Bool
 | _, [] => true
 | k, x :: l => knB (tellK k x) && (rowB ref (tellK k x) x && match rowG (tellK k x) x with
  | .ok k' => listB ref k' l
  | .error m => decide (0 < m ∧ m ≤ 100))
theorem listB_at {ref : Bool} {k : KN} {l : List RR} {i : Nat} {x : RR} (h : listB ref k (l.drop i) = true) (hx : l[i]? = some x) : (KnOkG (tellK k x) ∧ KnOkR (tellK k x)) ∧ (RowOkG (tellK k x) x ∧ (ref = true → RowOkR (tellK k x) x)) ∧ (∀ k', rowG (tellK k x) x = .ok k' → listB ref k' (l.drop (i + 1)) = true) ∧ (∀ m, rowG (tellK k x) x = .error m → 0 < m ∧ m ≤ 100) := by
 have hi : i < l.length := (List.getElem?_eq_some_iff.1 hx).1
 rw [List.drop_eq_getElem_cons hi] at h
 rw [List.getElem?_eq_getElem hi] at hx
 rw [Option.some.inj hx] at h
 unfold listB at h
 rw [Bool.and_eq_true, Bool.and_eq_true] at h
 obtain ⟨h1, h2, h3⟩ := h
 refine ⟨knB_ok h1, rowB_ok h2, fun k' hk => ?_, fun m hm => ?_⟩
 ·rw [hk] at h3
  exact h3
 ·rw [hm] at h3
  exact of_decide_eq_true h3
/-- Both Looks at a list of which the contracts speak. -/
theorem look_list (ref : Bool) (c : CF) (hc : errC c = 0) (A : Option Addr) (n cap : Nat) (l : List RR) (w : World) (hn : l.length = n) (hl : n ≤ 1000) (hL : LieAt rrL 20 w w.heap.size A l)
  (hE : ∀ x ∈ l, LieAt evL 4 w w.heap.size x.r.ea x.es ∧ LieAt rgL 2 w w.heap.size x.r.ra x.rs) (hB : listB ref (K0 c 3) l = true) :
  Calls Try.prog 7 #[.agg (confC c), .slice A n cap] w fun e w' => e = .returned (.tuple #[.agg #[ZI ZQ (lookP rowG (K0 c 3) l 0).1, ZI ZQ (lookP rowG (K0 c 3) l 0).2], ZI ZQ 0]) ∧ Below w.heap.size w w' :=
 look_any (fun i k => listB ref k (l.drop i) = true) rowG c hc A n cap l w hn hl hL hE (by rw [List.drop_zero]; exact hB)
  (fun i x k b W vf vp vd h hx hK hev hrg => rowg_any b _ _ vf vp vd x W hK hev hrg (listB_at h hx).1.1 (listB_at h hx).2.1.1)
  (fun i x k k' h hx hk => (listB_at h hx).2.2.1 k' hk) (fun i x k m h hx hm => (listB_at h hx).2.2.2 m hm)
theorem rlook_list (c : CF) (hc : errC c = 0) (A : Option Addr) (n cap : Nat) (l : List RR) (w : World) (hn : l.length = n) (hl : n ≤ 1000) (hL : LieAt rrL 20 w w.heap.size A l)
  (hE : ∀ x ∈ l, LieAt evL 4 w w.heap.size x.r.ea x.es ∧ LieAt rgL 2 w w.heap.size x.r.ra x.rs) (hB : listB true (K0 c 3) l = true) :
  Calls Try.prog 16 #[.agg (confC c), .slice A n cap] w fun e w' => e = .returned (.tuple #[ZI ZQ (lookP rowG (K0 c 3) l 0).1, ZI ZQ (lookP rowG (K0 c 3) l 0).2, ZI ZQ 0]) ∧ Below w.heap.size w w' :=
 rlook_any (fun i k => listB true k (l.drop i) = true) rowG c hc A n cap l w hn hl hL hE (by rw [List.drop_zero]; exact hB)
  (fun i x k b W vL vA vR vP h hx hK hev hrg => rrowg_any b _ _ vL vA vR vP x W hK hev hrg (listB_at h hx).1.2 ((listB_at h hx).2.1.2 rfl))
  (fun i x k k' h hx hk => (listB_at h hx).2.2.1 k' hk) (fun i x k m h hx hm => (listB_at h hx).2.2.2 m hm)
theorem finds_list (ref : Bool) (A : Option Addr) (n cap : Nat) (l : List RR) (row rule : Int) (w : World) (hn : l.length = n) (hl : n ≤ 1000) (hL : LieAt rrL 20 w w.heap.size A l)
  (hE : ∀ x ∈ l, LieAt evL 4 w w.heap.size x.r.ea x.es ∧ LieAt rgL 2 w w.heap.size x.r.ra x.rs) (hB : listB ref (K0 setC 3) l = true) (hres : lookP rowG (K0 setC 3) l 0 = (row, rule)) :
  Calls Try.prog 12 #[.slice A n cap, ZI ZQ row, ZI ZQ rule] w fun e w' => e = .returned (.bool true) ∧ Below w.heap.size w w' :=
 finds_yes (fun i k => listB ref k (l.drop i) = true) rowG A n cap l row rule w hn hl hL hE (by rw [List.drop_zero]; exact hB)
  (fun i x k b base W vf vp vd h hx hK hev hrg => rowg_any b base _ vf vp vd x W hK hev hrg (listB_at h hx).1.1 (listB_at h hx).2.1.1)
  (fun i x k k' h hx hk => (listB_at h hx).2.2.1 k' hk) (fun i x k m h hx hm => (listB_at h hx).2.2.2 m hm) hres
/-- The rows of the closed statement. -/
def zR (kind t : Int) : RW := ⟨kind, t, 0, 0, ⟨0, 0, 0, false, false, false, false⟩, 0, none, 0, 0, false, 0, 0, 0, none, 0, 0, 0, 0⟩
def xZ (kind t : Int) : RR := ⟨zR kind t, [], []⟩
def xO (o : OUT) : RR := ⟨{ zR 1 0 with o := o }, [], []⟩
def xP (kind sp size : Int) : RR := ⟨{ zR kind 0 with sp := sp, size := size }, [], []⟩
def xE (kind t err : Int) (a : Nat) (es : List EVJ) : RR := ⟨{ zR kind t with ea := some ⟨a, 0, none⟩, en := es.length, ec := es.length, err := err }, es, []⟩
/-- big, at the blocks of its events. -/
def bigL (a : Nat → Nat) : List RR := [xZ 1 (-1), xZ 1 9007199254740992, xO ⟨3, 0, 1, false, false, false, false⟩, xO ⟨0, 0, 1201, false, false, false, false⟩, xO ⟨0, 0, 0, false, false, false, false⟩, xO ⟨0, -1, 1, false, false, false, false⟩, xZ 9 0, xZ 0 0, xP 2 5 0, xP 6 (-1) 0, xP 3 0 (-5),
 xE 4 0 0 (a 0) [⟨7, 0, 0, 0⟩], xE 4 0 0 (a 1) [⟨6, 0, 0, 0⟩], xE 4 0 0 (a 2) [⟨5, 9, 0, 0⟩], xE 4 0 0 (a 3) [⟨3, 3, 0, 1⟩], xE 4 0 0 (a 4) [⟨4, 0, 0, 2400⟩, ⟨4, 0, 0, 2400⟩], xE 0 0 9 (a 5) [⟨6, 0, 0, 8⟩]]
def setB (sv : Bool) : CF := ⟨sv, 1200, 12000, 16777216, 333000000, 25000000, 3, 12000, 256, 6⟩
def oneL (a1 a2 : Nat) (x : RR) : List RR := [xS 0 0, x, xA a1 a2, x]
def xPr (n : Int) : RR := xO ⟨0, n, 9, true, true, true, false⟩
def twoL (a3 : Nat) (x : RR) : List RR := [xP 3 0 1000, x, xS 0 0, xE 4 0 0 a3 [⟨3, 0, 0, 1⟩], xPr 1, xPr 1, x]
theorem big_one (a : Nat → Nat) (a1 a2 : Nat) : ((List.range 17).all fun i => match (bigL a)[i]? with
  | some x => listB true (K0 (setB (i % 2 == 0)) 3) (oneL a1 a2 x)
  | none => false) = true := by rfl
theorem big_two (a : Nat → Nat) (a3 : Nat) : ((List.range 17).all fun i => match (bigL a)[i]? with
  | some x => listB true (K0 (setB (i % 2 == 1)) 3) (twoL a3 x)
  | none => false) = true := by rfl
end Go.Proofs.Ytidfngcclbhoaaa

namespace Go.Proofs.Ytidfngcclbhoaaa
open List renaming getElem?_toArray → ZG, getElem?_cons_zero → ZH, getElem?_cons_succ → ZJ
open Go.Value renaming int → ZI
open Go.IntKind renaming i64 → ZQ
set_option linter.unusedSimpArgs false
set_option linter.unusedVariables false
open Go.RowKit Go.Shelf
def namesV : Array Value := #[.string (ruleB 0), .string (ruleB 1), .string (ruleB 2), .string (ruleB 3), .string (ruleB 4), .string (ruleB 5), .string (ruleB 6), .string (ruleB 7), .string (ruleB 8), .string (ruleB 9), .string (ruleB 10), .string (ruleB 11)]
set_option maxRecDepth 100000 in
set_option maxHeartbeats 4000000 in
theorem names_any (w : World) : Calls Try.prog 36 #[] w fun e w' => (∃ g, e = .returned (.slice (some ⟨g, 0, none⟩) 12 12) ∧ Blk w' g 9 namesV) ∧ Below w.heap.size w w' := by
 go_enter Try.func36, Try.ntmps36
 go_wp2_with fail
 go_ret
 exact ⟨⟨_, rfl, Blk.new _ _ _⟩, (Below.refl _ _).alloc (Nat.le_refl _) _⟩
set_option maxRecDepth 100000 in
set_option maxHeartbeats 4000000 in
theorem rname_any (n : Int) (w : World) : Calls Try.prog 18 #[ZI ZQ n] w fun e w' => e = .returned (.string (ruleB n)) ∧ Below w.heap.size w w' := by
 have HNA := hide (fun W => names_any W)
 by_cases h0 : n < 1
 ·have hn : ruleB n = ⟨#[]⟩ := by
   unfold ruleB ruleJ
   repeat rw [if_neg (by omega)]
  have HN := hide hn
  clear hn
  go_enter Try.func18, Try.ntmps18
  go_wp2_with fail
  go_ret
  exact ⟨by rw [HN.out]; rfl, Below.refl _ _⟩
 by_cases h1 : 11 < n
 ·have hn : ruleB n = ⟨#[]⟩ := by
   unfold ruleB ruleJ
   repeat rw [if_neg (by omega)]
  have HN := hide hn
  clear hn
  go_enter Try.func18, Try.ntmps18
  go_wp2_with fail
  go_ret
  exact ⟨by rw [HN.out]; rfl, Below.refl _ _⟩
 rcases (by omega : n = 1 ∨ n = 2 ∨ n = 3 ∨ n = 4 ∨ n = 5 ∨ n = 6 ∨ n = 7 ∨ n = 8 ∨ n = 9 ∨ n = 10 ∨ n = 11) with rfl | rfl | rfl | rfl | rfl | rfl | rfl | rfl | rfl | rfl | rfl
 all_goals
  clear h0 h1
  go_enter Try.func18, Try.ntmps18
  go_wp2_with fail
  with_reducible refine (HNA.out _).mono ?_
  rintro y1 W1 ⟨⟨g, rfl, hB⟩, hb1⟩
  have n1 := hB.cell 1
  have n2 := hB.cell 2
  have n3 := hB.cell 3
  have n4 := hB.cell 4
  have n5 := hB.cell 5
  have n6 := hB.cell 6
  have n7 := hB.cell 7
  have n8 := hB.cell 8
  have n9 := hB.cell 9
  have n10 := hB.cell 10
  have n11 := hB.cell 11
  simp only [namesV, ZG, ZH, ZJ] at n1 n2 n3 n4 n5 n6 n7 n8 n9 n10 n11
  have HB := hide hb1
  clear hB hb1
  go_wp2_with fail
  go_ret
  exact ⟨rfl, HB.out⟩
theorem setting_sv (sv : Bool) (w : World) : Calls Try.prog 6 #[.bool sv] w fun e w' => e = .returned (.agg (confC (setB sv))) ∧ Below w.heap.size w w' := by
 go_enter Try.func6, Try.ntmps6
 go_wp2_with fail
 exact bodyPost_ret (v := .agg (confC (setB sv))) (by simp [results, Try.results6, go_sem, confC, setB]) rfl ⟨rfl, (Below.refl _ _).alloc (Nat.le_refl _) _⟩
end Go.Proofs.Ytidfngcclbhoaaa

namespace Go.Proofs.Ytidfngcclbhoaaa
open List renaming getElem?_toArray → ZG, getElem?_cons_zero → ZH, getElem?_cons_succ → ZJ
open Go.Value renaming int → ZI
open Go.IntKind renaming i64 → ZQ
set_option linter.unusedSimpArgs false
set_option linter.unusedVariables false
open Go.RowKit Go.Shelf
theorem rrow_info : (Try.prog.info? 93).map (fun i => (i.zero, i.size, i.bytes)) = some (some (.agg #[ZI ZQ 0, ZI ZQ 0, ZI ZQ 0, ZI ZQ 0, ZI ZQ 0, ZI ZQ 0, ZI ZQ 0, .bool false, .bool false, .bool false, .bool false, ZI ZQ 0, .slice none 0 0, .bool false, ZI ZQ 0, ZI ZQ 0, ZI ZQ 0, .slice none 0 0, ZI ZQ 0, ZI ZQ 0]), 20, 168) := by kernel_rfl
theorem jrow_info : (Try.prog.info? 36).map (fun i => (i.zero, i.size, i.bytes)) = some (some (.agg #[ZI ZQ 0, ZI ZQ 0, ZI ZQ 0, ZI ZQ 0, ZI ZQ 0, ZI ZQ 0, ZI ZQ 0, .bool false, .bool false, .bool false, .bool false, ZI ZQ 0, .slice none 0 0, .bool false, ZI ZQ 0, ZI ZQ 0, ZI ZQ 0, .slice none 0 0, ZI ZQ 0, ZI ZQ 0]), 20, 168) := by kernel_rfl
def OwnPost (l : List RR) (n : Nat) (w : World) (e : Ending) (w' : World) : Prop := ∃ A' c', e = .returned (.slice A' n c') ∧ LieAt rrL 20 w' w'.heap.size A' l ∧ Below w.heap.size w w'
theorem own_nil (w : World) (base e size : Nat) : w.ownsRow base e size (.slice none 0 0) 0 [] := ⟨by simp, .inl ⟨rfl, rfl⟩⟩
theorem take_next {l : List RR} {i : Nat} {x : RR} (h : l[i]? = some x) : (l.take (i + 1)).flatMap rrL = (l.take i).flatMap rrL ++ rrL x := by
 rw [List.take_add_one, h, List.flatMap_append]
 simp
theorem hc_row {W : World} {g o i : Nat} {x : RR} (hz : ∀ j u, j < 20 → (rrL x)[j]? = some u → W.cell? ⟨g, o + i * 20 + j, none⟩ = some u) : ∀ j v, (rwC x.r)[j]? = some v → W.cell? ((⟨g, o + i * 20, none⟩ : Addr).add j) = some v := by
 intro j v hv
 have hj : j < 20 := by have := (Array.getElem?_eq_some_iff.1 hv).1; exact this
 rw [show (⟨g, o + i * 20, none⟩ : Addr).add j = ⟨g, o + i * 20 + j, none⟩ by unfold Addr.add; split <;> simp_all]
 exact hz j v hj (by unfold rrL; rw [Array.getElem?_toList]; exact hv)
set_option maxRecDepth 100000 in
set_option maxHeartbeats 8000000 in
theorem own_any (A : Option Addr) (n cap : Nat) (l : List RR) (w : World) (hn : l.length = n) (hl : n ≤ 200) (hL : LieAt rrL 20 w w.heap.size A l) :
  Calls Try.prog 17 #[.slice A n cap] w (OwnPost l n w) := by
 have HL := hide hL
 have HN := hide hn
 clear hL hn
 go_enter Try.func17, Try.ntmps17
 go_wp2_with fail
 go_loopg [3, 4, 5] n (fun kx s3 s4 s5 wr => ∃ (i : Nat) (A' : Option Addr) (c' : Nat), s3 = .slice A' i c' ∧ s4 = ZI ZQ i ∧ i ≤ n ∧ n - i ≤ kx ∧ wr.ownsRow w.heap.size 93 20 (.slice A' i c') i ((l.take i).flatMap rrL) ∧ Below w.heap.size w wr)
 case atStart => exact ⟨0, none, 0, rfl, rfl, by omega, by omega, own_nil _ _ _ _, Below.refl _ _⟩
 case round =>
  obtain ⟨i, A', c', rfl, rfl, hi, hkx, hown, hbw⟩ := hrel
  by_cases hlt : i < n
  ·have hir : i < l.length := by rw [HN.out]; exact hlt
   obtain ⟨x, hx⟩ : ∃ x, l[i]? = some x := ⟨_, List.getElem?_eq_getElem hir⟩
   obtain ⟨g, o, rfl, hg, hz⟩ := (HL.out.later hbw).at hx
   have HC := hide (hc_row hz)
   have HTK := hide (take_next hx)
   have hin : (i : Int) < (n : Int) := by omega
   have HA := hide (Blk.new wr 36 #[ZI ZQ 0, ZI ZQ 0, ZI ZQ 0, ZI ZQ 0, ZI ZQ 0, ZI ZQ 0, ZI ZQ 0, .bool false, .bool false, .bool false, .bool false, ZI ZQ 0, .slice none 0 0, .bool false, ZI ZQ 0, ZI ZQ 0, ZI ZQ 0, .slice none 0 0, ZI ZQ 0, ZI ZQ 0])
   have HONE := hide (show (rwC x.r).all (·.oneCell') = true by simp [rwC, Value.oneCell'])
   obtain ⟨xs, hxs⟩ : ∃ z, (l.take i).flatMap rrL = z := ⟨_, rfl⟩
   rw [hxs] at hown HTK
   have HOWN := hide hown
   have HBW := hide hbw
   obtain ⟨i0, hi0, hz0, hz1, hz2⟩ := info_parts rrow_info
   clear hx hir hz hown hbw hxs
   obtain ⟨⟨kind, rt, rsp, rsize, ⟨osp, onum, osize, oel, ofl, opr, oect⟩, delay, ra, rn, rc, marked, e0, e1, e2, ea, en, ec, err, smooth⟩, es, rs⟩ := x
   go_upto_region 6 with (first
    | (refine wpList_load_at rfl 36 (.tmp 14) rfl ⟨g, o + i * 20, none⟩ rfl (rwC ⟨kind, rt, rsp, rsize, ⟨osp, onum, osize, oel, ofl, opr, oect⟩, delay, ra, rn, rc, marked, e0, e1, e2, ea, en, ec, err, smooth⟩) _ HC.out Try.underlying36 rfl row_size ?_)
    | (refine wpList_store_row rfl 36 (.tmp 5) (.tmp 15) rfl wr.heap.size (rwC ⟨kind, rt, rsp, rsize, ⟨osp, onum, osize, oel, ofl, opr, oect⟩, delay, ra, rn, rc, marked, e0, e1, e2, ea, en, ec, err, smooth⟩) rfl rfl 36 #[ZI ZQ 0, ZI ZQ 0, ZI ZQ 0, ZI ZQ 0, ZI ZQ 0, ZI ZQ 0, ZI ZQ 0, .bool false, .bool false, .bool false, .bool false, ZI ZQ 0, .slice none 0 0, .bool false, ZI ZQ 0, ZI ZQ 0, ZI ZQ 0, .slice none 0 0, ZI ZQ 0, ZI ZQ 0] HA.out row_size rfl HONE.out ?_))
   have hb4 : Below wr.heap.size wr ((wr.alloc (.cells #[ZI ZQ 0, ZI ZQ 0, ZI ZQ 0, ZI ZQ 0, ZI ZQ 0, ZI ZQ 0, ZI ZQ 0, .bool false, .bool false, .bool false, .bool false, ZI ZQ 0, .slice none 0 0, .bool false, ZI ZQ 0, ZI ZQ 0, ZI ZQ 0, .slice none 0 0, ZI ZQ 0, ZI ZQ 0] 36)).setRow wr.heap.size (rwC ⟨kind, rt, rsp, rsize, ⟨osp, onum, osize, oel, ofl, opr, oect⟩, delay, ra, rn, rc, marked, e0, e1, e2, ea, en, ec, err, smooth⟩)) := row_new wr _ _ _
   have hxr4 : Blk ((wr.alloc (.cells #[ZI ZQ 0, ZI ZQ 0, ZI ZQ 0, ZI ZQ 0, ZI ZQ 0, ZI ZQ 0, ZI ZQ 0, .bool false, .bool false, .bool false, .bool false, ZI ZQ 0, .slice none 0 0, .bool false, ZI ZQ 0, ZI ZQ 0, ZI ZQ 0, .slice none 0 0, ZI ZQ 0, ZI ZQ 0] 36)).setRow wr.heap.size (rwC ⟨kind, rt, rsp, rsize, ⟨osp, onum, osize, oel, ofl, opr, oect⟩, delay, ra, rn, rc, marked, e0, e1, e2, ea, en, ec, err, smooth⟩)) wr.heap.size 36 (rwC ⟨kind, rt, rsp, rsize, ⟨osp, onum, osize, oel, ofl, opr, oect⟩, delay, ra, rn, rc, marked, e0, e1, e2, ea, en, ec, err, smooth⟩) := blk_setRow HA.out
   have ho := own_below HOWN.out hb4
   have hbw4 := HBW.out.trans (hb4.mono HBW.out.size)
   obtain ⟨W4, hW4⟩ : ∃ y, (wr.alloc (.cells #[ZI ZQ 0, ZI ZQ 0, ZI ZQ 0, ZI ZQ 0, ZI ZQ 0, ZI ZQ 0, ZI ZQ 0, .bool false, .bool false, .bool false, .bool false, ZI ZQ 0, .slice none 0 0, .bool false, ZI ZQ 0, ZI ZQ 0, ZI ZQ 0, .slice none 0 0, ZI ZQ 0, ZI ZQ 0] 36)).setRow wr.heap.size (rwC ⟨kind, rt, rsp, rsize, ⟨osp, onum, osize, oel, ofl, opr, oect⟩, delay, ra, rn, rc, marked, e0, e1, e2, ea, en, ec, err, smooth⟩) = y := ⟨_, rfl⟩
   obtain ⟨X, hX⟩ : ∃ y, wr.heap.size = y := ⟨_, rfl⟩
   rw [hW4] at hxr4 ho hbw4
   rw [hX] at hxr4
   rw [hW4, hX]
   have r0 := hxr4.cell 0
   have r1 := hxr4.cell 1
   have r2 := hxr4.cell 2
   have r3 := hxr4.cell 3
   have r4 := hxr4.cell 4
   have r5 := hxr4.cell 5
   have r6 := hxr4.cell 6
   have r7 := hxr4.cell 7
   have r8 := hxr4.cell 8
   have r9 := hxr4.cell 9
   have r10 := hxr4.cell 10
   have r11 := hxr4.cell 11
   have r12 := hxr4.cell 12
   have r13 := hxr4.cell 13
   have r14 := hxr4.cell 14
   have r15 := hxr4.cell 15
   have r16 := hxr4.cell 16
   have r17 := hxr4.cell 17
   have r18 := hxr4.cell 18
   have r19 := hxr4.cell 19
   simp only [rwC, ZG, ZH, ZJ] at r0 r1 r2 r3 r4 r5 r6 r7 r8 r9 r10 r11 r12 r13 r14 r15 r16 r17 r18 r19
   have hz4 := hbw4.size
   clear hW4 hX hb4 HA HC HONE hxr4 HOWN HBW
   unfold rwC
   go_wp2_with (at_builtin; refine wpList_append_any _ rfl (.tmp 16) (.tmp 36) _ rfl w.heap.size 93 i0 _ 20 168 Try.underlying64 hi0 hz0 hz1 hz2 rfl (by decide) (.slice A' i c') i xs rfl (by exact ho.alloc _) (W4.heap.size + 1) (some ⟨W4.heap.size, 0, none⟩) 1 1 [ZI ZQ kind, ZI ZQ rt, ZI ZQ rsp, ZI ZQ rsize, ZI ZQ osp, ZI ZQ onum, ZI ZQ osize, .bool oel, .bool ofl, .bool opr, .bool oect, ZI ZQ delay, .slice ra rn rc, .bool marked, ZI ZQ e0, ZI ZQ e1, ZI ZQ e2, .slice ea en ec, ZI ZQ err, ZI ZQ smooth] rfl (by exact reads_lit (blk_new_at (by simp)) (by simp) rfl) (by simp [Value.oneCell']) (by unfold maxLen; omega) (by omega) (by simp; omega) ?_; intro v8 w8 hown8 hg8 hat8; obtain ⟨g8, cap8, rfl⟩ := own_form hown8)
   go_roundg (n - (i + 1))
   case rel => exact ⟨i + 1, _, _, rfl, by go_num, by omega, by omega, by rw [HTK.out]; exact hown8, Below.grown (hbw4.alloc hz4 _) hg8 (by simp; omega) (fun g e => (ho.lt g e).1)⟩
   case measure => omega
  ·obtain rfl : i = n := by omega
   have hin : ¬ (i : Int) < (i : Int) := by omega
   have HOWN := hide hown
   have HBW := hide hbw
   clear hown hbw
   go_wp2_with fail
   go_ret
   refine ⟨_, _, rfl, ?_, HBW.out⟩
   have := HOWN.out
   rw [List.take_of_length_le (by rw [HN.out]; exact Nat.le_refl _)] at this
   exact lie_own rrL_length this HN.out
end Go.Proofs.Ytidfngcclbhoaaa
