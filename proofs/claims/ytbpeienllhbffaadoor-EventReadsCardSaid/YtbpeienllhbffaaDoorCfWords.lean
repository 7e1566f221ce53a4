/-
  conf.number, conf.words, and slices.IndexFunc over the rows. Printed by wip/genc3.py.
-/
import Derived.Test.YtbpeienllhbffaaDoorCfText
namespace Go.Proofs.YtbpeienllhbffaaDoor
set_option linter.unusedSimpArgs false
set_option linter.unusedVariables false
open Go.RowKit Go.Shelf

def NumEnds (s : ByteArray) (e : Ending) : Prop := match numberB s with
  | some n => e = .returned (.tuple #[.int .i64 n, .bool true])
  | none => ∃ z, e = .returned (.tuple #[.int .i64 z, .bool false])
theorem atoi_cases (s : ByteArray) : (∃ v, Lib.atoiAll s.data.toList = .ok v) ∨ ((∀ v, Lib.atoiAll s.data.toList ≠ .ok v) ∧ numberB s = none) := by
  unfold numberB
  cases h : Lib.atoiAll s.data.toList
  · exact .inl ⟨_, rfl⟩
  · exact .inr ⟨fun v e => (by cases e), rfl⟩
  · exact .inr ⟨fun v e => (by cases e), rfl⟩
theorem str_ne {a b : ByteArray} (h : a ≠ b) : (a.toList == b.toList) = false := by
  rw [beq_eq_false_iff_ne]
  intro e
  rw [Lib.toList_data, Lib.toList_data] at e
  exact h (ba_eq e)
theorem str_eq (a b : ByteArray) : (a.toList == b.toList) = decide (a = b) := by
  by_cases h : a = b
  · subst h
    simp
  · rw [str_ne h, decide_eq_false h]
set_option maxRecDepth 100000 in
set_option maxHeartbeats 2000000 in
theorem number_any (s : ByteArray) (hs : s.size ≤ 65536) (w : World) (E : Env w) : Calls Tryd.prog 64 #[.string s] w fun e w' => NumEnds s e ∧ Below w.heap.size w w' := by
  rcases atoi_cases s with ⟨v, hv⟩ | ⟨hn, hno⟩
  · have hb := Lib.atoiAll_bounds hv
    have H1 := hide (fun W => Tryd.strconv_Atoi_ok s (by omega) v hv W)
    have hnb := numberB_ok hv
    have HE := hide E
    obtain ⟨t, ht⟩ : ∃ t : ByteArray, (⟨(Lib.itoa v).toArray⟩ : ByteArray) = t := ⟨_, rfl⟩
    have hteq : t = s ↔ Lib.itoa v = s.data.toList := by
      constructor
      · intro h
        rw [← h, ← ht]
      · intro h
        apply ba_eq
        rw [← ht]
        exact h
    unfold NumEnds
    rw [hnb]
    obtain ⟨r, hr⟩ : ∃ r, (if 0 ≤ v ∧ s.size ≤ 16 ∧ Lib.itoa v = s.data.toList then some v else none) = r := ⟨_, rfl⟩
    rw [hr]
    have HR := hide hr
    clear hv hnb E hr
    go_enter Tryd.func64, Tryd.ntmps64
    go_wp2_with fail
    refine (H1.out _).mono ?_
    rintro e1 w1 ⟨rfl, hw1⟩
    have hb1 : Below w.heap.size w w1 := by
      rcases hw1 with rfl | ⟨t, rfl⟩
      · exact Below.refl _ _
      · exact Lib.bytesWorld_below _ _ _
    have HB1 := hide hb1
    clear hw1 hb1
    by_cases h0 : 0 ≤ v
    · by_cases h1 : s.size ≤ 16
      · have h1i : (s.size : Int) ≤ 16 := by omega
        go_wp2_with fail
        refine (Tryd.strconv_Itoa v hb.1 hb.2 _ (HE.out.later HB1.out).tab).mono ?_
        rintro e2 w2 ⟨rfl, k2, os2, hw2⟩
        have hb2 : Below _ _ w2 := hw2 ▸ Lib.below_grow _ _ (Nat.le_refl _) _ _
        rw [ht]
        clear hw2
        by_cases h2 : t = s
        · have hr : r = some v := by rw [← HR.out, if_pos ⟨h0, h1, hteq.1 h2⟩]
          subst hr
          go_wp2_with fail
          exact bodyPost_ret (v := .tuple #[.int .i64 v, .bool true]) (by simp [results, Tryd.results64, go_sem]) rfl ⟨rfl, below2 HB1.out hb2⟩
        · have hr : r = none := by rw [← HR.out, if_neg (fun h => h2 (hteq.2 h.2.2))]
          subst hr
          have hq : (t.toList == s.toList) = false := str_ne h2
          go_wp2_with fail
          exact bodyPost_ret (v := .tuple #[.int .i64 v, .bool false]) (by simp [results, Tryd.results64, go_sem, hq]) rfl ⟨⟨v, rfl⟩, below2 HB1.out hb2⟩
      · have hr : r = none := by rw [← HR.out, if_neg (fun h => h1 h.2.1)]
        subst hr
        have h1i : ¬ (s.size : Int) ≤ 16 := by omega
        go_wp2_with fail
        exact bodyPost_ret (v := .tuple #[.int .i64 v, .bool false]) (by simp [results, Tryd.results64, go_sem]) rfl ⟨⟨v, rfl⟩, HB1.out⟩
    · have hr : r = none := by rw [← HR.out, if_neg (fun h => h0 h.1)]
      subst hr
      go_wp2_with fail
      exact bodyPost_ret (v := .tuple #[.int .i64 v, .bool false]) (by simp [results, Tryd.results64, go_sem]) rfl ⟨⟨v, rfl⟩, HB1.out⟩
  · obtain ⟨t1, p1, h1⟩ := E.syn
    obtain ⟨t2, p2, h2⟩ := E.ran
    have H1 := hide (Tryd.strconv_Atoi_bad s (by omega) hn t1 t2 p1 p2 w h1 h2)
    unfold NumEnds
    rw [hno]
    clear hn hno E h1 h2
    go_enter Tryd.func64, Tryd.ntmps64
    go_wp2_with fail
    refine H1.out.mono ?_
    rintro e1 w1 ⟨z, t, N, rfl, hb1⟩
    have HB1 := hide hb1
    clear hb1
    go_wp2_with fail
    exact bodyPost_ret (v := .tuple #[.int .i64 z, .bool false]) (by simp [results, Tryd.results64, go_sem]) rfl ⟨⟨z, rfl⟩, HB1.out⟩
/-- A row of strings. -/
def StrsAt (w : World) (A : Nat) (ws : List ByteArray) : Prop := A < w.heap.size ∧ ∀ (i : Nat) (s : ByteArray), ws[i]? = some s → w.cell? ⟨A, i, none⟩ = some (.string s)
theorem StrsAt.below {w w' : World} {A : Nat} {ws : List ByteArray} (h : StrsAt w A ws) (hb : Below w.heap.size w w') : StrsAt w' A ws := ⟨Nat.lt_of_lt_of_le h.1 hb.size, fun i s hi => (hb.cell (p := ⟨A, i, none⟩) h.1).trans (h.2 i s hi)⟩
theorem StrsAt.only {S : List Nat} {w w' : World} {A : Nat} {ws : List ByteArray} (h : StrsAt w A ws) (ho : Only S w w') (hA : A ∉ S) : StrsAt w' A ws := ⟨Nat.lt_of_lt_of_le h.1 ho.size, fun i s hi => (ho.cell (p := ⟨A, i, none⟩) h.1 hA).trans (h.2 i s hi)⟩
theorem strs_own {w : World} {base A n c : Nat} {ws : List ByteArray} (hn : ws.length = n) (h : w.ownsRow base 9 1 (.slice (some ⟨A, 0, none⟩) n c) n (ws.map Value.string)) : StrsAt w A ws := by
  rcases h.2 with ⟨e, _⟩ | ⟨k, cap, cur, e, hbk, hk, hc, hm, hcl, ht⟩
  · cases e
  · cases e
    refine ⟨?_, fun i s hi => ?_⟩
    · rcases Nat.lt_or_ge A w.heap.size with hlt | hge
      · exact hlt
      · rw [Array.getElem?_eq_none hge] at hk
        cases hk
    · have hil : i < ws.length := (List.getElem?_eq_some_iff.1 hi).1
      rw [cell_of_row w A i cur 9 (0, 0) hk]
      have e : (cur.toList.take (n * 1))[i]? = (ws.map Value.string)[i]? := by rw [ht]
      rw [List.getElem?_take, if_pos (by omega)] at e
      rw [← Array.getElem?_toList, e]
      simp [hi]
theorem blank_any (x : Nat) (w : World) : Calls Tryd.prog 93 #[.int .i32 x] w fun e w' => e = .returned (.bool (isBlank x)) ∧ Below w.heap.size w w' := by
  unfold isBlank
  go_enter Tryd.func93, Tryd.ntmps93
  go_wp2
  go_ret
  refine ⟨?_, Below.refl _ _⟩
  show Ending.returned (Value.bool ((x : Int) == 32)) = _
  have e : ((x : Int) == 32) = decide (x = 32) := by
    by_cases h : x = 32
    · subst h
      rfl
    · rw [decide_eq_false h, beq_eq_false_iff_ne]
      omega
  rw [e]
theorem words_any (s : ByteArray) (hs : s.size ≤ 65536) (w : World) : Calls Tryd.prog 61 #[.string s] w fun e w' => ∃ A, e = .returned (.slice (some ⟨A, 0, none⟩) (wordsB s).length (wordsB s).length) ∧ StrsAt w' A (wordsB s) ∧ w.heap.size ≤ A ∧ Below w.heap.size w w' := by
  have H := hide (fun W => Tryd.strings_FieldsFunc_grows 93 #[] (enters_of Tryd.func93 (by kernel_rfl) rfl) isBlank s W (by omega) (fun W' x _ _ => blank_any x W'))
  go_enter Tryd.func61, Tryd.ntmps61
  go_wp2_with fail
  refine (H.out _).mono ?_
  rintro e1 w1 ⟨A, rfl, hA, hown, hb⟩
  go_wp2_with fail
  go_ret
  exact ⟨A, rfl, strs_own rfl hown, hA, hb⟩
/-- The name's test. -/
theorem named_any (i A0 wb W0 n c : Nat) (v u : Value) (s : ByteArray) (w : World) (hv : ∃ g lb, v = .func (.func g) #[] lb) (hu : ∃ g lb, u = .func (.func g) #[] lb) (hn : 0 < n) (hw : w.cell? ⟨wb, 0, none⟩ = some (.slice (some ⟨W0, 0, none⟩) n c)) (hs : w.cell? ⟨W0, 0, none⟩ = some (.string s)) (hwl : wb < w.heap.size) (hsl : W0 < w.heap.size) :
    Calls Tryd.prog 63 #[.agg #[.string (nameB i), v, u], .pointer (some ⟨wb, 0, none⟩)] w fun e w' => e = .returned (.bool (decide (nameB i = s))) ∧ Below w.heap.size w w' := by
  obtain ⟨g, lb, rfl⟩ := hv
  obtain ⟨g2, lb2, rfl⟩ := hu
  have hni : (0 : Int) < (n : Int) := by omega
  rw [← str_eq]
  go_enter Tryd.func63, Tryd.ntmps63
  go_wp2_with fail
  go_quiet (fail)
  go_wp2_with fail
  go_ret
  exact ⟨rfl, below_drewN ((Below.refl _ _).alloc (Nat.le_refl _) _) _⟩
set_option maxRecDepth 100000 in
set_option maxHeartbeats 2000000 in
theorem index_any (A wb W0 n c : Nat) (s : ByteArray) (w : World) (hA : NamesAt w A) (hn : 0 < n) (hw : w.cell? ⟨wb, 0, none⟩ = some (.slice (some ⟨W0, 0, none⟩) n c)) (hs : w.cell? ⟨W0, 0, none⟩ = some (.string s)) (hwl : wb < w.heap.size) (hsl : W0 < w.heap.size) :
    Calls Tryd.prog 62 #[.slice (some ⟨A, 0, none⟩) 10 10, .func (.func 63) #[] #[.pointer (some ⟨wb, 0, none⟩)]] w fun e w' => e = .returned (.int .i64 (placeI s)) ∧ Below w.heap.size w w' := by
  have HA := hide hA
  have HW := hide hw
  have HS := hide hs
  clear hA hw hs
  go_enter Tryd.func62, Tryd.ntmps62
  go_wp2_with fail
  go_loopg [8, 5] 10 (fun kx s8 s5 wr => ∃ i : Nat, s8 = .int .i64 i ∧ i ≤ 10 ∧ 10 - i ≤ kx ∧ Hid (placeN s i = none) ∧ Below w.heap.size w wr)
  case atStart => exact ⟨0, rfl, by omega, by omega, rfl, Below.refl _ _⟩
  case round =>
    obtain ⟨i, rfl, hi, hkx, hno, hB⟩ := hrel
    have HB := hide hB
    by_cases hlt : i < 10
    · have hin : (i : Int) < 10 := by omega
      have hi0 : (0 : Int) ≤ (i : Int) := by omega
      obtain ⟨v, u, z0, z1, z2, hN, hU⟩ := (HA.out.below HB.out).row hlt
      have HNM := hide (named_any i 0 wb W0 n c v u s wr (by obtain ⟨g, lb, e, _⟩ := hN; exact ⟨g, lb, e⟩) hU hn ((HB.out.cell (p := ⟨wb, 0, none⟩) hwl).trans HW.out) ((HB.out.cell (p := ⟨W0, 0, none⟩) hsl).trans HS.out) (Nat.lt_of_lt_of_le hwl HB.out.size) (Nat.lt_of_lt_of_le hsl HB.out.size))
      obtain ⟨g, lb, rfl, _⟩ := hN
      obtain ⟨g2, lb2, rfl⟩ := hU
      have hps := placeN_succ s i
      rw [hno] at hps
      clear hB
      by_cases heq : nameB i = s
      · rw [decide_eq_true heq] at HNM
        rw [if_pos heq] at hps
        clear heq
        have hpi : placeI s = i := by
          unfold placeI
          rw [placeN_mono hps (by omega)]
        go_wp2_with fail
        refine HNM.out.mono ?_
        rintro e1 w1 ⟨rfl, hb1⟩
        go_wp2_with fail
        go_ret
        exact ⟨by rw [hpi]; rfl, below2 HB.out hb1⟩
      · rw [decide_eq_false heq] at HNM
        rw [if_neg heq] at hps
        clear heq
        go_wp2_with fail
        refine HNM.out.mono ?_
        rintro e1 w1 ⟨rfl, hb1⟩
        go_wp2_with fail
        go_roundg (10 - (i + 1))
        case rel => exact ⟨i + 1, by go_num, by omega, by omega, hps, below2 HB.out hb1⟩
        case measure => omega
    · have hi10 : i = 10 := by omega
      subst hi10
      have hpi : placeI s = -1 := by
        unfold placeI
        rw [hno]
      clear hlt hkx hno
      go_wp2_with fail
      go_ret
      exact ⟨by rw [hpi]; rfl, hB⟩
end Go.Proofs.YtbpeienllhbffaaDoor
