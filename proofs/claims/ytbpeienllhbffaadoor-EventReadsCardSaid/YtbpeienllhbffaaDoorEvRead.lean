/-
  event.read: its walk.
-/
import Derived.Test.YtbpeienllhbffaaDoorEvReadPlain
import Derived.Test.YtbpeienllhbffaaDoorEvLine
import Derived.Test.YtbpeienllhbffaaDoorCfWords
import Derived.Maps.RangeRun
import Derived.WalkLawsBesides
namespace Go.Proofs.YtbpeienllhbffaaDoor
set_option linter.unusedSimpArgs false
set_option linter.unusedVariables false
open Go.RowKit Go.Shelf
open Go.ChangeMaps (setBlock)

def ReadEnds (r : Option EV) (line : Int) (x : Ending) : Prop := match r with
  | some e => x = .returned (.agg (evC e))
  | none => x = .panicked [{ v := .iface 62 (.agg #[.int .i64 line, .int .i64 4]), recovered := false }]
theorem forms_born (B : Nat → Nat) (n : Nat) : ∀ x ∈ (formsE B n).toList, ∃ i < n, x = ⟨.int .i64 ((i + 1 : Nat) : Int), formV (i + 1) (B (i + 1)), i⟩ := fun x hx => by
  unfold formsE at hx
  simp only [List.toList_toArray] at hx
  obtain ⟨i, hi, rfl⟩ := List.mem_map.1 hx
  exact ⟨i, List.mem_range.1 hi, rfl⟩
theorem forms_nodup (B : Nat → Nat) (n : Nat) : ((formsE B n).toList.map (·.born)).Nodup := by
  unfold formsE
  simp only [List.toList_toArray, List.map_map]
  have e : ((fun x : MapEntry => x.born) ∘ fun i : Nat => (⟨.int .i64 ((i + 1 : Nat) : Int), formV (i + 1) (B (i + 1)), i⟩ : MapEntry)) = id := rfl
  rw [e, List.map_id]
  exact List.nodup_range
/-- What a round of read leaves. -/
structure RdAt (w W : World) (A M r : Nat) (B : Nat → Nat) (ws : List ByteArray) (seen : Array Nat) (e : EV) : Prop where
  env : Env W
  fm : FormsAt W M 6 B
  it : W.heap[r]? = some (.mapIter (some M) 6 seen 6)
  wd : StrsAt W A ws
  bx : Blk W w.heap.size 36 (evC e)
  bl : Below w.heap.size w W
  six : 6 ≤ w.heap.size
  lt : w.heap.size < A ∧ A < M ∧ M < r ∧ ∀ k, 1 ≤ k → k ≤ 6 → A < B k ∧ B k < r
theorem RdAt.rlt {w W : World} {A M r : Nat} {B : Nat → Nat} {ws : List ByteArray} {seen : Array Nat} {e : EV} (h : RdAt w W A M r B ws seen e) : r < W.heap.size := by
  rcases Nat.lt_or_ge r W.heap.size with hl | hl
  · exact hl
  · have := h.it
    rw [Array.getElem?_eq_none hl] at this
    cases this
theorem RdAt.below {w W W' : World} {A M r : Nat} {B : Nat → Nat} {ws : List ByteArray} {seen : Array Nat} {e : EV} (h : RdAt w W A M r B ws seen e) (hb : Below W.heap.size W W') : RdAt w W' A M r B ws seen e :=
  ⟨h.env.later hb, h.fm.below hb, (hb.block r h.rlt).trans h.it, h.wd.below hb, (hb.block _ (Blk.lt h.bx)).trans h.bx, below2 h.bl hb, h.six, h.lt⟩
/-- The iterator has stepped on. -/
theorem RdAt.step {w W W1 : World} {A M r : Nat} {B : Nat → Nat} {ws : List ByteArray} {seen : Array Nat} {e : EV} (h : RdAt w W A M r B ws seen e) (h1 : W1 = W ∨ W1 = W.drew) (s2 : Array Nat) : RdAt w (setBlock W1 r (.mapIter (some M) 6 s2 6)) A M r B ws s2 e := by
  have hd : RdAt w W1 A M r B ws seen e := by
    rcases h1 with rfl | rfl
    · exact h
    · exact h.below ((Below.refl _ _).drew)
  clear h h1
  have ho : Only [r] W1 (setBlock W1 r (.mapIter (some M) 6 s2 6)) := ⟨rfl, rfl, rfl, by simp [setBlock], fun k hk hM => by
    show (W1.heap.setIfInBounds r _)[k]? = _
    rw [Array.getElem?_setIfInBounds_ne (by intro e; subst e; simp at hM)]⟩
  have hr := hd.rlt
  have hlt := hd.lt
  refine ⟨hd.env.only ho (fun x hx => by simp at hx; have := hd.six; omega), hd.fm.only ho (by simp; omega) (fun k h1 h2 => by have := hlt.2.2.2 k h1 h2; simp; omega), ?_, hd.wd.only ho (by simp; omega), ho.blk hd.bx (by simp; omega), hd.bl.trans (ho.below (fun x hx => by simp at hx; omega) hd.bl.size), hd.six, hd.lt⟩
  show (W1.heap.setIfInBounds r _)[r]? = _
  rw [Array.getElem?_setIfInBounds_self, if_pos hr]
/-- A field of the event is stored. -/
theorem RdAt.put {w W : World} {A M r : Nat} {B : Nat → Nat} {ws : List ByteArray} {seen : Array Nat} {e e' : EV} (h : RdAt w W A M r B ws seen e) (j : Nat) (v : Int) (he : (evC e).setIfInBounds j (.int .i64 v) = evC e') : RdAt w (W.setCell ⟨w.heap.size, j, none⟩ (.int .i64 v)) A M r B ws seen e' := by
  have ho : Only [w.heap.size] W (W.setCell ⟨w.heap.size, j, none⟩ (.int .i64 v)) := Only.setCell (Only.refl _ _) (p := ⟨w.heap.size, j, none⟩) (.inl (by simp)) _
  have hlt := h.lt
  have hbx := Blk.set h.bx j (.int .i64 v)
  rw [he] at hbx
  exact ⟨h.env.only ho (fun x hx => by simp at hx; have := h.six; omega), h.fm.only ho (by simp; omega) (fun k h1 h2 => by have := hlt.2.2.2 k h1 h2; simp; omega), (ho.block r h.rlt (by simp; omega)).trans h.it, h.wd.only ho (by simp; omega), hbx, h.bl.trans (ho.below (fun x hx => by simp at hx; omega) h.bl.size), h.six, h.lt⟩
theorem cur_skip {ws : List ByteArray} {seen : Array Nat} {e : EV} {i : Nat} (h : CurEv ws seen e) (hi : i < 6) (hf : fitsK ws (i + 1) = false) : CurEv ws (seen.push i) e := by
  unfold CurEv at h ⊢
  cases hk : kindW ws with
  | none =>
    rw [hk] at h
    exact h
  | some k =>
    rw [hk] at h
    have hk2 := kindW_some.1 hk
    simp only [] at h ⊢
    have hne : ((k - 1) == i) = false := by
      rw [beq_eq_false_iff_ne]
      intro e
      have : k = i + 1 := by omega
      rw [this, hf] at hk2
      cases hk2.2
    rw [contains_push, hne, Bool.or_false]
    exact h
theorem left_start (B : Nat → Nat) : (leftOf (formsE B 6) #[]).size ≤ 6 := by
  unfold leftOf
  refine Nat.le_trans Array.size_filter_le ?_
  unfold formsE
  simp
theorem left_mem {es : Array MapEntry} {seen : Array Nat} {x : MapEntry} (h : x ∈ (leftOf es seen).toList) : x ∈ es.toList := by
  unfold leftOf at h
  simp only [Array.toList_filter, List.mem_filter] at h
  exact h.1
theorem left_none {B : Nat → Nat} {seen : Array Nat} (h : (leftOf (formsE B 6) seen).size = 0) (i : Nat) (hi : i < 6) : seen.contains i = true := by
  by_cases hc : seen.contains i = true
  · exact hc
  · exfalso
    have hm : (⟨.int .i64 ((i + 1 : Nat) : Int), formV (i + 1) (B (i + 1)), i⟩ : MapEntry) ∈ (leftOf (formsE B 6) seen).toList := by
      unfold leftOf
      simp only [Array.toList_filter, List.mem_filter]
      refine ⟨?_, by simp only [Bool.not_eq_true] at hc; simp only [hc, Bool.not_false]⟩
      unfold formsE
      simp only [List.toList_toArray]
      exact List.mem_map.2 ⟨i, List.mem_range.2 hi, rfl⟩
    have : (leftOf (formsE B 6) seen).toList = [] := List.eq_nil_of_length_eq_zero (by simpa using h)
    rw [this] at hm
    cases hm
theorem forms_old (B : Nat → Nat) : ∀ x ∈ (formsE B 6).toList, x.born < 6 := fun x hx => by
  obtain ⟨i, hi, rfl⟩ := forms_born B 6 x hx
  exact hi
theorem RdAt.put4 {w W : World} {A M r : Nat} {B : Nat → Nat} {ws : List ByteArray} {seen : Array Nat} {e : EV} (h : RdAt w W A M r B ws seen e) : RdAt w ((((W.setCell ⟨w.heap.size, 0, none⟩ (.int .i64 e.kind)).setCell ⟨w.heap.size, 1, none⟩ (.int .i64 e.sp)).setCell ⟨w.heap.size, 2, none⟩ (.int .i64 e.num)).setCell ⟨w.heap.size, 3, none⟩ (.int .i64 e.n)) A M r B ws seen e :=
  (((h.put 0 e.kind (e' := e) rfl).put 1 e.sp (e' := e) rfl).put 2 e.num (e' := e) rfl).put 3 e.n (e' := e) rfl
theorem split_size (sep : ByteArray) : ∀ (k : Nat) (s : ByteArray), ∀ x ∈ Lib.splitB sep 0 k s, x.size ≤ s.size
  | 0, s, x, h => by
    rw [Lib.splitB_zero] at h
    rw [List.mem_singleton.1 h]
    exact Nat.le_refl _
  | k + 1, s, x, h => by
    unfold Lib.splitB at h
    split at h
    · rw [List.mem_singleton.1 h]
      exact Nat.le_refl _
    · rcases List.mem_cons.1 h with rfl | h
      · rw [ByteArray.size_extract]
        omega
      · have := split_size sep k _ x h
        rw [ByteArray.size_extract] at this
        omega
theorem cur_fit {ws : List ByteArray} {seen : Array Nat} {e : EV} {i : Nat} (h : CurEv ws seen e) (hi : i < 6) (hs : seen.contains i = false) (hf : fitsK ws (i + 1) = true) : e = zeroEV ∧ kindW ws = some (i + 1) := by
  have hk : kindW ws = some (i + 1) := kindW_some.2 ⟨⟨by omega, by omega⟩, hf⟩
  unfold CurEv at h
  rw [hk] at h
  simp only [Nat.add_sub_cancel, hs, Bool.false_eq_true, if_false] at h
  exact ⟨h, hk⟩
theorem cur_done {ws : List ByteArray} {seen : Array Nat} {e : EV} {i : Nat} (hk : kindW ws = some (i + 1)) (h : evOf ws (i + 1) = some e) : CurEv ws (seen.push i) e := by
  unfold CurEv
  rw [hk]
  simp only [Nat.add_sub_cancel, contains_push, beq_self_eq_true, Bool.or_true, if_true]
  exact h
theorem read_bad {ws : List ByteArray} {k j : Nat} (hk : kindW ws = some k) (hj : j ≤ (fieldsF k).length) (h : evN ws (fieldsF k) { zeroEV with kind := k } j = none) : readW ws = none := by
  unfold readW
  rw [hk]
  have he : evOf ws k = none := evN_le h _ hj
  simp only [he]
theorem evN_step {ws : List ByteArray} {fs : List Fd} {e x : EV} {j : Nat} {f : Fd} (h : evN ws fs e j = some x) (hf : fs[j]? = some f) : evN ws fs e (j + 1) = match numZ (partAt ws (j + 1)) with | none => none | some v => some (x.set f.j v) := by
  simp only [evN, h, hf]
  cases numZ (partAt ws (j + 1)) <;> rfl
theorem left_not {es : Array MapEntry} {seen : Array Nat} {x : MapEntry} (h : x ∈ (leftOf es seen).toList) : seen.contains x.born = false := by
  unfold leftOf at h
  simp only [Array.toList_filter, List.mem_filter] at h
  simpa using h.2
theorem read_end {ws : List ByteArray} {seen : Array Nat} {e : EV} (h : CurEv ws seen e) (hs : ∀ i < 6, seen.contains i = true) : readW ws = if okEV e then some e else none := by
  unfold CurEv at h
  unfold readW
  cases hk : kindW ws with
  | none =>
    rw [hk] at h
    simp only [] at h ⊢
    rw [h]
    rfl
  | some k =>
    have hk2 := kindW_some.1 hk
    rw [hk] at h
    simp only [hs (k - 1) (by omega), if_true] at h
    simp only [h]
set_option maxRecDepth 100000 in
set_option maxHeartbeats 8000000 in
theorem read_any (s : ByteArray) (line : Int) (w : World) (hE : Env w) (hs : s.size ≤ 1048576) : Calls Tryd.prog 43 #[.string s, .int .i64 line] w fun x w' => ReadEnds (readE s) line x ∧ Below w.heap.size w w' := by
  have HE := hide hE
  obtain ⟨ws, hws⟩ : ∃ z, partsB s = z := ⟨_, rfl⟩
  have hlen := parts_length s
  unfold readE
  rw [hws] at hlen ⊢
  obtain ⟨N, hN⟩ : ∃ N, Lib.countB s spB + 1 = N := ⟨_, rfl⟩
  rw [hN] at hlen
  have hN2 : N ≤ 1048577 := by
    have := Lib.countB_le spB (by decide) s.size s (Nat.le_refl _)
    omega
  obtain ⟨m, hm⟩ := HE.out.max
  have ha0 : Below w.heap.size w (w.alloc (.cells (evC zeroEV) 36)) := (Below.refl _ _).alloc (Nat.le_refl _) _
  have hE0 := HE.out.later ha0
  obtain ⟨m, hm⟩ := hE0.max
  have hsp := Tryd.strings_Split s spB m (w.alloc (.cells (evC zeroEV) 36)) (by omega) hm (by decide)
  have hL : Lib.splitB spB 0 (Lib.countB s spB) s = ws := hws
  rw [hL, hN] at hsp
  unfold spB at hsp
  simp only [evC, zeroEV] at hsp
  have HSP := hide hsp
  obtain ⟨res, hres⟩ : ∃ r, readW ws = r := ⟨_, rfl⟩
  have HRES := hide hres
  rw [hres]
  have HSZ := hide (show ∀ x ∈ ws, x.size ≤ 1048576 from fun x hx => Nat.le_trans (split_size spB _ s x (by rw [← hws] at hx; exact hx)) hs)
  have HLEN := hide hlen
  have HNP := hide (show 0 < N by omega)
  have HF := hide (fun W => forms_any W)
  have hbx := Blk.new w 36 (evC zeroEV)
  have HBX := hide hbx
  have HA0 := hide ha0
  clear hsp hL hres hlen hN hws hm hE hE0 hbx ha0
  go_enter Tryd.func43, Tryd.ntmps43
  go_wp2_with fail
  refine HSP.out.mono ?_
  rintro e1 w1 ⟨rfl, hw1⟩
  have hA : (w.alloc (.cells #[.int .i64 0, .int .i64 0, .int .i64 0, .int .i64 0] 36)).heap.size = w.heap.size + 1 := by simp
  have hb1 : Below (w.alloc (.cells (evC zeroEV) 36)).heap.size (w.alloc (.cells (evC zeroEV) 36)) w1 := by
    rw [hw1]
    exact (Below.refl _ _).alloc (Nat.le_refl _) _
  have hst : StrsAt w1 (w.heap.size + 1) ws := by
    rw [hw1]
    refine ⟨by simp, fun i x hi => ?_⟩
    have hB := Blk.new (w.alloc (.cells #[.int .i64 0, .int .i64 0, .int .i64 0, .int .i64 0] 36)) 9 (ws.map Value.string).toArray
    rw [hA] at hB
    rw [hB.cell, List.getElem?_toArray, List.getElem?_map, hi]
    rfl
  have hz1 : w1.heap.size = w.heap.size + 2 := by rw [hw1]; simp
  rw [hA]
  have HST := hide hst
  have HBX1 := hide ((hb1.block _ (Blk.lt HBX.out)).trans HBX.out : Blk w1 w.heap.size 36 (evC zeroEV))
  have HB1 := hide (below2 HA0.out hb1)
  clear HSP hw1 hA hb1 hst HBX HA0
  go_wp2_with fail
  refine (HF.out _).mono ?_
  rintro e2 w2 ⟨M, B, rfl, hF, hM, hB, hb2⟩
  have hrg := run_range_map (P := Tryd.prog) w2 84 3 82 M (formsE B 6) 6 mt hF.map
  have hBl : ∀ k, 1 ≤ k → k ≤ 6 → B k < w2.heap.size := fun k h1 h2 => Blk.lt (hF.rows k h1 h2)
  have hMl := hF.mlt
  have ha3 : Below w2.heap.size w2 (w2.alloc (.mapIter (some M) 6 #[] 6)) := (Below.refl _ _).alloc (Nat.le_refl _) _
  have hR : RdAt w (w2.alloc (.mapIter (some M) 6 #[] 6)) (w.heap.size + 1) M w2.heap.size B ws #[] zeroEV :=
    ⟨(HE.out.later HB1.out).later (below2 hb2 ha3), hF.below ha3, heap_alloc_new _ _, (HST.out.below hb2).below ha3, Blk.alloc (show Blk w2 w.heap.size 36 (evC zeroEV) from (hb2.block _ (Blk.lt HBX1.out)).trans HBX1.out) _, below2 (below2 HB1.out hb2) ha3, HE.out.size, by omega, by omega, hMl, fun k h1 h2 => ⟨by have := hB k h1 h2; omega, hBl k h1 h2⟩⟩
  have HR := hide hR
  clear hF hM hB hb2 hBl hMl ha3 hR HST HBX1 HB1 HF
  go_wp2_with fail
  obtain ⟨r, hr⟩ : ∃ r, w2.heap.size = r := ⟨_, rfl⟩
  rw [hr] at HR hrg
  rw [hr]
  go_loopg [6] 6 (fun kx s6 wr => ∃ seen e, (leftOf (formsE B 6) seen).size ≤ kx ∧ RdAt w wr (w.heap.size + 1) M r B ws seen e ∧ CurEv ws seen e)
  case atStart =>
    refine ⟨#[], zeroEV, left_start B, HR.out, ?_⟩
    unfold CurEv
    split
    · rfl
    · simp
  case round =>
    obtain ⟨seen, e, hkx, hR, hC⟩ := hrel
    have HR := hide hR
    have HC := hide hC
    rcases run_next_at (P := Tryd.prog) wr 0 r M 6 6 seen (formsE B 6) 6 hR.it hR.fm.map (forms_old B) (by omega) with ⟨h0, hrun⟩ | ⟨x, hx, w3, hw3, hrun⟩
    · have hend := read_end hC (left_none h0)
      rw [HRES.out] at hend
      have q0 := hR.bx.cell 0
      have q1 := hR.bx.cell 1
      have q2 := hR.bx.cell 2
      have q3 := hR.bx.cell 3
      obtain ⟨e0, e1, e2, e3⟩ := e
      simp only [evC, List.getElem?_toArray, List.getElem?_cons_zero, List.getElem?_cons_succ] at q0 q1 q2 q3
      have HCK := hide (fun W => evcheck_any ⟨e0, e1, e2, e3⟩ W)
      unfold errEV at HCK
      simp only [evC] at HCK
      clear hrg hR hC
      by_cases hok : okEV ⟨e0, e1, e2, e3⟩ = true
      · rw [if_pos hok] at HCK hend
        subst hend
        go_wp2_with fail
        refine (HCK.out _).mono ?_
        rintro e5 w5 ⟨rfl, hb5⟩
        have HR5 := hide (HR.out.below hb5)
        have q0 := HR5.out.bx.cell 0
        have q1 := HR5.out.bx.cell 1
        have q2 := HR5.out.bx.cell 2
        have q3 := HR5.out.bx.cell 3
        simp only [evC, List.getElem?_toArray, List.getElem?_cons_zero, List.getElem?_cons_succ] at q0 q1 q2 q3
        have f0 := HR5.out.bx.frozen 0
        have f1 := HR5.out.bx.frozen 1
        have f2 := HR5.out.bx.frozen 2
        have f3 := HR5.out.bx.frozen 3
        have HR6 := hide HR5.out.put4
        clear hb5
        go_wp2_with fail
        have q0 := HR6.out.bx.cell 0
        have q1 := HR6.out.bx.cell 1
        have q2 := HR6.out.bx.cell 2
        have q3 := HR6.out.bx.cell 3
        simp only [evC, List.getElem?_toArray, List.getElem?_cons_zero, List.getElem?_cons_succ] at q0 q1 q2 q3
        have hB6 := HR6.out.bl
        exact bodyPost_ret (v := .agg #[.int .i64 e0, .int .i64 e1, .int .i64 e2, .int .i64 e3]) (by simp [results, Tryd.results43, go_sem, q0, q1, q2, q3]) rfl ⟨rfl, hB6⟩
      · rw [if_neg hok] at HCK hend
        subst hend
        go_wp2_with fail
        refine (HCK.out _).mono ?_
        rintro e5 w5 ⟨rfl, hb5⟩
        have HR5 := hide (HR.out.below hb5)
        clear hb5
        go_wp2_with fail
        exact ⟨rfl, rfl, HR5.out.bl⟩
    · obtain ⟨i, hi, rfl⟩ := forms_born B 6 x (left_mem hx)
      simp only [] at hrun
      have hR2 := hR.step hw3 (seen.push i)
      obtain ⟨W2, hW2⟩ : ∃ z, setBlock w3 r (.mapIter (some M) 6 (seen.push i) 6) = z := ⟨_, rfl⟩
      rw [hW2] at hrun hR2
      have hre := run_entry_at (P := Tryd.prog) W2 r M 6 seen (formsE B 6) 6 _ hR2.it hR2.fm.map (left_mem hx) (forms_nodup B 6)
      simp only [formV] at hrun hre
      have hN0 : 0 < ws.length := by rw [HLEN.out]; exact HNP.out
      have hp0 : ws[0]? = some (partAt ws 0) := by
        unfold partAt
        rw [List.getD_eq_getElem?_getD, List.getElem?_eq_getElem hN0]
        rfl
      have q0 : W2.cell? ⟨w.heap.size + 1, 0, none⟩ = some (.string (partAt ws 0)) := hR2.wd.2 0 _ hp0
      have hAl : w.heap.size + 1 < W2.heap.size := hR2.wd.1
      have hfit : fitsK ws (i + 1) = (decide (wordF (i + 1) = partAt ws 0) && decide (ws.length = (fieldsF (i + 1)).length + 1)) := rfl
      rw [HLEN.out] at hfit
      have hL3 : (fieldsF (i + 1)).length ≤ 3 := by
        unfold fieldsF
        split <;> simp
      obtain ⟨wd, hwd⟩ : ∃ z, wordF (i + 1) = z := ⟨_, rfl⟩
      obtain ⟨p0, hp⟩ : ∃ z, partAt ws 0 = z := ⟨_, rfl⟩
      obtain ⟨fl, hfl⟩ : ∃ z, (fieldsF (i + 1)).length = z := ⟨_, rfl⟩
      rw [hwd, hp, hfl] at hfit
      rw [hp] at q0
      rw [hwd, hfl] at hrun hre
      rw [hfl] at hL3
      have ha : Below W2.heap.size W2 (W2.alloc (.cells #[.string wd, .slice (some ⟨B (i + 1), 0, none⟩) fl fl] 82)) := (Below.refl _ _).alloc (Nat.le_refl _) _
      have HR3 := hide (fun n => hR2.below (below_drewN ha n))
      have HR2 := hide hR2
      have HLX := hide hx
      have HFL := hide hfl
      have HWD := hide hwd
      have HFIT := hide hfit
      have HNP1 := HNP.out
      clear hrg hR hC hw3 hR2 hW2 hx hN0 hp0 hfit hwd hp hfl ha
      have hel : w.heap.size < W2.heap.size := by omega
      have f0 := HR2.out.bx.frozen 0
      have x0 : ∃ v, W2.cell? ⟨w.heap.size, 0, none⟩ = some v := ⟨_, HR2.out.bx.cell 0⟩
      obtain ⟨v0, x0⟩ := x0
      have hsh := left_shrinks (formsE B 6) seen _ HLX.out
      simp only [] at hsh
      by_cases hw : wd = p0
      · by_cases hl : N = fl + 1
        · have hft : fitsK ws (i + 1) = true := by
            rw [HFIT.out, decide_eq_true hw, decide_eq_true hl]
            rfl
          obtain ⟨he, hkd⟩ := cur_fit HC.out hi (left_not HLX.out) hft
          subst he
          have HKD := hide hkd
          have HR4 := hide (fun n => (HR3.out n).put 0 ((i : Int) + 1) (e' := { zeroEV with kind := ((i + 1 : Nat) : Int) }) rfl)
          have HL := hide hl
          clear hft hkd HR3
          subst hw
          have hli : (N : Int) = (fl : Int) + 1 := by omega
          have hq2 : ((N : Int) != (fl : Int) + 1) = false := by rw [hli]; simp
          clear hl
          go_wp2_with fail
          go_quiet (fail)
          go_wp2_with fail
          go_loopg [42] fl (fun ky s42 wi => ∃ j x, s42 = .int .i64 ((j : Nat) : Int) ∧ j ≤ fl ∧ fl - j ≤ ky ∧ RdAt w wi (w.heap.size + 1) M r B ws (seen.push i) x ∧ Hid (evN ws (fieldsF (i + 1)) { zeroEV with kind := ((i + 1 : Nat) : Int) } j = some x))
          case atStart => exact ⟨0, _, rfl, by omega, by omega, HR4.out _, rfl⟩
          case round =>
            obtain ⟨j, x, rfl, hj, hjx, hRi, hev⟩ := hrel
            have HRI := hide hRi
            by_cases hlt : j < fl
            · have hlti : (j : Int) < (fl : Int) := by omega
              have hljN : (j : Int) + 1 < (N : Int) := by omega
              have hj0 : (0 : Int) ≤ (j : Int) := by omega
              obtain ⟨f, hf⟩ : ∃ f, (fieldsF (i + 1))[j]? = some f := ⟨_, List.getElem?_eq_getElem (by rw [HFL.out]; exact hlt)⟩
              have hfj := fields_j (i + 1) f (List.mem_of_getElem? hf)
              obtain ⟨z0, z1, z2⟩ := hRi.fm.field (k := i + 1) (by omega) hf
              have hst := evN_step hev.out hf
              have hjl : j + 1 < ws.length := by rw [HLEN.out, HL.out]; omega
              have hpj : ws[j + 1]? = some (partAt ws (j + 1)) := by
                unfold partAt
                rw [List.getD_eq_getElem?_getD, List.getElem?_eq_getElem hjl]
                rfl
              have hps := HSZ.out _ (List.mem_of_getElem? hpj)
              have y0 : wr.cell? ⟨w.heap.size + 1, j + 1, none⟩ = some (.string (partAt ws (j + 1))) := hRi.wd.2 _ _ hpj
              have hbad : numZ (partAt ws (j + 1)) = none → res = none := fun h => by
                rw [h] at hst
                rw [← HRES.out]
                exact read_bad HKD.out (by rw [HFL.out]; omega) hst
              have hgood : ∀ v, numZ (partAt ws (j + 1)) = some v → evN ws (fieldsF (i + 1)) { zeroEV with kind := ((i + 1 : Nat) : Int) } (j + 1) = some (x.set f.j v) := fun v h => by
                rw [h] at hst
                exact hst
              obtain ⟨pw, hpw⟩ : ∃ z, partAt ws (j + 1) = z := ⟨_, rfl⟩
              rw [hpw] at hps y0 hbad hgood
              have eg := fid_enters f.j hfj
              have CN := hide (fun b W => fid_any f.j hfj b W)
              obtain ⟨g, hg⟩ : ∃ g, fidF f.j = g := ⟨_, rfl⟩
              rw [hg] at z0 eg CN
              have eg' : ∀ args w, (callFunc g args).run Tryd.prog w = .ok (.enter g args) w := eg
              obtain ⟨fj, flo, fhi⟩ := f
              simp only [] at z0 z1 z2 hgood hfj CN
              have hwl := hRi.wd.1
              have hbl := cell_lt' z0
              have hax : Below wr.heap.size wr (wr.alloc (.cells #[.func (.func g) #[] #[], .int .i64 flo, .int .i64 fhi] 88)) := (Below.refl _ _).alloc (Nat.le_refl _) _
              have HRA := hide (hRi.below hax)
              have HFB := hide (Blk.new wr 88 #[.func (.func g) #[] #[], .int .i64 flo, .int .i64 fhi])
              have HST := hide hst
              have HBAD := hide hbad
              have HGOOD := hide hgood
              have HFJ := hide hfj
              have HEV := hide hev
              clear hRi hst hbad hgood hpw hpj hjl hg eg hf hax hfj
              rcases atoi_cases pw with ⟨v, hv⟩ | ⟨hn, hno⟩
              · have hvb := Lib.atoiAll_bounds hv
                have H1 := hide (fun W => Tryd.strconv_Atoi_ok pw (by omega) v hv W)
                have HV := hide hv
                clear hv
                go_wp2_with fail
                refine (H1.out _).mono ?_
                rintro e1 w1 ⟨rfl, hw1⟩
                have hb1 : Below (wr.alloc (.cells #[.func (.func g) #[] #[], .int .i64 flo, .int .i64 fhi] 88)).heap.size (wr.alloc (.cells #[.func (.func g) #[] #[], .int .i64 flo, .int .i64 fhi] 88)) w1 := by
                  rcases hw1 with rfl | ⟨t, rfl⟩
                  · exact Below.refl _ _
                  · exact Lib.bytesWorld_below _ _ _
                have HR5 := hide (HRA.out.below hb1)
                have HFB5 := hide (show Blk w1 wr.heap.size 88 _ from (hb1.block _ (Blk.lt HFB.out)).trans HFB.out)
                clear hw1 hb1
                by_cases h1 : pw.size ≤ 16
                · have h1i : ¬ (16 : Int) < (pw.size : Int) := by omega
                  obtain ⟨t, ht⟩ : ∃ t : ByteArray, (⟨(Lib.itoa v).toArray⟩ : ByteArray) = t := ⟨_, rfl⟩
                  have hteq : t = pw ↔ Lib.itoa v = pw.data.toList := by
                    constructor
                    · intro h
                      rw [← h, ← ht]
                    · intro h
                      apply ba_eq
                      rw [← ht]
                      exact h
                  go_wp2_with fail
                  refine (Tryd.strconv_Itoa v hvb.1 hvb.2 _ HR5.out.env.tab).mono ?_
                  rintro e2 w3 ⟨rfl, k2, os2, hw2⟩
                  have hb2 : Below _ _ w3 := hw2 ▸ Lib.below_grow _ _ (Nat.le_refl _) _ _
                  rw [ht]
                  have HR7 := hide (HR5.out.below hb2)
                  have hfb7 : Blk w3 wr.heap.size 88 _ := (hb2.block _ (Blk.lt HFB5.out)).trans HFB5.out
                  have c0 := hfb7.cell 0
                  simp only [List.getElem?_toArray, List.getElem?_cons_zero, List.getElem?_cons_succ] at c0
                  clear hw2 hb2 hfb7
                  by_cases h2 : t = pw
                  · have hnz : numZ pw = some v := by
                      unfold numZ
                      rw [HV.out]
                      exact if_pos ⟨h1, hteq.1 h2⟩
                    have HX := hide (HGOOD.out v hnz)
                    have fz := HR7.out.bx.frozen fj
                    have cz := HR7.out.bx.cell fj
                    rw [ev_cell _ _ HFJ.out] at cz
                    have hel7 := Blk.lt HR7.out.bx
                    have HR8 := hide (HR7.out.put fj v (ev_set x v fj HFJ.out))
                    subst h2
                    clear hnz hteq ht
                    go_wp2_with (first | (go_at_fn g; refine (CN.out _ _).mono ?_; rintro e4 w4 ⟨rfl, rfl⟩))
                    go_roundg (fl - (j + 1))
                    case rel => exact ⟨j + 1, _, by go_num, by omega, by omega, HR8.out, HX.out⟩
                    case measure => omega
                  · have hr0 : res = none := HBAD.out (by
                      unfold numZ
                      rw [HV.out]
                      exact if_neg (fun h => h2 (hteq.2 h.2)))
                    subst hr0
                    have hq : (t.toList == pw.toList) = false := str_ne h2
                    have hq2 : (t.toList != pw.toList) = true := by rw [bne, hq]; rfl
                    clear hteq ht
                    go_wp2_with fail
                    exact ⟨rfl, rfl, HR7.out.bl⟩
                · have h1i : (16 : Int) < (pw.size : Int) := by omega
                  have hr0 : res = none := HBAD.out (by
                    unfold numZ
                    rw [HV.out]
                    exact if_neg (fun h => h1 h.1))
                  subst hr0
                  go_wp2_with fail
                  exact ⟨rfl, rfl, HR5.out.bl⟩
              · obtain ⟨t1, p1, g1⟩ := HRA.out.env.syn
                obtain ⟨t2, p2, g2⟩ := HRA.out.env.ran
                have H1 := hide (Tryd.strconv_Atoi_bad pw (by omega) hn t1 t2 p1 p2 _ g1 g2)
                have hr0 : res = none := HBAD.out (by
                  unfold numZ
                  split
                  · exact absurd (by assumption) (hn _)
                  · rfl)
                subst hr0
                clear hn hno g1 g2
                go_wp2_with fail
                refine H1.out.mono ?_
                rintro e1 w1 ⟨z, t, N1, rfl, hb1⟩
                have HR5 := hide (HRA.out.below hb1)
                clear hb1
                go_wp2_with fail
                exact ⟨rfl, rfl, HR5.out.bl⟩
            · have hjm : j = fl := by omega
              subst hjm
              have hev2 : evOf ws (i + 1) = some x := by
                unfold evOf
                rw [HFL.out]
                exact hev.out
              have HC3 := hide (cur_done (seen := seen) HKD.out hev2)
              clear hev2
              go_wp2_with fail
              go_roundg ((leftOf (formsE B 6) (seen.push i)).size)
              case rel => exact ⟨seen.push i, x, Nat.le_refl _, HRI.out, HC3.out⟩
              case measure => omega
        · have hft : fitsK ws (i + 1) = false := by
            rw [HFIT.out, decide_eq_false hl, Bool.and_false]
          have HC3 := hide (cur_skip HC.out hi hft)
          subst hw
          clear hft
          have hli : ¬ (N : Int) = (fl : Int) + 1 := by omega
          have hq1 : ((N : Int) == (fl : Int) + 1) = false := by simp; omega
          have hq2 : ((N : Int) != (fl : Int) + 1) = true := by simp; omega
          go_wp2_with fail
          go_quiet (fail)
          go_wp2_with fail
          go_roundg ((leftOf (formsE B 6) (seen.push i)).size)
          case rel => exact ⟨seen.push i, e, Nat.le_refl _, HR3.out _, HC3.out⟩
          case measure => omega
      · have hft : fitsK ws (i + 1) = false := by
          rw [HFIT.out, decide_eq_false hw, Bool.false_and]
        have HC3 := hide (cur_skip HC.out hi hft)
        have hq : (wd.toList == p0.toList) = false := str_ne hw
        have hq2 : (wd.toList != p0.toList) = true := by rw [bne, hq]; rfl
        clear hft
        go_wp2_with fail
        go_quiet (fail)
        go_wp2_with fail
        go_roundg ((leftOf (formsE B 6) (seen.push i)).size)
        case rel => exact ⟨seen.push i, e, Nat.le_refl _, HR3.out _, HC3.out⟩
        case measure => omega
end Go.Proofs.YtbpeienllhbffaaDoor
