/-
  event.Parse: its walk.
-/
import Derived.Test.YtbpeienllhbffaaDoorEvRead
import Derived.Test.YtbpeienllhbffaaDoorEvText
import Derived.Defers
import Derived.Recover
import Derived.Tactics2
import Derived.Laws.Pointers
import Derived.Test.YtbpeienllhbffaaDoorReads
import Derived.Below
namespace Go.Proofs.YtbpeienllhbffaaDoor
set_option linter.unusedSimpArgs false
set_option linter.unusedVariables false
open Go.RowKit Go.Shelf

/-- What Parse answers: the events, the line, the error. -/
def parseL : Nat → List UInt8 → List EV → List EV × Int × Int
  | 0, _, es => (es, 0, 0)
  | n + 1, s, es => if s = [] then (es, 0, 0) else if es.length = 4000 then ([], 4001, 5) else if (Lib.cut s [10]).2.2 = false then ([], es.length + 1, 4) else match readE (mkB (Lib.cut s [10]).1) with
    | none => ([], es.length + 1, 4)
    | some e => parseL n (Lib.cut s [10]).2.1 (es ++ [e])
def parseE (s : ByteArray) : List EV × Int × Int := if 1048576 < s.size then ([], 0, 5) else parseL s.size s.data.toList []
def evsC (es : List EV) : List Value := es.flatMap fun e => (evC e).toList

theorem own_later {B : Nat} {e : TypeId} {k : Nat} {v : Value} {n : Nat} {xs : List Value} {w w' : World} (h : w.ownsRow B e k v n xs) (hb : Below w.heap.size w w') : w'.ownsRow B e k v n xs := by
  refine ⟨h.1, ?_⟩
  rcases h.2 with h0 | ⟨g, cap, cur, hv, hg, hh, r⟩
  · exact .inl h0
  · exact .inr ⟨g, cap, cur, hv, hg, (hb.block _ (Blk.lt hh)).trans hh, r⟩
theorem evc_length (e : EV) : (evC e).toList.length = 4 := rfl
theorem evsC_snoc (es : List EV) (e : EV) : evsC (es ++ [e]) = evsC es ++ (evC e).toList := by unfold evsC; rw [List.flatMap_append]; simp
theorem ev_info : (Tryd.prog.info? 36).map (fun i => (i.zero, i.size, i.bytes)) = some (some (.agg #[.int .i64 0, .int .i64 0, .int .i64 0, .int .i64 0]), 4, 32) := by kernel_rfl
theorem own_slice6 {w : World} {base e size n : Nat} {v : Value} {xs : List Value} (h : w.ownsRow base e size v n xs) : ∃ A c, v = .slice A n c := by
  rcases h.2 with ⟨h0, h1⟩ | ⟨g, cap, cur, hv, _⟩
  · exact ⟨none, 0, by rw [h0, h1]⟩
  · exact ⟨_, _, hv⟩
theorem own_evs {w : World} {base n c : Nat} {a : Option Addr} {es : List EV} (hn : es.length = n) (h : w.ownsRow base 36 4 (.slice a n c) n (evsC es)) : EvsAt w a es := by
  rcases h.2 with ⟨_, h0⟩ | ⟨k, cap, cur, e, _, hk, hc, hm, hcl, ht⟩
  · exact .inl (List.eq_nil_of_length_eq_zero (by omega))
  · cases e
    have hB : Blk w k 36 cur := hk
    refine .inr ⟨k, 0, rfl, hB.lt, fun i r hi => ?_⟩
    have hil : i < es.length := (List.getElem?_eq_some_iff.1 hi).1
    have hlt : ∀ j, j < 4 → cur[i * 4 + j]? = (evC r).toList[j]? := fun j hj => by
      have e : (cur.toList.take (n * 4))[i * 4 + j]? = (evsC es)[i * 4 + j]? := by rw [ht]
      rw [List.getElem?_take, if_pos (by omega)] at e
      rw [← Array.getElem?_toList, e]
      unfold evsC
      rw [flat_cell (fun e : EV => (evC e).toList) 4 evc_length es i j hj, hi]
      rfl
    simp only [Nat.zero_add]
    refine ⟨?_, ?_, ?_, ?_⟩
    · rw [hB.cell]; exact hlt 0 (by omega)
    · rw [hB.cell]; exact hlt 1 (by omega)
    · rw [hB.cell]; exact hlt 2 (by omega)
    · rw [hB.cell]; exact hlt 3 (by omega)
/-- What a round of Parse leaves. -/
structure PaAt (w W : World) (es : List EV) (v : Value) : Prop where
  env : Env W
  bl : Below w.heap.size w W
  c0 : Blk W w.heap.size 22 #[v]
  c1 : Blk W (w.heap.size + 1) 3 #[.int .i64 0]
  c2 : Blk W (w.heap.size + 2) 23 #[.int .i64 0]
  own : W.ownsRow (w.heap.size + 3) 36 4 v es.length (evsC es)
  six : 6 ≤ w.heap.size
theorem PaAt.later {w W W' : World} {es : List EV} {v : Value} (h : PaAt w W es v) (hb : Below W.heap.size W W') : PaAt w W' es v :=
  ⟨h.env.later hb, below2 h.bl hb, (hb.block _ h.c0.lt).trans h.c0, (hb.block _ h.c1.lt).trans h.c1, (hb.block _ h.c2.lt).trans h.c2, own_later h.own hb, h.six⟩
theorem ne2 (n : Nat) : n ≠ n + 1 + 1 := by omega
theorem PaAt.fin {w W : World} {es : List EV} {v : Value} (h : PaAt w W es v) : Blk (((W.setCell ⟨w.heap.size, 0, none⟩ v).setCell ⟨w.heap.size + 1, 0, none⟩ (.int .i64 0)).setCell ⟨w.heap.size + 1 + 1, 0, none⟩ (.int .i64 0)) w.heap.size 22 #[v] ∧
    Blk (((W.setCell ⟨w.heap.size, 0, none⟩ v).setCell ⟨w.heap.size + 1, 0, none⟩ (.int .i64 0)).setCell ⟨w.heap.size + 1 + 1, 0, none⟩ (.int .i64 0)) (w.heap.size + 1) 3 #[.int .i64 0] ∧
    Blk (((W.setCell ⟨w.heap.size, 0, none⟩ v).setCell ⟨w.heap.size + 1, 0, none⟩ (.int .i64 0)).setCell ⟨w.heap.size + 1 + 1, 0, none⟩ (.int .i64 0)) (w.heap.size + 2) 23 #[.int .i64 0] ∧
    (((W.setCell ⟨w.heap.size, 0, none⟩ v).setCell ⟨w.heap.size + 1, 0, none⟩ (.int .i64 0)).setCell ⟨w.heap.size + 1 + 1, 0, none⟩ (.int .i64 0)).ownsRow (w.heap.size + 3) 36 4 v es.length (evsC es) ∧
    Below w.heap.size w (((W.setCell ⟨w.heap.size, 0, none⟩ v).setCell ⟨w.heap.size + 1, 0, none⟩ (.int .i64 0)).setCell ⟨w.heap.size + 1 + 1, 0, none⟩ (.int .i64 0)) :=
  ⟨(((h.c0.set 0 v).eq rfl).far (by simp) _).far (ne2 _) _, ((((h.c1.far (by simp) _).set 0 (.int .i64 0)).eq rfl)).far (by simp) _, (((h.c2.far (by simp) _).far (by simp) _).set 0 (.int .i64 0)).eq rfl,
    ownsRow_setCell_below (ownsRow_setCell_below (ownsRow_setCell_below h.own (by simp) _) (by simp) _) (by simp) _,
    ((h.bl.setCell (p := ⟨w.heap.size, 0, none⟩) (by simp) _).setCell (p := ⟨w.heap.size + 1, 0, none⟩) (by simp) _).setCell (p := ⟨w.heap.size + 1 + 1, 0, none⟩) (by simp; omega) _⟩
theorem PaAt.push {w W W' : World} {es es' : List EV} {v v' : Value} (h : PaAt w W es v) (hg : W.grownBy W' v.ownBlock) (hown : W'.ownsRow (w.heap.size + 3) 36 4 v' es'.length (evsC es')) : PaAt w (W'.setCell ⟨w.heap.size, 0, none⟩ v') es' v' := by
  have hlt : ∀ k, v.ownBlock = some k → w.heap.size + 3 ≤ k := fun k hk => (h.own.lt k hk).1
  have h0 := blk_grown h.c0 hg (fun e => by have := hlt _ e.symm; omega)
  have h1 := blk_grown h.c1 hg (fun e => by have := hlt _ e.symm; omega)
  have h2 := blk_grown h.c2 hg (fun e => by have := hlt _ e.symm; omega)
  have hz := h.bl.size
  have hz2 := hg.size
  have hb0 : Below w.heap.size W W' := Below.grown (Below.refl _ _) hg (by omega) (fun k hk => by have := hlt k hk; omega)
  have hb1 : Below w.heap.size W (W'.setCell ⟨w.heap.size, 0, none⟩ v') := hb0.setCell (p := ⟨w.heap.size, 0, none⟩) (by simp) _
  exact ⟨h.env.below hb1 h.six, h.bl.trans hb1, (h0.set 0 v').eq rfl, h1.far (by simp) _, h2.far (by simp) _, ownsRow_setCell_below hown (by simp) _, h.six⟩
def B1 (w : World) (g : Nat) (t : TypeId) : Prop := ∃ x, Blk w g t #[x]
theorem Blk.set0 {w : World} {g : Nat} {t : TypeId} (h : B1 w g t) (u : Value) : Blk (w.setCell ⟨g, 0, none⟩ u) g t #[u] := by
  obtain ⟨x, h⟩ := h
  exact (Blk.set h 0 u).eq rfl
theorem b1_far {w : World} {g b i : Nat} {t : TypeId} (hp : g ≠ b) (h : B1 w g t) (u : Value) : B1 (w.setCell ⟨b, i, none⟩ u) g t := by
  obtain ⟨x, h⟩ := h
  exact ⟨x, Blk.far h hp u⟩
theorem cut_row (s sep : List UInt8) : (Lib.cut s sep).1.length ≤ s.length := by
  unfold Lib.cut
  split
  · simp only [List.length_take]
    omega
  · exact Nat.le_refl _
theorem cut_rest {s : List UInt8} (h : s ≠ []) : (Lib.cut s [10]).2.1.length < s.length := by
  have h0 : 0 < s.length := List.length_pos_iff.2 h
  unfold Lib.cut
  split
  · simp only [List.length_drop, List.length_singleton]
    omega
  · exact h0
theorem blk_far {w : World} {g b i : Nat} {t : TypeId} {cs : Array Value} (hp : g ≠ b) (h : Blk w g t cs) (u : Value) : Blk (w.setCell ⟨b, i, none⟩ u) g t cs := Blk.far h hp u
theorem bel_alloc {B : Nat} {a w : World} (hB : B ≤ w.heap.size) (h : Below B a w) (o : Obj) : Below B a (w.alloc o) := h.alloc hB o
theorem bel_set {B b i : Nat} {a w : World} (hp : B ≤ b) (h : Below B a w) (u : Value) : Below B a (w.setCell ⟨b, i, none⟩ u) := Below.setCell h (p := ⟨b, i, none⟩) hp u
set_option maxRecDepth 100000 in
set_option maxHeartbeats 2000000 in
theorem catch_some (r : Nat) (a : Option Addr) (n c : Nat) (line e : Int) (w : World) (h0 : Blk w r 22 #[.slice a n c]) (h1 : Blk w (r + 1) 3 #[.int .i64 0]) (h2 : Blk w (r + 2) 23 #[.int .i64 0]) :
    CallsD Tryd.prog 41 #[.pointer (some ⟨r, 0, none⟩), .pointer (some ⟨r + 1, 0, none⟩), .pointer (some ⟨r + 2, 0, none⟩)] (.panicking ({ v := .iface 62 (.agg #[.int .i64 line, .int .i64 e]), recovered := false } :: [])) w fun x u' w' =>
      x = .returned (.tuple #[]) ∧ u' = .panicking ({ v := .iface 62 (.agg #[.int .i64 line, .int .i64 e]), recovered := true } :: []) ∧ Blk w' r 22 #[.slice none 0 0] ∧ Blk w' (r + 1) 3 #[.int .i64 line] ∧ Blk w' (r + 2) 23 #[.int .i64 e] ∧ Below r w w' := by
  refine callsD_of_wpS Tryd.func41 rfl fun c₀ cs hu => ?_
  apply wpS_seq
  apply wpS_region
  simp [wpOpsS, go_sem, recoverD, hu, Tryd.ntmps41, Exit.thenS]
  have hta : ∀ (v : Value) (w : World), (Instr.typeAssert (.iface 62 v) 20 62 true).run Tryd.prog w = .ok (.tuple #[v, .bool true]) w := fun _ _ => rfl
  refine wpS_of_wp ?_
  simp [Array.replicate]
  have x0 := h0.cell 0
  have x1 := h1.cell 0
  have x2 := h2.cell 0
  have f0 := h0.frozen 0
  have f1 := h1.frozen 0
  have f2 := h2.frozen 0
  have l2 := h2.lt
  have l0 := h0.lt
  have l1 := h1.lt
  simp only [List.getElem?_toArray, List.getElem?_cons_zero] at x0 x1 x2
  go_wp2_with fail
  go_region_law (fail)
  all_goals go_wp2_with fail
  all_goals refine ⟨rfl, _, rfl, _, by simp [results, Tryd.results41, go_sem], rfl, rfl, by (repeat (first | with_reducible refine Blk.drew ?_ | with_reducible refine Blk.alloc ?_ _ | with_reducible refine Blk.set0 ?_ _ | (with_reducible refine blk_far ?_ ?_ _; focus (simp; done)) | (with_reducible refine b1_far ?_ ?_ _; focus (simp; done)))); exact ⟨_, h0⟩, by (repeat (first | with_reducible refine Blk.drew ?_ | with_reducible refine Blk.alloc ?_ _ | with_reducible refine Blk.set0 ?_ _ | (with_reducible refine blk_far ?_ ?_ _; focus (simp; done)) | (with_reducible refine b1_far ?_ ?_ _; focus (simp; done)))); exact ⟨_, h1⟩, by (repeat (first | with_reducible refine Blk.drew ?_ | with_reducible refine Blk.alloc ?_ _ | with_reducible refine Blk.set0 ?_ _ | (with_reducible refine blk_far ?_ ?_ _; focus (simp; done)) | (with_reducible refine b1_far ?_ ?_ _; focus (simp; done)))); exact ⟨_, h2⟩, by ((repeat (first | with_reducible refine Below.drew ?_ | (with_reducible refine bel_alloc ?_ ?_ _; focus (simp; omega)) | (with_reducible refine bel_set ?_ ?_ _; focus (simp; done)))); with_reducible exact Below.refl _ _)⟩
theorem catch_none (r : Nat) (w : World) :
    CallsD Tryd.prog 41 #[.pointer (some ⟨r, 0, none⟩), .pointer (some ⟨r + 1, 0, none⟩), .pointer (some ⟨r + 2, 0, none⟩)] .returning w fun x u' w' => x = .returned (.tuple #[]) ∧ u' = .returning ∧ w' = w := by
  refine callsD_of_wpS Tryd.func41 rfl fun c₀ cs hu => ?_
  apply wpS_seq
  apply wpS_region
  simp [wpOpsS, go_sem, recoverD, hu, Tryd.ntmps41, Exit.thenS]
  refine wpS_of_wp ?_
  simp [Array.replicate]
  go_wp2_with fail
  cases c₀
  simp_all [bodyPostS, results, Tryd.results41]
theorem leaves_congr {P : Program} {fn : Func} {t t' : Array Value} {R : Ending → World → Prop} (h : results fn t = results fn t') : ∀ (ds : List Deferred) (u : FrameMode) (w : World), Leaves P fn t R ds u w → Leaves P fn t' R ds u w
  | [], .returning, w, hl => by
    unfold Leaves at hl ⊢
    rw [← h]
    exact hl
  | [], .panicking c, w, hl => by
    unfold Leaves at hl ⊢
    exact hl
  | [], .run, w, hl => by
    unfold Leaves at hl
    exact hl.elim
  | d :: ds, u, w, hl => by
    unfold Leaves at hl ⊢
    obtain ⟨hu, fv, cap, f, args, ht, hi, hc⟩ := hl
    refine ⟨hu, fv, cap, f, args, ht, hi, hc.mono ?_⟩
    rintro e u' w' he
    cases e with
    | returned v => exact leaves_congr h ds _ _ he
    | panicked c => exact leaves_congr h ds _ _ he
    | outgrown => exact he
theorem parse_results (t : Array Value) (i : Nat) (v : Value) (h : i ≠ 2 ∧ i ≠ 3 ∧ i ≠ 4) : results Tryd.f14 (t.setIfInBounds i v) = results Tryd.f14 t := by
  obtain ⟨h2, h3, h4⟩ := h
  have key : ∀ k, k ≠ i → (t.setIfInBounds i v)[k]? = t[k]? := fun k hk => Array.getElem?_setIfInBounds_ne (by omega)
  simp [results, Tryd.f14, Array.getD_eq_getD_getElem?, key 2 (by omega), key 3 (by omega), key 4 (by omega)]
set_option maxRecDepth 100000 in
set_option maxHeartbeats 4000000 in
theorem parse_any (s : ByteArray) (w : World) (hE : Env w) : Calls Tryd.prog 14 #[.string s] w fun x w' => ∃ a c, x = .returned (.tuple #[.slice a (parseE s).1.length c, .int .i64 (parseE s).2.1, .int .i64 (parseE s).2.2]) ∧ EvsAt w' a (parseE s).1 ∧ Below w.heap.size w w' := by
  have hmf : ∀ (fn : Fn) (first cap : Array Value) (w : World), (Instr.makeFunc fn first cap).run Tryd.prog w = .ok (.func fn first cap) w := fun _ _ _ _ => rfl
  obtain ⟨res, hres⟩ : ∃ z, parseE s = z := ⟨_, rfl⟩
  rw [hres]
  have HE := hide hE
  have HRES := hide hres
  clear hE hres
  go_enter_defers Tryd.func14, Tryd.ntmps14
  by_cases hb : 1048576 < s.size
  · have hbi : (1048576 : Int) < (s.size : Int) := by omega
    obtain rfl : ([], 0, 5) = res := by
      rw [← HRES.out]
      unfold parseE
      rw [if_pos hb]
    go_wp2_with fail
    simp [bodyPostD, Leaves, results, Tryd.results14, go_sem]
    exact ⟨.inl rfl, (((Below.refl _ _).alloc (Nat.le_refl _) _).alloc (by simp) _).alloc (by simp; omega) _⟩
  · have hbi : ¬ (1048576 : Int) < (s.size : Int) := by omega
    have h0 : PaAt w (((w.alloc (.cells #[.slice none 0 0] 22)).alloc (.cells #[.int .i64 0] 3)).alloc (.cells #[.int .i64 0] 23)) [] (.slice none 0 0) := by
      have ha : Below w.heap.size w (((w.alloc (.cells #[.slice none 0 0] 22)).alloc (.cells #[.int .i64 0] 3)).alloc (.cells #[.int .i64 0] 23)) := (((Below.refl _ _).alloc (Nat.le_refl _) _).alloc (by simp) _).alloc (by simp; omega) _
      refine ⟨HE.out.later ha, ha, ((Blk.new _ _ _).alloc _).alloc _, ?_, ?_, ⟨rfl, .inl ⟨rfl, rfl⟩⟩, HE.out.size⟩
      · have h := (Blk.new (w.alloc (.cells #[.slice none 0 0] 22)) 3 #[.int .i64 0]).alloc (.cells #[.int .i64 0] 23)
        simpa using h
      · have h := Blk.new ((w.alloc (.cells #[.slice none 0 0] 22)).alloc (.cells #[.int .i64 0] 3)) 23 #[.int .i64 0]
        simpa using h
    have H0 := hide h0
    clear h0
    have hr : parseL s.size s.data.toList [] = res := by
      rw [← HRES.out]
      unfold parseE
      rw [if_neg hb]
    have HR := hide hr
    clear hr
    go_wp2_with fail
    go_loopg [0] s.size (fun kx s0 wr => ∃ (t : ByteArray) (es : List EV) (v : Value), s0 = .string t ∧ t.size ≤ kx ∧ t.size ≤ 1048576 ∧ PaAt w wr es v ∧ es.length ≤ 4000 ∧ Hid (∃ k, t.size ≤ k ∧ parseL k t.data.toList es = res))
    case atStart => exact ⟨s, [], _, rfl, Nat.le_refl _, by omega, H0.out, by simp, ⟨s.size, Nat.le_refl _, HR.out⟩⟩
    case round =>
      obtain ⟨t, es, v, rfl, htk, htm, hP, hel, k, hkt, hk⟩ := hrel
      obtain ⟨A, c, rfl⟩ := own_slice6 hP.own
      have HP := hide hP
      have x0 := hP.c0.cell 0
      have x1 := hP.c1.cell 0
      have x2 := hP.c2.cell 0
      have f0 := hP.c0.frozen 0
      have f1 := hP.c1.frozen 0
      have f2 := hP.c2.frozen 0
      have l2 := hP.c2.lt
      have l1 := hP.c1.lt
      have l0 := hP.c0.lt
      simp only [List.getElem?_toArray, List.getElem?_cons_zero] at x0 x1 x2
      by_cases ht : t = ⟨#[]⟩
      · subst ht
        have hr : (es, 0, 0) = res := by
          rw [← hk]
          cases k <;> rfl
        have HR2 := hide hr
        clear hk hr HR hP
        go_wp2_with fail
        obtain ⟨g0, g1, g2, g3, g4⟩ := HP.out.fin
        refine leaves_cons (f := 41) (args := #[.pointer (some ⟨w.heap.size, 0, none⟩), .pointer (some ⟨w.heap.size + 1, 0, none⟩), .pointer (some ⟨w.heap.size + 1 + 1, 0, none⟩)]) (by simp) (by simp [go_sem]) ?_
        refine (catch_none w.heap.size _).mono ?_
        rintro e6 u6 w6 ⟨rfl, rfl, rfl⟩
        have z0 := g0.cell 0
        have z1 := g1.cell 0
        have z2 := g2.cell 0
        simp only [List.getElem?_toArray, List.getElem?_cons_zero] at z0 z1 z2
        obtain rfl := HR2.out
        simp [Leaves, settle, results, Tryd.results14, go_sem, z0, z1, z2]
        exact ⟨own_evs rfl g3, g4⟩
      · have hq : (t.toList == (⟨#[]⟩ : ByteArray).toList) = false := str_ne ht
        have hq3 : t.toList.isEmpty = false := by simpa using hq
        have hne : t.data.toList ≠ [] := fun h => ht (by apply ba_eq; exact h)
        have hc1 := cut_row t.data.toList [10]
        have hc2 := cut_rest hne
        have ht0 : 0 < t.data.toList.length := List.length_pos_iff.2 hne
        rw [← Lib.size_eq] at hc1 hc2 ht0
        obtain ⟨k, rfl⟩ : ∃ j, k = j + 1 := ⟨k - 1, by omega⟩
        have hr : (if es.length = 4000 then ([], 4001, 5) else if (Lib.cut t.data.toList [10]).2.2 = false then ([], (es.length : Int) + 1, 4) else match readE (mkB (Lib.cut t.data.toList [10]).1) with
          | none => ([], (es.length : Int) + 1, 4)
          | some e => parseL k (Lib.cut t.data.toList [10]).2.1 (es ++ [e])) = res := by
          rw [← hk, parseL, if_neg hne]
        obtain ⟨m, hm⟩ := hP.env.max
        have HCUT := hide (Tryd.strings_Cut t ⟨#[10]⟩ m wr (by omega) hm)
        have e10 : (⟨#[10]⟩ : ByteArray).data.toList = [10] := rfl
        rw [e10] at HCUT
        obtain ⟨row, hrow⟩ : ∃ z, mkB (Lib.cut t.data.toList [10]).1 = z := ⟨_, rfl⟩
        obtain ⟨rest, hrest⟩ : ∃ z : ByteArray, (⟨(Lib.cut t.data.toList [10]).2.1.toArray⟩ : ByteArray) = z := ⟨_, rfl⟩
        obtain ⟨whole, hwh⟩ : ∃ z, (Lib.cut t.data.toList [10]).2.2 = z := ⟨_, rfl⟩
        have hrow2 : (⟨(Lib.cut t.data.toList [10]).1.toArray⟩ : ByteArray) = row := hrow
        have hrd : (Lib.cut t.data.toList [10]).2.1 = rest.data.toList := by rw [← hrest]
        rw [hrow2, hrest, hwh] at HCUT
        have hrs : row.size ≤ 1048576 := by rw [← hrow, Lib.size_eq, mkB_data]; omega
        rw [hrd, ← Lib.size_eq] at hc2
        rw [hrow, hwh, hrd] at hr
        have HR2 := hide hr
        clear hk hr HR hP hrow hrest hwh hrow2 hrd hc1 hne e10 hm
        by_cases h4 : es.length = 4000
        · have h4i : (es.length : Int) = 4000 := by omega
          go_wp2_with fail
          refine HCUT.out.mono ?_
          rintro e1 w1 ⟨rfl, nd, rfl⟩
          go_wp2_with fail
          refine leaves_cons (f := 41) (args := #[.pointer (some ⟨w.heap.size, 0, none⟩), .pointer (some ⟨w.heap.size + 1, 0, none⟩), .pointer (some ⟨w.heap.size + 1 + 1, 0, none⟩)]) (by simp) (by simp [go_sem]) ?_
          have HP9 := HP.out.later (below_drewN (Below.refl _ _) nd)
          refine (catch_some w.heap.size A es.length c 4001 5 _ HP9.c0 HP9.c1 HP9.c2).mono ?_
          rintro e6 u6 w6 ⟨rfl, rfl, k0, k1, k2, k3⟩
          have z0 := k0.cell 0
          have z1 := k1.cell 0
          have z2 := k2.cell 0
          simp only [List.getElem?_toArray, List.getElem?_cons_zero] at z0 z1 z2
          obtain rfl : ([], 4001, 5) = res := by rw [← HR2.out, if_pos h4]
          simp [Leaves, settle, results, Tryd.results14, go_sem, z0, z1, z2]
          exact ⟨.inl rfl, HP9.bl.trans k3⟩
        · have h4i : ¬ (es.length : Int) = 4000 := by omega
          cases whole with
          | false =>
            go_wp2_with fail
            refine HCUT.out.mono ?_
            rintro e1 w1 ⟨rfl, nd, rfl⟩
            go_wp2_with fail
            refine leaves_cons (f := 41) (args := #[.pointer (some ⟨w.heap.size, 0, none⟩), .pointer (some ⟨w.heap.size + 1, 0, none⟩), .pointer (some ⟨w.heap.size + 1 + 1, 0, none⟩)]) (by simp) (by simp [go_sem]) ?_
            have HP9 := HP.out.later (below_drewN (Below.refl _ _) nd)
            refine (catch_some w.heap.size A es.length c ((es.length : Int) + 1) 4 _ HP9.c0 HP9.c1 HP9.c2).mono ?_
            rintro e6 u6 w6 ⟨rfl, rfl, k0, k1, k2, k3⟩
            have z0 := k0.cell 0
            have z1 := k1.cell 0
            have z2 := k2.cell 0
            simp only [List.getElem?_toArray, List.getElem?_cons_zero] at z0 z1 z2
            obtain rfl : ([], (es.length : Int) + 1, 4) = res := by rw [← HR2.out, if_neg h4]; rfl
            simp [Leaves, settle, results, Tryd.results14, go_sem, z0, z1, z2]
            exact ⟨.inl rfl, HP9.bl.trans k3⟩
          | true =>
            rw [if_neg h4, if_neg (by decide)] at HR2
            obtain ⟨rd, hrd⟩ : ∃ z, readE row = z := ⟨_, rfl⟩
            rw [hrd] at HR2
            have HREAD := hide (fun W hE => read_any row ((es.length : Int) + 1) W hE hrs)
            rw [hrd] at HREAD
            clear hrd
            obtain ⟨i0, hi0, hz0, hz1, hz2⟩ := info_parts ev_info
            have hown := HP.out.own
            have hwr : IntKind.i64.wrap ((es.length : Int) + 1) = (es.length : Int) + 1 := by rw [IntKind.wrap_i64]; omega
            go_wp2_with fail
            refine HCUT.out.mono ?_
            rintro e1 w1 ⟨rfl, nd, rfl⟩
            have HP9 := hide (fun n => HP.out.later (below_drewN (Below.refl _ _) n))
            go_wp2_with fail
            refine wp_region_any (by kernel_rfl) ?_
            change wpAny _ _ _ _ _ _ _ (World.drew _)
            refine wpAny_take (i := 1) (v := ?_) rfl (by kernel_rfl) (by kernel_rfl) (by kernel_rfl) (fun c a w h => leaves_congr (parse_results a.tmps 36 _ ⟨by decide, by decide, by decide⟩) a.defers _ w h) (Or.inl ⟨by rfl, ?_⟩) ?_
            rotate_left
            · intro w; go_simp; try with_reducible rfl
            refine wpAny_take (i := 8) (v := ?_) rfl (by kernel_rfl) (by kernel_rfl) (by kernel_rfl) (fun c a w h => leaves_congr (parse_results a.tmps 43 _ ⟨by decide, by decide, by decide⟩) a.defers _ w h) (Or.inl ⟨by rfl, ?_⟩) ?_
            rotate_left
            · intro w; go_simp; try with_reducible rfl
            refine wpAny_ready (rs := [0, 2]) (by kernel_rfl) (by simp) ?_
            refine AllReady.cons rfl (fun K hK => ?_) ?_
            · skip
              go_simp
              refine hK _ _ ?_
              clear hK K
              refine wpAny_ready (rs := [2]) (by kernel_rfl) (by simp) ?_
              refine AllReady.cons rfl (fun K hK => ?_) ?_
              · skip
                go_simp
                refine hK _ _ ?_
                clear hK K
                refine wpAny_ready (rs := [3]) (by kernel_rfl) (by simp) ?_
                refine AllReady.cons rfl (fun K hK => ?_) ?_
                · skip
                  go_simp
                  refine hK _ _ ?_
                  clear hK K
                  refine wpAny_ready (rs := [4]) (by kernel_rfl) (by simp) ?_
                  refine AllReady.cons rfl (fun K hK => ?_) ?_
                  · skip
                    go_simp
                    refine hK _ _ ?_
                    clear hK K
                    refine wpAny_ready (rs := [5]) (by kernel_rfl) (by simp) ?_
                    refine AllReady.cons rfl (fun K hK => ?_) ?_
                    · skip
                      go_simp
                      (go_at_call 43; refine (HREAD.out _ (HP9.out _).env).mono ?_; rintro e5 w5 ⟨hx5, hb5⟩; rcases rd with _ | ⟨r0, r1, r2, r3⟩; (· obtain rfl := hx5; have hp6 : PaAt w w5 es _ := (HP9.out _).later hb5; refine leaves_cons (f := 41) (args := #[.pointer (some ⟨w.heap.size, 0, none⟩), .pointer (some ⟨w.heap.size + 1, 0, none⟩), .pointer (some ⟨w.heap.size + 1 + 1, 0, none⟩)]) (by simp) (by simp [go_sem]) ?_; refine (catch_some w.heap.size A es.length c ((es.length : Int) + 1) 4 _ hp6.c0 hp6.c1 hp6.c2).mono ?_; rintro e6 u6 w6 ⟨rfl, rfl, k0, k1, k2, k3⟩; have z0 := k0.cell 0; have z1 := k1.cell 0; have z2 := k2.cell 0; simp only [List.getElem?_toArray, List.getElem?_cons_zero] at z0 z1 z2; obtain rfl : ([], (es.length : Int) + 1, 4) = res := HR2.out; simp [Leaves, settle, results, Tryd.results14, go_sem, z0, z1, z2]; exact ⟨.inl rfl, hp6.bl.trans k3⟩); obtain rfl : e5 = .returned (.agg #[.int .i64 r0, .int .i64 r1, .int .i64 r2, .int .i64 r3]) := hx5; have hp5 : PaAt w w5 es _ := (HP9.out _).later hb5; have y0 := hp5.c0.cell 0; simp only [List.getElem?_toArray, List.getElem?_cons_zero] at y0; have hown5 := hp5.own; have hl5 := hp5.c0.lt; have hcur5 := hp5.c0; have hz5 := hp5.bl.size)
                      go_simp
                      refine hK _ _ ?_
                      clear hK K
                      refine wpAny_ready (rs := [6]) (by kernel_rfl) (by simp) ?_
                      refine AllReady.cons rfl (fun K hK => ?_) ?_
                      · skip
                        go_simp
                        refine hK _ _ ?_
                        clear hK K
                        refine wpAny_ready (rs := [7]) (by kernel_rfl) (by simp) ?_
                        refine AllReady.cons rfl (fun K hK => ?_) ?_
                        · skip
                          (refine step_append_any _ rfl (.tmp 35) (.tmp 41) _ rfl (w.heap.size + 3) 36 i0 _ 4 32 Tryd.underlying22 hi0 hz0 hz1 hz2 rfl (by decide) (.slice A es.length c) es.length (evsC es) rfl (by exact hown5.alloc _) (w5.heap.size + 1) (some ⟨w5.heap.size, 0, none⟩) 1 1 [.int .i64 r0, .int .i64 r1, .int .i64 r2, .int .i64 r3] rfl (by exact reads_lit (blk_new_at (by simp)) (by simp) rfl) (by simp [Value.oneCell']) (by unfold maxLen; omega) (by omega) (by simp; have := hp5.c2.lt; omega) ?_; intro v8 w8 hown8 hg8 hat8; obtain ⟨g8, cap8, rfl⟩ := own_form hown8; have hneo : some w.heap.size ≠ (Value.slice A es.length c).ownBlock := (fun e => by have := (hown5.lt _ e.symm).1; omega); have hcur8 := blk_grown (t := 22) (by exact (hcur5.alloc _)) hg8 hneo; have d0 := hcur8.cell 0; have d1 := hcur8.frozen 0; simp only [List.getElem?_toArray, List.getElem?_cons_zero] at d0; have hl8 := hcur8.lt)
                          try go_simp
                          refine hK _ _ ?_
                          clear hK K
                          refine wpAny_ready (rs := [9]) (by kernel_rfl) (by simp) ?_
                          refine AllReady.cons rfl (fun K hK => ?_) ?_
                          · skip
                            go_simp
                            refine hK _ _ ?_
                            clear hK K
                            refine wpAny_ready (rs := [10]) (by kernel_rfl) (by simp) ?_
                            refine AllReady.cons rfl (fun K hK => ?_) ?_
                            · skip
                              go_simp
                              refine hK _ _ ?_
                              clear hK K
                              refine wpAny_done (by kernel_rfl) ?_ _
                              go_wp2_with fail
                              have hn8 : PaAt w (w8.setCell ⟨w.heap.size, 0, none⟩ (.slice (some ⟨g8, 0, none⟩) (es.length + 1) cap8)) (es ++ [⟨r0, r1, r2, r3⟩]) (.slice (some ⟨g8, 0, none⟩) (es.length + 1) cap8) := (hp5.later ((Below.refl _ _).alloc (Nat.le_refl _) _)).push hg8 (by rw [List.length_append, evsC_snoc]; exact hown8)
                              have hR3 : parseL k rest.data.toList (es ++ [⟨r0, r1, r2, r3⟩]) = res := HR2.out
                              go_roundg rest.size
                              case rel => exact ⟨rest, _, _, rfl, Nat.le_refl _, by omega, hn8, by rw [List.length_append]; simp; omega, ⟨k, by omega, hR3⟩⟩
                              case measure => omega
                            exact AllReady.nil
                          exact AllReady.nil
                        exact AllReady.nil
                      exact AllReady.nil
                    exact AllReady.nil
                  exact AllReady.nil
                exact AllReady.nil
              exact AllReady.nil
            refine AllReady.cons rfl (fun K hK => ?_) ?_
            · skip
              go_simp
              refine hK _ _ ?_
              clear hK K
              refine wpAny_ready (rs := [0, 3]) (by kernel_rfl) (by simp) ?_
              refine AllReady.cons rfl (fun K hK => ?_) ?_
              · skip
                go_simp
                refine hK _ _ ?_
                clear hK K
                refine wpAny_ready (rs := [3]) (by kernel_rfl) (by simp) ?_
                refine AllReady.cons rfl (fun K hK => ?_) ?_
                · skip
                  go_simp
                  refine hK _ _ ?_
                  clear hK K
                  refine wpAny_ready (rs := [4]) (by kernel_rfl) (by simp) ?_
                  refine AllReady.cons rfl (fun K hK => ?_) ?_
                  · skip
                    go_simp
                    refine hK _ _ ?_
                    clear hK K
                    refine wpAny_ready (rs := [5]) (by kernel_rfl) (by simp) ?_
                    refine AllReady.cons rfl (fun K hK => ?_) ?_
                    · skip
                      go_simp
                      (go_at_call 43; refine (HREAD.out _ (HP9.out _).env).mono ?_; rintro e5 w5 ⟨hx5, hb5⟩; rcases rd with _ | ⟨r0, r1, r2, r3⟩; (· obtain rfl := hx5; have hp6 : PaAt w w5 es _ := (HP9.out _).later hb5; refine leaves_cons (f := 41) (args := #[.pointer (some ⟨w.heap.size, 0, none⟩), .pointer (some ⟨w.heap.size + 1, 0, none⟩), .pointer (some ⟨w.heap.size + 1 + 1, 0, none⟩)]) (by simp) (by simp [go_sem]) ?_; refine (catch_some w.heap.size A es.length c ((es.length : Int) + 1) 4 _ hp6.c0 hp6.c1 hp6.c2).mono ?_; rintro e6 u6 w6 ⟨rfl, rfl, k0, k1, k2, k3⟩; have z0 := k0.cell 0; have z1 := k1.cell 0; have z2 := k2.cell 0; simp only [List.getElem?_toArray, List.getElem?_cons_zero] at z0 z1 z2; obtain rfl : ([], (es.length : Int) + 1, 4) = res := HR2.out; simp [Leaves, settle, results, Tryd.results14, go_sem, z0, z1, z2]; exact ⟨.inl rfl, hp6.bl.trans k3⟩); obtain rfl : e5 = .returned (.agg #[.int .i64 r0, .int .i64 r1, .int .i64 r2, .int .i64 r3]) := hx5; have hp5 : PaAt w w5 es _ := (HP9.out _).later hb5; have y0 := hp5.c0.cell 0; simp only [List.getElem?_toArray, List.getElem?_cons_zero] at y0; have hown5 := hp5.own; have hl5 := hp5.c0.lt; have hcur5 := hp5.c0; have hz5 := hp5.bl.size)
                      go_simp
                      refine hK _ _ ?_
                      clear hK K
                      refine wpAny_ready (rs := [6]) (by kernel_rfl) (by simp) ?_
                      refine AllReady.cons rfl (fun K hK => ?_) ?_
                      · skip
                        go_simp
                        refine hK _ _ ?_
                        clear hK K
                        refine wpAny_ready (rs := [7]) (by kernel_rfl) (by simp) ?_
                        refine AllReady.cons rfl (fun K hK => ?_) ?_
                        · skip
                          (refine step_append_any _ rfl (.tmp 35) (.tmp 41) _ rfl (w.heap.size + 3) 36 i0 _ 4 32 Tryd.underlying22 hi0 hz0 hz1 hz2 rfl (by decide) (.slice A es.length c) es.length (evsC es) rfl (by exact hown5.alloc _) (w5.heap.size + 1) (some ⟨w5.heap.size, 0, none⟩) 1 1 [.int .i64 r0, .int .i64 r1, .int .i64 r2, .int .i64 r3] rfl (by exact reads_lit (blk_new_at (by simp)) (by simp) rfl) (by simp [Value.oneCell']) (by unfold maxLen; omega) (by omega) (by simp; have := hp5.c2.lt; omega) ?_; intro v8 w8 hown8 hg8 hat8; obtain ⟨g8, cap8, rfl⟩ := own_form hown8; have hneo : some w.heap.size ≠ (Value.slice A es.length c).ownBlock := (fun e => by have := (hown5.lt _ e.symm).1; omega); have hcur8 := blk_grown (t := 22) (by exact (hcur5.alloc _)) hg8 hneo; have d0 := hcur8.cell 0; have d1 := hcur8.frozen 0; simp only [List.getElem?_toArray, List.getElem?_cons_zero] at d0; have hl8 := hcur8.lt)
                          try go_simp
                          refine hK _ _ ?_
                          clear hK K
                          refine wpAny_ready (rs := [9]) (by kernel_rfl) (by simp) ?_
                          refine AllReady.cons rfl (fun K hK => ?_) ?_
                          · skip
                            go_simp
                            refine hK _ _ ?_
                            clear hK K
                            refine wpAny_ready (rs := [10]) (by kernel_rfl) (by simp) ?_
                            refine AllReady.cons rfl (fun K hK => ?_) ?_
                            · skip
                              go_simp
                              refine hK _ _ ?_
                              clear hK K
                              refine wpAny_done (by kernel_rfl) ?_ _
                              go_wp2_with fail
                              have hn8 : PaAt w (w8.setCell ⟨w.heap.size, 0, none⟩ (.slice (some ⟨g8, 0, none⟩) (es.length + 1) cap8)) (es ++ [⟨r0, r1, r2, r3⟩]) (.slice (some ⟨g8, 0, none⟩) (es.length + 1) cap8) := (hp5.later ((Below.refl _ _).alloc (Nat.le_refl _) _)).push hg8 (by rw [List.length_append, evsC_snoc]; exact hown8)
                              have hR3 : parseL k rest.data.toList (es ++ [⟨r0, r1, r2, r3⟩]) = res := HR2.out
                              go_roundg rest.size
                              case rel => exact ⟨rest, _, _, rfl, Nat.le_refl _, by omega, hn8, by rw [List.length_append]; simp; omega, ⟨k, by omega, hR3⟩⟩
                              case measure => omega
                            exact AllReady.nil
                          exact AllReady.nil
                        exact AllReady.nil
                      exact AllReady.nil
                    exact AllReady.nil
                  exact AllReady.nil
                exact AllReady.nil
              refine AllReady.cons rfl (fun K hK => ?_) ?_
              · skip
                go_simp
                refine hK _ _ ?_
                clear hK K
                refine wpAny_ready (rs := [0, 4]) (by kernel_rfl) (by simp) ?_
                refine AllReady.cons rfl (fun K hK => ?_) ?_
                · skip
                  go_simp
                  refine hK _ _ ?_
                  clear hK K
                  refine wpAny_ready (rs := [4]) (by kernel_rfl) (by simp) ?_
                  refine AllReady.cons rfl (fun K hK => ?_) ?_
                  · skip
                    go_simp
                    refine hK _ _ ?_
                    clear hK K
                    refine wpAny_ready (rs := [5]) (by kernel_rfl) (by simp) ?_
                    refine AllReady.cons rfl (fun K hK => ?_) ?_
                    · skip
                      go_simp
                      (go_at_call 43; refine (HREAD.out _ (HP9.out _).env).mono ?_; rintro e5 w5 ⟨hx5, hb5⟩; rcases rd with _ | ⟨r0, r1, r2, r3⟩; (· obtain rfl := hx5; have hp6 : PaAt w w5 es _ := (HP9.out _).later hb5; refine leaves_cons (f := 41) (args := #[.pointer (some ⟨w.heap.size, 0, none⟩), .pointer (some ⟨w.heap.size + 1, 0, none⟩), .pointer (some ⟨w.heap.size + 1 + 1, 0, none⟩)]) (by simp) (by simp [go_sem]) ?_; refine (catch_some w.heap.size A es.length c ((es.length : Int) + 1) 4 _ hp6.c0 hp6.c1 hp6.c2).mono ?_; rintro e6 u6 w6 ⟨rfl, rfl, k0, k1, k2, k3⟩; have z0 := k0.cell 0; have z1 := k1.cell 0; have z2 := k2.cell 0; simp only [List.getElem?_toArray, List.getElem?_cons_zero] at z0 z1 z2; obtain rfl : ([], (es.length : Int) + 1, 4) = res := HR2.out; simp [Leaves, settle, results, Tryd.results14, go_sem, z0, z1, z2]; exact ⟨.inl rfl, hp6.bl.trans k3⟩); obtain rfl : e5 = .returned (.agg #[.int .i64 r0, .int .i64 r1, .int .i64 r2, .int .i64 r3]) := hx5; have hp5 : PaAt w w5 es _ := (HP9.out _).later hb5; have y0 := hp5.c0.cell 0; simp only [List.getElem?_toArray, List.getElem?_cons_zero] at y0; have hown5 := hp5.own; have hl5 := hp5.c0.lt; have hcur5 := hp5.c0; have hz5 := hp5.bl.size)
                      go_simp
                      refine hK _ _ ?_
                      clear hK K
                      refine wpAny_ready (rs := [6]) (by kernel_rfl) (by simp) ?_
                      refine AllReady.cons rfl (fun K hK => ?_) ?_
                      · skip
                        go_simp
                        refine hK _ _ ?_
                        clear hK K
                        refine wpAny_ready (rs := [7]) (by kernel_rfl) (by simp) ?_
                        refine AllReady.cons rfl (fun K hK => ?_) ?_
                        · skip
                          (refine step_append_any _ rfl (.tmp 35) (.tmp 41) _ rfl (w.heap.size + 3) 36 i0 _ 4 32 Tryd.underlying22 hi0 hz0 hz1 hz2 rfl (by decide) (.slice A es.length c) es.length (evsC es) rfl (by exact hown5.alloc _) (w5.heap.size + 1) (some ⟨w5.heap.size, 0, none⟩) 1 1 [.int .i64 r0, .int .i64 r1, .int .i64 r2, .int .i64 r3] rfl (by exact reads_lit (blk_new_at (by simp)) (by simp) rfl) (by simp [Value.oneCell']) (by unfold maxLen; omega) (by omega) (by simp; have := hp5.c2.lt; omega) ?_; intro v8 w8 hown8 hg8 hat8; obtain ⟨g8, cap8, rfl⟩ := own_form hown8; have hneo : some w.heap.size ≠ (Value.slice A es.length c).ownBlock := (fun e => by have := (hown5.lt _ e.symm).1; omega); have hcur8 := blk_grown (t := 22) (by exact (hcur5.alloc _)) hg8 hneo; have d0 := hcur8.cell 0; have d1 := hcur8.frozen 0; simp only [List.getElem?_toArray, List.getElem?_cons_zero] at d0; have hl8 := hcur8.lt)
                          try go_simp
                          refine hK _ _ ?_
                          clear hK K
                          refine wpAny_ready (rs := [9]) (by kernel_rfl) (by simp) ?_
                          refine AllReady.cons rfl (fun K hK => ?_) ?_
                          · skip
                            go_simp
                            refine hK _ _ ?_
                            clear hK K
                            refine wpAny_ready (rs := [10]) (by kernel_rfl) (by simp) ?_
                            refine AllReady.cons rfl (fun K hK => ?_) ?_
                            · skip
                              go_simp
                              refine hK _ _ ?_
                              clear hK K
                              refine wpAny_done (by kernel_rfl) ?_ _
                              go_wp2_with fail
                              have hn8 : PaAt w (w8.setCell ⟨w.heap.size, 0, none⟩ (.slice (some ⟨g8, 0, none⟩) (es.length + 1) cap8)) (es ++ [⟨r0, r1, r2, r3⟩]) (.slice (some ⟨g8, 0, none⟩) (es.length + 1) cap8) := (hp5.later ((Below.refl _ _).alloc (Nat.le_refl _) _)).push hg8 (by rw [List.length_append, evsC_snoc]; exact hown8)
                              have hR3 : parseL k rest.data.toList (es ++ [⟨r0, r1, r2, r3⟩]) = res := HR2.out
                              go_roundg rest.size
                              case rel => exact ⟨rest, _, _, rfl, Nat.le_refl _, by omega, hn8, by rw [List.length_append]; simp; omega, ⟨k, by omega, hR3⟩⟩
                              case measure => omega
                            exact AllReady.nil
                          exact AllReady.nil
                        exact AllReady.nil
                      exact AllReady.nil
                    exact AllReady.nil
                  exact AllReady.nil
                refine AllReady.cons rfl (fun K hK => ?_) ?_
                · skip
                  go_simp
                  refine hK _ _ ?_
                  clear hK K
                  refine wpAny_ready (rs := [0, 5]) (by kernel_rfl) (by simp) ?_
                  refine AllReady.cons rfl (fun K hK => ?_) ?_
                  · skip
                    go_simp
                    refine hK _ _ ?_
                    clear hK K
                    refine wpAny_ready (rs := [5]) (by kernel_rfl) (by simp) ?_
                    refine AllReady.cons rfl (fun K hK => ?_) ?_
                    · skip
                      go_simp
                      (go_at_call 43; refine (HREAD.out _ (HP9.out _).env).mono ?_; rintro e5 w5 ⟨hx5, hb5⟩; rcases rd with _ | ⟨r0, r1, r2, r3⟩; (· obtain rfl := hx5; have hp6 : PaAt w w5 es _ := (HP9.out _).later hb5; refine leaves_cons (f := 41) (args := #[.pointer (some ⟨w.heap.size, 0, none⟩), .pointer (some ⟨w.heap.size + 1, 0, none⟩), .pointer (some ⟨w.heap.size + 1 + 1, 0, none⟩)]) (by simp) (by simp [go_sem]) ?_; refine (catch_some w.heap.size A es.length c ((es.length : Int) + 1) 4 _ hp6.c0 hp6.c1 hp6.c2).mono ?_; rintro e6 u6 w6 ⟨rfl, rfl, k0, k1, k2, k3⟩; have z0 := k0.cell 0; have z1 := k1.cell 0; have z2 := k2.cell 0; simp only [List.getElem?_toArray, List.getElem?_cons_zero] at z0 z1 z2; obtain rfl : ([], (es.length : Int) + 1, 4) = res := HR2.out; simp [Leaves, settle, results, Tryd.results14, go_sem, z0, z1, z2]; exact ⟨.inl rfl, hp6.bl.trans k3⟩); obtain rfl : e5 = .returned (.agg #[.int .i64 r0, .int .i64 r1, .int .i64 r2, .int .i64 r3]) := hx5; have hp5 : PaAt w w5 es _ := (HP9.out _).later hb5; have y0 := hp5.c0.cell 0; simp only [List.getElem?_toArray, List.getElem?_cons_zero] at y0; have hown5 := hp5.own; have hl5 := hp5.c0.lt; have hcur5 := hp5.c0; have hz5 := hp5.bl.size)
                      go_simp
                      refine hK _ _ ?_
                      clear hK K
                      refine wpAny_ready (rs := [6]) (by kernel_rfl) (by simp) ?_
                      refine AllReady.cons rfl (fun K hK => ?_) ?_
                      · skip
                        go_simp
                        refine hK _ _ ?_
                        clear hK K
                        refine wpAny_ready (rs := [7]) (by kernel_rfl) (by simp) ?_
                        refine AllReady.cons rfl (fun K hK => ?_) ?_
                        · skip
                          (refine step_append_any _ rfl (.tmp 35) (.tmp 41) _ rfl (w.heap.size + 3) 36 i0 _ 4 32 Tryd.underlying22 hi0 hz0 hz1 hz2 rfl (by decide) (.slice A es.length c) es.length (evsC es) rfl (by exact hown5.alloc _) (w5.heap.size + 1) (some ⟨w5.heap.size, 0, none⟩) 1 1 [.int .i64 r0, .int .i64 r1, .int .i64 r2, .int .i64 r3] rfl (by exact reads_lit (blk_new_at (by simp)) (by simp) rfl) (by simp [Value.oneCell']) (by unfold maxLen; omega) (by omega) (by simp; have := hp5.c2.lt; omega) ?_; intro v8 w8 hown8 hg8 hat8; obtain ⟨g8, cap8, rfl⟩ := own_form hown8; have hneo : some w.heap.size ≠ (Value.slice A es.length c).ownBlock := (fun e => by have := (hown5.lt _ e.symm).1; omega); have hcur8 := blk_grown (t := 22) (by exact (hcur5.alloc _)) hg8 hneo; have d0 := hcur8.cell 0; have d1 := hcur8.frozen 0; simp only [List.getElem?_toArray, List.getElem?_cons_zero] at d0; have hl8 := hcur8.lt)
                          try go_simp
                          refine hK _ _ ?_
                          clear hK K
                          refine wpAny_ready (rs := [9]) (by kernel_rfl) (by simp) ?_
                          refine AllReady.cons rfl (fun K hK => ?_) ?_
                          · skip
                            go_simp
                            refine hK _ _ ?_
                            clear hK K
                            refine wpAny_ready (rs := [10]) (by kernel_rfl) (by simp) ?_
                            refine AllReady.cons rfl (fun K hK => ?_) ?_
                            · skip
                              go_simp
                              refine hK _ _ ?_
                              clear hK K
                              refine wpAny_done (by kernel_rfl) ?_ _
                              go_wp2_with fail
                              have hn8 : PaAt w (w8.setCell ⟨w.heap.size, 0, none⟩ (.slice (some ⟨g8, 0, none⟩) (es.length + 1) cap8)) (es ++ [⟨r0, r1, r2, r3⟩]) (.slice (some ⟨g8, 0, none⟩) (es.length + 1) cap8) := (hp5.later ((Below.refl _ _).alloc (Nat.le_refl _) _)).push hg8 (by rw [List.length_append, evsC_snoc]; exact hown8)
                              have hR3 : parseL k rest.data.toList (es ++ [⟨r0, r1, r2, r3⟩]) = res := HR2.out
                              go_roundg rest.size
                              case rel => exact ⟨rest, _, _, rfl, Nat.le_refl _, by omega, hn8, by rw [List.length_append]; simp; omega, ⟨k, by omega, hR3⟩⟩
                              case measure => omega
                            exact AllReady.nil
                          exact AllReady.nil
                        exact AllReady.nil
                      exact AllReady.nil
                    exact AllReady.nil
                  refine AllReady.cons rfl (fun K hK => ?_) ?_
                  · skip
                    go_simp
                    (go_at_call 43; refine (HREAD.out _ (HP9.out _).env).mono ?_; rintro e5 w5 ⟨hx5, hb5⟩; rcases rd with _ | ⟨r0, r1, r2, r3⟩; (· obtain rfl := hx5; have hp6 : PaAt w w5 es _ := (HP9.out _).later hb5; refine leaves_cons (f := 41) (args := #[.pointer (some ⟨w.heap.size, 0, none⟩), .pointer (some ⟨w.heap.size + 1, 0, none⟩), .pointer (some ⟨w.heap.size + 1 + 1, 0, none⟩)]) (by simp) (by simp [go_sem]) ?_; refine (catch_some w.heap.size A es.length c ((es.length : Int) + 1) 4 _ hp6.c0 hp6.c1 hp6.c2).mono ?_; rintro e6 u6 w6 ⟨rfl, rfl, k0, k1, k2, k3⟩; have z0 := k0.cell 0; have z1 := k1.cell 0; have z2 := k2.cell 0; simp only [List.getElem?_toArray, List.getElem?_cons_zero] at z0 z1 z2; obtain rfl : ([], (es.length : Int) + 1, 4) = res := HR2.out; simp [Leaves, settle, results, Tryd.results14, go_sem, z0, z1, z2]; exact ⟨.inl rfl, hp6.bl.trans k3⟩); obtain rfl : e5 = .returned (.agg #[.int .i64 r0, .int .i64 r1, .int .i64 r2, .int .i64 r3]) := hx5; have hp5 : PaAt w w5 es _ := (HP9.out _).later hb5; have y0 := hp5.c0.cell 0; simp only [List.getElem?_toArray, List.getElem?_cons_zero] at y0; have hown5 := hp5.own; have hl5 := hp5.c0.lt; have hcur5 := hp5.c0; have hz5 := hp5.bl.size)
                    go_simp
                    refine hK _ _ ?_
                    clear hK K
                    refine wpAny_ready (rs := [0, 6]) (by kernel_rfl) (by simp) ?_
                    refine AllReady.cons rfl (fun K hK => ?_) ?_
                    · skip
                      go_simp
                      refine hK _ _ ?_
                      clear hK K
                      refine wpAny_ready (rs := [6]) (by kernel_rfl) (by simp) ?_
                      refine AllReady.cons rfl (fun K hK => ?_) ?_
                      · skip
                        go_simp
                        refine hK _ _ ?_
                        clear hK K
                        refine wpAny_ready (rs := [7]) (by kernel_rfl) (by simp) ?_
                        refine AllReady.cons rfl (fun K hK => ?_) ?_
                        · skip
                          (refine step_append_any _ rfl (.tmp 35) (.tmp 41) _ rfl (w.heap.size + 3) 36 i0 _ 4 32 Tryd.underlying22 hi0 hz0 hz1 hz2 rfl (by decide) (.slice A es.length c) es.length (evsC es) rfl (by exact hown5.alloc _) (w5.heap.size + 1) (some ⟨w5.heap.size, 0, none⟩) 1 1 [.int .i64 r0, .int .i64 r1, .int .i64 r2, .int .i64 r3] rfl (by exact reads_lit (blk_new_at (by simp)) (by simp) rfl) (by simp [Value.oneCell']) (by unfold maxLen; omega) (by omega) (by simp; have := hp5.c2.lt; omega) ?_; intro v8 w8 hown8 hg8 hat8; obtain ⟨g8, cap8, rfl⟩ := own_form hown8; have hneo : some w.heap.size ≠ (Value.slice A es.length c).ownBlock := (fun e => by have := (hown5.lt _ e.symm).1; omega); have hcur8 := blk_grown (t := 22) (by exact (hcur5.alloc _)) hg8 hneo; have d0 := hcur8.cell 0; have d1 := hcur8.frozen 0; simp only [List.getElem?_toArray, List.getElem?_cons_zero] at d0; have hl8 := hcur8.lt)
                          try go_simp
                          refine hK _ _ ?_
                          clear hK K
                          refine wpAny_ready (rs := [9]) (by kernel_rfl) (by simp) ?_
                          refine AllReady.cons rfl (fun K hK => ?_) ?_
                          · skip
                            go_simp
                            refine hK _ _ ?_
                            clear hK K
                            refine wpAny_ready (rs := [10]) (by kernel_rfl) (by simp) ?_
                            refine AllReady.cons rfl (fun K hK => ?_) ?_
                            · skip
                              go_simp
                              refine hK _ _ ?_
                              clear hK K
                              refine wpAny_done (by kernel_rfl) ?_ _
                              go_wp2_with fail
                              have hn8 : PaAt w (w8.setCell ⟨w.heap.size, 0, none⟩ (.slice (some ⟨g8, 0, none⟩) (es.length + 1) cap8)) (es ++ [⟨r0, r1, r2, r3⟩]) (.slice (some ⟨g8, 0, none⟩) (es.length + 1) cap8) := (hp5.later ((Below.refl _ _).alloc (Nat.le_refl _) _)).push hg8 (by rw [List.length_append, evsC_snoc]; exact hown8)
                              have hR3 : parseL k rest.data.toList (es ++ [⟨r0, r1, r2, r3⟩]) = res := HR2.out
                              go_roundg rest.size
                              case rel => exact ⟨rest, _, _, rfl, Nat.le_refl _, by omega, hn8, by rw [List.length_append]; simp; omega, ⟨k, by omega, hR3⟩⟩
                              case measure => omega
                            exact AllReady.nil
                          exact AllReady.nil
                        exact AllReady.nil
                      exact AllReady.nil
                    refine AllReady.cons rfl (fun K hK => ?_) ?_
                    · skip
                      go_simp
                      refine hK _ _ ?_
                      clear hK K
                      refine wpAny_ready (rs := [0]) (by kernel_rfl) (by simp) ?_
                      refine AllReady.cons rfl (fun K hK => ?_) ?_
                      · skip
                        go_simp
                        refine hK _ _ ?_
                        clear hK K
                        refine wpAny_ready (rs := [7]) (by kernel_rfl) (by simp) ?_
                        refine AllReady.cons rfl (fun K hK => ?_) ?_
                        · skip
                          (refine step_append_any _ rfl (.tmp 35) (.tmp 41) _ rfl (w.heap.size + 3) 36 i0 _ 4 32 Tryd.underlying22 hi0 hz0 hz1 hz2 rfl (by decide) (.slice A es.length c) es.length (evsC es) rfl (by exact hown5.alloc _) (w5.heap.size + 1) (some ⟨w5.heap.size, 0, none⟩) 1 1 [.int .i64 r0, .int .i64 r1, .int .i64 r2, .int .i64 r3] rfl (by exact reads_lit (blk_new_at (by simp)) (by simp) rfl) (by simp [Value.oneCell']) (by unfold maxLen; omega) (by omega) (by simp; have := hp5.c2.lt; omega) ?_; intro v8 w8 hown8 hg8 hat8; obtain ⟨g8, cap8, rfl⟩ := own_form hown8; have hneo : some w.heap.size ≠ (Value.slice A es.length c).ownBlock := (fun e => by have := (hown5.lt _ e.symm).1; omega); have hcur8 := blk_grown (t := 22) (by exact (hcur5.alloc _)) hg8 hneo; have d0 := hcur8.cell 0; have d1 := hcur8.frozen 0; simp only [List.getElem?_toArray, List.getElem?_cons_zero] at d0; have hl8 := hcur8.lt)
                          try go_simp
                          refine hK _ _ ?_
                          clear hK K
                          refine wpAny_ready (rs := [9]) (by kernel_rfl) (by simp) ?_
                          refine AllReady.cons rfl (fun K hK => ?_) ?_
                          · skip
                            go_simp
                            refine hK _ _ ?_
                            clear hK K
                            refine wpAny_ready (rs := [10]) (by kernel_rfl) (by simp) ?_
                            refine AllReady.cons rfl (fun K hK => ?_) ?_
                            · skip
                              go_simp
                              refine hK _ _ ?_
                              clear hK K
                              refine wpAny_done (by kernel_rfl) ?_ _
                              go_wp2_with fail
                              have hn8 : PaAt w (w8.setCell ⟨w.heap.size, 0, none⟩ (.slice (some ⟨g8, 0, none⟩) (es.length + 1) cap8)) (es ++ [⟨r0, r1, r2, r3⟩]) (.slice (some ⟨g8, 0, none⟩) (es.length + 1) cap8) := (hp5.later ((Below.refl _ _).alloc (Nat.le_refl _) _)).push hg8 (by rw [List.length_append, evsC_snoc]; exact hown8)
                              have hR3 : parseL k rest.data.toList (es ++ [⟨r0, r1, r2, r3⟩]) = res := HR2.out
                              go_roundg rest.size
                              case rel => exact ⟨rest, _, _, rfl, Nat.le_refl _, by omega, hn8, by rw [List.length_append]; simp; omega, ⟨k, by omega, hR3⟩⟩
                              case measure => omega
                            exact AllReady.nil
                          exact AllReady.nil
                        exact AllReady.nil
                      exact AllReady.nil
                    exact AllReady.nil
                  exact AllReady.nil
                exact AllReady.nil
              exact AllReady.nil
            exact AllReady.nil
end Go.Proofs.YtbpeienllhbffaaDoor
