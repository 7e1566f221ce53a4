/-
  sounderlaw24: setting, sends, acks: their walks.
-/
import Derived.Test.YtidfngcclbhoaaaJgRowQ
namespace Go.Proofs.Ytidfngcclbhoaaa
set_option linter.unusedSimpArgs false
set_option linter.unusedVariables false
open Go.RowKit Go.Shelf
def setC : CF := ⟨false, 1200, 12000, 16777216, 333000000, 25000000, 3, 12000, 256, 6⟩
theorem setting_any (w : World) : Calls Try.prog 6 #[.bool false] w fun e w' => e = .returned (.agg #[.bool false, .int .i64 1200, .int .i64 12000, .int .i64 16777216, .int .i64 333000000, .int .i64 25000000, .int .i64 3, .int .i64 12000, .int .i64 256, .int .i64 6]) ∧ Below w.heap.size w w' := by
  go_enter Try.func6, Try.ntmps6
  go_wp2_with fail
  exact bodyPost_ret (v := .agg #[.bool false, .int .i64 1200, .int .i64 12000, .int .i64 16777216, .int .i64 333000000, .int .i64 25000000, .int .i64 3, .int .i64 12000, .int .i64 256, .int .i64 6]) (by simp [results, Try.results6, go_sem]) rfl ⟨rfl, (Below.refl _ _).alloc (Nat.le_refl _) _⟩
/-- The row of a packet: sends. -/
def sRow (n t : Int) : RW := ⟨1, t, 0, 0, ⟨0, n, 1200, true, true, false, false⟩, 0, none, 0, 0, false, 0, 0, 0, none, 0, 0, 0, 0⟩
set_option maxRecDepth 100000 in
set_option maxHeartbeats 2000000 in
theorem sends_law (n t : Int) (w : World) : Calls Try.prog 9 #[.int .i64 n, .int .i64 t] w fun e w' => e = .returned (.agg #[.int .i64 1, .int .i64 t, .int .i64 0, .int .i64 0, .int .i64 0, .int .i64 n, .int .i64 1200, .bool true, .bool true, .bool false, .bool false, .int .i64 0, .slice none 0 0, .bool false, .int .i64 0, .int .i64 0, .int .i64 0, .slice none 0 0, .int .i64 0, .int .i64 0]) ∧ Below w.heap.size w w' := by
  have HA := hide (Blk.new w 36 #[.int .i64 0, .int .i64 0, .int .i64 0, .int .i64 0, .int .i64 0, .int .i64 0, .int .i64 0, .bool false, .bool false, .bool false, .bool false, .int .i64 0, .slice none 0 0, .bool false, .int .i64 0, .int .i64 0, .int .i64 0, .slice none 0 0, .int .i64 0, .int .i64 0])
  go_enter Try.func9, Try.ntmps9
  go_wp2_with (refine wpList_store_row rfl 36 (.tmp 4) (.tmp 8) rfl w.heap.size #[.int .i64 1, .int .i64 t, .int .i64 0, .int .i64 0, .int .i64 0, .int .i64 n, .int .i64 1200, .bool true, .bool true, .bool false, .bool false, .int .i64 0, .slice none 0 0, .bool false, .int .i64 0, .int .i64 0, .int .i64 0, .slice none 0 0, .int .i64 0, .int .i64 0] rfl rfl 36 _ HA.out row_size rfl (by simp [Value.oneCell']) ?_)
  have hr := blk_setRow (cs := #[.int .i64 1, .int .i64 t, .int .i64 0, .int .i64 0, .int .i64 0, .int .i64 n, .int .i64 1200, .bool true, .bool true, .bool false, .bool false, .int .i64 0, .slice none 0 0, .bool false, .int .i64 0, .int .i64 0, .int .i64 0, .slice none 0 0, .int .i64 0, .int .i64 0]) HA.out
  refine bodyPost_ret (v := .agg #[.int .i64 1, .int .i64 t, .int .i64 0, .int .i64 0, .int .i64 0, .int .i64 n, .int .i64 1200, .bool true, .bool true, .bool false, .bool false, .int .i64 0, .slice none 0 0, .bool false, .int .i64 0, .int .i64 0, .int .i64 0, .slice none 0 0, .int .i64 0, .int .i64 0]) (results_cell_row rfl _ _ w.heap.size 36 _ (0, 0) _ rfl hr Try.underlying36 rfl row_size) rfl ⟨rfl, row_new w _ _ _⟩
theorem acks_world (w : World) (zr B C cs : Array Value) (tA tB tC : TypeId) : Blk ((((w.alloc (.cells zr tA)).alloc (.cells B tB)).alloc (.cells C tC)).setRow w.heap.size cs) w.heap.size tA cs ∧ Blk ((((w.alloc (.cells zr tA)).alloc (.cells B tB)).alloc (.cells C tC)).setRow w.heap.size cs) (w.heap.size + 1) tB B ∧
    Blk ((((w.alloc (.cells zr tA)).alloc (.cells B tB)).alloc (.cells C tC)).setRow w.heap.size cs) (w.heap.size + 2) tC C ∧ Below w.heap.size w ((((w.alloc (.cells zr tA)).alloc (.cells B tB)).alloc (.cells C tC)).setRow w.heap.size cs) := by
  have h0 : Blk (((w.alloc (.cells zr tA)).alloc (.cells B tB)).alloc (.cells C tC)) w.heap.size tA zr := ((Blk.new _ _ _).alloc _).alloc _
  have h1 : Blk (((w.alloc (.cells zr tA)).alloc (.cells B tB)).alloc (.cells C tC)) (w.heap.size + 1) tB B := by
    have := (Blk.new (w.alloc (.cells zr tA)) tB B).alloc (.cells C tC)
    simpa using this
  have h2 : Blk (((w.alloc (.cells zr tA)).alloc (.cells B tB)).alloc (.cells C tC)) (w.heap.size + 2) tC C := by
    have := Blk.new ((w.alloc (.cells zr tA)).alloc (.cells B tB)) tC C
    simpa using this
  have hb : Below w.heap.size w (((w.alloc (.cells zr tA)).alloc (.cells B tB)).alloc (.cells C tC)) := (((Below.refl _ _).alloc (Nat.le_refl _) _).alloc (by simp) _).alloc (by simp; omega) _
  have ho : Only [w.heap.size] (((w.alloc (.cells zr tA)).alloc (.cells B tB)).alloc (.cells C tC)) ((((w.alloc (.cells zr tA)).alloc (.cells B tB)).alloc (.cells C tC)).setRow w.heap.size cs) := only_setRow
  exact ⟨blk_setRow h0, ho.blk h1 (by simp), ho.blk h2 (by simp), hb.trans (ho.below (B := w.heap.size) (by intro x hx; rw [List.mem_singleton] at hx; omega) hb.size)⟩
set_option maxRecDepth 100000 in
set_option maxHeartbeats 2000000 in
theorem acks_law (w : World) : Calls Try.prog 10 #[] w fun e w' => (∃ a1 a2, e = .returned (.agg #[.int .i64 2, .int .i64 9, .int .i64 0, .int .i64 0, .int .i64 0, .int .i64 0, .int .i64 0, .bool false, .bool false, .bool false, .bool false, .int .i64 0, .slice (some ⟨a1, 0, none⟩) 1 1, .bool false, .int .i64 0, .int .i64 0, .int .i64 0, .slice (some ⟨a2, 0, none⟩) 2 2, .int .i64 0, .int .i64 0]) ∧ Blk w' a1 61 #[.int .i64 0, .int .i64 0] ∧ Blk w' a2 46 #[.int .i64 1, .int .i64 0, .int .i64 0, .int .i64 1200, .int .i64 4, .int .i64 0, .int .i64 0, .int .i64 13200]) ∧ Below w.heap.size w w' := by
  go_enter Try.func10, Try.ntmps10
  go_wp2_with (refine wpList_store_row rfl 36 (.tmp 0) (.tmp 7) rfl w.heap.size #[.int .i64 2, .int .i64 9, .int .i64 0, .int .i64 0, .int .i64 0, .int .i64 0, .int .i64 0, .bool false, .bool false, .bool false, .bool false, .int .i64 0, .slice (some ⟨w.heap.size + 1, 0, none⟩) 1 1, .bool false, .int .i64 0, .int .i64 0, .int .i64 0, .slice (some ⟨w.heap.size + 2, 0, none⟩) 2 2, .int .i64 0, .int .i64 0] rfl rfl 36 _ (((Blk.new w 36 #[.int .i64 0, .int .i64 0, .int .i64 0, .int .i64 0, .int .i64 0, .int .i64 0, .int .i64 0, .bool false, .bool false, .bool false, .bool false, .int .i64 0, .slice none 0 0, .bool false, .int .i64 0, .int .i64 0, .int .i64 0, .slice none 0 0, .int .i64 0, .int .i64 0]).alloc _).alloc _) row_size rfl (by simp [Value.oneCell']) ?_)
  obtain ⟨h0, h1, h2, h3⟩ := acks_world w #[.int .i64 0, .int .i64 0, .int .i64 0, .int .i64 0, .int .i64 0, .int .i64 0, .int .i64 0, .bool false, .bool false, .bool false, .bool false, .int .i64 0, .slice none 0 0, .bool false, .int .i64 0, .int .i64 0, .int .i64 0, .slice none 0 0, .int .i64 0, .int .i64 0] #[.int .i64 0, .int .i64 0] #[.int .i64 1, .int .i64 0, .int .i64 0, .int .i64 1200, .int .i64 4, .int .i64 0, .int .i64 0, .int .i64 13200] #[.int .i64 2, .int .i64 9, .int .i64 0, .int .i64 0, .int .i64 0, .int .i64 0, .int .i64 0, .bool false, .bool false, .bool false, .bool false, .int .i64 0, .slice (some ⟨w.heap.size + 1, 0, none⟩) 1 1, .bool false, .int .i64 0, .int .i64 0, .int .i64 0, .slice (some ⟨w.heap.size + 2, 0, none⟩) 2 2, .int .i64 0, .int .i64 0] 36 61 46
  exact bodyPost_ret (v := .agg #[.int .i64 2, .int .i64 9, .int .i64 0, .int .i64 0, .int .i64 0, .int .i64 0, .int .i64 0, .bool false, .bool false, .bool false, .bool false, .int .i64 0, .slice (some ⟨w.heap.size + 1, 0, none⟩) 1 1, .bool false, .int .i64 0, .int .i64 0, .int .i64 0, .slice (some ⟨w.heap.size + 2, 0, none⟩) 2 2, .int .i64 0, .int .i64 0]) (results_cell_row rfl _ _ w.heap.size 36 _ (0, 0) _ rfl h0 Try.underlying36 rfl row_size) rfl ⟨⟨_, _, rfl, h1, h2⟩, h3⟩
set_option maxRecDepth 100000 in
set_option maxHeartbeats 4000000 in
theorem finds_yes (Q : Nat → KN → Prop) (f : KN → RR → Except Int KN) (A : Option Addr) (n cap : Nat) (l : List RR) (row rule : Int) (w : World) (hn : l.length = n) (hl : n ≤ 1000) (hL : LieAt rrL 20 w w.heap.size A l)
    (hE : ∀ x ∈ l, LieAt evL 4 w w.heap.size x.r.ea x.es ∧ LieAt rgL 2 w w.heap.size x.r.ra x.rs) (hQ0 : Q 0 (K0 setC 3))
    (hrow : ∀ i x k b base W vf vp vd, Q i k → l[i]? = some x → KnAt W b base (tellK k x) vf vp vd → LieAt evL 4 W base x.r.ea x.es → LieAt rgL 2 W base x.r.ra x.rs → Calls Try.prog 15 #[.pointer (some ⟨b, 0, none⟩), .agg (rwC x.r)] W (RowPost b base W (f (tellK k x) x)))
    (hQ : ∀ i x k k', Q i k → l[i]? = some x → f (tellK k x) x = .ok k' → Q (i + 1) k') (hpos : ∀ i x k m, Q i k → l[i]? = some x → f (tellK k x) x = .error m → 0 < m ∧ m ≤ 100) (hres : lookP f (K0 setC 3) l 0 = (row, rule)) :
    Calls Try.prog 12 #[.slice A n cap, .int .i64 row, .int .i64 rule] w fun e w' => e = .returned (.bool true) ∧ Below w.heap.size w w' := by
  have HSE := hide (fun W => setting_any W)
  have HLK := hide (fun W (hb : Below w.heap.size w W) => (show Calls Try.prog 7 #[.agg #[.bool false, .int .i64 1200, .int .i64 12000, .int .i64 16777216, .int .i64 333000000, .int .i64 25000000, .int .i64 3, .int .i64 12000, .int .i64 256, .int .i64 6], .slice A n cap] W fun e w' => e = .returned (.tuple #[.agg #[.int .i64 row, .int .i64 rule], .int .i64 0]) ∧ Below W.heap.size W w' from by
    have h := look_any Q f setC rfl A n cap l W hn hl ((hL.later hb).up hb.size) (fun x hx => ⟨((hE x hx).1.later hb).up hb.size, ((hE x hx).2.later hb).up hb.size⟩) hQ0 (fun i x k b W' vf vp vd a1 a2 a3 a4 a5 => hrow i x k b W.heap.size W' vf vp vd a1 a2 a3 a4 a5) hQ hpos
    rw [hres] at h
    exact h))
  clear hL hE hQ0 hrow hQ hpos hres hn hl
  go_enter Try.func12, Try.ntmps12
  go_wp2_with fail
  with_reducible refine (HSE.out _).mono ?_
  rintro y1 W1 ⟨rfl, hb1⟩
  go_wp2_with fail
  with_reducible refine (HLK.out _ hb1).mono ?_
  rintro y2 W2 ⟨rfl, hb2⟩
  have HB := hide (hb1.trans (hb2.mono hb1.size))
  clear hb1 hb2 HSE HLK
  go_wp2_with fail
  go_ret
  exact ⟨rfl, HB.out.alloc HB.out.size _⟩
end Go.Proofs.Ytidfngcclbhoaaa
