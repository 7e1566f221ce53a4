/-
  Layer 9 (package loss): the rule, and what one waits for, of the chapter's measure.
-/
import Derived.Test.YtgicljeedegncaaGreatMgLoss
import Derived.Test.YtgicljeedegncaaGreatSpcAck
import Derived.Laws.EntriesVeiled
namespace Go.Proofs.YtgicljeedegncaaGreat
set_option linter.unusedSimpArgs false
set_option linter.unusedVariables false
open Go.RowKit

def steadyR : RT := ⟨100, 1, 100, 0, 0⟩
theorem steadyR_ok : steadyR.ok := ⟨by decide, by decide, by decide, by decide, by decide, by decide, by decide⟩
def steadyV : Value := .agg #[.int .i64 100, .int .i64 1, .int .i64 100, .int .i64 0, .int .i64 0]
theorem steady_check (w : World) : Calls Tryz.prog 95 #[.agg #[.int .i64 100, .int .i64 1, .int .i64 100, .int .i64 0, .int .i64 0]] w fun e w' => e = .returned (.int .i64 0) ∧ Below w.heap.size w w' := rttcheck_ok steadyR w steadyR_ok
set_option maxHeartbeats 1000000 in
theorem steady_great (w : World) : Calls Tryz.prog 146 #[.agg #[.int .i64 100, .int .i64 1, .int .i64 100, .int .i64 0, .int .i64 0]] w fun e w' => e = .returned (.int .i64 100) ∧ Below w.heap.size w w' := by
  have hx := Blk.new w 45 #[.int .i64 100, .int .i64 1, .int .i64 100, .int .i64 0, .int .i64 0]
  have hba : Below w.heap.size w (w.alloc (.cells #[.int .i64 100, .int .i64 1, .int .i64 100, .int .i64 0, .int .i64 0] 45)) := (Below.refl _ _).alloc (Nat.le_refl _) _
  have HX := hide hx
  have HB := hide hba
  clear hx hba
  go_enter Tryz.func146, Tryz.ntmps146
  go_wp2_with fail
  refine (steady_check _).mono ?_
  rintro e1 w1 ⟨rfl, hb⟩
  have hx1 := (hb.block _ HX.out.lt).trans HX.out
  have x0 : w1.cell? ⟨w.heap.size, 0, none⟩ = some (.int .i64 100) := Blk.cell (g := w.heap.size) hx1 0
  have x2 : w1.cell? ⟨w.heap.size, 2, none⟩ = some (.int .i64 100) := Blk.cell (g := w.heap.size) hx1 2
  go_wp2_with fail
  go_ret
  exact ⟨rfl, bw_below' HB.out hb⟩
set_option maxHeartbeats 1000000 in
theorem steady_wait (w : World) : Calls Tryz.prog 97 #[.agg #[.int .i64 100, .int .i64 1, .int .i64 100, .int .i64 0, .int .i64 0]] w fun e w' => e = .returned (.int .i64 1000000) ∧ Below w.heap.size w w' := by
  have hx := Blk.new w 45 #[.int .i64 100, .int .i64 1, .int .i64 100, .int .i64 0, .int .i64 0]
  have hba : Below w.heap.size w (w.alloc (.cells #[.int .i64 100, .int .i64 1, .int .i64 100, .int .i64 0, .int .i64 0] 45)) := (Below.refl _ _).alloc (Nat.le_refl _) _
  have HX := hide hx
  have HB := hide hba
  clear hx hba
  go_enter Tryz.func97, Tryz.ntmps97
  go_wp2_with fail
  refine (steady_check _).mono ?_
  rintro e1 w1 ⟨rfl, hb⟩
  have hx1 := (hb.block _ HX.out.lt).trans HX.out
  have x0 : w1.cell? ⟨w.heap.size, 0, none⟩ = some (.int .i64 100) := Blk.cell (g := w.heap.size) hx1 0
  have x1 : w1.cell? ⟨w.heap.size, 1, none⟩ = some (.int .i64 1) := Blk.cell (g := w.heap.size) hx1 1
  have x2 : w1.cell? ⟨w.heap.size, 2, none⟩ = some (.int .i64 100) := Blk.cell (g := w.heap.size) hx1 2
  have x3 : w1.cell? ⟨w.heap.size, 3, none⟩ = some (.int .i64 0) := Blk.cell (g := w.heap.size) hx1 3
  have x4 : w1.cell? ⟨w.heap.size, 4, none⟩ = some (.int .i64 0) := Blk.cell (g := w.heap.size) hx1 4
  go_wp2_with fail
  refine (steady_great _).mono ?_
  rintro e2 w2 ⟨rfl, hb2⟩
  go_wp2_with fail
  go_ret
  exact ⟨rfl, bw_below' (bw_below' HB.out hb) hb2⟩

/-- What the rule's functions read. -/
structure RuAt (W : World) (B : Nat) (acked now wait : Int) : Prop where
  c0 : W.cell? ⟨B, 0, none⟩ = some (.int .i64 acked)
  c1 : W.cell? ⟨B + 1, 0, none⟩ = some (.int .i64 now)
  c2 : W.cell? ⟨B + 2, 0, none⟩ = some (.int .i64 wait)
  c4 : W.cell? ⟨B + 4, 0, none⟩ = some (.func (.func 142) #[] #[.pointer (some ⟨B + 2, 0, none⟩)])
theorem RuAt.cellB {W W' : World} {k : Nat} {v : Value} (h : W.cell? ⟨k, 0, none⟩ = some v) (hb : Below W.heap.size W W') : W'.cell? ⟨k, 0, none⟩ = some v := (hb.cell (p := ⟨k, 0, none⟩) (cell_lt h)).trans h
theorem RuAt.below {W W' : World} {B : Nat} {acked now wait : Int} (h : RuAt W B acked now wait) (hb : Below W.heap.size W W') : RuAt W' B acked now wait := ⟨RuAt.cellB h.c0 hb, RuAt.cellB h.c1 hb, RuAt.cellB h.c2 hb, RuAt.cellB h.c4 hb⟩
theorem RuAt.alloc {W : World} {B : Nat} {acked now wait : Int} (h : RuAt W B acked now wait) (o : Obj) : RuAt (W.alloc o) B acked now wait := h.below ((Below.refl _ _).alloc (Nat.le_refl _) _)
def ruleV (B : Nat) : Value := .agg #[.func (.func 143) #[] #[.pointer (some ⟨B, 0, none⟩)], .func (.func 144) #[] #[.pointer (some ⟨B, 0, none⟩), .pointer (some ⟨B + 4, 0, none⟩), .pointer (some ⟨B + 1, 0, none⟩)], .func (.func 145) #[] #[.pointer (some ⟨B + 4, 0, none⟩)]]
set_option maxHeartbeats 2000000 in
theorem ruled_any (acked now wait : Int) (w : World) : Calls Tryz.prog 96 #[.int .i64 acked, .int .i64 now, .int .i64 wait] w fun e w' => e = .returned (ruleV w.heap.size) ∧ RuAt w' w.heap.size acked now wait ∧ Below w.heap.size w w' ∧ w'.heap.size = w.heap.size + 5 := by
  go_enter Tryz.func96, Tryz.ntmps96
  go_wp2_with fail
  have q0 := (((((Blk.new w 3 #[.int .i64 acked]).alloc (.cells #[.int .i64 now] 3)).alloc (.cells #[.int .i64 wait] 3)).alloc (.cells #[.func (.func 143) #[] #[.pointer (some ⟨w.heap.size, 0, none⟩)], .func (.func 144) #[] #[.pointer (some ⟨w.heap.size, 0, none⟩), .pointer (some ⟨w.heap.size + 1 + 1 + 1 + 1, 0, none⟩), .pointer (some ⟨w.heap.size + 1, 0, none⟩)], .func (.func 145) #[] #[.pointer (some ⟨w.heap.size + 1 + 1 + 1 + 1, 0, none⟩)]] 128)).alloc (.cells #[.func (.func 142) #[] #[.pointer (some ⟨w.heap.size + 1 + 1, 0, none⟩)]] 126))
  have hbb : Below w.heap.size w (((((w.alloc (.cells #[.int .i64 acked] 3)).alloc (.cells #[.int .i64 now] 3)).alloc (.cells #[.int .i64 wait] 3)).alloc (.cells #[.func (.func 143) #[] #[.pointer (some ⟨w.heap.size, 0, none⟩)], .func (.func 144) #[] #[.pointer (some ⟨w.heap.size, 0, none⟩), .pointer (some ⟨w.heap.size + 1 + 1 + 1 + 1, 0, none⟩), .pointer (some ⟨w.heap.size + 1, 0, none⟩)], .func (.func 145) #[] #[.pointer (some ⟨w.heap.size + 1 + 1 + 1 + 1, 0, none⟩)]] 128)).alloc (.cells #[.func (.func 142) #[] #[.pointer (some ⟨w.heap.size + 1 + 1, 0, none⟩)]] 126)) :=
    (((((Below.refl _ _).alloc (Nat.le_refl _) _).alloc (by simp) _).alloc (by simp; omega) _).alloc (by simp; omega) _).alloc (by simp; omega) _
  have hsz : (((((w.alloc (.cells #[.int .i64 acked] 3)).alloc (.cells #[.int .i64 now] 3)).alloc (.cells #[.int .i64 wait] 3)).alloc (.cells #[.func (.func 143) #[] #[.pointer (some ⟨w.heap.size, 0, none⟩)], .func (.func 144) #[] #[.pointer (some ⟨w.heap.size, 0, none⟩), .pointer (some ⟨w.heap.size + 1 + 1 + 1 + 1, 0, none⟩), .pointer (some ⟨w.heap.size + 1, 0, none⟩)], .func (.func 145) #[] #[.pointer (some ⟨w.heap.size + 1 + 1 + 1 + 1, 0, none⟩)]] 128)).alloc (.cells #[.func (.func 142) #[] #[.pointer (some ⟨w.heap.size + 1 + 1, 0, none⟩)]] 126)).heap.size = w.heap.size + 5 := by simp only [World.size_alloc]
  have q1 := ((((blk_new_at (W := w.alloc (.cells #[.int .i64 acked] 3)) (n := w.heap.size + 1) (t := 3) (cs := #[.int .i64 now]) (by simp)).alloc (.cells #[.int .i64 wait] 3)).alloc (.cells #[.func (.func 143) #[] #[.pointer (some ⟨w.heap.size, 0, none⟩)], .func (.func 144) #[] #[.pointer (some ⟨w.heap.size, 0, none⟩), .pointer (some ⟨w.heap.size + 1 + 1 + 1 + 1, 0, none⟩), .pointer (some ⟨w.heap.size + 1, 0, none⟩)], .func (.func 145) #[] #[.pointer (some ⟨w.heap.size + 1 + 1 + 1 + 1, 0, none⟩)]] 128)).alloc (.cells #[.func (.func 142) #[] #[.pointer (some ⟨w.heap.size + 1 + 1, 0, none⟩)]] 126))
  have q2 := (((blk_new_at (W := (w.alloc (.cells #[.int .i64 acked] 3)).alloc (.cells #[.int .i64 now] 3)) (n := w.heap.size + 2) (t := 3) (cs := #[.int .i64 wait]) (by simp)).alloc (.cells #[.func (.func 143) #[] #[.pointer (some ⟨w.heap.size, 0, none⟩)], .func (.func 144) #[] #[.pointer (some ⟨w.heap.size, 0, none⟩), .pointer (some ⟨w.heap.size + 1 + 1 + 1 + 1, 0, none⟩), .pointer (some ⟨w.heap.size + 1, 0, none⟩)], .func (.func 145) #[] #[.pointer (some ⟨w.heap.size + 1 + 1 + 1 + 1, 0, none⟩)]] 128)).alloc (.cells #[.func (.func 142) #[] #[.pointer (some ⟨w.heap.size + 1 + 1, 0, none⟩)]] 126))
  have q3 := ((blk_new_at (W := ((w.alloc (.cells #[.int .i64 acked] 3)).alloc (.cells #[.int .i64 now] 3)).alloc (.cells #[.int .i64 wait] 3)) (n := w.heap.size + 3) (t := 128) (cs := #[.func (.func 143) #[] #[.pointer (some ⟨w.heap.size, 0, none⟩)], .func (.func 144) #[] #[.pointer (some ⟨w.heap.size, 0, none⟩), .pointer (some ⟨w.heap.size + 1 + 1 + 1 + 1, 0, none⟩), .pointer (some ⟨w.heap.size + 1, 0, none⟩)], .func (.func 145) #[] #[.pointer (some ⟨w.heap.size + 1 + 1 + 1 + 1, 0, none⟩)]]) (by simp)).alloc (.cells #[.func (.func 142) #[] #[.pointer (some ⟨w.heap.size + 1 + 1, 0, none⟩)]] 126))
  have q4 := (blk_new_at (W := (((w.alloc (.cells #[.int .i64 acked] 3)).alloc (.cells #[.int .i64 now] 3)).alloc (.cells #[.int .i64 wait] 3)).alloc (.cells #[.func (.func 143) #[] #[.pointer (some ⟨w.heap.size, 0, none⟩)], .func (.func 144) #[] #[.pointer (some ⟨w.heap.size, 0, none⟩), .pointer (some ⟨w.heap.size + 1 + 1 + 1 + 1, 0, none⟩), .pointer (some ⟨w.heap.size + 1, 0, none⟩)], .func (.func 145) #[] #[.pointer (some ⟨w.heap.size + 1 + 1 + 1 + 1, 0, none⟩)]] 128)) (n := w.heap.size + 4) (t := 126) (cs := #[.func (.func 142) #[] #[.pointer (some ⟨w.heap.size + 1 + 1, 0, none⟩)]]) (by simp))
  generalize (((((w.alloc (.cells #[.int .i64 acked] 3)).alloc (.cells #[.int .i64 now] 3)).alloc (.cells #[.int .i64 wait] 3)).alloc (.cells #[.func (.func 143) #[] #[.pointer (some ⟨w.heap.size, 0, none⟩)], .func (.func 144) #[] #[.pointer (some ⟨w.heap.size, 0, none⟩), .pointer (some ⟨w.heap.size + 1 + 1 + 1 + 1, 0, none⟩), .pointer (some ⟨w.heap.size + 1, 0, none⟩)], .func (.func 145) #[] #[.pointer (some ⟨w.heap.size + 1 + 1 + 1 + 1, 0, none⟩)]] 128)).alloc (.cells #[.func (.func 142) #[] #[.pointer (some ⟨w.heap.size + 1 + 1, 0, none⟩)]] 126)) = W5 at *
  have z0 : W5.cell? ⟨w.heap.size + 1 + 1 + 1, 0, none⟩ = some (.func (.func 143) #[] #[.pointer (some ⟨w.heap.size, 0, none⟩)]) := Blk.cell (g := w.heap.size + 3) q3 0
  have z1 : W5.cell? ⟨w.heap.size + 1 + 1 + 1, 1, none⟩ = some (.func (.func 144) #[] #[.pointer (some ⟨w.heap.size, 0, none⟩), .pointer (some ⟨w.heap.size + 1 + 1 + 1 + 1, 0, none⟩), .pointer (some ⟨w.heap.size + 1, 0, none⟩)]) := Blk.cell (g := w.heap.size + 3) q3 1
  have z2 : W5.cell? ⟨w.heap.size + 1 + 1 + 1, 2, none⟩ = some (.func (.func 145) #[] #[.pointer (some ⟨w.heap.size + 1 + 1 + 1 + 1, 0, none⟩)]) := Blk.cell (g := w.heap.size + 3) q3 2
  exact bodyPost_ret (v := ruleV w.heap.size) (by simp [results, Tryz.results96, go_sem, z0, z1, z2, ruleV]) rfl ⟨rfl, ⟨Blk.cell (g := w.heap.size) q0 0, Blk.cell (g := w.heap.size + 1) q1 0, Blk.cell (g := w.heap.size + 2) q2 0, Blk.cell (g := w.heap.size + 4) q4 0⟩, hbb, hsz⟩
section
variable (q : PK) (B : Nat) (acked now wait : Int) (w : World)
theorem pk_box (h : RuAt w B acked now wait) : RuAt (w.alloc (.cells (pkC q) 40)) B acked now wait ∧ Blk (w.alloc (.cells (pkC q) 40)) w.heap.size 40 (pkC q) ∧ Below w.heap.size w (w.alloc (.cells (pkC q) 40)) := ⟨h.alloc _, Blk.new _ _ _, (Below.refl _ _).alloc (Nat.le_refl _) _⟩
theorem due1_any (h : RuAt w B acked now wait) (hw : IntKind.i64.wrap (q.t + wait) = q.t + wait) : Calls Tryz.prog 142 #[.agg (pkC q), .pointer (some ⟨B + 2, 0, none⟩)] w fun e w' => e = .returned (.int .i64 (q.t + wait)) ∧ Below w.heap.size w w' := by
  obtain ⟨h1, h2, h3⟩ := pk_box q B acked now wait w h
  have y2 := h1.c2
  have x1 : (w.alloc (.cells (pkC q) 40)).cell? ⟨w.heap.size, 1, none⟩ = some (.int .i64 q.t) := h2.cell 1
  have HB := hide h3
  clear h h1 h2 h3
  unfold pkC at *
  go_enter Tryz.func142, Tryz.ntmps142
  go_wp2_with fail
  go_ret
  exact ⟨rfl, HB.out⟩
theorem meant2_any (h : RuAt w B acked now wait) : Calls Tryz.prog 143 #[.agg (pkC q), .pointer (some ⟨B, 0, none⟩)] w fun e w' => e = .returned (.bool (decide (q.n ≤ acked))) ∧ Below w.heap.size w w' := by
  obtain ⟨h1, h2, h3⟩ := pk_box q B acked now wait w h
  have y0 := h1.c0
  have x0 : (w.alloc (.cells (pkC q) 40)).cell? ⟨w.heap.size, 0, none⟩ = some (.int .i64 q.n) := h2.cell 0
  have HB := hide h3
  clear h h1 h2 h3
  unfold pkC at *
  go_enter Tryz.func143, Tryz.ntmps143
  go_wp2_with fail
  go_ret
  exact ⟨rfl, HB.out⟩
set_option maxHeartbeats 1000000 in
theorem due4_any (h : RuAt w B acked now wait) (hw : IntKind.i64.wrap (q.t + wait) = q.t + wait) : Calls Tryz.prog 145 #[.agg (pkC q), .pointer (some ⟨B + 4, 0, none⟩)] w fun e w' => e = .returned (.int .i64 (if 9007199254740991 < q.t + wait then 9007199254740991 else q.t + wait)) ∧ Below w.heap.size w w' := by
  obtain ⟨h1, h2, h3⟩ := pk_box q B acked now wait w h
  have y4 := h1.c4
  have x0 : (w.alloc (.cells (pkC q) 40)).cell? ⟨w.heap.size, 0, none⟩ = some (.int .i64 q.n) := h2.cell 0
  have x1 : (w.alloc (.cells (pkC q) 40)).cell? ⟨w.heap.size, 1, none⟩ = some (.int .i64 q.t) := h2.cell 1
  have x2 : (w.alloc (.cells (pkC q) 40)).cell? ⟨w.heap.size, 2, none⟩ = some (.int .i64 q.s) := h2.cell 2
  have x3 : (w.alloc (.cells (pkC q) 40)).cell? ⟨w.heap.size, 3, none⟩ = some (.bool q.e) := h2.cell 3
  have x4 : (w.alloc (.cells (pkC q) 40)).cell? ⟨w.heap.size, 4, none⟩ = some (.bool q.f) := h2.cell 4
  have x5 : (w.alloc (.cells (pkC q) 40)).cell? ⟨w.heap.size, 5, none⟩ = some (.bool q.c) := h2.cell 5
  have HD := hide (due1_any q B acked now wait _ h1 hw)
  have HB := hide h3
  obtain ⟨D, hD⟩ : ∃ D, q.t + wait = D := ⟨_, rfl⟩
  rw [hD] at HD ⊢
  clear h h1 h2 h3 hw hD
  unfold pkC at *
  by_cases hlt : 9007199254740991 < D
  · rw [if_pos hlt]
    go_enter Tryz.func145, Tryz.ntmps145
    go_wp2_with fail
    refine HD.out.mono ?_
    rintro e1 w1 ⟨rfl, hb⟩
    go_wp2_with fail
    go_ret
    exact ⟨rfl, bw_below' HB.out hb⟩
  · rw [if_neg hlt]
    have h2 : (if D < 9007199254740991 then D else 9007199254740991) = D := by split <;> omega
    go_enter Tryz.func145, Tryz.ntmps145
    go_wp2_with fail
    refine HD.out.mono ?_
    rintro e1 w1 ⟨rfl, hb⟩
    go_wp2_with fail
    go_ret
    exact ⟨rfl, bw_below' HB.out hb⟩
end
end Go.Proofs.YtgicljeedegncaaGreat
