/-
 sounderlaw24: JudgeKnown: its walk. Printed by wip/genjkb.py.
-/
import Derived.Test.YtidfngcclbhoaaaMjLooks
import Derived.Deep.RegionHeld3
import Derived.Great.CaseRows
import Derived.Deep.CutRange
namespace Go.Proofs.Ytidfngcclbhoaaa
open List renaming getElem_toArray → ZA, getElem_cons_zero → ZB, getElem_cons_succ → ZC, setIfInBounds_toArray → ZD, set_cons_zero → ZE, set_cons_succ → ZF, getElem?_toArray → ZG, getElem?_cons_zero → ZH, getElem?_cons_succ → ZJ
open Go.AllReadyH renaming cons → ZS, nil → ZN
open Go.Act renaming put → ZP
open Go.Value renaming int → ZI
open Go.IntKind renaming i64 → ZQ
set_option linter.unusedSimpArgs false
set_option linter.unusedVariables false
open Go.RowKit Go.Shelf
theorem KhSt.at {w W : World} {X1 X2 a1 a2 X3 X4 X5 a3 N : Nat} (h : KhSt w W X1 X2 a1 a2 X3 X4 X5 a3 N) {i : Nat} {x : RR} (hx : (bigL (fun j => N + j))[i]? = some x) : ∀ j v, (rwC x.r)[j]? = some v → W.cell? ((⟨N + 6, i * 20, none⟩ : Addr).add j) = some v := by
 obtain ⟨g, o, hgo, hg, hz⟩ := (lie_blk rrL_length h.big rfl).at hx
 injection hgo with hgo
 injection hgo with q1 q2
 subst q1 q2
 have := hc_row hz
 simpa using this
theorem big_world (w : World) (E0 E1 E2 E3 E4 E5 cs : Array Value) (t u : TypeId) :
  Blk (((((((w.alloc (.cells E0 t)).alloc (.cells E1 t)).alloc (.cells E2 t)).alloc (.cells E3 t)).alloc (.cells E4 t)).alloc (.cells E5 t)).alloc (.cells cs u)) (w.heap.size + 0) t E0 ∧ Blk (((((((w.alloc (.cells E0 t)).alloc (.cells E1 t)).alloc (.cells E2 t)).alloc (.cells E3 t)).alloc (.cells E4 t)).alloc (.cells E5 t)).alloc (.cells cs u)) (w.heap.size + 1) t E1
  ∧ Blk (((((((w.alloc (.cells E0 t)).alloc (.cells E1 t)).alloc (.cells E2 t)).alloc (.cells E3 t)).alloc (.cells E4 t)).alloc (.cells E5 t)).alloc (.cells cs u)) (w.heap.size + 2) t E2 ∧ Blk (((((((w.alloc (.cells E0 t)).alloc (.cells E1 t)).alloc (.cells E2 t)).alloc (.cells E3 t)).alloc (.cells E4 t)).alloc (.cells E5 t)).alloc (.cells cs u)) (w.heap.size + 3) t E3
  ∧ Blk (((((((w.alloc (.cells E0 t)).alloc (.cells E1 t)).alloc (.cells E2 t)).alloc (.cells E3 t)).alloc (.cells E4 t)).alloc (.cells E5 t)).alloc (.cells cs u)) (w.heap.size + 4) t E4 ∧ Blk (((((((w.alloc (.cells E0 t)).alloc (.cells E1 t)).alloc (.cells E2 t)).alloc (.cells E3 t)).alloc (.cells E4 t)).alloc (.cells E5 t)).alloc (.cells cs u)) (w.heap.size + 5) t E5
  ∧ Blk (((((((w.alloc (.cells E0 t)).alloc (.cells E1 t)).alloc (.cells E2 t)).alloc (.cells E3 t)).alloc (.cells E4 t)).alloc (.cells E5 t)).alloc (.cells cs u)) (w.heap.size + 6) u cs ∧ Below w.heap.size w (((((((w.alloc (.cells E0 t)).alloc (.cells E1 t)).alloc (.cells E2 t)).alloc (.cells E3 t)).alloc (.cells E4 t)).alloc (.cells E5 t)).alloc (.cells cs u)) := by
 have b0 := Blk.new w t E0
 have b1 := Blk.new (w.alloc (.cells E0 t)) t E1
 have b2 := Blk.new ((w.alloc (.cells E0 t)).alloc (.cells E1 t)) t E2
 have b3 := Blk.new (((w.alloc (.cells E0 t)).alloc (.cells E1 t)).alloc (.cells E2 t)) t E3
 have b4 := Blk.new ((((w.alloc (.cells E0 t)).alloc (.cells E1 t)).alloc (.cells E2 t)).alloc (.cells E3 t)) t E4
 have b5 := Blk.new (((((w.alloc (.cells E0 t)).alloc (.cells E1 t)).alloc (.cells E2 t)).alloc (.cells E3 t)).alloc (.cells E4 t)) t E5
 have b6 := Blk.new ((((((w.alloc (.cells E0 t)).alloc (.cells E1 t)).alloc (.cells E2 t)).alloc (.cells E3 t)).alloc (.cells E4 t)).alloc (.cells E5 t)) u cs
 simp only [World.size_alloc] at b1 b2 b3 b4 b5 b6
 refine ⟨(((((b0.alloc _).alloc _).alloc _).alloc _).alloc _).alloc _, ((((b1.alloc _).alloc _).alloc _).alloc _).alloc _, (((b2.alloc _).alloc _).alloc _).alloc _, ((b3.alloc _).alloc _).alloc _, (b4.alloc _).alloc _, b5.alloc _, b6, ?_⟩
 exact (((((((Below.refl _ _).alloc (Nat.le_refl _) _).alloc (by simp) _).alloc (by simp; omega) _).alloc (by simp; omega) _).alloc (by simp; omega) _).alloc (by simp; omega) _).alloc (by simp; omega) _
structure MnSt (w W : World) (A : Option Addr) (X1 X2 a1 a2 X3 X4 X5 a3 N : Nat) : Prop where
 kh : KhSt w W X1 X2 a1 a2 X3 X4 X5 a3 N
 mn : LieAt rrL 20 W W.heap.size A (manyL 12)
theorem MnSt.later {w W W' : World} {A : Option Addr} {X1 X2 a1 a2 X3 X4 X5 a3 N : Nat} (h : MnSt w W A X1 X2 a1 a2 X3 X4 X5 a3 N) (hb : Below W.heap.size W W') : MnSt w W' A X1 X2 a1 a2 X3 X4 X5 a3 N := ⟨h.kh.later hb, (h.mn.later hb).up hb.size⟩
section
variable {P : Program} {w : World}
theorem wpList_load_rowW {ops : Array Oper} {rest : List Oper} {o : Oper} {a : Act} {Q : Exit → Act → World → Prop} (hwt : Region.wanted o (yielded ops a.tmps) = true) (ty : TypeId) (x : Operand) (ho : o.op = .load ty x)
  (g : Nat) (hx : a.eval x = .pointer (some ⟨g, 0, none⟩)) (t : TypeId) (cs : Array Value) (fr : Nat × Nat) (d : TypeDesc) (hg : w.heap[g]? = some (.cells cs t fr))
  (hu : P.underlying ty = some d) (hd : (match d with | .struct _ | .array _ _ => true | _ => false) = true) (hi : (P.info? ty).map (·.size) = some cs.size)
  (h : wpList P ops Q rest (a.put o.dst (.agg cs)) w) : wpList P ops Q (o :: rest) a w :=
 wpList_step fun K hK => by
  rw [if_pos hwt]
  exact wp_load_row ty x ho g hx t cs fr d hg hu hd hi (hK _ _ h)
end
theorem PARone_call (i : Nat) : ((i : Int).tmod 2 == 0) = (i % 2 == 0) := by
 rw [show (i : Int).tmod 2 = ((i % 2 : Nat) : Int) from rfl]
 rcases Nat.mod_two_eq_zero_or_one i with h | h <;> rw [h] <;> rfl
theorem PARtwo_call (i : Nat) : ((i : Int).tmod 2 == 1) = (i % 2 == 1) := by
 rw [show (i : Int).tmod 2 = ((i % 2 : Nat) : Int) from rfl]
 rcases Nat.mod_two_eq_zero_or_one i with h | h <;> rw [h] <;> rfl
def bigV (N : Nat) : List Value := (bigL (fun j => N + j)).map fun x => .agg (rwC x.r)
def bigIx (i : Nat) : Nat := ([29, 30, 32, 34, 36, 38, 39, 40, 41, 42, 43, 46, 49, 52, 55, 59, 62] : List Nat).getD i 0
theorem bigV_len (N : Nat) : (bigV N).length = 17 := rfl
theorem bigV_size (N : Nat) : ∀ v ∈ bigV N, v.cells.size = 20 := by
 intro v hv
 obtain ⟨x, _, rfl⟩ := List.mem_map.1 hv
 rfl
theorem bigV_flat (N : Nat) : ((bigV N).flatMap fun v => v.cells.toList) = (bigL (fun j => N + j)).flatMap rrL := by
 unfold bigV
 rw [List.flatMap_map]
 rfl
set_option maxRecDepth 100000 in
set_option maxHeartbeats 16000000 in
theorem known_any (w : World) : Calls Try.prog 4 #[] w fun e w' => e = .returned (.bool true) ∧ Below w.heap.size w w' := by
 have HSD := hide (fun n t W => sends_law n t W)
 have HAK := hide (fun W => acks_law W)
 go_enter Try.func4, Try.ntmps4
 go_wp2_with fail
 with_reducible refine (HSD.out 0 0 _).mono ?_
 rintro y1 W1 ⟨rfl, hb1⟩
 go_wp2_with fail
 with_reducible refine (HAK.out _).mono ?_
 rintro y2 W2 ⟨⟨a1, a2, rfl, hA1, hA2⟩, hb2⟩
 obtain ⟨g1, g2, g3, g4, g5⟩ := works_world W2 #[ZI ZQ 0, ZI ZQ 0, ZI ZQ 0, ZI ZQ 0, ZI ZQ 0, ZI ZQ 0, ZI ZQ 0, .bool false, .bool false, .bool false, .bool false, ZI ZQ 0, .slice none 0 0, .bool false, ZI ZQ 0, ZI ZQ 0, ZI ZQ 0, .slice none 0 0, ZI ZQ 0, ZI ZQ 0] #[ZI ZQ 1, ZI ZQ 0, ZI ZQ 0, ZI ZQ 0, ZI ZQ 0, ZI ZQ 0, ZI ZQ 1200, .bool true, .bool true, .bool false, .bool false, ZI ZQ 0, .slice none 0 0, .bool false, ZI ZQ 0, ZI ZQ 0, ZI ZQ 0, .slice none 0 0, ZI ZQ 0, ZI ZQ 0] #[ZI ZQ 2, ZI ZQ 9, ZI ZQ 0, ZI ZQ 0, ZI ZQ 0, ZI ZQ 0, ZI ZQ 0, .bool false, .bool false, .bool false, .bool false, ZI ZQ 0, .slice (some ⟨a1, 0, none⟩) 1 1, .bool false, ZI ZQ 0, ZI ZQ 0, ZI ZQ 0, .slice (some ⟨a2, 0, none⟩) 2 2, ZI ZQ 0, ZI ZQ 0] 36
 have hbw := hb1.trans (hb2.mono hb1.size)
 have hs3 : WkSt w _ W2.heap.size (W2.heap.size + 1) a1 a2 := ⟨g1, g2, (g3.block _ hA1.lt).trans hA1, (g3.block _ hA2.lt).trans hA2, hbw.trans (g3.mono hbw.size)⟩
 have HS3 := hide hs3
 have G4 := hide g4
 have G5 := hide g5
 clear hs3 g1 g2 g3 g4 g5 hA1 hA2 hb1 hb2 hbw
 go_upto_region 2 with (first
  | (refine wpList_store_row rfl 36 (.tmp 1) (.tmp 19) rfl W2.heap.size #[ZI ZQ 1, ZI ZQ 0, ZI ZQ 0, ZI ZQ 0, ZI ZQ 0, ZI ZQ 0, ZI ZQ 1200, .bool true, .bool true, .bool false, .bool false, ZI ZQ 0, .slice none 0 0, .bool false, ZI ZQ 0, ZI ZQ 0, ZI ZQ 0, .slice none 0 0, ZI ZQ 0, ZI ZQ 0] rfl rfl 36 #[ZI ZQ 0, ZI ZQ 0, ZI ZQ 0, ZI ZQ 0, ZI ZQ 0, ZI ZQ 0, ZI ZQ 0, .bool false, .bool false, .bool false, .bool false, ZI ZQ 0, .slice none 0 0, .bool false, ZI ZQ 0, ZI ZQ 0, ZI ZQ 0, .slice none 0 0, ZI ZQ 0, ZI ZQ 0] G4.out row_size rfl (by simp [Value.oneCell']) ?_)
  | (refine wpList_store_row rfl 36 (.tmp 2) (.tmp 20) rfl (W2.heap.size + 1) #[ZI ZQ 2, ZI ZQ 9, ZI ZQ 0, ZI ZQ 0, ZI ZQ 0, ZI ZQ 0, ZI ZQ 0, .bool false, .bool false, .bool false, .bool false, ZI ZQ 0, .slice (some ⟨a1, 0, none⟩) 1 1, .bool false, ZI ZQ 0, ZI ZQ 0, ZI ZQ 0, .slice (some ⟨a2, 0, none⟩) 2 2, ZI ZQ 0, ZI ZQ 0] rfl rfl 36 #[ZI ZQ 0, ZI ZQ 0, ZI ZQ 0, ZI ZQ 0, ZI ZQ 0, ZI ZQ 0, ZI ZQ 0, .bool false, .bool false, .bool false, .bool false, ZI ZQ 0, .slice none 0 0, .bool false, ZI ZQ 0, ZI ZQ 0, ZI ZQ 0, .slice none 0 0, ZI ZQ 0, ZI ZQ 0] G5.out row_size rfl (by simp [Value.oneCell']) ?_))
 obtain ⟨W3, hW3⟩ : ∃ x, (((W2.alloc (.cells #[ZI ZQ 0, ZI ZQ 0, ZI ZQ 0, ZI ZQ 0, ZI ZQ 0, ZI ZQ 0, ZI ZQ 0, .bool false, .bool false, .bool false, .bool false, ZI ZQ 0, .slice none 0 0, .bool false, ZI ZQ 0, ZI ZQ 0, ZI ZQ 0, .slice none 0 0, ZI ZQ 0, ZI ZQ 0] 36)).alloc (.cells #[ZI ZQ 0, ZI ZQ 0, ZI ZQ 0, ZI ZQ 0, ZI ZQ 0, ZI ZQ 0, ZI ZQ 0, .bool false, .bool false, .bool false, .bool false, ZI ZQ 0, .slice none 0 0, .bool false, ZI ZQ 0, ZI ZQ 0, ZI ZQ 0, .slice none 0 0, ZI ZQ 0, ZI ZQ 0] 36)).setRow W2.heap.size #[ZI ZQ 1, ZI ZQ 0, ZI ZQ 0, ZI ZQ 0, ZI ZQ 0, ZI ZQ 0, ZI ZQ 1200, .bool true, .bool true, .bool false, .bool false, ZI ZQ 0, .slice none 0 0, .bool false, ZI ZQ 0, ZI ZQ 0, ZI ZQ 0, .slice none 0 0, ZI ZQ 0, ZI ZQ 0]).setRow (W2.heap.size + 1) #[ZI ZQ 2, ZI ZQ 9, ZI ZQ 0, ZI ZQ 0, ZI ZQ 0, ZI ZQ 0, ZI ZQ 0, .bool false, .bool false, .bool false, .bool false, ZI ZQ 0, .slice (some ⟨a1, 0, none⟩) 1 1, .bool false, ZI ZQ 0, ZI ZQ 0, ZI ZQ 0, .slice (some ⟨a2, 0, none⟩) 2 2, ZI ZQ 0, ZI ZQ 0] = x := ⟨_, rfl⟩
 obtain ⟨X1, hX1⟩ : ∃ x, W2.heap.size = x := ⟨_, rfl⟩
 rw [hW3, hX1] at HS3
 rw [hW3, hX1]
 clear hW3 hX1 G4 G5
 have HZ := hide (Blk.new W3 36 #[ZI ZQ 0, ZI ZQ 0, ZI ZQ 0, ZI ZQ 0, ZI ZQ 0, ZI ZQ 0, ZI ZQ 0, .bool false, .bool false, .bool false, .bool false, ZI ZQ 0, .slice none 0 0, .bool false, ZI ZQ 0, ZI ZQ 0, ZI ZQ 0, .slice none 0 0, ZI ZQ 0, ZI ZQ 0])
 go_upto_region 3 with (refine wpList_store_row rfl 36 (.tmp 3) (.tmp 22) rfl W3.heap.size #[ZI ZQ 1, ZI ZQ 0, ZI ZQ 0, ZI ZQ 0, ZI ZQ 0, ZI ZQ 1, ZI ZQ 9, .bool true, .bool true, .bool true, .bool false, ZI ZQ 0, .slice none 0 0, .bool false, ZI ZQ 0, ZI ZQ 0, ZI ZQ 0, .slice none 0 0, ZI ZQ 0, ZI ZQ 0] rfl rfl 36 #[ZI ZQ 0, ZI ZQ 0, ZI ZQ 0, ZI ZQ 0, ZI ZQ 0, ZI ZQ 0, ZI ZQ 0, .bool false, .bool false, .bool false, .bool false, ZI ZQ 0, .slice none 0 0, .bool false, ZI ZQ 0, ZI ZQ 0, ZI ZQ 0, .slice none 0 0, ZI ZQ 0, ZI ZQ 0] HZ.out row_size rfl (by simp [Value.oneCell']) ?_)
 have hpr : Blk ((W3.alloc (.cells #[ZI ZQ 0, ZI ZQ 0, ZI ZQ 0, ZI ZQ 0, ZI ZQ 0, ZI ZQ 0, ZI ZQ 0, .bool false, .bool false, .bool false, .bool false, ZI ZQ 0, .slice none 0 0, .bool false, ZI ZQ 0, ZI ZQ 0, ZI ZQ 0, .slice none 0 0, ZI ZQ 0, ZI ZQ 0] 36)).setRow W3.heap.size #[ZI ZQ 1, ZI ZQ 0, ZI ZQ 0, ZI ZQ 0, ZI ZQ 0, ZI ZQ 1, ZI ZQ 9, .bool true, .bool true, .bool true, .bool false, ZI ZQ 0, .slice none 0 0, .bool false, ZI ZQ 0, ZI ZQ 0, ZI ZQ 0, .slice none 0 0, ZI ZQ 0, ZI ZQ 0]) W3.heap.size 36 #[ZI ZQ 1, ZI ZQ 0, ZI ZQ 0, ZI ZQ 0, ZI ZQ 0, ZI ZQ 1, ZI ZQ 9, .bool true, .bool true, .bool true, .bool false, ZI ZQ 0, .slice none 0 0, .bool false, ZI ZQ 0, ZI ZQ 0, ZI ZQ 0, .slice none 0 0, ZI ZQ 0, ZI ZQ 0] := blk_setRow HZ.out
 have hs4 := HS3.out.later (row_new W3 36 #[ZI ZQ 0, ZI ZQ 0, ZI ZQ 0, ZI ZQ 0, ZI ZQ 0, ZI ZQ 0, ZI ZQ 0, .bool false, .bool false, .bool false, .bool false, ZI ZQ 0, .slice none 0 0, .bool false, ZI ZQ 0, ZI ZQ 0, ZI ZQ 0, .slice none 0 0, ZI ZQ 0, ZI ZQ 0] #[ZI ZQ 1, ZI ZQ 0, ZI ZQ 0, ZI ZQ 0, ZI ZQ 0, ZI ZQ 1, ZI ZQ 9, .bool true, .bool true, .bool true, .bool false, ZI ZQ 0, .slice none 0 0, .bool false, ZI ZQ 0, ZI ZQ 0, ZI ZQ 0, .slice none 0 0, ZI ZQ 0, ZI ZQ 0])
 obtain ⟨W4, hW4⟩ : ∃ x, (W3.alloc (.cells #[ZI ZQ 0, ZI ZQ 0, ZI ZQ 0, ZI ZQ 0, ZI ZQ 0, ZI ZQ 0, ZI ZQ 0, .bool false, .bool false, .bool false, .bool false, ZI ZQ 0, .slice none 0 0, .bool false, ZI ZQ 0, ZI ZQ 0, ZI ZQ 0, .slice none 0 0, ZI ZQ 0, ZI ZQ 0] 36)).setRow W3.heap.size #[ZI ZQ 1, ZI ZQ 0, ZI ZQ 0, ZI ZQ 0, ZI ZQ 0, ZI ZQ 1, ZI ZQ 9, .bool true, .bool true, .bool true, .bool false, ZI ZQ 0, .slice none 0 0, .bool false, ZI ZQ 0, ZI ZQ 0, ZI ZQ 0, .slice none 0 0, ZI ZQ 0, ZI ZQ 0] = x := ⟨_, rfl⟩
 obtain ⟨X3, hX3⟩ : ∃ x, W3.heap.size = x := ⟨_, rfl⟩
 rw [hW4] at hs4 hpr
 rw [hX3] at hpr
 rw [hW4, hX3]
 have HS4 := hide hs4
 have HPR := hide hpr
 clear hW4 hX3 HZ HS3 hs4 hpr
 have HZ := hide (Blk.new W4 36 #[ZI ZQ 0, ZI ZQ 0, ZI ZQ 0, ZI ZQ 0, ZI ZQ 0, ZI ZQ 0, ZI ZQ 0, .bool false, .bool false, .bool false, .bool false, ZI ZQ 0, .slice none 0 0, .bool false, ZI ZQ 0, ZI ZQ 0, ZI ZQ 0, .slice none 0 0, ZI ZQ 0, ZI ZQ 0])
 go_upto_region 4 with (first
  | (refine wpList_load_row rfl 36 (.tmp 3) rfl X3 rfl 36 #[ZI ZQ 1, ZI ZQ 0, ZI ZQ 0, ZI ZQ 0, ZI ZQ 0, ZI ZQ 1, ZI ZQ 9, .bool true, .bool true, .bool true, .bool false, ZI ZQ 0, .slice none 0 0, .bool false, ZI ZQ 0, ZI ZQ 0, ZI ZQ 0, .slice none 0 0, ZI ZQ 0, ZI ZQ 0] (0, 0) _ HPR.out Try.underlying36 rfl row_size ?_)
  | (refine wpList_store_row rfl 36 (.tmp 4) (.tmp 23) rfl W4.heap.size #[ZI ZQ 1, ZI ZQ 0, ZI ZQ 0, ZI ZQ 0, ZI ZQ 0, ZI ZQ 1, ZI ZQ 9, .bool true, .bool true, .bool true, .bool false, ZI ZQ 0, .slice none 0 0, .bool false, ZI ZQ 0, ZI ZQ 0, ZI ZQ 0, .slice none 0 0, ZI ZQ 0, ZI ZQ 0] rfl rfl 36 #[ZI ZQ 0, ZI ZQ 0, ZI ZQ 0, ZI ZQ 0, ZI ZQ 0, ZI ZQ 0, ZI ZQ 0, .bool false, .bool false, .bool false, .bool false, ZI ZQ 0, .slice none 0 0, .bool false, ZI ZQ 0, ZI ZQ 0, ZI ZQ 0, .slice none 0 0, ZI ZQ 0, ZI ZQ 0] HZ.out row_size rfl (by simp [Value.oneCell']) ?_))
 have hot : Blk ((W4.alloc (.cells #[ZI ZQ 0, ZI ZQ 0, ZI ZQ 0, ZI ZQ 0, ZI ZQ 0, ZI ZQ 0, ZI ZQ 0, .bool false, .bool false, .bool false, .bool false, ZI ZQ 0, .slice none 0 0, .bool false, ZI ZQ 0, ZI ZQ 0, ZI ZQ 0, .slice none 0 0, ZI ZQ 0, ZI ZQ 0] 36)).setRow W4.heap.size #[ZI ZQ 1, ZI ZQ 0, ZI ZQ 0, ZI ZQ 0, ZI ZQ 0, ZI ZQ 1, ZI ZQ 9, .bool true, .bool true, .bool true, .bool false, ZI ZQ 0, .slice none 0 0, .bool false, ZI ZQ 0, ZI ZQ 0, ZI ZQ 0, .slice none 0 0, ZI ZQ 0, ZI ZQ 0]) W4.heap.size 36 #[ZI ZQ 1, ZI ZQ 0, ZI ZQ 0, ZI ZQ 0, ZI ZQ 0, ZI ZQ 1, ZI ZQ 9, .bool true, .bool true, .bool true, .bool false, ZI ZQ 0, .slice none 0 0, .bool false, ZI ZQ 0, ZI ZQ 0, ZI ZQ 0, .slice none 0 0, ZI ZQ 0, ZI ZQ 0] := blk_setRow HZ.out
 have hn5 := row_new W4 36 #[ZI ZQ 0, ZI ZQ 0, ZI ZQ 0, ZI ZQ 0, ZI ZQ 0, ZI ZQ 0, ZI ZQ 0, .bool false, .bool false, .bool false, .bool false, ZI ZQ 0, .slice none 0 0, .bool false, ZI ZQ 0, ZI ZQ 0, ZI ZQ 0, .slice none 0 0, ZI ZQ 0, ZI ZQ 0] #[ZI ZQ 1, ZI ZQ 0, ZI ZQ 0, ZI ZQ 0, ZI ZQ 0, ZI ZQ 1, ZI ZQ 9, .bool true, .bool true, .bool true, .bool false, ZI ZQ 0, .slice none 0 0, .bool false, ZI ZQ 0, ZI ZQ 0, ZI ZQ 0, .slice none 0 0, ZI ZQ 0, ZI ZQ 0]
 have hn6 := hn5.setCell (p := ⟨W4.heap.size, 5, none⟩) (Nat.le_refl _) (ZI ZQ 2)
 have hs6 := HS4.out.later hn6
 have hpr : Blk _ X3 36 #[ZI ZQ 1, ZI ZQ 0, ZI ZQ 0, ZI ZQ 0, ZI ZQ 0, ZI ZQ 1, ZI ZQ 9, .bool true, .bool true, .bool true, .bool false, ZI ZQ 0, .slice none 0 0, .bool false, ZI ZQ 0, ZI ZQ 0, ZI ZQ 0, .slice none 0 0, ZI ZQ 0, ZI ZQ 0] := (hn6.block _ HPR.out.lt).trans HPR.out
 have hot6 : Blk _ W4.heap.size 36 #[ZI ZQ 1, ZI ZQ 0, ZI ZQ 0, ZI ZQ 0, ZI ZQ 0, ZI ZQ 2, ZI ZQ 9, .bool true, .bool true, .bool true, .bool false, ZI ZQ 0, .slice none 0 0, .bool false, ZI ZQ 0, ZI ZQ 0, ZI ZQ 0, .slice none 0 0, ZI ZQ 0, ZI ZQ 0] := (hot.set 5 (ZI ZQ 2)).eq rfl
 obtain ⟨W5, hW5⟩ : ∃ x, (W4.alloc (.cells #[ZI ZQ 0, ZI ZQ 0, ZI ZQ 0, ZI ZQ 0, ZI ZQ 0, ZI ZQ 0, ZI ZQ 0, .bool false, .bool false, .bool false, .bool false, ZI ZQ 0, .slice none 0 0, .bool false, ZI ZQ 0, ZI ZQ 0, ZI ZQ 0, .slice none 0 0, ZI ZQ 0, ZI ZQ 0] 36)).setRow W4.heap.size #[ZI ZQ 1, ZI ZQ 0, ZI ZQ 0, ZI ZQ 0, ZI ZQ 0, ZI ZQ 1, ZI ZQ 9, .bool true, .bool true, .bool true, .bool false, ZI ZQ 0, .slice none 0 0, .bool false, ZI ZQ 0, ZI ZQ 0, ZI ZQ 0, .slice none 0 0, ZI ZQ 0, ZI ZQ 0] = x := ⟨_, rfl⟩
 obtain ⟨X4, hX4⟩ : ∃ x, W4.heap.size = x := ⟨_, rfl⟩
 rw [hW5, hX4] at hs6 hpr hot hot6
 rw [hW5, hX4]
 have c5 := hot.cell 5
 have f5 := hot.frozen 5
 simp only [ZG, ZH, ZJ] at c5
 have HS6 := hide hs6
 have HPR6 := hide hpr
 have HOT6 := hide hot6
 clear hW5 hX4 HZ HS4 hs6 hpr hot hn5 HPR hn6 hot6
 go_upto_region 5 with (fail)
 obtain ⟨W6, hW6⟩ : ∃ x, W5.setCell ⟨X4, 5, none⟩ (ZI ZQ 2) = x := ⟨_, rfl⟩
 rw [hW6] at HS6 HPR6 HOT6
 rw [hW6]
 clear hW6 c5 f5
 have hz7 : Blk ((W6.alloc (.cells #[ZI ZQ 3, ZI ZQ 0, ZI ZQ 0, ZI ZQ 1] 46)).alloc (.cells #[ZI ZQ 0, ZI ZQ 0, ZI ZQ 0, ZI ZQ 0, ZI ZQ 0, ZI ZQ 0, ZI ZQ 0, .bool false, .bool false, .bool false, .bool false, ZI ZQ 0, .slice none 0 0, .bool false, ZI ZQ 0, ZI ZQ 0, ZI ZQ 0, .slice none 0 0, ZI ZQ 0, ZI ZQ 0] 36)) (W6.heap.size + 1) 36 #[ZI ZQ 0, ZI ZQ 0, ZI ZQ 0, ZI ZQ 0, ZI ZQ 0, ZI ZQ 0, ZI ZQ 0, .bool false, .bool false, .bool false, .bool false, ZI ZQ 0, .slice none 0 0, .bool false, ZI ZQ 0, ZI ZQ 0, ZI ZQ 0, .slice none 0 0, ZI ZQ 0, ZI ZQ 0] := by
  have := Blk.new (W6.alloc (.cells #[ZI ZQ 3, ZI ZQ 0, ZI ZQ 0, ZI ZQ 1] 46)) 36 #[ZI ZQ 0, ZI ZQ 0, ZI ZQ 0, ZI ZQ 0, ZI ZQ 0, ZI ZQ 0, ZI ZQ 0, .bool false, .bool false, .bool false, .bool false, ZI ZQ 0, .slice none 0 0, .bool false, ZI ZQ 0, ZI ZQ 0, ZI ZQ 0, .slice none 0 0, ZI ZQ 0, ZI ZQ 0]
  simpa using this
 have he7 : Blk ((W6.alloc (.cells #[ZI ZQ 3, ZI ZQ 0, ZI ZQ 0, ZI ZQ 1] 46)).alloc (.cells #[ZI ZQ 0, ZI ZQ 0, ZI ZQ 0, ZI ZQ 0, ZI ZQ 0, ZI ZQ 0, ZI ZQ 0, .bool false, .bool false, .bool false, .bool false, ZI ZQ 0, .slice none 0 0, .bool false, ZI ZQ 0, ZI ZQ 0, ZI ZQ 0, .slice none 0 0, ZI ZQ 0, ZI ZQ 0] 36)) W6.heap.size 46 #[ZI ZQ 3, ZI ZQ 0, ZI ZQ 0, ZI ZQ 1] := by
  exact (Blk.new _ _ _).alloc _
 have hb7 : Below W6.heap.size W6 (((W6.alloc (.cells #[ZI ZQ 3, ZI ZQ 0, ZI ZQ 0, ZI ZQ 1] 46)).alloc (.cells #[ZI ZQ 0, ZI ZQ 0, ZI ZQ 0, ZI ZQ 0, ZI ZQ 0, ZI ZQ 0, ZI ZQ 0, .bool false, .bool false, .bool false, .bool false, ZI ZQ 0, .slice none 0 0, .bool false, ZI ZQ 0, ZI ZQ 0, ZI ZQ 0, .slice none 0 0, ZI ZQ 0, ZI ZQ 0] 36)).setRow (W6.heap.size + 1) #[ZI ZQ 4, ZI ZQ 0, ZI ZQ 0, ZI ZQ 0, ZI ZQ 0, ZI ZQ 0, ZI ZQ 0, .bool false, .bool false, .bool false, .bool false, ZI ZQ 0, .slice none 0 0, .bool false, ZI ZQ 0, ZI ZQ 0, ZI ZQ 0, .slice (some ⟨W6.heap.size, 0, none⟩) 1 1, ZI ZQ 0, ZI ZQ 0]) := by
  have h0 : Below W6.heap.size W6 ((W6.alloc (.cells #[ZI ZQ 3, ZI ZQ 0, ZI ZQ 0, ZI ZQ 1] 46)).alloc (.cells #[ZI ZQ 0, ZI ZQ 0, ZI ZQ 0, ZI ZQ 0, ZI ZQ 0, ZI ZQ 0, ZI ZQ 0, .bool false, .bool false, .bool false, .bool false, ZI ZQ 0, .slice none 0 0, .bool false, ZI ZQ 0, ZI ZQ 0, ZI ZQ 0, .slice none 0 0, ZI ZQ 0, ZI ZQ 0] 36)) := ((Below.refl _ _).alloc (Nat.le_refl _) _).alloc (by simp) _
  have ho : Only [W6.heap.size + 1] ((W6.alloc (.cells #[ZI ZQ 3, ZI ZQ 0, ZI ZQ 0, ZI ZQ 1] 46)).alloc (.cells #[ZI ZQ 0, ZI ZQ 0, ZI ZQ 0, ZI ZQ 0, ZI ZQ 0, ZI ZQ 0, ZI ZQ 0, .bool false, .bool false, .bool false, .bool false, ZI ZQ 0, .slice none 0 0, .bool false, ZI ZQ 0, ZI ZQ 0, ZI ZQ 0, .slice none 0 0, ZI ZQ 0, ZI ZQ 0] 36)) (((W6.alloc (.cells #[ZI ZQ 3, ZI ZQ 0, ZI ZQ 0, ZI ZQ 1] 46)).alloc (.cells #[ZI ZQ 0, ZI ZQ 0, ZI ZQ 0, ZI ZQ 0, ZI ZQ 0, ZI ZQ 0, ZI ZQ 0, .bool false, .bool false, .bool false, .bool false, ZI ZQ 0, .slice none 0 0, .bool false, ZI ZQ 0, ZI ZQ 0, ZI ZQ 0, .slice none 0 0, ZI ZQ 0, ZI ZQ 0] 36)).setRow (W6.heap.size + 1) #[ZI ZQ 4, ZI ZQ 0, ZI ZQ 0, ZI ZQ 0, ZI ZQ 0, ZI ZQ 0, ZI ZQ 0, .bool false, .bool false, .bool false, .bool false, ZI ZQ 0, .slice none 0 0, .bool false, ZI ZQ 0, ZI ZQ 0, ZI ZQ 0, .slice (some ⟨W6.heap.size, 0, none⟩) 1 1, ZI ZQ 0, ZI ZQ 0]) := only_setRow
  exact h0.trans (ho.below (B := W6.heap.size) (by intro x hx; rw [List.mem_singleton] at hx; omega) h0.size)
 have he7' : Blk (((W6.alloc (.cells #[ZI ZQ 3, ZI ZQ 0, ZI ZQ 0, ZI ZQ 1] 46)).alloc (.cells #[ZI ZQ 0, ZI ZQ 0, ZI ZQ 0, ZI ZQ 0, ZI ZQ 0, ZI ZQ 0, ZI ZQ 0, .bool false, .bool false, .bool false, .bool false, ZI ZQ 0, .slice none 0 0, .bool false, ZI ZQ 0, ZI ZQ 0, ZI ZQ 0, .slice none 0 0, ZI ZQ 0, ZI ZQ 0] 36)).setRow (W6.heap.size + 1) #[ZI ZQ 4, ZI ZQ 0, ZI ZQ 0, ZI ZQ 0, ZI ZQ 0, ZI ZQ 0, ZI ZQ 0, .bool false, .bool false, .bool false, .bool false, ZI ZQ 0, .slice none 0 0, .bool false, ZI ZQ 0, ZI ZQ 0, ZI ZQ 0, .slice (some ⟨W6.heap.size, 0, none⟩) 1 1, ZI ZQ 0, ZI ZQ 0]) W6.heap.size 46 #[ZI ZQ 3, ZI ZQ 0, ZI ZQ 0, ZI ZQ 1] := (show Only [W6.heap.size + 1] _ _ from only_setRow).blk he7 (by simp)
 have hak : Blk (((W6.alloc (.cells #[ZI ZQ 3, ZI ZQ 0, ZI ZQ 0, ZI ZQ 1] 46)).alloc (.cells #[ZI ZQ 0, ZI ZQ 0, ZI ZQ 0, ZI ZQ 0, ZI ZQ 0, ZI ZQ 0, ZI ZQ 0, .bool false, .bool false, .bool false, .bool false, ZI ZQ 0, .slice none 0 0, .bool false, ZI ZQ 0, ZI ZQ 0, ZI ZQ 0, .slice none 0 0, ZI ZQ 0, ZI ZQ 0] 36)).setRow (W6.heap.size + 1) #[ZI ZQ 4, ZI ZQ 0, ZI ZQ 0, ZI ZQ 0, ZI ZQ 0, ZI ZQ 0, ZI ZQ 0, .bool false, .bool false, .bool false, .bool false, ZI ZQ 0, .slice none 0 0, .bool false, ZI ZQ 0, ZI ZQ 0, ZI ZQ 0, .slice (some ⟨W6.heap.size, 0, none⟩) 1 1, ZI ZQ 0, ZI ZQ 0]) (W6.heap.size + 1) 36 #[ZI ZQ 4, ZI ZQ 0, ZI ZQ 0, ZI ZQ 0, ZI ZQ 0, ZI ZQ 0, ZI ZQ 0, .bool false, .bool false, .bool false, .bool false, ZI ZQ 0, .slice none 0 0, .bool false, ZI ZQ 0, ZI ZQ 0, ZI ZQ 0, .slice (some ⟨W6.heap.size, 0, none⟩) 1 1, ZI ZQ 0, ZI ZQ 0] := blk_setRow hz7
 have hs7 := HS6.out.later hb7
 have hpr7 : Blk _ X3 36 #[ZI ZQ 1, ZI ZQ 0, ZI ZQ 0, ZI ZQ 0, ZI ZQ 0, ZI ZQ 1, ZI ZQ 9, .bool true, .bool true, .bool true, .bool false, ZI ZQ 0, .slice none 0 0, .bool false, ZI ZQ 0, ZI ZQ 0, ZI ZQ 0, .slice none 0 0, ZI ZQ 0, ZI ZQ 0] := (hb7.block _ HPR6.out.lt).trans HPR6.out
 have hot7 : Blk _ X4 36 #[ZI ZQ 1, ZI ZQ 0, ZI ZQ 0, ZI ZQ 0, ZI ZQ 0, ZI ZQ 2, ZI ZQ 9, .bool true, .bool true, .bool true, .bool false, ZI ZQ 0, .slice none 0 0, .bool false, ZI ZQ 0, ZI ZQ 0, ZI ZQ 0, .slice none 0 0, ZI ZQ 0, ZI ZQ 0] := (hb7.block _ HOT6.out.lt).trans HOT6.out
 have HF7 := hide (And.intro hs7 (And.intro hpr7 (And.intro hot7 (And.intro hak he7'))))
 have HZ7 := hide hz7
 clear hz7 he7 hb7 he7' hak hs7 hpr7 hot7 HS6 HPR6 HOT6
 go_upto_region 6 with (refine wpList_store_row rfl 36 (.tmp 5) (.tmp 28) rfl (W6.heap.size + 1) #[ZI ZQ 4, ZI ZQ 0, ZI ZQ 0, ZI ZQ 0, ZI ZQ 0, ZI ZQ 0, ZI ZQ 0, .bool false, .bool false, .bool false, .bool false, ZI ZQ 0, .slice none 0 0, .bool false, ZI ZQ 0, ZI ZQ 0, ZI ZQ 0, .slice (some ⟨W6.heap.size, 0, none⟩) 1 1, ZI ZQ 0, ZI ZQ 0] rfl rfl 36 #[ZI ZQ 0, ZI ZQ 0, ZI ZQ 0, ZI ZQ 0, ZI ZQ 0, ZI ZQ 0, ZI ZQ 0, .bool false, .bool false, .bool false, .bool false, ZI ZQ 0, .slice none 0 0, .bool false, ZI ZQ 0, ZI ZQ 0, ZI ZQ 0, .slice none 0 0, ZI ZQ 0, ZI ZQ 0] HZ7.out row_size rfl (by simp [Value.oneCell']) ?_)
 obtain ⟨W7, hW7⟩ : ∃ x, ((W6.alloc (.cells #[ZI ZQ 3, ZI ZQ 0, ZI ZQ 0, ZI ZQ 1] 46)).alloc (.cells #[ZI ZQ 0, ZI ZQ 0, ZI ZQ 0, ZI ZQ 0, ZI ZQ 0, ZI ZQ 0, ZI ZQ 0, .bool false, .bool false, .bool false, .bool false, ZI ZQ 0, .slice none 0 0, .bool false, ZI ZQ 0, ZI ZQ 0, ZI ZQ 0, .slice none 0 0, ZI ZQ 0, ZI ZQ 0] 36)).setRow (W6.heap.size + 1) #[ZI ZQ 4, ZI ZQ 0, ZI ZQ 0, ZI ZQ 0, ZI ZQ 0, ZI ZQ 0, ZI ZQ 0, .bool false, .bool false, .bool false, .bool false, ZI ZQ 0, .slice none 0 0, .bool false, ZI ZQ 0, ZI ZQ 0, ZI ZQ 0, .slice (some ⟨W6.heap.size, 0, none⟩) 1 1, ZI ZQ 0, ZI ZQ 0] = x := ⟨_, rfl⟩
 rw [hW7] at HF7
 rw [hW7]
 obtain ⟨a3, ha3⟩ : ∃ x, W6.heap.size = x := ⟨_, rfl⟩
 rw [ha3] at HF7
 rw [ha3]
 clear hW7 HZ7 ha3
 obtain ⟨N, hN⟩ : ∃ x, W7.heap.size = x := ⟨_, rfl⟩
 have HSV := hide (fun sv W => setting_sv sv W)
 simp only [ZP]
 go_cut [6] from 19 to 203 (fun s6 wx => s6 = .slice (some ⟨N + 6, 0, none⟩) 17 17 ∧ KhSt w wx X1 (X1 + 1) a1 a2 X3 X4 (a3 + 1) a3 N)
 case first =>
  go_wp2_with (refine Go.Great.wpList_buildRows rfl 26 36 _ 20 (bigV N) rfl bigIx (N + 6) (by simp [hN]) (some 63) rfl Try.underlying26 (by as_aux_lemma => kernel_rfl) (by as_aux_lemma => kernel_rfl) (by omega) (by rw [bigV_len]; omega) (by rw [bigV_len]; omega) (by rfl) (bigV_size N) (by intro i hi; rw [bigV_len] at hi; rcases (by omega : i = 0 ∨ i = 1 ∨ i = 2 ∨ i = 3 ∨ i = 4 ∨ i = 5 ∨ i = 6 ∨ i = 7 ∨ i = 8 ∨ i = 9 ∨ i = 10 ∨ i = 11 ∨ i = 12 ∨ i = 13 ∨ i = 14 ∨ i = 15 ∨ i = 16) with h0 | h0 | h0 | h0 | h0 | h0 | h0 | h0 | h0 | h0 | h0 | h0 | h0 | h0 | h0 | h0 | h0 <;> subst h0 <;> rfl) ?_)
  simp only [bigV_len]
  unfold bigV
  simp only [List.flatMap_map]
  have hbg := big_world W7 #[ZI ZQ 7, ZI ZQ 0, ZI ZQ 0, ZI ZQ 0] #[ZI ZQ 6, ZI ZQ 0, ZI ZQ 0, ZI ZQ 0] #[ZI ZQ 5, ZI ZQ 9, ZI ZQ 0, ZI ZQ 0] #[ZI ZQ 3, ZI ZQ 3, ZI ZQ 0, ZI ZQ 1] #[ZI ZQ 4, ZI ZQ 0, ZI ZQ 0, ZI ZQ 2400, ZI ZQ 4, ZI ZQ 0, ZI ZQ 0, ZI ZQ 2400] #[ZI ZQ 6, ZI ZQ 0, ZI ZQ 0, ZI ZQ 8] ((bigL fun j => N + j).flatMap fun a => (rwC a.r).toList).toArray 46 36
  obtain ⟨W8, hW8⟩ : ∃ x, ((((((W7.alloc (.cells #[ZI ZQ 7, ZI ZQ 0, ZI ZQ 0, ZI ZQ 0] 46)).alloc (.cells #[ZI ZQ 6, ZI ZQ 0, ZI ZQ 0, ZI ZQ 0] 46)).alloc (.cells #[ZI ZQ 5, ZI ZQ 9, ZI ZQ 0, ZI ZQ 0] 46)).alloc (.cells #[ZI ZQ 3, ZI ZQ 3, ZI ZQ 0, ZI ZQ 1] 46)).alloc (.cells #[ZI ZQ 4, ZI ZQ 0, ZI ZQ 0, ZI ZQ 2400, ZI ZQ 4, ZI ZQ 0, ZI ZQ 0, ZI ZQ 2400] 46)).alloc (.cells #[ZI ZQ 6, ZI ZQ 0, ZI ZQ 0, ZI ZQ 8] 46)).alloc (.cells ((bigL fun j => N + j).flatMap fun a => (rwC a.r).toList).toArray 36) = x := ⟨_, rfl⟩
  rw [hW8, hN] at hbg
  rw [hW8]
  obtain ⟨hs7, hpr7, hot7, hak7, he7⟩ := HF7.out
  obtain ⟨q0, q1, q2, q3, q4, q5, q6, q7⟩ := hbg
  have q7' : Below W7.heap.size W7 W8 := by rw [hN]; exact q7
  have hs8 := hs7.later q7'
  have HK8 : Hid (KhSt w W8 X1 (X1 + 1) a1 a2 X3 X4 (a3 + 1) a3 N) := ⟨hs8.s, hs8.a, hs8.rg, hs8.ev, (q7'.block _ hpr7.lt).trans hpr7, (q7'.block _ hot7.lt).trans hot7, (q7'.block _ hak7.lt).trans hak7, (q7'.block _ he7.lt).trans he7, q0, q1, q2, q3, q4, q5, q6, hs8.bl⟩
  clear hs7 hpr7 hot7 hak7 he7 q0 q1 q2 q3 q4 q5 q6 q7 q7' hs8 HF7 hW8 hN
  go_meet
  exact ⟨rfl, HK8.out⟩
 case rest =>
  obtain ⟨rfl, hk8⟩ := hcut
  have HK8 := hide hk8
  clear HF7 hk8 hN
  go_wp2_with fail
  go_loopg [7] 17 (fun kx s7 wr => ∃ i : Nat, s7 = ZI ZQ i ∧ i ≤ 17 ∧ 17 - i ≤ kx ∧ KhSt w wr X1 (X1 + 1) a1 a2 X3 X4 (a3 + 1) a3 N)
  case atStart => exact ⟨0, rfl, by omega, by omega, HK8.out⟩
  case round =>
   clear HK8
   obtain ⟨i, rfl, hi, hkx, hk⟩ := hrel
   by_cases hlt : i < 17
   ·obtain ⟨x, hx⟩ : ∃ x, (bigL fun j => N + j)[i]? = some x := ⟨_, List.getElem?_eq_getElem (by rw [big_len]; exact hlt)⟩
    have hin : (i : Int) < 17 := by omega
    obtain ⟨⟨kind, rt, rsp, rsize, ⟨osp, onum, osize, oel, ofl, opr, oect⟩, delay, ra, rn, rc, marked, e0, e1, e2, ea, en, ec, err, smooth⟩, es, rs⟩ := x
    have HX := hide hx
    have HK := hide hk
    clear hx hk
    go_upto_region 10 with (fail)
    refine wp_region_held_drew (S := (fun w' => KhSt w w' X1 (X1 + 1) a1 a2 X3 X4 (a3 + 1) a3 N)) (by as_aux_lemma => kernel_rfl) (HK.out.later (below_drewN (Below.refl _ _) 1)) (fun hHeld => ?_)
    obtain ⟨Wd, hWd⟩ : ∃ y, wr.drew = y := ⟨_, rfl⟩
    rw [hWd] at hHeld
    rw [hWd]
    clear hWd
    refine tkX 0 ?_ rfl ?_ ?_
    rotate_left
    ·intro w' hSw; (try dsimp only at hSw); go_simp; try with_reducible rfl
    try simp only [ZP, ZA, ZB, ZC, ZD, ZE, ZF]
    refine tkX 1 ?_ rfl ?_ ?_
    rotate_left
    ·intro w' hSw; (try dsimp only at hSw); go_simp; try with_reducible rfl
    try simp only [ZP, ZA, ZB, ZC, ZD, ZE, ZF]
    refine tkX 2 ?_ rfl ?_ ?_
    rotate_left
    ·intro w' hSw; (try dsimp only at hSw); go_simp; try with_reducible rfl
    try simp only [ZP, ZA, ZB, ZC, ZD, ZE, ZF]
    refine wpAnyH_take (i := 4) (v := .agg #[ZI ZQ 1, ZI ZQ 0, ZI ZQ 0, ZI ZQ 0, ZI ZQ 0, ZI ZQ 0, ZI ZQ 1200, .bool true, .bool true, .bool false, .bool false, ZI ZQ 0, .slice none 0 0, .bool false, ZI ZQ 0, ZI ZQ 0, ZI ZQ 0, .slice none 0 0, ZI ZQ 0, ZI ZQ 0]) rfl (by as_aux_lemma => kernel_rfl) (by as_aux_lemma => kernel_rfl) (by as_aux_lemma => kernel_rfl) (fun _ _ _ h => h) (Or.inl ⟨by rfl, fun w' hw => exec_load_row 36 (.tmp 1) rfl X1 rfl 36 #[ZI ZQ 1, ZI ZQ 0, ZI ZQ 0, ZI ZQ 0, ZI ZQ 0, ZI ZQ 0, ZI ZQ 1200, .bool true, .bool true, .bool false, .bool false, ZI ZQ 0, .slice none 0 0, .bool false, ZI ZQ 0, ZI ZQ 0, ZI ZQ 0, .slice none 0 0, ZI ZQ 0, ZI ZQ 0] (0, 0) _ (KhSt.s hw) Try.underlying36 rfl row_size⟩) (by assumption) ?_
    try simp only [ZP, ZA, ZB, ZC, ZD, ZE, ZF]
    refine tkX 5 ?_ rfl ?_ ?_
    rotate_left
    ·intro w' hSw; (try dsimp only at hSw); go_simp; try with_reducible rfl
    try simp only [ZP, ZA, ZB, ZC, ZD, ZE, ZF]
    refine tkX 6 ?_ rfl ?_ ?_
    rotate_left
    ·intro w' hSw; (try dsimp only at hSw); go_simp; try with_reducible rfl
    try simp only [ZP, ZA, ZB, ZC, ZD, ZE, ZF]
    refine tkX 7 ?_ rfl ?_ ?_
    rotate_left
    ·intro w' hSw; (try dsimp only at hSw); go_simp; try with_reducible rfl
    try simp only [ZP, ZA, ZB, ZC, ZD, ZE, ZF]
    refine wpAnyH_take (i := 8) (v := .agg #[ZI ZQ kind, ZI ZQ rt, ZI ZQ rsp, ZI ZQ rsize, ZI ZQ osp, ZI ZQ onum, ZI ZQ osize, .bool oel, .bool ofl, .bool opr, .bool oect, ZI ZQ delay, .slice ra rn rc, .bool marked, ZI ZQ e0, ZI ZQ e1, ZI ZQ e2, .slice ea en ec, ZI ZQ err, ZI ZQ smooth]) rfl (by as_aux_lemma => kernel_rfl) (by as_aux_lemma => kernel_rfl) (by as_aux_lemma => kernel_rfl) (fun _ _ _ h => h) (Or.inl ⟨by rfl, fun w' hw => exec_load_at 36 (.tmp 77) rfl ⟨N + 6, i * 20, none⟩ rfl #[ZI ZQ kind, ZI ZQ rt, ZI ZQ rsp, ZI ZQ rsize, ZI ZQ osp, ZI ZQ onum, ZI ZQ osize, .bool oel, .bool ofl, .bool opr, .bool oect, ZI ZQ delay, .slice ra rn rc, .bool marked, ZI ZQ e0, ZI ZQ e1, ZI ZQ e2, .slice ea en ec, ZI ZQ err, ZI ZQ smooth] _ (KhSt.at hw HX.out) Try.underlying36 rfl row_size⟩) (by assumption) ?_
    try simp only [ZP, ZA, ZB, ZC, ZD, ZE, ZF]
    refine wpAnyH_take (i := 9) (v := .agg #[ZI ZQ 2, ZI ZQ 9, ZI ZQ 0, ZI ZQ 0, ZI ZQ 0, ZI ZQ 0, ZI ZQ 0, .bool false, .bool false, .bool false, .bool false, ZI ZQ 0, .slice (some ⟨a1, 0, none⟩) 1 1, .bool false, ZI ZQ 0, ZI ZQ 0, ZI ZQ 0, .slice (some ⟨a2, 0, none⟩) 2 2, ZI ZQ 0, ZI ZQ 0]) rfl (by as_aux_lemma => kernel_rfl) (by as_aux_lemma => kernel_rfl) (by as_aux_lemma => kernel_rfl) (fun _ _ _ h => h) (Or.inl ⟨by rfl, fun w' hw => exec_load_row 36 (.tmp 2) rfl (X1 + 1) rfl 36 #[ZI ZQ 2, ZI ZQ 9, ZI ZQ 0, ZI ZQ 0, ZI ZQ 0, ZI ZQ 0, ZI ZQ 0, .bool false, .bool false, .bool false, .bool false, ZI ZQ 0, .slice (some ⟨a1, 0, none⟩) 1 1, .bool false, ZI ZQ 0, ZI ZQ 0, ZI ZQ 0, .slice (some ⟨a2, 0, none⟩) 2 2, ZI ZQ 0, ZI ZQ 0] (0, 0) _ (KhSt.a hw) Try.underlying36 rfl row_size⟩) (by assumption) ?_
    try simp only [ZP, ZA, ZB, ZC, ZD, ZE, ZF]
    refine tkX 10 ?_ rfl ?_ ?_
    rotate_left
    ·intro w' hSw; (try dsimp only at hSw); go_simp; try with_reducible rfl
    try simp only [ZP, ZA, ZB, ZC, ZD, ZE, ZF]
    refine tkX 11 ?_ rfl ?_ ?_
    rotate_left
    ·intro w' hSw; (try dsimp only at hSw); go_simp; try with_reducible rfl
    try simp only [ZP, ZA, ZB, ZC, ZD, ZE, ZF]
    refine tkX 12 ?_ rfl ?_ ?_
    rotate_left
    ·intro w' hSw; (try dsimp only at hSw); go_simp; try with_reducible rfl
    try simp only [ZP, ZA, ZB, ZC, ZD, ZE, ZF]
    refine wpAnyH_take (i := 13) (v := .agg #[ZI ZQ kind, ZI ZQ rt, ZI ZQ rsp, ZI ZQ rsize, ZI ZQ osp, ZI ZQ onum, ZI ZQ osize, .bool oel, .bool ofl, .bool opr, .bool oect, ZI ZQ delay, .slice ra rn rc, .bool marked, ZI ZQ e0, ZI ZQ e1, ZI ZQ e2, .slice ea en ec, ZI ZQ err, ZI ZQ smooth]) rfl (by as_aux_lemma => kernel_rfl) (by as_aux_lemma => kernel_rfl) (by as_aux_lemma => kernel_rfl) (fun _ _ _ h => h) (Or.inl ⟨by rfl, fun w' hw => exec_load_at 36 (.tmp 82) rfl ⟨N + 6, i * 20, none⟩ rfl #[ZI ZQ kind, ZI ZQ rt, ZI ZQ rsp, ZI ZQ rsize, ZI ZQ osp, ZI ZQ onum, ZI ZQ osize, .bool oel, .bool ofl, .bool opr, .bool oect, ZI ZQ delay, .slice ra rn rc, .bool marked, ZI ZQ e0, ZI ZQ e1, ZI ZQ e2, .slice ea en ec, ZI ZQ err, ZI ZQ smooth] _ (KhSt.at hw HX.out) Try.underlying36 rfl row_size⟩) (by assumption) ?_
    try simp only [ZP, ZA, ZB, ZC, ZD, ZE, ZF]
    refine tkX 15 ?_ rfl ?_ ?_
    rotate_left
    ·intro w' hSw; (try dsimp only at hSw); go_simp; try with_reducible rfl
    try simp only [ZP, ZA, ZB, ZC, ZD, ZE, ZF]
    refine tkX 16 ?_ rfl ?_ ?_
    rotate_left
    ·intro w' hSw; (try dsimp only at hSw); go_simp; try with_reducible rfl
    try simp only [ZP, ZA, ZB, ZC, ZD, ZE, ZF]
    refine tkY [3, 14] ?_
    refine ZS rfl (fun K hK => ?_) ?_
    ·skip
     go_simp
     go_at_call 6
     with_reducible refine (HSV.out _ _).mono ?_
     rintro y1 V1 ⟨rfl, hb1⟩
     refine hK.out _ _ (KhSt.later hHeld hb1) (fun hHeld => ?_)
     clear hK K
     try simp only [ZP, ZA, ZB, ZC, ZD, ZE, ZF]
     refine tkY [14] ?_
     refine ZS rfl (fun K hK => ?_) ZN
     go_simp
     obtain ⟨V2, hV2⟩ : ∃ y, V1.alloc (.cells #[ZI ZQ 1, ZI ZQ 0, ZI ZQ 0, ZI ZQ 0, ZI ZQ 0, ZI ZQ 0, ZI ZQ 1200, .bool true, .bool true, .bool false, .bool false, ZI ZQ 0, .slice none 0 0, .bool false, ZI ZQ 0, ZI ZQ 0, ZI ZQ 0, .slice none 0 0, ZI ZQ 0, ZI ZQ 0, ZI ZQ kind, ZI ZQ rt, ZI ZQ rsp, ZI ZQ rsize, ZI ZQ osp, ZI ZQ onum, ZI ZQ osize, .bool oel, .bool ofl, .bool opr, .bool oect, ZI ZQ delay, .slice ra rn rc, .bool marked, ZI ZQ e0, ZI ZQ e1, ZI ZQ e2, .slice ea en ec, ZI ZQ err, ZI ZQ smooth, ZI ZQ 2, ZI ZQ 9, ZI ZQ 0, ZI ZQ 0, ZI ZQ 0, ZI ZQ 0, ZI ZQ 0, .bool false, .bool false, .bool false, .bool false, ZI ZQ 0, .slice (some ⟨a1, 0, none⟩) 1 1, .bool false, ZI ZQ 0, ZI ZQ 0, ZI ZQ 0, .slice (some ⟨a2, 0, none⟩) 2 2, ZI ZQ 0, ZI ZQ 0, ZI ZQ kind, ZI ZQ rt, ZI ZQ rsp, ZI ZQ rsize, ZI ZQ osp, ZI ZQ onum, ZI ZQ osize, .bool oel, .bool ofl, .bool opr, .bool oect, ZI ZQ delay, .slice ra rn rc, .bool marked, ZI ZQ e0, ZI ZQ e1, ZI ZQ e2, .slice ea en ec, ZI ZQ err, ZI ZQ smooth] 36) = y := ⟨_, rfl⟩
     have hg2 : Blk V2 V1.heap.size 36 ((oneL a1 a2 ⟨⟨kind, rt, rsp, rsize, ⟨osp, onum, osize, oel, ofl, opr, oect⟩, delay, ra, rn, rc, marked, e0, e1, e2, ea, en, ec, err, smooth⟩, es, rs⟩).flatMap rrL).toArray := by rw [← hV2]; exact Blk.new _ _ _
     have hb2 : Below V1.heap.size V1 V2 := by rw [← hV2]; exact (Below.refl _ _).alloc (Nat.le_refl _) _
     have hh2 := KhSt.later hHeld hb2
     obtain ⟨g2, hG2⟩ : ∃ y, V1.heap.size = y := ⟨_, rfl⟩
     rw [hG2] at hg2
     rw [hV2, hG2]
     clear hV2 hG2 hb2
     refine hK.out _ _ (hh2) (fun hHeld => ?_)
     clear hK K
     try simp only [ZP, ZA, ZB, ZC, ZD, ZE, ZF]
     refine tkY [17] ?_
     refine ZS rfl (fun K hK => ?_) ZN
     go_simp
     go_at_call 11
     with_reducible refine (one_call hHeld HX.out _ (by first | rfl | exact PARone_call i | (simp; omega)) _ hg2 _).mono ?_
     rintro y3 V3 ⟨rfl, hb3⟩
     refine hK.out _ _ (KhSt.later hHeld hb3) (fun hHeld => ?_)
     clear hK K
     try simp only [ZP, ZA, ZB, ZC, ZD, ZE, ZF]
     refine tkX 18 ?_ rfl ?_ ?_
     rotate_left
     ·intro w' hSw; (try dsimp only at hSw); go_simp; try with_reducible rfl
     try simp only [ZP, ZA, ZB, ZC, ZD, ZE, ZF]
     refine tkX 19 ?_ rfl ?_ ?_
     rotate_left
     ·intro w' hSw; (try dsimp only at hSw); go_simp; try with_reducible rfl
     try simp only [ZP, ZA, ZB, ZC, ZD, ZE, ZF]
     refine tkX 20 ?_ rfl ?_ ?_
     rotate_left
     ·intro w' hSw; (try dsimp only at hSw); go_simp; try with_reducible rfl
     try simp only [ZP, ZA, ZB, ZC, ZD, ZE, ZF]
     refine tkX 21 ?_ rfl ?_ ?_
     rotate_left
     ·intro w' hSw; (try dsimp only at hSw); go_simp; try with_reducible rfl
     try simp only [ZP, ZA, ZB, ZC, ZD, ZE, ZF]
     refine tkX 22 ?_ rfl ?_ ?_
     rotate_left
     ·intro w' hSw; (try dsimp only at hSw); go_simp; try with_reducible rfl
     try simp only [ZP, ZA, ZB, ZC, ZD, ZE, ZF]
     refine tkX 24 ?_ rfl ?_ ?_
     rotate_left
     ·intro w' hSw; (try dsimp only at hSw); go_simp; try with_reducible rfl
     try simp only [ZP, ZA, ZB, ZC, ZD, ZE, ZF]
     refine tkX 25 ?_ rfl ?_ ?_
     rotate_left
     ·intro w' hSw; (try dsimp only at hSw); go_simp; try with_reducible rfl
     try simp only [ZP, ZA, ZB, ZC, ZD, ZE, ZF]
     refine tkX 26 ?_ rfl ?_ ?_
     rotate_left
     ·intro w' hSw; (try dsimp only at hSw); go_simp; try with_reducible rfl
     try simp only [ZP, ZA, ZB, ZC, ZD, ZE, ZF]
     refine tkX 27 ?_ rfl ?_ ?_
     rotate_left
     ·intro w' hSw; (try dsimp only at hSw); go_simp; try with_reducible rfl
     try simp only [ZP, ZA, ZB, ZC, ZD, ZE, ZF]
     refine wpAnyH_take (i := 28) (v := .agg #[ZI ZQ kind, ZI ZQ rt, ZI ZQ rsp, ZI ZQ rsize, ZI ZQ osp, ZI ZQ onum, ZI ZQ osize, .bool oel, .bool ofl, .bool opr, .bool oect, ZI ZQ delay, .slice ra rn rc, .bool marked, ZI ZQ e0, ZI ZQ e1, ZI ZQ e2, .slice ea en ec, ZI ZQ err, ZI ZQ smooth]) rfl (by as_aux_lemma => kernel_rfl) (by as_aux_lemma => kernel_rfl) (by as_aux_lemma => kernel_rfl) (fun _ _ _ h => h) (Or.inl ⟨by rfl, fun w' hw => exec_load_at 36 (.tmp 97) rfl ⟨N + 6, i * 20, none⟩ rfl #[ZI ZQ kind, ZI ZQ rt, ZI ZQ rsp, ZI ZQ rsize, ZI ZQ osp, ZI ZQ onum, ZI ZQ osize, .bool oel, .bool ofl, .bool opr, .bool oect, ZI ZQ delay, .slice ra rn rc, .bool marked, ZI ZQ e0, ZI ZQ e1, ZI ZQ e2, .slice ea en ec, ZI ZQ err, ZI ZQ smooth] _ (KhSt.at hw HX.out) Try.underlying36 rfl row_size⟩) (by assumption) ?_
     try simp only [ZP, ZA, ZB, ZC, ZD, ZE, ZF]
     refine wpAnyH_take (i := 29) (v := .agg #[ZI ZQ 1, ZI ZQ 0, ZI ZQ 0, ZI ZQ 0, ZI ZQ 0, ZI ZQ 0, ZI ZQ 1200, .bool true, .bool true, .bool false, .bool false, ZI ZQ 0, .slice none 0 0, .bool false, ZI ZQ 0, ZI ZQ 0, ZI ZQ 0, .slice none 0 0, ZI ZQ 0, ZI ZQ 0]) rfl (by as_aux_lemma => kernel_rfl) (by as_aux_lemma => kernel_rfl) (by as_aux_lemma => kernel_rfl) (fun _ _ _ h => h) (Or.inl ⟨by rfl, fun w' hw => exec_load_row 36 (.tmp 1) rfl X1 rfl 36 #[ZI ZQ 1, ZI ZQ 0, ZI ZQ 0, ZI ZQ 0, ZI ZQ 0, ZI ZQ 0, ZI ZQ 1200, .bool true, .bool true, .bool false, .bool false, ZI ZQ 0, .slice none 0 0, .bool false, ZI ZQ 0, ZI ZQ 0, ZI ZQ 0, .slice none 0 0, ZI ZQ 0, ZI ZQ 0] (0, 0) _ (KhSt.s hw) Try.underlying36 rfl row_size⟩) (by assumption) ?_
     try simp only [ZP, ZA, ZB, ZC, ZD, ZE, ZF]
     refine wpAnyH_take (i := 30) (v := .agg #[ZI ZQ 4, ZI ZQ 0, ZI ZQ 0, ZI ZQ 0, ZI ZQ 0, ZI ZQ 0, ZI ZQ 0, .bool false, .bool false, .bool false, .bool false, ZI ZQ 0, .slice none 0 0, .bool false, ZI ZQ 0, ZI ZQ 0, ZI ZQ 0, .slice (some ⟨a3, 0, none⟩) 1 1, ZI ZQ 0, ZI ZQ 0]) rfl (by as_aux_lemma => kernel_rfl) (by as_aux_lemma => kernel_rfl) (by as_aux_lemma => kernel_rfl) (fun _ _ _ h => h) (Or.inl ⟨by rfl, fun w' hw => exec_load_row 36 (.tmp 5) rfl (a3 + 1) rfl 36 #[ZI ZQ 4, ZI ZQ 0, ZI ZQ 0, ZI ZQ 0, ZI ZQ 0, ZI ZQ 0, ZI ZQ 0, .bool false, .bool false, .bool false, .bool false, ZI ZQ 0, .slice none 0 0, .bool false, ZI ZQ 0, ZI ZQ 0, ZI ZQ 0, .slice (some ⟨a3, 0, none⟩) 1 1, ZI ZQ 0, ZI ZQ 0] (0, 0) _ (KhSt.ak hw) Try.underlying36 rfl row_size⟩) (by assumption) ?_
     try simp only [ZP, ZA, ZB, ZC, ZD, ZE, ZF]
     refine wpAnyH_take (i := 31) (v := .agg #[ZI ZQ 1, ZI ZQ 0, ZI ZQ 0, ZI ZQ 0, ZI ZQ 0, ZI ZQ 1, ZI ZQ 9, .bool true, .bool true, .bool true, .bool false, ZI ZQ 0, .slice none 0 0, .bool false, ZI ZQ 0, ZI ZQ 0, ZI ZQ 0, .slice none 0 0, ZI ZQ 0, ZI ZQ 0]) rfl (by as_aux_lemma => kernel_rfl) (by as_aux_lemma => kernel_rfl) (by as_aux_lemma => kernel_rfl) (fun _ _ _ h => h) (Or.inl ⟨by rfl, fun w' hw => exec_load_row 36 (.tmp 3) rfl X3 rfl 36 #[ZI ZQ 1, ZI ZQ 0, ZI ZQ 0, ZI ZQ 0, ZI ZQ 0, ZI ZQ 1, ZI ZQ 9, .bool true, .bool true, .bool true, .bool false, ZI ZQ 0, .slice none 0 0, .bool false, ZI ZQ 0, ZI ZQ 0, ZI ZQ 0, .slice none 0 0, ZI ZQ 0, ZI ZQ 0] (0, 0) _ (KhSt.pr hw) Try.underlying36 rfl row_size⟩) (by assumption) ?_
     try simp only [ZP, ZA, ZB, ZC, ZD, ZE, ZF]
     refine wpAnyH_take (i := 32) (v := .agg #[ZI ZQ 1, ZI ZQ 0, ZI ZQ 0, ZI ZQ 0, ZI ZQ 0, ZI ZQ 1, ZI ZQ 9, .bool true, .bool true, .bool true, .bool false, ZI ZQ 0, .slice none 0 0, .bool false, ZI ZQ 0, ZI ZQ 0, ZI ZQ 0, .slice none 0 0, ZI ZQ 0, ZI ZQ 0]) rfl (by as_aux_lemma => kernel_rfl) (by as_aux_lemma => kernel_rfl) (by as_aux_lemma => kernel_rfl) (fun _ _ _ h => h) (Or.inl ⟨by rfl, fun w' hw => exec_load_row 36 (.tmp 3) rfl X3 rfl 36 #[ZI ZQ 1, ZI ZQ 0, ZI ZQ 0, ZI ZQ 0, ZI ZQ 0, ZI ZQ 1, ZI ZQ 9, .bool true, .bool true, .bool true, .bool false, ZI ZQ 0, .slice none 0 0, .bool false, ZI ZQ 0, ZI ZQ 0, ZI ZQ 0, .slice none 0 0, ZI ZQ 0, ZI ZQ 0] (0, 0) _ (KhSt.pr hw) Try.underlying36 rfl row_size⟩) (by assumption) ?_
     try simp only [ZP, ZA, ZB, ZC, ZD, ZE, ZF]
     refine tkX 33 ?_ rfl ?_ ?_
     rotate_left
     ·intro w' hSw; (try dsimp only at hSw); go_simp; try with_reducible rfl
     try simp only [ZP, ZA, ZB, ZC, ZD, ZE, ZF]
     refine tkX 34 ?_ rfl ?_ ?_
     rotate_left
     ·intro w' hSw; (try dsimp only at hSw); go_simp; try with_reducible rfl
     try simp only [ZP, ZA, ZB, ZC, ZD, ZE, ZF]
     refine tkX 35 ?_ rfl ?_ ?_
     rotate_left
     ·intro w' hSw; (try dsimp only at hSw); go_simp; try with_reducible rfl
     try simp only [ZP, ZA, ZB, ZC, ZD, ZE, ZF]
     refine wpAnyH_take (i := 36) (v := .agg #[ZI ZQ kind, ZI ZQ rt, ZI ZQ rsp, ZI ZQ rsize, ZI ZQ osp, ZI ZQ onum, ZI ZQ osize, .bool oel, .bool ofl, .bool opr, .bool oect, ZI ZQ delay, .slice ra rn rc, .bool marked, ZI ZQ e0, ZI ZQ e1, ZI ZQ e2, .slice ea en ec, ZI ZQ err, ZI ZQ smooth]) rfl (by as_aux_lemma => kernel_rfl) (by as_aux_lemma => kernel_rfl) (by as_aux_lemma => kernel_rfl) (fun _ _ _ h => h) (Or.inl ⟨by rfl, fun w' hw => exec_load_at 36 (.tmp 105) rfl ⟨N + 6, i * 20, none⟩ rfl #[ZI ZQ kind, ZI ZQ rt, ZI ZQ rsp, ZI ZQ rsize, ZI ZQ osp, ZI ZQ onum, ZI ZQ osize, .bool oel, .bool ofl, .bool opr, .bool oect, ZI ZQ delay, .slice ra rn rc, .bool marked, ZI ZQ e0, ZI ZQ e1, ZI ZQ e2, .slice ea en ec, ZI ZQ err, ZI ZQ smooth] _ (KhSt.at hw HX.out) Try.underlying36 rfl row_size⟩) (by assumption) ?_
     try simp only [ZP, ZA, ZB, ZC, ZD, ZE, ZF]
     refine tkX 38 ?_ rfl ?_ ?_
     rotate_left
     ·intro w' hSw; (try dsimp only at hSw); go_simp; try with_reducible rfl
     try simp only [ZP, ZA, ZB, ZC, ZD, ZE, ZF]
     refine tkY [23, 37] ?_
     refine ZS rfl (fun K hK => ?_) ?_
     ·skip
      go_simp
      go_at_call 6
      with_reducible refine (HSV.out _ _).mono ?_
      rintro y4 V4 ⟨rfl, hb4⟩
      refine hK.out _ _ (KhSt.later hHeld hb4) (fun hHeld => ?_)
      clear hK K
      try simp only [ZP, ZA, ZB, ZC, ZD, ZE, ZF]
      refine tkY [37] ?_
      refine ZS rfl (fun K hK => ?_) ZN
      go_simp
      obtain ⟨V5, hV5⟩ : ∃ y, V4.alloc (.cells #[ZI ZQ 3, ZI ZQ 0, ZI ZQ 0, ZI ZQ 1000, ZI ZQ 0, ZI ZQ 0, ZI ZQ 0, .bool false, .bool false, .bool false, .bool false, ZI ZQ 0, .slice none 0 0, .bool false, ZI ZQ 0, ZI ZQ 0, ZI ZQ 0, .slice none 0 0, ZI ZQ 0, ZI ZQ 0, ZI ZQ kind, ZI ZQ rt, ZI ZQ rsp, ZI ZQ rsize, ZI ZQ osp, ZI ZQ onum, ZI ZQ osize, .bool oel, .bool ofl, .bool opr, .bool oect, ZI ZQ delay, .slice ra rn rc, .bool marked, ZI ZQ e0, ZI ZQ e1, ZI ZQ e2, .slice ea en ec, ZI ZQ err, ZI ZQ smooth, ZI ZQ 1, ZI ZQ 0, ZI ZQ 0, ZI ZQ 0, ZI ZQ 0, ZI ZQ 0, ZI ZQ 1200, .bool true, .bool true, .bool false, .bool false, ZI ZQ 0, .slice none 0 0, .bool false, ZI ZQ 0, ZI ZQ 0, ZI ZQ 0, .slice none 0 0, ZI ZQ 0, ZI ZQ 0, ZI ZQ 4, ZI ZQ 0, ZI ZQ 0, ZI ZQ 0, ZI ZQ 0, ZI ZQ 0, ZI ZQ 0, .bool false, .bool false, .bool false, .bool false, ZI ZQ 0, .slice none 0 0, .bool false, ZI ZQ 0, ZI ZQ 0, ZI ZQ 0, .slice (some ⟨a3, 0, none⟩) 1 1, ZI ZQ 0, ZI ZQ 0, ZI ZQ 1, ZI ZQ 0, ZI ZQ 0, ZI ZQ 0, ZI ZQ 0, ZI ZQ 1, ZI ZQ 9, .bool true, .bool true, .bool true, .bool false, ZI ZQ 0, .slice none 0 0, .bool false, ZI ZQ 0, ZI ZQ 0, ZI ZQ 0, .slice none 0 0, ZI ZQ 0, ZI ZQ 0, ZI ZQ 1, ZI ZQ 0, ZI ZQ 0, ZI ZQ 0, ZI ZQ 0, ZI ZQ 1, ZI ZQ 9, .bool true, .bool true, .bool true, .bool false, ZI ZQ 0, .slice none 0 0, .bool false, ZI ZQ 0, ZI ZQ 0, ZI ZQ 0, .slice none 0 0, ZI ZQ 0, ZI ZQ 0, ZI ZQ kind, ZI ZQ rt, ZI ZQ rsp, ZI ZQ rsize, ZI ZQ osp, ZI ZQ onum, ZI ZQ osize, .bool oel, .bool ofl, .bool opr, .bool oect, ZI ZQ delay, .slice ra rn rc, .bool marked, ZI ZQ e0, ZI ZQ e1, ZI ZQ e2, .slice ea en ec, ZI ZQ err, ZI ZQ smooth] 36) = y := ⟨_, rfl⟩
      have hg5 : Blk V5 V4.heap.size 36 ((twoL a3 ⟨⟨kind, rt, rsp, rsize, ⟨osp, onum, osize, oel, ofl, opr, oect⟩, delay, ra, rn, rc, marked, e0, e1, e2, ea, en, ec, err, smooth⟩, es, rs⟩).flatMap rrL).toArray := by rw [← hV5]; exact Blk.new _ _ _
      have hb5 : Below V4.heap.size V4 V5 := by rw [← hV5]; exact (Below.refl _ _).alloc (Nat.le_refl _) _
      have hh5 := KhSt.later hHeld hb5
      obtain ⟨g5, hG5⟩ : ∃ y, V4.heap.size = y := ⟨_, rfl⟩
      rw [hG5] at hg5
      rw [hV5, hG5]
      clear hV5 hG5 hb5
      refine hK.out _ _ (hh5) (fun hHeld => ?_)
      clear hK K
      try simp only [ZP, ZA, ZB, ZC, ZD, ZE, ZF]
      refine tkY [39] ?_
      refine ZS rfl (fun K hK => ?_) ZN
      go_simp
      go_at_call 11
      with_reducible refine (two_call hHeld HX.out _ (by first | rfl | exact PARtwo_call i | (simp; omega)) _ hg5 _).mono ?_
      rintro y6 V6 ⟨rfl, hb6⟩
      refine hK.out _ _ (KhSt.later hHeld hb6) (fun hHeld => ?_)
      clear hK K
      try simp only [ZP, ZA, ZB, ZC, ZD, ZE, ZF]
      refine tkX 40 ?_ rfl ?_ ?_
      rotate_left
      ·intro w' hSw; (try dsimp only at hSw); go_simp; try with_reducible rfl
      try simp only [ZP, ZA, ZB, ZC, ZD, ZE, ZF]
      refine tkX 41 ?_ rfl ?_ ?_
      rotate_left
      ·intro w' hSw; (try dsimp only at hSw); go_simp; try with_reducible rfl
      try simp only [ZP, ZA, ZB, ZC, ZD, ZE, ZF]
      refine wpAnyH_done (by as_aux_lemma => kernel_rfl) ?_ _
      have HE := hide hHeld
      clear hHeld
      go_wp2_with fail
      go_roundg (17 - (i + 1))
      case rel => exact ⟨i + 1, by go_num, by omega, by omega, HE.out⟩
      case measure => omega
     refine ZS rfl (fun K hK => ?_) ZN
     go_simp
     obtain ⟨V7, hV7⟩ : ∃ y, V3.alloc (.cells #[ZI ZQ 3, ZI ZQ 0, ZI ZQ 0, ZI ZQ 1000, ZI ZQ 0, ZI ZQ 0, ZI ZQ 0, .bool false, .bool false, .bool false, .bool false, ZI ZQ 0, .slice none 0 0, .bool false, ZI ZQ 0, ZI ZQ 0, ZI ZQ 0, .slice none 0 0, ZI ZQ 0, ZI ZQ 0, ZI ZQ kind, ZI ZQ rt, ZI ZQ rsp, ZI ZQ rsize, ZI ZQ osp, ZI ZQ onum, ZI ZQ osize, .bool oel, .bool ofl, .bool opr, .bool oect, ZI ZQ delay, .slice ra rn rc, .bool marked, ZI ZQ e0, ZI ZQ e1, ZI ZQ e2, .slice ea en ec, ZI ZQ err, ZI ZQ smooth, ZI ZQ 1, ZI ZQ 0, ZI ZQ 0, ZI ZQ 0, ZI ZQ 0, ZI ZQ 0, ZI ZQ 1200, .bool true, .bool true, .bool false, .bool false, ZI ZQ 0, .slice none 0 0, .bool false, ZI ZQ 0, ZI ZQ 0, ZI ZQ 0, .slice none 0 0, ZI ZQ 0, ZI ZQ 0, ZI ZQ 4, ZI ZQ 0, ZI ZQ 0, ZI ZQ 0, ZI ZQ 0, ZI ZQ 0, ZI ZQ 0, .bool false, .bool false, .bool false, .bool false, ZI ZQ 0, .slice none 0 0, .bool false, ZI ZQ 0, ZI ZQ 0, ZI ZQ 0, .slice (some ⟨a3, 0, none⟩) 1 1, ZI ZQ 0, ZI ZQ 0, ZI ZQ 1, ZI ZQ 0, ZI ZQ 0, ZI ZQ 0, ZI ZQ 0, ZI ZQ 1, ZI ZQ 9, .bool true, .bool true, .bool true, .bool false, ZI ZQ 0, .slice none 0 0, .bool false, ZI ZQ 0, ZI ZQ 0, ZI ZQ 0, .slice none 0 0, ZI ZQ 0, ZI ZQ 0, ZI ZQ 1, ZI ZQ 0, ZI ZQ 0, ZI ZQ 0, ZI ZQ 0, ZI ZQ 1, ZI ZQ 9, .bool true, .bool true, .bool true, .bool false, ZI ZQ 0, .slice none 0 0, .bool false, ZI ZQ 0, ZI ZQ 0, ZI ZQ 0, .slice none 0 0, ZI ZQ 0, ZI ZQ 0, ZI ZQ kind, ZI ZQ rt, ZI ZQ rsp, ZI ZQ rsize, ZI ZQ osp, ZI ZQ onum, ZI ZQ osize, .bool oel, .bool ofl, .bool opr, .bool oect, ZI ZQ delay, .slice ra rn rc, .bool marked, ZI ZQ e0, ZI ZQ e1, ZI ZQ e2, .slice ea en ec, ZI ZQ err, ZI ZQ smooth] 36) = y := ⟨_, rfl⟩
     have hg7 : Blk V7 V3.heap.size 36 ((twoL a3 ⟨⟨kind, rt, rsp, rsize, ⟨osp, onum, osize, oel, ofl, opr, oect⟩, delay, ra, rn, rc, marked, e0, e1, e2, ea, en, ec, err, smooth⟩, es, rs⟩).flatMap rrL).toArray := by rw [← hV7]; exact Blk.new _ _ _
     have hb7 : Below V3.heap.size V3 V7 := by rw [← hV7]; exact (Below.refl _ _).alloc (Nat.le_refl _) _
     have hh7 := KhSt.later hHeld hb7
     obtain ⟨g7, hG7⟩ : ∃ y, V3.heap.size = y := ⟨_, rfl⟩
     rw [hG7] at hg7
     rw [hV7, hG7]
     clear hV7 hG7 hb7
     refine hK.out _ _ (hh7) (fun hHeld => ?_)
     clear hK K
     try simp only [ZP, ZA, ZB, ZC, ZD, ZE, ZF]
     refine tkY [23] ?_
     refine ZS rfl (fun K hK => ?_) ZN
     go_simp
     go_at_call 6
     with_reducible refine (HSV.out _ _).mono ?_
     rintro y8 V8 ⟨rfl, hb8⟩
     refine hK.out _ _ (KhSt.later hHeld hb8) (fun hHeld => ?_)
     clear hK K
     try simp only [ZP, ZA, ZB, ZC, ZD, ZE, ZF]
     have hg7 : Blk V8 g7 36 ((twoL a3 ⟨⟨kind, rt, rsp, rsize, ⟨osp, onum, osize, oel, ofl, opr, oect⟩, delay, ra, rn, rc, marked, e0, e1, e2, ea, en, ec, err, smooth⟩, es, rs⟩).flatMap rrL).toArray := (hb8.block _ hg7.lt).trans hg7
     refine tkY [39] ?_
     refine ZS rfl (fun K hK => ?_) ZN
     go_simp
     go_at_call 11
     with_reducible refine (two_call hHeld HX.out _ (by first | rfl | exact PARtwo_call i | (simp; omega)) _ hg7 _).mono ?_
     rintro y9 V9 ⟨rfl, hb9⟩
     refine hK.out _ _ (KhSt.later hHeld hb9) (fun hHeld => ?_)
     clear hK K
     try simp only [ZP, ZA, ZB, ZC, ZD, ZE, ZF]
     refine tkX 40 ?_ rfl ?_ ?_
     rotate_left
     ·intro w' hSw; (try dsimp only at hSw); go_simp; try with_reducible rfl
     try simp only [ZP, ZA, ZB, ZC, ZD, ZE, ZF]
     refine tkX 41 ?_ rfl ?_ ?_
     rotate_left
     ·intro w' hSw; (try dsimp only at hSw); go_simp; try with_reducible rfl
     try simp only [ZP, ZA, ZB, ZC, ZD, ZE, ZF]
     refine wpAnyH_done (by as_aux_lemma => kernel_rfl) ?_ _
     have HE := hide hHeld
     clear hHeld
     go_wp2_with fail
     go_roundg (17 - (i + 1))
     case rel => exact ⟨i + 1, by go_num, by omega, by omega, HE.out⟩
     case measure => omega
    refine ZS rfl (fun K hK => ?_) ZN
    go_simp
    obtain ⟨V10, hV10⟩ : ∃ y, Wd.alloc (.cells #[ZI ZQ 1, ZI ZQ 0, ZI ZQ 0, ZI ZQ 0, ZI ZQ 0, ZI ZQ 0, ZI ZQ 1200, .bool true, .bool true, .bool false, .bool false, ZI ZQ 0, .slice none 0 0, .bool false, ZI ZQ 0, ZI ZQ 0, ZI ZQ 0, .slice none 0 0, ZI ZQ 0, ZI ZQ 0, ZI ZQ kind, ZI ZQ rt, ZI ZQ rsp, ZI ZQ rsize, ZI ZQ osp, ZI ZQ onum, ZI ZQ osize, .bool oel, .bool ofl, .bool opr, .bool oect, ZI ZQ delay, .slice ra rn rc, .bool marked, ZI ZQ e0, ZI ZQ e1, ZI ZQ e2, .slice ea en ec, ZI ZQ err, ZI ZQ smooth, ZI ZQ 2, ZI ZQ 9, ZI ZQ 0, ZI ZQ 0, ZI ZQ 0, ZI ZQ 0, ZI ZQ 0, .bool false, .bool false, .bool false, .bool false, ZI ZQ 0, .slice (some ⟨a1, 0, none⟩) 1 1, .bool false, ZI ZQ 0, ZI ZQ 0, ZI ZQ 0, .slice (some ⟨a2, 0, none⟩) 2 2, ZI ZQ 0, ZI ZQ 0, ZI ZQ kind, ZI ZQ rt, ZI ZQ rsp, ZI ZQ rsize, ZI ZQ osp, ZI ZQ onum, ZI ZQ osize, .bool oel, .bool ofl, .bool opr, .bool oect, ZI ZQ delay, .slice ra rn rc, .bool marked, ZI ZQ e0, ZI ZQ e1, ZI ZQ e2, .slice ea en ec, ZI ZQ err, ZI ZQ smooth] 36) = y := ⟨_, rfl⟩
    have hg10 : Blk V10 Wd.heap.size 36 ((oneL a1 a2 ⟨⟨kind, rt, rsp, rsize, ⟨osp, onum, osize, oel, ofl, opr, oect⟩, delay, ra, rn, rc, marked, e0, e1, e2, ea, en, ec, err, smooth⟩, es, rs⟩).flatMap rrL).toArray := by rw [← hV10]; exact Blk.new _ _ _
    have hb10 : Below Wd.heap.size Wd V10 := by rw [← hV10]; exact (Below.refl _ _).alloc (Nat.le_refl _) _
    have hh10 := KhSt.later hHeld hb10
    obtain ⟨g10, hG10⟩ : ∃ y, Wd.heap.size = y := ⟨_, rfl⟩
    rw [hG10] at hg10
    rw [hV10, hG10]
    clear hV10 hG10 hb10
    refine hK.out _ _ (hh10) (fun hHeld => ?_)
    clear hK K
    try simp only [ZP, ZA, ZB, ZC, ZD, ZE, ZF]
    refine tkY [3] ?_
    refine ZS rfl (fun K hK => ?_) ZN
    go_simp
    go_at_call 6
    with_reducible refine (HSV.out _ _).mono ?_
    rintro y11 V11 ⟨rfl, hb11⟩
    refine hK.out _ _ (KhSt.later hHeld hb11) (fun hHeld => ?_)
    clear hK K
    try simp only [ZP, ZA, ZB, ZC, ZD, ZE, ZF]
    have hg10 : Blk V11 g10 36 ((oneL a1 a2 ⟨⟨kind, rt, rsp, rsize, ⟨osp, onum, osize, oel, ofl, opr, oect⟩, delay, ra, rn, rc, marked, e0, e1, e2, ea, en, ec, err, smooth⟩, es, rs⟩).flatMap rrL).toArray := (hb11.block _ hg10.lt).trans hg10
    refine tkY [17] ?_
    refine ZS rfl (fun K hK => ?_) ZN
    go_simp
    go_at_call 11
    with_reducible refine (one_call hHeld HX.out _ (by first | rfl | exact PARone_call i | (simp; omega)) _ hg10 _).mono ?_
    rintro y12 V12 ⟨rfl, hb12⟩
    refine hK.out _ _ (KhSt.later hHeld hb12) (fun hHeld => ?_)
    clear hK K
    try simp only [ZP, ZA, ZB, ZC, ZD, ZE, ZF]
    refine tkX 18 ?_ rfl ?_ ?_
    rotate_left
    ·intro w' hSw; (try dsimp only at hSw); go_simp; try with_reducible rfl
    try simp only [ZP, ZA, ZB, ZC, ZD, ZE, ZF]
    refine tkX 19 ?_ rfl ?_ ?_
    rotate_left
    ·intro w' hSw; (try dsimp only at hSw); go_simp; try with_reducible rfl
    try simp only [ZP, ZA, ZB, ZC, ZD, ZE, ZF]
    refine tkX 20 ?_ rfl ?_ ?_
    rotate_left
    ·intro w' hSw; (try dsimp only at hSw); go_simp; try with_reducible rfl
    try simp only [ZP, ZA, ZB, ZC, ZD, ZE, ZF]
    refine tkX 21 ?_ rfl ?_ ?_
    rotate_left
    ·intro w' hSw; (try dsimp only at hSw); go_simp; try with_reducible rfl
    try simp only [ZP, ZA, ZB, ZC, ZD, ZE, ZF]
    refine tkX 22 ?_ rfl ?_ ?_
    rotate_left
    ·intro w' hSw; (try dsimp only at hSw); go_simp; try with_reducible rfl
    try simp only [ZP, ZA, ZB, ZC, ZD, ZE, ZF]
    refine tkX 24 ?_ rfl ?_ ?_
    rotate_left
    ·intro w' hSw; (try dsimp only at hSw); go_simp; try with_reducible rfl
    try simp only [ZP, ZA, ZB, ZC, ZD, ZE, ZF]
    refine tkX 25 ?_ rfl ?_ ?_
    rotate_left
    ·intro w' hSw; (try dsimp only at hSw); go_simp; try with_reducible rfl
    try simp only [ZP, ZA, ZB, ZC, ZD, ZE, ZF]
    refine tkX 26 ?_ rfl ?_ ?_
    rotate_left
    ·intro w' hSw; (try dsimp only at hSw); go_simp; try with_reducible rfl
    try simp only [ZP, ZA, ZB, ZC, ZD, ZE, ZF]
    refine tkX 27 ?_ rfl ?_ ?_
    rotate_left
    ·intro w' hSw; (try dsimp only at hSw); go_simp; try with_reducible rfl
    try simp only [ZP, ZA, ZB, ZC, ZD, ZE, ZF]
    refine wpAnyH_take (i := 28) (v := .agg #[ZI ZQ kind, ZI ZQ rt, ZI ZQ rsp, ZI ZQ rsize, ZI ZQ osp, ZI ZQ onum, ZI ZQ osize, .bool oel, .bool ofl, .bool opr, .bool oect, ZI ZQ delay, .slice ra rn rc, .bool marked, ZI ZQ e0, ZI ZQ e1, ZI ZQ e2, .slice ea en ec, ZI ZQ err, ZI ZQ smooth]) rfl (by as_aux_lemma => kernel_rfl) (by as_aux_lemma => kernel_rfl) (by as_aux_lemma => kernel_rfl) (fun _ _ _ h => h) (Or.inl ⟨by rfl, fun w' hw => exec_load_at 36 (.tmp 97) rfl ⟨N + 6, i * 20, none⟩ rfl #[ZI ZQ kind, ZI ZQ rt, ZI ZQ rsp, ZI ZQ rsize, ZI ZQ osp, ZI ZQ onum, ZI ZQ osize, .bool oel, .bool ofl, .bool opr, .bool oect, ZI ZQ delay, .slice ra rn rc, .bool marked, ZI ZQ e0, ZI ZQ e1, ZI ZQ e2, .slice ea en ec, ZI ZQ err, ZI ZQ smooth] _ (KhSt.at hw HX.out) Try.underlying36 rfl row_size⟩) (by assumption) ?_
    try simp only [ZP, ZA, ZB, ZC, ZD, ZE, ZF]
    refine wpAnyH_take (i := 29) (v := .agg #[ZI ZQ 1, ZI ZQ 0, ZI ZQ 0, ZI ZQ 0, ZI ZQ 0, ZI ZQ 0, ZI ZQ 1200, .bool true, .bool true, .bool false, .bool false, ZI ZQ 0, .slice none 0 0, .bool false, ZI ZQ 0, ZI ZQ 0, ZI ZQ 0, .slice none 0 0, ZI ZQ 0, ZI ZQ 0]) rfl (by as_aux_lemma => kernel_rfl) (by as_aux_lemma => kernel_rfl) (by as_aux_lemma => kernel_rfl) (fun _ _ _ h => h) (Or.inl ⟨by rfl, fun w' hw => exec_load_row 36 (.tmp 1) rfl X1 rfl 36 #[ZI ZQ 1, ZI ZQ 0, ZI ZQ 0, ZI ZQ 0, ZI ZQ 0, ZI ZQ 0, ZI ZQ 1200, .bool true, .bool true, .bool false, .bool false, ZI ZQ 0, .slice none 0 0, .bool false, ZI ZQ 0, ZI ZQ 0, ZI ZQ 0, .slice none 0 0, ZI ZQ 0, ZI ZQ 0] (0, 0) _ (KhSt.s hw) Try.underlying36 rfl row_size⟩) (by assumption) ?_
    try simp only [ZP, ZA, ZB, ZC, ZD, ZE, ZF]
    refine wpAnyH_take (i := 30) (v := .agg #[ZI ZQ 4, ZI ZQ 0, ZI ZQ 0, ZI ZQ 0, ZI ZQ 0, ZI ZQ 0, ZI ZQ 0, .bool false, .bool false, .bool false, .bool false, ZI ZQ 0, .slice none 0 0, .bool false, ZI ZQ 0, ZI ZQ 0, ZI ZQ 0, .slice (some ⟨a3, 0, none⟩) 1 1, ZI ZQ 0, ZI ZQ 0]) rfl (by as_aux_lemma => kernel_rfl) (by as_aux_lemma => kernel_rfl) (by as_aux_lemma => kernel_rfl) (fun _ _ _ h => h) (Or.inl ⟨by rfl, fun w' hw => exec_load_row 36 (.tmp 5) rfl (a3 + 1) rfl 36 #[ZI ZQ 4, ZI ZQ 0, ZI ZQ 0, ZI ZQ 0, ZI ZQ 0, ZI ZQ 0, ZI ZQ 0, .bool false, .bool false, .bool false, .bool false, ZI ZQ 0, .slice none 0 0, .bool false, ZI ZQ 0, ZI ZQ 0, ZI ZQ 0, .slice (some ⟨a3, 0, none⟩) 1 1, ZI ZQ 0, ZI ZQ 0] (0, 0) _ (KhSt.ak hw) Try.underlying36 rfl row_size⟩) (by assumption) ?_
    try simp only [ZP, ZA, ZB, ZC, ZD, ZE, ZF]
    refine wpAnyH_take (i := 31) (v := .agg #[ZI ZQ 1, ZI ZQ 0, ZI ZQ 0, ZI ZQ 0, ZI ZQ 0, ZI ZQ 1, ZI ZQ 9, .bool true, .bool true, .bool true, .bool false, ZI ZQ 0, .slice none 0 0, .bool false, ZI ZQ 0, ZI ZQ 0, ZI ZQ 0, .slice none 0 0, ZI ZQ 0, ZI ZQ 0]) rfl (by as_aux_lemma => kernel_rfl) (by as_aux_lemma => kernel_rfl) (by as_aux_lemma => kernel_rfl) (fun _ _ _ h => h) (Or.inl ⟨by rfl, fun w' hw => exec_load_row 36 (.tmp 3) rfl X3 rfl 36 #[ZI ZQ 1, ZI ZQ 0, ZI ZQ 0, ZI ZQ 0, ZI ZQ 0, ZI ZQ 1, ZI ZQ 9, .bool true, .bool true, .bool true, .bool false, ZI ZQ 0, .slice none 0 0, .bool false, ZI ZQ 0, ZI ZQ 0, ZI ZQ 0, .slice none 0 0, ZI ZQ 0, ZI ZQ 0] (0, 0) _ (KhSt.pr hw) Try.underlying36 rfl row_size⟩) (by assumption) ?_
    try simp only [ZP, ZA, ZB, ZC, ZD, ZE, ZF]
    refine wpAnyH_take (i := 32) (v := .agg #[ZI ZQ 1, ZI ZQ 0, ZI ZQ 0, ZI ZQ 0, ZI ZQ 0, ZI ZQ 1, ZI ZQ 9, .bool true, .bool true, .bool true, .bool false, ZI ZQ 0, .slice none 0 0, .bool false, ZI ZQ 0, ZI ZQ 0, ZI ZQ 0, .slice none 0 0, ZI ZQ 0, ZI ZQ 0]) rfl (by as_aux_lemma => kernel_rfl) (by as_aux_lemma => kernel_rfl) (by as_aux_lemma => kernel_rfl) (fun _ _ _ h => h) (Or.inl ⟨by rfl, fun w' hw => exec_load_row 36 (.tmp 3) rfl X3 rfl 36 #[ZI ZQ 1, ZI ZQ 0, ZI ZQ 0, ZI ZQ 0, ZI ZQ 0, ZI ZQ 1, ZI ZQ 9, .bool true, .bool true, .bool true, .bool false, ZI ZQ 0, .slice none 0 0, .bool false, ZI ZQ 0, ZI ZQ 0, ZI ZQ 0, .slice none 0 0, ZI ZQ 0, ZI ZQ 0] (0, 0) _ (KhSt.pr hw) Try.underlying36 rfl row_size⟩) (by assumption) ?_
    try simp only [ZP, ZA, ZB, ZC, ZD, ZE, ZF]
    refine tkX 33 ?_ rfl ?_ ?_
    rotate_left
    ·intro w' hSw; (try dsimp only at hSw); go_simp; try with_reducible rfl
    try simp only [ZP, ZA, ZB, ZC, ZD, ZE, ZF]
    refine tkX 34 ?_ rfl ?_ ?_
    rotate_left
    ·intro w' hSw; (try dsimp only at hSw); go_simp; try with_reducible rfl
    try simp only [ZP, ZA, ZB, ZC, ZD, ZE, ZF]
    refine tkX 35 ?_ rfl ?_ ?_
    rotate_left
    ·intro w' hSw; (try dsimp only at hSw); go_simp; try with_reducible rfl
    try simp only [ZP, ZA, ZB, ZC, ZD, ZE, ZF]
    refine wpAnyH_take (i := 36) (v := .agg #[ZI ZQ kind, ZI ZQ rt, ZI ZQ rsp, ZI ZQ rsize, ZI ZQ osp, ZI ZQ onum, ZI ZQ osize, .bool oel, .bool ofl, .bool opr, .bool oect, ZI ZQ delay, .slice ra rn rc, .bool marked, ZI ZQ e0, ZI ZQ e1, ZI ZQ e2, .slice ea en ec, ZI ZQ err, ZI ZQ smooth]) rfl (by as_aux_lemma => kernel_rfl) (by as_aux_lemma => kernel_rfl) (by as_aux_lemma => kernel_rfl) (fun _ _ _ h => h) (Or.inl ⟨by rfl, fun w' hw => exec_load_at 36 (.tmp 105) rfl ⟨N + 6, i * 20, none⟩ rfl #[ZI ZQ kind, ZI ZQ rt, ZI ZQ rsp, ZI ZQ rsize, ZI ZQ osp, ZI ZQ onum, ZI ZQ osize, .bool oel, .bool ofl, .bool opr, .bool oect, ZI ZQ delay, .slice ra rn rc, .bool marked, ZI ZQ e0, ZI ZQ e1, ZI ZQ e2, .slice ea en ec, ZI ZQ err, ZI ZQ smooth] _ (KhSt.at hw HX.out) Try.underlying36 rfl row_size⟩) (by assumption) ?_
    try simp only [ZP, ZA, ZB, ZC, ZD, ZE, ZF]
    refine tkX 38 ?_ rfl ?_ ?_
    rotate_left
    ·intro w' hSw; (try dsimp only at hSw); go_simp; try with_reducible rfl
    try simp only [ZP, ZA, ZB, ZC, ZD, ZE, ZF]
    refine tkY [23, 37] ?_
    refine ZS rfl (fun K hK => ?_) ?_
    ·skip
     go_simp
     go_at_call 6
     with_reducible refine (HSV.out _ _).mono ?_
     rintro y13 V13 ⟨rfl, hb13⟩
     refine hK.out _ _ (KhSt.later hHeld hb13) (fun hHeld => ?_)
     clear hK K
     try simp only [ZP, ZA, ZB, ZC, ZD, ZE, ZF]
     refine tkY [37] ?_
     refine ZS rfl (fun K hK => ?_) ZN
     go_simp
     obtain ⟨V14, hV14⟩ : ∃ y, V13.alloc (.cells #[ZI ZQ 3, ZI ZQ 0, ZI ZQ 0, ZI ZQ 1000, ZI ZQ 0, ZI ZQ 0, ZI ZQ 0, .bool false, .bool false, .bool false, .bool false, ZI ZQ 0, .slice none 0 0, .bool false, ZI ZQ 0, ZI ZQ 0, ZI ZQ 0, .slice none 0 0, ZI ZQ 0, ZI ZQ 0, ZI ZQ kind, ZI ZQ rt, ZI ZQ rsp, ZI ZQ rsize, ZI ZQ osp, ZI ZQ onum, ZI ZQ osize, .bool oel, .bool ofl, .bool opr, .bool oect, ZI ZQ delay, .slice ra rn rc, .bool marked, ZI ZQ e0, ZI ZQ e1, ZI ZQ e2, .slice ea en ec, ZI ZQ err, ZI ZQ smooth, ZI ZQ 1, ZI ZQ 0, ZI ZQ 0, ZI ZQ 0, ZI ZQ 0, ZI ZQ 0, ZI ZQ 1200, .bool true, .bool true, .bool false, .bool false, ZI ZQ 0, .slice none 0 0, .bool false, ZI ZQ 0, ZI ZQ 0, ZI ZQ 0, .slice none 0 0, ZI ZQ 0, ZI ZQ 0, ZI ZQ 4, ZI ZQ 0, ZI ZQ 0, ZI ZQ 0, ZI ZQ 0, ZI ZQ 0, ZI ZQ 0, .bool false, .bool false, .bool false, .bool false, ZI ZQ 0, .slice none 0 0, .bool false, ZI ZQ 0, ZI ZQ 0, ZI ZQ 0, .slice (some ⟨a3, 0, none⟩) 1 1, ZI ZQ 0, ZI ZQ 0, ZI ZQ 1, ZI ZQ 0, ZI ZQ 0, ZI ZQ 0, ZI ZQ 0, ZI ZQ 1, ZI ZQ 9, .bool true, .bool true, .bool true, .bool false, ZI ZQ 0, .slice none 0 0, .bool false, ZI ZQ 0, ZI ZQ 0, ZI ZQ 0, .slice none 0 0, ZI ZQ 0, ZI ZQ 0, ZI ZQ 1, ZI ZQ 0, ZI ZQ 0, ZI ZQ 0, ZI ZQ 0, ZI ZQ 1, ZI ZQ 9, .bool true, .bool true, .bool true, .bool false, ZI ZQ 0, .slice none 0 0, .bool false, ZI ZQ 0, ZI ZQ 0, ZI ZQ 0, .slice none 0 0, ZI ZQ 0, ZI ZQ 0, ZI ZQ kind, ZI ZQ rt, ZI ZQ rsp, ZI ZQ rsize, ZI ZQ osp, ZI ZQ onum, ZI ZQ osize, .bool oel, .bool ofl, .bool opr, .bool oect, ZI ZQ delay, .slice ra rn rc, .bool marked, ZI ZQ e0, ZI ZQ e1, ZI ZQ e2, .slice ea en ec, ZI ZQ err, ZI ZQ smooth] 36) = y := ⟨_, rfl⟩
     have hg14 : Blk V14 V13.heap.size 36 ((twoL a3 ⟨⟨kind, rt, rsp, rsize, ⟨osp, onum, osize, oel, ofl, opr, oect⟩, delay, ra, rn, rc, marked, e0, e1, e2, ea, en, ec, err, smooth⟩, es, rs⟩).flatMap rrL).toArray := by rw [← hV14]; exact Blk.new _ _ _
     have hb14 : Below V13.heap.size V13 V14 := by rw [← hV14]; exact (Below.refl _ _).alloc (Nat.le_refl _) _
     have hh14 := KhSt.later hHeld hb14
     obtain ⟨g14, hG14⟩ : ∃ y, V13.heap.size = y := ⟨_, rfl⟩
     rw [hG14] at hg14
     rw [hV14, hG14]
     clear hV14 hG14 hb14
     refine hK.out _ _ (hh14) (fun hHeld => ?_)
     clear hK K
     try simp only [ZP, ZA, ZB, ZC, ZD, ZE, ZF]
     refine tkY [39] ?_
     refine ZS rfl (fun K hK => ?_) ZN
     go_simp
     go_at_call 11
     with_reducible refine (two_call hHeld HX.out _ (by first | rfl | exact PARtwo_call i | (simp; omega)) _ hg14 _).mono ?_
     rintro y15 V15 ⟨rfl, hb15⟩
     refine hK.out _ _ (KhSt.later hHeld hb15) (fun hHeld => ?_)
     clear hK K
     try simp only [ZP, ZA, ZB, ZC, ZD, ZE, ZF]
     refine tkX 40 ?_ rfl ?_ ?_
     rotate_left
     ·intro w' hSw; (try dsimp only at hSw); go_simp; try with_reducible rfl
     try simp only [ZP, ZA, ZB, ZC, ZD, ZE, ZF]
     refine tkX 41 ?_ rfl ?_ ?_
     rotate_left
     ·intro w' hSw; (try dsimp only at hSw); go_simp; try with_reducible rfl
     try simp only [ZP, ZA, ZB, ZC, ZD, ZE, ZF]
     refine wpAnyH_done (by as_aux_lemma => kernel_rfl) ?_ _
     have HE := hide hHeld
     clear hHeld
     go_wp2_with fail
     go_roundg (17 - (i + 1))
     case rel => exact ⟨i + 1, by go_num, by omega, by omega, HE.out⟩
     case measure => omega
    refine ZS rfl (fun K hK => ?_) ZN
    go_simp
    obtain ⟨V16, hV16⟩ : ∃ y, V12.alloc (.cells #[ZI ZQ 3, ZI ZQ 0, ZI ZQ 0, ZI ZQ 1000, ZI ZQ 0, ZI ZQ 0, ZI ZQ 0, .bool false, .bool false, .bool false, .bool false, ZI ZQ 0, .slice none 0 0, .bool false, ZI ZQ 0, ZI ZQ 0, ZI ZQ 0, .slice none 0 0, ZI ZQ 0, ZI ZQ 0, ZI ZQ kind, ZI ZQ rt, ZI ZQ rsp, ZI ZQ rsize, ZI ZQ osp, ZI ZQ onum, ZI ZQ osize, .bool oel, .bool ofl, .bool opr, .bool oect, ZI ZQ delay, .slice ra rn rc, .bool marked, ZI ZQ e0, ZI ZQ e1, ZI ZQ e2, .slice ea en ec, ZI ZQ err, ZI ZQ smooth, ZI ZQ 1, ZI ZQ 0, ZI ZQ 0, ZI ZQ 0, ZI ZQ 0, ZI ZQ 0, ZI ZQ 1200, .bool true, .bool true, .bool false, .bool false, ZI ZQ 0, .slice none 0 0, .bool false, ZI ZQ 0, ZI ZQ 0, ZI ZQ 0, .slice none 0 0, ZI ZQ 0, ZI ZQ 0, ZI ZQ 4, ZI ZQ 0, ZI ZQ 0, ZI ZQ 0, ZI ZQ 0, ZI ZQ 0, ZI ZQ 0, .bool false, .bool false, .bool false, .bool false, ZI ZQ 0, .slice none 0 0, .bool false, ZI ZQ 0, ZI ZQ 0, ZI ZQ 0, .slice (some ⟨a3, 0, none⟩) 1 1, ZI ZQ 0, ZI ZQ 0, ZI ZQ 1, ZI ZQ 0, ZI ZQ 0, ZI ZQ 0, ZI ZQ 0, ZI ZQ 1, ZI ZQ 9, .bool true, .bool true, .bool true, .bool false, ZI ZQ 0, .slice none 0 0, .bool false, ZI ZQ 0, ZI ZQ 0, ZI ZQ 0, .slice none 0 0, ZI ZQ 0, ZI ZQ 0, ZI ZQ 1, ZI ZQ 0, ZI ZQ 0, ZI ZQ 0, ZI ZQ 0, ZI ZQ 1, ZI ZQ 9, .bool true, .bool true, .bool true, .bool false, ZI ZQ 0, .slice none 0 0, .bool false, ZI ZQ 0, ZI ZQ 0, ZI ZQ 0, .slice none 0 0, ZI ZQ 0, ZI ZQ 0, ZI ZQ kind, ZI ZQ rt, ZI ZQ rsp, ZI ZQ rsize, ZI ZQ osp, ZI ZQ onum, ZI ZQ osize, .bool oel, .bool ofl, .bool opr, .bool oect, ZI ZQ delay, .slice ra rn rc, .bool marked, ZI ZQ e0, ZI ZQ e1, ZI ZQ e2, .slice ea en ec, ZI ZQ err, ZI ZQ smooth] 36) = y := ⟨_, rfl⟩
    have hg16 : Blk V16 V12.heap.size 36 ((twoL a3 ⟨⟨kind, rt, rsp, rsize, ⟨osp, onum, osize, oel, ofl, opr, oect⟩, delay, ra, rn, rc, marked, e0, e1, e2, ea, en, ec, err, smooth⟩, es, rs⟩).flatMap rrL).toArray := by rw [← hV16]; exact Blk.new _ _ _
    have hb16 : Below V12.heap.size V12 V16 := by rw [← hV16]; exact (Below.refl _ _).alloc (Nat.le_refl _) _
    have hh16 := KhSt.later hHeld hb16
    obtain ⟨g16, hG16⟩ : ∃ y, V12.heap.size = y := ⟨_, rfl⟩
    rw [hG16] at hg16
    rw [hV16, hG16]
    clear hV16 hG16 hb16
    refine hK.out _ _ (hh16) (fun hHeld => ?_)
    clear hK K
    try simp only [ZP, ZA, ZB, ZC, ZD, ZE, ZF]
    refine tkY [23] ?_
    refine ZS rfl (fun K hK => ?_) ZN
    go_simp
    go_at_call 6
    with_reducible refine (HSV.out _ _).mono ?_
    rintro y17 V17 ⟨rfl, hb17⟩
    refine hK.out _ _ (KhSt.later hHeld hb17) (fun hHeld => ?_)
    clear hK K
    try simp only [ZP, ZA, ZB, ZC, ZD, ZE, ZF]
    have hg16 : Blk V17 g16 36 ((twoL a3 ⟨⟨kind, rt, rsp, rsize, ⟨osp, onum, osize, oel, ofl, opr, oect⟩, delay, ra, rn, rc, marked, e0, e1, e2, ea, en, ec, err, smooth⟩, es, rs⟩).flatMap rrL).toArray := (hb17.block _ hg16.lt).trans hg16
    refine tkY [39] ?_
    refine ZS rfl (fun K hK => ?_) ZN
    go_simp
    go_at_call 11
    with_reducible refine (two_call hHeld HX.out _ (by first | rfl | exact PARtwo_call i | (simp; omega)) _ hg16 _).mono ?_
    rintro y18 V18 ⟨rfl, hb18⟩
    refine hK.out _ _ (KhSt.later hHeld hb18) (fun hHeld => ?_)
    clear hK K
    try simp only [ZP, ZA, ZB, ZC, ZD, ZE, ZF]
    refine tkX 40 ?_ rfl ?_ ?_
    rotate_left
    ·intro w' hSw; (try dsimp only at hSw); go_simp; try with_reducible rfl
    try simp only [ZP, ZA, ZB, ZC, ZD, ZE, ZF]
    refine tkX 41 ?_ rfl ?_ ?_
    rotate_left
    ·intro w' hSw; (try dsimp only at hSw); go_simp; try with_reducible rfl
    try simp only [ZP, ZA, ZB, ZC, ZD, ZE, ZF]
    refine wpAnyH_done (by as_aux_lemma => kernel_rfl) ?_ _
    have HE := hide hHeld
    clear hHeld
    go_wp2_with fail
    go_roundg (17 - (i + 1))
    case rel => exact ⟨i + 1, by go_num, by omega, by omega, HE.out⟩
    case measure => omega

   ·obtain rfl : i = 17 := by omega
    have HK := hide hk
    clear hk hi hkx hlt
    go_upto_region 13 with (fail)
    have hbw0 : Below wr.heap.size wr wr := Below.refl _ _
    go_wp2_with fail
    rename World => wo
    obtain ⟨B0, hB0⟩ : ∃ y, wo.heap.size = y := ⟨_, rfl⟩
    rw [hB0] at hbw0
    have HB0 := hide hB0
    have HW0 := hide hbw0
    clear hB0 hbw0
    go_loopg [8, 9] 12 (fun kx s8 s9 wq => ∃ (i : Nat) (A : Option Addr) (c : Nat), s8 = .slice A i c ∧ s9 = ZI ZQ i ∧ i ≤ 12 ∧ 12 - i ≤ kx ∧ wq.ownsRow B0 36 20 (.slice A i c) i ((manyL i).flatMap rrL) ∧ Below B0 wo wq)
    case atStart => exact ⟨0, none, 0, rfl, rfl, by omega, by omega, own_nil _ _ _ _, HW0.out⟩
    case round =>
     clear HW0
     obtain ⟨i, A, c, rfl, rfl, hi, hkx, hown, hbw⟩ := hrel
     by_cases hlt : i < 12
     ·have hin : (i : Int) < 12 := by omega
      have HROW := hide (many_next i)
      obtain ⟨xs, hxs⟩ : ∃ z, (manyL i).flatMap rrL = z := ⟨_, rfl⟩
      rw [hxs] at hown HROW
      have HOWN := hide hown
      have HBW := hide hbw
      clear hown hbw hxs
      go_wp2_with fail
      with_reducible refine (HSD.out i 0 _).mono ?_
      rintro y3 V ⟨rfl, hb3⟩
      have hz : B0 ≤ wr.heap.size := by have := HBW.out.size; have := HB0.out; omega
      have ho := own_below HOWN.out hb3
      have hbv := HBW.out.trans (hb3.mono hz)
      have hzv : B0 ≤ V.heap.size := by have := hb3.size; omega
      have HBV := hide hbv
      obtain ⟨i0, hi0, hz0, hz1, hz2⟩ := info_parts jrow_info
      clear HOWN HBW hb3 hbv
      go_wp2_with (at_builtin; refine wpList_append_any _ rfl (.tmp 116) (.tmp 119) _ rfl B0 36 i0 _ 20 168 Try.underlying26 hi0 hz0 hz1 hz2 rfl (by decide) (.slice A i c) i xs rfl (by exact ho.alloc _) (V.heap.size + 1) (some ⟨V.heap.size, 0, none⟩) 1 1 [ZI ZQ 1, ZI ZQ 0, ZI ZQ 0, ZI ZQ 0, ZI ZQ 0, ZI ZQ i, ZI ZQ 1200, .bool true, .bool true, .bool false, .bool false, ZI ZQ 0, .slice none 0 0, .bool false, ZI ZQ 0, ZI ZQ 0, ZI ZQ 0, .slice none 0 0, ZI ZQ 0, ZI ZQ 0] rfl (by exact reads_lit (blk_new_at (by simp)) (by simp) rfl) (by simp [Value.oneCell']) (by unfold maxLen; omega) (by omega) (by simp; omega) ?_; intro v8 w8 hown8 hg8 hat8; obtain ⟨g8, cap8, rfl⟩ := own_form hown8)
      go_roundg (12 - (i + 1))
      case rel => exact ⟨i + 1, _, _, rfl, by go_num, by omega, by omega, by rw [HROW.out]; exact hown8, Below.grown (HBV.out.alloc hzv _) hg8 (by simp; omega) (fun g e => (ho.lt g e).1)⟩
      case measure => omega
     ·obtain rfl : i = 12 := by omega
      have hk2 := HK.out.later (by rw [HB0.out]; exact hbw)
      have hL := lie_own rrL_length hown rfl
      have HMN : Hid (MnSt w wr A X1 (X1 + 1) a1 a2 X3 X4 (a3 + 1) a3 N) := ⟨hk2, hL⟩
      clear HK hown hbw hk2 hL hi hkx hlt HB0
      go_upto_region 17 with (fail)
      go_cut [10, 11] from 121 to 129 (fun s10 s11 wx => ∃ F, s10 = .pointer (some ⟨F, 0, none⟩) ∧ s11 = ZI ZQ 0 ∧ Blk wx F 38 #[ZI ZQ 2, ZI ZQ 7] ∧ MnSt w wx A X1 (X1 + 1) a1 a2 X3 X4 (a3 + 1) a3 N)
      case first =>
       refine wp_region_held_drew (S := (fun w' => Below wr.drew.heap.size wr.drew w')) (by as_aux_lemma => kernel_rfl) (Below.refl _ _) (fun hHeld => ?_)
       have hm1 : MnSt w wr.drew A X1 (X1 + 1) a1 a2 X3 X4 (a3 + 1) a3 N := HMN.out.later (below_drewN (Below.refl _ _) 1)
       obtain ⟨Wd, hWd⟩ : ∃ y, wr.drew = y := ⟨_, rfl⟩
       rw [hWd] at hm1 hHeld
       rw [hWd]
       clear hWd HMN
       have HMN := hide hm1
       refine tkX 1 ?_ rfl ?_ ?_
       rotate_left
       ·intro w' hSw; (try dsimp only at hSw); go_simp; try with_reducible rfl
       try simp only [ZP, ZA, ZB, ZC, ZD, ZE, ZF]
       refine wpAnyH_take (i := 2) (v := .agg #[ZI ZQ 1, ZI ZQ 0, ZI ZQ 0, ZI ZQ 0, ZI ZQ 0, ZI ZQ 0, ZI ZQ 1200, .bool true, .bool true, .bool false, .bool false, ZI ZQ 0, .slice none 0 0, .bool false, ZI ZQ 0, ZI ZQ 0, ZI ZQ 0, .slice none 0 0, ZI ZQ 0, ZI ZQ 0]) rfl (by as_aux_lemma => kernel_rfl) (by as_aux_lemma => kernel_rfl) (by as_aux_lemma => kernel_rfl) (fun _ _ _ h => h) (Or.inl ⟨by rfl, fun w' hw => exec_load_row 36 (.tmp 1) rfl X1 rfl 36 #[ZI ZQ 1, ZI ZQ 0, ZI ZQ 0, ZI ZQ 0, ZI ZQ 0, ZI ZQ 0, ZI ZQ 1200, .bool true, .bool true, .bool false, .bool false, ZI ZQ 0, .slice none 0 0, .bool false, ZI ZQ 0, ZI ZQ 0, ZI ZQ 0, .slice none 0 0, ZI ZQ 0, ZI ZQ 0] (0, 0) _ (HMN.out.later hw).kh.s Try.underlying36 rfl row_size⟩) (by assumption) ?_
       try simp only [ZP, ZA, ZB, ZC, ZD, ZE, ZF]
       refine tkY [0, 9] ?_
       refine ZS rfl (fun K hK => ?_) ?_
       ·skip
        go_simp
        go_at_call 6
        with_reducible refine (HSV.out _ _).mono ?_
        rintro y19 V19 ⟨rfl, hb19⟩
        have hd20 : Below Wd.heap.size Wd V19 := hHeld.trans (hb19.mono hHeld.size)
        refine hK.out _ _ (hd20) (fun hHeld => ?_)
        clear hK K
        try simp only [ZP, ZA, ZB, ZC, ZD, ZE, ZF]
        refine tkY [3, 9] ?_
        refine ZS rfl (fun K hK => ?_) ?_
        ·skip
         go_simp
         go_at_call 9
         with_reducible refine (HSD.out 1 0 _).mono ?_
         rintro y21 V21 ⟨rfl, hb21⟩
         have hd22 : Below Wd.heap.size Wd V21 := hd20.trans (hb21.mono hd20.size)
         refine hK.out _ _ (hd22) (fun hHeld => ?_)
         clear hK K
         try simp only [ZP, ZA, ZB, ZC, ZD, ZE, ZF]
         refine tkY [4, 9] ?_
         refine ZS rfl (fun K hK => ?_) ?_
         ·skip
          go_simp
          obtain ⟨V23, hV23⟩ : ∃ y, V21.alloc (.cells #[ZI ZQ 3, ZI ZQ 0, ZI ZQ 0, ZI ZQ 400, ZI ZQ 0, ZI ZQ 0, ZI ZQ 0, .bool false, .bool false, .bool false, .bool false, ZI ZQ 0, .slice none 0 0, .bool false, ZI ZQ 0, ZI ZQ 0, ZI ZQ 0, .slice none 0 0, ZI ZQ 0, ZI ZQ 0, ZI ZQ 1, ZI ZQ 0, ZI ZQ 0, ZI ZQ 0, ZI ZQ 0, ZI ZQ 0, ZI ZQ 1200, .bool true, .bool true, .bool false, .bool false, ZI ZQ 0, .slice none 0 0, .bool false, ZI ZQ 0, ZI ZQ 0, ZI ZQ 0, .slice none 0 0, ZI ZQ 0, ZI ZQ 0, ZI ZQ 1, ZI ZQ 0, ZI ZQ 0, ZI ZQ 0, ZI ZQ 0, ZI ZQ 1, ZI ZQ 1200, .bool true, .bool true, .bool false, .bool false, ZI ZQ 0, .slice none 0 0, .bool false, ZI ZQ 0, ZI ZQ 0, ZI ZQ 0, .slice none 0 0, ZI ZQ 0, ZI ZQ 0] 36) = y := ⟨_, rfl⟩
          have hn23 : Blk V23 V21.heap.size 36 (servL.flatMap rrL).toArray := by rw [← hV23]; exact Blk.new _ _ _
          have hb23 : Below V21.heap.size V21 V23 := by rw [← hV23]; exact (Below.refl _ _).alloc (Nat.le_refl _) _
          rw [hV23]
          have hd24 : Below Wd.heap.size Wd V23 := hd22.trans (hb23.mono hd22.size)
          obtain ⟨g23, hG23⟩ : ∃ y, V21.heap.size = y := ⟨_, rfl⟩
          rw [hG23] at hn23
          rw [hG23]
          clear hV23 hG23
          refine hK.out _ _ (hd24) (fun hHeld => ?_)
          clear hK K
          try simp only [ZP, ZA, ZB, ZC, ZD, ZE, ZF]
          refine tkY [5, 9] ?_
          refine ZS rfl (fun K hK => ?_) ?_
          ·skip
           go_simp
           go_at_call 7
           with_reducible refine (serv_call _ hn23).mono ?_
           rintro y25 V25 ⟨rfl, hb25⟩
           have hd26 : Below Wd.heap.size Wd V25 := hd24.trans (hb25.mono hd24.size)
           have bk27 : Blk V25 g23 36 (servL.flatMap rrL).toArray := (hb25.block _ hn23.lt).trans hn23
           refine hK.out _ _ (hd26) (fun hHeld => ?_)
           clear hK K
           try simp only [ZP, ZA, ZB, ZC, ZD, ZE, ZF]
           refine tkX 6 ?_ rfl ?_ ?_
           rotate_left
           ·intro w' hSw; (try dsimp only at hSw); go_simp; try with_reducible rfl
           try simp only [ZP, ZA, ZB, ZC, ZD, ZE, ZF]
           refine tkX 7 ?_ rfl ?_ ?_
           rotate_left
           ·intro w' hSw; (try dsimp only at hSw); go_simp; try with_reducible rfl
           try simp only [ZP, ZA, ZB, ZC, ZD, ZE, ZF]
           refine tkX 8 ?_ rfl ?_ ?_
           rotate_left
           ·intro w' hSw; (try dsimp only at hSw); go_simp; try with_reducible rfl
           try simp only [ZP, ZA, ZB, ZC, ZD, ZE, ZF]
           refine tkY [9] ?_
           refine ZS rfl (fun K hK => ?_) ZN
           go_simp
           have hn28 := Blk.new V25 38 #[ZI ZQ 0, ZI ZQ 0]
           have hb28 : Below V25.heap.size V25 (V25.alloc (.cells #[ZI ZQ 0, ZI ZQ 0] 38)) := (Below.refl _ _).alloc (Nat.le_refl _) _
           obtain ⟨V28, hV28⟩ : ∃ y, V25.alloc (.cells #[ZI ZQ 0, ZI ZQ 0] 38) = y := ⟨_, rfl⟩
           rw [hV28] at hn28 hb28
           rw [hV28]
           have hd29 : Below Wd.heap.size Wd V28 := hd26.trans (hb28.mono hd26.size)
           have bk30 : Blk V28 g23 36 (servL.flatMap rrL).toArray := (hb28.block _ bk27.lt).trans bk27
           obtain ⟨F28, hF28⟩ : ∃ y, V25.heap.size = y := ⟨_, rfl⟩
           have hge28 : Wd.heap.size ≤ F28 := by rw [← hF28]; exact hd26.size
           rw [hF28] at hn28
           rw [hF28]
           clear hV28 hF28
           refine hK.out _ _ (hd29) (fun hHeld => ?_)
           clear hK K
           try simp only [ZP, ZA, ZB, ZC, ZD, ZE, ZF]
           refine tkY [10] ?_
           refine ZS rfl (fun K hK => ?_) ZN
           have c031 := hn28.cell 0
           have c131 := hn28.cell 1
           have f031 := hn28.frozen 0
           have f131 := hn28.frozen 1
           simp only [ZG, ZH, ZJ] at c031 c131
           go_simp
           have hs31 : Below Wd.heap.size Wd ((V28.setCell ⟨F28, 0, none⟩ (ZI ZQ 2)).setCell ⟨F28, 1, none⟩ (ZI ZQ 7)) := (hd29.setCell (p := ⟨F28, 0, none⟩) hge28 _).setCell (p := ⟨F28, 1, none⟩) hge28 _
           have hq31 : Blk ((V28.setCell ⟨F28, 0, none⟩ (ZI ZQ 2)).setCell ⟨F28, 1, none⟩ (ZI ZQ 7)) F28 38 #[ZI ZQ 2, ZI ZQ 7] := ((hn28.set 0 _).set 1 _).eq rfl
           refine hK.out _ _ (hs31) (fun hHeld => ?_)
           clear hK K
           try simp only [ZP, ZA, ZB, ZC, ZD, ZE, ZF]
           refine tkX 11 ?_ rfl ?_ ?_
           rotate_left
           ·intro w' hSw; (try dsimp only at hSw); go_simp; try with_reducible rfl
           try simp only [ZP, ZA, ZB, ZC, ZD, ZE, ZF]
           refine wpAnyH_done (by as_aux_lemma => kernel_rfl) ?_ _
           go_wp2_with fail
           go_meet
           exact ⟨F28, rfl, rfl, hq31, HMN.out.later hs31⟩
          refine ZS rfl (fun K hK => ?_) ZN
          go_simp
          have hn32 := Blk.new V23 38 #[ZI ZQ 0, ZI ZQ 0]
          have hb32 : Below V23.heap.size V23 (V23.alloc (.cells #[ZI ZQ 0, ZI ZQ 0] 38)) := (Below.refl _ _).alloc (Nat.le_refl _) _
          obtain ⟨V32, hV32⟩ : ∃ y, V23.alloc (.cells #[ZI ZQ 0, ZI ZQ 0] 38) = y := ⟨_, rfl⟩
          rw [hV32] at hn32 hb32
          rw [hV32]
          have hd33 : Below Wd.heap.size Wd V32 := hd24.trans (hb32.mono hd24.size)
          have bk34 : Blk V32 g23 36 (servL.flatMap rrL).toArray := (hb32.block _ hn23.lt).trans hn23
          obtain ⟨F32, hF32⟩ : ∃ y, V23.heap.size = y := ⟨_, rfl⟩
          have hge32 : Wd.heap.size ≤ F32 := by rw [← hF32]; exact hd24.size
          rw [hF32] at hn32
          rw [hF32]
          clear hV32 hF32
          refine hK.out _ _ (hd33) (fun hHeld => ?_)
          clear hK K
          try simp only [ZP, ZA, ZB, ZC, ZD, ZE, ZF]
          refine tkY [5] ?_
          refine ZS rfl (fun K hK => ?_) ZN
          go_simp
          go_at_call 7
          with_reducible refine (serv_call _ bk34).mono ?_
          rintro y35 V35 ⟨rfl, hb35⟩
          have hd36 : Below Wd.heap.size Wd V35 := hd33.trans (hb35.mono hd33.size)
          have bk37 : Blk V35 g23 36 (servL.flatMap rrL).toArray := (hb35.block _ bk34.lt).trans bk34
          have bk38 : Blk V35 F32 38 #[ZI ZQ 0, ZI ZQ 0] := (hb35.block _ hn32.lt).trans hn32
          refine hK.out _ _ (hd36) (fun hHeld => ?_)
          clear hK K
          try simp only [ZP, ZA, ZB, ZC, ZD, ZE, ZF]
          refine tkX 6 ?_ rfl ?_ ?_
          rotate_left
          ·intro w' hSw; (try dsimp only at hSw); go_simp; try with_reducible rfl
          try simp only [ZP, ZA, ZB, ZC, ZD, ZE, ZF]
          refine tkX 7 ?_ rfl ?_ ?_
          rotate_left
          ·intro w' hSw; (try dsimp only at hSw); go_simp; try with_reducible rfl
          try simp only [ZP, ZA, ZB, ZC, ZD, ZE, ZF]
          refine tkX 8 ?_ rfl ?_ ?_
          rotate_left
          ·intro w' hSw; (try dsimp only at hSw); go_simp; try with_reducible rfl
          try simp only [ZP, ZA, ZB, ZC, ZD, ZE, ZF]
          refine tkY [10] ?_
          refine ZS rfl (fun K hK => ?_) ZN
          have c039 := bk38.cell 0
          have c139 := bk38.cell 1
          have f039 := bk38.frozen 0
          have f139 := bk38.frozen 1
          simp only [ZG, ZH, ZJ] at c039 c139
          go_simp
          have hs39 : Below Wd.heap.size Wd ((V35.setCell ⟨F32, 0, none⟩ (ZI ZQ 2)).setCell ⟨F32, 1, none⟩ (ZI ZQ 7)) := (hd36.setCell (p := ⟨F32, 0, none⟩) hge32 _).setCell (p := ⟨F32, 1, none⟩) hge32 _
          have hq39 : Blk ((V35.setCell ⟨F32, 0, none⟩ (ZI ZQ 2)).setCell ⟨F32, 1, none⟩ (ZI ZQ 7)) F32 38 #[ZI ZQ 2, ZI ZQ 7] := ((bk38.set 0 _).set 1 _).eq rfl
          refine hK.out _ _ (hs39) (fun hHeld => ?_)
          clear hK K
          try simp only [ZP, ZA, ZB, ZC, ZD, ZE, ZF]
          refine tkX 11 ?_ rfl ?_ ?_
          rotate_left
          ·intro w' hSw; (try dsimp only at hSw); go_simp; try with_reducible rfl
          try simp only [ZP, ZA, ZB, ZC, ZD, ZE, ZF]
          refine wpAnyH_done (by as_aux_lemma => kernel_rfl) ?_ _
          go_wp2_with fail
          go_meet
          exact ⟨F32, rfl, rfl, hq39, HMN.out.later hs39⟩
         refine ZS rfl (fun K hK => ?_) ZN
         go_simp
         have hn40 := Blk.new V21 38 #[ZI ZQ 0, ZI ZQ 0]
         have hb40 : Below V21.heap.size V21 (V21.alloc (.cells #[ZI ZQ 0, ZI ZQ 0] 38)) := (Below.refl _ _).alloc (Nat.le_refl _) _
         obtain ⟨V40, hV40⟩ : ∃ y, V21.alloc (.cells #[ZI ZQ 0, ZI ZQ 0] 38) = y := ⟨_, rfl⟩
         rw [hV40] at hn40 hb40
         rw [hV40]
         have hd41 : Below Wd.heap.size Wd V40 := hd22.trans (hb40.mono hd22.size)
         obtain ⟨F40, hF40⟩ : ∃ y, V21.heap.size = y := ⟨_, rfl⟩
         have hge40 : Wd.heap.size ≤ F40 := by rw [← hF40]; exact hd22.size
         rw [hF40] at hn40
         rw [hF40]
         clear hV40 hF40
         refine hK.out _ _ (hd41) (fun hHeld => ?_)
         clear hK K
         try simp only [ZP, ZA, ZB, ZC, ZD, ZE, ZF]
         refine tkY [4] ?_
         refine ZS rfl (fun K hK => ?_) ZN
         go_simp
         obtain ⟨V42, hV42⟩ : ∃ y, V40.alloc (.cells #[ZI ZQ 3, ZI ZQ 0, ZI ZQ 0, ZI ZQ 400, ZI ZQ 0, ZI ZQ 0, ZI ZQ 0, .bool false, .bool false, .bool false, .bool false, ZI ZQ 0, .slice none 0 0, .bool false, ZI ZQ 0, ZI ZQ 0, ZI ZQ 0, .slice none 0 0, ZI ZQ 0, ZI ZQ 0, ZI ZQ 1, ZI ZQ 0, ZI ZQ 0, ZI ZQ 0, ZI ZQ 0, ZI ZQ 0, ZI ZQ 1200, .bool true, .bool true, .bool false, .bool false, ZI ZQ 0, .slice none 0 0, .bool false, ZI ZQ 0, ZI ZQ 0, ZI ZQ 0, .slice none 0 0, ZI ZQ 0, ZI ZQ 0, ZI ZQ 1, ZI ZQ 0, ZI ZQ 0, ZI ZQ 0, ZI ZQ 0, ZI ZQ 1, ZI ZQ 1200, .bool true, .bool true, .bool false, .bool false, ZI ZQ 0, .slice none 0 0, .bool false, ZI ZQ 0, ZI ZQ 0, ZI ZQ 0, .slice none 0 0, ZI ZQ 0, ZI ZQ 0] 36) = y := ⟨_, rfl⟩
         have hn42 : Blk V42 V40.heap.size 36 (servL.flatMap rrL).toArray := by rw [← hV42]; exact Blk.new _ _ _
         have hb42 : Below V40.heap.size V40 V42 := by rw [← hV42]; exact (Below.refl _ _).alloc (Nat.le_refl _) _
         rw [hV42]
         have hd43 : Below Wd.heap.size Wd V42 := hd41.trans (hb42.mono hd41.size)
         have bk44 : Blk V42 F40 38 #[ZI ZQ 0, ZI ZQ 0] := (hb42.block _ hn40.lt).trans hn40
         obtain ⟨g42, hG42⟩ : ∃ y, V40.heap.size = y := ⟨_, rfl⟩
         rw [hG42] at hn42
         rw [hG42]
         clear hV42 hG42
         refine hK.out _ _ (hd43) (fun hHeld => ?_)
         clear hK K
         try simp only [ZP, ZA, ZB, ZC, ZD, ZE, ZF]
         refine tkY [5] ?_
         refine ZS rfl (fun K hK => ?_) ZN
         go_simp
         go_at_call 7
         with_reducible refine (serv_call _ hn42).mono ?_
         rintro y45 V45 ⟨rfl, hb45⟩
         have hd46 : Below Wd.heap.size Wd V45 := hd43.trans (hb45.mono hd43.size)
         have bk47 : Blk V45 F40 38 #[ZI ZQ 0, ZI ZQ 0] := (hb45.block _ bk44.lt).trans bk44
         have bk48 : Blk V45 g42 36 (servL.flatMap rrL).toArray := (hb45.block _ hn42.lt).trans hn42
         refine hK.out _ _ (hd46) (fun hHeld => ?_)
         clear hK K
         try simp only [ZP, ZA, ZB, ZC, ZD, ZE, ZF]
         refine tkX 6 ?_ rfl ?_ ?_
         rotate_left
         ·intro w' hSw; (try dsimp only at hSw); go_simp; try with_reducible rfl
         try simp only [ZP, ZA, ZB, ZC, ZD, ZE, ZF]
         refine tkX 7 ?_ rfl ?_ ?_
         rotate_left
         ·intro w' hSw; (try dsimp only at hSw); go_simp; try with_reducible rfl
         try simp only [ZP, ZA, ZB, ZC, ZD, ZE, ZF]
         refine tkX 8 ?_ rfl ?_ ?_
         rotate_left
         ·intro w' hSw; (try dsimp only at hSw); go_simp; try with_reducible rfl
         try simp only [ZP, ZA, ZB, ZC, ZD, ZE, ZF]
         refine tkY [10] ?_
         refine ZS rfl (fun K hK => ?_) ZN
         have c049 := bk47.cell 0
         have c149 := bk47.cell 1
         have f049 := bk47.frozen 0
         have f149 := bk47.frozen 1
         simp only [ZG, ZH, ZJ] at c049 c149
         go_simp
         have hs49 : Below Wd.heap.size Wd ((V45.setCell ⟨F40, 0, none⟩ (ZI ZQ 2)).setCell ⟨F40, 1, none⟩ (ZI ZQ 7)) := (hd46.setCell (p := ⟨F40, 0, none⟩) hge40 _).setCell (p := ⟨F40, 1, none⟩) hge40 _
         have hq49 : Blk ((V45.setCell ⟨F40, 0, none⟩ (ZI ZQ 2)).setCell ⟨F40, 1, none⟩ (ZI ZQ 7)) F40 38 #[ZI ZQ 2, ZI ZQ 7] := ((bk47.set 0 _).set 1 _).eq rfl
         refine hK.out _ _ (hs49) (fun hHeld => ?_)
         clear hK K
         try simp only [ZP, ZA, ZB, ZC, ZD, ZE, ZF]
         refine tkX 11 ?_ rfl ?_ ?_
         rotate_left
         ·intro w' hSw; (try dsimp only at hSw); go_simp; try with_reducible rfl
         try simp only [ZP, ZA, ZB, ZC, ZD, ZE, ZF]
         refine wpAnyH_done (by as_aux_lemma => kernel_rfl) ?_ _
         go_wp2_with fail
         go_meet
         exact ⟨F40, rfl, rfl, hq49, HMN.out.later hs49⟩
        refine ZS rfl (fun K hK => ?_) ZN
        go_simp
        have hn50 := Blk.new V19 38 #[ZI ZQ 0, ZI ZQ 0]
        have hb50 : Below V19.heap.size V19 (V19.alloc (.cells #[ZI ZQ 0, ZI ZQ 0] 38)) := (Below.refl _ _).alloc (Nat.le_refl _) _
        obtain ⟨V50, hV50⟩ : ∃ y, V19.alloc (.cells #[ZI ZQ 0, ZI ZQ 0] 38) = y := ⟨_, rfl⟩
        rw [hV50] at hn50 hb50
        rw [hV50]
        have hd51 : Below Wd.heap.size Wd V50 := hd20.trans (hb50.mono hd20.size)
        obtain ⟨F50, hF50⟩ : ∃ y, V19.heap.size = y := ⟨_, rfl⟩
        have hge50 : Wd.heap.size ≤ F50 := by rw [← hF50]; exact hd20.size
        rw [hF50] at hn50
        rw [hF50]
        clear hV50 hF50
        refine hK.out _ _ (hd51) (fun hHeld => ?_)
        clear hK K
        try simp only [ZP, ZA, ZB, ZC, ZD, ZE, ZF]
        refine tkY [3] ?_
        refine ZS rfl (fun K hK => ?_) ZN
        go_simp
        go_at_call 9
        with_reducible refine (HSD.out 1 0 _).mono ?_
        rintro y52 V52 ⟨rfl, hb52⟩
        have hd53 : Below Wd.heap.size Wd V52 := hd51.trans (hb52.mono hd51.size)
        have bk54 : Blk V52 F50 38 #[ZI ZQ 0, ZI ZQ 0] := (hb52.block _ hn50.lt).trans hn50
        refine hK.out _ _ (hd53) (fun hHeld => ?_)
        clear hK K
        try simp only [ZP, ZA, ZB, ZC, ZD, ZE, ZF]
        refine tkY [4] ?_
        refine ZS rfl (fun K hK => ?_) ZN
        go_simp
        obtain ⟨V55, hV55⟩ : ∃ y, V52.alloc (.cells #[ZI ZQ 3, ZI ZQ 0, ZI ZQ 0, ZI ZQ 400, ZI ZQ 0, ZI ZQ 0, ZI ZQ 0, .bool false, .bool false, .bool false, .bool false, ZI ZQ 0, .slice none 0 0, .bool false, ZI ZQ 0, ZI ZQ 0, ZI ZQ 0, .slice none 0 0, ZI ZQ 0, ZI ZQ 0, ZI ZQ 1, ZI ZQ 0, ZI ZQ 0, ZI ZQ 0, ZI ZQ 0, ZI ZQ 0, ZI ZQ 1200, .bool true, .bool true, .bool false, .bool false, ZI ZQ 0, .slice none 0 0, .bool false, ZI ZQ 0, ZI ZQ 0, ZI ZQ 0, .slice none 0 0, ZI ZQ 0, ZI ZQ 0, ZI ZQ 1, ZI ZQ 0, ZI ZQ 0, ZI ZQ 0, ZI ZQ 0, ZI ZQ 1, ZI ZQ 1200, .bool true, .bool true, .bool false, .bool false, ZI ZQ 0, .slice none 0 0, .bool false, ZI ZQ 0, ZI ZQ 0, ZI ZQ 0, .slice none 0 0, ZI ZQ 0, ZI ZQ 0] 36) = y := ⟨_, rfl⟩
        have hn55 : Blk V55 V52.heap.size 36 (servL.flatMap rrL).toArray := by rw [← hV55]; exact Blk.new _ _ _
        have hb55 : Below V52.heap.size V52 V55 := by rw [← hV55]; exact (Below.refl _ _).alloc (Nat.le_refl _) _
        rw [hV55]
        have hd56 : Below Wd.heap.size Wd V55 := hd53.trans (hb55.mono hd53.size)
        have bk57 : Blk V55 F50 38 #[ZI ZQ 0, ZI ZQ 0] := (hb55.block _ bk54.lt).trans bk54
        obtain ⟨g55, hG55⟩ : ∃ y, V52.heap.size = y := ⟨_, rfl⟩
        rw [hG55] at hn55
        rw [hG55]
        clear hV55 hG55
        refine hK.out _ _ (hd56) (fun hHeld => ?_)
        clear hK K
        try simp only [ZP, ZA, ZB, ZC, ZD, ZE, ZF]
        refine tkY [5] ?_
        refine ZS rfl (fun K hK => ?_) ZN
        go_simp
        go_at_call 7
        with_reducible refine (serv_call _ hn55).mono ?_
        rintro y58 V58 ⟨rfl, hb58⟩
        have hd59 : Below Wd.heap.size Wd V58 := hd56.trans (hb58.mono hd56.size)
        have bk60 : Blk V58 F50 38 #[ZI ZQ 0, ZI ZQ 0] := (hb58.block _ bk57.lt).trans bk57
        have bk61 : Blk V58 g55 36 (servL.flatMap rrL).toArray := (hb58.block _ hn55.lt).trans hn55
        refine hK.out _ _ (hd59) (fun hHeld => ?_)
        clear hK K
        try simp only [ZP, ZA, ZB, ZC, ZD, ZE, ZF]
        refine tkX 6 ?_ rfl ?_ ?_
        rotate_left
        ·intro w' hSw; (try dsimp only at hSw); go_simp; try with_reducible rfl
        try simp only [ZP, ZA, ZB, ZC, ZD, ZE, ZF]
        refine tkX 7 ?_ rfl ?_ ?_
        rotate_left
        ·intro w' hSw; (try dsimp only at hSw); go_simp; try with_reducible rfl
        try simp only [ZP, ZA, ZB, ZC, ZD, ZE, ZF]
        refine tkX 8 ?_ rfl ?_ ?_
        rotate_left
        ·intro w' hSw; (try dsimp only at hSw); go_simp; try with_reducible rfl
        try simp only [ZP, ZA, ZB, ZC, ZD, ZE, ZF]
        refine tkY [10] ?_
        refine ZS rfl (fun K hK => ?_) ZN
        have c062 := bk60.cell 0
        have c162 := bk60.cell 1
        have f062 := bk60.frozen 0
        have f162 := bk60.frozen 1
        simp only [ZG, ZH, ZJ] at c062 c162
        go_simp
        have hs62 : Below Wd.heap.size Wd ((V58.setCell ⟨F50, 0, none⟩ (ZI ZQ 2)).setCell ⟨F50, 1, none⟩ (ZI ZQ 7)) := (hd59.setCell (p := ⟨F50, 0, none⟩) hge50 _).setCell (p := ⟨F50, 1, none⟩) hge50 _
        have hq62 : Blk ((V58.setCell ⟨F50, 0, none⟩ (ZI ZQ 2)).setCell ⟨F50, 1, none⟩ (ZI ZQ 7)) F50 38 #[ZI ZQ 2, ZI ZQ 7] := ((bk60.set 0 _).set 1 _).eq rfl
        refine hK.out _ _ (hs62) (fun hHeld => ?_)
        clear hK K
        try simp only [ZP, ZA, ZB, ZC, ZD, ZE, ZF]
        refine tkX 11 ?_ rfl ?_ ?_
        rotate_left
        ·intro w' hSw; (try dsimp only at hSw); go_simp; try with_reducible rfl
        try simp only [ZP, ZA, ZB, ZC, ZD, ZE, ZF]
        refine wpAnyH_done (by as_aux_lemma => kernel_rfl) ?_ _
        go_wp2_with fail
        go_meet
        exact ⟨F50, rfl, rfl, hq62, HMN.out.later hs62⟩
       refine ZS rfl (fun K hK => ?_) ZN
       go_simp
       have hn63 := Blk.new Wd 38 #[ZI ZQ 0, ZI ZQ 0]
       have hb63 : Below Wd.heap.size Wd (Wd.alloc (.cells #[ZI ZQ 0, ZI ZQ 0] 38)) := (Below.refl _ _).alloc (Nat.le_refl _) _
       obtain ⟨V63, hV63⟩ : ∃ y, Wd.alloc (.cells #[ZI ZQ 0, ZI ZQ 0] 38) = y := ⟨_, rfl⟩
       rw [hV63] at hn63 hb63
       rw [hV63]
       have hd64 : Below Wd.heap.size Wd V63 := hHeld.trans (hb63.mono hHeld.size)
       obtain ⟨F63, hF63⟩ : ∃ y, Wd.heap.size = y := ⟨_, rfl⟩
       have hge63 : Wd.heap.size ≤ F63 := by rw [← hF63]; exact hHeld.size
       rw [hF63] at hn63
       rw [hF63]
       clear hV63 hF63
       refine hK.out _ _ (hd64) (fun hHeld => ?_)
       clear hK K
       try simp only [ZP, ZA, ZB, ZC, ZD, ZE, ZF]
       refine tkY [0] ?_
       refine ZS rfl (fun K hK => ?_) ZN
       go_simp
       go_at_call 6
       with_reducible refine (HSV.out _ _).mono ?_
       rintro y65 V65 ⟨rfl, hb65⟩
       have hd66 : Below Wd.heap.size Wd V65 := hd64.trans (hb65.mono hd64.size)
       have bk67 : Blk V65 F63 38 #[ZI ZQ 0, ZI ZQ 0] := (hb65.block _ hn63.lt).trans hn63
       refine hK.out _ _ (hd66) (fun hHeld => ?_)
       clear hK K
       try simp only [ZP, ZA, ZB, ZC, ZD, ZE, ZF]
       refine tkY [3] ?_
       refine ZS rfl (fun K hK => ?_) ZN
       go_simp
       go_at_call 9
       with_reducible refine (HSD.out 1 0 _).mono ?_
       rintro y68 V68 ⟨rfl, hb68⟩
       have hd69 : Below Wd.heap.size Wd V68 := hd66.trans (hb68.mono hd66.size)
       have bk70 : Blk V68 F63 38 #[ZI ZQ 0, ZI ZQ 0] := (hb68.block _ bk67.lt).trans bk67
       refine hK.out _ _ (hd69) (fun hHeld => ?_)
       clear hK K
       try simp only [ZP, ZA, ZB, ZC, ZD, ZE, ZF]
       refine tkY [4] ?_
       refine ZS rfl (fun K hK => ?_) ZN
       go_simp
       obtain ⟨V71, hV71⟩ : ∃ y, V68.alloc (.cells #[ZI ZQ 3, ZI ZQ 0, ZI ZQ 0, ZI ZQ 400, ZI ZQ 0, ZI ZQ 0, ZI ZQ 0, .bool false, .bool false, .bool false, .bool false, ZI ZQ 0, .slice none 0 0, .bool false, ZI ZQ 0, ZI ZQ 0, ZI ZQ 0, .slice none 0 0, ZI ZQ 0, ZI ZQ 0, ZI ZQ 1, ZI ZQ 0, ZI ZQ 0, ZI ZQ 0, ZI ZQ 0, ZI ZQ 0, ZI ZQ 1200, .bool true, .bool true, .bool false, .bool false, ZI ZQ 0, .slice none 0 0, .bool false, ZI ZQ 0, ZI ZQ 0, ZI ZQ 0, .slice none 0 0, ZI ZQ 0, ZI ZQ 0, ZI ZQ 1, ZI ZQ 0, ZI ZQ 0, ZI ZQ 0, ZI ZQ 0, ZI ZQ 1, ZI ZQ 1200, .bool true, .bool true, .bool false, .bool false, ZI ZQ 0, .slice none 0 0, .bool false, ZI ZQ 0, ZI ZQ 0, ZI ZQ 0, .slice none 0 0, ZI ZQ 0, ZI ZQ 0] 36) = y := ⟨_, rfl⟩
       have hn71 : Blk V71 V68.heap.size 36 (servL.flatMap rrL).toArray := by rw [← hV71]; exact Blk.new _ _ _
       have hb71 : Below V68.heap.size V68 V71 := by rw [← hV71]; exact (Below.refl _ _).alloc (Nat.le_refl _) _
       rw [hV71]
       have hd72 : Below Wd.heap.size Wd V71 := hd69.trans (hb71.mono hd69.size)
       have bk73 : Blk V71 F63 38 #[ZI ZQ 0, ZI ZQ 0] := (hb71.block _ bk70.lt).trans bk70
       obtain ⟨g71, hG71⟩ : ∃ y, V68.heap.size = y := ⟨_, rfl⟩
       rw [hG71] at hn71
       rw [hG71]
       clear hV71 hG71
       refine hK.out _ _ (hd72) (fun hHeld => ?_)
       clear hK K
       try simp only [ZP, ZA, ZB, ZC, ZD, ZE, ZF]
       refine tkY [5] ?_
       refine ZS rfl (fun K hK => ?_) ZN
       go_simp
       go_at_call 7
       with_reducible refine (serv_call _ hn71).mono ?_
       rintro y74 V74 ⟨rfl, hb74⟩
       have hd75 : Below Wd.heap.size Wd V74 := hd72.trans (hb74.mono hd72.size)
       have bk76 : Blk V74 F63 38 #[ZI ZQ 0, ZI ZQ 0] := (hb74.block _ bk73.lt).trans bk73
       have bk77 : Blk V74 g71 36 (servL.flatMap rrL).toArray := (hb74.block _ hn71.lt).trans hn71
       refine hK.out _ _ (hd75) (fun hHeld => ?_)
       clear hK K
       try simp only [ZP, ZA, ZB, ZC, ZD, ZE, ZF]
       refine tkX 6 ?_ rfl ?_ ?_
       rotate_left
       ·intro w' hSw; (try dsimp only at hSw); go_simp; try with_reducible rfl
       try simp only [ZP, ZA, ZB, ZC, ZD, ZE, ZF]
       refine tkX 7 ?_ rfl ?_ ?_
       rotate_left
       ·intro w' hSw; (try dsimp only at hSw); go_simp; try with_reducible rfl
       try simp only [ZP, ZA, ZB, ZC, ZD, ZE, ZF]
       refine tkX 8 ?_ rfl ?_ ?_
       rotate_left
       ·intro w' hSw; (try dsimp only at hSw); go_simp; try with_reducible rfl
       try simp only [ZP, ZA, ZB, ZC, ZD, ZE, ZF]
       refine tkY [10] ?_
       refine ZS rfl (fun K hK => ?_) ZN
       have c078 := bk76.cell 0
       have c178 := bk76.cell 1
       have f078 := bk76.frozen 0
       have f178 := bk76.frozen 1
       simp only [ZG, ZH, ZJ] at c078 c178
       go_simp
       have hs78 : Below Wd.heap.size Wd ((V74.setCell ⟨F63, 0, none⟩ (ZI ZQ 2)).setCell ⟨F63, 1, none⟩ (ZI ZQ 7)) := (hd75.setCell (p := ⟨F63, 0, none⟩) hge63 _).setCell (p := ⟨F63, 1, none⟩) hge63 _
       have hq78 : Blk ((V74.setCell ⟨F63, 0, none⟩ (ZI ZQ 2)).setCell ⟨F63, 1, none⟩ (ZI ZQ 7)) F63 38 #[ZI ZQ 2, ZI ZQ 7] := ((bk76.set 0 _).set 1 _).eq rfl
       refine hK.out _ _ (hs78) (fun hHeld => ?_)
       clear hK K
       try simp only [ZP, ZA, ZB, ZC, ZD, ZE, ZF]
       refine tkX 11 ?_ rfl ?_ ?_
       rotate_left
       ·intro w' hSw; (try dsimp only at hSw); go_simp; try with_reducible rfl
       try simp only [ZP, ZA, ZB, ZC, ZD, ZE, ZF]
       refine wpAnyH_done (by as_aux_lemma => kernel_rfl) ?_ _
       go_wp2_with fail
       go_meet
       exact ⟨F63, rfl, rfl, hq78, HMN.out.later hs78⟩
      case rest =>
       obtain ⟨F0, rfl, rfl, hf0, hmn⟩ := hcut
       have HF0 := hide hf0
       have HMN2 := hide hmn
       clear hf0 hmn HMN
       go_upto_region 18 with (fail)
       have HLM := hide (fun (W : World) (A : Option Addr) (c : Nat) => look_many (setB false) rfl A 1001 c (by omega) W)
       go_cut [12, 13] from 130 to 135 (fun s12 s13 wx => s13 = ZI ZQ 5 ∧ Blk wx F0 38 #[ZI ZQ 2, ZI ZQ 7] ∧ MnSt w wx A X1 (X1 + 1) a1 a2 X3 X4 (a3 + 1) a3 N)
       case first =>
        refine wp_region_held_drew (S := (fun w' => Below wc.drew.heap.size wc.drew w')) (by as_aux_lemma => kernel_rfl) (Below.refl _ _) (fun hHeld => ?_)
        have hm1 : MnSt w wc.drew A X1 (X1 + 1) a1 a2 X3 X4 (a3 + 1) a3 N := HMN2.out.later (below_drewN (Below.refl _ _) 1)
        have hf1 : Blk wc.drew F0 38 #[ZI ZQ 2, ZI ZQ 7] := ((below_drewN (Below.refl wc.heap.size wc) 1).block _ HF0.out.lt).trans HF0.out
        obtain ⟨Wd, hWd⟩ : ∃ y, wc.drew = y := ⟨_, rfl⟩
        rw [hWd] at hm1 hf1 hHeld
        rw [hWd]
        clear hWd HMN2 HF0
        have HMN := hide hm1
        have HF0 := hide hf1
        obtain ⟨i0, hi0, hz0, hz1, hz2⟩ := info_parts jrow_info
        refine tkY [0, 1, 6] ?_
        refine ZS rfl (fun K hK => ?_) ?_
        ·skip
         go_simp
         go_at_call 6
         with_reducible refine (HSV.out _ _).mono ?_
         rintro y79 V79 ⟨rfl, hb79⟩
         have hd80 : Below Wd.heap.size Wd V79 := hHeld.trans (hb79.mono hHeld.size)
         refine hK.out _ _ (hd80) (fun hHeld => ?_)
         clear hK K
         try simp only [ZP, ZA, ZB, ZC, ZD, ZE, ZF]
         refine tkY [1, 6] ?_
         refine ZS rfl (fun K hK => ?_) ?_
         ·skip
          refine step_make_full rfl _ _ _ rfl V79.heap.size 36 i0 (.agg #[ZI ZQ 0, ZI ZQ 0, ZI ZQ 0, ZI ZQ 0, ZI ZQ 0, ZI ZQ 0, ZI ZQ 0, .bool false, .bool false, .bool false, .bool false, ZI ZQ 0, .slice none 0 0, .bool false, ZI ZQ 0, ZI ZQ 0, ZI ZQ 0, .slice none 0 0, ZI ZQ 0, ZI ZQ 0]) 20 168 Try.underlying26 hi0 hz0 hz1 hz2 .i64 .i64 1001 rfl rfl (by omega) (by unfold maxLen; omega) (Nat.le_refl _) ?_
          intro V81 hw81 hgr81
          have hb81 : Below V79.heap.size V79 V81 := Below.grown (Below.refl _ _) hgr81 (Nat.le_refl _) (by intro g e; cases e)
          rw [show (Value.agg #[ZI ZQ 0, ZI ZQ 0, ZI ZQ 0, ZI ZQ 0, ZI ZQ 0, ZI ZQ 0, ZI ZQ 0, .bool false, .bool false, .bool false, .bool false, ZI ZQ 0, .slice none 0 0, .bool false, ZI ZQ 0, ZI ZQ 0, ZI ZQ 0, .slice none 0 0, ZI ZQ 0, ZI ZQ 0]).cells = rwC (zR 0 0) from rfl, made_rows] at hw81
          have hl81 := lie_own rrL_length hw81 (List.length_replicate ..)
          have hd82 : Below Wd.heap.size Wd V81 := hd80.trans (hb81.mono hd80.size)
          obtain ⟨g81, hG81⟩ : ∃ y, V79.heap.size = y := ⟨_, rfl⟩
          rw [hG81] at hl81
          rw [hG81]
          clear hG81 hw81
          refine hK.out _ _ (hd82) (fun hHeld => ?_)
          clear hK K
          try simp only [ZP, ZA, ZB, ZC, ZD, ZE, ZF]
          refine tkY [2, 6] ?_
          refine ZS rfl (fun K hK => ?_) ?_
          ·skip
           go_simp
           go_at_call 7
           with_reducible refine (HLM.out _ _ _).mono ?_
           rintro y83 V83 ⟨rfl, hb83⟩
           have hd84 : Below Wd.heap.size Wd V83 := hd82.trans (hb83.mono hd82.size)
           have li85 : LieAt rrL 20 V83 V83.heap.size (some ⟨g81, 0, none⟩) (List.replicate 1001 xz) := (hl81.later hb83).up hb83.size
           refine hK.out _ _ (hd84) (fun hHeld => ?_)
           clear hK K
           try simp only [ZP, ZA, ZB, ZC, ZD, ZE, ZF]
           refine tkX 3 ?_ rfl ?_ ?_
           rotate_left
           ·intro w' hSw; (try dsimp only at hSw); go_simp; try with_reducible rfl
           try simp only [ZP, ZA, ZB, ZC, ZD, ZE, ZF]
           refine tkX 4 ?_ rfl ?_ ?_
           rotate_left
           ·intro w' hSw; (try dsimp only at hSw); go_simp; try with_reducible rfl
           try simp only [ZP, ZA, ZB, ZC, ZD, ZE, ZF]
           refine tkX 5 ?_ rfl ?_ ?_
           rotate_left
           ·intro w' hSw; (try dsimp only at hSw); go_simp; try with_reducible rfl
           try simp only [ZP, ZA, ZB, ZC, ZD, ZE, ZF]
           refine tkY [6] ?_
           refine ZS rfl (fun K hK => ?_) ZN
           go_simp
           have hn86 := Blk.new V83 38 #[ZI ZQ 0, ZI ZQ 0]
           have hb86 : Below V83.heap.size V83 (V83.alloc (.cells #[ZI ZQ 0, ZI ZQ 0] 38)) := (Below.refl _ _).alloc (Nat.le_refl _) _
           obtain ⟨V86, hV86⟩ : ∃ y, V83.alloc (.cells #[ZI ZQ 0, ZI ZQ 0] 38) = y := ⟨_, rfl⟩
           rw [hV86] at hn86 hb86
           rw [hV86]
           have hd87 : Below Wd.heap.size Wd V86 := hd84.trans (hb86.mono hd84.size)
           have li88 : LieAt rrL 20 V86 V86.heap.size (some ⟨g81, 0, none⟩) (List.replicate 1001 xz) := (li85.later hb86).up hb86.size
           obtain ⟨F86, hF86⟩ : ∃ y, V83.heap.size = y := ⟨_, rfl⟩
           have hge86 : Wd.heap.size ≤ F86 := by rw [← hF86]; exact hd84.size
           rw [hF86] at hn86
           rw [hF86]
           clear hV86 hF86
           refine hK.out _ _ (hd87) (fun hHeld => ?_)
           clear hK K
           try simp only [ZP, ZA, ZB, ZC, ZD, ZE, ZF]
           refine tkY [7] ?_
           refine ZS rfl (fun K hK => ?_) ZN
           have c089 := hn86.cell 0
           have c189 := hn86.cell 1
           have f089 := hn86.frozen 0
           have f189 := hn86.frozen 1
           simp only [ZG, ZH, ZJ] at c089 c189
           go_simp
           have hs89 : Below Wd.heap.size Wd ((V86.setCell ⟨F86, 0, none⟩ (ZI ZQ 0)).setCell ⟨F86, 1, none⟩ (ZI ZQ 0)) := (hd87.setCell (p := ⟨F86, 0, none⟩) hge86 _).setCell (p := ⟨F86, 1, none⟩) hge86 _
           have hq89 : Blk ((V86.setCell ⟨F86, 0, none⟩ (ZI ZQ 0)).setCell ⟨F86, 1, none⟩ (ZI ZQ 0)) F86 38 #[ZI ZQ 0, ZI ZQ 0] := ((hn86.set 0 _).set 1 _).eq rfl
           refine hK.out _ _ (hs89) (fun hHeld => ?_)
           clear hK K
           try simp only [ZP, ZA, ZB, ZC, ZD, ZE, ZF]
           refine tkX 8 ?_ rfl ?_ ?_
           rotate_left
           ·intro w' hSw; (try dsimp only at hSw); go_simp; try with_reducible rfl
           try simp only [ZP, ZA, ZB, ZC, ZD, ZE, ZF]
           refine wpAnyH_done (by as_aux_lemma => kernel_rfl) ?_ _
           go_wp2_with fail
           go_meet
           exact ⟨rfl, ((hs89).block _ HF0.out.lt).trans HF0.out, HMN.out.later hs89⟩
          refine ZS rfl (fun K hK => ?_) ZN
          go_simp
          have hn90 := Blk.new V81 38 #[ZI ZQ 0, ZI ZQ 0]
          have hb90 : Below V81.heap.size V81 (V81.alloc (.cells #[ZI ZQ 0, ZI ZQ 0] 38)) := (Below.refl _ _).alloc (Nat.le_refl _) _
          obtain ⟨V90, hV90⟩ : ∃ y, V81.alloc (.cells #[ZI ZQ 0, ZI ZQ 0] 38) = y := ⟨_, rfl⟩
          rw [hV90] at hn90 hb90
          rw [hV90]
          have hd91 : Below Wd.heap.size Wd V90 := hd82.trans (hb90.mono hd82.size)
          have li92 : LieAt rrL 20 V90 V90.heap.size (some ⟨g81, 0, none⟩) (List.replicate 1001 xz) := (hl81.later hb90).up hb90.size
          obtain ⟨F90, hF90⟩ : ∃ y, V81.heap.size = y := ⟨_, rfl⟩
          have hge90 : Wd.heap.size ≤ F90 := by rw [← hF90]; exact hd82.size
          rw [hF90] at hn90
          rw [hF90]
          clear hV90 hF90
          refine hK.out _ _ (hd91) (fun hHeld => ?_)
          clear hK K
          try simp only [ZP, ZA, ZB, ZC, ZD, ZE, ZF]
          refine tkY [2] ?_
          refine ZS rfl (fun K hK => ?_) ZN
          go_simp
          go_at_call 7
          with_reducible refine (HLM.out _ _ _).mono ?_
          rintro y93 V93 ⟨rfl, hb93⟩
          have hd94 : Below Wd.heap.size Wd V93 := hd91.trans (hb93.mono hd91.size)
          have bk95 : Blk V93 F90 38 #[ZI ZQ 0, ZI ZQ 0] := (hb93.block _ hn90.lt).trans hn90
          have li96 : LieAt rrL 20 V93 V93.heap.size (some ⟨g81, 0, none⟩) (List.replicate 1001 xz) := (li92.later hb93).up hb93.size
          refine hK.out _ _ (hd94) (fun hHeld => ?_)
          clear hK K
          try simp only [ZP, ZA, ZB, ZC, ZD, ZE, ZF]
          refine tkX 3 ?_ rfl ?_ ?_
          rotate_left
          ·intro w' hSw; (try dsimp only at hSw); go_simp; try with_reducible rfl
          try simp only [ZP, ZA, ZB, ZC, ZD, ZE, ZF]
          refine tkX 4 ?_ rfl ?_ ?_
          rotate_left
          ·intro w' hSw; (try dsimp only at hSw); go_simp; try with_reducible rfl
          try simp only [ZP, ZA, ZB, ZC, ZD, ZE, ZF]
          refine tkX 5 ?_ rfl ?_ ?_
          rotate_left
          ·intro w' hSw; (try dsimp only at hSw); go_simp; try with_reducible rfl
          try simp only [ZP, ZA, ZB, ZC, ZD, ZE, ZF]
          refine tkY [7] ?_
          refine ZS rfl (fun K hK => ?_) ZN
          have c097 := bk95.cell 0
          have c197 := bk95.cell 1
          have f097 := bk95.frozen 0
          have f197 := bk95.frozen 1
          simp only [ZG, ZH, ZJ] at c097 c197
          go_simp
          have hs97 : Below Wd.heap.size Wd ((V93.setCell ⟨F90, 0, none⟩ (ZI ZQ 0)).setCell ⟨F90, 1, none⟩ (ZI ZQ 0)) := (hd94.setCell (p := ⟨F90, 0, none⟩) hge90 _).setCell (p := ⟨F90, 1, none⟩) hge90 _
          have hq97 : Blk ((V93.setCell ⟨F90, 0, none⟩ (ZI ZQ 0)).setCell ⟨F90, 1, none⟩ (ZI ZQ 0)) F90 38 #[ZI ZQ 0, ZI ZQ 0] := ((bk95.set 0 _).set 1 _).eq rfl
          refine hK.out _ _ (hs97) (fun hHeld => ?_)
          clear hK K
          try simp only [ZP, ZA, ZB, ZC, ZD, ZE, ZF]
          refine tkX 8 ?_ rfl ?_ ?_
          rotate_left
          ·intro w' hSw; (try dsimp only at hSw); go_simp; try with_reducible rfl
          try simp only [ZP, ZA, ZB, ZC, ZD, ZE, ZF]
          refine wpAnyH_done (by as_aux_lemma => kernel_rfl) ?_ _
          go_wp2_with fail
          go_meet
          exact ⟨rfl, ((hs97).block _ HF0.out.lt).trans HF0.out, HMN.out.later hs97⟩
         refine ZS rfl (fun K hK => ?_) ZN
         go_simp
         have hn98 := Blk.new V79 38 #[ZI ZQ 0, ZI ZQ 0]
         have hb98 : Below V79.heap.size V79 (V79.alloc (.cells #[ZI ZQ 0, ZI ZQ 0] 38)) := (Below.refl _ _).alloc (Nat.le_refl _) _
         obtain ⟨V98, hV98⟩ : ∃ y, V79.alloc (.cells #[ZI ZQ 0, ZI ZQ 0] 38) = y := ⟨_, rfl⟩
         rw [hV98] at hn98 hb98
         rw [hV98]
         have hd99 : Below Wd.heap.size Wd V98 := hd80.trans (hb98.mono hd80.size)
         obtain ⟨F98, hF98⟩ : ∃ y, V79.heap.size = y := ⟨_, rfl⟩
         have hge98 : Wd.heap.size ≤ F98 := by rw [← hF98]; exact hd80.size
         rw [hF98] at hn98
         rw [hF98]
         clear hV98 hF98
         refine hK.out _ _ (hd99) (fun hHeld => ?_)
         clear hK K
         try simp only [ZP, ZA, ZB, ZC, ZD, ZE, ZF]
         refine tkY [1] ?_
         refine ZS rfl (fun K hK => ?_) ZN
         refine step_make_full rfl _ _ _ rfl V98.heap.size 36 i0 (.agg #[ZI ZQ 0, ZI ZQ 0, ZI ZQ 0, ZI ZQ 0, ZI ZQ 0, ZI ZQ 0, ZI ZQ 0, .bool false, .bool false, .bool false, .bool false, ZI ZQ 0, .slice none 0 0, .bool false, ZI ZQ 0, ZI ZQ 0, ZI ZQ 0, .slice none 0 0, ZI ZQ 0, ZI ZQ 0]) 20 168 Try.underlying26 hi0 hz0 hz1 hz2 .i64 .i64 1001 rfl rfl (by omega) (by unfold maxLen; omega) (Nat.le_refl _) ?_
         intro V100 hw100 hgr100
         have hb100 : Below V98.heap.size V98 V100 := Below.grown (Below.refl _ _) hgr100 (Nat.le_refl _) (by intro g e; cases e)
         rw [show (Value.agg #[ZI ZQ 0, ZI ZQ 0, ZI ZQ 0, ZI ZQ 0, ZI ZQ 0, ZI ZQ 0, ZI ZQ 0, .bool false, .bool false, .bool false, .bool false, ZI ZQ 0, .slice none 0 0, .bool false, ZI ZQ 0, ZI ZQ 0, ZI ZQ 0, .slice none 0 0, ZI ZQ 0, ZI ZQ 0]).cells = rwC (zR 0 0) from rfl, made_rows] at hw100
         have hl100 := lie_own rrL_length hw100 (List.length_replicate ..)
         have hd101 : Below Wd.heap.size Wd V100 := hd99.trans (hb100.mono hd99.size)
         have bk102 : Blk V100 F98 38 #[ZI ZQ 0, ZI ZQ 0] := (hb100.block _ hn98.lt).trans hn98
         obtain ⟨g100, hG100⟩ : ∃ y, V98.heap.size = y := ⟨_, rfl⟩
         rw [hG100] at hl100
         rw [hG100]
         clear hG100 hw100
         refine hK.out _ _ (hd101) (fun hHeld => ?_)
         clear hK K
         try simp only [ZP, ZA, ZB, ZC, ZD, ZE, ZF]
         refine tkY [2] ?_
         refine ZS rfl (fun K hK => ?_) ZN
         go_simp
         go_at_call 7
         with_reducible refine (HLM.out _ _ _).mono ?_
         rintro y103 V103 ⟨rfl, hb103⟩
         have hd104 : Below Wd.heap.size Wd V103 := hd101.trans (hb103.mono hd101.size)
         have bk105 : Blk V103 F98 38 #[ZI ZQ 0, ZI ZQ 0] := (hb103.block _ bk102.lt).trans bk102
         have li106 : LieAt rrL 20 V103 V103.heap.size (some ⟨g100, 0, none⟩) (List.replicate 1001 xz) := (hl100.later hb103).up hb103.size
         refine hK.out _ _ (hd104) (fun hHeld => ?_)
         clear hK K
         try simp only [ZP, ZA, ZB, ZC, ZD, ZE, ZF]
         refine tkX 3 ?_ rfl ?_ ?_
         rotate_left
         ·intro w' hSw; (try dsimp only at hSw); go_simp; try with_reducible rfl
         try simp only [ZP, ZA, ZB, ZC, ZD, ZE, ZF]
         refine tkX 4 ?_ rfl ?_ ?_
         rotate_left
         ·intro w' hSw; (try dsimp only at hSw); go_simp; try with_reducible rfl
         try simp only [ZP, ZA, ZB, ZC, ZD, ZE, ZF]
         refine tkX 5 ?_ rfl ?_ ?_
         rotate_left
         ·intro w' hSw; (try dsimp only at hSw); go_simp; try with_reducible rfl
         try simp only [ZP, ZA, ZB, ZC, ZD, ZE, ZF]
         refine tkY [7] ?_
         refine ZS rfl (fun K hK => ?_) ZN
         have c0107 := bk105.cell 0
         have c1107 := bk105.cell 1
         have f0107 := bk105.frozen 0
         have f1107 := bk105.frozen 1
         simp only [ZG, ZH, ZJ] at c0107 c1107
         go_simp
         have hs107 : Below Wd.heap.size Wd ((V103.setCell ⟨F98, 0, none⟩ (ZI ZQ 0)).setCell ⟨F98, 1, none⟩ (ZI ZQ 0)) := (hd104.setCell (p := ⟨F98, 0, none⟩) hge98 _).setCell (p := ⟨F98, 1, none⟩) hge98 _
         have hq107 : Blk ((V103.setCell ⟨F98, 0, none⟩ (ZI ZQ 0)).setCell ⟨F98, 1, none⟩ (ZI ZQ 0)) F98 38 #[ZI ZQ 0, ZI ZQ 0] := ((bk105.set 0 _).set 1 _).eq rfl
         refine hK.out _ _ (hs107) (fun hHeld => ?_)
         clear hK K
         try simp only [ZP, ZA, ZB, ZC, ZD, ZE, ZF]
         refine tkX 8 ?_ rfl ?_ ?_
         rotate_left
         ·intro w' hSw; (try dsimp only at hSw); go_simp; try with_reducible rfl
         try simp only [ZP, ZA, ZB, ZC, ZD, ZE, ZF]
         refine wpAnyH_done (by as_aux_lemma => kernel_rfl) ?_ _
         go_wp2_with fail
         go_meet
         exact ⟨rfl, ((hs107).block _ HF0.out.lt).trans HF0.out, HMN.out.later hs107⟩
        refine ZS rfl (fun K hK => ?_) ?_
        ·skip
         refine step_make_full rfl _ _ _ rfl Wd.heap.size 36 i0 (.agg #[ZI ZQ 0, ZI ZQ 0, ZI ZQ 0, ZI ZQ 0, ZI ZQ 0, ZI ZQ 0, ZI ZQ 0, .bool false, .bool false, .bool false, .bool false, ZI ZQ 0, .slice none 0 0, .bool false, ZI ZQ 0, ZI ZQ 0, ZI ZQ 0, .slice none 0 0, ZI ZQ 0, ZI ZQ 0]) 20 168 Try.underlying26 hi0 hz0 hz1 hz2 .i64 .i64 1001 rfl rfl (by omega) (by unfold maxLen; omega) (Nat.le_refl _) ?_
         intro V108 hw108 hgr108
         have hb108 : Below Wd.heap.size Wd V108 := Below.grown (Below.refl _ _) hgr108 (Nat.le_refl _) (by intro g e; cases e)
         rw [show (Value.agg #[ZI ZQ 0, ZI ZQ 0, ZI ZQ 0, ZI ZQ 0, ZI ZQ 0, ZI ZQ 0, ZI ZQ 0, .bool false, .bool false, .bool false, .bool false, ZI ZQ 0, .slice none 0 0, .bool false, ZI ZQ 0, ZI ZQ 0, ZI ZQ 0, .slice none 0 0, ZI ZQ 0, ZI ZQ 0]).cells = rwC (zR 0 0) from rfl, made_rows] at hw108
         have hl108 := lie_own rrL_length hw108 (List.length_replicate ..)
         have hd109 : Below Wd.heap.size Wd V108 := hHeld.trans (hb108.mono hHeld.size)
         obtain ⟨g108, hG108⟩ : ∃ y, Wd.heap.size = y := ⟨_, rfl⟩
         rw [hG108] at hl108
         rw [hG108]
         clear hG108 hw108
         refine hK.out _ _ (hd109) (fun hHeld => ?_)
         clear hK K
         try simp only [ZP, ZA, ZB, ZC, ZD, ZE, ZF]
         refine tkY [0, 6] ?_
         refine ZS rfl (fun K hK => ?_) ?_
         ·skip
          go_simp
          go_at_call 6
          with_reducible refine (HSV.out _ _).mono ?_
          rintro y110 V110 ⟨rfl, hb110⟩
          have hd111 : Below Wd.heap.size Wd V110 := hd109.trans (hb110.mono hd109.size)
          have li112 : LieAt rrL 20 V110 V110.heap.size (some ⟨g108, 0, none⟩) (List.replicate 1001 xz) := (hl108.later hb110).up hb110.size
          refine hK.out _ _ (hd111) (fun hHeld => ?_)
          clear hK K
          try simp only [ZP, ZA, ZB, ZC, ZD, ZE, ZF]
          refine tkY [2, 6] ?_
          refine ZS rfl (fun K hK => ?_) ?_
          ·skip
           go_simp
           go_at_call 7
           with_reducible refine (HLM.out _ _ _).mono ?_
           rintro y113 V113 ⟨rfl, hb113⟩
           have hd114 : Below Wd.heap.size Wd V113 := hd111.trans (hb113.mono hd111.size)
           have li115 : LieAt rrL 20 V113 V113.heap.size (some ⟨g108, 0, none⟩) (List.replicate 1001 xz) := (li112.later hb113).up hb113.size
           refine hK.out _ _ (hd114) (fun hHeld => ?_)
           clear hK K
           try simp only [ZP, ZA, ZB, ZC, ZD, ZE, ZF]
           refine tkX 3 ?_ rfl ?_ ?_
           rotate_left
           ·intro w' hSw; (try dsimp only at hSw); go_simp; try with_reducible rfl
           try simp only [ZP, ZA, ZB, ZC, ZD, ZE, ZF]
           refine tkX 4 ?_ rfl ?_ ?_
           rotate_left
           ·intro w' hSw; (try dsimp only at hSw); go_simp; try with_reducible rfl
           try simp only [ZP, ZA, ZB, ZC, ZD, ZE, ZF]
           refine tkX 5 ?_ rfl ?_ ?_
           rotate_left
           ·intro w' hSw; (try dsimp only at hSw); go_simp; try with_reducible rfl
           try simp only [ZP, ZA, ZB, ZC, ZD, ZE, ZF]
           refine tkY [6] ?_
           refine ZS rfl (fun K hK => ?_) ZN
           go_simp
           have hn116 := Blk.new V113 38 #[ZI ZQ 0, ZI ZQ 0]
           have hb116 : Below V113.heap.size V113 (V113.alloc (.cells #[ZI ZQ 0, ZI ZQ 0] 38)) := (Below.refl _ _).alloc (Nat.le_refl _) _
           obtain ⟨V116, hV116⟩ : ∃ y, V113.alloc (.cells #[ZI ZQ 0, ZI ZQ 0] 38) = y := ⟨_, rfl⟩
           rw [hV116] at hn116 hb116
           rw [hV116]
           have hd117 : Below Wd.heap.size Wd V116 := hd114.trans (hb116.mono hd114.size)
           have li118 : LieAt rrL 20 V116 V116.heap.size (some ⟨g108, 0, none⟩) (List.replicate 1001 xz) := (li115.later hb116).up hb116.size
           obtain ⟨F116, hF116⟩ : ∃ y, V113.heap.size = y := ⟨_, rfl⟩
           have hge116 : Wd.heap.size ≤ F116 := by rw [← hF116]; exact hd114.size
           rw [hF116] at hn116
           rw [hF116]
           clear hV116 hF116
           refine hK.out _ _ (hd117) (fun hHeld => ?_)
           clear hK K
           try simp only [ZP, ZA, ZB, ZC, ZD, ZE, ZF]
           refine tkY [7] ?_
           refine ZS rfl (fun K hK => ?_) ZN
           have c0119 := hn116.cell 0
           have c1119 := hn116.cell 1
           have f0119 := hn116.frozen 0
           have f1119 := hn116.frozen 1
           simp only [ZG, ZH, ZJ] at c0119 c1119
           go_simp
           have hs119 : Below Wd.heap.size Wd ((V116.setCell ⟨F116, 0, none⟩ (ZI ZQ 0)).setCell ⟨F116, 1, none⟩ (ZI ZQ 0)) := (hd117.setCell (p := ⟨F116, 0, none⟩) hge116 _).setCell (p := ⟨F116, 1, none⟩) hge116 _
           have hq119 : Blk ((V116.setCell ⟨F116, 0, none⟩ (ZI ZQ 0)).setCell ⟨F116, 1, none⟩ (ZI ZQ 0)) F116 38 #[ZI ZQ 0, ZI ZQ 0] := ((hn116.set 0 _).set 1 _).eq rfl
           refine hK.out _ _ (hs119) (fun hHeld => ?_)
           clear hK K
           try simp only [ZP, ZA, ZB, ZC, ZD, ZE, ZF]
           refine tkX 8 ?_ rfl ?_ ?_
           rotate_left
           ·intro w' hSw; (try dsimp only at hSw); go_simp; try with_reducible rfl
           try simp only [ZP, ZA, ZB, ZC, ZD, ZE, ZF]
           refine wpAnyH_done (by as_aux_lemma => kernel_rfl) ?_ _
           go_wp2_with fail
           go_meet
           exact ⟨rfl, ((hs119).block _ HF0.out.lt).trans HF0.out, HMN.out.later hs119⟩
          refine ZS rfl (fun K hK => ?_) ZN
          go_simp
          have hn120 := Blk.new V110 38 #[ZI ZQ 0, ZI ZQ 0]
          have hb120 : Below V110.heap.size V110 (V110.alloc (.cells #[ZI ZQ 0, ZI ZQ 0] 38)) := (Below.refl _ _).alloc (Nat.le_refl _) _
          obtain ⟨V120, hV120⟩ : ∃ y, V110.alloc (.cells #[ZI ZQ 0, ZI ZQ 0] 38) = y := ⟨_, rfl⟩
          rw [hV120] at hn120 hb120
          rw [hV120]
          have hd121 : Below Wd.heap.size Wd V120 := hd111.trans (hb120.mono hd111.size)
          have li122 : LieAt rrL 20 V120 V120.heap.size (some ⟨g108, 0, none⟩) (List.replicate 1001 xz) := (li112.later hb120).up hb120.size
          obtain ⟨F120, hF120⟩ : ∃ y, V110.heap.size = y := ⟨_, rfl⟩
          have hge120 : Wd.heap.size ≤ F120 := by rw [← hF120]; exact hd111.size
          rw [hF120] at hn120
          rw [hF120]
          clear hV120 hF120
          refine hK.out _ _ (hd121) (fun hHeld => ?_)
          clear hK K
          try simp only [ZP, ZA, ZB, ZC, ZD, ZE, ZF]
          refine tkY [2] ?_
          refine ZS rfl (fun K hK => ?_) ZN
          go_simp
          go_at_call 7
          with_reducible refine (HLM.out _ _ _).mono ?_
          rintro y123 V123 ⟨rfl, hb123⟩
          have hd124 : Below Wd.heap.size Wd V123 := hd121.trans (hb123.mono hd121.size)
          have bk125 : Blk V123 F120 38 #[ZI ZQ 0, ZI ZQ 0] := (hb123.block _ hn120.lt).trans hn120
          have li126 : LieAt rrL 20 V123 V123.heap.size (some ⟨g108, 0, none⟩) (List.replicate 1001 xz) := (li122.later hb123).up hb123.size
          refine hK.out _ _ (hd124) (fun hHeld => ?_)
          clear hK K
          try simp only [ZP, ZA, ZB, ZC, ZD, ZE, ZF]
          refine tkX 3 ?_ rfl ?_ ?_
          rotate_left
          ·intro w' hSw; (try dsimp only at hSw); go_simp; try with_reducible rfl
          try simp only [ZP, ZA, ZB, ZC, ZD, ZE, ZF]
          refine tkX 4 ?_ rfl ?_ ?_
          rotate_left
          ·intro w' hSw; (try dsimp only at hSw); go_simp; try with_reducible rfl
          try simp only [ZP, ZA, ZB, ZC, ZD, ZE, ZF]
          refine tkX 5 ?_ rfl ?_ ?_
          rotate_left
          ·intro w' hSw; (try dsimp only at hSw); go_simp; try with_reducible rfl
          try simp only [ZP, ZA, ZB, ZC, ZD, ZE, ZF]
          refine tkY [7] ?_
          refine ZS rfl (fun K hK => ?_) ZN
          have c0127 := bk125.cell 0
          have c1127 := bk125.cell 1
          have f0127 := bk125.frozen 0
          have f1127 := bk125.frozen 1
          simp only [ZG, ZH, ZJ] at c0127 c1127
          go_simp
          have hs127 : Below Wd.heap.size Wd ((V123.setCell ⟨F120, 0, none⟩ (ZI ZQ 0)).setCell ⟨F120, 1, none⟩ (ZI ZQ 0)) := (hd124.setCell (p := ⟨F120, 0, none⟩) hge120 _).setCell (p := ⟨F120, 1, none⟩) hge120 _
          have hq127 : Blk ((V123.setCell ⟨F120, 0, none⟩ (ZI ZQ 0)).setCell ⟨F120, 1, none⟩ (ZI ZQ 0)) F120 38 #[ZI ZQ 0, ZI ZQ 0] := ((bk125.set 0 _).set 1 _).eq rfl
          refine hK.out _ _ (hs127) (fun hHeld => ?_)
          clear hK K
          try simp only [ZP, ZA, ZB, ZC, ZD, ZE, ZF]
          refine tkX 8 ?_ rfl ?_ ?_
          rotate_left
          ·intro w' hSw; (try dsimp only at hSw); go_simp; try with_reducible rfl
          try simp only [ZP, ZA, ZB, ZC, ZD, ZE, ZF]
          refine wpAnyH_done (by as_aux_lemma => kernel_rfl) ?_ _
          go_wp2_with fail
          go_meet
          exact ⟨rfl, ((hs127).block _ HF0.out.lt).trans HF0.out, HMN.out.later hs127⟩
         refine ZS rfl (fun K hK => ?_) ZN
         go_simp
         have hn128 := Blk.new V108 38 #[ZI ZQ 0, ZI ZQ 0]
         have hb128 : Below V108.heap.size V108 (V108.alloc (.cells #[ZI ZQ 0, ZI ZQ 0] 38)) := (Below.refl _ _).alloc (Nat.le_refl _) _
         obtain ⟨V128, hV128⟩ : ∃ y, V108.alloc (.cells #[ZI ZQ 0, ZI ZQ 0] 38) = y := ⟨_, rfl⟩
         rw [hV128] at hn128 hb128
         rw [hV128]
         have hd129 : Below Wd.heap.size Wd V128 := hd109.trans (hb128.mono hd109.size)
         have li130 : LieAt rrL 20 V128 V128.heap.size (some ⟨g108, 0, none⟩) (List.replicate 1001 xz) := (hl108.later hb128).up hb128.size
         obtain ⟨F128, hF128⟩ : ∃ y, V108.heap.size = y := ⟨_, rfl⟩
         have hge128 : Wd.heap.size ≤ F128 := by rw [← hF128]; exact hd109.size
         rw [hF128] at hn128
         rw [hF128]
         clear hV128 hF128
         refine hK.out _ _ (hd129) (fun hHeld => ?_)
         clear hK K
         try simp only [ZP, ZA, ZB, ZC, ZD, ZE, ZF]
         refine tkY [0] ?_
         refine ZS rfl (fun K hK => ?_) ZN
         go_simp
         go_at_call 6
         with_reducible refine (HSV.out _ _).mono ?_
         rintro y131 V131 ⟨rfl, hb131⟩
         have hd132 : Below Wd.heap.size Wd V131 := hd129.trans (hb131.mono hd129.size)
         have bk133 : Blk V131 F128 38 #[ZI ZQ 0, ZI ZQ 0] := (hb131.block _ hn128.lt).trans hn128
         have li134 : LieAt rrL 20 V131 V131.heap.size (some ⟨g108, 0, none⟩) (List.replicate 1001 xz) := (li130.later hb131).up hb131.size
         refine hK.out _ _ (hd132) (fun hHeld => ?_)
         clear hK K
         try simp only [ZP, ZA, ZB, ZC, ZD, ZE, ZF]
         refine tkY [2] ?_
         refine ZS rfl (fun K hK => ?_) ZN
         go_simp
         go_at_call 7
         with_reducible refine (HLM.out _ _ _).mono ?_
         rintro y135 V135 ⟨rfl, hb135⟩
         have hd136 : Below Wd.heap.size Wd V135 := hd132.trans (hb135.mono hd132.size)
         have bk137 : Blk V135 F128 38 #[ZI ZQ 0, ZI ZQ 0] := (hb135.block _ bk133.lt).trans bk133
         have li138 : LieAt rrL 20 V135 V135.heap.size (some ⟨g108, 0, none⟩) (List.replicate 1001 xz) := (li134.later hb135).up hb135.size
         refine hK.out _ _ (hd136) (fun hHeld => ?_)
         clear hK K
         try simp only [ZP, ZA, ZB, ZC, ZD, ZE, ZF]
         refine tkX 3 ?_ rfl ?_ ?_
         rotate_left
         ·intro w' hSw; (try dsimp only at hSw); go_simp; try with_reducible rfl
         try simp only [ZP, ZA, ZB, ZC, ZD, ZE, ZF]
         refine tkX 4 ?_ rfl ?_ ?_
         rotate_left
         ·intro w' hSw; (try dsimp only at hSw); go_simp; try with_reducible rfl
         try simp only [ZP, ZA, ZB, ZC, ZD, ZE, ZF]
         refine tkX 5 ?_ rfl ?_ ?_
         rotate_left
         ·intro w' hSw; (try dsimp only at hSw); go_simp; try with_reducible rfl
         try simp only [ZP, ZA, ZB, ZC, ZD, ZE, ZF]
         refine tkY [7] ?_
         refine ZS rfl (fun K hK => ?_) ZN
         have c0139 := bk137.cell 0
         have c1139 := bk137.cell 1
         have f0139 := bk137.frozen 0
         have f1139 := bk137.frozen 1
         simp only [ZG, ZH, ZJ] at c0139 c1139
         go_simp
         have hs139 : Below Wd.heap.size Wd ((V135.setCell ⟨F128, 0, none⟩ (ZI ZQ 0)).setCell ⟨F128, 1, none⟩ (ZI ZQ 0)) := (hd136.setCell (p := ⟨F128, 0, none⟩) hge128 _).setCell (p := ⟨F128, 1, none⟩) hge128 _
         have hq139 : Blk ((V135.setCell ⟨F128, 0, none⟩ (ZI ZQ 0)).setCell ⟨F128, 1, none⟩ (ZI ZQ 0)) F128 38 #[ZI ZQ 0, ZI ZQ 0] := ((bk137.set 0 _).set 1 _).eq rfl
         refine hK.out _ _ (hs139) (fun hHeld => ?_)
         clear hK K
         try simp only [ZP, ZA, ZB, ZC, ZD, ZE, ZF]
         refine tkX 8 ?_ rfl ?_ ?_
         rotate_left
         ·intro w' hSw; (try dsimp only at hSw); go_simp; try with_reducible rfl
         try simp only [ZP, ZA, ZB, ZC, ZD, ZE, ZF]
         refine wpAnyH_done (by as_aux_lemma => kernel_rfl) ?_ _
         go_wp2_with fail
         go_meet
         exact ⟨rfl, ((hs139).block _ HF0.out.lt).trans HF0.out, HMN.out.later hs139⟩
        refine ZS rfl (fun K hK => ?_) ZN
        go_simp
        have hn140 := Blk.new Wd 38 #[ZI ZQ 0, ZI ZQ 0]
        have hb140 : Below Wd.heap.size Wd (Wd.alloc (.cells #[ZI ZQ 0, ZI ZQ 0] 38)) := (Below.refl _ _).alloc (Nat.le_refl _) _
        obtain ⟨V140, hV140⟩ : ∃ y, Wd.alloc (.cells #[ZI ZQ 0, ZI ZQ 0] 38) = y := ⟨_, rfl⟩
        rw [hV140] at hn140 hb140
        rw [hV140]
        have hd141 : Below Wd.heap.size Wd V140 := hHeld.trans (hb140.mono hHeld.size)
        obtain ⟨F140, hF140⟩ : ∃ y, Wd.heap.size = y := ⟨_, rfl⟩
        have hge140 : Wd.heap.size ≤ F140 := by rw [← hF140]; exact hHeld.size
        rw [hF140] at hn140
        rw [hF140]
        clear hV140 hF140
        refine hK.out _ _ (hd141) (fun hHeld => ?_)
        clear hK K
        try simp only [ZP, ZA, ZB, ZC, ZD, ZE, ZF]
        refine tkY [0, 1] ?_
        refine ZS rfl (fun K hK => ?_) ?_
        ·skip
         go_simp
         go_at_call 6
         with_reducible refine (HSV.out _ _).mono ?_
         rintro y142 V142 ⟨rfl, hb142⟩
         have hd143 : Below Wd.heap.size Wd V142 := hd141.trans (hb142.mono hd141.size)
         have bk144 : Blk V142 F140 38 #[ZI ZQ 0, ZI ZQ 0] := (hb142.block _ hn140.lt).trans hn140
         refine hK.out _ _ (hd143) (fun hHeld => ?_)
         clear hK K
         try simp only [ZP, ZA, ZB, ZC, ZD, ZE, ZF]
         refine tkY [1] ?_
         refine ZS rfl (fun K hK => ?_) ZN
         refine step_make_full rfl _ _ _ rfl V142.heap.size 36 i0 (.agg #[ZI ZQ 0, ZI ZQ 0, ZI ZQ 0, ZI ZQ 0, ZI ZQ 0, ZI ZQ 0, ZI ZQ 0, .bool false, .bool false, .bool false, .bool false, ZI ZQ 0, .slice none 0 0, .bool false, ZI ZQ 0, ZI ZQ 0, ZI ZQ 0, .slice none 0 0, ZI ZQ 0, ZI ZQ 0]) 20 168 Try.underlying26 hi0 hz0 hz1 hz2 .i64 .i64 1001 rfl rfl (by omega) (by unfold maxLen; omega) (Nat.le_refl _) ?_
         intro V145 hw145 hgr145
         have hb145 : Below V142.heap.size V142 V145 := Below.grown (Below.refl _ _) hgr145 (Nat.le_refl _) (by intro g e; cases e)
         rw [show (Value.agg #[ZI ZQ 0, ZI ZQ 0, ZI ZQ 0, ZI ZQ 0, ZI ZQ 0, ZI ZQ 0, ZI ZQ 0, .bool false, .bool false, .bool false, .bool false, ZI ZQ 0, .slice none 0 0, .bool false, ZI ZQ 0, ZI ZQ 0, ZI ZQ 0, .slice none 0 0, ZI ZQ 0, ZI ZQ 0]).cells = rwC (zR 0 0) from rfl, made_rows] at hw145
         have hl145 := lie_own rrL_length hw145 (List.length_replicate ..)
         have hd146 : Below Wd.heap.size Wd V145 := hd143.trans (hb145.mono hd143.size)
         have bk147 : Blk V145 F140 38 #[ZI ZQ 0, ZI ZQ 0] := (hb145.block _ bk144.lt).trans bk144
         obtain ⟨g145, hG145⟩ : ∃ y, V142.heap.size = y := ⟨_, rfl⟩
         rw [hG145] at hl145
         rw [hG145]
         clear hG145 hw145
         refine hK.out _ _ (hd146) (fun hHeld => ?_)
         clear hK K
         try simp only [ZP, ZA, ZB, ZC, ZD, ZE, ZF]
         refine tkY [2] ?_
         refine ZS rfl (fun K hK => ?_) ZN
         go_simp
         go_at_call 7
         with_reducible refine (HLM.out _ _ _).mono ?_
         rintro y148 V148 ⟨rfl, hb148⟩
         have hd149 : Below Wd.heap.size Wd V148 := hd146.trans (hb148.mono hd146.size)
         have bk150 : Blk V148 F140 38 #[ZI ZQ 0, ZI ZQ 0] := (hb148.block _ bk147.lt).trans bk147
         have li151 : LieAt rrL 20 V148 V148.heap.size (some ⟨g145, 0, none⟩) (List.replicate 1001 xz) := (hl145.later hb148).up hb148.size
         refine hK.out _ _ (hd149) (fun hHeld => ?_)
         clear hK K
         try simp only [ZP, ZA, ZB, ZC, ZD, ZE, ZF]
         refine tkX 3 ?_ rfl ?_ ?_
         rotate_left
         ·intro w' hSw; (try dsimp only at hSw); go_simp; try with_reducible rfl
         try simp only [ZP, ZA, ZB, ZC, ZD, ZE, ZF]
         refine tkX 4 ?_ rfl ?_ ?_
         rotate_left
         ·intro w' hSw; (try dsimp only at hSw); go_simp; try with_reducible rfl
         try simp only [ZP, ZA, ZB, ZC, ZD, ZE, ZF]
         refine tkX 5 ?_ rfl ?_ ?_
         rotate_left
         ·intro w' hSw; (try dsimp only at hSw); go_simp; try with_reducible rfl
         try simp only [ZP, ZA, ZB, ZC, ZD, ZE, ZF]
         refine tkY [7] ?_
         refine ZS rfl (fun K hK => ?_) ZN
         have c0152 := bk150.cell 0
         have c1152 := bk150.cell 1
         have f0152 := bk150.frozen 0
         have f1152 := bk150.frozen 1
         simp only [ZG, ZH, ZJ] at c0152 c1152
         go_simp
         have hs152 : Below Wd.heap.size Wd ((V148.setCell ⟨F140, 0, none⟩ (ZI ZQ 0)).setCell ⟨F140, 1, none⟩ (ZI ZQ 0)) := (hd149.setCell (p := ⟨F140, 0, none⟩) hge140 _).setCell (p := ⟨F140, 1, none⟩) hge140 _
         have hq152 : Blk ((V148.setCell ⟨F140, 0, none⟩ (ZI ZQ 0)).setCell ⟨F140, 1, none⟩ (ZI ZQ 0)) F140 38 #[ZI ZQ 0, ZI ZQ 0] := ((bk150.set 0 _).set 1 _).eq rfl
         refine hK.out _ _ (hs152) (fun hHeld => ?_)
         clear hK K
         try simp only [ZP, ZA, ZB, ZC, ZD, ZE, ZF]
         refine tkX 8 ?_ rfl ?_ ?_
         rotate_left
         ·intro w' hSw; (try dsimp only at hSw); go_simp; try with_reducible rfl
         try simp only [ZP, ZA, ZB, ZC, ZD, ZE, ZF]
         refine wpAnyH_done (by as_aux_lemma => kernel_rfl) ?_ _
         go_wp2_with fail
         go_meet
         exact ⟨rfl, ((hs152).block _ HF0.out.lt).trans HF0.out, HMN.out.later hs152⟩
        refine ZS rfl (fun K hK => ?_) ZN
        refine step_make_full rfl _ _ _ rfl V140.heap.size 36 i0 (.agg #[ZI ZQ 0, ZI ZQ 0, ZI ZQ 0, ZI ZQ 0, ZI ZQ 0, ZI ZQ 0, ZI ZQ 0, .bool false, .bool false, .bool false, .bool false, ZI ZQ 0, .slice none 0 0, .bool false, ZI ZQ 0, ZI ZQ 0, ZI ZQ 0, .slice none 0 0, ZI ZQ 0, ZI ZQ 0]) 20 168 Try.underlying26 hi0 hz0 hz1 hz2 .i64 .i64 1001 rfl rfl (by omega) (by unfold maxLen; omega) (Nat.le_refl _) ?_
        intro V153 hw153 hgr153
        have hb153 : Below V140.heap.size V140 V153 := Below.grown (Below.refl _ _) hgr153 (Nat.le_refl _) (by intro g e; cases e)
        rw [show (Value.agg #[ZI ZQ 0, ZI ZQ 0, ZI ZQ 0, ZI ZQ 0, ZI ZQ 0, ZI ZQ 0, ZI ZQ 0, .bool false, .bool false, .bool false, .bool false, ZI ZQ 0, .slice none 0 0, .bool false, ZI ZQ 0, ZI ZQ 0, ZI ZQ 0, .slice none 0 0, ZI ZQ 0, ZI ZQ 0]).cells = rwC (zR 0 0) from rfl, made_rows] at hw153
        have hl153 := lie_own rrL_length hw153 (List.length_replicate ..)
        have hd154 : Below Wd.heap.size Wd V153 := hd141.trans (hb153.mono hd141.size)
        have bk155 : Blk V153 F140 38 #[ZI ZQ 0, ZI ZQ 0] := (hb153.block _ hn140.lt).trans hn140
        obtain ⟨g153, hG153⟩ : ∃ y, V140.heap.size = y := ⟨_, rfl⟩
        rw [hG153] at hl153
        rw [hG153]
        clear hG153 hw153
        refine hK.out _ _ (hd154) (fun hHeld => ?_)
        clear hK K
        try simp only [ZP, ZA, ZB, ZC, ZD, ZE, ZF]
        refine tkY [0] ?_
        refine ZS rfl (fun K hK => ?_) ZN
        go_simp
        go_at_call 6
        with_reducible refine (HSV.out _ _).mono ?_
        rintro y156 V156 ⟨rfl, hb156⟩
        have hd157 : Below Wd.heap.size Wd V156 := hd154.trans (hb156.mono hd154.size)
        have bk158 : Blk V156 F140 38 #[ZI ZQ 0, ZI ZQ 0] := (hb156.block _ bk155.lt).trans bk155
        have li159 : LieAt rrL 20 V156 V156.heap.size (some ⟨g153, 0, none⟩) (List.replicate 1001 xz) := (hl153.later hb156).up hb156.size
        refine hK.out _ _ (hd157) (fun hHeld => ?_)
        clear hK K
        try simp only [ZP, ZA, ZB, ZC, ZD, ZE, ZF]
        refine tkY [2] ?_
        refine ZS rfl (fun K hK => ?_) ZN
        go_simp
        go_at_call 7
        with_reducible refine (HLM.out _ _ _).mono ?_
        rintro y160 V160 ⟨rfl, hb160⟩
        have hd161 : Below Wd.heap.size Wd V160 := hd157.trans (hb160.mono hd157.size)
        have bk162 : Blk V160 F140 38 #[ZI ZQ 0, ZI ZQ 0] := (hb160.block _ bk158.lt).trans bk158
        have li163 : LieAt rrL 20 V160 V160.heap.size (some ⟨g153, 0, none⟩) (List.replicate 1001 xz) := (li159.later hb160).up hb160.size
        refine hK.out _ _ (hd161) (fun hHeld => ?_)
        clear hK K
        try simp only [ZP, ZA, ZB, ZC, ZD, ZE, ZF]
        refine tkX 3 ?_ rfl ?_ ?_
        rotate_left
        ·intro w' hSw; (try dsimp only at hSw); go_simp; try with_reducible rfl
        try simp only [ZP, ZA, ZB, ZC, ZD, ZE, ZF]
        refine tkX 4 ?_ rfl ?_ ?_
        rotate_left
        ·intro w' hSw; (try dsimp only at hSw); go_simp; try with_reducible rfl
        try simp only [ZP, ZA, ZB, ZC, ZD, ZE, ZF]
        refine tkX 5 ?_ rfl ?_ ?_
        rotate_left
        ·intro w' hSw; (try dsimp only at hSw); go_simp; try with_reducible rfl
        try simp only [ZP, ZA, ZB, ZC, ZD, ZE, ZF]
        refine tkY [7] ?_
        refine ZS rfl (fun K hK => ?_) ZN
        have c0164 := bk162.cell 0
        have c1164 := bk162.cell 1
        have f0164 := bk162.frozen 0
        have f1164 := bk162.frozen 1
        simp only [ZG, ZH, ZJ] at c0164 c1164
        go_simp
        have hs164 : Below Wd.heap.size Wd ((V160.setCell ⟨F140, 0, none⟩ (ZI ZQ 0)).setCell ⟨F140, 1, none⟩ (ZI ZQ 0)) := (hd161.setCell (p := ⟨F140, 0, none⟩) hge140 _).setCell (p := ⟨F140, 1, none⟩) hge140 _
        have hq164 : Blk ((V160.setCell ⟨F140, 0, none⟩ (ZI ZQ 0)).setCell ⟨F140, 1, none⟩ (ZI ZQ 0)) F140 38 #[ZI ZQ 0, ZI ZQ 0] := ((bk162.set 0 _).set 1 _).eq rfl
        refine hK.out _ _ (hs164) (fun hHeld => ?_)
        clear hK K
        try simp only [ZP, ZA, ZB, ZC, ZD, ZE, ZF]
        refine tkX 8 ?_ rfl ?_ ?_
        rotate_left
        ·intro w' hSw; (try dsimp only at hSw); go_simp; try with_reducible rfl
        try simp only [ZP, ZA, ZB, ZC, ZD, ZE, ZF]
        refine wpAnyH_done (by as_aux_lemma => kernel_rfl) ?_ _
        go_wp2_with fail
        go_meet
        exact ⟨rfl, ((hs164).block _ HF0.out.lt).trans HF0.out, HMN.out.later hs164⟩
       case rest =>
        obtain ⟨rfl, hf0, hmn⟩ := hcut
        clear HF0 HMN2 HLM
        have HF0 := hide hf0
        have HMN2 := hide hmn
        clear hf0 hmn
        go_upto_region 19 with (fail)
        go_cut [14, 15] from 136 to 141 (fun s14 s15 wx => s15 = ZI ZQ 0 ∧ Blk wx F0 38 #[ZI ZQ 2, ZI ZQ 7] ∧ MnSt w wx A X1 (X1 + 1) a1 a2 X3 X4 (a3 + 1) a3 N)
        case first =>
         refine wp_region_held_drew (S := (fun w' => Below wc.drew.heap.size wc.drew w')) (by as_aux_lemma => kernel_rfl) (Below.refl _ _) (fun hHeld => ?_)
         have hm1 : MnSt w wc.drew A X1 (X1 + 1) a1 a2 X3 X4 (a3 + 1) a3 N := HMN2.out.later (below_drewN (Below.refl _ _) 1)
         have hf1 : Blk wc.drew F0 38 #[ZI ZQ 2, ZI ZQ 7] := ((below_drewN (Below.refl wc.heap.size wc) 1).block _ HF0.out.lt).trans HF0.out
         obtain ⟨Wd, hWd⟩ : ∃ y, wc.drew = y := ⟨_, rfl⟩
         rw [hWd] at hm1 hf1 hHeld
         rw [hWd]
         clear hWd HMN2 HF0
         have HMN := hide hm1
         have HF0 := hide hf1
         obtain ⟨i0, hi0, hz0, hz1, hz2⟩ := info_parts jrow_info
         refine tkY [0, 1, 6] ?_
         refine ZS rfl (fun K hK => ?_) ?_
         ·skip
          go_simp
          go_at_call 6
          with_reducible refine (HSV.out _ _).mono ?_
          rintro y165 V165 ⟨rfl, hb165⟩
          have hd166 : Below Wd.heap.size Wd V165 := hHeld.trans (hb165.mono hHeld.size)
          refine hK.out _ _ (hd166) (fun hHeld => ?_)
          clear hK K
          try simp only [ZP, ZA, ZB, ZC, ZD, ZE, ZF]
          refine tkY [1, 6] ?_
          refine ZS rfl (fun K hK => ?_) ?_
          ·skip
           refine step_make_full rfl _ _ _ rfl V165.heap.size 36 i0 (.agg #[ZI ZQ 0, ZI ZQ 0, ZI ZQ 0, ZI ZQ 0, ZI ZQ 0, ZI ZQ 0, ZI ZQ 0, .bool false, .bool false, .bool false, .bool false, ZI ZQ 0, .slice none 0 0, .bool false, ZI ZQ 0, ZI ZQ 0, ZI ZQ 0, .slice none 0 0, ZI ZQ 0, ZI ZQ 0]) 20 168 Try.underlying26 hi0 hz0 hz1 hz2 .i64 .i64 1000 rfl rfl (by omega) (by unfold maxLen; omega) (Nat.le_refl _) ?_
           intro V167 hw167 hgr167
           have hb167 : Below V165.heap.size V165 V167 := Below.grown (Below.refl _ _) hgr167 (Nat.le_refl _) (by intro g e; cases e)
           rw [show (Value.agg #[ZI ZQ 0, ZI ZQ 0, ZI ZQ 0, ZI ZQ 0, ZI ZQ 0, ZI ZQ 0, ZI ZQ 0, .bool false, .bool false, .bool false, .bool false, ZI ZQ 0, .slice none 0 0, .bool false, ZI ZQ 0, ZI ZQ 0, ZI ZQ 0, .slice none 0 0, ZI ZQ 0, ZI ZQ 0]).cells = rwC (zR 0 0) from rfl, made_rows] at hw167
           have hl167 := lie_own rrL_length hw167 (List.length_replicate ..)
           have hd168 : Below Wd.heap.size Wd V167 := hd166.trans (hb167.mono hd166.size)
           obtain ⟨g167, hG167⟩ : ∃ y, V165.heap.size = y := ⟨_, rfl⟩
           rw [hG167] at hl167
           rw [hG167]
           clear hG167 hw167
           refine hK.out _ _ (hd168) (fun hHeld => ?_)
           clear hK K
           try simp only [ZP, ZA, ZB, ZC, ZD, ZE, ZF]
           refine tkY [2, 6] ?_
           refine ZS rfl (fun K hK => ?_) ?_
           ·skip
            go_simp
            go_at_call 7
            with_reducible refine (zeros_call 1000 _ (Nat.le_refl _) hl167).mono ?_
            rintro y169 V169 ⟨rfl, hb169⟩
            have hd170 : Below Wd.heap.size Wd V169 := hd168.trans (hb169.mono hd168.size)
            have li171 : LieAt rrL 20 V169 V169.heap.size (some ⟨g167, 0, none⟩) (List.replicate 1000 xz) := (hl167.later hb169).up hb169.size
            refine hK.out _ _ (hd170) (fun hHeld => ?_)
            clear hK K
            try simp only [ZP, ZA, ZB, ZC, ZD, ZE, ZF]
            refine tkX 3 ?_ rfl ?_ ?_
            rotate_left
            ·intro w' hSw; (try dsimp only at hSw); go_simp; try with_reducible rfl
            try simp only [ZP, ZA, ZB, ZC, ZD, ZE, ZF]
            refine tkX 4 ?_ rfl ?_ ?_
            rotate_left
            ·intro w' hSw; (try dsimp only at hSw); go_simp; try with_reducible rfl
            try simp only [ZP, ZA, ZB, ZC, ZD, ZE, ZF]
            refine tkX 5 ?_ rfl ?_ ?_
            rotate_left
            ·intro w' hSw; (try dsimp only at hSw); go_simp; try with_reducible rfl
            try simp only [ZP, ZA, ZB, ZC, ZD, ZE, ZF]
            refine tkY [6] ?_
            refine ZS rfl (fun K hK => ?_) ZN
            go_simp
            have hn172 := Blk.new V169 38 #[ZI ZQ 0, ZI ZQ 0]
            have hb172 : Below V169.heap.size V169 (V169.alloc (.cells #[ZI ZQ 0, ZI ZQ 0] 38)) := (Below.refl _ _).alloc (Nat.le_refl _) _
            obtain ⟨V172, hV172⟩ : ∃ y, V169.alloc (.cells #[ZI ZQ 0, ZI ZQ 0] 38) = y := ⟨_, rfl⟩
            rw [hV172] at hn172 hb172
            rw [hV172]
            have hd173 : Below Wd.heap.size Wd V172 := hd170.trans (hb172.mono hd170.size)
            have li174 : LieAt rrL 20 V172 V172.heap.size (some ⟨g167, 0, none⟩) (List.replicate 1000 xz) := (li171.later hb172).up hb172.size
            obtain ⟨F172, hF172⟩ : ∃ y, V169.heap.size = y := ⟨_, rfl⟩
            have hge172 : Wd.heap.size ≤ F172 := by rw [← hF172]; exact hd170.size
            rw [hF172] at hn172
            rw [hF172]
            clear hV172 hF172
            refine hK.out _ _ (hd173) (fun hHeld => ?_)
            clear hK K
            try simp only [ZP, ZA, ZB, ZC, ZD, ZE, ZF]
            refine tkY [7] ?_
            refine ZS rfl (fun K hK => ?_) ZN
            have c0175 := hn172.cell 0
            have c1175 := hn172.cell 1
            have f0175 := hn172.frozen 0
            have f1175 := hn172.frozen 1
            simp only [ZG, ZH, ZJ] at c0175 c1175
            go_simp
            have hs175 : Below Wd.heap.size Wd ((V172.setCell ⟨F172, 0, none⟩ (ZI ZQ (-1))).setCell ⟨F172, 1, none⟩ (ZI ZQ 0)) := (hd173.setCell (p := ⟨F172, 0, none⟩) hge172 _).setCell (p := ⟨F172, 1, none⟩) hge172 _
            have hq175 : Blk ((V172.setCell ⟨F172, 0, none⟩ (ZI ZQ (-1))).setCell ⟨F172, 1, none⟩ (ZI ZQ 0)) F172 38 #[ZI ZQ (-1), ZI ZQ 0] := ((hn172.set 0 _).set 1 _).eq rfl
            refine hK.out _ _ (hs175) (fun hHeld => ?_)
            clear hK K
            try simp only [ZP, ZA, ZB, ZC, ZD, ZE, ZF]
            refine tkX 8 ?_ rfl ?_ ?_
            rotate_left
            ·intro w' hSw; (try dsimp only at hSw); go_simp; try with_reducible rfl
            try simp only [ZP, ZA, ZB, ZC, ZD, ZE, ZF]
            refine wpAnyH_done (by as_aux_lemma => kernel_rfl) ?_ _
            go_wp2_with fail
            go_meet
            exact ⟨rfl, ((hs175).block _ HF0.out.lt).trans HF0.out, HMN.out.later hs175⟩
           refine ZS rfl (fun K hK => ?_) ZN
           go_simp
           have hn176 := Blk.new V167 38 #[ZI ZQ 0, ZI ZQ 0]
           have hb176 : Below V167.heap.size V167 (V167.alloc (.cells #[ZI ZQ 0, ZI ZQ 0] 38)) := (Below.refl _ _).alloc (Nat.le_refl _) _
           obtain ⟨V176, hV176⟩ : ∃ y, V167.alloc (.cells #[ZI ZQ 0, ZI ZQ 0] 38) = y := ⟨_, rfl⟩
           rw [hV176] at hn176 hb176
           rw [hV176]
           have hd177 : Below Wd.heap.size Wd V176 := hd168.trans (hb176.mono hd168.size)
           have li178 : LieAt rrL 20 V176 V176.heap.size (some ⟨g167, 0, none⟩) (List.replicate 1000 xz) := (hl167.later hb176).up hb176.size
           obtain ⟨F176, hF176⟩ : ∃ y, V167.heap.size = y := ⟨_, rfl⟩
           have hge176 : Wd.heap.size ≤ F176 := by rw [← hF176]; exact hd168.size
           rw [hF176] at hn176
           rw [hF176]
           clear hV176 hF176
           refine hK.out _ _ (hd177) (fun hHeld => ?_)
           clear hK K
           try simp only [ZP, ZA, ZB, ZC, ZD, ZE, ZF]
           refine tkY [2] ?_
           refine ZS rfl (fun K hK => ?_) ZN
           go_simp
           go_at_call 7
           with_reducible refine (zeros_call 1000 _ (Nat.le_refl _) li178).mono ?_
           rintro y179 V179 ⟨rfl, hb179⟩
           have hd180 : Below Wd.heap.size Wd V179 := hd177.trans (hb179.mono hd177.size)
           have bk181 : Blk V179 F176 38 #[ZI ZQ 0, ZI ZQ 0] := (hb179.block _ hn176.lt).trans hn176
           have li182 : LieAt rrL 20 V179 V179.heap.size (some ⟨g167, 0, none⟩) (List.replicate 1000 xz) := (li178.later hb179).up hb179.size
           refine hK.out _ _ (hd180) (fun hHeld => ?_)
           clear hK K
           try simp only [ZP, ZA, ZB, ZC, ZD, ZE, ZF]
           refine tkX 3 ?_ rfl ?_ ?_
           rotate_left
           ·intro w' hSw; (try dsimp only at hSw); go_simp; try with_reducible rfl
           try simp only [ZP, ZA, ZB, ZC, ZD, ZE, ZF]
           refine tkX 4 ?_ rfl ?_ ?_
           rotate_left
           ·intro w' hSw; (try dsimp only at hSw); go_simp; try with_reducible rfl
           try simp only [ZP, ZA, ZB, ZC, ZD, ZE, ZF]
           refine tkX 5 ?_ rfl ?_ ?_
           rotate_left
           ·intro w' hSw; (try dsimp only at hSw); go_simp; try with_reducible rfl
           try simp only [ZP, ZA, ZB, ZC, ZD, ZE, ZF]
           refine tkY [7] ?_
           refine ZS rfl (fun K hK => ?_) ZN
           have c0183 := bk181.cell 0
           have c1183 := bk181.cell 1
           have f0183 := bk181.frozen 0
           have f1183 := bk181.frozen 1
           simp only [ZG, ZH, ZJ] at c0183 c1183
           go_simp
           have hs183 : Below Wd.heap.size Wd ((V179.setCell ⟨F176, 0, none⟩ (ZI ZQ (-1))).setCell ⟨F176, 1, none⟩ (ZI ZQ 0)) := (hd180.setCell (p := ⟨F176, 0, none⟩) hge176 _).setCell (p := ⟨F176, 1, none⟩) hge176 _
           have hq183 : Blk ((V179.setCell ⟨F176, 0, none⟩ (ZI ZQ (-1))).setCell ⟨F176, 1, none⟩ (ZI ZQ 0)) F176 38 #[ZI ZQ (-1), ZI ZQ 0] := ((bk181.set 0 _).set 1 _).eq rfl
           refine hK.out _ _ (hs183) (fun hHeld => ?_)
           clear hK K
           try simp only [ZP, ZA, ZB, ZC, ZD, ZE, ZF]
           refine tkX 8 ?_ rfl ?_ ?_
           rotate_left
           ·intro w' hSw; (try dsimp only at hSw); go_simp; try with_reducible rfl
           try simp only [ZP, ZA, ZB, ZC, ZD, ZE, ZF]
           refine wpAnyH_done (by as_aux_lemma => kernel_rfl) ?_ _
           go_wp2_with fail
           go_meet
           exact ⟨rfl, ((hs183).block _ HF0.out.lt).trans HF0.out, HMN.out.later hs183⟩
          refine ZS rfl (fun K hK => ?_) ZN
          go_simp
          have hn184 := Blk.new V165 38 #[ZI ZQ 0, ZI ZQ 0]
          have hb184 : Below V165.heap.size V165 (V165.alloc (.cells #[ZI ZQ 0, ZI ZQ 0] 38)) := (Below.refl _ _).alloc (Nat.le_refl _) _
          obtain ⟨V184, hV184⟩ : ∃ y, V165.alloc (.cells #[ZI ZQ 0, ZI ZQ 0] 38) = y := ⟨_, rfl⟩
          rw [hV184] at hn184 hb184
          rw [hV184]
          have hd185 : Below Wd.heap.size Wd V184 := hd166.trans (hb184.mono hd166.size)
          obtain ⟨F184, hF184⟩ : ∃ y, V165.heap.size = y := ⟨_, rfl⟩
          have hge184 : Wd.heap.size ≤ F184 := by rw [← hF184]; exact hd166.size
          rw [hF184] at hn184
          rw [hF184]
          clear hV184 hF184
          refine hK.out _ _ (hd185) (fun hHeld => ?_)
          clear hK K
          try simp only [ZP, ZA, ZB, ZC, ZD, ZE, ZF]
          refine tkY [1] ?_
          refine ZS rfl (fun K hK => ?_) ZN
          refine step_make_full rfl _ _ _ rfl V184.heap.size 36 i0 (.agg #[ZI ZQ 0, ZI ZQ 0, ZI ZQ 0, ZI ZQ 0, ZI ZQ 0, ZI ZQ 0, ZI ZQ 0, .bool false, .bool false, .bool false, .bool false, ZI ZQ 0, .slice none 0 0, .bool false, ZI ZQ 0, ZI ZQ 0, ZI ZQ 0, .slice none 0 0, ZI ZQ 0, ZI ZQ 0]) 20 168 Try.underlying26 hi0 hz0 hz1 hz2 .i64 .i64 1000 rfl rfl (by omega) (by unfold maxLen; omega) (Nat.le_refl _) ?_
          intro V186 hw186 hgr186
          have hb186 : Below V184.heap.size V184 V186 := Below.grown (Below.refl _ _) hgr186 (Nat.le_refl _) (by intro g e; cases e)
          rw [show (Value.agg #[ZI ZQ 0, ZI ZQ 0, ZI ZQ 0, ZI ZQ 0, ZI ZQ 0, ZI ZQ 0, ZI ZQ 0, .bool false, .bool false, .bool false, .bool false, ZI ZQ 0, .slice none 0 0, .bool false, ZI ZQ 0, ZI ZQ 0, ZI ZQ 0, .slice none 0 0, ZI ZQ 0, ZI ZQ 0]).cells = rwC (zR 0 0) from rfl, made_rows] at hw186
          have hl186 := lie_own rrL_length hw186 (List.length_replicate ..)
          have hd187 : Below Wd.heap.size Wd V186 := hd185.trans (hb186.mono hd185.size)
          have bk188 : Blk V186 F184 38 #[ZI ZQ 0, ZI ZQ 0] := (hb186.block _ hn184.lt).trans hn184
          obtain ⟨g186, hG186⟩ : ∃ y, V184.heap.size = y := ⟨_, rfl⟩
          rw [hG186] at hl186
          rw [hG186]
          clear hG186 hw186
          refine hK.out _ _ (hd187) (fun hHeld => ?_)
          clear hK K
          try simp only [ZP, ZA, ZB, ZC, ZD, ZE, ZF]
          refine tkY [2] ?_
          refine ZS rfl (fun K hK => ?_) ZN
          go_simp
          go_at_call 7
          with_reducible refine (zeros_call 1000 _ (Nat.le_refl _) hl186).mono ?_
          rintro y189 V189 ⟨rfl, hb189⟩
          have hd190 : Below Wd.heap.size Wd V189 := hd187.trans (hb189.mono hd187.size)
          have bk191 : Blk V189 F184 38 #[ZI ZQ 0, ZI ZQ 0] := (hb189.block _ bk188.lt).trans bk188
          have li192 : LieAt rrL 20 V189 V189.heap.size (some ⟨g186, 0, none⟩) (List.replicate 1000 xz) := (hl186.later hb189).up hb189.size
          refine hK.out _ _ (hd190) (fun hHeld => ?_)
          clear hK K
          try simp only [ZP, ZA, ZB, ZC, ZD, ZE, ZF]
          refine tkX 3 ?_ rfl ?_ ?_
          rotate_left
          ·intro w' hSw; (try dsimp only at hSw); go_simp; try with_reducible rfl
          try simp only [ZP, ZA, ZB, ZC, ZD, ZE, ZF]
          refine tkX 4 ?_ rfl ?_ ?_
          rotate_left
          ·intro w' hSw; (try dsimp only at hSw); go_simp; try with_reducible rfl
          try simp only [ZP, ZA, ZB, ZC, ZD, ZE, ZF]
          refine tkX 5 ?_ rfl ?_ ?_
          rotate_left
          ·intro w' hSw; (try dsimp only at hSw); go_simp; try with_reducible rfl
          try simp only [ZP, ZA, ZB, ZC, ZD, ZE, ZF]
          refine tkY [7] ?_
          refine ZS rfl (fun K hK => ?_) ZN
          have c0193 := bk191.cell 0
          have c1193 := bk191.cell 1
          have f0193 := bk191.frozen 0
          have f1193 := bk191.frozen 1
          simp only [ZG, ZH, ZJ] at c0193 c1193
          go_simp
          have hs193 : Below Wd.heap.size Wd ((V189.setCell ⟨F184, 0, none⟩ (ZI ZQ (-1))).setCell ⟨F184, 1, none⟩ (ZI ZQ 0)) := (hd190.setCell (p := ⟨F184, 0, none⟩) hge184 _).setCell (p := ⟨F184, 1, none⟩) hge184 _
          have hq193 : Blk ((V189.setCell ⟨F184, 0, none⟩ (ZI ZQ (-1))).setCell ⟨F184, 1, none⟩ (ZI ZQ 0)) F184 38 #[ZI ZQ (-1), ZI ZQ 0] := ((bk191.set 0 _).set 1 _).eq rfl
          refine hK.out _ _ (hs193) (fun hHeld => ?_)
          clear hK K
          try simp only [ZP, ZA, ZB, ZC, ZD, ZE, ZF]
          refine tkX 8 ?_ rfl ?_ ?_
          rotate_left
          ·intro w' hSw; (try dsimp only at hSw); go_simp; try with_reducible rfl
          try simp only [ZP, ZA, ZB, ZC, ZD, ZE, ZF]
          refine wpAnyH_done (by as_aux_lemma => kernel_rfl) ?_ _
          go_wp2_with fail
          go_meet
          exact ⟨rfl, ((hs193).block _ HF0.out.lt).trans HF0.out, HMN.out.later hs193⟩
         refine ZS rfl (fun K hK => ?_) ?_
         ·skip
          refine step_make_full rfl _ _ _ rfl Wd.heap.size 36 i0 (.agg #[ZI ZQ 0, ZI ZQ 0, ZI ZQ 0, ZI ZQ 0, ZI ZQ 0, ZI ZQ 0, ZI ZQ 0, .bool false, .bool false, .bool false, .bool false, ZI ZQ 0, .slice none 0 0, .bool false, ZI ZQ 0, ZI ZQ 0, ZI ZQ 0, .slice none 0 0, ZI ZQ 0, ZI ZQ 0]) 20 168 Try.underlying26 hi0 hz0 hz1 hz2 .i64 .i64 1000 rfl rfl (by omega) (by unfold maxLen; omega) (Nat.le_refl _) ?_
          intro V194 hw194 hgr194
          have hb194 : Below Wd.heap.size Wd V194 := Below.grown (Below.refl _ _) hgr194 (Nat.le_refl _) (by intro g e; cases e)
          rw [show (Value.agg #[ZI ZQ 0, ZI ZQ 0, ZI ZQ 0, ZI ZQ 0, ZI ZQ 0, ZI ZQ 0, ZI ZQ 0, .bool false, .bool false, .bool false, .bool false, ZI ZQ 0, .slice none 0 0, .bool false, ZI ZQ 0, ZI ZQ 0, ZI ZQ 0, .slice none 0 0, ZI ZQ 0, ZI ZQ 0]).cells = rwC (zR 0 0) from rfl, made_rows] at hw194
          have hl194 := lie_own rrL_length hw194 (List.length_replicate ..)
          have hd195 : Below Wd.heap.size Wd V194 := hHeld.trans (hb194.mono hHeld.size)
          obtain ⟨g194, hG194⟩ : ∃ y, Wd.heap.size = y := ⟨_, rfl⟩
          rw [hG194] at hl194
          rw [hG194]
          clear hG194 hw194
          refine hK.out _ _ (hd195) (fun hHeld => ?_)
          clear hK K
          try simp only [ZP, ZA, ZB, ZC, ZD, ZE, ZF]
          refine tkY [0, 6] ?_
          refine ZS rfl (fun K hK => ?_) ?_
          ·skip
           go_simp
           go_at_call 6
           with_reducible refine (HSV.out _ _).mono ?_
           rintro y196 V196 ⟨rfl, hb196⟩
           have hd197 : Below Wd.heap.size Wd V196 := hd195.trans (hb196.mono hd195.size)
           have li198 : LieAt rrL 20 V196 V196.heap.size (some ⟨g194, 0, none⟩) (List.replicate 1000 xz) := (hl194.later hb196).up hb196.size
           refine hK.out _ _ (hd197) (fun hHeld => ?_)
           clear hK K
           try simp only [ZP, ZA, ZB, ZC, ZD, ZE, ZF]
           refine tkY [2, 6] ?_
           refine ZS rfl (fun K hK => ?_) ?_
           ·skip
            go_simp
            go_at_call 7
            with_reducible refine (zeros_call 1000 _ (Nat.le_refl _) li198).mono ?_
            rintro y199 V199 ⟨rfl, hb199⟩
            have hd200 : Below Wd.heap.size Wd V199 := hd197.trans (hb199.mono hd197.size)
            have li201 : LieAt rrL 20 V199 V199.heap.size (some ⟨g194, 0, none⟩) (List.replicate 1000 xz) := (li198.later hb199).up hb199.size
            refine hK.out _ _ (hd200) (fun hHeld => ?_)
            clear hK K
            try simp only [ZP, ZA, ZB, ZC, ZD, ZE, ZF]
            refine tkX 3 ?_ rfl ?_ ?_
            rotate_left
            ·intro w' hSw; (try dsimp only at hSw); go_simp; try with_reducible rfl
            try simp only [ZP, ZA, ZB, ZC, ZD, ZE, ZF]
            refine tkX 4 ?_ rfl ?_ ?_
            rotate_left
            ·intro w' hSw; (try dsimp only at hSw); go_simp; try with_reducible rfl
            try simp only [ZP, ZA, ZB, ZC, ZD, ZE, ZF]
            refine tkX 5 ?_ rfl ?_ ?_
            rotate_left
            ·intro w' hSw; (try dsimp only at hSw); go_simp; try with_reducible rfl
            try simp only [ZP, ZA, ZB, ZC, ZD, ZE, ZF]
            refine tkY [6] ?_
            refine ZS rfl (fun K hK => ?_) ZN
            go_simp
            have hn202 := Blk.new V199 38 #[ZI ZQ 0, ZI ZQ 0]
            have hb202 : Below V199.heap.size V199 (V199.alloc (.cells #[ZI ZQ 0, ZI ZQ 0] 38)) := (Below.refl _ _).alloc (Nat.le_refl _) _
            obtain ⟨V202, hV202⟩ : ∃ y, V199.alloc (.cells #[ZI ZQ 0, ZI ZQ 0] 38) = y := ⟨_, rfl⟩
            rw [hV202] at hn202 hb202
            rw [hV202]
            have hd203 : Below Wd.heap.size Wd V202 := hd200.trans (hb202.mono hd200.size)
            have li204 : LieAt rrL 20 V202 V202.heap.size (some ⟨g194, 0, none⟩) (List.replicate 1000 xz) := (li201.later hb202).up hb202.size
            obtain ⟨F202, hF202⟩ : ∃ y, V199.heap.size = y := ⟨_, rfl⟩
            have hge202 : Wd.heap.size ≤ F202 := by rw [← hF202]; exact hd200.size
            rw [hF202] at hn202
            rw [hF202]
            clear hV202 hF202
            refine hK.out _ _ (hd203) (fun hHeld => ?_)
            clear hK K
            try simp only [ZP, ZA, ZB, ZC, ZD, ZE, ZF]
            refine tkY [7] ?_
            refine ZS rfl (fun K hK => ?_) ZN
            have c0205 := hn202.cell 0
            have c1205 := hn202.cell 1
            have f0205 := hn202.frozen 0
            have f1205 := hn202.frozen 1
            simp only [ZG, ZH, ZJ] at c0205 c1205
            go_simp
            have hs205 : Below Wd.heap.size Wd ((V202.setCell ⟨F202, 0, none⟩ (ZI ZQ (-1))).setCell ⟨F202, 1, none⟩ (ZI ZQ 0)) := (hd203.setCell (p := ⟨F202, 0, none⟩) hge202 _).setCell (p := ⟨F202, 1, none⟩) hge202 _
            have hq205 : Blk ((V202.setCell ⟨F202, 0, none⟩ (ZI ZQ (-1))).setCell ⟨F202, 1, none⟩ (ZI ZQ 0)) F202 38 #[ZI ZQ (-1), ZI ZQ 0] := ((hn202.set 0 _).set 1 _).eq rfl
            refine hK.out _ _ (hs205) (fun hHeld => ?_)
            clear hK K
            try simp only [ZP, ZA, ZB, ZC, ZD, ZE, ZF]
            refine tkX 8 ?_ rfl ?_ ?_
            rotate_left
            ·intro w' hSw; (try dsimp only at hSw); go_simp; try with_reducible rfl
            try simp only [ZP, ZA, ZB, ZC, ZD, ZE, ZF]
            refine wpAnyH_done (by as_aux_lemma => kernel_rfl) ?_ _
            go_wp2_with fail
            go_meet
            exact ⟨rfl, ((hs205).block _ HF0.out.lt).trans HF0.out, HMN.out.later hs205⟩
           refine ZS rfl (fun K hK => ?_) ZN
           go_simp
           have hn206 := Blk.new V196 38 #[ZI ZQ 0, ZI ZQ 0]
           have hb206 : Below V196.heap.size V196 (V196.alloc (.cells #[ZI ZQ 0, ZI ZQ 0] 38)) := (Below.refl _ _).alloc (Nat.le_refl _) _
           obtain ⟨V206, hV206⟩ : ∃ y, V196.alloc (.cells #[ZI ZQ 0, ZI ZQ 0] 38) = y := ⟨_, rfl⟩
           rw [hV206] at hn206 hb206
           rw [hV206]
           have hd207 : Below Wd.heap.size Wd V206 := hd197.trans (hb206.mono hd197.size)
           have li208 : LieAt rrL 20 V206 V206.heap.size (some ⟨g194, 0, none⟩) (List.replicate 1000 xz) := (li198.later hb206).up hb206.size
           obtain ⟨F206, hF206⟩ : ∃ y, V196.heap.size = y := ⟨_, rfl⟩
           have hge206 : Wd.heap.size ≤ F206 := by rw [← hF206]; exact hd197.size
           rw [hF206] at hn206
           rw [hF206]
           clear hV206 hF206
           refine hK.out _ _ (hd207) (fun hHeld => ?_)
           clear hK K
           try simp only [ZP, ZA, ZB, ZC, ZD, ZE, ZF]
           refine tkY [2] ?_
           refine ZS rfl (fun K hK => ?_) ZN
           go_simp
           go_at_call 7
           with_reducible refine (zeros_call 1000 _ (Nat.le_refl _) li208).mono ?_
           rintro y209 V209 ⟨rfl, hb209⟩
           have hd210 : Below Wd.heap.size Wd V209 := hd207.trans (hb209.mono hd207.size)
           have bk211 : Blk V209 F206 38 #[ZI ZQ 0, ZI ZQ 0] := (hb209.block _ hn206.lt).trans hn206
           have li212 : LieAt rrL 20 V209 V209.heap.size (some ⟨g194, 0, none⟩) (List.replicate 1000 xz) := (li208.later hb209).up hb209.size
           refine hK.out _ _ (hd210) (fun hHeld => ?_)
           clear hK K
           try simp only [ZP, ZA, ZB, ZC, ZD, ZE, ZF]
           refine tkX 3 ?_ rfl ?_ ?_
           rotate_left
           ·intro w' hSw; (try dsimp only at hSw); go_simp; try with_reducible rfl
           try simp only [ZP, ZA, ZB, ZC, ZD, ZE, ZF]
           refine tkX 4 ?_ rfl ?_ ?_
           rotate_left
           ·intro w' hSw; (try dsimp only at hSw); go_simp; try with_reducible rfl
           try simp only [ZP, ZA, ZB, ZC, ZD, ZE, ZF]
           refine tkX 5 ?_ rfl ?_ ?_
           rotate_left
           ·intro w' hSw; (try dsimp only at hSw); go_simp; try with_reducible rfl
           try simp only [ZP, ZA, ZB, ZC, ZD, ZE, ZF]
           refine tkY [7] ?_
           refine ZS rfl (fun K hK => ?_) ZN
           have c0213 := bk211.cell 0
           have c1213 := bk211.cell 1
           have f0213 := bk211.frozen 0
           have f1213 := bk211.frozen 1
           simp only [ZG, ZH, ZJ] at c0213 c1213
           go_simp
           have hs213 : Below Wd.heap.size Wd ((V209.setCell ⟨F206, 0, none⟩ (ZI ZQ (-1))).setCell ⟨F206, 1, none⟩ (ZI ZQ 0)) := (hd210.setCell (p := ⟨F206, 0, none⟩) hge206 _).setCell (p := ⟨F206, 1, none⟩) hge206 _
           have hq213 : Blk ((V209.setCell ⟨F206, 0, none⟩ (ZI ZQ (-1))).setCell ⟨F206, 1, none⟩ (ZI ZQ 0)) F206 38 #[ZI ZQ (-1), ZI ZQ 0] := ((bk211.set 0 _).set 1 _).eq rfl
           refine hK.out _ _ (hs213) (fun hHeld => ?_)
           clear hK K
           try simp only [ZP, ZA, ZB, ZC, ZD, ZE, ZF]
           refine tkX 8 ?_ rfl ?_ ?_
           rotate_left
           ·intro w' hSw; (try dsimp only at hSw); go_simp; try with_reducible rfl
           try simp only [ZP, ZA, ZB, ZC, ZD, ZE, ZF]
           refine wpAnyH_done (by as_aux_lemma => kernel_rfl) ?_ _
           go_wp2_with fail
           go_meet
           exact ⟨rfl, ((hs213).block _ HF0.out.lt).trans HF0.out, HMN.out.later hs213⟩
          refine ZS rfl (fun K hK => ?_) ZN
          go_simp
          have hn214 := Blk.new V194 38 #[ZI ZQ 0, ZI ZQ 0]
          have hb214 : Below V194.heap.size V194 (V194.alloc (.cells #[ZI ZQ 0, ZI ZQ 0] 38)) := (Below.refl _ _).alloc (Nat.le_refl _) _
          obtain ⟨V214, hV214⟩ : ∃ y, V194.alloc (.cells #[ZI ZQ 0, ZI ZQ 0] 38) = y := ⟨_, rfl⟩
          rw [hV214] at hn214 hb214
          rw [hV214]
          have hd215 : Below Wd.heap.size Wd V214 := hd195.trans (hb214.mono hd195.size)
          have li216 : LieAt rrL 20 V214 V214.heap.size (some ⟨g194, 0, none⟩) (List.replicate 1000 xz) := (hl194.later hb214).up hb214.size
          obtain ⟨F214, hF214⟩ : ∃ y, V194.heap.size = y := ⟨_, rfl⟩
          have hge214 : Wd.heap.size ≤ F214 := by rw [← hF214]; exact hd195.size
          rw [hF214] at hn214
          rw [hF214]
          clear hV214 hF214
          refine hK.out _ _ (hd215) (fun hHeld => ?_)
          clear hK K
          try simp only [ZP, ZA, ZB, ZC, ZD, ZE, ZF]
          refine tkY [0] ?_
          refine ZS rfl (fun K hK => ?_) ZN
          go_simp
          go_at_call 6
          with_reducible refine (HSV.out _ _).mono ?_
          rintro y217 V217 ⟨rfl, hb217⟩
          have hd218 : Below Wd.heap.size Wd V217 := hd215.trans (hb217.mono hd215.size)
          have bk219 : Blk V217 F214 38 #[ZI ZQ 0, ZI ZQ 0] := (hb217.block _ hn214.lt).trans hn214
          have li220 : LieAt rrL 20 V217 V217.heap.size (some ⟨g194, 0, none⟩) (List.replicate 1000 xz) := (li216.later hb217).up hb217.size
          refine hK.out _ _ (hd218) (fun hHeld => ?_)
          clear hK K
          try simp only [ZP, ZA, ZB, ZC, ZD, ZE, ZF]
          refine tkY [2] ?_
          refine ZS rfl (fun K hK => ?_) ZN
          go_simp
          go_at_call 7
          with_reducible refine (zeros_call 1000 _ (Nat.le_refl _) li220).mono ?_
          rintro y221 V221 ⟨rfl, hb221⟩
          have hd222 : Below Wd.heap.size Wd V221 := hd218.trans (hb221.mono hd218.size)
          have bk223 : Blk V221 F214 38 #[ZI ZQ 0, ZI ZQ 0] := (hb221.block _ bk219.lt).trans bk219
          have li224 : LieAt rrL 20 V221 V221.heap.size (some ⟨g194, 0, none⟩) (List.replicate 1000 xz) := (li220.later hb221).up hb221.size
          refine hK.out _ _ (hd222) (fun hHeld => ?_)
          clear hK K
          try simp only [ZP, ZA, ZB, ZC, ZD, ZE, ZF]
          refine tkX 3 ?_ rfl ?_ ?_
          rotate_left
          ·intro w' hSw; (try dsimp only at hSw); go_simp; try with_reducible rfl
          try simp only [ZP, ZA, ZB, ZC, ZD, ZE, ZF]
          refine tkX 4 ?_ rfl ?_ ?_
          rotate_left
          ·intro w' hSw; (try dsimp only at hSw); go_simp; try with_reducible rfl
          try simp only [ZP, ZA, ZB, ZC, ZD, ZE, ZF]
          refine tkX 5 ?_ rfl ?_ ?_
          rotate_left
          ·intro w' hSw; (try dsimp only at hSw); go_simp; try with_reducible rfl
          try simp only [ZP, ZA, ZB, ZC, ZD, ZE, ZF]
          refine tkY [7] ?_
          refine ZS rfl (fun K hK => ?_) ZN
          have c0225 := bk223.cell 0
          have c1225 := bk223.cell 1
          have f0225 := bk223.frozen 0
          have f1225 := bk223.frozen 1
          simp only [ZG, ZH, ZJ] at c0225 c1225
          go_simp
          have hs225 : Below Wd.heap.size Wd ((V221.setCell ⟨F214, 0, none⟩ (ZI ZQ (-1))).setCell ⟨F214, 1, none⟩ (ZI ZQ 0)) := (hd222.setCell (p := ⟨F214, 0, none⟩) hge214 _).setCell (p := ⟨F214, 1, none⟩) hge214 _
          have hq225 : Blk ((V221.setCell ⟨F214, 0, none⟩ (ZI ZQ (-1))).setCell ⟨F214, 1, none⟩ (ZI ZQ 0)) F214 38 #[ZI ZQ (-1), ZI ZQ 0] := ((bk223.set 0 _).set 1 _).eq rfl
          refine hK.out _ _ (hs225) (fun hHeld => ?_)
          clear hK K
          try simp only [ZP, ZA, ZB, ZC, ZD, ZE, ZF]
          refine tkX 8 ?_ rfl ?_ ?_
          rotate_left
          ·intro w' hSw; (try dsimp only at hSw); go_simp; try with_reducible rfl
          try simp only [ZP, ZA, ZB, ZC, ZD, ZE, ZF]
          refine wpAnyH_done (by as_aux_lemma => kernel_rfl) ?_ _
          go_wp2_with fail
          go_meet
          exact ⟨rfl, ((hs225).block _ HF0.out.lt).trans HF0.out, HMN.out.later hs225⟩
         refine ZS rfl (fun K hK => ?_) ZN
         go_simp
         have hn226 := Blk.new Wd 38 #[ZI ZQ 0, ZI ZQ 0]
         have hb226 : Below Wd.heap.size Wd (Wd.alloc (.cells #[ZI ZQ 0, ZI ZQ 0] 38)) := (Below.refl _ _).alloc (Nat.le_refl _) _
         obtain ⟨V226, hV226⟩ : ∃ y, Wd.alloc (.cells #[ZI ZQ 0, ZI ZQ 0] 38) = y := ⟨_, rfl⟩
         rw [hV226] at hn226 hb226
         rw [hV226]
         have hd227 : Below Wd.heap.size Wd V226 := hHeld.trans (hb226.mono hHeld.size)
         obtain ⟨F226, hF226⟩ : ∃ y, Wd.heap.size = y := ⟨_, rfl⟩
         have hge226 : Wd.heap.size ≤ F226 := by rw [← hF226]; exact hHeld.size
         rw [hF226] at hn226
         rw [hF226]
         clear hV226 hF226
         refine hK.out _ _ (hd227) (fun hHeld => ?_)
         clear hK K
         try simp only [ZP, ZA, ZB, ZC, ZD, ZE, ZF]
         refine tkY [0, 1] ?_
         refine ZS rfl (fun K hK => ?_) ?_
         ·skip
          go_simp
          go_at_call 6
          with_reducible refine (HSV.out _ _).mono ?_
          rintro y228 V228 ⟨rfl, hb228⟩
          have hd229 : Below Wd.heap.size Wd V228 := hd227.trans (hb228.mono hd227.size)
          have bk230 : Blk V228 F226 38 #[ZI ZQ 0, ZI ZQ 0] := (hb228.block _ hn226.lt).trans hn226
          refine hK.out _ _ (hd229) (fun hHeld => ?_)
          clear hK K
          try simp only [ZP, ZA, ZB, ZC, ZD, ZE, ZF]
          refine tkY [1] ?_
          refine ZS rfl (fun K hK => ?_) ZN
          refine step_make_full rfl _ _ _ rfl V228.heap.size 36 i0 (.agg #[ZI ZQ 0, ZI ZQ 0, ZI ZQ 0, ZI ZQ 0, ZI ZQ 0, ZI ZQ 0, ZI ZQ 0, .bool false, .bool false, .bool false, .bool false, ZI ZQ 0, .slice none 0 0, .bool false, ZI ZQ 0, ZI ZQ 0, ZI ZQ 0, .slice none 0 0, ZI ZQ 0, ZI ZQ 0]) 20 168 Try.underlying26 hi0 hz0 hz1 hz2 .i64 .i64 1000 rfl rfl (by omega) (by unfold maxLen; omega) (Nat.le_refl _) ?_
          intro V231 hw231 hgr231
          have hb231 : Below V228.heap.size V228 V231 := Below.grown (Below.refl _ _) hgr231 (Nat.le_refl _) (by intro g e; cases e)
          rw [show (Value.agg #[ZI ZQ 0, ZI ZQ 0, ZI ZQ 0, ZI ZQ 0, ZI ZQ 0, ZI ZQ 0, ZI ZQ 0, .bool false, .bool false, .bool false, .bool false, ZI ZQ 0, .slice none 0 0, .bool false, ZI ZQ 0, ZI ZQ 0, ZI ZQ 0, .slice none 0 0, ZI ZQ 0, ZI ZQ 0]).cells = rwC (zR 0 0) from rfl, made_rows] at hw231
          have hl231 := lie_own rrL_length hw231 (List.length_replicate ..)
          have hd232 : Below Wd.heap.size Wd V231 := hd229.trans (hb231.mono hd229.size)
          have bk233 : Blk V231 F226 38 #[ZI ZQ 0, ZI ZQ 0] := (hb231.block _ bk230.lt).trans bk230
          obtain ⟨g231, hG231⟩ : ∃ y, V228.heap.size = y := ⟨_, rfl⟩
          rw [hG231] at hl231
          rw [hG231]
          clear hG231 hw231
          refine hK.out _ _ (hd232) (fun hHeld => ?_)
          clear hK K
          try simp only [ZP, ZA, ZB, ZC, ZD, ZE, ZF]
          refine tkY [2] ?_
          refine ZS rfl (fun K hK => ?_) ZN
          go_simp
          go_at_call 7
          with_reducible refine (zeros_call 1000 _ (Nat.le_refl _) hl231).mono ?_
          rintro y234 V234 ⟨rfl, hb234⟩
          have hd235 : Below Wd.heap.size Wd V234 := hd232.trans (hb234.mono hd232.size)
          have bk236 : Blk V234 F226 38 #[ZI ZQ 0, ZI ZQ 0] := (hb234.block _ bk233.lt).trans bk233
          have li237 : LieAt rrL 20 V234 V234.heap.size (some ⟨g231, 0, none⟩) (List.replicate 1000 xz) := (hl231.later hb234).up hb234.size
          refine hK.out _ _ (hd235) (fun hHeld => ?_)
          clear hK K
          try simp only [ZP, ZA, ZB, ZC, ZD, ZE, ZF]
          refine tkX 3 ?_ rfl ?_ ?_
          rotate_left
          ·intro w' hSw; (try dsimp only at hSw); go_simp; try with_reducible rfl
          try simp only [ZP, ZA, ZB, ZC, ZD, ZE, ZF]
          refine tkX 4 ?_ rfl ?_ ?_
          rotate_left
          ·intro w' hSw; (try dsimp only at hSw); go_simp; try with_reducible rfl
          try simp only [ZP, ZA, ZB, ZC, ZD, ZE, ZF]
          refine tkX 5 ?_ rfl ?_ ?_
          rotate_left
          ·intro w' hSw; (try dsimp only at hSw); go_simp; try with_reducible rfl
          try simp only [ZP, ZA, ZB, ZC, ZD, ZE, ZF]
          refine tkY [7] ?_
          refine ZS rfl (fun K hK => ?_) ZN
          have c0238 := bk236.cell 0
          have c1238 := bk236.cell 1
          have f0238 := bk236.frozen 0
          have f1238 := bk236.frozen 1
          simp only [ZG, ZH, ZJ] at c0238 c1238
          go_simp
          have hs238 : Below Wd.heap.size Wd ((V234.setCell ⟨F226, 0, none⟩ (ZI ZQ (-1))).setCell ⟨F226, 1, none⟩ (ZI ZQ 0)) := (hd235.setCell (p := ⟨F226, 0, none⟩) hge226 _).setCell (p := ⟨F226, 1, none⟩) hge226 _
          have hq238 : Blk ((V234.setCell ⟨F226, 0, none⟩ (ZI ZQ (-1))).setCell ⟨F226, 1, none⟩ (ZI ZQ 0)) F226 38 #[ZI ZQ (-1), ZI ZQ 0] := ((bk236.set 0 _).set 1 _).eq rfl
          refine hK.out _ _ (hs238) (fun hHeld => ?_)
          clear hK K
          try simp only [ZP, ZA, ZB, ZC, ZD, ZE, ZF]
          refine tkX 8 ?_ rfl ?_ ?_
          rotate_left
          ·intro w' hSw; (try dsimp only at hSw); go_simp; try with_reducible rfl
          try simp only [ZP, ZA, ZB, ZC, ZD, ZE, ZF]
          refine wpAnyH_done (by as_aux_lemma => kernel_rfl) ?_ _
          go_wp2_with fail
          go_meet
          exact ⟨rfl, ((hs238).block _ HF0.out.lt).trans HF0.out, HMN.out.later hs238⟩
         refine ZS rfl (fun K hK => ?_) ZN
         refine step_make_full rfl _ _ _ rfl V226.heap.size 36 i0 (.agg #[ZI ZQ 0, ZI ZQ 0, ZI ZQ 0, ZI ZQ 0, ZI ZQ 0, ZI ZQ 0, ZI ZQ 0, .bool false, .bool false, .bool false, .bool false, ZI ZQ 0, .slice none 0 0, .bool false, ZI ZQ 0, ZI ZQ 0, ZI ZQ 0, .slice none 0 0, ZI ZQ 0, ZI ZQ 0]) 20 168 Try.underlying26 hi0 hz0 hz1 hz2 .i64 .i64 1000 rfl rfl (by omega) (by unfold maxLen; omega) (Nat.le_refl _) ?_
         intro V239 hw239 hgr239
         have hb239 : Below V226.heap.size V226 V239 := Below.grown (Below.refl _ _) hgr239 (Nat.le_refl _) (by intro g e; cases e)
         rw [show (Value.agg #[ZI ZQ 0, ZI ZQ 0, ZI ZQ 0, ZI ZQ 0, ZI ZQ 0, ZI ZQ 0, ZI ZQ 0, .bool false, .bool false, .bool false, .bool false, ZI ZQ 0, .slice none 0 0, .bool false, ZI ZQ 0, ZI ZQ 0, ZI ZQ 0, .slice none 0 0, ZI ZQ 0, ZI ZQ 0]).cells = rwC (zR 0 0) from rfl, made_rows] at hw239
         have hl239 := lie_own rrL_length hw239 (List.length_replicate ..)
         have hd240 : Below Wd.heap.size Wd V239 := hd227.trans (hb239.mono hd227.size)
         have bk241 : Blk V239 F226 38 #[ZI ZQ 0, ZI ZQ 0] := (hb239.block _ hn226.lt).trans hn226
         obtain ⟨g239, hG239⟩ : ∃ y, V226.heap.size = y := ⟨_, rfl⟩
         rw [hG239] at hl239
         rw [hG239]
         clear hG239 hw239
         refine hK.out _ _ (hd240) (fun hHeld => ?_)
         clear hK K
         try simp only [ZP, ZA, ZB, ZC, ZD, ZE, ZF]
         refine tkY [0] ?_
         refine ZS rfl (fun K hK => ?_) ZN
         go_simp
         go_at_call 6
         with_reducible refine (HSV.out _ _).mono ?_
         rintro y242 V242 ⟨rfl, hb242⟩
         have hd243 : Below Wd.heap.size Wd V242 := hd240.trans (hb242.mono hd240.size)
         have bk244 : Blk V242 F226 38 #[ZI ZQ 0, ZI ZQ 0] := (hb242.block _ bk241.lt).trans bk241
         have li245 : LieAt rrL 20 V242 V242.heap.size (some ⟨g239, 0, none⟩) (List.replicate 1000 xz) := (hl239.later hb242).up hb242.size
         refine hK.out _ _ (hd243) (fun hHeld => ?_)
         clear hK K
         try simp only [ZP, ZA, ZB, ZC, ZD, ZE, ZF]
         refine tkY [2] ?_
         refine ZS rfl (fun K hK => ?_) ZN
         go_simp
         go_at_call 7
         with_reducible refine (zeros_call 1000 _ (Nat.le_refl _) li245).mono ?_
         rintro y246 V246 ⟨rfl, hb246⟩
         have hd247 : Below Wd.heap.size Wd V246 := hd243.trans (hb246.mono hd243.size)
         have bk248 : Blk V246 F226 38 #[ZI ZQ 0, ZI ZQ 0] := (hb246.block _ bk244.lt).trans bk244
         have li249 : LieAt rrL 20 V246 V246.heap.size (some ⟨g239, 0, none⟩) (List.replicate 1000 xz) := (li245.later hb246).up hb246.size
         refine hK.out _ _ (hd247) (fun hHeld => ?_)
         clear hK K
         try simp only [ZP, ZA, ZB, ZC, ZD, ZE, ZF]
         refine tkX 3 ?_ rfl ?_ ?_
         rotate_left
         ·intro w' hSw; (try dsimp only at hSw); go_simp; try with_reducible rfl
         try simp only [ZP, ZA, ZB, ZC, ZD, ZE, ZF]
         refine tkX 4 ?_ rfl ?_ ?_
         rotate_left
         ·intro w' hSw; (try dsimp only at hSw); go_simp; try with_reducible rfl
         try simp only [ZP, ZA, ZB, ZC, ZD, ZE, ZF]
         refine tkX 5 ?_ rfl ?_ ?_
         rotate_left
         ·intro w' hSw; (try dsimp only at hSw); go_simp; try with_reducible rfl
         try simp only [ZP, ZA, ZB, ZC, ZD, ZE, ZF]
         refine tkY [7] ?_
         refine ZS rfl (fun K hK => ?_) ZN
         have c0250 := bk248.cell 0
         have c1250 := bk248.cell 1
         have f0250 := bk248.frozen 0
         have f1250 := bk248.frozen 1
         simp only [ZG, ZH, ZJ] at c0250 c1250
         go_simp
         have hs250 : Below Wd.heap.size Wd ((V246.setCell ⟨F226, 0, none⟩ (ZI ZQ (-1))).setCell ⟨F226, 1, none⟩ (ZI ZQ 0)) := (hd247.setCell (p := ⟨F226, 0, none⟩) hge226 _).setCell (p := ⟨F226, 1, none⟩) hge226 _
         have hq250 : Blk ((V246.setCell ⟨F226, 0, none⟩ (ZI ZQ (-1))).setCell ⟨F226, 1, none⟩ (ZI ZQ 0)) F226 38 #[ZI ZQ (-1), ZI ZQ 0] := ((bk248.set 0 _).set 1 _).eq rfl
         refine hK.out _ _ (hs250) (fun hHeld => ?_)
         clear hK K
         try simp only [ZP, ZA, ZB, ZC, ZD, ZE, ZF]
         refine tkX 8 ?_ rfl ?_ ?_
         rotate_left
         ·intro w' hSw; (try dsimp only at hSw); go_simp; try with_reducible rfl
         try simp only [ZP, ZA, ZB, ZC, ZD, ZE, ZF]
         refine wpAnyH_done (by as_aux_lemma => kernel_rfl) ?_ _
         go_wp2_with fail
         go_meet
         exact ⟨rfl, ((hs250).block _ HF0.out.lt).trans HF0.out, HMN.out.later hs250⟩
        case rest =>
         obtain ⟨rfl, hf0, hmn⟩ := hcut
         clear HF0 HMN2
         have HF0 := hide hf0
         have HMN2 := hide hmn
         clear hf0 hmn
         have HBD := hide (fun W => (show Calls Try.prog 7 #[.agg #[.bool false, ZI ZQ 0, ZI ZQ 0, ZI ZQ 0, ZI ZQ 0, ZI ZQ 0, ZI ZQ 0, ZI ZQ 0, ZI ZQ 0, ZI ZQ 0], .slice none 0 0] W fun e w' => e = .returned (.tuple #[.agg #[ZI ZQ 0, ZI ZQ 0], ZI ZQ 9]) ∧ Below W.heap.size W w' from look_bad ⟨false, 0, 0, 0, 0, 0, 0, 0, 0, 0⟩ rfl none 0 0 W))
         go_wp2_with fail
         with_reducible refine (HBD.out _).mono ?_
         rintro y20 V20 ⟨rfl, hb20⟩
         go_upto_region 21 with (fail)
         have hb21 : Below wc.heap.size wc (V20.alloc (.cells #[ZI ZQ 0, ZI ZQ 0] 38)) := hb20.alloc hb20.size _
         have hm21 := HMN2.out.later hb21
         have hf21 : Blk _ F0 38 #[ZI ZQ 2, ZI ZQ 7] := (hb21.block _ HF0.out.lt).trans HF0.out
         obtain ⟨V, hV⟩ : ∃ y, V20.alloc (.cells #[ZI ZQ 0, ZI ZQ 0] 38) = y := ⟨_, rfl⟩
         rw [hV] at hm21 hf21
         rw [hV]
         have HM21 := hide hm21
         have HF21 := hide hf21
         clear hV hb21 hb20 hm21 hf21 HBD HMN2 HF0
         have hz7 : Blk ((V.alloc (.cells #[ZI ZQ 2, ZI ZQ 0, ZI ZQ 0, ZI ZQ 1200] 46)).alloc (.cells #[ZI ZQ 0, ZI ZQ 0, ZI ZQ 0, ZI ZQ 0, ZI ZQ 0, ZI ZQ 0, ZI ZQ 0, .bool false, .bool false, .bool false, .bool false, ZI ZQ 0, .slice none 0 0, .bool false, ZI ZQ 0, ZI ZQ 0, ZI ZQ 0, .slice none 0 0, ZI ZQ 0, ZI ZQ 0] 36)) (V.heap.size + 1) 36 #[ZI ZQ 0, ZI ZQ 0, ZI ZQ 0, ZI ZQ 0, ZI ZQ 0, ZI ZQ 0, ZI ZQ 0, .bool false, .bool false, .bool false, .bool false, ZI ZQ 0, .slice none 0 0, .bool false, ZI ZQ 0, ZI ZQ 0, ZI ZQ 0, .slice none 0 0, ZI ZQ 0, ZI ZQ 0] := by
          have := Blk.new (V.alloc (.cells #[ZI ZQ 2, ZI ZQ 0, ZI ZQ 0, ZI ZQ 1200] 46)) 36 #[ZI ZQ 0, ZI ZQ 0, ZI ZQ 0, ZI ZQ 0, ZI ZQ 0, ZI ZQ 0, ZI ZQ 0, .bool false, .bool false, .bool false, .bool false, ZI ZQ 0, .slice none 0 0, .bool false, ZI ZQ 0, ZI ZQ 0, ZI ZQ 0, .slice none 0 0, ZI ZQ 0, ZI ZQ 0]
          simpa using this
         have he7 : Blk ((V.alloc (.cells #[ZI ZQ 2, ZI ZQ 0, ZI ZQ 0, ZI ZQ 1200] 46)).alloc (.cells #[ZI ZQ 0, ZI ZQ 0, ZI ZQ 0, ZI ZQ 0, ZI ZQ 0, ZI ZQ 0, ZI ZQ 0, .bool false, .bool false, .bool false, .bool false, ZI ZQ 0, .slice none 0 0, .bool false, ZI ZQ 0, ZI ZQ 0, ZI ZQ 0, .slice none 0 0, ZI ZQ 0, ZI ZQ 0] 36)) V.heap.size 46 #[ZI ZQ 2, ZI ZQ 0, ZI ZQ 0, ZI ZQ 1200] := (Blk.new _ _ _).alloc _
         have hb7 : Below V.heap.size V (((V.alloc (.cells #[ZI ZQ 2, ZI ZQ 0, ZI ZQ 0, ZI ZQ 1200] 46)).alloc (.cells #[ZI ZQ 0, ZI ZQ 0, ZI ZQ 0, ZI ZQ 0, ZI ZQ 0, ZI ZQ 0, ZI ZQ 0, .bool false, .bool false, .bool false, .bool false, ZI ZQ 0, .slice none 0 0, .bool false, ZI ZQ 0, ZI ZQ 0, ZI ZQ 0, .slice none 0 0, ZI ZQ 0, ZI ZQ 0] 36)).setRow (V.heap.size + 1) #[ZI ZQ 4, ZI ZQ 1000000, ZI ZQ 0, ZI ZQ 0, ZI ZQ 0, ZI ZQ 0, ZI ZQ 0, .bool false, .bool false, .bool false, .bool false, ZI ZQ 0, .slice none 0 0, .bool false, ZI ZQ 0, ZI ZQ 0, ZI ZQ 0, .slice (some ⟨V.heap.size, 0, none⟩) 1 1, ZI ZQ 0, ZI ZQ 0]) := by
          have h0 : Below V.heap.size V ((V.alloc (.cells #[ZI ZQ 2, ZI ZQ 0, ZI ZQ 0, ZI ZQ 1200] 46)).alloc (.cells #[ZI ZQ 0, ZI ZQ 0, ZI ZQ 0, ZI ZQ 0, ZI ZQ 0, ZI ZQ 0, ZI ZQ 0, .bool false, .bool false, .bool false, .bool false, ZI ZQ 0, .slice none 0 0, .bool false, ZI ZQ 0, ZI ZQ 0, ZI ZQ 0, .slice none 0 0, ZI ZQ 0, ZI ZQ 0] 36)) := ((Below.refl _ _).alloc (Nat.le_refl _) _).alloc (by simp) _
          have ho : Only [V.heap.size + 1] ((V.alloc (.cells #[ZI ZQ 2, ZI ZQ 0, ZI ZQ 0, ZI ZQ 1200] 46)).alloc (.cells #[ZI ZQ 0, ZI ZQ 0, ZI ZQ 0, ZI ZQ 0, ZI ZQ 0, ZI ZQ 0, ZI ZQ 0, .bool false, .bool false, .bool false, .bool false, ZI ZQ 0, .slice none 0 0, .bool false, ZI ZQ 0, ZI ZQ 0, ZI ZQ 0, .slice none 0 0, ZI ZQ 0, ZI ZQ 0] 36)) (((V.alloc (.cells #[ZI ZQ 2, ZI ZQ 0, ZI ZQ 0, ZI ZQ 1200] 46)).alloc (.cells #[ZI ZQ 0, ZI ZQ 0, ZI ZQ 0, ZI ZQ 0, ZI ZQ 0, ZI ZQ 0, ZI ZQ 0, .bool false, .bool false, .bool false, .bool false, ZI ZQ 0, .slice none 0 0, .bool false, ZI ZQ 0, ZI ZQ 0, ZI ZQ 0, .slice none 0 0, ZI ZQ 0, ZI ZQ 0] 36)).setRow (V.heap.size + 1) #[ZI ZQ 4, ZI ZQ 1000000, ZI ZQ 0, ZI ZQ 0, ZI ZQ 0, ZI ZQ 0, ZI ZQ 0, .bool false, .bool false, .bool false, .bool false, ZI ZQ 0, .slice none 0 0, .bool false, ZI ZQ 0, ZI ZQ 0, ZI ZQ 0, .slice (some ⟨V.heap.size, 0, none⟩) 1 1, ZI ZQ 0, ZI ZQ 0]) := only_setRow
          exact h0.trans (ho.below (B := V.heap.size) (by intro x hx; rw [List.mem_singleton] at hx; omega) h0.size)
         have he7' : Blk (((V.alloc (.cells #[ZI ZQ 2, ZI ZQ 0, ZI ZQ 0, ZI ZQ 1200] 46)).alloc (.cells #[ZI ZQ 0, ZI ZQ 0, ZI ZQ 0, ZI ZQ 0, ZI ZQ 0, ZI ZQ 0, ZI ZQ 0, .bool false, .bool false, .bool false, .bool false, ZI ZQ 0, .slice none 0 0, .bool false, ZI ZQ 0, ZI ZQ 0, ZI ZQ 0, .slice none 0 0, ZI ZQ 0, ZI ZQ 0] 36)).setRow (V.heap.size + 1) #[ZI ZQ 4, ZI ZQ 1000000, ZI ZQ 0, ZI ZQ 0, ZI ZQ 0, ZI ZQ 0, ZI ZQ 0, .bool false, .bool false, .bool false, .bool false, ZI ZQ 0, .slice none 0 0, .bool false, ZI ZQ 0, ZI ZQ 0, ZI ZQ 0, .slice (some ⟨V.heap.size, 0, none⟩) 1 1, ZI ZQ 0, ZI ZQ 0]) V.heap.size 46 #[ZI ZQ 2, ZI ZQ 0, ZI ZQ 0, ZI ZQ 1200] := (show Only [V.heap.size + 1] _ _ from only_setRow).blk he7 (by simp)
         have hlo : Blk (((V.alloc (.cells #[ZI ZQ 2, ZI ZQ 0, ZI ZQ 0, ZI ZQ 1200] 46)).alloc (.cells #[ZI ZQ 0, ZI ZQ 0, ZI ZQ 0, ZI ZQ 0, ZI ZQ 0, ZI ZQ 0, ZI ZQ 0, .bool false, .bool false, .bool false, .bool false, ZI ZQ 0, .slice none 0 0, .bool false, ZI ZQ 0, ZI ZQ 0, ZI ZQ 0, .slice none 0 0, ZI ZQ 0, ZI ZQ 0] 36)).setRow (V.heap.size + 1) #[ZI ZQ 4, ZI ZQ 1000000, ZI ZQ 0, ZI ZQ 0, ZI ZQ 0, ZI ZQ 0, ZI ZQ 0, .bool false, .bool false, .bool false, .bool false, ZI ZQ 0, .slice none 0 0, .bool false, ZI ZQ 0, ZI ZQ 0, ZI ZQ 0, .slice (some ⟨V.heap.size, 0, none⟩) 1 1, ZI ZQ 0, ZI ZQ 0]) (V.heap.size + 1) 36 #[ZI ZQ 4, ZI ZQ 1000000, ZI ZQ 0, ZI ZQ 0, ZI ZQ 0, ZI ZQ 0, ZI ZQ 0, .bool false, .bool false, .bool false, .bool false, ZI ZQ 0, .slice none 0 0, .bool false, ZI ZQ 0, ZI ZQ 0, ZI ZQ 0, .slice (some ⟨V.heap.size, 0, none⟩) 1 1, ZI ZQ 0, ZI ZQ 0] := blk_setRow hz7
         have hm7 := HM21.out.later hb7
         have hf7 : Blk _ F0 38 #[ZI ZQ 2, ZI ZQ 7] := (hb7.block _ HF21.out.lt).trans HF21.out
         have HZ7 := hide hz7
         have HF7 := hide (And.intro hm7 (And.intro hf7 (And.intro he7' hlo)))
         clear hz7 he7 hb7 he7' hlo hm7 hf7 HM21 HF21
         go_upto_region 22 with (refine wpList_store_row rfl 36 (.tmp 18) (.tmp 149) rfl (V.heap.size + 1) #[ZI ZQ 4, ZI ZQ 1000000, ZI ZQ 0, ZI ZQ 0, ZI ZQ 0, ZI ZQ 0, ZI ZQ 0, .bool false, .bool false, .bool false, .bool false, ZI ZQ 0, .slice none 0 0, .bool false, ZI ZQ 0, ZI ZQ 0, ZI ZQ 0, .slice (some ⟨V.heap.size, 0, none⟩) 1 1, ZI ZQ 0, ZI ZQ 0] rfl rfl 36 #[ZI ZQ 0, ZI ZQ 0, ZI ZQ 0, ZI ZQ 0, ZI ZQ 0, ZI ZQ 0, ZI ZQ 0, .bool false, .bool false, .bool false, .bool false, ZI ZQ 0, .slice none 0 0, .bool false, ZI ZQ 0, ZI ZQ 0, ZI ZQ 0, .slice none 0 0, ZI ZQ 0, ZI ZQ 0] HZ7.out row_size rfl (by simp [Value.oneCell']) ?_)
         obtain ⟨U, hU⟩ : ∃ x, ((V.alloc (.cells #[ZI ZQ 2, ZI ZQ 0, ZI ZQ 0, ZI ZQ 1200] 46)).alloc (.cells #[ZI ZQ 0, ZI ZQ 0, ZI ZQ 0, ZI ZQ 0, ZI ZQ 0, ZI ZQ 0, ZI ZQ 0, .bool false, .bool false, .bool false, .bool false, ZI ZQ 0, .slice none 0 0, .bool false, ZI ZQ 0, ZI ZQ 0, ZI ZQ 0, .slice none 0 0, ZI ZQ 0, ZI ZQ 0] 36)).setRow (V.heap.size + 1) #[ZI ZQ 4, ZI ZQ 1000000, ZI ZQ 0, ZI ZQ 0, ZI ZQ 0, ZI ZQ 0, ZI ZQ 0, .bool false, .bool false, .bool false, .bool false, ZI ZQ 0, .slice none 0 0, .bool false, ZI ZQ 0, ZI ZQ 0, ZI ZQ 0, .slice (some ⟨V.heap.size, 0, none⟩) 1 1, ZI ZQ 0, ZI ZQ 0] = x := ⟨_, rfl⟩
         rw [hU] at HF7
         rw [hU]
         obtain ⟨a4, ha4⟩ : ∃ x, V.heap.size = x := ⟨_, rfl⟩
         rw [ha4] at HF7
         rw [ha4]
         clear hU HZ7 ha4
         have HWK := hide (fun W => works_any W)
         have HA0 := hide (fun W => (show Calls Try.prog 13 #[ZI ZQ 0] W fun e w' => e = .returned (.string { data := #[] }) ∧ Below W.heap.size W w' from name_any 0 W))
         have HA1 := hide (fun W => (show Calls Try.prog 13 #[ZI ZQ 12] W fun e w' => e = .returned (.string { data := #[] }) ∧ Below W.heap.size W w' from name_any 12 W))
         have HA2 := hide (fun W => (show Calls Try.prog 13 #[ZI ZQ 11] W fun e w' => e = .returned (.string { data := #[116, 111, 108, 100] }) ∧ Below W.heap.size W w' from name_any 11 W))
         go_wp2_with fail
         with_reducible refine (HWK.out _).mono ?_
         rintro y1 U1 ⟨rfl, hb1⟩
         have HF1 := hide (And.intro (HF7.out.1.later hb1) (And.intro (show Blk U1 F0 38 #[ZI ZQ 2, ZI ZQ 7] from (hb1.block _ HF7.out.2.1.lt).trans HF7.out.2.1) (And.intro (show Blk U1 a4 46 #[ZI ZQ 2, ZI ZQ 0, ZI ZQ 0, ZI ZQ 1200] from (hb1.block _ HF7.out.2.2.1.lt).trans HF7.out.2.2.1) (show Blk U1 (a4 + 1) 36 #[ZI ZQ 4, ZI ZQ 1000000, ZI ZQ 0, ZI ZQ 0, ZI ZQ 0, ZI ZQ 0, ZI ZQ 0, .bool false, .bool false, .bool false, .bool false, ZI ZQ 0, .slice none 0 0, .bool false, ZI ZQ 0, ZI ZQ 0, ZI ZQ 0, .slice (some ⟨a4, 0, none⟩) 1 1, ZI ZQ 0, ZI ZQ 0] from (hb1.block _ HF7.out.2.2.2.lt).trans HF7.out.2.2.2))))
         clear hb1 HF7 HWK
         go_wp2_with fail
         with_reducible refine (many_call HF1.out.1.mn).mono ?_
         rintro y2 U2 ⟨rfl, hb2⟩
         have HF2 := hide (And.intro (HF1.out.1.later hb2) (And.intro (show Blk U2 F0 38 #[ZI ZQ 2, ZI ZQ 7] from (hb2.block _ HF1.out.2.1.lt).trans HF1.out.2.1) (And.intro (show Blk U2 a4 46 #[ZI ZQ 2, ZI ZQ 0, ZI ZQ 0, ZI ZQ 1200] from (hb2.block _ HF1.out.2.2.1.lt).trans HF1.out.2.2.1) (show Blk U2 (a4 + 1) 36 #[ZI ZQ 4, ZI ZQ 1000000, ZI ZQ 0, ZI ZQ 0, ZI ZQ 0, ZI ZQ 0, ZI ZQ 0, .bool false, .bool false, .bool false, .bool false, ZI ZQ 0, .slice none 0 0, .bool false, ZI ZQ 0, ZI ZQ 0, ZI ZQ 0, .slice (some ⟨a4, 0, none⟩) 1 1, ZI ZQ 0, ZI ZQ 0] from (hb2.block _ HF1.out.2.2.2.lt).trans HF1.out.2.2.2))))
         clear hb2 HF1
         have F00 := HF2.out.2.1.cell 0
         have F01 := HF2.out.2.1.cell 1
         simp only [ZG, ZH, ZJ] at F00 F01
         have HS := hide (show Blk U2 X1 36 #[ZI ZQ 1, ZI ZQ 0, ZI ZQ 0, ZI ZQ 0, ZI ZQ 0, ZI ZQ 0, ZI ZQ 1200, .bool true, .bool true, .bool false, .bool false, ZI ZQ 0, .slice none 0 0, .bool false, ZI ZQ 0, ZI ZQ 0, ZI ZQ 0, .slice none 0 0, ZI ZQ 0, ZI ZQ 0] from HF2.out.1.kh.s)
         have HAK2 := hide (show Blk U2 (a3 + 1) 36 #[ZI ZQ 4, ZI ZQ 0, ZI ZQ 0, ZI ZQ 0, ZI ZQ 0, ZI ZQ 0, ZI ZQ 0, .bool false, .bool false, .bool false, .bool false, ZI ZQ 0, .slice none 0 0, .bool false, ZI ZQ 0, ZI ZQ 0, ZI ZQ 0, .slice (some ⟨a3, 0, none⟩) 1 1, ZI ZQ 0, ZI ZQ 0] from HF2.out.1.kh.ak)
         have HP1 := hide (show Blk U2 X3 36 #[ZI ZQ 1, ZI ZQ 0, ZI ZQ 0, ZI ZQ 0, ZI ZQ 0, ZI ZQ 1, ZI ZQ 9, .bool true, .bool true, .bool true, .bool false, ZI ZQ 0, .slice none 0 0, .bool false, ZI ZQ 0, ZI ZQ 0, ZI ZQ 0, .slice none 0 0, ZI ZQ 0, ZI ZQ 0] from HF2.out.1.kh.pr)
         have HP2 := hide (show Blk U2 X4 36 #[ZI ZQ 1, ZI ZQ 0, ZI ZQ 0, ZI ZQ 0, ZI ZQ 0, ZI ZQ 2, ZI ZQ 9, .bool true, .bool true, .bool true, .bool false, ZI ZQ 0, .slice none 0 0, .bool false, ZI ZQ 0, ZI ZQ 0, ZI ZQ 0, .slice none 0 0, ZI ZQ 0, ZI ZQ 0] from HF2.out.1.kh.ot)
         go_wp2_with (first
          | (refine wpList_load_rowW (by rfl) 36 (.tmp 1) rfl X1 rfl 36 #[ZI ZQ 1, ZI ZQ 0, ZI ZQ 0, ZI ZQ 0, ZI ZQ 0, ZI ZQ 0, ZI ZQ 1200, .bool true, .bool true, .bool false, .bool false, ZI ZQ 0, .slice none 0 0, .bool false, ZI ZQ 0, ZI ZQ 0, ZI ZQ 0, .slice none 0 0, ZI ZQ 0, ZI ZQ 0] (0, 0) _ HS.out Try.underlying36 rfl row_size ?_)
          | (refine wpList_load_rowW (by rfl) 36 (.tmp 5) rfl (a3 + 1) rfl 36 #[ZI ZQ 4, ZI ZQ 0, ZI ZQ 0, ZI ZQ 0, ZI ZQ 0, ZI ZQ 0, ZI ZQ 0, .bool false, .bool false, .bool false, .bool false, ZI ZQ 0, .slice none 0 0, .bool false, ZI ZQ 0, ZI ZQ 0, ZI ZQ 0, .slice (some ⟨a3, 0, none⟩) 1 1, ZI ZQ 0, ZI ZQ 0] (0, 0) _ HAK2.out Try.underlying36 rfl row_size ?_)
          | (refine wpList_load_rowW (by rfl) 36 (.tmp 3) rfl X3 rfl 36 #[ZI ZQ 1, ZI ZQ 0, ZI ZQ 0, ZI ZQ 0, ZI ZQ 0, ZI ZQ 1, ZI ZQ 9, .bool true, .bool true, .bool true, .bool false, ZI ZQ 0, .slice none 0 0, .bool false, ZI ZQ 0, ZI ZQ 0, ZI ZQ 0, .slice none 0 0, ZI ZQ 0, ZI ZQ 0] (0, 0) _ HP1.out Try.underlying36 rfl row_size ?_)
          | (refine wpList_load_rowW (by rfl) 36 (.tmp 4) rfl X4 rfl 36 #[ZI ZQ 1, ZI ZQ 0, ZI ZQ 0, ZI ZQ 0, ZI ZQ 0, ZI ZQ 2, ZI ZQ 9, .bool true, .bool true, .bool true, .bool false, ZI ZQ 0, .slice none 0 0, .bool false, ZI ZQ 0, ZI ZQ 0, ZI ZQ 0, .slice none 0 0, ZI ZQ 0, ZI ZQ 0] (0, 0) _ HP2.out Try.underlying36 rfl row_size ?_))
         have hg3 : Blk (U2.alloc (.cells #[ZI ZQ 1, ZI ZQ 0, ZI ZQ 0, ZI ZQ 0, ZI ZQ 0, ZI ZQ 0, ZI ZQ 1200, .bool true, .bool true, .bool false, .bool false, ZI ZQ 0, .slice none 0 0, .bool false, ZI ZQ 0, ZI ZQ 0, ZI ZQ 0, .slice none 0 0, ZI ZQ 0, ZI ZQ 0, ZI ZQ 4, ZI ZQ 0, ZI ZQ 0, ZI ZQ 0, ZI ZQ 0, ZI ZQ 0, ZI ZQ 0, .bool false, .bool false, .bool false, .bool false, ZI ZQ 0, .slice none 0 0, .bool false, ZI ZQ 0, ZI ZQ 0, ZI ZQ 0, .slice (some ⟨a3, 0, none⟩) 1 1, ZI ZQ 0, ZI ZQ 0, ZI ZQ 1, ZI ZQ 0, ZI ZQ 0, ZI ZQ 0, ZI ZQ 0, ZI ZQ 1, ZI ZQ 9, .bool true, .bool true, .bool true, .bool false, ZI ZQ 0, .slice none 0 0, .bool false, ZI ZQ 0, ZI ZQ 0, ZI ZQ 0, .slice none 0 0, ZI ZQ 0, ZI ZQ 0, ZI ZQ 1, ZI ZQ 0, ZI ZQ 0, ZI ZQ 0, ZI ZQ 0, ZI ZQ 2, ZI ZQ 9, .bool true, .bool true, .bool true, .bool false, ZI ZQ 0, .slice none 0 0, .bool false, ZI ZQ 0, ZI ZQ 0, ZI ZQ 0, .slice none 0 0, ZI ZQ 0, ZI ZQ 0] 36)) U2.heap.size 36 ((probL a3).flatMap rrL).toArray := Blk.new _ _ _
         have hb3 : Below U2.heap.size U2 (U2.alloc (.cells #[ZI ZQ 1, ZI ZQ 0, ZI ZQ 0, ZI ZQ 0, ZI ZQ 0, ZI ZQ 0, ZI ZQ 1200, .bool true, .bool true, .bool false, .bool false, ZI ZQ 0, .slice none 0 0, .bool false, ZI ZQ 0, ZI ZQ 0, ZI ZQ 0, .slice none 0 0, ZI ZQ 0, ZI ZQ 0, ZI ZQ 4, ZI ZQ 0, ZI ZQ 0, ZI ZQ 0, ZI ZQ 0, ZI ZQ 0, ZI ZQ 0, .bool false, .bool false, .bool false, .bool false, ZI ZQ 0, .slice none 0 0, .bool false, ZI ZQ 0, ZI ZQ 0, ZI ZQ 0, .slice (some ⟨a3, 0, none⟩) 1 1, ZI ZQ 0, ZI ZQ 0, ZI ZQ 1, ZI ZQ 0, ZI ZQ 0, ZI ZQ 0, ZI ZQ 0, ZI ZQ 1, ZI ZQ 9, .bool true, .bool true, .bool true, .bool false, ZI ZQ 0, .slice none 0 0, .bool false, ZI ZQ 0, ZI ZQ 0, ZI ZQ 0, .slice none 0 0, ZI ZQ 0, ZI ZQ 0, ZI ZQ 1, ZI ZQ 0, ZI ZQ 0, ZI ZQ 0, ZI ZQ 0, ZI ZQ 2, ZI ZQ 9, .bool true, .bool true, .bool true, .bool false, ZI ZQ 0, .slice none 0 0, .bool false, ZI ZQ 0, ZI ZQ 0, ZI ZQ 0, .slice none 0 0, ZI ZQ 0, ZI ZQ 0] 36)) := (Below.refl _ _).alloc (Nat.le_refl _) _
         with_reducible refine (prob_call (HF2.out.1.kh.later hb3) _ hg3).mono ?_
         rintro y3 U3 ⟨rfl, hb3'⟩
         have hb4 := hb3.trans (hb3'.mono hb3.size)
         have HS3 := hide (show Blk U3 X1 36 #[ZI ZQ 1, ZI ZQ 0, ZI ZQ 0, ZI ZQ 0, ZI ZQ 0, ZI ZQ 0, ZI ZQ 1200, .bool true, .bool true, .bool false, .bool false, ZI ZQ 0, .slice none 0 0, .bool false, ZI ZQ 0, ZI ZQ 0, ZI ZQ 0, .slice none 0 0, ZI ZQ 0, ZI ZQ 0] from (hb4.block _ HS.out.lt).trans HS.out)
         have HL3 := hide (show Blk U3 (a4 + 1) 36 #[ZI ZQ 4, ZI ZQ 1000000, ZI ZQ 0, ZI ZQ 0, ZI ZQ 0, ZI ZQ 0, ZI ZQ 0, .bool false, .bool false, .bool false, .bool false, ZI ZQ 0, .slice none 0 0, .bool false, ZI ZQ 0, ZI ZQ 0, ZI ZQ 0, .slice (some ⟨a4, 0, none⟩) 1 1, ZI ZQ 0, ZI ZQ 0] from (hb4.block _ HF2.out.2.2.2.lt).trans HF2.out.2.2.2)
         have HE3 := hide (show Blk U3 a4 46 #[ZI ZQ 2, ZI ZQ 0, ZI ZQ 0, ZI ZQ 1200] from (hb4.block _ HF2.out.2.2.1.lt).trans HF2.out.2.2.1)
         have HW3 := hide ((show Below w.heap.size w U2 from HF2.out.1.kh.bl).trans (hb4.mono HF2.out.1.kh.bl.size))
         clear hg3 hb3 hb3' hb4 HS HAK2 HP1 HP2 HF2 F00 F01
         go_wp2_with (first
          | (refine wpList_load_rowW (by rfl) 36 (.tmp 1) rfl X1 rfl 36 #[ZI ZQ 1, ZI ZQ 0, ZI ZQ 0, ZI ZQ 0, ZI ZQ 0, ZI ZQ 0, ZI ZQ 1200, .bool true, .bool true, .bool false, .bool false, ZI ZQ 0, .slice none 0 0, .bool false, ZI ZQ 0, ZI ZQ 0, ZI ZQ 0, .slice none 0 0, ZI ZQ 0, ZI ZQ 0] (0, 0) _ HS3.out Try.underlying36 rfl row_size ?_)
          | (refine wpList_load_rowW (by rfl) 36 (.tmp 18) rfl (a4 + 1) rfl 36 #[ZI ZQ 4, ZI ZQ 1000000, ZI ZQ 0, ZI ZQ 0, ZI ZQ 0, ZI ZQ 0, ZI ZQ 0, .bool false, .bool false, .bool false, .bool false, ZI ZQ 0, .slice none 0 0, .bool false, ZI ZQ 0, ZI ZQ 0, ZI ZQ 0, .slice (some ⟨a4, 0, none⟩) 1 1, ZI ZQ 0, ZI ZQ 0] (0, 0) _ HL3.out Try.underlying36 rfl row_size ?_))
         have hg4 : Blk (U3.alloc (.cells #[ZI ZQ 1, ZI ZQ 0, ZI ZQ 0, ZI ZQ 0, ZI ZQ 0, ZI ZQ 0, ZI ZQ 1200, .bool true, .bool true, .bool false, .bool false, ZI ZQ 0, .slice none 0 0, .bool false, ZI ZQ 0, ZI ZQ 0, ZI ZQ 0, .slice none 0 0, ZI ZQ 0, ZI ZQ 0, ZI ZQ 4, ZI ZQ 1000000, ZI ZQ 0, ZI ZQ 0, ZI ZQ 0, ZI ZQ 0, ZI ZQ 0, .bool false, .bool false, .bool false, .bool false, ZI ZQ 0, .slice none 0 0, .bool false, ZI ZQ 0, ZI ZQ 0, ZI ZQ 0, .slice (some ⟨a4, 0, none⟩) 1 1, ZI ZQ 0, ZI ZQ 0] 36)) U3.heap.size 36 ((lostL a4).flatMap rrL).toArray := Blk.new _ _ _
         have hb4 : Below U3.heap.size U3 (U3.alloc (.cells #[ZI ZQ 1, ZI ZQ 0, ZI ZQ 0, ZI ZQ 0, ZI ZQ 0, ZI ZQ 0, ZI ZQ 1200, .bool true, .bool true, .bool false, .bool false, ZI ZQ 0, .slice none 0 0, .bool false, ZI ZQ 0, ZI ZQ 0, ZI ZQ 0, .slice none 0 0, ZI ZQ 0, ZI ZQ 0, ZI ZQ 4, ZI ZQ 1000000, ZI ZQ 0, ZI ZQ 0, ZI ZQ 0, ZI ZQ 0, ZI ZQ 0, .bool false, .bool false, .bool false, .bool false, ZI ZQ 0, .slice none 0 0, .bool false, ZI ZQ 0, ZI ZQ 0, ZI ZQ 0, .slice (some ⟨a4, 0, none⟩) 1 1, ZI ZQ 0, ZI ZQ 0] 36)) := (Below.refl _ _).alloc (Nat.le_refl _) _
         have he4 : Blk (U3.alloc (.cells #[ZI ZQ 1, ZI ZQ 0, ZI ZQ 0, ZI ZQ 0, ZI ZQ 0, ZI ZQ 0, ZI ZQ 1200, .bool true, .bool true, .bool false, .bool false, ZI ZQ 0, .slice none 0 0, .bool false, ZI ZQ 0, ZI ZQ 0, ZI ZQ 0, .slice none 0 0, ZI ZQ 0, ZI ZQ 0, ZI ZQ 4, ZI ZQ 1000000, ZI ZQ 0, ZI ZQ 0, ZI ZQ 0, ZI ZQ 0, ZI ZQ 0, .bool false, .bool false, .bool false, .bool false, ZI ZQ 0, .slice none 0 0, .bool false, ZI ZQ 0, ZI ZQ 0, ZI ZQ 0, .slice (some ⟨a4, 0, none⟩) 1 1, ZI ZQ 0, ZI ZQ 0] 36)) a4 46 #[ZI ZQ 2, ZI ZQ 0, ZI ZQ 0, ZI ZQ 1200] := (hb4.block _ HE3.out.lt).trans HE3.out
         with_reducible refine (lost_call he4 _ hg4).mono ?_
         rintro y4 U4 ⟨rfl, hb5⟩
         have HW4 := hide (HW3.out.trans ((hb4.trans (hb5.mono hb4.size)).mono HW3.out.size))
         clear hg4 hb4 he4 hb5 HS3 HL3 HE3 HW3
         go_wp2_with fail
         with_reducible refine (HA0.out _).mono ?_
         rintro y5 U5 ⟨rfl, hb6⟩
         go_wp2_with fail
         with_reducible refine (HA1.out _).mono ?_
         rintro y6 U6 ⟨rfl, hb7⟩
         go_wp2_with fail
         with_reducible refine (HA2.out _).mono ?_
         rintro y7 U7 ⟨rfl, hb8⟩
         have HW5 := hide (HW4.out.trans (hb6.mono HW4.out.size))
         have HW6 := hide (HW5.out.trans (hb7.mono HW5.out.size))
         have HW7 := hide (HW6.out.trans (hb8.mono HW6.out.size))
         clear hb6 hb7 hb8 HW4 HW5 HW6
         go_wp2_with fail
         go_ret
         exact ⟨rfl, HW7.out⟩
end Go.Proofs.Ytidfngcclbhoaaa
