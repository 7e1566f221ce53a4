/-
 Look that refuses, Name, works: 5 texts in one (JgLookE, JgWorksA, JgWorksB, JgWorksC, JgWorks).
-/
import Derived.Test.YtidfngcclbhoaaaJgLook
import Derived.Test.YtidfngcclbhoaaaJgRowQ
import Derived.Deep.RegionHeld3
namespace Go.Proofs.Ytidfngcclbhoaaa
open List renaming getElem_toArray → ZA, getElem_cons_zero → ZB, getElem_cons_succ → ZC, setIfInBounds_toArray → ZD, set_cons_zero → ZE, set_cons_succ → ZF, getElem?_toArray → ZG, getElem?_cons_zero → ZH, getElem?_cons_succ → ZJ
open Go.AllReadyH renaming cons → ZS, nil → ZN
open Go.Act renaming put → ZP
open Go.Value renaming int → ZI
open Go.IntKind renaming i64 → ZQ
set_option linter.unusedSimpArgs false
set_option linter.unusedVariables false
open Go.RowKit Go.Shelf
set_option maxRecDepth 100000 in
set_option maxHeartbeats 4000000 in
theorem look_bad (c : CF) (hc : errC c = 9) (A : Option Addr) (n cap : Nat) (w : World) :
  Calls Try.prog 7 #[.agg (confC c), .slice A n cap] w fun e w' => e = .returned (.tuple #[.agg #[ZI ZQ 0, ZI ZQ 0], ZI ZQ 9]) ∧ Below w.heap.size w w' := by
 have HCK := hide (fun W => check_any c W)
 rw [hc] at HCK
 clear hc
 obtain ⟨sv, d, first, most, rtt, delay, ex, burst, room, backs⟩ := c
 unfold confC at HCK ⊢
 go_enter Try.func7, Try.ntmps7
 go_wp2_with fail
 refine (HCK.out _).mono ?_
 rintro y1 W1 ⟨rfl, hb1⟩
 have hfd0 := Blk.new (w.alloc (.cells #[.bool sv, ZI ZQ d, ZI ZQ first, ZI ZQ most, ZI ZQ rtt, ZI ZQ delay, ZI ZQ ex, ZI ZQ burst, ZI ZQ room, ZI ZQ backs] 24)) 38 #[ZI ZQ 0, ZI ZQ 0]
 rw [show (w.alloc (.cells #[.bool sv, ZI ZQ d, ZI ZQ first, ZI ZQ most, ZI ZQ rtt, ZI ZQ delay, ZI ZQ ex, ZI ZQ burst, ZI ZQ room, ZI ZQ backs] 24)).heap.size = w.heap.size + 1 by simp] at hfd0
 have hfd : Blk W1 (w.heap.size + 1) 38 #[ZI ZQ 0, ZI ZQ 0] := (hb1.block _ (by simp)).trans hfd0
 have hbw : Below w.heap.size w W1 := (((Below.refl _ _).alloc (Nat.le_refl _) _).alloc (by simp) _).trans (hb1.mono (by simp; omega))
 have HBW := hide hbw
 have e0 := hfd.cell 0
 have e1 := hfd.cell 1
 have g0 := hfd.frozen 0
 have g1 := hfd.frozen 1
 simp only [ZG, ZH, ZJ] at e0 e1
 have z0 := ((hfd.set 0 (ZI ZQ 0)).set 1 (ZI ZQ 0)).cell 0
 have z1 := ((hfd.set 0 (ZI ZQ 0)).set 1 (ZI ZQ 0)).cell 1
 have Z := hide (And.intro z0 z1)
 clear hb1 hfd0 hfd hbw HCK z0 z1
 go_wp2_with fail
 obtain ⟨z0, z1⟩ := Z.out
 simp at z0 z1
 have hfin : Below w.heap.size w ((W1.setCell ⟨w.heap.size + 1, 0, none⟩ (ZI ZQ 0)).setCell ⟨w.heap.size + 1, 1, none⟩ (ZI ZQ 0)) := (HBW.out.setCell (p := ⟨w.heap.size + 1, 0, none⟩) (by simp) _).setCell (p := ⟨w.heap.size + 1, 1, none⟩) (by simp) _
 exact bodyPost_ret (v := .tuple #[.agg #[ZI ZQ 0, ZI ZQ 0], ZI ZQ 9]) (by simp [results, Try.results7, go_sem, z0, z1]) rfl ⟨rfl, hfin⟩
set_option maxRecDepth 100000 in
set_option maxHeartbeats 4000000 in
theorem look_many (c : CF) (hc : errC c = 0) (A : Option Addr) (n cap : Nat) (hn : 1000 < n) (w : World) :
  Calls Try.prog 7 #[.agg (confC c), .slice A n cap] w fun e w' => e = .returned (.tuple #[.agg #[ZI ZQ 0, ZI ZQ 0], ZI ZQ 5]) ∧ Below w.heap.size w w' := by
 have HCK := hide (fun W => check_any c W)
 rw [hc] at HCK
 clear hc
 have hnI : (1000 : Int) < (n : Int) := by omega
 obtain ⟨sv, d, first, most, rtt, delay, ex, burst, room, backs⟩ := c
 unfold confC at HCK ⊢
 go_enter Try.func7, Try.ntmps7
 go_wp2_with fail
 refine (HCK.out _).mono ?_
 rintro y1 W1 ⟨rfl, hb1⟩
 have hfd0 := Blk.new (w.alloc (.cells #[.bool sv, ZI ZQ d, ZI ZQ first, ZI ZQ most, ZI ZQ rtt, ZI ZQ delay, ZI ZQ ex, ZI ZQ burst, ZI ZQ room, ZI ZQ backs] 24)) 38 #[ZI ZQ 0, ZI ZQ 0]
 rw [show (w.alloc (.cells #[.bool sv, ZI ZQ d, ZI ZQ first, ZI ZQ most, ZI ZQ rtt, ZI ZQ delay, ZI ZQ ex, ZI ZQ burst, ZI ZQ room, ZI ZQ backs] 24)).heap.size = w.heap.size + 1 by simp] at hfd0
 have hfd : Blk W1 (w.heap.size + 1) 38 #[ZI ZQ 0, ZI ZQ 0] := (hb1.block _ (by simp)).trans hfd0
 have hbw : Below w.heap.size w W1 := (((Below.refl _ _).alloc (Nat.le_refl _) _).alloc (by simp) _).trans (hb1.mono (by simp; omega))
 have HBW := hide hbw
 have e0 := hfd.cell 0
 have e1 := hfd.cell 1
 have g0 := hfd.frozen 0
 have g1 := hfd.frozen 1
 simp only [ZG, ZH, ZJ] at e0 e1
 have z0 := ((hfd.set 0 (ZI ZQ 0)).set 1 (ZI ZQ 0)).cell 0
 have z1 := ((hfd.set 0 (ZI ZQ 0)).set 1 (ZI ZQ 0)).cell 1
 have Z := hide (And.intro z0 z1)
 clear hb1 hfd0 hfd hbw HCK z0 z1
 go_wp2_with fail
 obtain ⟨z0, z1⟩ := Z.out
 simp at z0 z1
 have hfin : Below w.heap.size w ((W1.setCell ⟨w.heap.size + 1, 0, none⟩ (ZI ZQ 0)).setCell ⟨w.heap.size + 1, 1, none⟩ (ZI ZQ 0)) := (HBW.out.setCell (p := ⟨w.heap.size + 1, 0, none⟩) (by simp) _).setCell (p := ⟨w.heap.size + 1, 1, none⟩) (by simp) _
 exact bodyPost_ret (v := .tuple #[.agg #[ZI ZQ 0, ZI ZQ 0], ZI ZQ 5]) (by simp [results, Try.results7, go_sem, z0, z1]) rfl ⟨rfl, hfin⟩
/-- A rule's name. -/
def ruleJ (n : Int) : List UInt8 :=
 if n = 1 then [115, 104, 117, 116] else if n = 2 then [114, 101, 102, 117, 115, 101, 100] else if n = 3 then [116, 105, 109, 101] else if n = 4 then [115, 101, 110, 116] else if n = 5 then [119, 105, 110, 100, 111, 119]
 else if n = 6 then [112, 114, 111, 98, 101] else if n = 7 then [97, 99, 99, 111, 117, 110, 116] else if n = 8 then [112, 97, 99, 101] else if n = 9 then [97, 99, 107, 101, 100] else if n = 10 then [108, 111, 115, 116] else if n = 11 then [116, 111, 108, 100] else []
def ruleB (n : Int) : ByteArray := ⟨(ruleJ n).toArray⟩
set_option maxRecDepth 100000 in
set_option maxHeartbeats 4000000 in
theorem name_any (n : Int) (w : World) : Calls Try.prog 13 #[ZI ZQ n] w fun e w' => e = .returned (.string (ruleB n)) ∧ Below w.heap.size w w' := by
 by_cases h0 : n < 0
 ·go_enter Try.func13, Try.ntmps13
  go_wp2_with fail
  go_ret
  have hn : ruleB n = ⟨#[]⟩ := by
   unfold ruleB ruleJ
   repeat rw [if_neg (by omega)]
  exact ⟨by rw [hn]; rfl, (Below.refl _ _).alloc (Nat.le_refl _) _⟩
 by_cases h1 : 12 ≤ n
 ·go_enter Try.func13, Try.ntmps13
  go_wp2_with fail
  go_ret
  have hn : ruleB n = ⟨#[]⟩ := by
   unfold ruleB ruleJ
   repeat rw [if_neg (by omega)]
  exact ⟨by rw [hn]; rfl, (Below.refl _ _).alloc (Nat.le_refl _) _⟩
 rcases (by omega : n = 0 ∨ n = 1 ∨ n = 2 ∨ n = 3 ∨ n = 4 ∨ n = 5 ∨ n = 6 ∨ n = 7 ∨ n = 8 ∨ n = 9 ∨ n = 10 ∨ n = 11) with rfl | rfl | rfl | rfl | rfl | rfl | rfl | rfl | rfl | rfl | rfl | rfl
 all_goals
  clear h0 h1
  go_enter Try.func13, Try.ntmps13
  go_wp2_with fail
  go_ret
  exact ⟨rfl, (Below.refl _ _).alloc (Nat.le_refl _) _⟩
end Go.Proofs.Ytidfngcclbhoaaa

namespace Go.Proofs.Ytidfngcclbhoaaa
open List renaming getElem_toArray → ZA, getElem_cons_zero → ZB, getElem_cons_succ → ZC, setIfInBounds_toArray → ZD, set_cons_zero → ZE, set_cons_succ → ZF, getElem?_toArray → ZG, getElem?_cons_zero → ZH, getElem?_cons_succ → ZJ
open Go.AllReadyH renaming cons → ZS, nil → ZN
open Go.Act renaming put → ZP
open Go.Value renaming int → ZI
open Go.IntKind renaming i64 → ZQ
set_option linter.unusedSimpArgs false
set_option linter.unusedVariables false
open Go.RowKit Go.Shelf
def setC : CF := ⟨false, 1200, 12000, 16777216, 333000000, 25000000, 3, 12000, 256, 6⟩
theorem setting_any (w : World) : Calls Try.prog 6 #[.bool false] w fun e w' => e = .returned (.agg #[.bool false, ZI ZQ 1200, ZI ZQ 12000, ZI ZQ 16777216, ZI ZQ 333000000, ZI ZQ 25000000, ZI ZQ 3, ZI ZQ 12000, ZI ZQ 256, ZI ZQ 6]) ∧ Below w.heap.size w w' := by
 go_enter Try.func6, Try.ntmps6
 go_wp2_with fail
 exact bodyPost_ret (v := .agg #[.bool false, ZI ZQ 1200, ZI ZQ 12000, ZI ZQ 16777216, ZI ZQ 333000000, ZI ZQ 25000000, ZI ZQ 3, ZI ZQ 12000, ZI ZQ 256, ZI ZQ 6]) (by simp [results, Try.results6, go_sem]) rfl ⟨rfl, (Below.refl _ _).alloc (Nat.le_refl _) _⟩
/-- The row of a packet: sends. -/
def sRow (n t : Int) : RW := ⟨1, t, 0, 0, ⟨0, n, 1200, true, true, false, false⟩, 0, none, 0, 0, false, 0, 0, 0, none, 0, 0, 0, 0⟩
set_option maxRecDepth 100000 in
set_option maxHeartbeats 2000000 in
theorem sends_law (n t : Int) (w : World) : Calls Try.prog 9 #[ZI ZQ n, ZI ZQ t] w fun e w' => e = .returned (.agg #[ZI ZQ 1, ZI ZQ t, ZI ZQ 0, ZI ZQ 0, ZI ZQ 0, ZI ZQ n, ZI ZQ 1200, .bool true, .bool true, .bool false, .bool false, ZI ZQ 0, .slice none 0 0, .bool false, ZI ZQ 0, ZI ZQ 0, ZI ZQ 0, .slice none 0 0, ZI ZQ 0, ZI ZQ 0]) ∧ Below w.heap.size w w' := by
 have HA := hide (Blk.new w 36 #[ZI ZQ 0, ZI ZQ 0, ZI ZQ 0, ZI ZQ 0, ZI ZQ 0, ZI ZQ 0, ZI ZQ 0, .bool false, .bool false, .bool false, .bool false, ZI ZQ 0, .slice none 0 0, .bool false, ZI ZQ 0, ZI ZQ 0, ZI ZQ 0, .slice none 0 0, ZI ZQ 0, ZI ZQ 0])
 go_enter Try.func9, Try.ntmps9
 go_wp2_with (refine wpList_store_row rfl 36 (.tmp 4) (.tmp 8) rfl w.heap.size #[ZI ZQ 1, ZI ZQ t, ZI ZQ 0, ZI ZQ 0, ZI ZQ 0, ZI ZQ n, ZI ZQ 1200, .bool true, .bool true, .bool false, .bool false, ZI ZQ 0, .slice none 0 0, .bool false, ZI ZQ 0, ZI ZQ 0, ZI ZQ 0, .slice none 0 0, ZI ZQ 0, ZI ZQ 0] rfl rfl 36 _ HA.out row_size rfl (by simp [Value.oneCell']) ?_)
 have hr := blk_setRow (cs := #[ZI ZQ 1, ZI ZQ t, ZI ZQ 0, ZI ZQ 0, ZI ZQ 0, ZI ZQ n, ZI ZQ 1200, .bool true, .bool true, .bool false, .bool false, ZI ZQ 0, .slice none 0 0, .bool false, ZI ZQ 0, ZI ZQ 0, ZI ZQ 0, .slice none 0 0, ZI ZQ 0, ZI ZQ 0]) HA.out
 refine bodyPost_ret (v := .agg #[ZI ZQ 1, ZI ZQ t, ZI ZQ 0, ZI ZQ 0, ZI ZQ 0, ZI ZQ n, ZI ZQ 1200, .bool true, .bool true, .bool false, .bool false, ZI ZQ 0, .slice none 0 0, .bool false, ZI ZQ 0, ZI ZQ 0, ZI ZQ 0, .slice none 0 0, ZI ZQ 0, ZI ZQ 0]) (results_cell_row rfl _ _ w.heap.size 36 _ (0, 0) _ rfl hr Try.underlying36 rfl row_size) rfl ⟨rfl, row_new w _ _ _⟩
theorem acks_world (w : World) (zr B C cs : Array Value) (tA tB tC : TypeId) : Blk ((((w.alloc (.cells zr tA)).alloc (.cells B tB)).alloc (.cells C tC)).setRow w.heap.size cs) w.heap.size tA cs ∧ Blk ((((w.alloc (.cells zr tA)).alloc (.cells B tB)).alloc (.cells C tC)).setRow w.heap.size cs) (w.heap.size + 1) tB B ∧
  Blk ((((w.alloc (.cells zr tA)).alloc (.cells B tB)).alloc (.cells C tC)).setRow w.heap.size cs) (w.heap.size + 2) tC C ∧ Below w.heap.size w ((((w.alloc (.cells zr tA)).alloc (.cells B tB)).alloc (.cells C tC)).setRow w.heap.size cs) := by
 have h0 : Blk (((w.alloc (.cells zr tA)).alloc (.cells B tB)).alloc (.cells C tC)) w.heap.size tA zr := ((Blk.new _ _ _).alloc _).alloc _
 have h1 : Blk (((w.alloc (.cells zr tA)).alloc (.cells B tB)).alloc (.cells C tC)) (w.heap.size + 1) tB B := by
  have := (Blk.new (w.alloc (.cells zr tA)) tB B).alloc (.cells C tC)
  simpa using this
 have h2 : Blk (((w.alloc (.cells zr tA)).alloc (.cells B tB)).alloc (.cells C tC)) (w.heap.size + 2) tC C := by
  have := Blk.new ((w.alloc (.cells zr tA)).alloc (.cells B tB)) tC C
  simpa using this
 have hb : Below w.heap.size w (((w.alloc (.cells zr tA)).alloc (.cells B tB)).alloc (.cells C tC)) := (((Below.refl _ _).alloc (Nat.le_refl _) _).alloc (by simp) _).alloc (by simp; omega) _
 have ho : Only [w.heap.size] (((w.alloc (.cells zr tA)).alloc (.cells B tB)).alloc (.cells C tC)) ((((w.alloc (.cells zr tA)).alloc (.cells B tB)).alloc (.cells C tC)).setRow w.heap.size cs) := only_setRow
 exact ⟨blk_setRow h0, ho.blk h1 (by simp), ho.blk h2 (by simp), hb.trans (ho.below (B := w.heap.size) (by intro x hx; rw [List.mem_singleton] at hx; omega) hb.size)⟩
set_option maxRecDepth 100000 in
set_option maxHeartbeats 2000000 in
theorem acks_law (w : World) : Calls Try.prog 10 #[] w fun e w' => (∃ a1 a2, e = .returned (.agg #[ZI ZQ 2, ZI ZQ 9, ZI ZQ 0, ZI ZQ 0, ZI ZQ 0, ZI ZQ 0, ZI ZQ 0, .bool false, .bool false, .bool false, .bool false, ZI ZQ 0, .slice (some ⟨a1, 0, none⟩) 1 1, .bool false, ZI ZQ 0, ZI ZQ 0, ZI ZQ 0, .slice (some ⟨a2, 0, none⟩) 2 2, ZI ZQ 0, ZI ZQ 0]) ∧ Blk w' a1 61 #[ZI ZQ 0, ZI ZQ 0] ∧ Blk w' a2 46 #[ZI ZQ 1, ZI ZQ 0, ZI ZQ 0, ZI ZQ 1200, ZI ZQ 4, ZI ZQ 0, ZI ZQ 0, ZI ZQ 13200]) ∧ Below w.heap.size w w' := by
 go_enter Try.func10, Try.ntmps10
 go_wp2_with (refine wpList_store_row rfl 36 (.tmp 0) (.tmp 7) rfl w.heap.size #[ZI ZQ 2, ZI ZQ 9, ZI ZQ 0, ZI ZQ 0, ZI ZQ 0, ZI ZQ 0, ZI ZQ 0, .bool false, .bool false, .bool false, .bool false, ZI ZQ 0, .slice (some ⟨w.heap.size + 1, 0, none⟩) 1 1, .bool false, ZI ZQ 0, ZI ZQ 0, ZI ZQ 0, .slice (some ⟨w.heap.size + 2, 0, none⟩) 2 2, ZI ZQ 0, ZI ZQ 0] rfl rfl 36 _ (((Blk.new w 36 #[ZI ZQ 0, ZI ZQ 0, ZI ZQ 0, ZI ZQ 0, ZI ZQ 0, ZI ZQ 0, ZI ZQ 0, .bool false, .bool false, .bool false, .bool false, ZI ZQ 0, .slice none 0 0, .bool false, ZI ZQ 0, ZI ZQ 0, ZI ZQ 0, .slice none 0 0, ZI ZQ 0, ZI ZQ 0]).alloc _).alloc _) row_size rfl (by simp [Value.oneCell']) ?_)
 obtain ⟨h0, h1, h2, h3⟩ := acks_world w #[ZI ZQ 0, ZI ZQ 0, ZI ZQ 0, ZI ZQ 0, ZI ZQ 0, ZI ZQ 0, ZI ZQ 0, .bool false, .bool false, .bool false, .bool false, ZI ZQ 0, .slice none 0 0, .bool false, ZI ZQ 0, ZI ZQ 0, ZI ZQ 0, .slice none 0 0, ZI ZQ 0, ZI ZQ 0] #[ZI ZQ 0, ZI ZQ 0] #[ZI ZQ 1, ZI ZQ 0, ZI ZQ 0, ZI ZQ 1200, ZI ZQ 4, ZI ZQ 0, ZI ZQ 0, ZI ZQ 13200] #[ZI ZQ 2, ZI ZQ 9, ZI ZQ 0, ZI ZQ 0, ZI ZQ 0, ZI ZQ 0, ZI ZQ 0, .bool false, .bool false, .bool false, .bool false, ZI ZQ 0, .slice (some ⟨w.heap.size + 1, 0, none⟩) 1 1, .bool false, ZI ZQ 0, ZI ZQ 0, ZI ZQ 0, .slice (some ⟨w.heap.size + 2, 0, none⟩) 2 2, ZI ZQ 0, ZI ZQ 0] 36 61 46
 exact bodyPost_ret (v := .agg #[ZI ZQ 2, ZI ZQ 9, ZI ZQ 0, ZI ZQ 0, ZI ZQ 0, ZI ZQ 0, ZI ZQ 0, .bool false, .bool false, .bool false, .bool false, ZI ZQ 0, .slice (some ⟨w.heap.size + 1, 0, none⟩) 1 1, .bool false, ZI ZQ 0, ZI ZQ 0, ZI ZQ 0, .slice (some ⟨w.heap.size + 2, 0, none⟩) 2 2, ZI ZQ 0, ZI ZQ 0]) (results_cell_row rfl _ _ w.heap.size 36 _ (0, 0) _ rfl h0 Try.underlying36 rfl row_size) rfl ⟨⟨_, _, rfl, h1, h2⟩, h3⟩
set_option maxRecDepth 100000 in
set_option maxHeartbeats 4000000 in
theorem finds_yes (Q : Nat → KN → Prop) (f : KN → RR → Except Int KN) (A : Option Addr) (n cap : Nat) (l : List RR) (row rule : Int) (w : World) (hn : l.length = n) (hl : n ≤ 1000) (hL : LieAt rrL 20 w w.heap.size A l)
  (hE : ∀ x ∈ l, LieAt evL 4 w w.heap.size x.r.ea x.es ∧ LieAt rgL 2 w w.heap.size x.r.ra x.rs) (hQ0 : Q 0 (K0 setC 3))
  (hrow : ∀ i x k b base W vf vp vd, Q i k → l[i]? = some x → KnAt W b base (tellK k x) vf vp vd → LieAt evL 4 W base x.r.ea x.es → LieAt rgL 2 W base x.r.ra x.rs → Calls Try.prog 15 #[.pointer (some ⟨b, 0, none⟩), .agg (rwC x.r)] W (RowPost b base W (f (tellK k x) x)))
  (hQ : ∀ i x k k', Q i k → l[i]? = some x → f (tellK k x) x = .ok k' → Q (i + 1) k') (hpos : ∀ i x k m, Q i k → l[i]? = some x → f (tellK k x) x = .error m → 0 < m ∧ m ≤ 100) (hres : lookP f (K0 setC 3) l 0 = (row, rule)) :
  Calls Try.prog 12 #[.slice A n cap, ZI ZQ row, ZI ZQ rule] w fun e w' => e = .returned (.bool true) ∧ Below w.heap.size w w' := by
 have HSE := hide (fun W => setting_any W)
 have HLK := hide (fun W (hb : Below w.heap.size w W) => (show Calls Try.prog 7 #[.agg #[.bool false, ZI ZQ 1200, ZI ZQ 12000, ZI ZQ 16777216, ZI ZQ 333000000, ZI ZQ 25000000, ZI ZQ 3, ZI ZQ 12000, ZI ZQ 256, ZI ZQ 6], .slice A n cap] W fun e w' => e = .returned (.tuple #[.agg #[ZI ZQ row, ZI ZQ rule], ZI ZQ 0]) ∧ Below W.heap.size W w' from by
  have h := look_any Q f setC rfl A n cap l W hn hl ((hL.later hb).up hb.size) (fun x hx => ⟨((hE x hx).1.later hb).up hb.size, ((hE x hx).2.later hb).up hb.size⟩) hQ0 (fun i x k b W' vf vp vd a1 a2 a3 a4 a5 => hrow i x k b W.heap.size W' vf vp vd a1 a2 a3 a4 a5) hQ hpos
  rw [hres] at h
  exact h))
 clear hL hE hQ0 hrow hQ hpos hres hn hl
 go_enter Try.func12, Try.ntmps12
 go_wp2_with fail
 with_reducible refine (HSE.out _).mono ?_
 rintro y1 W1 ⟨rfl, hb1⟩
 go_wp2_with fail
 with_reducible refine (HLK.out _ hb1).mono ?_
 rintro y2 W2 ⟨rfl, hb2⟩
 have HB := hide (hb1.trans (hb2.mono hb1.size))
 clear hb1 hb2 HSE HLK
 go_wp2_with fail
 go_ret
 exact ⟨rfl, HB.out.alloc HB.out.size _⟩
end Go.Proofs.Ytidfngcclbhoaaa

namespace Go.Proofs.Ytidfngcclbhoaaa
open List renaming getElem_toArray → ZA, getElem_cons_zero → ZB, getElem_cons_succ → ZC, setIfInBounds_toArray → ZD, set_cons_zero → ZE, set_cons_succ → ZF, getElem?_toArray → ZG, getElem?_cons_zero → ZH, getElem?_cons_succ → ZJ
open Go.AllReadyH renaming cons → ZS, nil → ZN
open Go.Act renaming put → ZP
open Go.Value renaming int → ZI
open Go.IntKind renaming i64 → ZQ
set_option linter.unusedSimpArgs false
set_option linter.unusedVariables false
open Go.RowKit Go.Shelf
def aRow (a1 a2 : Nat) : RW := ⟨2, 9, 0, 0, ⟨0, 0, 0, false, false, false, false⟩, 0, some ⟨a1, 0, none⟩, 1, 1, false, 0, 0, 0, some ⟨a2, 0, none⟩, 2, 2, 0, 0⟩
def xS (n t : Int) : RR := ⟨sRow n t, [], []⟩
def xA (a1 a2 : Nat) : RR := ⟨aRow a1 a2, [⟨1, 0, 0, 1200⟩, ⟨4, 0, 0, 13200⟩], [⟨0, 0⟩]⟩
def kA : KN := K0 setC 3
def kB : KN := sentK { tellK kA (xS 0 0) with t := 0 } ⟨0, 0, 1200, true, true, false, false⟩ 0
def kC : KN := { c := setC, t := 9, window := 13200, got := 0, sent := addI 0 1200, valid := true, shut := false, flying := [], last := kB.last, top := fun j => if j = 0 then 0 else kA.top j, own := kA.own, told := false, pieces := [⟨0, 12000, 333000000⟩, ⟨9, 13200, 0⟩], paced := [⟨0, 1200⟩] }
def kI : Nat → KN
 | 0 => kA
 | 1 => kB
 | _ => kC
theorem step_s : rowQ (tellK kA (xS 0 0)) (xS 0 0) = .ok kB := by rfl
theorem step_a (a1 a2 : Nat) : ∃ k, rowQ (tellK kB (xA a1 a2)) (xA a1 a2) = .ok k ∧ k = kC := by
 refine ⟨_, rfl, ?_⟩
 rfl
theorem bad_ss : rowQ (tellK kB (xS 0 0)) (xS 0 0) = .error 4 := by rfl
theorem bad_a (a1 a2 : Nat) : rowQ (tellK kA (xA a1 a2)) (xA a1 a2) = .error 9 := by rfl
theorem bad_saa (a1 a2 : Nat) : rowQ (tellK kC (xA a1 a2)) (xA a1 a2) = .error 9 := by rfl
theorem bad_sas : rowQ (tellK kC (xS 1 8)) (xS 1 8) = .error 3 := by rfl
theorem ok_A (x : RR) : KnOk (tellK kA x) := by
 refine ⟨rfl, rfl, ?_, ?_, ?_, ?_, ?_, ?_, ?_, ?_⟩
 all_goals simp [tellK, kA, K0, setC, okPie]
theorem ok_B (x : RR) : KnOk (tellK kB x) := by
 refine ⟨rfl, rfl, ?_, ?_, ?_, ?_, ?_, ?_, ?_, ?_⟩
 all_goals simp [tellK, kB, kA, K0, setC, okPie, sentK, okP, okPcd]
theorem ok_C (x : RR) : KnOk (tellK kC x) := by
 refine ⟨rfl, rfl, ?_, ?_, ?_, ?_, ?_, ?_, ?_, ?_⟩
 all_goals simp [tellK, kC, setC, okPie, okPcd]
theorem row_s (k : KN) (n t : Int) (hn : 0 ≤ n ∧ n ≤ 100) (ht : 0 ≤ t ∧ t ≤ 100) (hd : k.c = setC) (hf : k.last 0 < n → flightP k.flying + 1200 ≤ k.window) : RowOk k (xS n t) := by
 refine ⟨rfl, rfl, by show (0 : Nat) ≤ 2000; omega, rfl, by show (0 : Nat) ≤ 2000; omega, rfl, ⟨ht.1, by show t ≤ _; omega⟩, .inl ⟨rfl, rfl, rfl, ⟨hn.1, by show n ≤ _; omega⟩, ⟨by show (1 : Int) ≤ 1200; omega, by rw [hd]; show (1200 : Int) ≤ 1200; omega⟩, rfl, rfl, hf⟩⟩
theorem row_a (k : KN) (a1 a2 : Nat) : RowOk k (xA a1 a2) := by
 refine ⟨rfl, rfl, by show (2 : Nat) ≤ 2000; omega, rfl, by show (1 : Nat) ≤ 2000; omega, rfl, ⟨by show (0 : Int) ≤ 9; omega, by show (9 : Int) ≤ _; omega⟩, .inr ⟨rfl, rfl, by simp [xA], ?_⟩⟩
 intro e he
 simp [xA] at he
 rcases he with rfl | rfl
 ·exact .inl rfl
 ·exact .inr rfl
theorem lie_blk {α : Type} {f : α → List Value} {k : Nat} {W : World} {g t : Nat} {l : List α} {cs : Array Value} (hf : ∀ x, (f x).length = k) (h : Blk W g t cs) (hc : cs = (l.flatMap f).toArray) : LieAt f k W W.heap.size (some ⟨g, 0, none⟩) l := by
 refine .inr ⟨g, 0, rfl, h.lt, fun i x hx j u hj hu => ?_⟩
 rw [Nat.zero_add, h.cell, hc, ZG, flat_cell f k hf l i j hj, hx]
 exact hu
theorem rrL_length (x : RR) : (rrL x).length = 20 := rfl
theorem evL_length (x : EVJ) : (evL x).length = 4 := rfl
theorem rgL_length (x : RGJ) : (rgL x).length = 2 := rfl
/-- A list of rows whose states are known. -/
theorem finds_steps (ks : Nat → KN) (A : Option Addr) (n cap : Nat) (l : List RR) (row rule : Int) (w : World) (hn : l.length = n) (hl : n ≤ 1000) (hL : LieAt rrL 20 w w.heap.size A l)
  (hE : ∀ x ∈ l, LieAt evL 4 w w.heap.size x.r.ea x.es ∧ LieAt rgL 2 w w.heap.size x.r.ra x.rs) (h0 : K0 setC 3 = ks 0) (hk : ∀ i x, l[i]? = some x → KnOk (tellK (ks i) x) ∧ RowOk (tellK (ks i) x) x)
  (hst : ∀ i x, l[i]? = some x → rowQ (tellK (ks i) x) x = .ok (ks (i + 1)) ∨ ∃ m, rowQ (tellK (ks i) x) x = .error m ∧ 0 < m ∧ m ≤ 100) (hres : lookP rowQ (K0 setC 3) l 0 = (row, rule)) :
  Calls Try.prog 12 #[.slice A n cap, ZI ZQ row, ZI ZQ rule] w fun e w' => e = .returned (.bool true) ∧ Below w.heap.size w w' := by
 refine finds_yes (fun i k => k = ks i) rowQ A n cap l row rule w hn hl hL hE h0 ?_ ?_ ?_ hres
 ·intro i x k b base W vf vp vd hq hx hK hE hR
  subst hq
  exact rowq_any b base _ vf vp vd x W hK hE hR (hk i x hx).1 (hk i x hx).2
 ·intro i x k k' hq hx h
  subst hq
  rcases hst i x hx with h1 | ⟨m, h1, _⟩
  ·rw [h1] at h
   injection h with h
   exact h.symm
  ·rw [h1] at h
   cases h
 ·intro i x k m hq hx h
  subst hq
  rcases hst i x hx with h1 | ⟨m', h1, h2⟩
  ·rw [h1] at h
   cases h
  ·rw [h1] at h
   injection h with h
   subst h
   exact h2
/-- What lies while works goes. -/
structure WkSt (w W : World) (X1 X2 a1 a2 : Nat) : Prop where
 s : Blk W X1 36 #[ZI ZQ 1, ZI ZQ 0, ZI ZQ 0, ZI ZQ 0, ZI ZQ 0, ZI ZQ 0, ZI ZQ 1200, .bool true, .bool true, .bool false, .bool false, ZI ZQ 0, .slice none 0 0, .bool false, ZI ZQ 0, ZI ZQ 0, ZI ZQ 0, .slice none 0 0, ZI ZQ 0, ZI ZQ 0]
 a : Blk W X2 36 #[ZI ZQ 2, ZI ZQ 9, ZI ZQ 0, ZI ZQ 0, ZI ZQ 0, ZI ZQ 0, ZI ZQ 0, .bool false, .bool false, .bool false, .bool false, ZI ZQ 0, .slice (some ⟨a1, 0, none⟩) 1 1, .bool false, ZI ZQ 0, ZI ZQ 0, ZI ZQ 0, .slice (some ⟨a2, 0, none⟩) 2 2, ZI ZQ 0, ZI ZQ 0]
 rg : Blk W a1 61 #[ZI ZQ 0, ZI ZQ 0]
 ev : Blk W a2 46 #[ZI ZQ 1, ZI ZQ 0, ZI ZQ 0, ZI ZQ 1200, ZI ZQ 4, ZI ZQ 0, ZI ZQ 0, ZI ZQ 13200]
 bl : Below w.heap.size w W
theorem WkSt.later {w W W' : World} {X1 X2 a1 a2 : Nat} (h : WkSt w W X1 X2 a1 a2) (hb : Below W.heap.size W W') : WkSt w W' X1 X2 a1 a2 :=
 ⟨(hb.block _ h.s.lt).trans h.s, (hb.block _ h.a.lt).trans h.a, (hb.block _ h.rg.lt).trans h.rg, (hb.block _ h.ev.lt).trans h.ev, h.bl.trans (hb.mono h.bl.size)⟩
theorem lie_s {W : World} {B : Nat} (n t : Int) : LieAt evL 4 W B (xS n t).r.ea (xS n t).es ∧ LieAt rgL 2 W B (xS n t).r.ra (xS n t).rs := ⟨.inl rfl, .inl rfl⟩
theorem WkSt.lie_a {w W : World} {X1 X2 a1 a2 : Nat} (h : WkSt w W X1 X2 a1 a2) : LieAt evL 4 W W.heap.size (xA a1 a2).r.ea (xA a1 a2).es ∧ LieAt rgL 2 W W.heap.size (xA a1 a2).r.ra (xA a1 a2).rs :=
 ⟨lie_blk evL_length h.ev rfl, lie_blk rgL_length h.rg rfl⟩
end Go.Proofs.Ytidfngcclbhoaaa

namespace Go.Proofs.Ytidfngcclbhoaaa
open List renaming getElem_toArray → ZA, getElem_cons_zero → ZB, getElem_cons_succ → ZC, setIfInBounds_toArray → ZD, set_cons_zero → ZE, set_cons_succ → ZF, getElem?_toArray → ZG, getElem?_cons_zero → ZH, getElem?_cons_succ → ZJ
open Go.AllReadyH renaming cons → ZS, nil → ZN
open Go.Act renaming put → ZP
open Go.Value renaming int → ZI
open Go.IntKind renaming i64 → ZQ
set_option linter.unusedSimpArgs false
set_option linter.unusedVariables false
open Go.RowKit Go.Shelf
theorem exec_load_row {P : Program} {o : Oper} {a : Act} {w : World} (ty : TypeId) (x : Operand) (ho : o.op = .load ty x) (g : Nat) (hx : a.eval x = .pointer (some ⟨g, 0, none⟩)) (t : TypeId) (cs : Array Value) (fr : Nat × Nat) (d : TypeDesc) (hg : w.heap[g]? = some (.cells cs t fr))
  (hu : P.underlying ty = some d) (hd : (match d with | .struct _ | .array _ _ => true | _ => false) = true) (hi : (P.info? ty).map (·.size) = some cs.size) : (execOp a.eval o).run P w = .ok (.value (.agg cs)) w := by
 unfold execOp
 simp only [ho, hx, Instr.loadAt, Instr.sureAddr, Sem.run_bind, Sem.run_pure, Result.andThen_ok, run_loadVar_row w g t ty cs fr d hg hu hd hi]
theorem f_sa {w W : World} {X1 X2 a1 a2 g : Nat} (h : WkSt w W X1 X2 a1 a2) (hg : Blk W g 36 #[ZI ZQ 1, ZI ZQ 0, ZI ZQ 0, ZI ZQ 0, ZI ZQ 0, ZI ZQ 0, ZI ZQ 1200, .bool true, .bool true, .bool false, .bool false, ZI ZQ 0, .slice none 0 0, .bool false, ZI ZQ 0, ZI ZQ 0, ZI ZQ 0, .slice none 0 0, ZI ZQ 0, ZI ZQ 0, ZI ZQ 2, ZI ZQ 9, ZI ZQ 0, ZI ZQ 0, ZI ZQ 0, ZI ZQ 0, ZI ZQ 0, .bool false, .bool false, .bool false, .bool false, ZI ZQ 0, .slice (some ⟨a1, 0, none⟩) 1 1, .bool false, ZI ZQ 0, ZI ZQ 0, ZI ZQ 0, .slice (some ⟨a2, 0, none⟩) 2 2, ZI ZQ 0, ZI ZQ 0]) :
  Calls Try.prog 12 #[.slice (some ⟨g, 0, none⟩) 2 2, ZI ZQ (-1), ZI ZQ 0] W fun e w' => e = .returned (.bool true) ∧ Below W.heap.size W w' := by
 refine finds_steps kI _ 2 2 [xS 0 0, xA a1 a2] (-1) 0 W rfl (by omega) (lie_blk rrL_length hg rfl) ?_ rfl ?_ ?_ (by rfl)
 ·intro x hx
  simp at hx
  rcases hx with rfl | rfl
  ·exact lie_s 0 0
  ·exact h.lie_a
 ·intro i x hx
  rcases i with _ | _ | i
  ·simp at hx
   subst hx
   exact ⟨ok_A _, row_s _ 0 0 ⟨by omega, by omega⟩ ⟨by omega, by omega⟩ rfl (fun _ => by decide)⟩
  ·simp at hx
   subst hx
   exact ⟨ok_B _, row_a _ a1 a2⟩
  ·simp at hx
 ·intro i x hx
  rcases i with _ | _ | i
  ·simp at hx
   subst hx
   exact .inl step_s
  ·simp at hx
   subst hx
   exact .inl (by obtain ⟨k, h1, h2⟩ := step_a a1 a2; rw [← show k = kI 2 from h2]; exact h1)
  ·simp at hx
theorem f_ss {w W : World} {X1 X2 a1 a2 g : Nat} (h : WkSt w W X1 X2 a1 a2) (hg : Blk W g 36 #[ZI ZQ 1, ZI ZQ 0, ZI ZQ 0, ZI ZQ 0, ZI ZQ 0, ZI ZQ 0, ZI ZQ 1200, .bool true, .bool true, .bool false, .bool false, ZI ZQ 0, .slice none 0 0, .bool false, ZI ZQ 0, ZI ZQ 0, ZI ZQ 0, .slice none 0 0, ZI ZQ 0, ZI ZQ 0, ZI ZQ 1, ZI ZQ 0, ZI ZQ 0, ZI ZQ 0, ZI ZQ 0, ZI ZQ 0, ZI ZQ 1200, .bool true, .bool true, .bool false, .bool false, ZI ZQ 0, .slice none 0 0, .bool false, ZI ZQ 0, ZI ZQ 0, ZI ZQ 0, .slice none 0 0, ZI ZQ 0, ZI ZQ 0]) :
  Calls Try.prog 12 #[.slice (some ⟨g, 0, none⟩) 2 2, ZI ZQ 1, ZI ZQ 4] W fun e w' => e = .returned (.bool true) ∧ Below W.heap.size W w' := by
 refine finds_steps kI _ 2 2 [xS 0 0, xS 0 0] 1 4 W rfl (by omega) (lie_blk rrL_length hg rfl) ?_ rfl ?_ ?_ (by rfl)
 ·intro x hx
  simp at hx
  subst hx
  ·exact lie_s 0 0
 ·intro i x hx
  rcases i with _ | _ | i
  ·simp at hx
   subst hx
   exact ⟨ok_A _, row_s _ 0 0 ⟨by omega, by omega⟩ ⟨by omega, by omega⟩ rfl (fun _ => by decide)⟩
  ·simp at hx
   subst hx
   exact ⟨ok_B _, row_s _ 0 0 ⟨by omega, by omega⟩ ⟨by omega, by omega⟩ rfl (fun _ => by decide)⟩
  ·simp at hx
 ·intro i x hx
  rcases i with _ | _ | i
  ·simp at hx
   subst hx
   exact .inl step_s
  ·simp at hx
   subst hx
   exact .inr ⟨_, bad_ss, by omega, by omega⟩
  ·simp at hx
theorem f_a {w W : World} {X1 X2 a1 a2 g : Nat} (h : WkSt w W X1 X2 a1 a2) (hg : Blk W g 36 #[ZI ZQ 2, ZI ZQ 9, ZI ZQ 0, ZI ZQ 0, ZI ZQ 0, ZI ZQ 0, ZI ZQ 0, .bool false, .bool false, .bool false, .bool false, ZI ZQ 0, .slice (some ⟨a1, 0, none⟩) 1 1, .bool false, ZI ZQ 0, ZI ZQ 0, ZI ZQ 0, .slice (some ⟨a2, 0, none⟩) 2 2, ZI ZQ 0, ZI ZQ 0]) :
  Calls Try.prog 12 #[.slice (some ⟨g, 0, none⟩) 1 1, ZI ZQ 0, ZI ZQ 9] W fun e w' => e = .returned (.bool true) ∧ Below W.heap.size W w' := by
 refine finds_steps kI _ 1 1 [xA a1 a2] 0 9 W rfl (by omega) (lie_blk rrL_length hg rfl) ?_ rfl ?_ ?_ (by rfl)
 ·intro x hx
  simp at hx
  subst hx
  ·exact h.lie_a
 ·intro i x hx
  rcases i with _ | i
  ·simp at hx
   subst hx
   exact ⟨ok_A _, row_a _ a1 a2⟩
  ·simp at hx
 ·intro i x hx
  rcases i with _ | i
  ·simp at hx
   subst hx
   exact .inr ⟨_, bad_a a1 a2, by omega, by omega⟩
  ·simp at hx
theorem f_saa {w W : World} {X1 X2 a1 a2 g : Nat} (h : WkSt w W X1 X2 a1 a2) (hg : Blk W g 36 #[ZI ZQ 1, ZI ZQ 0, ZI ZQ 0, ZI ZQ 0, ZI ZQ 0, ZI ZQ 0, ZI ZQ 1200, .bool true, .bool true, .bool false, .bool false, ZI ZQ 0, .slice none 0 0, .bool false, ZI ZQ 0, ZI ZQ 0, ZI ZQ 0, .slice none 0 0, ZI ZQ 0, ZI ZQ 0, ZI ZQ 2, ZI ZQ 9, ZI ZQ 0, ZI ZQ 0, ZI ZQ 0, ZI ZQ 0, ZI ZQ 0, .bool false, .bool false, .bool false, .bool false, ZI ZQ 0, .slice (some ⟨a1, 0, none⟩) 1 1, .bool false, ZI ZQ 0, ZI ZQ 0, ZI ZQ 0, .slice (some ⟨a2, 0, none⟩) 2 2, ZI ZQ 0, ZI ZQ 0, ZI ZQ 2, ZI ZQ 9, ZI ZQ 0, ZI ZQ 0, ZI ZQ 0, ZI ZQ 0, ZI ZQ 0, .bool false, .bool false, .bool false, .bool false, ZI ZQ 0, .slice (some ⟨a1, 0, none⟩) 1 1, .bool false, ZI ZQ 0, ZI ZQ 0, ZI ZQ 0, .slice (some ⟨a2, 0, none⟩) 2 2, ZI ZQ 0, ZI ZQ 0]) :
  Calls Try.prog 12 #[.slice (some ⟨g, 0, none⟩) 3 3, ZI ZQ 2, ZI ZQ 9] W fun e w' => e = .returned (.bool true) ∧ Below W.heap.size W w' := by
 refine finds_steps kI _ 3 3 [xS 0 0, xA a1 a2, xA a1 a2] 2 9 W rfl (by omega) (lie_blk rrL_length hg rfl) ?_ rfl ?_ ?_ (by rfl)
 ·intro x hx
  simp at hx
  rcases hx with rfl | rfl
  ·exact lie_s 0 0
  ·exact h.lie_a
 ·intro i x hx
  rcases i with _ | _ | _ | i
  ·simp at hx
   subst hx
   exact ⟨ok_A _, row_s _ 0 0 ⟨by omega, by omega⟩ ⟨by omega, by omega⟩ rfl (fun _ => by decide)⟩
  ·simp at hx
   subst hx
   exact ⟨ok_B _, row_a _ a1 a2⟩
  ·simp at hx
   subst hx
   exact ⟨ok_C _, row_a _ a1 a2⟩
  ·simp at hx
 ·intro i x hx
  rcases i with _ | _ | _ | i
  ·simp at hx
   subst hx
   exact .inl step_s
  ·simp at hx
   subst hx
   exact .inl (by obtain ⟨k, h1, h2⟩ := step_a a1 a2; rw [← show k = kI 2 from h2]; exact h1)
  ·simp at hx
   subst hx
   exact .inr ⟨_, bad_saa a1 a2, by omega, by omega⟩
  ·simp at hx
theorem f_sas {w W : World} {X1 X2 a1 a2 g : Nat} (h : WkSt w W X1 X2 a1 a2) (hg : Blk W g 36 #[ZI ZQ 1, ZI ZQ 0, ZI ZQ 0, ZI ZQ 0, ZI ZQ 0, ZI ZQ 0, ZI ZQ 1200, .bool true, .bool true, .bool false, .bool false, ZI ZQ 0, .slice none 0 0, .bool false, ZI ZQ 0, ZI ZQ 0, ZI ZQ 0, .slice none 0 0, ZI ZQ 0, ZI ZQ 0, ZI ZQ 2, ZI ZQ 9, ZI ZQ 0, ZI ZQ 0, ZI ZQ 0, ZI ZQ 0, ZI ZQ 0, .bool false, .bool false, .bool false, .bool false, ZI ZQ 0, .slice (some ⟨a1, 0, none⟩) 1 1, .bool false, ZI ZQ 0, ZI ZQ 0, ZI ZQ 0, .slice (some ⟨a2, 0, none⟩) 2 2, ZI ZQ 0, ZI ZQ 0, ZI ZQ 1, ZI ZQ 8, ZI ZQ 0, ZI ZQ 0, ZI ZQ 0, ZI ZQ 1, ZI ZQ 1200, .bool true, .bool true, .bool false, .bool false, ZI ZQ 0, .slice none 0 0, .bool false, ZI ZQ 0, ZI ZQ 0, ZI ZQ 0, .slice none 0 0, ZI ZQ 0, ZI ZQ 0]) :
  Calls Try.prog 12 #[.slice (some ⟨g, 0, none⟩) 3 3, ZI ZQ 2, ZI ZQ 3] W fun e w' => e = .returned (.bool true) ∧ Below W.heap.size W w' := by
 refine finds_steps kI _ 3 3 [xS 0 0, xA a1 a2, xS 1 8] 2 3 W rfl (by omega) (lie_blk rrL_length hg rfl) ?_ rfl ?_ ?_ (by rfl)
 ·intro x hx
  simp at hx
  rcases hx with rfl | rfl | rfl
  ·exact lie_s 0 0
  ·exact h.lie_a
  ·exact lie_s 1 8
 ·intro i x hx
  rcases i with _ | _ | _ | i
  ·simp at hx
   subst hx
   exact ⟨ok_A _, row_s _ 0 0 ⟨by omega, by omega⟩ ⟨by omega, by omega⟩ rfl (fun _ => by decide)⟩
  ·simp at hx
   subst hx
   exact ⟨ok_B _, row_a _ a1 a2⟩
  ·simp at hx
   subst hx
   exact ⟨ok_C _, row_s _ 1 8 ⟨by omega, by omega⟩ ⟨by omega, by omega⟩ rfl (fun _ => by decide)⟩
  ·simp at hx
 ·intro i x hx
  rcases i with _ | _ | _ | i
  ·simp at hx
   subst hx
   exact .inl step_s
  ·simp at hx
   subst hx
   exact .inl (by obtain ⟨k, h1, h2⟩ := step_a a1 a2; rw [← show k = kI 2 from h2]; exact h1)
  ·simp at hx
   subst hx
   exact .inr ⟨_, bad_sas, by omega, by omega⟩
  ·simp at hx
end Go.Proofs.Ytidfngcclbhoaaa

namespace Go.Proofs.Ytidfngcclbhoaaa
open List renaming getElem_toArray → ZA, getElem_cons_zero → ZB, getElem_cons_succ → ZC, setIfInBounds_toArray → ZD, set_cons_zero → ZE, set_cons_succ → ZF, getElem?_toArray → ZG, getElem?_cons_zero → ZH, getElem?_cons_succ → ZJ
open Go.AllReadyH renaming cons → ZS, nil → ZN
open Go.Act renaming put → ZP
open Go.Value renaming int → ZI
open Go.IntKind renaming i64 → ZQ
set_option linter.unusedSimpArgs false
set_option linter.unusedVariables false
open Go.RowKit Go.Shelf
theorem works_world (w : World) (zr c1 c2 : Array Value) (T : TypeId) : Blk ((((w.alloc (.cells zr T)).alloc (.cells zr T)).setRow w.heap.size c1).setRow (w.heap.size + 1) c2) w.heap.size T c1 ∧ Blk ((((w.alloc (.cells zr T)).alloc (.cells zr T)).setRow w.heap.size c1).setRow (w.heap.size + 1) c2) (w.heap.size + 1) T c2 ∧
  Below w.heap.size w ((((w.alloc (.cells zr T)).alloc (.cells zr T)).setRow w.heap.size c1).setRow (w.heap.size + 1) c2) ∧ Blk ((w.alloc (.cells zr T)).alloc (.cells zr T)) w.heap.size T zr ∧ Blk (((w.alloc (.cells zr T)).alloc (.cells zr T)).setRow w.heap.size c1) (w.heap.size + 1) T zr := by
 have h0 : Blk ((w.alloc (.cells zr T)).alloc (.cells zr T)) w.heap.size T zr := (Blk.new _ _ _).alloc _
 have h1 : Blk ((w.alloc (.cells zr T)).alloc (.cells zr T)) (w.heap.size + 1) T zr := by
  have := Blk.new (w.alloc (.cells zr T)) T zr
  simpa using this
 have hb : Below w.heap.size w ((w.alloc (.cells zr T)).alloc (.cells zr T)) := ((Below.refl _ _).alloc (Nat.le_refl _) _).alloc (by simp) _
 have o1 : Only [w.heap.size] ((w.alloc (.cells zr T)).alloc (.cells zr T)) (((w.alloc (.cells zr T)).alloc (.cells zr T)).setRow w.heap.size c1) := only_setRow
 have o2 : Only [w.heap.size + 1] (((w.alloc (.cells zr T)).alloc (.cells zr T)).setRow w.heap.size c1) ((((w.alloc (.cells zr T)).alloc (.cells zr T)).setRow w.heap.size c1).setRow (w.heap.size + 1) c2) := only_setRow
 have h1' := o1.blk h1 (by simp)
 have hb1 := hb.trans (o1.below (B := w.heap.size) (by intro x hx; rw [List.mem_singleton] at hx; omega) hb.size)
 exact ⟨o2.blk (blk_setRow h0) (by simp), blk_setRow h1', hb1.trans (o2.below (B := w.heap.size) (by intro x hx; rw [List.mem_singleton] at hx; omega) hb1.size), h0, h1'⟩
set_option maxRecDepth 100000 in
set_option maxHeartbeats 8000000 in
theorem works_any (w : World) : Calls Try.prog 8 #[] w fun e w' => e = .returned (.bool true) ∧ Below w.heap.size w w' := by
 have HSD := hide (fun n t W => sends_law n t W)
 have HAK := hide (fun W => acks_law W)
 go_enter Try.func8, Try.ntmps8
 go_wp2_with fail
 with_reducible refine (HSD.out 0 0 _).mono ?_
 rintro y1 W1 ⟨rfl, hb1⟩
 go_wp2_with fail
 with_reducible refine (HAK.out _).mono ?_
 rintro y2 W2 ⟨⟨a1, a2, rfl, hA1, hA2⟩, hb2⟩
 obtain ⟨g1, g2, g3, g4, g5⟩ := works_world W2 #[ZI ZQ 0, ZI ZQ 0, ZI ZQ 0, ZI ZQ 0, ZI ZQ 0, ZI ZQ 0, ZI ZQ 0, .bool false, .bool false, .bool false, .bool false, ZI ZQ 0, .slice none 0 0, .bool false, ZI ZQ 0, ZI ZQ 0, ZI ZQ 0, .slice none 0 0, ZI ZQ 0, ZI ZQ 0] #[ZI ZQ 1, ZI ZQ 0, ZI ZQ 0, ZI ZQ 0, ZI ZQ 0, ZI ZQ 0, ZI ZQ 1200, .bool true, .bool true, .bool false, .bool false, ZI ZQ 0, .slice none 0 0, .bool false, ZI ZQ 0, ZI ZQ 0, ZI ZQ 0, .slice none 0 0, ZI ZQ 0, ZI ZQ 0] #[ZI ZQ 2, ZI ZQ 9, ZI ZQ 0, ZI ZQ 0, ZI ZQ 0, ZI ZQ 0, ZI ZQ 0, .bool false, .bool false, .bool false, .bool false, ZI ZQ 0, .slice (some ⟨a1, 0, none⟩) 1 1, .bool false, ZI ZQ 0, ZI ZQ 0, ZI ZQ 0, .slice (some ⟨a2, 0, none⟩) 2 2, ZI ZQ 0, ZI ZQ 0] 36
 have hbw := hb1.trans (hb2.mono hb1.size)
 have hs3 : WkSt w _ W2.heap.size (W2.heap.size + 1) a1 a2 := ⟨g1, g2, (g3.block _ hA1.lt).trans hA1, (g3.block _ hA2.lt).trans hA2, hbw.trans (g3.mono hbw.size)⟩
 have HS3 := hide hs3
 have G4 := hide g4
 have G5 := hide g5
 clear hs3 g1 g2 g3 g4 g5 hA1 hA2 hb1 hb2 hbw
 go_upto_region 2 with (first
  | (refine wpList_store_row rfl 36 (.tmp 1) (.tmp 3) rfl W2.heap.size #[ZI ZQ 1, ZI ZQ 0, ZI ZQ 0, ZI ZQ 0, ZI ZQ 0, ZI ZQ 0, ZI ZQ 1200, .bool true, .bool true, .bool false, .bool false, ZI ZQ 0, .slice none 0 0, .bool false, ZI ZQ 0, ZI ZQ 0, ZI ZQ 0, .slice none 0 0, ZI ZQ 0, ZI ZQ 0] rfl rfl 36 #[ZI ZQ 0, ZI ZQ 0, ZI ZQ 0, ZI ZQ 0, ZI ZQ 0, ZI ZQ 0, ZI ZQ 0, .bool false, .bool false, .bool false, .bool false, ZI ZQ 0, .slice none 0 0, .bool false, ZI ZQ 0, ZI ZQ 0, ZI ZQ 0, .slice none 0 0, ZI ZQ 0, ZI ZQ 0] G4.out row_size rfl (by simp [Value.oneCell']) ?_)
  | (refine wpList_store_row rfl 36 (.tmp 2) (.tmp 4) rfl (W2.heap.size + 1) #[ZI ZQ 2, ZI ZQ 9, ZI ZQ 0, ZI ZQ 0, ZI ZQ 0, ZI ZQ 0, ZI ZQ 0, .bool false, .bool false, .bool false, .bool false, ZI ZQ 0, .slice (some ⟨a1, 0, none⟩) 1 1, .bool false, ZI ZQ 0, ZI ZQ 0, ZI ZQ 0, .slice (some ⟨a2, 0, none⟩) 2 2, ZI ZQ 0, ZI ZQ 0] rfl rfl 36 #[ZI ZQ 0, ZI ZQ 0, ZI ZQ 0, ZI ZQ 0, ZI ZQ 0, ZI ZQ 0, ZI ZQ 0, .bool false, .bool false, .bool false, .bool false, ZI ZQ 0, .slice none 0 0, .bool false, ZI ZQ 0, ZI ZQ 0, ZI ZQ 0, .slice none 0 0, ZI ZQ 0, ZI ZQ 0] G5.out row_size rfl (by simp [Value.oneCell']) ?_))
 obtain ⟨W3, hW3⟩ : ∃ x, (((W2.alloc (.cells #[ZI ZQ 0, ZI ZQ 0, ZI ZQ 0, ZI ZQ 0, ZI ZQ 0, ZI ZQ 0, ZI ZQ 0, .bool false, .bool false, .bool false, .bool false, ZI ZQ 0, .slice none 0 0, .bool false, ZI ZQ 0, ZI ZQ 0, ZI ZQ 0, .slice none 0 0, ZI ZQ 0, ZI ZQ 0] 36)).alloc (.cells #[ZI ZQ 0, ZI ZQ 0, ZI ZQ 0, ZI ZQ 0, ZI ZQ 0, ZI ZQ 0, ZI ZQ 0, .bool false, .bool false, .bool false, .bool false, ZI ZQ 0, .slice none 0 0, .bool false, ZI ZQ 0, ZI ZQ 0, ZI ZQ 0, .slice none 0 0, ZI ZQ 0, ZI ZQ 0] 36)).setRow W2.heap.size #[ZI ZQ 1, ZI ZQ 0, ZI ZQ 0, ZI ZQ 0, ZI ZQ 0, ZI ZQ 0, ZI ZQ 1200, .bool true, .bool true, .bool false, .bool false, ZI ZQ 0, .slice none 0 0, .bool false, ZI ZQ 0, ZI ZQ 0, ZI ZQ 0, .slice none 0 0, ZI ZQ 0, ZI ZQ 0]).setRow (W2.heap.size + 1) #[ZI ZQ 2, ZI ZQ 9, ZI ZQ 0, ZI ZQ 0, ZI ZQ 0, ZI ZQ 0, ZI ZQ 0, .bool false, .bool false, .bool false, .bool false, ZI ZQ 0, .slice (some ⟨a1, 0, none⟩) 1 1, .bool false, ZI ZQ 0, ZI ZQ 0, ZI ZQ 0, .slice (some ⟨a2, 0, none⟩) 2 2, ZI ZQ 0, ZI ZQ 0] = x := ⟨_, rfl⟩
 obtain ⟨X1, hX1⟩ : ∃ x, W2.heap.size = x := ⟨_, rfl⟩
 rw [hW3, hX1] at HS3
 rw [hW3, hX1]
 clear hW3 hX1 G4 G5
 go_wp2_with fail
 refine wp_region_held_drew (S := (fun w' => WkSt w w' X1 (X1 + 1) a1 a2)) (by kernel_rfl) (HS3.out.later (below_drewN (Below.refl _ _) 1)) (fun hHeld => ?_)
 refine wpAnyH_take (i := 0) (v := .agg #[ZI ZQ 1, ZI ZQ 0, ZI ZQ 0, ZI ZQ 0, ZI ZQ 0, ZI ZQ 0, ZI ZQ 1200, .bool true, .bool true, .bool false, .bool false, ZI ZQ 0, .slice none 0 0, .bool false, ZI ZQ 0, ZI ZQ 0, ZI ZQ 0, .slice none 0 0, ZI ZQ 0, ZI ZQ 0]) rfl (by kernel_rfl) (by kernel_rfl) (by kernel_rfl) blA (Or.inl ⟨by rfl, fun w' hw => exec_load_row 36 (.tmp 1) rfl X1 rfl 36 #[ZI ZQ 1, ZI ZQ 0, ZI ZQ 0, ZI ZQ 0, ZI ZQ 0, ZI ZQ 0, ZI ZQ 1200, .bool true, .bool true, .bool false, .bool false, ZI ZQ 0, .slice none 0 0, .bool false, ZI ZQ 0, ZI ZQ 0, ZI ZQ 0, .slice none 0 0, ZI ZQ 0, ZI ZQ 0] (0, 0) _ (WkSt.s hw) Try.underlying36 rfl row_size⟩) (by assumption) ?_
 try simp only [ZP, ZA, ZB, ZC, ZD, ZE, ZF]
 refine wpAnyH_take (i := 1) (v := .agg #[ZI ZQ 2, ZI ZQ 9, ZI ZQ 0, ZI ZQ 0, ZI ZQ 0, ZI ZQ 0, ZI ZQ 0, .bool false, .bool false, .bool false, .bool false, ZI ZQ 0, .slice (some ⟨a1, 0, none⟩) 1 1, .bool false, ZI ZQ 0, ZI ZQ 0, ZI ZQ 0, .slice (some ⟨a2, 0, none⟩) 2 2, ZI ZQ 0, ZI ZQ 0]) rfl (by kernel_rfl) (by kernel_rfl) (by kernel_rfl) blA (Or.inl ⟨by rfl, fun w' hw => exec_load_row 36 (.tmp 2) rfl (X1 + 1) rfl 36 #[ZI ZQ 2, ZI ZQ 9, ZI ZQ 0, ZI ZQ 0, ZI ZQ 0, ZI ZQ 0, ZI ZQ 0, .bool false, .bool false, .bool false, .bool false, ZI ZQ 0, .slice (some ⟨a1, 0, none⟩) 1 1, .bool false, ZI ZQ 0, ZI ZQ 0, ZI ZQ 0, .slice (some ⟨a2, 0, none⟩) 2 2, ZI ZQ 0, ZI ZQ 0] (0, 0) _ (WkSt.a hw) Try.underlying36 rfl row_size⟩) (by assumption) ?_
 try simp only [ZP, ZA, ZB, ZC, ZD, ZE, ZF]
 refine tkR [2] ?_
 refine ZS rfl (fun K hK => ?_) ZN
 go_simp
 refine hK.out _ _ (WkSt.later hHeld ((Below.refl _ _).alloc (Nat.le_refl _) _)) (fun hHeld => ?_)
 clear hK K
 try simp only [ZP, ZA, ZB, ZC, ZD, ZE, ZF]
 refine tkR [3] ?_
 refine ZS rfl (fun K hK => ?_) ZN
 go_simp
 go_at_call 12
 refine (f_sa hHeld (Blk.new _ _ _)).mono ?_
 rintro y2 u2 ⟨rfl, hb2⟩
 refine hK.out _ _ (WkSt.later hHeld hb2) (fun hHeld => ?_)
 clear hK K
 try simp only [ZP, ZA, ZB, ZC, ZD, ZE, ZF]
 refine tkH 4 ?_ rfl blA ?_ ?_
 rotate_left
 ·intro w' hSw; (try dsimp only at hSw); go_simp; try with_reducible rfl
 try simp only [ZP, ZA, ZB, ZC, ZD, ZE, ZF]
 refine wpAnyH_take (i := 5) (v := .agg #[ZI ZQ 1, ZI ZQ 0, ZI ZQ 0, ZI ZQ 0, ZI ZQ 0, ZI ZQ 0, ZI ZQ 1200, .bool true, .bool true, .bool false, .bool false, ZI ZQ 0, .slice none 0 0, .bool false, ZI ZQ 0, ZI ZQ 0, ZI ZQ 0, .slice none 0 0, ZI ZQ 0, ZI ZQ 0]) rfl (by kernel_rfl) (by kernel_rfl) (by kernel_rfl) blA (Or.inl ⟨by rfl, fun w' hw => exec_load_row 36 (.tmp 1) rfl X1 rfl 36 #[ZI ZQ 1, ZI ZQ 0, ZI ZQ 0, ZI ZQ 0, ZI ZQ 0, ZI ZQ 0, ZI ZQ 1200, .bool true, .bool true, .bool false, .bool false, ZI ZQ 0, .slice none 0 0, .bool false, ZI ZQ 0, ZI ZQ 0, ZI ZQ 0, .slice none 0 0, ZI ZQ 0, ZI ZQ 0] (0, 0) _ (WkSt.s hw) Try.underlying36 rfl row_size⟩) (by assumption) ?_
 try simp only [ZP, ZA, ZB, ZC, ZD, ZE, ZF]
 refine wpAnyH_take (i := 6) (v := .agg #[ZI ZQ 1, ZI ZQ 0, ZI ZQ 0, ZI ZQ 0, ZI ZQ 0, ZI ZQ 0, ZI ZQ 1200, .bool true, .bool true, .bool false, .bool false, ZI ZQ 0, .slice none 0 0, .bool false, ZI ZQ 0, ZI ZQ 0, ZI ZQ 0, .slice none 0 0, ZI ZQ 0, ZI ZQ 0]) rfl (by kernel_rfl) (by kernel_rfl) (by kernel_rfl) blA (Or.inl ⟨by rfl, fun w' hw => exec_load_row 36 (.tmp 1) rfl X1 rfl 36 #[ZI ZQ 1, ZI ZQ 0, ZI ZQ 0, ZI ZQ 0, ZI ZQ 0, ZI ZQ 0, ZI ZQ 1200, .bool true, .bool true, .bool false, .bool false, ZI ZQ 0, .slice none 0 0, .bool false, ZI ZQ 0, ZI ZQ 0, ZI ZQ 0, .slice none 0 0, ZI ZQ 0, ZI ZQ 0] (0, 0) _ (WkSt.s hw) Try.underlying36 rfl row_size⟩) (by assumption) ?_
 try simp only [ZP, ZA, ZB, ZC, ZD, ZE, ZF]
 refine tkR [7] ?_
 refine ZS rfl (fun K hK => ?_) ZN
 go_simp
 refine hK.out _ _ (WkSt.later hHeld ((Below.refl _ _).alloc (Nat.le_refl _) _)) (fun hHeld => ?_)
 clear hK K
 try simp only [ZP, ZA, ZB, ZC, ZD, ZE, ZF]
 refine tkR [8] ?_
 refine ZS rfl (fun K hK => ?_) ZN
 go_simp
 go_at_call 12
 refine (f_ss hHeld (Blk.new _ _ _)).mono ?_
 rintro y4 u4 ⟨rfl, hb4⟩
 refine hK.out _ _ (WkSt.later hHeld hb4) (fun hHeld => ?_)
 clear hK K
 try simp only [ZP, ZA, ZB, ZC, ZD, ZE, ZF]
 refine tkH 9 ?_ rfl blA ?_ ?_
 rotate_left
 ·intro w' hSw; (try dsimp only at hSw); go_simp; try with_reducible rfl
 try simp only [ZP, ZA, ZB, ZC, ZD, ZE, ZF]
 refine tkH 10 ?_ rfl blA ?_ ?_
 rotate_left
 ·intro w' hSw; (try dsimp only at hSw); go_simp; try with_reducible rfl
 try simp only [ZP, ZA, ZB, ZC, ZD, ZE, ZF]
 refine wpAnyH_take (i := 11) (v := .agg #[ZI ZQ 2, ZI ZQ 9, ZI ZQ 0, ZI ZQ 0, ZI ZQ 0, ZI ZQ 0, ZI ZQ 0, .bool false, .bool false, .bool false, .bool false, ZI ZQ 0, .slice (some ⟨a1, 0, none⟩) 1 1, .bool false, ZI ZQ 0, ZI ZQ 0, ZI ZQ 0, .slice (some ⟨a2, 0, none⟩) 2 2, ZI ZQ 0, ZI ZQ 0]) rfl (by kernel_rfl) (by kernel_rfl) (by kernel_rfl) blA (Or.inl ⟨by rfl, fun w' hw => exec_load_row 36 (.tmp 2) rfl (X1 + 1) rfl 36 #[ZI ZQ 2, ZI ZQ 9, ZI ZQ 0, ZI ZQ 0, ZI ZQ 0, ZI ZQ 0, ZI ZQ 0, .bool false, .bool false, .bool false, .bool false, ZI ZQ 0, .slice (some ⟨a1, 0, none⟩) 1 1, .bool false, ZI ZQ 0, ZI ZQ 0, ZI ZQ 0, .slice (some ⟨a2, 0, none⟩) 2 2, ZI ZQ 0, ZI ZQ 0] (0, 0) _ (WkSt.a hw) Try.underlying36 rfl row_size⟩) (by assumption) ?_
 try simp only [ZP, ZA, ZB, ZC, ZD, ZE, ZF]
 refine tkR [12] ?_
 refine ZS rfl (fun K hK => ?_) ZN
 go_simp
 refine hK.out _ _ (WkSt.later hHeld ((Below.refl _ _).alloc (Nat.le_refl _) _)) (fun hHeld => ?_)
 clear hK K
 try simp only [ZP, ZA, ZB, ZC, ZD, ZE, ZF]
 refine tkR [13] ?_
 refine ZS rfl (fun K hK => ?_) ZN
 go_simp
 go_at_call 12
 refine (f_a hHeld (Blk.new _ _ _)).mono ?_
 rintro y6 u6 ⟨rfl, hb6⟩
 refine hK.out _ _ (WkSt.later hHeld hb6) (fun hHeld => ?_)
 clear hK K
 try simp only [ZP, ZA, ZB, ZC, ZD, ZE, ZF]
 refine tkH 14 ?_ rfl blA ?_ ?_
 rotate_left
 ·intro w' hSw; (try dsimp only at hSw); go_simp; try with_reducible rfl
 try simp only [ZP, ZA, ZB, ZC, ZD, ZE, ZF]
 refine tkH 15 ?_ rfl blA ?_ ?_
 rotate_left
 ·intro w' hSw; (try dsimp only at hSw); go_simp; try with_reducible rfl
 try simp only [ZP, ZA, ZB, ZC, ZD, ZE, ZF]
 refine wpAnyH_take (i := 16) (v := .agg #[ZI ZQ 1, ZI ZQ 0, ZI ZQ 0, ZI ZQ 0, ZI ZQ 0, ZI ZQ 0, ZI ZQ 1200, .bool true, .bool true, .bool false, .bool false, ZI ZQ 0, .slice none 0 0, .bool false, ZI ZQ 0, ZI ZQ 0, ZI ZQ 0, .slice none 0 0, ZI ZQ 0, ZI ZQ 0]) rfl (by kernel_rfl) (by kernel_rfl) (by kernel_rfl) blA (Or.inl ⟨by rfl, fun w' hw => exec_load_row 36 (.tmp 1) rfl X1 rfl 36 #[ZI ZQ 1, ZI ZQ 0, ZI ZQ 0, ZI ZQ 0, ZI ZQ 0, ZI ZQ 0, ZI ZQ 1200, .bool true, .bool true, .bool false, .bool false, ZI ZQ 0, .slice none 0 0, .bool false, ZI ZQ 0, ZI ZQ 0, ZI ZQ 0, .slice none 0 0, ZI ZQ 0, ZI ZQ 0] (0, 0) _ (WkSt.s hw) Try.underlying36 rfl row_size⟩) (by assumption) ?_
 try simp only [ZP, ZA, ZB, ZC, ZD, ZE, ZF]
 refine wpAnyH_take (i := 17) (v := .agg #[ZI ZQ 2, ZI ZQ 9, ZI ZQ 0, ZI ZQ 0, ZI ZQ 0, ZI ZQ 0, ZI ZQ 0, .bool false, .bool false, .bool false, .bool false, ZI ZQ 0, .slice (some ⟨a1, 0, none⟩) 1 1, .bool false, ZI ZQ 0, ZI ZQ 0, ZI ZQ 0, .slice (some ⟨a2, 0, none⟩) 2 2, ZI ZQ 0, ZI ZQ 0]) rfl (by kernel_rfl) (by kernel_rfl) (by kernel_rfl) blA (Or.inl ⟨by rfl, fun w' hw => exec_load_row 36 (.tmp 2) rfl (X1 + 1) rfl 36 #[ZI ZQ 2, ZI ZQ 9, ZI ZQ 0, ZI ZQ 0, ZI ZQ 0, ZI ZQ 0, ZI ZQ 0, .bool false, .bool false, .bool false, .bool false, ZI ZQ 0, .slice (some ⟨a1, 0, none⟩) 1 1, .bool false, ZI ZQ 0, ZI ZQ 0, ZI ZQ 0, .slice (some ⟨a2, 0, none⟩) 2 2, ZI ZQ 0, ZI ZQ 0] (0, 0) _ (WkSt.a hw) Try.underlying36 rfl row_size⟩) (by assumption) ?_
 try simp only [ZP, ZA, ZB, ZC, ZD, ZE, ZF]
 refine wpAnyH_take (i := 18) (v := .agg #[ZI ZQ 2, ZI ZQ 9, ZI ZQ 0, ZI ZQ 0, ZI ZQ 0, ZI ZQ 0, ZI ZQ 0, .bool false, .bool false, .bool false, .bool false, ZI ZQ 0, .slice (some ⟨a1, 0, none⟩) 1 1, .bool false, ZI ZQ 0, ZI ZQ 0, ZI ZQ 0, .slice (some ⟨a2, 0, none⟩) 2 2, ZI ZQ 0, ZI ZQ 0]) rfl (by kernel_rfl) (by kernel_rfl) (by kernel_rfl) blA (Or.inl ⟨by rfl, fun w' hw => exec_load_row 36 (.tmp 2) rfl (X1 + 1) rfl 36 #[ZI ZQ 2, ZI ZQ 9, ZI ZQ 0, ZI ZQ 0, ZI ZQ 0, ZI ZQ 0, ZI ZQ 0, .bool false, .bool false, .bool false, .bool false, ZI ZQ 0, .slice (some ⟨a1, 0, none⟩) 1 1, .bool false, ZI ZQ 0, ZI ZQ 0, ZI ZQ 0, .slice (some ⟨a2, 0, none⟩) 2 2, ZI ZQ 0, ZI ZQ 0] (0, 0) _ (WkSt.a hw) Try.underlying36 rfl row_size⟩) (by assumption) ?_
 try simp only [ZP, ZA, ZB, ZC, ZD, ZE, ZF]
 refine tkR [19] ?_
 refine ZS rfl (fun K hK => ?_) ZN
 go_simp
 refine hK.out _ _ (WkSt.later hHeld ((Below.refl _ _).alloc (Nat.le_refl _) _)) (fun hHeld => ?_)
 clear hK K
 try simp only [ZP, ZA, ZB, ZC, ZD, ZE, ZF]
 refine tkR [20] ?_
 refine ZS rfl (fun K hK => ?_) ZN
 go_simp
 go_at_call 12
 refine (f_saa hHeld (Blk.new _ _ _)).mono ?_
 rintro y8 u8 ⟨rfl, hb8⟩
 refine hK.out _ _ (WkSt.later hHeld hb8) (fun hHeld => ?_)
 clear hK K
 try simp only [ZP, ZA, ZB, ZC, ZD, ZE, ZF]
 refine tkH 21 ?_ rfl blA ?_ ?_
 rotate_left
 ·intro w' hSw; (try dsimp only at hSw); go_simp; try with_reducible rfl
 try simp only [ZP, ZA, ZB, ZC, ZD, ZE, ZF]
 refine tkH 22 ?_ rfl blA ?_ ?_
 rotate_left
 ·intro w' hSw; (try dsimp only at hSw); go_simp; try with_reducible rfl
 try simp only [ZP, ZA, ZB, ZC, ZD, ZE, ZF]
 refine wpAnyH_take (i := 23) (v := .agg #[ZI ZQ 1, ZI ZQ 0, ZI ZQ 0, ZI ZQ 0, ZI ZQ 0, ZI ZQ 0, ZI ZQ 1200, .bool true, .bool true, .bool false, .bool false, ZI ZQ 0, .slice none 0 0, .bool false, ZI ZQ 0, ZI ZQ 0, ZI ZQ 0, .slice none 0 0, ZI ZQ 0, ZI ZQ 0]) rfl (by kernel_rfl) (by kernel_rfl) (by kernel_rfl) blA (Or.inl ⟨by rfl, fun w' hw => exec_load_row 36 (.tmp 1) rfl X1 rfl 36 #[ZI ZQ 1, ZI ZQ 0, ZI ZQ 0, ZI ZQ 0, ZI ZQ 0, ZI ZQ 0, ZI ZQ 1200, .bool true, .bool true, .bool false, .bool false, ZI ZQ 0, .slice none 0 0, .bool false, ZI ZQ 0, ZI ZQ 0, ZI ZQ 0, .slice none 0 0, ZI ZQ 0, ZI ZQ 0] (0, 0) _ (WkSt.s hw) Try.underlying36 rfl row_size⟩) (by assumption) ?_
 try simp only [ZP, ZA, ZB, ZC, ZD, ZE, ZF]
 refine wpAnyH_take (i := 24) (v := .agg #[ZI ZQ 2, ZI ZQ 9, ZI ZQ 0, ZI ZQ 0, ZI ZQ 0, ZI ZQ 0, ZI ZQ 0, .bool false, .bool false, .bool false, .bool false, ZI ZQ 0, .slice (some ⟨a1, 0, none⟩) 1 1, .bool false, ZI ZQ 0, ZI ZQ 0, ZI ZQ 0, .slice (some ⟨a2, 0, none⟩) 2 2, ZI ZQ 0, ZI ZQ 0]) rfl (by kernel_rfl) (by kernel_rfl) (by kernel_rfl) blA (Or.inl ⟨by rfl, fun w' hw => exec_load_row 36 (.tmp 2) rfl (X1 + 1) rfl 36 #[ZI ZQ 2, ZI ZQ 9, ZI ZQ 0, ZI ZQ 0, ZI ZQ 0, ZI ZQ 0, ZI ZQ 0, .bool false, .bool false, .bool false, .bool false, ZI ZQ 0, .slice (some ⟨a1, 0, none⟩) 1 1, .bool false, ZI ZQ 0, ZI ZQ 0, ZI ZQ 0, .slice (some ⟨a2, 0, none⟩) 2 2, ZI ZQ 0, ZI ZQ 0] (0, 0) _ (WkSt.a hw) Try.underlying36 rfl row_size⟩) (by assumption) ?_
 try simp only [ZP, ZA, ZB, ZC, ZD, ZE, ZF]
 refine tkR [25] ?_
 refine ZS rfl (fun K hK => ?_) ZN
 go_simp
 go_at_call 9
 with_reducible refine (HSD.out 1 8 _).mono ?_
 rintro y9 u9 ⟨rfl, hb9⟩
 refine hK.out _ _ (WkSt.later hHeld hb9) (fun hHeld => ?_)
 clear hK K
 try simp only [ZP, ZA, ZB, ZC, ZD, ZE, ZF]
 refine tkR [26] ?_
 refine ZS rfl (fun K hK => ?_) ZN
 go_simp
 refine hK.out _ _ (WkSt.later hHeld ((Below.refl _ _).alloc (Nat.le_refl _) _)) (fun hHeld => ?_)
 clear hK K
 try simp only [ZP, ZA, ZB, ZC, ZD, ZE, ZF]
 refine tkR [27] ?_
 refine ZS rfl (fun K hK => ?_) ZN
 go_simp
 go_at_call 12
 refine (f_sas hHeld (Blk.new _ _ _)).mono ?_
 rintro y10 u10 ⟨rfl, hb10⟩
 refine hK.out _ _ (WkSt.later hHeld hb10) (fun hHeld => ?_)
 clear hK K
 try simp only [ZP, ZA, ZB, ZC, ZD, ZE, ZF]
 refine tkH 28 ?_ rfl blA ?_ ?_
 rotate_left
 ·intro w' hSw; (try dsimp only at hSw); go_simp; try with_reducible rfl
 try simp only [ZP, ZA, ZB, ZC, ZD, ZE, ZF]
 refine tkH 29 ?_ rfl blA ?_ ?_
 rotate_left
 ·intro w' hSw; (try dsimp only at hSw); go_simp; try with_reducible rfl
 try simp only [ZP, ZA, ZB, ZC, ZD, ZE, ZF]
 refine wpAnyH_done (by kernel_rfl) ?_ _
 go_wp2_with fail
 go_ret
 exact ⟨rfl, hHeld.bl⟩
end Go.Proofs.Ytidfngcclbhoaaa
