/-
 conf.rows: the fields' rows, their functions; conf.fixed, conf.opened, conf.Default. Printed by wip/genc1.py.
-/
import Derived.Test.YtidfngcclbhoaaaCfPlain
import Derived.Test.YtidfngcclbhoaaaReads
import Derived.Shelf.Abstract
import Derived.Test.YtidfngcclbhoaaaProg
import Derived.WalkKit
import Derived.BigQuiet
import Derived.Deep.LoopGhost
import Derived.Deep.DeepCutAuto
import Derived.Deep.RegionHeld3
import Derived.Deep.QuietTactic
import Derived.Laws.EntriesVeiled
namespace Go.Proofs.Ytidfngcclbhoaaa
open Go.Value renaming int → ZI
open Go.IntKind renaming i64 → ZQ
set_option linter.unusedSimpArgs false
set_option linter.unusedVariables false
open Go.RowKit Go.Shelf

theorem below2 {w w1 w2 : World} (h : Below w.heap.size w w1) (hB : Below w1.heap.size w1 w2) : Below w.heap.size w w2 := h.trans (hB.mono h.size)
def confC (c : CF) : Array Value := #[.bool c.sv, ZI ZQ c.d, ZI ZQ c.first, ZI ZQ c.most, ZI ZQ c.rtt, ZI ZQ c.delay, ZI ZQ c.ex, ZI ZQ c.burst, ZI ZQ c.room, ZI ZQ c.backs]
def ConfAt (w : World) (b : Nat) (c : CF) : Prop := Blk w b 24 (confC c)
def fieldsC (sv : Bool) (v : Nat → Int) : Array Value := #[.bool sv, ZI ZQ (v 1), ZI ZQ (v 2), ZI ZQ (v 3), ZI ZQ (v 4), ZI ZQ (v 5), ZI ZQ (v 6), ZI ZQ (v 7), ZI ZQ (v 8), ZI ZQ (v 9), ZI ZQ (v 0)]
/-- What opened makes: the setting, and its Server as a number. -/
structure FieldsAt (w : World) (b : Nat) (sv : Bool) (vs : List Int) : Prop where
 len : vs.length = 10
 blk : Blk w b 98 (fieldsC sv fun i => vs.getD i 0)
theorem FieldsAt.below {w w' : World} {b : Nat} {sv : Bool} {vs : List Int} (h : FieldsAt w b sv vs) (hb : Below w.heap.size w w') : FieldsAt w' b sv vs := ⟨h.len, (hb.block b h.blk.lt).trans h.blk⟩
theorem ConfAt.below {w w' : World} {b : Nat} {c : CF} (h : ConfAt w b c) (hb : Below w.heap.size w w') : ConfAt w' b c := (hb.block b (Blk.lt h)).trans h
theorem ConfAt.d {w : World} {b : Nat} {c : CF} (h : ConfAt w b c) : w.cell? ⟨b, 1, none⟩ = some (ZI ZQ c.d) := Blk.cell h 1
theorem ConfAt.most {w : World} {b : Nat} {c : CF} (h : ConfAt w b c) : w.cell? ⟨b, 3, none⟩ = some (ZI ZQ c.most) := Blk.cell h 3
theorem fields_cell (sv : Bool) (v : Nat → Int) : ∀ i < 10, (fieldsC sv v)[offF i]? = some (ZI ZQ (v i))
 | 0, _ => rfl
 | 1, _ => rfl
 | 2, _ => rfl
 | 3, _ => rfl
 | 4, _ => rfl
 | 5, _ => rfl
 | 6, _ => rfl
 | 7, _ => rfl
 | 8, _ => rfl
 | 9, _ => rfl
 | n + 10, h => by omega
theorem FieldsAt.get {w : World} {b : Nat} {sv : Bool} {vs : List Int} (h : FieldsAt w b sv vs) {i : Nat} (hi : i < 10) : w.cell? ⟨b, offF i, none⟩ = some (ZI ZQ (vs.getD i 0)) := by
 rw [h.blk.cell]
 exact fields_cell sv _ i hi
theorem fields_set (sv : Bool) (v : Nat → Int) (n : Int) : ∀ i < 10, (fieldsC sv v).setIfInBounds (offF i) (ZI ZQ n) = fieldsC sv fun j => if j = i then n else v j
 | 0, _ => rfl
 | 1, _ => rfl
 | 2, _ => rfl
 | 3, _ => rfl
 | 4, _ => rfl
 | 5, _ => rfl
 | 6, _ => rfl
 | 7, _ => rfl
 | 8, _ => rfl
 | 9, _ => rfl
 | n + 10, h => by omega
theorem FieldsAt.put {w : World} {b : Nat} {sv : Bool} {vs : List Int} (h : FieldsAt w b sv vs) {i : Nat} (hi : i < 10) (n : Int) : FieldsAt (w.setCell ⟨b, offF i, none⟩ (ZI ZQ n)) b sv (vs.set i n) := by
 refine ⟨by rw [List.length_set]; exact h.len, (h.blk.set (offF i) _).eq ?_⟩
 rw [fields_set sv _ n i hi]
 congr 1
 funext j
 rw [List.getD_eq_getElem?_getD, List.getD_eq_getElem?_getD, List.getElem?_set]
 by_cases hj : j = i
 ·subst hj
  rw [if_pos rfl, if_pos rfl, if_pos (by have := h.len; omega)]
  rfl
 ·rw [if_neg hj, if_neg (fun e => hj e.symm)]
/-- A function value that tells where a field's number is. -/
def NAt (v : Value) (i : Nat) : Prop := ∃ g lb, v = .func (.func g) #[] lb ∧ Enters Try.prog g ∧ ∀ (W : World) (b : Nat), Calls Try.prog g (#[.pointer (some ⟨b, 0, none⟩)] ++ lb) W fun e w' => e = .returned (.pointer (some ⟨b, offF i, none⟩)) ∧ W = w'
/-- One that tells from where to where it goes. -/
def EndsAt (w : World) (v : Value) (i : Nat) : Prop := ∃ g lb, v = .func (.func g) #[] lb ∧ Enters Try.prog g ∧ ∀ (W : World) (b : Nat) (c : CF), Below w.heap.size w W → ConfAt W b c → 1200 ≤ c.d ∧ c.d ≤ 65527 → Calls Try.prog g (#[.pointer (some ⟨b, 0, none⟩)] ++ lb) W fun e w' => e = .returned (.tuple #[ZI ZQ (loF c i), ZI ZQ (hiF c i)]) ∧ Below W.heap.size W w'
theorem EndsAt.below {w w' : World} {v : Value} {i : Nat} (h : EndsAt w v i) (hb : Below w.heap.size w w') : EndsAt w' v i := by
 obtain ⟨g, lb, e, he, hc⟩ := h
 exact ⟨g, lb, e, he, fun W b c hB => hc W b c (hb.trans (hB.mono hb.size))⟩
/-- The rows. -/
def RowsAt (w : World) (A : Nat) : Prop := ∃ cs, Blk w A 74 cs ∧ ∀ i < 10, ∃ v u, cs[i * 3]? = some (.string (nameB i)) ∧ cs[i * 3 + 1]? = some v ∧ cs[i * 3 + 2]? = some u ∧ NAt v i ∧ EndsAt w u i
theorem RowsAt.below {w w' : World} {A : Nat} (h : RowsAt w A) (hb : Below w.heap.size w w') : RowsAt w' A := by
 obtain ⟨cs, hB, h⟩ := h
 refine ⟨cs, (hb.block A hB.lt).trans hB, fun i hi => ?_⟩
 obtain ⟨v, u, h0, h1, h2, h3, h4⟩ := h i hi
 exact ⟨v, u, h0, h1, h2, h3, h4.below hb⟩
theorem RowsAt.row {w : World} {A i : Nat} (h : RowsAt w A) (hi : i < 10) : ∃ v u, w.cell? ⟨A, i * 3, none⟩ = some (.string (nameB i)) ∧ w.cell? ⟨A, i * 3 + 1, none⟩ = some v ∧ w.cell? ⟨A, i * 3 + 2, none⟩ = some u ∧ NAt v i ∧ EndsAt w u i := by
 obtain ⟨cs, hB, h⟩ := h
 obtain ⟨v, u, h0, h1, h2, h3, h4⟩ := h i hi
 exact ⟨v, u, by rw [hB.cell]; exact h0, by rw [hB.cell]; exact h1, by rw [hB.cell]; exact h2, h3, h4⟩
/-- The rows' names, and where their numbers are: what stands whatever else is written. -/
def NamesAt (w : World) (A : Nat) : Prop := ∃ cs, Blk w A 74 cs ∧ ∀ i < 10, ∃ v u, cs[i * 3]? = some (.string (nameB i)) ∧ cs[i * 3 + 1]? = some v ∧ cs[i * 3 + 2]? = some u ∧ NAt v i ∧ ∃ g lb, u = .func (.func g) #[] lb
theorem RowsAt.names {w : World} {A : Nat} (h : RowsAt w A) : NamesAt w A := by
 obtain ⟨cs, hB, h⟩ := h
 refine ⟨cs, hB, fun i hi => ?_⟩
 obtain ⟨v, u, h0, h1, h2, h3, g, lb, e, _⟩ := h i hi
 exact ⟨v, u, h0, h1, h2, h3, g, lb, e⟩
theorem NamesAt.eq {w w' : World} {A : Nat} (h : NamesAt w A) (he : ∀ cs, Blk w A 74 cs → Blk w' A 74 cs) : NamesAt w' A := by
 obtain ⟨cs, hB, h⟩ := h
 exact ⟨cs, he cs hB, h⟩
theorem NamesAt.below {w w' : World} {A : Nat} (h : NamesAt w A) (hb : Below w.heap.size w w') : NamesAt w' A := h.eq fun cs hB => (hb.block A hB.lt).trans hB
theorem NamesAt.only {S : List Nat} {w w' : World} {A : Nat} (h : NamesAt w A) (ho : Only S w w') (hA : A ∉ S) : NamesAt w' A := h.eq fun cs hB => ho.blk hB hA
theorem NamesAt.row {w : World} {A i : Nat} (h : NamesAt w A) (hi : i < 10) : ∃ v u, w.cell? ⟨A, i * 3, none⟩ = some (.string (nameB i)) ∧ w.cell? ⟨A, i * 3 + 1, none⟩ = some v ∧ w.cell? ⟨A, i * 3 + 2, none⟩ = some u ∧ NAt v i ∧ ∃ g lb, u = .func (.func g) #[] lb := by
 obtain ⟨cs, hB, h⟩ := h
 obtain ⟨v, u, h0, h1, h2, h3, h4⟩ := h i hi
 exact ⟨v, u, by rw [hB.cell]; exact h0, by rw [hB.cell]; exact h1, by rw [hB.cell]; exact h2, h3, h4⟩
theorem NamesAt.lt {w : World} {A : Nat} (h : NamesAt w A) : A < w.heap.size := by
 obtain ⟨cs, hB, _⟩ := h
 exact hB.lt
theorem n0_any (b : Nat) (w : World) : Calls Try.prog 37 #[.pointer (some ⟨b, 0, none⟩)] w fun e w' => e = .returned (.pointer (some ⟨b, 10, none⟩)) ∧ w = w' := by
 go_enter Try.func37, Try.ntmps37
 go_wp2
 go_ret
 exact ⟨rfl, rfl⟩
theorem n0_at : NAt (.func (.func 37) #[] #[]) 0 := ⟨37, #[], rfl, enters_of Try.func37 (by kernel_rfl) rfl, fun W b => n0_any b W⟩
theorem n1_any (b : Nat) (w : World) : Calls Try.prog 39 #[.pointer (some ⟨b, 0, none⟩)] w fun e w' => e = .returned (.pointer (some ⟨b, 1, none⟩)) ∧ w = w' := by
 go_enter Try.func39, Try.ntmps39
 go_wp2
 go_ret
 exact ⟨rfl, rfl⟩
theorem n1_at : NAt (.func (.func 39) #[] #[]) 1 := ⟨39, #[], rfl, enters_of Try.func39 (by kernel_rfl) rfl, fun W b => n1_any b W⟩
theorem n2_any (b : Nat) (w : World) : Calls Try.prog 40 #[.pointer (some ⟨b, 0, none⟩)] w fun e w' => e = .returned (.pointer (some ⟨b, 2, none⟩)) ∧ w = w' := by
 go_enter Try.func40, Try.ntmps40
 go_wp2
 go_ret
 exact ⟨rfl, rfl⟩
theorem n2_at : NAt (.func (.func 40) #[] #[]) 2 := ⟨40, #[], rfl, enters_of Try.func40 (by kernel_rfl) rfl, fun W b => n2_any b W⟩
theorem n3_any (b : Nat) (w : World) : Calls Try.prog 42 #[.pointer (some ⟨b, 0, none⟩)] w fun e w' => e = .returned (.pointer (some ⟨b, 3, none⟩)) ∧ w = w' := by
 go_enter Try.func42, Try.ntmps42
 go_wp2
 go_ret
 exact ⟨rfl, rfl⟩
theorem n3_at : NAt (.func (.func 42) #[] #[]) 3 := ⟨42, #[], rfl, enters_of Try.func42 (by kernel_rfl) rfl, fun W b => n3_any b W⟩
theorem n4_any (b : Nat) (w : World) : Calls Try.prog 44 #[.pointer (some ⟨b, 0, none⟩)] w fun e w' => e = .returned (.pointer (some ⟨b, 4, none⟩)) ∧ w = w' := by
 go_enter Try.func44, Try.ntmps44
 go_wp2
 go_ret
 exact ⟨rfl, rfl⟩
theorem n4_at : NAt (.func (.func 44) #[] #[]) 4 := ⟨44, #[], rfl, enters_of Try.func44 (by kernel_rfl) rfl, fun W b => n4_any b W⟩
theorem n5_any (b : Nat) (w : World) : Calls Try.prog 45 #[.pointer (some ⟨b, 0, none⟩)] w fun e w' => e = .returned (.pointer (some ⟨b, 5, none⟩)) ∧ w = w' := by
 go_enter Try.func45, Try.ntmps45
 go_wp2
 go_ret
 exact ⟨rfl, rfl⟩
theorem n5_at : NAt (.func (.func 45) #[] #[]) 5 := ⟨45, #[], rfl, enters_of Try.func45 (by kernel_rfl) rfl, fun W b => n5_any b W⟩
theorem n6_any (b : Nat) (w : World) : Calls Try.prog 46 #[.pointer (some ⟨b, 0, none⟩)] w fun e w' => e = .returned (.pointer (some ⟨b, 6, none⟩)) ∧ w = w' := by
 go_enter Try.func46, Try.ntmps46
 go_wp2
 go_ret
 exact ⟨rfl, rfl⟩
theorem n6_at : NAt (.func (.func 46) #[] #[]) 6 := ⟨46, #[], rfl, enters_of Try.func46 (by kernel_rfl) rfl, fun W b => n6_any b W⟩
theorem n7_any (b : Nat) (w : World) : Calls Try.prog 47 #[.pointer (some ⟨b, 0, none⟩)] w fun e w' => e = .returned (.pointer (some ⟨b, 7, none⟩)) ∧ w = w' := by
 go_enter Try.func47, Try.ntmps47
 go_wp2
 go_ret
 exact ⟨rfl, rfl⟩
theorem n7_at : NAt (.func (.func 47) #[] #[]) 7 := ⟨47, #[], rfl, enters_of Try.func47 (by kernel_rfl) rfl, fun W b => n7_any b W⟩
theorem n8_any (b : Nat) (w : World) : Calls Try.prog 49 #[.pointer (some ⟨b, 0, none⟩)] w fun e w' => e = .returned (.pointer (some ⟨b, 8, none⟩)) ∧ w = w' := by
 go_enter Try.func49, Try.ntmps49
 go_wp2
 go_ret
 exact ⟨rfl, rfl⟩
theorem n8_at : NAt (.func (.func 49) #[] #[]) 8 := ⟨49, #[], rfl, enters_of Try.func49 (by kernel_rfl) rfl, fun W b => n8_any b W⟩
theorem n9_any (b : Nat) (w : World) : Calls Try.prog 50 #[.pointer (some ⟨b, 0, none⟩)] w fun e w' => e = .returned (.pointer (some ⟨b, 9, none⟩)) ∧ w = w' := by
 go_enter Try.func50, Try.ntmps50
 go_wp2
 go_ret
 exact ⟨rfl, rfl⟩
theorem n9_at : NAt (.func (.func 50) #[] #[]) 9 := ⟨50, #[], rfl, enters_of Try.func50 (by kernel_rfl) rfl, fun W b => n9_any b W⟩
theorem ends2_any (b : Nat) (c : CF) (w : World) (h : ConfAt w b c) (hd : 1200 ≤ c.d ∧ c.d ≤ 65527) : Calls Try.prog 41 #[.pointer (some ⟨b, 0, none⟩)] w fun e w' => e = .returned (.tuple #[ZI ZQ (2 * c.d), ZI ZQ (c.most)]) ∧ Below w.heap.size w w' := by
 have h1 := h.d
 have h3 := h.most
 clear h
 go_enter Try.func41, Try.ntmps41
 go_wp2
 go_quiet (fail)
 go_wp2
 exact bodyPost_ret (v := .tuple #[ZI ZQ (2 * c.d), ZI ZQ (c.most)]) (by simp [results, Try.results41, go_sem]) rfl ⟨rfl, below_drewN (Below.refl _ _) _⟩
theorem ends2_at (w : World) : EndsAt w (.func (.func 41) #[] #[]) 2 := ⟨41, #[], rfl, enters_of Try.func41 (by kernel_rfl) rfl, fun W b c _ hC hd => ends2_any b c W hC hd⟩
theorem ends3_any (b : Nat) (c : CF) (w : World) (h : ConfAt w b c) (hd : 1200 ≤ c.d ∧ c.d ≤ 65527) : Calls Try.prog 43 #[.pointer (some ⟨b, 0, none⟩)] w fun e w' => e = .returned (.tuple #[ZI ZQ (2 * c.d), ZI ZQ (1099511627776)]) ∧ Below w.heap.size w w' := by
 have h1 := h.d
 have h3 := h.most
 clear h
 go_enter Try.func43, Try.ntmps43
 go_wp2
 exact bodyPost_ret (v := .tuple #[ZI ZQ (2 * c.d), ZI ZQ (1099511627776)]) (by simp [results, Try.results43, go_sem]) rfl ⟨rfl, Below.refl _ _⟩
theorem ends3_at (w : World) : EndsAt w (.func (.func 43) #[] #[]) 3 := ⟨43, #[], rfl, enters_of Try.func43 (by kernel_rfl) rfl, fun W b c _ hC hd => ends3_any b c W hC hd⟩
theorem ends7_any (b : Nat) (c : CF) (w : World) (h : ConfAt w b c) (hd : 1200 ≤ c.d ∧ c.d ≤ 65527) : Calls Try.prog 48 #[.pointer (some ⟨b, 0, none⟩)] w fun e w' => e = .returned (.tuple #[ZI ZQ (c.d), ZI ZQ (1073741824)]) ∧ Below w.heap.size w w' := by
 have h1 := h.d
 have h3 := h.most
 clear h
 go_enter Try.func48, Try.ntmps48
 go_wp2
 exact bodyPost_ret (v := .tuple #[ZI ZQ (c.d), ZI ZQ (1073741824)]) (by simp [results, Try.results48, go_sem]) rfl ⟨rfl, Below.refl _ _⟩
theorem ends7_at (w : World) : EndsAt w (.func (.func 48) #[] #[]) 7 := ⟨48, #[], rfl, enters_of Try.func48 (by kernel_rfl) rfl, fun W b c _ hC hd => ends7_any b c W hC hd⟩
/-- A closure of conf.fixed. -/
def FixAt (w : World) (v : Value) (lo hi : Int) : Prop := ∃ p q, v = .func (.func 67) #[] #[.pointer (some ⟨p, 0, none⟩), .pointer (some ⟨q, 0, none⟩)] ∧ p < w.heap.size ∧ q < w.heap.size ∧ w.cell? ⟨p, 0, none⟩ = some (ZI ZQ lo) ∧ w.cell? ⟨q, 0, none⟩ = some (ZI ZQ hi)
theorem FixAt.below {w w' : World} {v : Value} {lo hi : Int} (h : FixAt w v lo hi) (hb : Below w.heap.size w w') : FixAt w' v lo hi := by
 obtain ⟨p, q, e, hp, hq, h1, h2⟩ := h
 exact ⟨p, q, e, Nat.lt_of_lt_of_le hp hb.size, Nat.lt_of_lt_of_le hq hb.size, (hb.cell (p := ⟨p, 0, none⟩) hp).trans h1, (hb.cell (p := ⟨q, 0, none⟩) hq).trans h2⟩
theorem fix1_any (a : Value) (p q : Nat) (lo hi : Int) (w : World) (h1 : w.cell? ⟨p, 0, none⟩ = some (ZI ZQ lo)) (h2 : w.cell? ⟨q, 0, none⟩ = some (ZI ZQ hi)) : Calls Try.prog 67 #[a, .pointer (some ⟨p, 0, none⟩), .pointer (some ⟨q, 0, none⟩)] w fun e w' => e = .returned (.tuple #[ZI ZQ lo, ZI ZQ hi]) ∧ Below w.heap.size w w' := by
 go_enter Try.func67, Try.ntmps67
 go_wp2
 go_quiet (fail)
 go_wp2
 exact bodyPost_ret (v := .tuple #[ZI ZQ lo, ZI ZQ hi]) (by simp [results, Try.results67, go_sem]) rfl ⟨rfl, below_drewN (Below.refl _ _) _⟩
theorem FixAt.ends {w : World} {v : Value} {lo hi : Int} {i : Nat} (h : FixAt w v lo hi) (hl : ∀ c, loF c i = lo) (hh : ∀ c, hiF c i = hi) : EndsAt w v i := by
 obtain ⟨p, q, e, hp, hq, h1, h2⟩ := h
 refine ⟨_, _, e, enters_of Try.func67 (by kernel_rfl) rfl, fun W b c hB _ _ => ?_⟩
 rw [hl, hh]
 exact fix1_any _ p q lo hi W ((hB.cell (p := ⟨p, 0, none⟩) hp).trans h1) ((hB.cell (p := ⟨q, 0, none⟩) hq).trans h2)
theorem fixed_any (lo hi : Int) (w : World) : Calls Try.prog 38 #[ZI ZQ lo, ZI ZQ hi] w fun e w' => ∃ v, e = .returned v ∧ FixAt w' v lo hi ∧ Below w.heap.size w w' := by
 go_enter Try.func38, Try.ntmps38
 go_wp2
 go_ret
 refine ⟨_, rfl, ⟨_, _, rfl, ?_, ?_, ?_, ?_⟩, ((Below.refl _ _).alloc (Nat.le_refl _) _).alloc (by simp) _⟩
 ·simp
  omega
 ·simp
 ·exact ((Blk.new _ _ _).alloc _).cell 0
 ·simp
set_option maxHeartbeats 4000000 in
theorem rows_any (w : World) : Calls Try.prog 20 #[] w fun e w' => ∃ A, e = .returned (.slice (some ⟨A, 0, none⟩) 10 10) ∧ RowsAt w' A ∧ w.heap.size ≤ A ∧ Below w.heap.size w w' := by
 have hB0 : Below w.heap.size w w := Below.refl _ _
 go_enter Try.func20, Try.ntmps20
 go_wp2_with fail
 refine (fixed_any 0 1 _).mono ?_
 rintro e0 w0 ⟨v0, rfl, h0, b0⟩
 obtain ⟨p0, q0, hv0, _⟩ := id h0
 subst hv0
 have hB1 := hB0.trans (b0.mono hB0.size)
 clear b0 hB0
 go_wp2_with fail
 refine (fixed_any 1200 65527 _).mono ?_
 rintro e1 w1 ⟨v1, rfl, h1, b1⟩
 obtain ⟨p1, q1, hv1, _⟩ := id h1
 subst hv1
 have h0 := h0.below b1
 have hB2 := hB1.trans (b1.mono hB1.size)
 clear b1 hB1
 go_wp2_with fail
 refine (fixed_any 1000000 60000000000 _).mono ?_
 rintro e4 w4 ⟨v4, rfl, h4, b4⟩
 obtain ⟨p4, q4, hv4, _⟩ := id h4
 subst hv4
 have h0 := h0.below b4
 have h1 := h1.below b4
 have hB5 := hB2.trans (b4.mono hB2.size)
 clear b4 hB2
 go_wp2_with fail
 refine (fixed_any 0 16384000000 _).mono ?_
 rintro e5 w5 ⟨v5, rfl, h5, b5⟩
 obtain ⟨p5, q5, hv5, _⟩ := id h5
 subst hv5
 have h0 := h0.below b5
 have h1 := h1.below b5
 have h4 := h4.below b5
 have hB6 := hB5.trans (b5.mono hB5.size)
 clear b5 hB5
 go_wp2_with fail
 refine (fixed_any 0 20 _).mono ?_
 rintro e6 w6 ⟨v6, rfl, h6, b6⟩
 obtain ⟨p6, q6, hv6, _⟩ := id h6
 subst hv6
 have h0 := h0.below b6
 have h1 := h1.below b6
 have h4 := h4.below b6
 have h5 := h5.below b6
 have hB7 := hB6.trans (b6.mono hB6.size)
 clear b6 hB6
 go_wp2_with fail
 refine (fixed_any 2 256 _).mono ?_
 rintro e8 w8 ⟨v8, rfl, h8, b8⟩
 obtain ⟨p8, q8, hv8, _⟩ := id h8
 subst hv8
 have h0 := h0.below b8
 have h1 := h1.below b8
 have h4 := h4.below b8
 have h5 := h5.below b8
 have h6 := h6.below b8
 have hB9 := hB7.trans (b8.mono hB7.size)
 clear b8 hB7
 go_wp2_with fail
 refine (fixed_any 0 10 _).mono ?_
 rintro e9 w9 ⟨v9, rfl, h9, b9⟩
 obtain ⟨p9, q9, hv9, _⟩ := id h9
 subst hv9
 have h0 := h0.below b9
 have h1 := h1.below b9
 have h4 := h4.below b9
 have h5 := h5.below b9
 have h6 := h6.below b9
 have h8 := h8.below b9
 have hB10 := hB9.trans (b9.mono hB9.size)
 clear b9 hB9
 go_wp2_with fail
 go_ret
 refine ⟨_, rfl, ⟨_, Blk.new _ _ _, fun i hi => ?_⟩, by have := hB10.size; simpa using this, hB10.alloc hB10.size _⟩
 have hN : ∀ o, Below w9.heap.size w9 (w9.alloc o) := fun o => (Below.refl _ _).alloc (Nat.le_refl _) _
 have hi10 : i = 0 ∨ i = 1 ∨ i = 2 ∨ i = 3 ∨ i = 4 ∨ i = 5 ∨ i = 6 ∨ i = 7 ∨ i = 8 ∨ i = 9 := by omega
 rcases hi10 with rfl | rfl | rfl | rfl | rfl | rfl | rfl | rfl | rfl | rfl
 ·exact ⟨_, _, rfl, rfl, rfl, n0_at, (h0.below (hN _)).ends (fun _ => rfl) (fun _ => rfl)⟩
 ·exact ⟨_, _, rfl, rfl, rfl, n1_at, (h1.below (hN _)).ends (fun _ => rfl) (fun _ => rfl)⟩
 ·exact ⟨_, _, rfl, rfl, rfl, n2_at, ends2_at _⟩
 ·exact ⟨_, _, rfl, rfl, rfl, n3_at, ends3_at _⟩
 ·exact ⟨_, _, rfl, rfl, rfl, n4_at, (h4.below (hN _)).ends (fun _ => rfl) (fun _ => rfl)⟩
 ·exact ⟨_, _, rfl, rfl, rfl, n5_at, (h5.below (hN _)).ends (fun _ => rfl) (fun _ => rfl)⟩
 ·exact ⟨_, _, rfl, rfl, rfl, n6_at, (h6.below (hN _)).ends (fun _ => rfl) (fun _ => rfl)⟩
 ·exact ⟨_, _, rfl, rfl, rfl, n7_at, ends7_at _⟩
 ·exact ⟨_, _, rfl, rfl, rfl, n8_at, (h8.below (hN _)).ends (fun _ => rfl) (fun _ => rfl)⟩
 ·exact ⟨_, _, rfl, rfl, rfl, n9_at, (h9.below (hN _)).ends (fun _ => rfl) (fun _ => rfl)⟩
/-- opened. -/
theorem opened_any (c : CF) (w : World) : Calls Try.prog 19 #[.agg (confC c)] w fun e w' => ∃ b, e = .returned (.pointer (some ⟨b, 0, none⟩)) ∧ FieldsAt w' b c.sv c.vals ∧ w.heap.size ≤ b ∧ Below w.heap.size w w' := by
 obtain ⟨sv, d, first, most, rtt, delay, ex, burst, room, backs⟩ := c
 unfold confC
 go_enter Try.func19, Try.ntmps19
 cases sv
 all_goals
  go_wp2
  go_ret
  exact ⟨_, rfl, ⟨rfl, blk_new_at (by simp)⟩, by simp, ((Below.refl _ _).alloc (Nat.le_refl _) _).alloc (by simp) _⟩
end Go.Proofs.Ytidfngcclbhoaaa
