/-
  The statements of layer 10: works.
-/
import Derived.Test.YtkmfhcjdajbbhaaPersistWorks
namespace Go.Proofs.Ytkmfhcjdajbbhaa
set_option linter.unusedSimpArgs false
set_option linter.unusedVariables false
open Go.RowKit

instance (r : Rg) : Decidable (RgOk r) := by unfold RgOk; infer_instance
def nineR : RT := ⟨9, 9, 10, 0, 5⟩
theorem nineR_ok : nineR.ok := ⟨by decide, by decide, by decide, by decide, by decide, by decide, by decide⟩
theorem per1 : periodOf [] 5 fourP = ⟨190, 1, 8, true⟩ := by rfl
theorem per2 : periodOf [] 10 fourP = ⟨150, 3, 8, true⟩ := by rfl
theorem per3 : periodOf [] 200 fourP = Per.none := by rfl
theorem per4 : periodOf (setOf [⟨4, 4⟩]) 5 fourP = ⟨140, 5, 8, true⟩ := by rfl
theorem per5 : periodOf (setOf [⟨2, 2⟩, ⟨6, 6⟩]) 5 fourP = ⟨10, 3, 5, true⟩ := by rfl
theorem per6 : periodOf (setOf [⟨1, 9⟩]) 5 fourP = Per.none := by rfl
theorem per7 : ((periodOf [] nineR.first fourP).some && decide (3 * baseOf nineR 0 < (periodOf [] nineR.first fourP).d)) = false := by rfl
structure FourAt (w W : World) (k : Nat) : Prop where
  pks : PksAt W (some ⟨k, 0, none⟩) fourP
  lt : k < W.heap.size
  below : Below w.heap.size w W
theorem FourAt.later {w W W' : World} {k : Nat} (h : FourAt w W k) (hb : Below W.heap.size W W') : FourAt w W' k := ⟨h.pks.below hb (Nat.le_refl _), Nat.lt_of_lt_of_le h.lt hb.size, bw_below' h.below hb⟩
theorem FourAt.ha {w W : World} {k : Nat} (h : FourAt w W k) : ∀ x o, (some ⟨k, 0, none⟩ : Option Addr) = some ⟨x, o, none⟩ → x < W.heap.size := fun x o e => by cases e; exact h.lt

structure WkAt (w W : World) (k X : Nat) : Prop where
  four : FourAt w W k
  nine : Blk W X 53 #[.int .i64 9, .int .i64 9, .int .i64 10, .int .i64 0, .int .i64 5]
theorem WkAt.later {w W W' : World} {k X : Nat} (h : WkAt w W k X) (hb : Below W.heap.size W W') : WkAt w W' k X := ⟨h.four.later hb, (hb.block _ h.nine.lt).trans h.nine⟩
theorem WkAt.alloc {w W : World} {k X : Nat} (h : WkAt w W k X) (o : Obj) : WkAt w (W.alloc o) k X := h.later ((Below.refl _ _).alloc (Nat.le_refl _) _)
/-- A call of set in works. -/
theorem WkAt.set {w W : World} {k X : Nat} (h : WkAt w W k X) (xs : List Rg) (n : Nat) (cs : Array Value) (hn : xs.length = n) (hl : n ≤ 200) (hc : cs = (rgsCells xs).toArray) (hx : ∀ r ∈ xs, RgOk r) :
    Calls Try.prog 36 #[.slice (some ⟨W.heap.size, 0, none⟩) n n] (W.alloc (.cells cs 62)) fun e w' => ∃ b g, e = .returned (.pointer (some ⟨b, 0, none⟩)) ∧ IsSet w' b g 256 (setOf xs) ∧ WkAt w w' k X :=
  (set10_any _ n n xs _ hn hl (rgat_new (Blk.new _ _ _) hc) hx).mono fun e w' ⟨b, g, h1, h2⟩ => ⟨b, g, h1, h2.set, (h.alloc _).later h2.below⟩

set_option maxRecDepth 100000 in
set_option maxHeartbeats 4000000 in
theorem works10_any (w : World) : Calls Try.prog 30 #[] w fun e w' => e = .returned (.bool true) ∧ Below w.heap.size w w' := by
  go_enter Try.func30, Try.ntmps30
  go_wp2_with fail
  refine (four10_any _).mono ?_
  rintro e1 w1 ⟨k, rfl, h1, h2, h3⟩
  have hs : FourAt w w1 k := ⟨h1, h2, h3⟩
  clear h1 h2 h3
  go_wp2_with fail
  refine (is10_yes _ 4 4 fourP none [] 5 190 1 8 _ rfl (by omega) hs.pks hs.ha (.inl ⟨rfl, rfl⟩) per1).mono ?_
  rintro e2 w2 ⟨rfl, hb⟩
  have h2 := hs.later hb
  clear hs hb
  go_wp2_with fail
  refine (is10_yes _ 4 4 fourP none [] 10 150 3 8 _ rfl (by omega) h2.pks h2.ha (.inl ⟨rfl, rfl⟩) per2).mono ?_
  rintro e3 w3 ⟨rfl, hb⟩
  have h3 := h2.later hb
  clear h2 hb
  go_wp2_with fail
  refine (none10_yes _ 4 4 fourP none [] 200 _ rfl (by omega) h3.pks h3.ha (.inl ⟨rfl, rfl⟩) per3).mono ?_
  rintro e4 w4 ⟨rfl, hb⟩
  have h4 := h3.later hb
  clear h3 hb
  go_wp2_with fail
  have hk : WkAt w (w4.alloc (.cells #[.int .i64 9, .int .i64 9, .int .i64 10, .int .i64 0, .int .i64 5] 53)) k w4.heap.size := ⟨h4.later ((Below.refl _ _).alloc (Nat.le_refl _) _), Blk.new _ _ _⟩
  have hz : w4.heap.size + 1 = (w4.alloc (.cells #[.int .i64 9, .int .i64 9, .int .i64 10, .int .i64 0, .int .i64 5] 53)).heap.size := (World.size_alloc _ _).symm
  rw [hz]
  clear hz h4
  obtain ⟨X, hX⟩ : ∃ X, w4.heap.size = X := ⟨_, rfl⟩
  rw [hX] at hk ⊢
  clear hX
  refine (hk.set [⟨4, 4⟩] 1 _ rfl (by omega) rfl (by decide)).mono ?_
  rintro e5 w5 ⟨b5, g5, rfl, hs5, hk5⟩
  clear hk
  go_wp2_with fail
  refine (is10_yes _ 4 4 fourP _ _ 5 140 5 8 _ rfl (by omega) hk5.four.pks hk5.four.ha (.inr ⟨b5, g5, 256, rfl, hs5⟩) per4).mono ?_
  rintro e6 w6 ⟨rfl, hb⟩
  have hk6 := hk5.later hb
  clear hk5 hb hs5
  go_wp2_with fail
  refine (hk6.set [⟨2, 2⟩, ⟨6, 6⟩] 2 _ rfl (by omega) rfl (by decide)).mono ?_
  rintro e7 w7 ⟨b7, g7, rfl, hs7, hk7⟩
  clear hk6
  go_wp2_with fail
  refine (is10_yes _ 4 4 fourP _ _ 5 10 3 5 _ rfl (by omega) hk7.four.pks hk7.four.ha (.inr ⟨b7, g7, 256, rfl, hs7⟩) per5).mono ?_
  rintro e8 w8 ⟨rfl, hb⟩
  have hk8 := hk7.later hb
  clear hk7 hb hs7
  go_wp2_with fail
  refine (hk8.set [⟨1, 9⟩] 1 _ rfl (by omega) rfl (by decide)).mono ?_
  rintro e9 w9 ⟨b9, g9, rfl, hs9, hk9⟩
  clear hk8
  go_wp2_with fail
  refine (none10_yes _ 4 4 fourP _ _ 5 _ rfl (by omega) hk9.four.pks hk9.four.ha (.inr ⟨b9, g9, 256, rfl, hs9⟩) per6).mono ?_
  rintro e10 w10 ⟨rfl, hb⟩
  have hk10 := hk9.later hb
  clear hk9 hb hs9
  have c0 := hk10.nine.cell 0
  have c1 := hk10.nine.cell 1
  have c2 := hk10.nine.cell 2
  have c3 := hk10.nine.cell 3
  have c4 := hk10.nine.cell 4
  go_wp2_with fail
  refine (persistis_ok _ 4 4 fourP none [] nineR 0 _ rfl (by omega) hk10.four.pks hk10.four.ha (.inl ⟨rfl, rfl⟩) nineR_ok (by omega) (by omega)).mono ?_
  rintro e11 w11 ⟨rfl, hb⟩
  rw [per7]
  go_wp2_with fail
  go_ret
  exact ⟨rfl, bw_below' hk10.four.below hb⟩
end Go.Proofs.Ytkmfhcjdajbbhaa
