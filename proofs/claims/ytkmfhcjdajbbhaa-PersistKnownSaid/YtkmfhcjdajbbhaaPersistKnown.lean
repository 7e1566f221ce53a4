/-
  The statements of layer 10: PersistKnown. Printed by wip/genr10k.py.
-/
import Derived.Test.YtkmfhcjdajbbhaaTells
import Derived.Test.YtkmfhcjdajbbhaaRegionStore
namespace Go.Proofs.Ytkmfhcjdajbbhaa
set_option linter.unusedSimpArgs false
set_option linter.unusedVariables false
open Go.RowKit

section
open Go
variable {P : Program} {ops : Array Oper} {Q : Exit → Act → World → Prop} {md : Region.Mode} {C : World → Prop} {st : Nat}
theorem wpAnyS_two {i k : Nat} {o p : Oper} {fuel : Nat} {listed : Array Bool} {a : Act} {w : World} (ho : ops[i]? = some o) (hp : ops[k]? = some p) (hr : Region.ready md ops listed = [i, k])
    (h : ∀ K' : Act → World → Prop, Shut (∀ a w, ((listed.setIfInBounds i true).getD st false = false → C w) → (((listed.setIfInBounds i true).getD st false = false → C w) → wpAnyS P md ops Q C st fuel (listed.setIfInBounds i true) a w) → K' a w) → if Region.wanted o (yielded ops a.tmps) = true then Oper.wp P o a w K' Q else K' (a.put o.dst undef) w)
    (h2 : ∀ K' : Act → World → Prop, Shut (∀ a w, ((listed.setIfInBounds k true).getD st false = false → C w) → (((listed.setIfInBounds k true).getD st false = false → C w) → wpAnyS P md ops Q C st fuel (listed.setIfInBounds k true) a w) → K' a w) → if Region.wanted p (yielded ops a.tmps) = true then Oper.wp P p a w K' Q else K' (a.put p.dst undef) w) :
    wpAnyS P md ops Q C st (fuel + 1) listed a w := by
  refine ⟨fun h0 => (by rw [hr] at h0; cases h0), fun j hj => ?_⟩
  rw [hr] at hj
  simp only [List.mem_cons, List.not_mem_nil, or_false] at hj
  rcases hj with rfl | rfl
  · exact wpOp_step ho (fun K' hK => h K' (fun a w hS hW => hK a w ⟨hS, hW hS⟩))
  · exact wpOp_step hp (fun K' hK => h2 K' (fun a w hS hW => hK a w ⟨hS, hW hS⟩))
end

def ends10 : Array Value := #[.int .i64 (-9223372036854775808), .int .i64 (-1), .int .i64 0, .int .i64 1, .int .i64 10, .int .i64 9007199254740991, .int .i64 9007199254740992, .int .i64 9223372036854775807]
theorem ends10_at : ∀ i, i < 8 → ∃ z, ends10[i]? = some (.int .i64 z) ∧ -9223372036854775808 ≤ z ∧ z ≤ 9223372036854775807
  | 0, _ => ⟨_, rfl, by decide, by decide⟩
  | 1, _ => ⟨_, rfl, by decide, by decide⟩
  | 2, _ => ⟨_, rfl, by decide, by decide⟩
  | 3, _ => ⟨_, rfl, by decide, by decide⟩
  | 4, _ => ⟨_, rfl, by decide, by decide⟩
  | 5, _ => ⟨_, rfl, by decide, by decide⟩
  | 6, _ => ⟨_, rfl, by decide, by decide⟩
  | 7, _ => ⟨_, rfl, by decide, by decide⟩
  | n + 8, h => absurd h (by omega)
def pkRow (ps : List PK) : Array Value := (ps.flatMap fun p => (pkC p).toList).toArray
def FourB (w : World) (e : Ending) (w' : World) : Prop := ∃ k, e = .returned (.slice (some ⟨k, 0, none⟩) 4 4) ∧ Blk w' k 55 (pkRow fourP) ∧ w.heap.size ≤ k ∧ Below w.heap.size w w'
set_option maxHeartbeats 1000000 in
theorem four10_blk (w : World) : Calls Try.prog 33 #[] w (FourB w) := by
  go_enter Try.func33, Try.ntmps33
  go_wp2_with fail
  refine (at10_any _ _ _).mono ?_
  rintro e1 w1 ⟨rfl, hb1⟩
  go_wp2_with fail
  refine (at10_any _ _ _).mono ?_
  rintro e2 w2 ⟨rfl, hb2⟩
  have hb2 := bw_below' hb1 hb2
  clear hb1
  go_wp2_with fail
  refine (at10_any _ _ _).mono ?_
  rintro e3 w3 ⟨rfl, hb3⟩
  have hb3 := bw_below' hb2 hb3
  clear hb2
  go_wp2_with fail
  refine (at10_any _ _ _).mono ?_
  rintro e4 w4 ⟨rfl, hb4⟩
  have hb4 := bw_below' hb3 hb4
  clear hb3
  unfold pkV pkC atP
  go_wp2_with fail
  go_ret
  exact ⟨w4.heap.size, rfl, (Blk.new w4 55 _).eq rfl, hb4.size, bw_below' hb4 ((Below.refl _ _).alloc (Nat.le_refl _) _)⟩

structure KnA (w W : World) (E X : Nat) (zi : Int) : Prop where
  e : Blk W E 3 ends10
  x : Blk W X 53 #[.int .i64 9, .int .i64 9, .int .i64 10, .int .i64 0, .int .i64 zi]
  below : Below w.heap.size w W
theorem KnA.later {w W W' : World} {E X : Nat} {zi : Int} (h : KnA w W E X zi) (hb : Below W.heap.size W W') : KnA w W' E X zi := ⟨(hb.block _ h.e.lt).trans h.e, (hb.block _ h.x.lt).trans h.x, bw_below' h.below hb⟩
theorem KnA.set {w W : World} {E X k1 j : Nat} {zi : Int} {u : Value} (h : KnA w W E X zi) (h1 : k1 ≠ E) (h2 : k1 ≠ X) (hn : w.heap.size ≤ k1) : KnA w (W.setCell ⟨k1, j, none⟩ u) E X zi := by
  have ho : Only [k1] W (W.setCell ⟨k1, j, none⟩ u) := (Only.refl _ _).setCell (.inl (by simp)) _
  exact ⟨ho.blk h.e (by simpa using fun e => h1 e.symm), ho.blk h.x (by simpa using fun e => h2 e.symm), h.below.trans (ho.below (fun x hx => by simp at hx; subst hx; exact hn) h.below.size)⟩
structure KnC (w W : World) (E X : Nat) (zi : Int) (k1 k2 : Nat) (l m : List PK) : Prop where
  a : KnA w W E X zi
  l : Blk W k1 55 (pkRow l)
  m : Blk W k2 55 (pkRow m)
theorem KnC.later {w W W' : World} {E X k1 k2 : Nat} {zi : Int} {l m : List PK} (h : KnC w W E X zi k1 k2 l m) (hb : Below W.heap.size W W') : KnC w W' E X zi k1 k2 l m := ⟨h.a.later hb, (hb.block _ h.l.lt).trans h.l, (hb.block _ h.m.lt).trans h.m⟩
theorem KnC.alloc {w W : World} {E X k1 k2 : Nat} {zi : Int} {l m : List PK} (h : KnC w W E X zi k1 k2 l m) (o : Obj) : KnC w (W.alloc o) E X zi k1 k2 l m := h.later ((Below.refl _ _).alloc (Nat.le_refl _) _)
theorem KnC.drew {w W : World} {E X k1 k2 : Nat} {zi : Int} {l m : List PK} (h : KnC w W E X zi k1 k2 l m) : KnC w W.drew E X zi k1 k2 l m := h.later (Below.refl _ _).drew
theorem KnA.six {w W : World} {E X : Nat} {zi zk : Int} {k : Nat} (h : KnA w W E X zi) (hk : ends10[k]? = some (.int .i64 zk)) : W.cell? ⟨E, k, none⟩ = some (.int .i64 zk) ∧ W.cell? ⟨X, 0, none⟩ = some (.int .i64 9) ∧ W.cell? ⟨X, 1, none⟩ = some (.int .i64 9) ∧ W.cell? ⟨X, 2, none⟩ = some (.int .i64 10) ∧ W.cell? ⟨X, 3, none⟩ = some (.int .i64 0) ∧ W.cell? ⟨X, 4, none⟩ = some (.int .i64 zi) := ⟨(h.e.cell k).trans hk, h.x.cell 0, h.x.cell 1, h.x.cell 2, h.x.cell 3, h.x.cell 4⟩
theorem oneArg {W : World} {t : Nat} {cs : Array Value} (r : Rg) (hc : cs = (rgsCells [r]).toArray) : SetArg (W.alloc (.cells cs t)) (.slice (some ⟨W.heap.size, 0, none⟩) 1 1) (oneR r) := .inr ⟨_, _, r, rfl, rgat_new (Blk.new _ _ _) hc, rfl⟩
theorem oneArg' {W : World} {t b : Nat} {cs : Array Value} (r : Rg) (hB : Blk W b t cs) (hc : cs = (rgsCells [r]).toArray) : SetArg W (.slice (some ⟨b, 0, none⟩) 1 1) (oneR r) := .inr ⟨_, _, r, rfl, rgat_new hB hc, rfl⟩
theorem four_small {a b : Int} (ha : -9223372036854775808 ≤ a ∧ a ≤ 9223372036854775807) (hb : -9223372036854775808 ≤ b ∧ b ≤ 9223372036854775807) : (∀ p ∈ [atP 1 10, atP 3 50, atP 5 60, atP 8 a], p.small) ∧ ∀ p ∈ [atP 1 b, atP 3 50, atP 5 60, atP a 200], p.small := by
  constructor
  · intro p hp
    simp at hp
    rcases hp with rfl | rfl | rfl | rfl
    · exact atP_small (by decide) (by decide)
    · exact atP_small (by decide) (by decide)
    · exact atP_small (by decide) (by decide)
    · exact atP_small (by decide) ha
  · intro p hp
    simp at hp
    rcases hp with rfl | rfl | rfl | rfl
    · exact atP_small (by decide) hb
    · exact atP_small (by decide) (by decide)
    · exact atP_small (by decide) (by decide)
    · exact atP_small ha (by decide)
theorem four_sm : ∀ p ∈ fourP, p.small := by
  intro p hp
  unfold fourP at hp
  simp at hp
  rcases hp with rfl | rfl | rfl | rfl <;> exact atP_small (by decide) (by decide)
def nine (z : Int) : RT := ⟨9, 9, 10, 0, z⟩
/-- A call of PersistTells, of a row of four packets. -/
theorem tells_blk (k : Nat) (ps : List PK) (v : Value) (rs : List Rg) (z : Int) (w : World) (hB : Blk w k 55 (pkRow ps)) (hn : ps.length = 4) (hs : ∀ p ∈ ps, p.small) (hA : SetArg w v rs) :
    Calls Try.prog 34 #[.slice (some ⟨k, 0, none⟩) 4 4, v, .agg #[.int .i64 9, .int .i64 9, .int .i64 10, .int .i64 0, .int .i64 z]] w fun e w' => e = .returned (.bool true) ∧ Below w.heap.size w w' :=
  tells_any k ps v rs (nine z) w hn hB hs hA (by show -9223372036854775808 ≤ (10 : Int) ∧ (10 : Int) ≤ 9223372036854775807; decide)

def pairP : List PK := [atP 3 9, atP 4 20]
theorem pairP_small : ∀ p ∈ pairP, p.small := by
  intro p hp
  unfold pairP at hp
  simp at hp
  rcases hp with rfl | rfl <;> exact atP_small (by decide) (by decide)
theorem perP1 : periodOf (setOf [⟨3, 4⟩]) 5 pairP = ⟨11, 3, 4, true⟩ := by rfl
theorem perP2 : periodOf (setOf [⟨0, 9⟩]) 5 pairP = ⟨11, 3, 4, true⟩ := by rfl
theorem per59 : periodOf [] 0 [atP 5 9] = Per.none := by rfl
theorem per18 : ((periodOf [] (RT.mk 0 0 333000000 166500000 (-1)).first [atP 1 8, atP 2 1125899906842624]).some && rtC ⟨0, 0, 333000000, 166500000, -1⟩ && decide (timeOf (3 * baseAny ⟨0, 0, 333000000, 166500000, -1⟩ 0) < (periodOf [] (RT.mk 0 0 333000000 166500000 (-1)).first [atP 1 8, atP 2 1125899906842624]).d)) = false := by rfl
theorem sm59 : ∀ p ∈ [atP 5 9], p.small := by
  intro p hp
  simp at hp
  subst hp
  exact atP_small (by decide) (by decide)
theorem sm18 : ∀ p ∈ [atP 1 8, atP 2 1125899906842624], p.small := by
  intro p hp
  simp at hp
  rcases hp with rfl | rfl <;> exact atP_small (by decide) (by decide)
structure KnZ (w W : World) (X k : Nat) : Prop where
  x : Blk W X 53 #[.int .i64 0, .int .i64 0, .int .i64 333000000, .int .i64 166500000, .int .i64 (-1)]
  p : Blk W k 55 (pkRow pairP)
  below : Below w.heap.size w W
theorem KnZ.later {w W W' : World} {X k : Nat} (h : KnZ w W X k) (hb : Below W.heap.size W W') : KnZ w W' X k := ⟨(hb.block _ h.x.lt).trans h.x, (hb.block _ h.p.lt).trans h.p, bw_below' h.below hb⟩
theorem KnZ.alloc {w W : World} {X k : Nat} (h : KnZ w W X k) (o : Obj) : KnZ w (W.alloc o) X k := h.later ((Below.refl _ _).alloc (Nat.le_refl _) _)
theorem KnZ.drew {w W : World} {X k : Nat} (h : KnZ w W X k) : KnZ w W.drew X k := h.later (Below.refl _ _).drew
theorem KnZ.pks {w W : World} {X k : Nat} (h : KnZ w W X k) : PksAt W (some ⟨k, 0, none⟩) pairP := pksAt_new h.p rfl pairP_small
theorem KnZ.ha {w W : World} {X k : Nat} (h : KnZ w W X k) : ∀ x o, (some ⟨k, 0, none⟩ : Option Addr) = some ⟨x, o, none⟩ → x < W.heap.size := fun x o e => by cases e; exact h.p.lt
theorem KnZ.five {w W : World} {X k : Nat} (h : KnZ w W X k) : W.cell? ⟨X, 0, none⟩ = some (.int .i64 0) ∧ W.cell? ⟨X, 1, none⟩ = some (.int .i64 0) ∧ W.cell? ⟨X, 2, none⟩ = some (.int .i64 333000000) ∧ W.cell? ⟨X, 3, none⟩ = some (.int .i64 166500000) ∧ W.cell? ⟨X, 4, none⟩ = some (.int .i64 (-1)) := ⟨h.x.cell 0, h.x.cell 1, h.x.cell 2, h.x.cell 3, h.x.cell 4⟩
theorem KnZ.set {w W : World} {X k : Nat} (h : KnZ w W X k) (xs : List Rg) (n : Nat) (cs : Array Value) (hn : xs.length = n) (hl : n ≤ 200) (hc : cs = (rgsCells xs).toArray) (hx : ∀ r ∈ xs, RgOk r) :
    Calls Try.prog 36 #[.slice (some ⟨W.heap.size, 0, none⟩) n n] (W.alloc (.cells cs 62)) fun e w' => ∃ b g, e = .returned (.pointer (some ⟨b, 0, none⟩)) ∧ IsSet w' b g 256 (setOf xs) ∧ KnZ w w' X k :=
  (set10_any _ n n xs _ hn hl (rgat_new (Blk.new _ _ _) hc) hx).mono fun e w' ⟨b, g, h1, h2⟩ => ⟨b, g, h1, h2.set, (h.alloc _).later h2.below⟩

theorem clamp10 (z : Int) : ∃ m T, (if z < 9007199254740991 then z else 9007199254740991) = m ∧ (if 0 < m then m else 0) = T ∧ -9223372036854775808 ≤ T ∧ T ≤ 9223372036854775807 := by
  refine ⟨_, _, rfl, rfl, ?_, ?_⟩ <;> split <;> split <;> omega

set_option maxRecDepth 100000 in
set_option maxHeartbeats 4000000 in
/-- PersistKnown answers true. -/
theorem persistknown_any (w : World) : Calls Try.prog 7 #[] w fun e w' => e = .returned (.bool true) ∧ Below w.heap.size w w' := by
  go_enter Try.func7, Try.ntmps7
  go_wp2_with fail
  go_loopg [2] 8 (fun kx s2 wr => ∃ i : Nat, s2 = .int .i64 i ∧ i ≤ 8 ∧ 8 - i ≤ kx ∧ Blk wr w.heap.size 3 ends10 ∧ Below w.heap.size w wr)
  case atStart => exact ⟨0, rfl, by omega, by omega, Blk.new _ _ _, (Below.refl _ _).alloc (Nat.le_refl _) _⟩
  case round =>
    obtain ⟨i, rfl, hi, hkx, hE, hW⟩ := hrel
    by_cases hlt : i < 8
    · obtain ⟨zi, hzi, i1, i2⟩ := ends10_at i hlt
      have hi0 : (0 : Int) ≤ (i : Int) := by omega
      have hi8 : (i : Int) < 8 := by omega
      have ei := (hE.cell i).trans hzi
      have HZI := hide hzi
      have HI := hide (And.intro i1 i2)
      clear hzi i1 i2
      go_wp2_with fail
      have hA : KnA w (wr.alloc (.cells #[.int .i64 9, .int .i64 9, .int .i64 10, .int .i64 0, .int .i64 zi] 53)) w.heap.size wr.heap.size zi := ⟨hE.alloc _, Blk.new _ _ _, hW.alloc hW.size _⟩
      have hEl := hE.lt
      clear hE hW ei
      obtain ⟨W0, hW0⟩ : ∃ W0, wr.alloc (.cells #[.int .i64 9, .int .i64 9, .int .i64 10, .int .i64 0, .int .i64 zi] 53) = W0 := ⟨_, rfl⟩
      obtain ⟨X, hX⟩ : ∃ X, wr.heap.size = X := ⟨_, rfl⟩
      rw [hW0, hX] at hA
      rw [hX] at hEl
      have HA0 := hide hA
      clear hA
      go_loopg [4] 8 (fun ky s4 wi => ∃ k : Nat, s4 = .int .i64 k ∧ k ≤ 8 ∧ 8 - k ≤ ky ∧ KnA w wi w.heap.size X zi)
      case atStart => exact ⟨0, rfl, by omega, by omega, by first | exact HA0.out | (rw [hW0]; exact HA0.out) | (subst hW0; exact HA0.out)⟩
      case round =>
        clear HA0
        obtain ⟨k, rfl, hk, hky, hA⟩ := hrel
        by_cases hlt2 : k < 8
        · obtain ⟨zk, hzk, k1, k2⟩ := ends10_at k hlt2
          have hk0 : (0 : Int) ≤ (k : Int) := by omega
          have hk8 : (k : Int) < 8 := by omega
          have HZK := hide hzk
          have HK := hide (And.intro k1 k2)
          clear hzk k1 k2
          have HA := hide hA
          clear hA
          go_wp2_with fail
          refine (four10_blk _).mono ?_
          rintro e1 w1 ⟨k1, rfl, hB1, hn1, hb1⟩
          have hA1 := HA.out.later hb1
          have hq1 : w.heap.size ≤ k1 ∧ k1 ≠ w.heap.size ∧ k1 ≠ X := by
            have q1 := HA.out.e.lt
            have q2 := HA.out.x.lt
            exact ⟨by omega, by omega, by omega⟩
          have y0 := (hA1.six HZK.out).1
          have f1 := hB1.frozen 19
          have g1 : w1.cell? ⟨k1, 19, none⟩ = some (.int .i64 200) := hB1.cell 19
          have hA2 : KnA w (w1.setCell ⟨k1, 19, none⟩ (.int .i64 zk)) w.heap.size X zi := hA1.set hq1.2.1 hq1.2.2 hq1.1
          have hB2 : Blk (w1.setCell ⟨k1, 19, none⟩ (.int .i64 zk)) k1 55 (pkRow [atP 1 10, atP 3 50, atP 5 60, atP 8 zk]) := (hB1.set 19 _).eq rfl
          have HA2 := hide hA2
          have HB2 := hide hB2
          have HQ1 := hide hq1
          clear hA1 hA2 hB2 hB1 hn1 hb1 HA hq1
          go_wp2_with fail
          clear y0 f1 g1
          refine (four10_blk _).mono ?_
          rintro e3 w3 ⟨k2, rfl, hB3, hn3, hb3⟩
          have hA3 := HA2.out.later hb3
          have hL3 := (hb3.block _ HB2.out.lt).trans HB2.out
          have hq3 : w.heap.size ≤ k2 ∧ k2 ≠ w.heap.size ∧ k2 ≠ X ∧ k2 ≠ k1 := by
            have q1 := HA2.out.e.lt
            have q2 := HA2.out.x.lt
            have q3 := HB2.out.lt
            have q4 := HQ1.out.1
            exact ⟨by omega, by omega, by omega, by omega⟩
          have hA4 : KnA w (w3.setCell ⟨k2, 18, none⟩ (.int .i64 zk)) w.heap.size X zi := hA3.set hq3.2.1 hq3.2.2.1 hq3.1
          have hL4 := ((Only.refl [k2] w3).setCell (p := ⟨k2, 18, none⟩) (.inl (by simp)) (.int .i64 zk)).blk hL3 (by simpa using fun e => hq3.2.2.2 e.symm)
          have hM4 : Blk (w3.setCell ⟨k2, 18, none⟩ (.int .i64 zk)) k2 55 (pkRow [atP 1 10, atP 3 50, atP 5 60, atP zk 200]) := (hB3.set 18 _).eq rfl
          have y0 := (hA3.six HZK.out).1
          have y1 := (hA4.six HZI.out).1
          have f0 := hB3.frozen 18
          have f1 := hM4.frozen 1
          have g0 : w3.cell? ⟨k2, 18, none⟩ = some (.int .i64 8) := hB3.cell 18
          have g1 : w3.cell? ⟨k2, 1, none⟩ = some (.int .i64 10) := hB3.cell 1
          have f2 := hB3.frozen 1
          have g2 : (w3.setCell ⟨k2, 18, none⟩ (.int .i64 zk)).cell? ⟨k2, 1, none⟩ = some (.int .i64 10) := hM4.cell 1
          have y2 := (hA3.six HZI.out).1
          obtain ⟨m1, T, hm1, hT, t1, t2⟩ := clamp10 zi
          have HT := hide (And.intro t1 t2)
          have HA4 := hide hA4
          have HL4 := hide hL4
          have HM4 := hide hM4
          have HQ3 := hide hq3
          clear hA3 hL3 hq3 hA4 hL4 hM4 hB3 hn3 hb3 HA2 HB2 t1 t2
          go_wp2_with fail
          have hs : KnC w ((w3.setCell ⟨k2, 18, none⟩ (.int .i64 zk)).setCell ⟨k2, 1, none⟩ (.int .i64 T)) w.heap.size X zi k1 k2 [atP 1 10, atP 3 50, atP 5 60, atP 8 zk] [atP 1 T, atP 3 50, atP 5 60, atP zk 200] :=
            ⟨HA4.out.set HQ3.out.2.1 HQ3.out.2.2.1 HQ3.out.1, ((Only.refl [k2] _).setCell (p := ⟨k2, 1, none⟩) (.inl (by simp)) (.int .i64 T)).blk HL4.out (by simpa using fun e => HQ3.out.2.2.2 e.symm), (HM4.out.set 1 _).eq rfl⟩
          have HSM := hide (four_small HK.out HT.out)
          clear y0 y1 y2 f0 f1 f2 g0 g1 g2 HA4 HL4 HM4 HQ3 HQ1 hm1 hT HK HT
          refine name_world (fun W => KnC w W w.heap.size X zi k1 k2 [atP 1 10, atP 3 50, atP 5 60, atP 8 zk] [atP 1 T, atP 3 50, atP 5 60, atP zk 200]) hs ?_
          clear hs
          rintro W5 hs
          have HS := hide hs
          obtain ⟨y0, x0, x1, x2, x3, x4⟩ := hs.a.six HZK.out
          clear hs
          refine wp_region_S (fun w' => w'.cell? ⟨w.heap.size, k, none⟩ = some (.int .i64 zk) ∧ w'.cell? ⟨X, 0, none⟩ = some (.int .i64 9) ∧ w'.cell? ⟨X, 1, none⟩ = some (.int .i64 9) ∧ w'.cell? ⟨X, 2, none⟩ = some (.int .i64 10) ∧ w'.cell? ⟨X, 3, none⟩ = some (.int .i64 0) ∧ w'.cell? ⟨X, 4, none⟩ = some (.int .i64 zi)) 1000 (by kernel_rfl) (by exact ⟨y0, x0, x1, x2, x3, x4⟩) (fun hHeld => ?_)
          refine wpAnyS_take (i := 0) (v := ?_) rfl (by kernel_rfl) (by kernel_rfl) (by kernel_rfl) (by kernel_rfl) (fun _ _ _ h => h) (Or.inl ⟨by rfl, ?_⟩) (by assumption) ?_
          rotate_left
          · intro w hSw; (try dsimp only at hSw); go_simp; try with_reducible rfl
          try simp only [Act.put, List.getElem_toArray, List.getElem_cons_succ, List.getElem_cons_zero, List.setIfInBounds_toArray, List.set_cons_zero, List.set_cons_succ]
          refine wpAnyS_take (i := 1) (v := ?_) rfl (by kernel_rfl) (by kernel_rfl) (by kernel_rfl) (by kernel_rfl) (fun _ _ _ h => h) (Or.inl ⟨by rfl, ?_⟩) (by assumption) ?_
          rotate_left
          · intro w hSw; (try dsimp only at hSw); go_simp; try with_reducible rfl
          try simp only [Act.put, List.getElem_toArray, List.getElem_cons_succ, List.getElem_cons_zero, List.setIfInBounds_toArray, List.set_cons_zero, List.set_cons_succ]
          refine wpAnyS_take (i := 3) (v := ?_) rfl (by kernel_rfl) (by kernel_rfl) (by kernel_rfl) (by kernel_rfl) (fun _ _ _ h => h) (Or.inl ⟨by rfl, ?_⟩) (by assumption) ?_
          rotate_left
          · intro w hSw; (try dsimp only at hSw); go_simp; try with_reducible rfl
          try simp only [Act.put, List.getElem_toArray, List.getElem_cons_succ, List.getElem_cons_zero, List.setIfInBounds_toArray, List.set_cons_zero, List.set_cons_succ]
          refine wpAnyS_one (i := 2) rfl (by kernel_rfl) (fun K hK => ?_)
          go_simp
          refine hK.out _ _ (fun _ => (KnC.a (by first | exact (HS.out.alloc _) | exact (HS.out.alloc _).drew | exact (HS.out.drew.alloc _) | exact (HS.out.drew.alloc _).drew)).six HZK.out) (fun hH => ?_)
          have hHeld := hH rfl
          clear hK K hH
          try simp only [Act.put, List.getElem_toArray, List.getElem_cons_succ, List.getElem_cons_zero, List.setIfInBounds_toArray, List.set_cons_zero, List.set_cons_succ]
          refine wpAnyS_one (i := 4) rfl (by kernel_rfl) (fun K hK => ?_)
          go_simp; go_at_call 34; refine (tells_blk k1 _ _ _ zi _ (KnC.l (by first | exact (HS.out.alloc _) | exact (HS.out.alloc _).drew | exact (HS.out.drew.alloc _) | exact (HS.out.drew.alloc _).drew)) rfl HSM.out.1 (oneArg' ⟨2, 2⟩ (by first | exact Blk.new _ _ _ | exact (Blk.new _ _ _).drew) rfl)).mono ?_; rintro e6 w6 ⟨rfl, hb6⟩; have HS6 := hide (KnC.later (by first | exact (HS.out.alloc _) | exact (HS.out.alloc _).drew | exact (HS.out.drew.alloc _) | exact (HS.out.drew.alloc _).drew) hb6); clear hb6
          refine hK.out _ _ (fun _ => (KnC.a HS6.out).six HZK.out) (fun hH => ?_)
          have hHeld := hH rfl
          clear hK K hH
          try simp only [Act.put, List.getElem_toArray, List.getElem_cons_succ, List.getElem_cons_zero, List.setIfInBounds_toArray, List.set_cons_zero, List.set_cons_succ]
          refine wpAnyS_take (i := 5) (v := ?_) rfl (by kernel_rfl) (by kernel_rfl) (by kernel_rfl) (by kernel_rfl) (fun _ _ _ h => h) (Or.inl ⟨by rfl, ?_⟩) (by assumption) ?_
          rotate_left
          · intro w hSw; (try dsimp only at hSw); go_simp; try with_reducible rfl
          try simp only [Act.put, List.getElem_toArray, List.getElem_cons_succ, List.getElem_cons_zero, List.setIfInBounds_toArray, List.set_cons_zero, List.set_cons_succ]
          refine wpAnyS_take (i := 6) (v := ?_) rfl (by kernel_rfl) (by kernel_rfl) (by kernel_rfl) (by kernel_rfl) (fun _ _ _ h => h) (Or.inl ⟨by rfl, ?_⟩) (by assumption) ?_
          rotate_left
          · intro w hSw; (try dsimp only at hSw); go_simp; try with_reducible rfl
          try simp only [Act.put, List.getElem_toArray, List.getElem_cons_succ, List.getElem_cons_zero, List.setIfInBounds_toArray, List.set_cons_zero, List.set_cons_succ]
          refine wpAnyS_take (i := 7) (v := ?_) rfl (by kernel_rfl) (by kernel_rfl) (by kernel_rfl) (by kernel_rfl) (fun _ _ _ h => h) (Or.inl ⟨by rfl, ?_⟩) (by assumption) ?_
          rotate_left
          · intro w hSw; (try dsimp only at hSw); go_simp; try with_reducible rfl
          try simp only [Act.put, List.getElem_toArray, List.getElem_cons_succ, List.getElem_cons_zero, List.setIfInBounds_toArray, List.set_cons_zero, List.set_cons_succ]
          refine wpAnyS_take (i := 8) (v := ?_) rfl (by kernel_rfl) (by kernel_rfl) (by kernel_rfl) (by kernel_rfl) (fun _ _ _ h => h) (Or.inl ⟨by rfl, ?_⟩) (by assumption) ?_
          rotate_left
          · intro w hSw; (try dsimp only at hSw); go_simp; try with_reducible rfl
          try simp only [Act.put, List.getElem_toArray, List.getElem_cons_succ, List.getElem_cons_zero, List.setIfInBounds_toArray, List.set_cons_zero, List.set_cons_succ]
          refine wpAnyS_one (i := 9) rfl (by kernel_rfl) (fun K hK => ?_)
          go_simp; go_at_call 34; refine (tells_blk k2 _ _ _ zi _ (KnC.m (by first | exact HS6.out | exact HS6.out.drew)) rfl HSM.out.2 (.inl ⟨rfl, rfl⟩)).mono ?_; rintro e7 w7 ⟨rfl, hb7⟩; have HS7 := hide (KnC.later (by first | exact HS6.out | exact HS6.out.drew) hb7); clear hb7
          refine hK.out _ _ (fun _ => (KnC.a HS7.out).six HZK.out) (fun hH => ?_)
          have hHeld := hH rfl
          clear hK K hH
          try simp only [Act.put, List.getElem_toArray, List.getElem_cons_succ, List.getElem_cons_zero, List.setIfInBounds_toArray, List.set_cons_zero, List.set_cons_succ]
          refine wpAnyS_take (i := 10) (v := ?_) rfl (by kernel_rfl) (by kernel_rfl) (by kernel_rfl) (by kernel_rfl) (fun _ _ _ h => h) (Or.inl ⟨by rfl, ?_⟩) (by assumption) ?_
          rotate_left
          · intro w hSw; (try dsimp only at hSw); go_simp; try with_reducible rfl
          try simp only [Act.put, List.getElem_toArray, List.getElem_cons_succ, List.getElem_cons_zero, List.setIfInBounds_toArray, List.set_cons_zero, List.set_cons_succ]
          refine wpAnyS_take (i := 11) (v := ?_) rfl (by kernel_rfl) (by kernel_rfl) (by kernel_rfl) (by kernel_rfl) (fun _ _ _ h => h) (Or.inl ⟨by rfl, ?_⟩) (by assumption) ?_
          rotate_left
          · intro w hSw; (try dsimp only at hSw); go_simp; try with_reducible rfl
          try simp only [Act.put, List.getElem_toArray, List.getElem_cons_succ, List.getElem_cons_zero, List.setIfInBounds_toArray, List.set_cons_zero, List.set_cons_succ]
          refine wpAnyS_take (i := 12) (v := ?_) rfl (by kernel_rfl) (by kernel_rfl) (by kernel_rfl) (by kernel_rfl) (fun _ _ _ h => h) (Or.inl ⟨by rfl, ?_⟩) (by assumption) ?_
          rotate_left
          · intro w hSw; (try dsimp only at hSw); go_simp; try with_reducible rfl
          try simp only [Act.put, List.getElem_toArray, List.getElem_cons_succ, List.getElem_cons_zero, List.setIfInBounds_toArray, List.set_cons_zero, List.set_cons_succ]
          refine wpAnyS_take (i := 14) (v := ?_) rfl (by kernel_rfl) (by kernel_rfl) (by kernel_rfl) (by kernel_rfl) (fun _ _ _ h => h) (Or.inl ⟨by rfl, ?_⟩) (by assumption) ?_
          rotate_left
          · intro w hSw; (try dsimp only at hSw); go_simp; try with_reducible rfl
          try simp only [Act.put, List.getElem_toArray, List.getElem_cons_succ, List.getElem_cons_zero, List.setIfInBounds_toArray, List.set_cons_zero, List.set_cons_succ]
          refine wpAnyS_take (i := 15) (v := ?_) rfl (by kernel_rfl) (by kernel_rfl) (by kernel_rfl) (by kernel_rfl) (fun _ _ _ h => h) (Or.inl ⟨by rfl, ?_⟩) (by assumption) ?_
          rotate_left
          · intro w hSw; (try dsimp only at hSw); go_simp; try with_reducible rfl
          try simp only [Act.put, List.getElem_toArray, List.getElem_cons_succ, List.getElem_cons_zero, List.setIfInBounds_toArray, List.set_cons_zero, List.set_cons_succ]
          refine wpAnyS_take (i := 16) (v := ?_) rfl (by kernel_rfl) (by kernel_rfl) (by kernel_rfl) (by kernel_rfl) (fun _ _ _ h => h) (Or.inl ⟨by rfl, ?_⟩) (by assumption) ?_
          rotate_left
          · intro w hSw; (try dsimp only at hSw); go_simp; try with_reducible rfl
          try simp only [Act.put, List.getElem_toArray, List.getElem_cons_succ, List.getElem_cons_zero, List.setIfInBounds_toArray, List.set_cons_zero, List.set_cons_succ]
          refine wpAnyS_take (i := 17) (v := ?_) rfl (by kernel_rfl) (by kernel_rfl) (by kernel_rfl) (by kernel_rfl) (fun _ _ _ h => h) (Or.inl ⟨by rfl, ?_⟩) (by assumption) ?_
          rotate_left
          · intro w hSw; (try dsimp only at hSw); go_simp; try with_reducible rfl
          try simp only [Act.put, List.getElem_toArray, List.getElem_cons_succ, List.getElem_cons_zero, List.setIfInBounds_toArray, List.set_cons_zero, List.set_cons_succ]
          refine wpAnyS_take (i := 18) (v := ?_) rfl (by kernel_rfl) (by kernel_rfl) (by kernel_rfl) (by kernel_rfl) (fun _ _ _ h => h) (Or.inl ⟨by rfl, ?_⟩) (by assumption) ?_
          rotate_left
          · intro w hSw; (try dsimp only at hSw); go_simp; try with_reducible rfl
          try simp only [Act.put, List.getElem_toArray, List.getElem_cons_succ, List.getElem_cons_zero, List.setIfInBounds_toArray, List.set_cons_zero, List.set_cons_succ]
          refine wpAnyS_take (i := 19) (v := ?_) rfl (by kernel_rfl) (by kernel_rfl) (by kernel_rfl) (by kernel_rfl) (fun _ _ _ h => h) (Or.inl ⟨by rfl, ?_⟩) (by assumption) ?_
          rotate_left
          · intro w hSw; (try dsimp only at hSw); go_simp; try with_reducible rfl
          try simp only [Act.put, List.getElem_toArray, List.getElem_cons_succ, List.getElem_cons_zero, List.setIfInBounds_toArray, List.set_cons_zero, List.set_cons_succ]
          refine wpAnyS_take (i := 20) (v := ?_) rfl (by kernel_rfl) (by kernel_rfl) (by kernel_rfl) (by kernel_rfl) (fun _ _ _ h => h) (Or.inl ⟨by rfl, ?_⟩) (by assumption) ?_
          rotate_left
          · intro w hSw; (try dsimp only at hSw); go_simp; try with_reducible rfl
          try simp only [Act.put, List.getElem_toArray, List.getElem_cons_succ, List.getElem_cons_zero, List.setIfInBounds_toArray, List.set_cons_zero, List.set_cons_succ]
          refine wpAnyS_take (i := 21) (v := ?_) rfl (by kernel_rfl) (by kernel_rfl) (by kernel_rfl) (by kernel_rfl) (fun _ _ _ h => h) (Or.inl ⟨by rfl, ?_⟩) (by assumption) ?_
          rotate_left
          · intro w hSw; (try dsimp only at hSw); go_simp; try with_reducible rfl
          try simp only [Act.put, List.getElem_toArray, List.getElem_cons_succ, List.getElem_cons_zero, List.setIfInBounds_toArray, List.set_cons_zero, List.set_cons_succ]
          refine wpAnyS_take (i := 22) (v := ?_) rfl (by kernel_rfl) (by kernel_rfl) (by kernel_rfl) (by kernel_rfl) (fun _ _ _ h => h) (Or.inl ⟨by rfl, ?_⟩) (by assumption) ?_
          rotate_left
          · intro w hSw; (try dsimp only at hSw); go_simp; try with_reducible rfl
          try simp only [Act.put, List.getElem_toArray, List.getElem_cons_succ, List.getElem_cons_zero, List.setIfInBounds_toArray, List.set_cons_zero, List.set_cons_succ]
          refine wpAnyS_take (i := 24) (v := ?_) rfl (by kernel_rfl) (by kernel_rfl) (by kernel_rfl) (by kernel_rfl) (fun _ _ _ h => h) (Or.inl ⟨by rfl, ?_⟩) (by assumption) ?_
          rotate_left
          · intro w hSw; (try dsimp only at hSw); go_simp; try with_reducible rfl
          try simp only [Act.put, List.getElem_toArray, List.getElem_cons_succ, List.getElem_cons_zero, List.setIfInBounds_toArray, List.set_cons_zero, List.set_cons_succ]
          refine wpAnyS_two (i := 13) (k := 23) rfl rfl (by kernel_rfl) (fun K hK => ?_) (fun K hK => ?_)
          · go_simp; go_at_call 33; refine (four10_blk _).mono ?_; rintro e8 w8 ⟨k3, rfl, hB8, hn8, hb8⟩; have HS8 := hide (KnC.later (by first | exact HS7.out | exact HS7.out.drew) hb8); have HB8 := hide hB8; have HB8b := hide hb8; clear hb8 hB8
            refine hK.out _ _ (fun _ => (KnC.a HS8.out).six HZK.out) (fun hH => ?_)
            have hHeld := hH rfl
            clear hK K hH
            try simp only [Act.put, List.getElem_toArray, List.getElem_cons_succ, List.getElem_cons_zero, List.setIfInBounds_toArray, List.set_cons_zero, List.set_cons_succ]
            refine wpAnyS_one (i := 23) rfl (by kernel_rfl) (fun K hK => ?_)
            go_simp
            refine hK.out _ _ (fun _ => (KnC.a (by first | exact (HS8.out.alloc _) | exact (HS8.out.alloc _).drew | exact (HS8.out.drew.alloc _) | exact (HS8.out.drew.alloc _).drew)).six HZK.out) (fun hH => ?_)
            have hHeld := hH rfl
            clear hK K hH
            try simp only [Act.put, List.getElem_toArray, List.getElem_cons_succ, List.getElem_cons_zero, List.setIfInBounds_toArray, List.set_cons_zero, List.set_cons_succ]
            refine wpAnyS_one (i := 25) rfl (by kernel_rfl) (fun K hK => ?_)
            go_simp; go_at_call 34; refine (tells_blk k3 fourP _ _ zi _ (by first | exact HB8.out.alloc _ | exact (HB8.out.alloc _).drew) rfl four_sm (oneArg' ⟨zk, zk⟩ (by first | exact Blk.new _ _ _ | exact (Blk.new _ _ _).drew) rfl)).mono ?_; rintro e9 w9 ⟨rfl, hb9⟩; have HS9 := hide (KnC.later (by first | exact (HS8.out.alloc _) | exact (HS8.out.alloc _).drew | exact (HS8.out.drew.alloc _) | exact (HS8.out.drew.alloc _).drew) hb9); clear hb9
            refine hK.out _ _ (fun _ => (KnC.a HS9.out).six HZK.out) (fun hH => ?_)
            have hHeld := hH rfl
            clear hK K hH
            try simp only [Act.put, List.getElem_toArray, List.getElem_cons_succ, List.getElem_cons_zero, List.setIfInBounds_toArray, List.set_cons_zero, List.set_cons_succ]
            refine wpAnyS_take (i := 26) (v := ?_) rfl (by kernel_rfl) (by kernel_rfl) (by kernel_rfl) (by kernel_rfl) (fun _ _ _ h => h) (Or.inl ⟨by rfl, ?_⟩) (by assumption) ?_
            rotate_left
            · intro w hSw; (try dsimp only at hSw); go_simp; try with_reducible rfl
            try simp only [Act.put, List.getElem_toArray, List.getElem_cons_succ, List.getElem_cons_zero, List.setIfInBounds_toArray, List.set_cons_zero, List.set_cons_succ]
            refine wpAnyS_take (i := 27) (v := ?_) rfl (by kernel_rfl) (by kernel_rfl) (by kernel_rfl) (by kernel_rfl) (fun _ _ _ h => h) (Or.inl ⟨by rfl, ?_⟩) (by assumption) ?_
            rotate_left
            · intro w hSw; (try dsimp only at hSw); go_simp; try with_reducible rfl
            try simp only [Act.put, List.getElem_toArray, List.getElem_cons_succ, List.getElem_cons_zero, List.setIfInBounds_toArray, List.set_cons_zero, List.set_cons_succ]
            refine wpAnyS_done (by kernel_rfl) ?_ _
            have hs := HS9.out
            clear hHeld
            subst hX
            go_wp2_with fail
            go_roundg (8 - (k + 1))
            case rel => exact ⟨k + 1, by go_num, by omega, by omega, hs.a⟩
            case measure => omega
          · go_simp
            refine hK.out _ _ (fun _ => (KnC.a (by first | exact (HS7.out.alloc _) | exact (HS7.out.alloc _).drew | exact (HS7.out.drew.alloc _) | exact (HS7.out.drew.alloc _).drew)).six HZK.out) (fun hH => ?_)
            have hHeld := hH rfl
            clear hK K hH
            try simp only [Act.put, List.getElem_toArray, List.getElem_cons_succ, List.getElem_cons_zero, List.setIfInBounds_toArray, List.set_cons_zero, List.set_cons_succ]
            refine wpAnyS_one (i := 13) rfl (by kernel_rfl) (fun K hK => ?_)
            go_simp; go_at_call 33; refine (four10_blk _).mono ?_; rintro e8 w8 ⟨k3, rfl, hB8, hn8, hb8⟩; have HS8 := hide (KnC.later (by first | exact (HS7.out.alloc _) | exact (HS7.out.alloc _).drew | exact (HS7.out.drew.alloc _) | exact (HS7.out.drew.alloc _).drew) hb8); have HB8 := hide hB8; have HB8b := hide hb8; clear hb8 hB8
            refine hK.out _ _ (fun _ => (KnC.a HS8.out).six HZK.out) (fun hH => ?_)
            have hHeld := hH rfl
            clear hK K hH
            try simp only [Act.put, List.getElem_toArray, List.getElem_cons_succ, List.getElem_cons_zero, List.setIfInBounds_toArray, List.set_cons_zero, List.set_cons_succ]
            refine wpAnyS_one (i := 25) rfl (by kernel_rfl) (fun K hK => ?_)
            go_simp; go_at_call 34; refine (tells_blk k3 fourP _ _ zi _ (by first | exact HB8.out | exact HB8.out.drew) rfl four_sm (oneArg' ⟨zk, zk⟩ (HB8b.out.block _ (by simp)|>.trans (by first | exact Blk.new _ _ _ | exact (Blk.new _ _ _).drew)) rfl)).mono ?_; rintro e9 w9 ⟨rfl, hb9⟩; have HS9 := hide (KnC.later (by first | exact HS8.out | exact HS8.out.drew) hb9); clear hb9
            refine hK.out _ _ (fun _ => (KnC.a HS9.out).six HZK.out) (fun hH => ?_)
            have hHeld := hH rfl
            clear hK K hH
            try simp only [Act.put, List.getElem_toArray, List.getElem_cons_succ, List.getElem_cons_zero, List.setIfInBounds_toArray, List.set_cons_zero, List.set_cons_succ]
            refine wpAnyS_take (i := 26) (v := ?_) rfl (by kernel_rfl) (by kernel_rfl) (by kernel_rfl) (by kernel_rfl) (fun _ _ _ h => h) (Or.inl ⟨by rfl, ?_⟩) (by assumption) ?_
            rotate_left
            · intro w hSw; (try dsimp only at hSw); go_simp; try with_reducible rfl
            try simp only [Act.put, List.getElem_toArray, List.getElem_cons_succ, List.getElem_cons_zero, List.setIfInBounds_toArray, List.set_cons_zero, List.set_cons_succ]
            refine wpAnyS_take (i := 27) (v := ?_) rfl (by kernel_rfl) (by kernel_rfl) (by kernel_rfl) (by kernel_rfl) (fun _ _ _ h => h) (Or.inl ⟨by rfl, ?_⟩) (by assumption) ?_
            rotate_left
            · intro w hSw; (try dsimp only at hSw); go_simp; try with_reducible rfl
            try simp only [Act.put, List.getElem_toArray, List.getElem_cons_succ, List.getElem_cons_zero, List.setIfInBounds_toArray, List.set_cons_zero, List.set_cons_succ]
            refine wpAnyS_done (by kernel_rfl) ?_ _
            have hs := HS9.out
            clear hHeld
            subst hX
            go_wp2_with fail
            go_roundg (8 - (k + 1))
            case rel => exact ⟨k + 1, by go_num, by omega, by omega, hs.a⟩
            case measure => omega

        · have hk8 : ¬ (k : Int) < 8 := by omega
          clear hlt2 hky
          subst hX
          go_wp2_with fail
          go_roundg (8 - (i + 1))
          case rel => exact ⟨i + 1, by go_num, by omega, by omega, hA.e, hA.below⟩
          case measure => omega
    · have hi8 : ¬ (i : Int) < 8 := by omega
      clear hkx hE
      go_wp2_with fail
      have hx := Blk.new wr 53 #[.int .i64 0, .int .i64 0, .int .i64 333000000, .int .i64 166500000, .int .i64 (-1)]
      have hw := hW.alloc hW.size (.cells #[.int .i64 0, .int .i64 0, .int .i64 333000000, .int .i64 166500000, .int .i64 (-1)] 53)
      refine (at10_any _ _ _).mono ?_
      rintro e1 w1 ⟨rfl, hb1⟩
      have hx1 : Blk w1 wr.heap.size 53 #[.int .i64 0, .int .i64 0, .int .i64 333000000, .int .i64 166500000, .int .i64 (-1)] := (hb1.block _ hx.lt).trans hx
      have hw1 := bw_below' hw hb1
      obtain ⟨X, hX⟩ : ∃ X, wr.heap.size = X := ⟨_, rfl⟩
      rw [hX] at hx1 ⊢
      clear hx hw hb1
      go_wp2_with fail
      refine (at10_any _ _ _).mono ?_
      rintro e2 w2 ⟨rfl, hb2⟩
      have hx2 : Blk w2 X 53 #[.int .i64 0, .int .i64 0, .int .i64 333000000, .int .i64 166500000, .int .i64 (-1)] := (hb2.block _ hx1.lt).trans hx1
      have hw2 := bw_below' hw1 hb2
      clear hx1 hw1 hb2
      unfold pkV pkC atP
      go_wp2_with fail
      have hk : KnZ w (w2.alloc (.cells #[.int .i64 3, .int .i64 9, .int .i64 100, .bool true, .bool true, .bool false, .int .i64 4, .int .i64 20, .int .i64 100, .bool true, .bool true, .bool false] 55)) X w2.heap.size := ⟨hx2.alloc _, (Blk.new _ _ _).eq rfl, bw_alloc' hw2 _⟩
      have hz : w2.heap.size + 1 = (w2.alloc (.cells #[.int .i64 3, .int .i64 9, .int .i64 100, .bool true, .bool true, .bool false, .int .i64 4, .int .i64 20, .int .i64 100, .bool true, .bool true, .bool false] 55)).heap.size := (World.size_alloc _ _).symm
      rw [hz]
      clear hz hx2 hw2
      obtain ⟨kp, hkp⟩ : ∃ kp, w2.heap.size = kp := ⟨_, rfl⟩
      rw [hkp] at hk ⊢
      clear hkp
      refine (hk.set [⟨3, 4⟩] 1 _ rfl (by omega) rfl (by decide)).mono ?_
      rintro e3 w3 ⟨b3, g3, rfl, hs3, hk3⟩
      clear hk
      go_wp2_with fail
      refine (is10_yes _ 2 2 pairP _ _ 5 11 3 4 _ rfl (by omega) hk3.pks hk3.ha (.inr ⟨b3, g3, 256, rfl, hs3⟩) perP1).mono ?_
      rintro e4 w4 ⟨rfl, hb⟩
      have hk4 := hk3.later hb
      clear hk3 hb hs3
      go_wp2_with fail
      refine (hk4.set [⟨0, 9⟩] 1 _ rfl (by omega) rfl (by decide)).mono ?_
      rintro e5 w5 ⟨b5, g5, rfl, hs5, hk5⟩
      clear hk4
      go_wp2_with fail
      refine (is10_yes _ 2 2 pairP _ _ 5 11 3 4 _ rfl (by omega) hk5.pks hk5.ha (.inr ⟨b5, g5, 256, rfl, hs5⟩) perP2).mono ?_
      rintro e6 w6 ⟨rfl, hb⟩
      have HZ := hide (hk5.later hb)
      clear hk5 hb hs5
      obtain ⟨x0, x1, x2, x3, x4⟩ := HZ.out.five
      go_wp2_with fail
      refine wp_region_S (fun w' => w'.cell? ⟨X, 0, none⟩ = some (.int .i64 0) ∧ w'.cell? ⟨X, 1, none⟩ = some (.int .i64 0) ∧ w'.cell? ⟨X, 2, none⟩ = some (.int .i64 333000000) ∧ w'.cell? ⟨X, 3, none⟩ = some (.int .i64 166500000) ∧ w'.cell? ⟨X, 4, none⟩ = some (.int .i64 (-1))) 1000 (by kernel_rfl) (by exact ⟨x0, x1, x2, x3, x4⟩) (fun hHeld => ?_)
      refine wpAnyS_take (i := 0) (v := ?_) rfl (by kernel_rfl) (by kernel_rfl) (by kernel_rfl) (by kernel_rfl) (fun _ _ _ h => h) (Or.inl ⟨by rfl, ?_⟩) (by assumption) ?_
      rotate_left
      · intro w hSw; (try dsimp only at hSw); go_simp; try with_reducible rfl
      try simp only [Act.put, List.getElem_toArray, List.getElem_cons_succ, List.getElem_cons_zero, List.setIfInBounds_toArray, List.set_cons_zero, List.set_cons_succ]
      refine wpAnyS_take (i := 1) (v := ?_) rfl (by kernel_rfl) (by kernel_rfl) (by kernel_rfl) (by kernel_rfl) (fun _ _ _ h => h) (Or.inl ⟨by rfl, ?_⟩) (by assumption) ?_
      rotate_left
      · intro w hSw; (try dsimp only at hSw); go_simp; try with_reducible rfl
      try simp only [Act.put, List.getElem_toArray, List.getElem_cons_succ, List.getElem_cons_zero, List.setIfInBounds_toArray, List.set_cons_zero, List.set_cons_succ]
      refine wpAnyS_take (i := 2) (v := ?_) rfl (by kernel_rfl) (by kernel_rfl) (by kernel_rfl) (by kernel_rfl) (fun _ _ _ h => h) (Or.inl ⟨by rfl, ?_⟩) (by assumption) ?_
      rotate_left
      · intro w hSw; (try dsimp only at hSw); go_simp; try with_reducible rfl
      try simp only [Act.put, List.getElem_toArray, List.getElem_cons_succ, List.getElem_cons_zero, List.setIfInBounds_toArray, List.set_cons_zero, List.set_cons_succ]
      refine wpAnyS_take (i := 3) (v := ?_) rfl (by kernel_rfl) (by kernel_rfl) (by kernel_rfl) (by kernel_rfl) (fun _ _ _ h => h) (Or.inl ⟨by rfl, ?_⟩) (by assumption) ?_
      rotate_left
      · intro w hSw; (try dsimp only at hSw); go_simp; try with_reducible rfl
      try simp only [Act.put, List.getElem_toArray, List.getElem_cons_succ, List.getElem_cons_zero, List.setIfInBounds_toArray, List.set_cons_zero, List.set_cons_succ]
      refine wpAnyS_one (i := 4) rfl (by kernel_rfl) (fun K hK => ?_)
      go_simp; go_at_call 30; refine (works10_any _).mono ?_; rintro e7 w7 ⟨rfl, hb7⟩; have HZ7 := hide (KnZ.later (by first | exact HZ.out | exact HZ.out.drew) hb7); clear hb7
      refine hK.out _ _ (fun _ => (KnZ.five HZ7.out)) (fun hH => ?_)
      have hHeld := hH rfl
      clear hK K hH
      try simp only [Act.put, List.getElem_toArray, List.getElem_cons_succ, List.getElem_cons_zero, List.setIfInBounds_toArray, List.set_cons_zero, List.set_cons_succ]
      refine wpAnyS_take (i := 5) (v := ?_) rfl (by kernel_rfl) (by kernel_rfl) (by kernel_rfl) (by kernel_rfl) (fun _ _ _ h => h) (Or.inl ⟨by rfl, ?_⟩) (by assumption) ?_
      rotate_left
      · intro w hSw; (try dsimp only at hSw); go_simp; try with_reducible rfl
      try simp only [Act.put, List.getElem_toArray, List.getElem_cons_succ, List.getElem_cons_zero, List.setIfInBounds_toArray, List.set_cons_zero, List.set_cons_succ]
      refine wpAnyS_take (i := 6) (v := ?_) rfl (by kernel_rfl) (by kernel_rfl) (by kernel_rfl) (by kernel_rfl) (fun _ _ _ h => h) (Or.inl ⟨by rfl, ?_⟩) (by assumption) ?_
      rotate_left
      · intro w hSw; (try dsimp only at hSw); go_simp; try with_reducible rfl
      try simp only [Act.put, List.getElem_toArray, List.getElem_cons_succ, List.getElem_cons_zero, List.setIfInBounds_toArray, List.set_cons_zero, List.set_cons_succ]
      refine wpAnyS_one (i := 7) rfl (by kernel_rfl) (fun K hK => ?_)
      go_simp; go_at_call 37; refine (none10_yes none 0 0 [] none [] 0 _ rfl (by omega) ⟨fun _ h => by simp at h, fun _ _ h => by simp at h⟩ (fun _ _ h => by cases h) (.inl ⟨rfl, rfl⟩) rfl).mono ?_; rintro e8 w8 ⟨rfl, hb8⟩; have HZ8 := hide (KnZ.later (by first | exact HZ7.out | exact HZ7.out.drew) hb8); clear hb8
      refine hK.out _ _ (fun _ => (KnZ.five HZ8.out)) (fun hH => ?_)
      have hHeld := hH rfl
      clear hK K hH
      try simp only [Act.put, List.getElem_toArray, List.getElem_cons_succ, List.getElem_cons_zero, List.setIfInBounds_toArray, List.set_cons_zero, List.set_cons_succ]
      refine wpAnyS_take (i := 8) (v := ?_) rfl (by kernel_rfl) (by kernel_rfl) (by kernel_rfl) (by kernel_rfl) (fun _ _ _ h => h) (Or.inl ⟨by rfl, ?_⟩) (by assumption) ?_
      rotate_left
      · intro w hSw; (try dsimp only at hSw); go_simp; try with_reducible rfl
      try simp only [Act.put, List.getElem_toArray, List.getElem_cons_succ, List.getElem_cons_zero, List.setIfInBounds_toArray, List.set_cons_zero, List.set_cons_succ]
      refine wpAnyS_take (i := 9) (v := ?_) rfl (by kernel_rfl) (by kernel_rfl) (by kernel_rfl) (by kernel_rfl) (fun _ _ _ h => h) (Or.inl ⟨by rfl, ?_⟩) (by assumption) ?_
      rotate_left
      · intro w hSw; (try dsimp only at hSw); go_simp; try with_reducible rfl
      try simp only [Act.put, List.getElem_toArray, List.getElem_cons_succ, List.getElem_cons_zero, List.setIfInBounds_toArray, List.set_cons_zero, List.set_cons_succ]
      refine wpAnyS_one (i := 10) rfl (by kernel_rfl) (fun K hK => ?_)
      go_simp; go_at_call 31; refine (at10_any 5 9 _).mono ?_; rintro e9 w9 ⟨rfl, hb9⟩; have HZ9 := hide (KnZ.later (by first | exact HZ8.out | exact HZ8.out.drew) hb9); clear hb9; unfold pkV pkC atP
      refine hK.out _ _ (fun _ => (KnZ.five HZ9.out)) (fun hH => ?_)
      have hHeld := hH rfl
      clear hK K hH
      try simp only [Act.put, List.getElem_toArray, List.getElem_cons_succ, List.getElem_cons_zero, List.setIfInBounds_toArray, List.set_cons_zero, List.set_cons_succ]
      refine wpAnyS_one (i := 11) rfl (by kernel_rfl) (fun K hK => ?_)
      go_simp
      refine hK.out _ _ (fun _ => (KnZ.five (by first | exact (HZ9.out.alloc _) | exact (HZ9.out.alloc _).drew | exact (HZ9.out.drew.alloc _) | exact (HZ9.out.drew.alloc _).drew))) (fun hH => ?_)
      have hHeld := hH rfl
      clear hK K hH
      try simp only [Act.put, List.getElem_toArray, List.getElem_cons_succ, List.getElem_cons_zero, List.setIfInBounds_toArray, List.set_cons_zero, List.set_cons_succ]
      refine wpAnyS_one (i := 12) rfl (by kernel_rfl) (fun K hK => ?_)
      go_simp; go_at_call 37; refine (none10_yes _ 1 1 [atP 5 9] none [] 0 _ rfl (by omega) (pksAt_new (by first | exact Blk.new _ _ _ | exact (Blk.new _ _ _).drew) rfl sm59) (fun x o e => (by cases e; first | exact (Blk.new _ _ _).lt | exact (Blk.new _ 55 #[]).lt | simp)) (.inl ⟨rfl, rfl⟩) per59).mono ?_; rintro e10 w10 ⟨rfl, hb10⟩; have HZ10 := hide (KnZ.later (by first | exact (HZ9.out.alloc _) | exact (HZ9.out.alloc _).drew | exact (HZ9.out.drew.alloc _) | exact (HZ9.out.drew.alloc _).drew) hb10); clear hb10
      refine hK.out _ _ (fun _ => (KnZ.five HZ10.out)) (fun hH => ?_)
      have hHeld := hH rfl
      clear hK K hH
      try simp only [Act.put, List.getElem_toArray, List.getElem_cons_succ, List.getElem_cons_zero, List.setIfInBounds_toArray, List.set_cons_zero, List.set_cons_succ]
      refine wpAnyS_take (i := 13) (v := ?_) rfl (by kernel_rfl) (by kernel_rfl) (by kernel_rfl) (by kernel_rfl) (fun _ _ _ h => h) (Or.inl ⟨by rfl, ?_⟩) (by assumption) ?_
      rotate_left
      · intro w hSw; (try dsimp only at hSw); go_simp; try with_reducible rfl
      try simp only [Act.put, List.getElem_toArray, List.getElem_cons_succ, List.getElem_cons_zero, List.setIfInBounds_toArray, List.set_cons_zero, List.set_cons_succ]
      refine wpAnyS_take (i := 14) (v := ?_) rfl (by kernel_rfl) (by kernel_rfl) (by kernel_rfl) (by kernel_rfl) (fun _ _ _ h => h) (Or.inl ⟨by rfl, ?_⟩) (by assumption) ?_
      rotate_left
      · intro w hSw; (try dsimp only at hSw); go_simp; try with_reducible rfl
      try simp only [Act.put, List.getElem_toArray, List.getElem_cons_succ, List.getElem_cons_zero, List.setIfInBounds_toArray, List.set_cons_zero, List.set_cons_succ]
      refine wpAnyS_take (i := 18) (v := ?_) rfl (by kernel_rfl) (by kernel_rfl) (by kernel_rfl) (by kernel_rfl) (fun _ _ _ h => h) (Or.inl ⟨by rfl, ?_⟩) (by assumption) ?_
      rotate_left
      · intro w hSw; (try dsimp only at hSw); go_simp; try with_reducible rfl
      try simp only [Act.put, List.getElem_toArray, List.getElem_cons_succ, List.getElem_cons_zero, List.setIfInBounds_toArray, List.set_cons_zero, List.set_cons_succ]
      refine wpAnyS_one (i := 15) rfl (by kernel_rfl) (fun K hK => ?_)
      go_simp; go_at_call 31; refine (at10_any 1 8 _).mono ?_; rintro e11 w11 ⟨rfl, hb11⟩; have HZ11 := hide (KnZ.later (by first | exact HZ10.out | exact HZ10.out.drew) hb11); clear hb11; unfold pkV pkC atP
      refine hK.out _ _ (fun _ => (KnZ.five HZ11.out)) (fun hH => ?_)
      have hHeld := hH rfl
      clear hK K hH
      try simp only [Act.put, List.getElem_toArray, List.getElem_cons_succ, List.getElem_cons_zero, List.setIfInBounds_toArray, List.set_cons_zero, List.set_cons_succ]
      refine wpAnyS_one (i := 16) rfl (by kernel_rfl) (fun K hK => ?_)
      go_simp; go_at_call 31; refine (at10_any 2 1125899906842624 _).mono ?_; rintro e12 w12 ⟨rfl, hb12⟩; have HZ12 := hide (KnZ.later (by first | exact HZ11.out | exact HZ11.out.drew) hb12); clear hb12; unfold pkV pkC atP
      refine hK.out _ _ (fun _ => (KnZ.five HZ12.out)) (fun hH => ?_)
      have hHeld := hH rfl
      clear hK K hH
      try simp only [Act.put, List.getElem_toArray, List.getElem_cons_succ, List.getElem_cons_zero, List.setIfInBounds_toArray, List.set_cons_zero, List.set_cons_succ]
      refine wpAnyS_one (i := 17) rfl (by kernel_rfl) (fun K hK => ?_)
      go_simp
      refine hK.out _ _ (fun _ => (KnZ.five (by first | exact (HZ12.out.alloc _) | exact (HZ12.out.alloc _).drew | exact (HZ12.out.drew.alloc _) | exact (HZ12.out.drew.alloc _).drew))) (fun hH => ?_)
      have hHeld := hH rfl
      clear hK K hH
      try simp only [Act.put, List.getElem_toArray, List.getElem_cons_succ, List.getElem_cons_zero, List.setIfInBounds_toArray, List.set_cons_zero, List.set_cons_succ]
      refine wpAnyS_one (i := 19) rfl (by kernel_rfl) (fun K hK => ?_)
      go_simp; go_at_call 32; refine (persistis_any _ 2 2 [atP 1 8, atP 2 1125899906842624] none [] ⟨0, 0, 333000000, 166500000, -1⟩ 0 _ rfl (by omega) (pksAt_new (by first | exact Blk.new _ _ _ | exact (Blk.new _ _ _).drew) rfl sm18) (fun x o e => (by cases e; simp)) (.inl ⟨rfl, rfl⟩) (by decide)).mono ?_; rw [per18]; rintro e13 w13 ⟨rfl, hb13⟩; have HZ13 := hide (KnZ.later (by first | exact (HZ12.out.alloc _) | exact (HZ12.out.alloc _).drew | exact (HZ12.out.drew.alloc _) | exact (HZ12.out.drew.alloc _).drew) hb13); clear hb13
      refine hK.out _ _ (fun _ => (KnZ.five HZ13.out)) (fun hH => ?_)
      have hHeld := hH rfl
      clear hK K hH
      try simp only [Act.put, List.getElem_toArray, List.getElem_cons_succ, List.getElem_cons_zero, List.setIfInBounds_toArray, List.set_cons_zero, List.set_cons_succ]
      refine wpAnyS_take (i := 20) (v := ?_) rfl (by kernel_rfl) (by kernel_rfl) (by kernel_rfl) (by kernel_rfl) (fun _ _ _ h => h) (Or.inl ⟨by rfl, ?_⟩) (by assumption) ?_
      rotate_left
      · intro w hSw; (try dsimp only at hSw); go_simp; try with_reducible rfl
      try simp only [Act.put, List.getElem_toArray, List.getElem_cons_succ, List.getElem_cons_zero, List.setIfInBounds_toArray, List.set_cons_zero, List.set_cons_succ]
      refine wpAnyS_take (i := 21) (v := ?_) rfl (by kernel_rfl) (by kernel_rfl) (by kernel_rfl) (by kernel_rfl) (fun _ _ _ h => h) (Or.inl ⟨by rfl, ?_⟩) (by assumption) ?_
      rotate_left
      · intro w hSw; (try dsimp only at hSw); go_simp; try with_reducible rfl
      try simp only [Act.put, List.getElem_toArray, List.getElem_cons_succ, List.getElem_cons_zero, List.setIfInBounds_toArray, List.set_cons_zero, List.set_cons_succ]
      refine wpAnyS_take (i := 22) (v := ?_) rfl (by kernel_rfl) (by kernel_rfl) (by kernel_rfl) (by kernel_rfl) (fun _ _ _ h => h) (Or.inl ⟨by rfl, ?_⟩) (by assumption) ?_
      rotate_left
      · intro w hSw; (try dsimp only at hSw); go_simp; try with_reducible rfl
      try simp only [Act.put, List.getElem_toArray, List.getElem_cons_succ, List.getElem_cons_zero, List.setIfInBounds_toArray, List.set_cons_zero, List.set_cons_succ]
      refine wpAnyS_done (by kernel_rfl) ?_ _
      go_wp2_with fail
      go_ret
      exact ⟨rfl, HZ13.out.below⟩
end Go.Proofs.Ytkmfhcjdajbbhaa
