/-
  The statements of layer 10: made.
-/
import Derived.Test.YtkmfhcjdajbbhaaPersistMade
namespace Go.Proofs.Ytkmfhcjdajbbhaa
set_option linter.unusedSimpArgs false
set_option linter.unusedVariables false
open Go.RowKit

theorem quiet_left10 {P : Program} {f : FuncId} {args : Array Value} {w : World} {n : Nat} {v : Value}
    (h : Calls P f args (w.drewN n) fun e w' => e = .returned v ∧ w.drewN n = w') : Calls P f args (w.drewN n) fun e w'' => e = .returned v ∧ ∃ m, w'' = w.drewN m :=
  h.mono fun _ _ ⟨he, hm⟩ => ⟨he, n, hm.symm⟩
theorem pk_info10 : (Try.prog.info? 55).map (fun i => (i.zero, i.size, i.bytes)) = some (some (.agg #[.int .i64 0, .int .i64 0, .int .i64 0, .bool false, .bool false, .bool false]), 6, 32) := by kernel_rfl
theorem own_pks {w : World} {base n c : Nat} {a : Option Addr} {ps : List PK} (hn : ps.length = n) (h : w.ownsRow base 55 6 (.slice a n c) n (ps.flatMap fun p => (pkC p).toList)) (hs : ∀ p ∈ ps, p.small) : PksAt w a ps ∧ n ≤ c ∧ (∀ k o, a = some ⟨k, o, none⟩ → k < w.heap.size) := by
  rcases own_split h with ⟨h1, h0, _⟩ | ⟨k, cap, cur, e, _, hk, hc, hm, hcl, ht⟩
  · have : ps = [] := List.eq_nil_of_length_eq_zero (by omega)
    subst this
    cases h1
    exact ⟨⟨hs, fun i r hi => by simp at hi⟩, by omega, fun k o e => by cases e⟩
  · cases e
    refine ⟨⟨hs, fun i p hi => ⟨k, 0, rfl, hk.lt, fun j v hj => ?_⟩⟩, hc, fun x o e => by cases e; exact hk.lt⟩
    have hil : i < ps.length := (List.getElem?_eq_some_iff.1 hi).1
    have hj6 : j < 6 := (Array.getElem?_eq_some_iff.1 hj).1
    rw [Nat.zero_add, hk.cell, List.getElem?_toArray]
    have e : (cur.take (n * 6))[i * 6 + j]? = (ps.flatMap fun p => (pkC p).toList)[i * 6 + j]? := by rw [ht]
    rw [List.getElem?_take, if_pos (by omega)] at e
    rw [e]
    exact (flat_cell (fun p => (pkC p).toList) 6 pkC_length ps i j hj6).trans (by rw [hi]; simpa using hj)

def MadePost (w : World) (ps : List PK) (e : Ending) (w' : World) : Prop := ∃ v, e = .returned v ∧ w'.ownsRow w.heap.size 55 6 v ps.length (ps.flatMap fun p => (pkC p).toList) ∧ Below w.heap.size w w'
set_option maxRecDepth 100000 in
set_option maxHeartbeats 4000000 in
theorem made_any (a : Option Addr) (len cap : Nat) (N D B : Nat → Int) (w : World) (hz : TriAt w a len N D B) :
    Calls Try.prog 27 #[.slice a len cap] w (MadePost w (madeL N D B (min len 40))) := by
  have HZ := hide hz
  have hlen := hz.1
  clear hz
  obtain ⟨i0, hi0, hz0, hz1, hz2⟩ := info_parts pk_info10
  obtain ⟨L, hL⟩ : ∃ L, min len 40 = L := ⟨_, rfl⟩
  rw [hL]
  have hLL : L ≤ len ∧ L ≤ 40 ∧ (L = len ∨ L = 40) := by omega
  obtain ⟨hL0, hL1, hL2⟩ := hLL
  clear hL
  go_enter Try.func27, Try.ntmps27
  go_wp2_with fail
  go_loopg [3, 4, 5, 6] 40 (fun kx s3 s4 s5 s6 wr => ∃ k : Nat, s6 = .int .i64 k ∧ s4 = .int .i64 (madeF N D B k).1 ∧ s5 = .int .i64 (madeF N D B k).2.1 ∧ k ≤ L ∧ 40 - k ≤ kx ∧ wr.ownsRow w.heap.size 55 6 s3 (madeL N D B k).length ((madeL N D B k).flatMap fun p => (pkC p).toList) ∧ Below w.heap.size w wr)
  case atStart => exact ⟨0, rfl, rfl, rfl, by omega, by omega, ⟨rfl, .inl ⟨rfl, rfl⟩⟩, Below.refl _ _⟩
  case round =>
    obtain ⟨k, rfl, rfl, rfl, hk, hkx, hown, hW⟩ := hrel
    by_cases hlt : k < L
    · obtain ⟨xb, xo, ha, hxl, c0, c1, c2, ⟨n0, n1⟩, ⟨d0, d1⟩, ⟨g0, g1⟩⟩ := (HZ.out.below hW (Nat.le_refl _)).2 k (by omega)
      subst ha
      have hbd := madeF_bound N D B k
      have hbd2 := madeF_bound N D B (k + 1)
      have HM1 : Hid ((madeF N D B (k + 1)).1 = (madeF N D B k).1 + 1 + N k % 3) := rfl
      have HM2 : Hid ((madeF N D B (k + 1)).2.1 = (madeF N D B k).2.1 + D k % 17179869184) := rfl
      have HM3 : Hid (madeL N D B (k + 1) = madeL N D B k ++ [⟨(madeF N D B (k + 1)).1, (madeF N D B (k + 1)).2.1, 100, !(B k % 4 == 0), true, false⟩]) := rfl
      have HML := hide (madeL_len N D B k)
      rw [HML.out] at hown
      obtain ⟨A8, c8, rfl⟩ := own_slice' hown
      have hA0 := fun W => bring_any (N k) 3 W (by omega) (by omega) n0 n1
      have hA1 := fun W => bring_any (D k) 17179869184 W (by omega) (by omega) d0 d1
      have hA2 := fun W => bring_any (B k) 4 W (by omega) (by omega) g0 g1
      obtain ⟨x0, hx0⟩ : ∃ x, N k % 3 = x := ⟨_, rfl⟩
      obtain ⟨x1, hx1⟩ : ∃ x, D k % 17179869184 = x := ⟨_, rfl⟩
      obtain ⟨x2, hx2⟩ : ∃ x, B k % 4 = x := ⟨_, rfl⟩
      have r0 : 0 ≤ x0 ∧ x0 < 3 := by omega
      have r1 : 0 ≤ x1 ∧ x1 < 17179869184 := by omega
      rw [hx0] at hA0 HM1
      rw [hx1] at hA1 HM2
      rw [hx2] at hA2 HM3
      obtain ⟨A0, hA00⟩ : ∃ x, (madeF N D B k).1 = x := ⟨_, rfl⟩
      obtain ⟨T0, hT00⟩ : ∃ x, (madeF N D B k).2.1 = x := ⟨_, rfl⟩
      obtain ⟨A1, hA11⟩ : ∃ x, (madeF N D B (k + 1)).1 = x := ⟨_, rfl⟩
      obtain ⟨T1, hT11⟩ : ∃ x, (madeF N D B (k + 1)).2.1 = x := ⟨_, rfl⟩
      rw [hA00, hT00] at hbd
      rw [hA11, hT11] at hbd2
      rw [hA00, hA11] at HM1
      rw [hT00, hT11] at HM2
      rw [hA11, hT11] at HM3
      have hm1 : A1 = A0 + 1 + x0 := HM1.out
      have hm2 : T1 = T0 + x1 := HM2.out
      have w1 : IntKind.i64.wrap (A0 + 1) = A0 + 1 := IntWalk.i64_in _ ⟨by omega, by omega⟩
      have w2 : IntKind.i64.wrap (A0 + 1 + x0) = A1 := by rw [IntWalk.i64_in _ ⟨by omega, by omega⟩]; omega
      have w3 : IntKind.i64.wrap (T0 + x1) = T1 := by rw [IntWalk.i64_in _ ⟨by omega, by omega⟩]; omega
      rw [hA00, hT00]
      have HA0 := hide hA0
      have HA1 := hide hA1
      have HA2 := hide hA2
      have HA11 := hide hA11
      have HT11 := hide hT11
      have c2' := hide c2
      clear hx0 hx1 hx2 hA00 hT00 hA11 hT11 hA0 hA1 hA2 HM1 HM2 hm1 hm2 hbd hbd2 n0 n1 d0 d1 g0 g1 c2
      have hkl : (k : Int) < (len : Int) := by omega
      have hk40 : (k : Int) < 40 := by omega
      go_wp2_with fail
      go_quiet ((go_at_call 13; first | with_reducible exact quiet_left10 (HA0.out _) | with_reducible exact quiet_left10 (HA1.out _)))
      have hW1 := below_drewN hW nq
      have ho1 := own_drewN hown nq
      have c21 : (wr.drewN nq).cell? ⟨xb, xo + k * 3 + 2, none⟩ = some (.int .i64 (B k)) := c2'.out
      obtain ⟨W1, hW11⟩ : ∃ W1, wr.drewN nq = W1 := ⟨_, rfl⟩
      rw [hW11] at hW1 ho1 c21
      try rw [hW11]
      have hxl1 : xb < W1.heap.size := Nat.lt_of_lt_of_le hxl (by rw [← hW11]; exact Nat.le_refl _)
      have HW11 := hide hW11
      clear hW11 hW hown c0 c1 w1 w2 w3 c2'
      have C21 := hide c21
      clear c21
      go_wp2_with fail
      refine (at10_any _ _ _).mono ?_
      rintro e2 W2 ⟨rfl, hb2⟩
      have c22 := (hb2.cell (p := ⟨xb, _, none⟩) hxl1).trans C21.out
      have hxl2 := Nat.lt_of_lt_of_le hxl1 hb2.size
      have ho2 := own_only2 (S := []) ho1 (only_of_below hb2) (by simp)
      have hW2 := bw_below' hW1 hb2
      have HO2 := hide ho2
      have HW2 := hide hW2
      have hsz := hW2.size
      clear ho1 hb2 ho2 hW1 hW2 C21 HW11
      unfold pkV pkC atP
      go_wp2_with fail
      refine (HA2.out _).mono ?_
      rintro e3 W3 ⟨rfl, rfl⟩
      obtain ⟨X7, hX7⟩ : ∃ X7, W2.heap.size = X7 := ⟨_, rfl⟩
      have y7 : Blk (W2.alloc (.cells #[.int .i64 A1, .int .i64 T1, .int .i64 100, .bool true, .bool true, .bool false] 55)) X7 55 #[.int .i64 A1, .int .i64 T1, .int .i64 100, .bool true, .bool true, .bool false] := by rw [← hX7]; exact Blk.new _ _ _
      have HO3 := hide (own_only2 (S := []) HO2.out (only_of_below ((Below.refl _ _).alloc (Nat.le_refl _) (.cells #[.int .i64 A1, .int .i64 T1, .int .i64 100, .bool true, .bool true, .bool false] 55))) (by simp))
      have HW3 := hide (bw_below' HW2.out ((Below.refl W2.heap.size W2).alloc (Nat.le_refl _) (.cells #[.int .i64 A1, .int .i64 T1, .int .i64 100, .bool true, .bool true, .bool false] 55)))
      obtain ⟨W3, hW33⟩ : ∃ W3, W2.alloc (.cells #[.int .i64 A1, .int .i64 T1, .int .i64 100, .bool true, .bool true, .bool false] 55) = W3 := ⟨_, rfl⟩
      rw [hW33] at y7 HO3 HW3
      have HX7n : Hid (some X7 ≠ (Value.slice A8 k c8).ownBlock) := by
        intro e
        have := (HO2.out.lt X7 e.symm).2
        omega
      have HX7b : Hid (w.heap.size ≤ X7) := by show _ ≤ _; omega
      rw [hX7, hW33]
      clear hX7 hW33 HO2 HW2 c22
      have f3 := y7.frozen 3
      have z3 := y7.cell 3
      go_upto_region 9 with (fail)
      have y8 := y7.set 3 (.bool (x2 != 0))
      have HO4 := hide (own_far HO3.out (p := ⟨X7, 3, none⟩) HX7n.out (.bool (x2 != 0)))
      have HW4 := hide (HW3.out.setCell (p := ⟨X7, 3, none⟩) HX7b.out (.bool (x2 != 0)))
      obtain ⟨W4, hW44⟩ : ∃ W4, W3.setCell ⟨X7, 3, none⟩ (.bool (x2 != 0)) = W4 := ⟨_, rfl⟩
      rw [hW44] at y8 HO4 HW4
      rw [hW44]
      have y9 : Blk W4 X7 55 #[.int .i64 A1, .int .i64 T1, .int .i64 100, .bool (x2 != 0), .bool true, .bool false] := y8
      have q0 := y9.cell 0
      have q1 := y9.cell 1
      have q2 := y9.cell 2
      have q3 := y9.cell 3
      have q4 := y9.cell 4
      have q5 := y9.cell 5
      clear y7 y8 HO3 HW3 hW44 f3 z3
      obtain ⟨xs, hxs⟩ : ∃ xs, ((madeL N D B k).flatMap fun p => (pkC p).toList) = xs := ⟨_, rfl⟩
      have HO5 := HO4.out
      rw [hxs] at HO5
      have HXS := hide hxs
      have hk4 := hk
      have hszw := HW4.out.size
      clear hxs HO4
      go_wp2_with (at_builtin; refine wpList_append_any _ rfl (.tmp 46) (.tmp 48) _ rfl w.heap.size 55 i0 _ 6 32 Try.underlying46 hi0 hz0 hz1 hz2 rfl (by decide) (.slice A8 k c8) k xs rfl (by exact HO5.alloc _) (W4.heap.size + 1) (some ⟨W4.heap.size, 0, none⟩) 1 1 [.int .i64 A1, .int .i64 T1, .int .i64 100, .bool (x2 != 0), .bool true, .bool false] rfl (by exact reads_lit (blk_new_at (by simp)) (by simp) rfl) (by simp [Value.oneCell']) (by unfold maxLen; omega) (by omega) (by simp; omega) ?_; intro v5 w5 hown5 hg5 hat5)
      go_roundg (40 - (k + 1))
      case rel =>
        refine ⟨k + 1, by go_num, by rw [HA11.out], by rw [HT11.out], by omega, by omega, ?_, ?_⟩
        · rw [HM3.out, List.length_append, List.flatMap_append, HML.out, HXS.out]
          exact hown5
        · exact Below.grown (HW4.out.alloc hszw _) hg5 (by simp; omega) (fun x hx => (HO5.lt x hx).1)
      case measure => omega
    · obtain rfl : k = L := by omega
      have hend : len ≤ k ∨ (k < len ∧ k = 40) := by omega
      rcases hend with hend | ⟨hend, h40⟩
      · clear hlt
        go_wp2_with fail
        go_ret
        exact ⟨_, rfl, hown, hW⟩
      · clear hlt
        have h40' : ¬ (k : Int) < 40 := by omega
        have HOW := hide hown
        clear h40 hown hL1 hL2 hk hkx
        go_wp2_with fail
        go_ret
        exact ⟨_, rfl, HOW.out, hW⟩
end Go.Proofs.Ytkmfhcjdajbbhaa
