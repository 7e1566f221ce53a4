/-
  The statements of layer 10: PersistTells, of four packets and one range at most. Printed by wip/genr10t.py.
-/
import Derived.Test.YtkmfhcjdajbbhaaTellSets
import Derived.Test.YtkmfhcjdajbbhaaRefPeriod
import Derived.Test.YtkmfhcjdajbbhaaPersistIsAny
import Derived.Test.YtkmfhcjdajbbhaaPersistMade2
import Derived.Test.YtkmfhcjdajbbhaaPersistWorks2
namespace Go.Proofs.Ytkmfhcjdajbbhaa
set_option linter.unusedSimpArgs false
set_option linter.unusedVariables false
open Go.RowKit

def SetArg (w : World) (v : Value) (rs : List Rg) : Prop := (v = .slice none 0 0 ∧ rs = []) ∨ ∃ a c r, v = .slice a 1 c ∧ RgAt w a [r] ∧ rs = oneR r
theorem SetArg.below {w W : World} {v : Value} {rs : List Rg} (h : SetArg w v rs) (hb : Below w.heap.size w W) : SetArg W v rs := by
  rcases h with h | ⟨a, c, r, h1, h2, h3⟩
  · exact .inl h
  · exact .inr ⟨a, c, r, h1, h2.below hb, h3⟩
theorem SetArg.le {w : World} {v : Value} {rs : List Rg} (h : SetArg w v rs) : rs.length ≤ 1000 := by
  rcases h with ⟨_, rfl⟩ | ⟨a, c, r, _, _, rfl⟩
  · simp
  · unfold oneR; split <;> simp
theorem sets_any (v : Value) (rs : List Rg) (w : World) (h : SetArg w v rs) :
    Calls Try.prog 58 #[v] w fun e w' => ∃ q u, e = .returned (.tuple #[.pointer q, u]) ∧ AckAt w' (.pointer q) rs ∧ RefAt w' u rs ∧ Below w.heap.size w w' := by
  rcases h with ⟨rfl, rfl⟩ | ⟨a, c, r, rfl, h2, rfl⟩
  · refine (sets_nil w).mono ?_
    rintro e w' ⟨rfl, rfl⟩
    exact ⟨none, _, rfl, .inl ⟨rfl, rfl⟩, .inl ⟨rfl, rfl⟩, Below.refl _ _⟩
  · refine (sets_one a c r w h2).mono ?_
    rintro e w' ⟨b, b2, g, rfl, hz⟩
    exact ⟨_, _, rfl, .inr ⟨b, g, 256, rfl, hz.s.set⟩, .inr ⟨b2, rfl, hz.lt, hz.r⟩, hz.s.below⟩

structure TlAt (w W : World) (k : Nat) (ps : List PK) (a2 : Option Addr) (q : Option Addr) (u : Value) (rs : List Rg) (X : Nat) (r : RT) : Prop where
  lost : PksAt W (some ⟨k, 0, none⟩) ps
  lt : k < W.heap.size
  inn : PksAt W a2 ps
  ilt : ∀ x o, a2 = some ⟨x, o, none⟩ → x < W.heap.size
  ack : AckAt W (.pointer q) rs
  ref : RefAt W u rs
  box : Blk W X 53 #[.int .i64 r.latest, .int .i64 r.min, .int .i64 r.smooth, .int .i64 r.var, .int .i64 r.first]
  below : Below w.heap.size w W
theorem TlAt.later {w W W' : World} {k X : Nat} {ps : List PK} {a2 q : Option Addr} {u : Value} {rs : List Rg} {r : RT} (h : TlAt w W k ps a2 q u rs X r) (hb : Below W.heap.size W W') : TlAt w W' k ps a2 q u rs X r :=
  ⟨h.lost.below hb (Nat.le_refl _), Nat.lt_of_lt_of_le h.lt hb.size, h.inn.below hb (Nat.le_refl _), fun x o e => Nat.lt_of_lt_of_le (h.ilt x o e) hb.size, h.ack.below hb, h.ref.below hb, (hb.block _ h.box.lt).trans h.box, bw_below' h.below hb⟩
theorem TlAt.klt {w W : World} {k X : Nat} {ps : List PK} {a2 q : Option Addr} {u : Value} {rs : List Rg} {r : RT} (h : TlAt w W k ps a2 q u rs X r) : ∀ x o, (some ⟨k, 0, none⟩ : Option Addr) = some ⟨x, o, none⟩ → x < W.heap.size := fun x o e => by cases e; exact h.lt
theorem TlAt.five {w W : World} {k X : Nat} {ps : List PK} {a2 q : Option Addr} {u : Value} {rs : List Rg} {r : RT} (h : TlAt w W k ps a2 q u rs X r) : W.cell? ⟨X, 0, none⟩ = some (.int .i64 r.latest) ∧ W.cell? ⟨X, 1, none⟩ = some (.int .i64 r.min) ∧ W.cell? ⟨X, 2, none⟩ = some (.int .i64 r.smooth) ∧ W.cell? ⟨X, 3, none⟩ = some (.int .i64 r.var) ∧ W.cell? ⟨X, 4, none⟩ = some (.int .i64 r.first) := ⟨h.box.cell 0, h.box.cell 1, h.box.cell 2, h.box.cell 3, h.box.cell 4⟩

theorem pkC_one (ps : List PK) : ∀ u ∈ ps.flatMap (fun p => (pkC p).toList), u.oneCell' = true := by
  intro u hu
  rw [List.mem_flatMap] at hu
  obtain ⟨p, _, hp⟩ := hu
  simp [pkC] at hp
  rcases hp with rfl | rfl | rfl | rfl | rfl | rfl <;> rfl
set_option maxRecDepth 100000 in
set_option maxHeartbeats 4000000 in
theorem tells_any (k : Nat) (ps : List PK) (v : Value) (rs : List Rg) (r : RT) (w : World) (hn : ps.length = 4) (hB : Blk w k 55 (ps.flatMap fun p => (pkC p).toList).toArray) (hs : ∀ p ∈ ps, p.small) (hA : SetArg w v rs)
    (hsm : (-9223372036854775808 ≤ r.smooth ∧ r.smooth ≤ 9223372036854775807)) :
    Calls Try.prog 34 #[.slice (some ⟨k, 0, none⟩) 4 4, v, rtV r] w fun e w' => e = .returned (.bool true) ∧ Below w.heap.size w w' := by
  have hbw : Below w.heap.size w (w.alloc (.cells #[.int .i64 r.latest, .int .i64 r.min, .int .i64 r.smooth, .int .i64 r.var, .int .i64 r.first] 53)) := (Below.refl _ _).alloc (Nat.le_refl _) _
  have hx := Blk.new w 53 #[.int .i64 r.latest, .int .i64 r.min, .int .i64 r.smooth, .int .i64 r.var, .int .i64 r.first]
  have hlen : (ps.flatMap fun p => (pkC p).toList).length = 24 := by
    have : ∀ l : List PK, (l.flatMap fun p => (pkC p).toList).length = l.length * 6 := fun l => by
      induction l with
      | nil => rfl
      | cons p l ih => rw [List.flatMap_cons, List.length_append, ih, pkC_length, List.length_cons]; omega
    rw [this, hn]
  have hk := hB.lt
  obtain ⟨i0, hi0, hz0, hz1, hz2⟩ := info_parts pk_info10
  have hP := pksAt_new hB rfl hs
  have HB := hide ((hbw.block _ hk).trans hB)
  have HP := hide (hP.below hbw (Nat.le_refl _))
  have HX := hide hx
  have HBW := hide hbw
  have HA := hide (hA.below hbw)
  have HLE := hide hA.le
  have HS := hide hs
  have HSM := hide hsm
  have HN := hide hn
  have HONE := hide (pkC_one ps)
  obtain ⟨pcs, hpcs⟩ : ∃ pcs, (ps.flatMap fun p => (pkC p).toList) = pcs := ⟨_, rfl⟩
  rw [hpcs] at HB hlen HONE
  have HL := hide hlen
  have HPC := hide hpcs
  clear hB hP hbw hx hA hlen hs hsm hn hpcs
  go_enter Try.func34, Try.ntmps34
  go_wp2_with (at_builtin; refine wpList_append_any _ rfl (.tmp 25) (.tmp 26) _ rfl w.heap.size 55 i0 _ 6 32 Try.underlying46 hi0 hz0 hz1 hz2 rfl (by decide) (.slice none 0 0) 0 [] rfl (by exact ⟨by simp, .inl ⟨rfl, rfl⟩⟩) w.heap.size (some ⟨k, 0, none⟩) 4 4 pcs rfl (by exact reads_lit HB.out hk (by rw [HL.out])) HONE.out (by unfold maxLen; omega) (by omega) (by simp) ?_; intro v5 w5 hown5 hg5 hat5)
  rw [Nat.zero_add, List.nil_append] at hown5
  obtain ⟨a2, c2, rfl⟩ := own_slice' hown5
  have hb5 : Below w.heap.size w w5 := Below.grown HBW.out hg5 (by simp) (fun x hx => by cases hx)
  have hs5 := hg5.size
  obtain ⟨hpk, hnc, hpl⟩ := own_pks HN.out (by rw [HPC.out]; exact hown5) HS.out
  have hT : TlAt w w5 k ps a2 none (.pointer none) [] w.heap.size r := by
    have hb5' : Below (w.alloc (.cells #[.int .i64 r.latest, .int .i64 r.min, .int .i64 r.smooth, .int .i64 r.var, .int .i64 r.first] 53)).heap.size (w.alloc (.cells #[.int .i64 r.latest, .int .i64 r.min, .int .i64 r.smooth, .int .i64 r.var, .int .i64 r.first] 53)) w5 := Below.grown (Below.refl _ _) hg5 (Nat.le_refl _) (fun x hx => by cases hx)
    exact ⟨HP.out.below hb5' (Nat.le_refl _), Nat.lt_of_lt_of_le hk hb5.size, hpk, hpl, .inl ⟨rfl, rfl⟩, .inl ⟨rfl, rfl⟩, (hb5'.block _ HX.out.lt).trans HX.out, hb5⟩
  have HA5 := hide (HA.out.below (Below.grown (Below.refl _ _) hg5 (Nat.le_refl _) (fun x hx => by cases hx)))
  clear hown5 hg5 hat5 hb5 hs5 hpk hpl HA HB HP HX HBW HPC HL HONE
  have HT0 := hide hT
  clear hT
  go_wp2_with fail
  refine (sets_any v rs _ HA5.out).mono ?_
  rintro e6 w6 ⟨q, u, rfl, ha6, hr6, hb6⟩
  have h6 := HT0.out.later hb6
  have HT := hide (TlAt.mk h6.lost h6.lt h6.inn h6.ilt ha6 hr6 h6.box h6.below)
  clear HT0 HA5 ha6 hr6 hb6 h6
  have x4 := HT.out.box.cell 4
  go_wp2_with fail
  refine (period_any a2 4 c2 ps q rs r.first _ HN.out hnc HT.out.inn HT.out.ilt HT.out.ack).mono ?_
  rintro e7 w7 ⟨rfl, hb7⟩
  have HT7 := hide (HT.out.later hb7)
  clear HT hb7 x4
  have x4 := HT7.out.box.cell 4
  obtain ⟨st, hst⟩ : ∃ st, periodOf rs r.first ps = st := ⟨_, rfl⟩
  have HST := hide hst
  rw [hst]
  clear hst
  obtain ⟨std, stl, sth, sts⟩ := st
  unfold perV
  dsimp only
  go_wp2_with fail
  refine (refperiod_any (some ⟨k, 0, none⟩) 4 4 ps u rs r.first _ HN.out HT7.out.lost HT7.out.klt HT7.out.ref HLE.out).mono ?_
  rw [HST.out]
  unfold perV
  dsimp only
  rintro e8 w8 ⟨rfl, hb8⟩
  have hT := HT7.out.later hb8
  clear HT7 hb8 x4
  cases sts
  all_goals
    go_wp2_with fail
    go_loopg [18] 4 (fun kx s18 wr => ∃ i : Nat, s18 = .int .i64 i ∧ i ≤ 4 ∧ 4 - i ≤ kx ∧ TlAt w wr k ps a2 q u rs w.heap.size r)
    case atStart => exact ⟨0, rfl, by omega, by omega, hT⟩
    case round =>
      clear hT
      obtain ⟨i, rfl, hi, hkx, hT⟩ := hrel
      by_cases hlt : i < 4
      · obtain ⟨p, hp⟩ : ∃ p, ps[i]? = some p := ⟨_, List.getElem?_eq_getElem (by rw [HN.out]; exact hlt)⟩
        obtain ⟨b1, o1, hbo, hl1, y0, y1, y2, y3, y4, y5⟩ := hT.lost.cells hp
        obtain ⟨b2, o2, rfl, hl2, z0, z1, z2, z3, z4, z5⟩ := hT.inn.cells hp
        obtain ⟨rfl, rfl⟩ : b1 = k ∧ o1 = 0 := by injection hbo with e1; injection e1 with e1 e2 e3; exact ⟨e1.symm, e2.symm⟩
        rw [Nat.zero_add] at y0 y1 y2 y3 y4 y5
        have hil : (i : Int) < 4 := by omega
        have HT := hide hT
        clear hT hp hbo hl1 hl2
        go_wp2_with fail
        go_quiet (fail)
        go_wp2_with fail
        go_roundg (4 - (i + 1))
        case rel => exact ⟨i + 1, by go_num, by omega, by omega, HT.out.later (by first | exact Below.refl _ _ | exact (Below.refl _ _).drew | exact below_drewN (Below.refl _ _) _)⟩
        case measure => omega
      · obtain rfl : i = 4 := by omega
        clear hi hkx hlt
        go_wp2_with fail
        go_loopg [19] 4 (fun kx s19 wr => ∃ d : Int, s19 = .int .i64 d ∧ -1 ≤ d ∧ d ≤ 3 ∧ (3 - d).toNat ≤ kx ∧ TlAt w wr k ps a2 q u rs w.heap.size r)
        case atStart => exact ⟨-1, rfl, by omega, by omega, by decide, hT⟩
        case round =>
          clear hT
          obtain ⟨d, rfl, hd1, hd2, hkx, hT⟩ := hrel
          by_cases hlt : d < 3
          · obtain ⟨z0, z1, z2, z3, z4⟩ := hT.five
            have HT := hide hT
            clear hT
            go_wp2_with fail
            refine wp_region_S (fun w' => w'.cell? ⟨w.heap.size, 0, none⟩ = some (.int .i64 r.latest) ∧ w'.cell? ⟨w.heap.size, 1, none⟩ = some (.int .i64 r.min) ∧ w'.cell? ⟨w.heap.size, 2, none⟩ = some (.int .i64 r.smooth) ∧ w'.cell? ⟨w.heap.size, 3, none⟩ = some (.int .i64 r.var) ∧ w'.cell? ⟨w.heap.size, 4, none⟩ = some (.int .i64 r.first)) 1000 (by kernel_rfl) (by exact ⟨z0, z1, z2, z3, z4⟩) (fun hHeld => ?_)
            refine wpAnyS_take (i := 0) (v := ?_) rfl (by kernel_rfl) (by kernel_rfl) (by kernel_rfl) (by kernel_rfl) (fun _ _ _ h => h) (Or.inl ⟨by rfl, ?_⟩) (by assumption) ?_
            rotate_left
            · intro w hSw; (try dsimp only at hSw); go_simp; try with_reducible rfl
            try simp only [Act.put, List.getElem_toArray, List.getElem_cons_succ, List.getElem_cons_zero, List.setIfInBounds_toArray, List.set_cons_zero, List.set_cons_succ]
            refine wpAnyS_take (i := 1) (v := ?_) rfl (by kernel_rfl) (by kernel_rfl) (by kernel_rfl) (by kernel_rfl) (fun _ _ _ h => h) (Or.inl ⟨by rfl, ?_⟩) (by assumption) ?_
            rotate_left
            · intro w hSw; (try dsimp only at hSw); go_simp; try with_reducible rfl
            try simp only [Act.put, List.getElem_toArray, List.getElem_cons_succ, List.getElem_cons_zero, List.setIfInBounds_toArray, List.set_cons_zero, List.set_cons_succ]
            refine wpAnyS_take (i := 2) (v := ?_) rfl (by kernel_rfl) (by kernel_rfl) (by kernel_rfl) (by kernel_rfl) (fun _ _ _ h => h) (Or.inl ⟨by rfl, ?_⟩) (by assumption) ?_
            rotate_left
            · intro w hSw; (try dsimp only at hSw); go_simp; try with_reducible rfl
            try simp only [Act.put, List.getElem_toArray, List.getElem_cons_succ, List.getElem_cons_zero, List.setIfInBounds_toArray, List.set_cons_zero, List.set_cons_succ]
            refine wpAnyS_take (i := 3) (v := ?_) rfl (by kernel_rfl) (by kernel_rfl) (by kernel_rfl) (by kernel_rfl) (fun _ _ _ h => h) (Or.inl ⟨by rfl, ?_⟩) (by assumption) ?_
            rotate_left
            · intro w hSw; (try dsimp only at hSw); go_simp; try with_reducible rfl
            try simp only [Act.put, List.getElem_toArray, List.getElem_cons_succ, List.getElem_cons_zero, List.setIfInBounds_toArray, List.set_cons_zero, List.set_cons_succ]
            refine wpAnyS_take (i := 4) (v := ?_) rfl (by kernel_rfl) (by kernel_rfl) (by kernel_rfl) (by kernel_rfl) (fun _ _ _ h => h) (Or.inl ⟨by rfl, ?_⟩) (by assumption) ?_
            rotate_left
            · intro w hSw; (try dsimp only at hSw); go_simp; try with_reducible rfl
            try simp only [Act.put, List.getElem_toArray, List.getElem_cons_succ, List.getElem_cons_zero, List.setIfInBounds_toArray, List.set_cons_zero, List.set_cons_succ]
            refine wpAnyS_take (i := 6) (v := ?_) rfl (by kernel_rfl) (by kernel_rfl) (by kernel_rfl) (by kernel_rfl) (fun _ _ _ h => h) (Or.inl ⟨by rfl, ?_⟩) (by assumption) ?_
            rotate_left
            · intro w hSw; (try dsimp only at hSw); go_simp; try with_reducible rfl
            try simp only [Act.put, List.getElem_toArray, List.getElem_cons_succ, List.getElem_cons_zero, List.setIfInBounds_toArray, List.set_cons_zero, List.set_cons_succ]
            refine wpAnyS_take (i := 7) (v := ?_) rfl (by kernel_rfl) (by kernel_rfl) (by kernel_rfl) (by kernel_rfl) (fun _ _ _ h => h) (Or.inl ⟨by rfl, ?_⟩) (by assumption) ?_
            rotate_left
            · intro w hSw; (try dsimp only at hSw); go_simp; try with_reducible rfl
            try simp only [Act.put, List.getElem_toArray, List.getElem_cons_succ, List.getElem_cons_zero, List.setIfInBounds_toArray, List.set_cons_zero, List.set_cons_succ]
            refine wpAnyS_take (i := 8) (v := ?_) rfl (by kernel_rfl) (by kernel_rfl) (by kernel_rfl) (by kernel_rfl) (fun _ _ _ h => h) (Or.inl ⟨by rfl, ?_⟩) (by assumption) ?_
            rotate_left
            · intro w hSw; (try dsimp only at hSw); go_simp; try with_reducible rfl
            try simp only [Act.put, List.getElem_toArray, List.getElem_cons_succ, List.getElem_cons_zero, List.setIfInBounds_toArray, List.set_cons_zero, List.set_cons_succ]
            refine wpAnyS_take (i := 9) (v := ?_) rfl (by kernel_rfl) (by kernel_rfl) (by kernel_rfl) (by kernel_rfl) (fun _ _ _ h => h) (Or.inl ⟨by rfl, ?_⟩) (by assumption) ?_
            rotate_left
            · intro w hSw; (try dsimp only at hSw); go_simp; try with_reducible rfl
            try simp only [Act.put, List.getElem_toArray, List.getElem_cons_succ, List.getElem_cons_zero, List.setIfInBounds_toArray, List.set_cons_zero, List.set_cons_succ]
            refine wpAnyS_take (i := 10) (v := ?_) rfl (by kernel_rfl) (by kernel_rfl) (by kernel_rfl) (by kernel_rfl) (fun _ _ _ h => h) (Or.inl ⟨by rfl, ?_⟩) (by assumption) ?_
            rotate_left
            · intro w hSw; (try dsimp only at hSw); go_simp; try with_reducible rfl
            try simp only [Act.put, List.getElem_toArray, List.getElem_cons_succ, List.getElem_cons_zero, List.setIfInBounds_toArray, List.set_cons_zero, List.set_cons_succ]
            refine wpAnyS_one (i := 5) rfl (by kernel_rfl) (fun K hK => ?_)
            go_simp; go_at_call 32; refine (persistis_any a2 4 c2 ps q rs r _ _ HN.out hnc (HT.out.later (by first | exact Below.refl _ _ | exact (Below.refl _ _).drew | exact below_drewN (Below.refl _ _) _)).inn (HT.out.later (by first | exact Below.refl _ _ | exact (Below.refl _ _).drew | exact below_drewN (Below.refl _ _) _)).ilt (HT.out.later (by first | exact Below.refl _ _ | exact (Below.refl _ _).drew | exact below_drewN (Below.refl _ _) _)).ack HSM.out).mono ?_; rintro e9 w9 ⟨rfl, hb9⟩; have HT9 := hide ((HT.out.later (by first | exact Below.refl _ _ | exact (Below.refl _ _).drew | exact below_drewN (Below.refl _ _) _)).later hb9); clear hb9
            refine hK.out _ _ (fun _ => HT9.out.five) (fun hH => ?_)
            have hHeld := hH rfl
            clear hK K hH
            try simp only [Act.put, List.getElem_toArray, List.getElem_cons_succ, List.getElem_cons_zero, List.setIfInBounds_toArray, List.set_cons_zero, List.set_cons_succ]
            refine wpAnyS_one (i := 11) rfl (by kernel_rfl) (fun K hK => ?_)
            go_simp; go_at_call 60; refine (refis_any (some ⟨k, 0, none⟩) 4 4 ps u rs r _ _ HN.out HT9.out.lost HT9.out.klt HT9.out.ref HLE.out HSM.out).mono ?_; rintro e10 w10 ⟨rfl, hb10⟩; have HT10 := hide (HT9.out.later hb10); clear hb10
            refine hK.out _ _ (fun _ => HT10.out.five) (fun hH => ?_)
            have hHeld := hH rfl
            clear hK K hH
            try simp only [Act.put, List.getElem_toArray, List.getElem_cons_succ, List.getElem_cons_zero, List.setIfInBounds_toArray, List.set_cons_zero, List.set_cons_succ]
            refine wpAnyS_one (i := 12) rfl (by kernel_rfl) (fun K hK => ?_)
            go_simp
            refine hK.out _ _ (fun _ => HT10.out.five) (fun hH => ?_)
            have hHeld := hH rfl
            clear hK K hH
            try simp only [Act.put, List.getElem_toArray, List.getElem_cons_succ, List.getElem_cons_zero, List.setIfInBounds_toArray, List.set_cons_zero, List.set_cons_succ]
            refine wpAnyS_done (by kernel_rfl) ?_ _
            have hT := HT10.out
            clear HT HT9 HT10 hHeld z0 z1 z2 z3 z4
            go_wp2_with fail
            go_roundg ((3 - (d + 1)).toNat)
            case rel => exact ⟨d + 1, by go_num, by omega, by omega, by omega, hT⟩
            case measure => omega
          · obtain rfl : d = 3 := by omega
            have HT := hide hT
            clear hT
            go_wp2_with fail
            refine (works10_any _).mono ?_
            rintro e11 w11 ⟨rfl, hb11⟩
            go_wp2_with fail
            go_ret
            exact ⟨rfl, bw_below' HT.out.below hb11⟩
end Go.Proofs.Ytkmfhcjdajbbhaa
