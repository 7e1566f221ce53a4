/-
 Layer 24 (judge): Look: its walk.
-/
import Derived.Test.YtidfngcclbhoaaaJgRowA
import Derived.Test.YtidfngcclbhoaaaCfCheck
import Derived.Laws.EntriesVeiled
import Derived.Laws.Tables
import Derived.RegionTactic
import Derived.BigRegion
namespace Go.Proofs.Ytidfngcclbhoaaa
open List renaming getElem?_toArray → ZG, getElem?_cons_zero → ZH, getElem?_cons_succ → ZJ
open Go.Value renaming int → ZI
open Go.IntKind renaming i64 → ZQ
set_option linter.unusedSimpArgs false
set_option linter.unusedVariables false
open Go.RowKit Go.Shelf
/-- A row with its events and its ranges. -/
structure RR where
 r : RW
 es : List EVJ
 rs : List RGJ
def rrL (x : RR) : List Value := (rwC x.r).toList
def K0 (c : CF) (i : Nat) : KN := ⟨c, 0, c.first, 0, 0, !c.sv, false, [], fun j => if j < i then -1 else 0, fun j => if j < i then -1 else 0, fun _ => 0, true, [⟨0, c.first, c.rtt⟩], []⟩
def tellK (k : KN) (x : RR) : KN := { k with told := k.told && decide (0 < x.r.smooth) }
def lookP (f : KN → RR → Except Int KN) : KN → List RR → Nat → Int × Int
 | _, [], _ => (-1, 0)
 | k, x :: l, i => match f (tellK k x) x with
  | .ok k' => lookP f k' l (i + 1)
  | .error n => ((i : Int), n)
section
variable {P : Program} {w : World}
theorem run_loadVar_at (a : Addr) (ty : TypeId) (cs : Array Value) (d : TypeDesc) (hc : ∀ j v, cs[j]? = some v → w.cell? (a.add j) = some v)
  (hu : P.underlying ty = some d) (hd : (match d with | .struct _ | .array _ _ => true | _ => false) = true) (hi : (P.info? ty).map (·.size) = some cs.size) :
  (loadVar ty a).run P w = .ok (.agg cs) w := by
 have hl : (loadCells a cs.toList.length).run P w = .ok cs.toList.toArray w :=
  run_loadCells_list (P := P) w a cs.toList (fun j v hv => hc j v (by simpa using hv))
 cases hq : P.info? ty with
 | none => simp [hq] at hi
 | some i =>
  have hs : i.size = cs.size := by simpa [hq] using hi
  have hagg : (isAgg ty).run P w = .ok true w := by
   unfold isAgg
   rw [Sem.run_bind, run_underlying hu w]
   cases d <;> simp_all
  simp only [Array.length_toList, Array.toArray_toList] at hl
  simp [loadVar, Sem.run_bind, hagg, sizeOf, typeInfo, hq, hs, hl]
theorem wp_load_at {o : Oper} {a : Act} {K : Act → World → Prop} {Q : Exit → Act → World → Prop} (ty : TypeId) (x : Operand) (ho : o.op = .load ty x)
  (p : Addr) (hx : a.eval x = .pointer (some p)) (cs : Array Value) (d : TypeDesc) (hc : ∀ j v, cs[j]? = some v → w.cell? (p.add j) = some v)
  (hu : P.underlying ty = some d) (hd : (match d with | .struct _ | .array _ _ => true | _ => false) = true) (hi : (P.info? ty).map (·.size) = some cs.size)
  (h : K (a.put o.dst (.agg cs)) w) : o.wp P a w K Q := by
 unfold Oper.wp execOp
 simp only [ho, hx, Instr.loadAt, Instr.sureAddr, Sem.run_bind, Sem.run_pure, Result.andThen_ok, run_loadVar_at p ty cs d hc hu hd hi]
 exact h
theorem wpList_load_at {ops : Array Oper} {rest : List Oper} {o : Oper} {a : Act} {Q : Exit → Act → World → Prop} (hgd : o.guard = none) (ty : TypeId) (x : Operand) (ho : o.op = .load ty x)
  (p : Addr) (hx : a.eval x = .pointer (some p)) (cs : Array Value) (d : TypeDesc) (hc : ∀ j v, cs[j]? = some v → w.cell? (p.add j) = some v)
  (hu : P.underlying ty = some d) (hd : (match d with | .struct _ | .array _ _ => true | _ => false) = true) (hi : (P.info? ty).map (·.size) = some cs.size)
  (h : wpList P ops Q rest (a.put o.dst (.agg cs)) w) : wpList P ops Q (o :: rest) a w :=
 wpList_plain hgd fun _ hK => wp_load_at ty x ho p hx cs d hc hu hd hi (hK _ _ h)
end
theorem row_new (w : World) (t : TypeId) (zs cs : Array Value) : Below w.heap.size w ((w.alloc (.cells zs t)).setRow w.heap.size cs) := by
 have ha : Below w.heap.size w (w.alloc (.cells zs t)) := (Below.refl _ _).alloc (Nat.le_refl _) _
 have ho : Only [w.heap.size] (w.alloc (.cells zs t)) ((w.alloc (.cells zs t)).setRow w.heap.size cs) := only_setRow
 exact ha.trans (ho.below (B := w.heap.size) (by intro x hx; rw [List.mem_singleton] at hx; omega) (by simp))
theorem conf_size : (Try.prog.info? 24).map (·.size) = some 10 := by kernel_rfl
/-- What lies while Look goes. -/
structure LkSt (w W : World) (b : Nat) (k : KN) (vf vp vd : Value) (F : Nat) : Prop where
 kn : KnAt W b w.heap.size k vf vp vd
 fd : Blk W F 38 #[ZI ZQ 0, ZI ZQ 0]
 bl : Far w.heap.size w W
theorem LkSt.far {w W W' : World} {b F : Nat} {k k' : KN} {vf vp vd vf' vp' vd' : Value} (h : LkSt w W b k vf vp vd F) (hf : Far w.heap.size W W') (hk : KnAt W' b w.heap.size k' vf' vp' vd') : LkSt w W' b k' vf' vp' vd' F :=
 ⟨hk, hf.kept h.fd (by decide) (by decide) (by decide) (by decide), h.bl.trans hf⟩
theorem LkSt.later {w W W' : World} {b F : Nat} {k : KN} {vf vp vd : Value} (h : LkSt w W b k vf vp vd F) (hb : Below W.heap.size W W') : LkSt w W' b k vf vp vd F :=
 h.far (Far.of_below hb h.bl.bl.size) (h.kn.later hb)
theorem LkSt.put {w W : World} {b F : Nat} {k k' : KN} {vf vp vd : Value} (h : LkSt w W b k vf vp vd F) (i : Nat) (u : Value) (hc : (knC k vf vp vd).setIfInBounds i u = knC k' vf vp vd) (hf : k'.flying = k.flying) (hp : k'.pieces = k.pieces) (hd : k'.paced = k.paced) :
  LkSt w (W.setCell ⟨b, i, none⟩ u) b k' vf vp vd F := h.far (Far.refl.set h.kn.blk h.kn.ge i u) (h.kn.put i u k' hc hf hp hd)
set_option maxRecDepth 100000 in
set_option maxHeartbeats 8000000 in
theorem look_any (Q : Nat → KN → Prop) (f : KN → RR → Except Int KN) (c : CF) (hc : errC c = 0) (A : Option Addr) (n cap : Nat) (l : List RR) (w : World) (hn : l.length = n) (hl : n ≤ 1000) (hL : LieAt rrL 20 w w.heap.size A l)
  (hE : ∀ x ∈ l, LieAt evL 4 w w.heap.size x.r.ea x.es ∧ LieAt rgL 2 w w.heap.size x.r.ra x.rs) (hQ0 : Q 0 (K0 c 3))
  (hrow : ∀ i x k b W vf vp vd, Q i k → l[i]? = some x → KnAt W b w.heap.size (tellK k x) vf vp vd → LieAt evL 4 W w.heap.size x.r.ea x.es → LieAt rgL 2 W w.heap.size x.r.ra x.rs → Calls Try.prog 15 #[.pointer (some ⟨b, 0, none⟩), .agg (rwC x.r)] W (RowPost b w.heap.size W (f (tellK k x) x)))
  (hQ : ∀ i x k k', Q i k → l[i]? = some x → f (tellK k x) x = .ok k' → Q (i + 1) k') (hpos : ∀ i x k m, Q i k → l[i]? = some x → f (tellK k x) x = .error m → 0 < m ∧ m ≤ 100) :
  Calls Try.prog 7 #[.agg (confC c), .slice A n cap] w fun e w' => e = .returned (.tuple #[.agg #[ZI ZQ (lookP f (K0 c 3) l 0).1, ZI ZQ (lookP f (K0 c 3) l 0).2], ZI ZQ 0]) ∧ Below w.heap.size w w' := by
 have HCK := hide (fun W => check_any c W)
 rw [hc] at HCK
 obtain ⟨res, hres⟩ : ∃ x, lookP f (K0 c 3) l 0 = x := ⟨_, rfl⟩
 rw [hres]
 have HRES := hide hres
 have HL := hide hL
 have HE := hide hE
 have HN := hide hn
 have HQ0 := hide hQ0
 have HROW := hide hrow
 have HQ := hide hQ
 have HPOS := hide hpos
 have hnI : ¬ (1000 : Int) < (n : Int) := by omega
 clear hres hL hE hQ0 hrow hQ hpos hn hc
 obtain ⟨sv, d, first, most, rtt, delay, ex, burst, room, backs⟩ := c
 unfold confC at HCK ⊢
 go_enter Try.func7, Try.ntmps7
 go_wp2_with fail
 refine (HCK.out _).mono ?_
 rintro y1 W1 ⟨rfl, hb1⟩
 have hc0 : Blk W1 w.heap.size 24 (confC ⟨sv, d, first, most, rtt, delay, ex, burst, room, backs⟩) := (hb1.block _ (by simp; omega)).trans ((Blk.new w 24 _).alloc _)
 have HC0 := hide hc0
 have q0 := hc0.cell 0
 have q2 := hc0.cell 2
 have q4 := hc0.cell 4
 have hfd0 := Blk.new (w.alloc (.cells #[.bool sv, ZI ZQ d, ZI ZQ first, ZI ZQ most, ZI ZQ rtt, ZI ZQ delay, ZI ZQ ex, ZI ZQ burst, ZI ZQ room, ZI ZQ backs] 24)) 38 #[ZI ZQ 0, ZI ZQ 0]
 rw [show (w.alloc (.cells #[.bool sv, ZI ZQ d, ZI ZQ first, ZI ZQ most, ZI ZQ rtt, ZI ZQ delay, ZI ZQ ex, ZI ZQ burst, ZI ZQ room, ZI ZQ backs] 24)).heap.size = w.heap.size + 1 by simp] at hfd0
 have hfd : Blk W1 (w.heap.size + 1) 38 #[ZI ZQ 0, ZI ZQ 0] := (hb1.block _ (by simp)).trans hfd0
 have HFD := hide hfd
 have hbw : Below w.heap.size w W1 := (((Below.refl _ _).alloc (Nat.le_refl _) _).alloc (by simp) _).trans (hb1.mono (by simp; omega))
 have HBW := hide hbw
 simp only [confC, ZG, ZH, ZJ] at q0 q2 q4
 clear hc0 hb1 hfd hbw HCK hfd0
 go_upto_region 7 with (refine wpList_load_row rfl 24 (.tmp 2) rfl w.heap.size rfl 24 #[.bool sv, ZI ZQ d, ZI ZQ first, ZI ZQ most, ZI ZQ rtt, ZI ZQ delay, ZI ZQ ex, ZI ZQ burst, ZI ZQ room, ZI ZQ backs] (0, 0) _ HC0.out Try.underlying24 rfl conf_size ?_)
 have h0 : LkSt w ((W1.alloc (.cells #[ZI ZQ 0, ZI ZQ first, ZI ZQ rtt] 53)).alloc (.cells (knC (K0 ⟨sv, d, first, most, rtt, delay, ex, burst, room, backs⟩ 0) (.slice none 0 0) (.slice (some ⟨W1.heap.size, 0, none⟩) 1 1) (.slice none 0 0)) 58)) (W1.heap.size + 1) (K0 ⟨sv, d, first, most, rtt, delay, ex, burst, room, backs⟩ 0) (.slice none 0 0) (.slice (some ⟨W1.heap.size, 0, none⟩) 1 1) (.slice none 0 0) (w.heap.size + 1) := by
  have hz := HBW.out.size
  have hp : Below W1.heap.size W1 ((W1.alloc (.cells #[ZI ZQ 0, ZI ZQ first, ZI ZQ rtt] 53)).alloc (.cells (knC (K0 ⟨sv, d, first, most, rtt, delay, ex, burst, room, backs⟩ 0) (.slice none 0 0) (.slice (some ⟨W1.heap.size, 0, none⟩) 1 1) (.slice none 0 0)) 58)) := ((Below.refl _ _).alloc (Nat.le_refl _) _).alloc (by simp) _
  have hkb := Blk.new (W1.alloc (.cells #[ZI ZQ 0, ZI ZQ first, ZI ZQ rtt] 53)) 58 (knC (K0 ⟨sv, d, first, most, rtt, delay, ex, burst, room, backs⟩ 0) (.slice none 0 0) (.slice (some ⟨W1.heap.size, 0, none⟩) 1 1) (.slice none 0 0))
  rw [show (W1.alloc (.cells #[ZI ZQ 0, ZI ZQ first, ZI ZQ rtt] 53)).heap.size = W1.heap.size + 1 by simp] at hkb
  have hpb : Blk ((W1.alloc (.cells #[ZI ZQ 0, ZI ZQ first, ZI ZQ rtt] 53)).alloc (.cells (knC (K0 ⟨sv, d, first, most, rtt, delay, ex, burst, room, backs⟩ 0) (.slice none 0 0) (.slice (some ⟨W1.heap.size, 0, none⟩) 1 1) (.slice none 0 0)) 58)) W1.heap.size 53 [(ZI ZQ 0 : Value), ZI ZQ first, ZI ZQ rtt].toArray := (Blk.new W1 _ _).alloc _
  exact ⟨⟨hkb, ⟨rfl, .inl ⟨rfl, rfl⟩⟩, own_mk (cur := [(ZI ZQ 0 : Value), ZI ZQ first, ZI ZQ rtt]) (n := 1) (cap := 1) hz hpb (Nat.le_refl _) (by unfold maxLen; omega) rfl, ⟨rfl, .inl ⟨rfl, rfl⟩⟩, by omega⟩, (hp.block _ HFD.out.lt).trans HFD.out, Far.of_below (HBW.out.trans (hp.mono hz)) (Nat.le_refl _)⟩
 have HH0 := hide h0
 clear h0 q0 q2 q4
 obtain ⟨W2, hW2⟩ : ∃ x, (W1.alloc (.cells #[ZI ZQ 0, ZI ZQ first, ZI ZQ rtt] 53)).alloc (.cells #[.bool sv, ZI ZQ d, ZI ZQ first, ZI ZQ most, ZI ZQ rtt, ZI ZQ delay, ZI ZQ ex, ZI ZQ burst, ZI ZQ room, ZI ZQ backs, ZI ZQ 0, ZI ZQ first, ZI ZQ 0, ZI ZQ 0, .bool !sv, .bool false, .slice none 0 0, ZI ZQ 0, ZI ZQ 0, ZI ZQ 0, ZI ZQ 0, ZI ZQ 0, ZI ZQ 0, ZI ZQ 0, ZI ZQ 0, ZI ZQ 0, .bool true, .slice (some ⟨W1.heap.size, 0, none⟩) 1 1, .slice none 0 0] 58) = x := ⟨_, rfl⟩
 obtain ⟨VP, hVP⟩ : ∃ x, Value.slice (some ⟨W1.heap.size, 0, none⟩) 1 1 = x := ⟨_, rfl⟩
 obtain ⟨b, hb⟩ : ∃ x, W1.heap.size + 1 = x := ⟨_, rfl⟩
 have H0 : Hid (LkSt w W2 b (K0 ⟨sv, d, first, most, rtt, delay, ex, burst, room, backs⟩ 0) (.slice none 0 0) VP (.slice none 0 0) (w.heap.size + 1)) := by
  rw [← hW2, ← hVP, ← hb]
  exact HH0.out
 rw [hW2]
 rw [hb]
 clear hW2 hVP hb HH0 HFD HC0 HBW
 go_wp2_with fail
 go_loopg [36] 3 (fun kx s36 wr => ∃ i : Nat, s36 = ZI ZQ i ∧ i ≤ 3 ∧ 3 - i ≤ kx ∧ LkSt w wr b (K0 ⟨sv, d, first, most, rtt, delay, ex, burst, room, backs⟩ i) (.slice none 0 0) VP (.slice none 0 0) (w.heap.size + 1))
 case atStart => exact ⟨0, rfl, by omega, by omega, H0.out⟩
 case round =>
  clear H0
  obtain ⟨i, rfl, hi, hkx, hs⟩ := hrel
  have HS := hide hs
  rcases (by omega : i = 0 ∨ i = 1 ∨ i = 2 ∨ i = 3) with rfl | rfl | rfl | rfl
  ·have c17 := hs.kn.blk.cell 17
   have c20 := hs.kn.blk.cell 20
   have f17 := hs.kn.blk.frozen 17
   have f20 := hs.kn.blk.frozen 20
   simp only [knC, K0, ZG, ZH, ZJ] at c17 c20
   clear hs
   go_wp2_with fail
   go_region
   all_goals
    go_wp2_with fail
    go_roundg (3 - (0 + 1))
    case rel => exact ⟨0 + 1, rfl, by omega, by omega, ((HS.out.put (k' := { K0 ⟨sv, d, first, most, rtt, delay, ex, burst, room, backs⟩ 0 with last := (K0 ⟨sv, d, first, most, rtt, delay, ex, burst, room, backs⟩ 1).last }) 17 (ZI ZQ (-1)) rfl rfl rfl rfl).put (k' := K0 ⟨sv, d, first, most, rtt, delay, ex, burst, room, backs⟩ 1) 20 (ZI ZQ (-1)) rfl rfl rfl rfl).later (below_drewN (Below.refl _ _) 1)⟩
    case measure => omega
  ·have c17 := hs.kn.blk.cell 18
   have c20 := hs.kn.blk.cell 21
   have f17 := hs.kn.blk.frozen 18
   have f20 := hs.kn.blk.frozen 21
   simp only [knC, K0, ZG, ZH, ZJ] at c17 c20
   clear hs
   go_wp2_with fail
   go_region
   all_goals
    go_wp2_with fail
    go_roundg (3 - (1 + 1))
    case rel => exact ⟨1 + 1, rfl, by omega, by omega, ((HS.out.put (k' := { K0 ⟨sv, d, first, most, rtt, delay, ex, burst, room, backs⟩ 1 with last := (K0 ⟨sv, d, first, most, rtt, delay, ex, burst, room, backs⟩ 2).last }) 18 (ZI ZQ (-1)) rfl rfl rfl rfl).put (k' := K0 ⟨sv, d, first, most, rtt, delay, ex, burst, room, backs⟩ 2) 21 (ZI ZQ (-1)) rfl rfl rfl rfl).later (below_drewN (Below.refl _ _) 1)⟩
    case measure => omega
  ·have c17 := hs.kn.blk.cell 19
   have c20 := hs.kn.blk.cell 22
   have f17 := hs.kn.blk.frozen 19
   have f20 := hs.kn.blk.frozen 22
   simp only [knC, K0, ZG, ZH, ZJ] at c17 c20
   clear hs
   go_wp2_with fail
   go_region
   all_goals
    go_wp2_with fail
    go_roundg (3 - (2 + 1))
    case rel => exact ⟨2 + 1, rfl, by omega, by omega, ((HS.out.put (k' := { K0 ⟨sv, d, first, most, rtt, delay, ex, burst, room, backs⟩ 2 with last := (K0 ⟨sv, d, first, most, rtt, delay, ex, burst, room, backs⟩ 3).last }) 19 (ZI ZQ (-1)) rfl rfl rfl rfl).put (k' := K0 ⟨sv, d, first, most, rtt, delay, ex, burst, room, backs⟩ 3) 22 (ZI ZQ (-1)) rfl rfl rfl rfl).later (below_drewN (Below.refl _ _) 1)⟩
    case measure => omega
  ·clear hs
   go_wp2_with fail
   clear hkx hi
   obtain ⟨F, hF⟩ : ∃ F, w.heap.size + 1 = F := ⟨_, rfl⟩
   have HFW := hide (show w.heap.size ≤ F by omega)
   rw [hF]
   rw [hF] at HS
   clear hF
   go_loopg [52] n (fun kx s52 wr => ∃ (i : Nat) (k : KN) (vf vp vd : Value), s52 = ZI ZQ i ∧ i ≤ n ∧ n - i ≤ kx ∧ Hid (Q i k) ∧ Hid (res = lookP f k (l.drop i) i) ∧ LkSt w wr b k vf vp vd F)
   case atStart => exact ⟨0, _, _, _, _, rfl, by omega, by omega, HQ0.out, HRES.out.symm, HS.out⟩
   case round =>
    clear HS
    obtain ⟨i, k, vf, vp, vd, rfl, hi, hkx, HQI, hlq0, hs⟩ := hrel
    by_cases hlt : i < n
    ·have hir : i < l.length := by rw [HN.out]; exact hlt
     obtain ⟨x, hx⟩ : ∃ x, l[i]? = some x := ⟨_, List.getElem?_eq_getElem hir⟩
     have hd : l.drop i = x :: l.drop (i + 1) := by
      rw [List.drop_eq_getElem_cons hir]
      congr 1
      rw [List.getElem?_eq_getElem hir] at hx
      exact Option.some.inj hx
     have HX := hide hx
     have hlq : res = match f (tellK k x) x with
       | .ok k' => lookP f k' (l.drop (i + 1)) (i + 1)
       | .error m => ((i : Int), m) := by
      rw [show res = lookP f k (l.drop i) i from hlq0, hd]
      rfl
     have HLQ := hide hlq
     obtain ⟨g, o, rfl, hg, hz⟩ := (HL.out.later hs.bl.bl).at hx
     have HC := hide (show ∀ j v, (rwC x.r)[j]? = some v → wr.cell? ((⟨g, o + i * 20, none⟩ : Addr).add j) = some v from by
      intro j v hv
      have hj : j < 20 := by have := (Array.getElem?_eq_some_iff.1 hv).1; exact this
      rw [show (⟨g, o + i * 20, none⟩ : Addr).add j = ⟨g, o + i * 20 + j, none⟩ by unfold Addr.add; split <;> simp_all]
      exact hz j v hj (by unfold rrL; rw [Array.getElem?_toList]; exact hv))
     have hin : (i : Int) < (n : Int) := by omega
     have HS := hide hs
     have HA := hide (Blk.new wr 36 #[ZI ZQ 0, ZI ZQ 0, ZI ZQ 0, ZI ZQ 0, ZI ZQ 0, ZI ZQ 0, ZI ZQ 0, .bool false, .bool false, .bool false, .bool false, ZI ZQ 0, .slice none 0 0, .bool false, ZI ZQ 0, ZI ZQ 0, ZI ZQ 0, .slice none 0 0, ZI ZQ 0, ZI ZQ 0])
     have hone : (rwC x.r).all (·.oneCell') = true := by simp [rwC, Value.oneCell']
     have HONE := hide hone
     clear hlq hlq0 hd hx hir hz hs hone
     go_upto_region 15 with (first
      | (refine wpList_load_at rfl 36 (.tmp 55) rfl ⟨g, o + i * 20, none⟩ rfl (rwC x.r) _ HC.out Try.underlying36 rfl row_size ?_)
      | (refine wpList_store_row rfl 36 (.tmp 10) (.tmp 56) rfl wr.heap.size (rwC x.r) rfl rfl 36 #[ZI ZQ 0, ZI ZQ 0, ZI ZQ 0, ZI ZQ 0, ZI ZQ 0, ZI ZQ 0, ZI ZQ 0, .bool false, .bool false, .bool false, .bool false, ZI ZQ 0, .slice none 0 0, .bool false, ZI ZQ 0, ZI ZQ 0, ZI ZQ 0, .slice none 0 0, ZI ZQ 0, ZI ZQ 0] HA.out row_size rfl HONE.out ?_))
     have hb4 : Below wr.heap.size wr ((wr.alloc (.cells #[ZI ZQ 0, ZI ZQ 0, ZI ZQ 0, ZI ZQ 0, ZI ZQ 0, ZI ZQ 0, ZI ZQ 0, .bool false, .bool false, .bool false, .bool false, ZI ZQ 0, .slice none 0 0, .bool false, ZI ZQ 0, ZI ZQ 0, ZI ZQ 0, .slice none 0 0, ZI ZQ 0, ZI ZQ 0] 36)).setRow wr.heap.size (rwC x.r)) := row_new wr _ _ _
     have hs4 := HS.out.later hb4
     have hxr4 : Blk ((wr.alloc (.cells #[ZI ZQ 0, ZI ZQ 0, ZI ZQ 0, ZI ZQ 0, ZI ZQ 0, ZI ZQ 0, ZI ZQ 0, .bool false, .bool false, .bool false, .bool false, ZI ZQ 0, .slice none 0 0, .bool false, ZI ZQ 0, ZI ZQ 0, ZI ZQ 0, .slice none 0 0, ZI ZQ 0, ZI ZQ 0] 36)).setRow wr.heap.size (rwC x.r)) wr.heap.size 36 (rwC x.r) := blk_setRow HA.out
     obtain ⟨W4, hW4⟩ : ∃ y, (wr.alloc (.cells #[ZI ZQ 0, ZI ZQ 0, ZI ZQ 0, ZI ZQ 0, ZI ZQ 0, ZI ZQ 0, ZI ZQ 0, .bool false, .bool false, .bool false, .bool false, ZI ZQ 0, .slice none 0 0, .bool false, ZI ZQ 0, ZI ZQ 0, ZI ZQ 0, .slice none 0 0, ZI ZQ 0, ZI ZQ 0] 36)).setRow wr.heap.size (rwC x.r) = y := ⟨_, rfl⟩
     obtain ⟨X, hX⟩ : ∃ y, wr.heap.size = y := ⟨_, rfl⟩
     rw [hW4] at hs4 hxr4
     rw [hX] at hxr4
     rw [hW4, hX]
     have HXR4 := hide hxr4
     have hlq := HLQ.out
     clear hW4 hX hb4 HA HC HONE HS hxr4 HLQ
     cases htl : k.told with
     | true =>
      have c26 := hs4.kn.blk.cell 26
      have f26 := hs4.kn.blk.frozen 26
      have r19 := HXR4.out.cell 19
      simp only [knC, rwC, htl, ZG, ZH, ZJ] at c26 r19
      have htk : (knC k vf vp vd).setIfInBounds 26 (.bool (decide (0 < x.r.smooth))) = knC (tellK k x) vf vp vd := by simp [knC, tellK, htl]
      have hs5 := hs4.put (k' := tellK k x) 26 (.bool (decide (0 < x.r.smooth))) htk rfl rfl rfl
      have HS5 := hide hs5
      have HXR := hide (HXR4.out.far (p := ⟨b, 26, none⟩) (blk_ne HXR4.out hs4.kn.blk (by decide)) (.bool (decide (0 < x.r.smooth))))
      have HEV := hide ((HE.out x (List.mem_of_getElem? HX.out)).1.later hs5.bl.bl)
      have HRG := hide ((HE.out x (List.mem_of_getElem? HX.out)).2.later hs5.bl.bl)
      clear hs5 htk hs4
      go_wp2_with (refine wpList_load_row rfl 36 (.tmp 10) rfl X rfl 36 (rwC x.r) (0, 0) _ HXR.out Try.underlying36 rfl row_size ?_)
      with_reducible refine (HROW.out i x k b _ vf vp vd HQI.out HX.out HS5.out.kn HEV.out HRG.out).mono ?_
      cases hf : f (tellK k x) x with
      | error m =>
       rintro y7 W7 ⟨rfl, hf7⟩
       have hm := HPOS.out i x k m HQI.out HX.out hf
       have HR7 : Hid (res = ((i : Int), m)) := by
        show _ = _
        rw [hlq, hf]
       have hfd7 : Blk W7 F 38 #[ZI ZQ 0, ZI ZQ 0] := hf7.kept HS5.out.fd (by decide) (by decide) (by decide) (by decide)
       have HB7 := hide (HS5.out.bl.trans hf7).bl
       have e0 := hfd7.cell 0
       have e1 := hfd7.cell 1
       have g0 := hfd7.frozen 0
       have g1 := hfd7.frozen 1
       simp only [ZG, ZH, ZJ] at e0 e1
       have z0 := ((hfd7.set 0 (ZI ZQ (i : Int))).set 1 (ZI ZQ m)).cell 0
       have z1 := ((hfd7.set 0 (ZI ZQ (i : Int))).set 1 (ZI ZQ m)).cell 1
       have Z := hide (And.intro z0 z1)
       obtain ⟨m0, m1⟩ := hm
       clear hf hlq hf7 hfd7 HS5 HXR HEV HRG HXR4 z0 z1 c26 f26 r19
       go_wp2_with fail
       obtain ⟨z0, z1⟩ := Z.out
       simp at z0 z1
       have hfin : Below w.heap.size w ((W7.setCell ⟨F, 0, none⟩ (ZI ZQ (i : Int))).setCell ⟨F, 1, none⟩ (ZI ZQ m)) := (HB7.out.setCell (p := ⟨F, 0, none⟩) HFW.out _).setCell (p := ⟨F, 1, none⟩) HFW.out _
       exact bodyPost_ret (v := .tuple #[.agg #[ZI ZQ (i : Int), ZI ZQ m], ZI ZQ 0]) (by simp [results, Try.results7, go_sem, z0, z1]) rfl ⟨by rw [HR7.out], hfin⟩
      | ok k' =>
       rintro y7 W7 ⟨rfl, vf', vp', vd', hk7, hf7⟩
       have hs7 := HS5.out.far hf7 hk7
       have HS7 := hide hs7
       have HR7 : Hid (res = lookP f k' (l.drop (i + 1)) (i + 1)) := by
        show _ = _
        rw [hlq, hf]
       have HQ7 := hide (HQ.out i x k k' HQI.out HX.out hf)
       clear hf hlq hf7 hk7 hs7 HS5 HXR HEV HRG HXR4 c26 f26 r19
       go_wp2_with fail
       go_roundg (n - (i + 1))
       case rel => exact ⟨i + 1, k', vf', vp', vd', by go_num, by omega, by omega, HQ7.out, HR7.out, HS7.out⟩
       case measure => omega
     | false =>
      have c26 := hs4.kn.blk.cell 26
      have f26 := hs4.kn.blk.frozen 26
      have r19 := HXR4.out.cell 19
      simp only [knC, rwC, htl, ZG, ZH, ZJ] at c26 r19
      have htk : (knC k vf vp vd).setIfInBounds 26 (.bool false) = knC (tellK k x) vf vp vd := by simp [knC, tellK, htl]
      have hs5 := hs4.put (k' := tellK k x) 26 (.bool false) htk rfl rfl rfl
      have HS5 := hide hs5
      have HXR := hide (HXR4.out.far (p := ⟨b, 26, none⟩) (blk_ne HXR4.out hs4.kn.blk (by decide)) (.bool false))
      have HEV := hide ((HE.out x (List.mem_of_getElem? HX.out)).1.later hs5.bl.bl)
      have HRG := hide ((HE.out x (List.mem_of_getElem? HX.out)).2.later hs5.bl.bl)
      clear hs5 htk hs4
      go_wp2_with (refine wpList_load_row rfl 36 (.tmp 10) rfl X rfl 36 (rwC x.r) (0, 0) _ HXR.out Try.underlying36 rfl row_size ?_)
      with_reducible refine (HROW.out i x k b _ vf vp vd HQI.out HX.out HS5.out.kn HEV.out HRG.out).mono ?_
      cases hf : f (tellK k x) x with
      | error m =>
       rintro y7 W7 ⟨rfl, hf7⟩
       have hm := HPOS.out i x k m HQI.out HX.out hf
       have HR7 : Hid (res = ((i : Int), m)) := by
        show _ = _
        rw [hlq, hf]
       have hfd7 : Blk W7 F 38 #[ZI ZQ 0, ZI ZQ 0] := hf7.kept HS5.out.fd (by decide) (by decide) (by decide) (by decide)
       have HB7 := hide (HS5.out.bl.trans hf7).bl
       have e0 := hfd7.cell 0
       have e1 := hfd7.cell 1
       have g0 := hfd7.frozen 0
       have g1 := hfd7.frozen 1
       simp only [ZG, ZH, ZJ] at e0 e1
       have z0 := ((hfd7.set 0 (ZI ZQ (i : Int))).set 1 (ZI ZQ m)).cell 0
       have z1 := ((hfd7.set 0 (ZI ZQ (i : Int))).set 1 (ZI ZQ m)).cell 1
       have Z := hide (And.intro z0 z1)
       obtain ⟨m0, m1⟩ := hm
       clear hf hlq hf7 hfd7 HS5 HXR HEV HRG HXR4 z0 z1 c26 f26 r19
       go_wp2_with fail
       obtain ⟨z0, z1⟩ := Z.out
       simp at z0 z1
       have hfin : Below w.heap.size w ((W7.setCell ⟨F, 0, none⟩ (ZI ZQ (i : Int))).setCell ⟨F, 1, none⟩ (ZI ZQ m)) := (HB7.out.setCell (p := ⟨F, 0, none⟩) HFW.out _).setCell (p := ⟨F, 1, none⟩) HFW.out _
       exact bodyPost_ret (v := .tuple #[.agg #[ZI ZQ (i : Int), ZI ZQ m], ZI ZQ 0]) (by simp [results, Try.results7, go_sem, z0, z1]) rfl ⟨by rw [HR7.out], hfin⟩
      | ok k' =>
       rintro y7 W7 ⟨rfl, vf', vp', vd', hk7, hf7⟩
       have hs7 := HS5.out.far hf7 hk7
       have HS7 := hide hs7
       have HR7 : Hid (res = lookP f k' (l.drop (i + 1)) (i + 1)) := by
        show _ = _
        rw [hlq, hf]
       have HQ7 := hide (HQ.out i x k k' HQI.out HX.out hf)
       clear hf hlq hf7 hk7 hs7 HS5 HXR HEV HRG HXR4 c26 f26 r19
       go_wp2_with fail
       go_roundg (n - (i + 1))
       case rel => exact ⟨i + 1, k', vf', vp', vd', by go_num, by omega, by omega, HQ7.out, HR7.out, HS7.out⟩
       case measure => omega
    ·obtain rfl : n = i := by omega
     have hin : ¬ (n : Int) < (n : Int) := by omega
     have HR7 : Hid (res = (-1, 0)) := by
      show _ = _
      rw [show res = lookP f k (l.drop n) n from hlq0, List.drop_of_length_le (by rw [HN.out]; exact Nat.le_refl _)]
      rfl
     have e0 := hs.fd.cell 0
     have e1 := hs.fd.cell 1
     have g0 := hs.fd.frozen 0
     have g1 := hs.fd.frozen 1
     simp only [ZG, ZH, ZJ] at e0 e1
     have z0 := ((hs.fd.set 0 (ZI ZQ (-1))).set 1 (ZI ZQ 0)).cell 0
     have z1 := ((hs.fd.set 0 (ZI ZQ (-1))).set 1 (ZI ZQ 0)).cell 1
     have Z := hide (And.intro z0 z1)
     have HB7 := hide hs.bl.bl
     clear hlq0 hs z0 z1
     go_wp2_with fail
     obtain ⟨z0, z1⟩ := Z.out
     simp at z0 z1
     have hfin : Below w.heap.size w ((wr.setCell ⟨F, 0, none⟩ (ZI ZQ (-1))).setCell ⟨F, 1, none⟩ (ZI ZQ 0)) := (HB7.out.setCell (p := ⟨F, 0, none⟩) HFW.out _).setCell (p := ⟨F, 1, none⟩) HFW.out _
     exact bodyPost_ret (v := .tuple #[.agg #[ZI ZQ (-1), ZI ZQ 0], ZI ZQ 0]) (by simp [results, Try.results7, go_sem, z0, z1]) rfl ⟨by rw [HR7.out], hfin⟩
end Go.Proofs.Ytidfngcclbhoaaa
