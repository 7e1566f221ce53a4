/-
 Layer 24 (judge): timed, place; event: its walk (acked).
-/
import Derived.Test.YtidfngcclbhoaaaJgIdx
namespace Go.Proofs.Ytidfngcclbhoaaa
open List renaming getElem?_toArray → ZG, getElem?_cons_zero → ZH, getElem?_cons_succ → ZJ
open Go.Act renaming put → ZP
open Go.Value renaming int → ZI
open Go.IntKind renaming i64 → ZQ
set_option linter.unusedSimpArgs false
set_option linter.unusedVariables false
open Go.RowKit Go.Shelf
theorem blind_then {K : Act → World → Prop} {Q : Exit → Act → World → Prop} (hQ : ∀ c a d v w, Q (.panic c) (ZP a d v) w → Q (.panic c) a w) : ∀ c a d v w, Exit.then K Q (.panic c) (ZP a d v) w → Exit.then K Q (.panic c) a w := hQ
theorem blind_block {n : Nat} {Q : Exit → Act → World → Prop} (hQ : ∀ c a d v w, Q (.panic c) (ZP a d v) w → Q (.panic c) a w) : ∀ c a d v w, Exit.inBlock n Q (.panic c) (ZP a d v) w → Exit.inBlock n Q (.panic c) a w := hQ
theorem blind_body {P : Program} {fn : Func} {R : Ending → World → Prop} : ∀ c a d v w, bodyPost P fn R (.panic c) (ZP a d v) w → bodyPost P fn R (.panic c) a w := fun c a d v w h => by
 cases d with
 | none => exact h
 | some d => exact h
theorem row_size : (Try.prog.info? 36).map (·.size) = some 20 := by kernel_rfl
theorem blA {K : Act → World → Prop} {P : Program} {fn : Func} {R : Ending → World → Prop} {d : Option Tmp} {v : Value} : ∀ c a w, Exit.then K (bodyPost P fn R) (.panic c) (Act.put a d v) w → Exit.then K (bodyPost P fn R) (.panic c) a w := fun c a w h => blind_then blind_body c a _ _ w h
theorem blB {K : Act → World → Prop} {n : Nat} {P : Program} {fn : Func} {R : Ending → World → Prop} {d : Option Tmp} {v : Value} : ∀ c a w, Exit.then K (Exit.inBlock n (bodyPost P fn R)) (.panic c) (Act.put a d v) w → Exit.then K (Exit.inBlock n (bodyPost P fn R)) (.panic c) a w := fun c a w h => blind_then (blind_block blind_body) c a _ _ w h
def timedB (r : RW) : Bool := r.kind == 2 || r.kind == 4
set_option maxHeartbeats 1000000 in
theorem timed_any (r : RW) (w : World) : Calls Try.prog 33 #[.agg (rwC r)] w fun e w' => e = .returned (.bool (timedB r)) ∧ Below w.heap.size w w' := by
 obtain ⟨kind, rt, rsp, rsize, ⟨osp, onum, osize, oel, ofl, opr, oect⟩, delay, ra, rn, rc, marked, e0, e1, e2, ea, en, ec, err, smooth⟩ := r
 cases h2 : (kind == 2) with
 | true =>
  go_enter Try.func33, Try.ntmps33
  unfold rwC
  go_wp2_with fail
  go_ret
  exact ⟨by simp [timedB, h2], (Below.refl _ _).alloc (Nat.le_refl _) _⟩
 | false =>
  cases h4 : (kind == 4)
  all_goals
   go_enter Try.func33, Try.ntmps33
   unfold rwC
   go_wp2_with fail
   go_ret
   exact ⟨by simp [timedB, h2, h4], (Below.refl _ _).alloc (Nat.le_refl _) _⟩
set_option maxRecDepth 100000 in
set_option maxHeartbeats 2000000 in
theorem place_any (b base : Nat) (k : KN) (vf vp vd : Value) (e : EVJ) (w : World) (hK : KnAt w b base k vf vp vd) (hfn : k.flying.length ≤ 2000) :
  Calls Try.prog 60 #[.pointer (some ⟨b, 0, none⟩), .agg #[ZI ZQ e.kind, ZI ZQ e.sp, ZI ZQ e.num, ZI ZQ e.n]] w fun e' w' => e' = .returned (ZI ZQ (idxF (atP e) k.flying 0)) ∧ Below w.heap.size w w' := by
 obtain ⟨A, c, rfl⟩ := own_sl hK.fl
 have hb0 : Below w.heap.size w (w.alloc (.cells #[ZI ZQ e.kind, ZI ZQ e.sp, ZI ZQ e.num, ZI ZQ e.n] 46)) := (Below.refl _ _).alloc (Nat.le_refl _) _
 have hX : Blk (w.alloc (.cells #[ZI ZQ e.kind, ZI ZQ e.sp, ZI ZQ e.num, ZI ZQ e.n] 46)) w.heap.size 46 #[ZI ZQ e.kind, ZI ZQ e.sp, ZI ZQ e.num, ZI ZQ e.n] := Blk.new _ _ _
 have hK1 := hK.later hb0
 have H := hide (idx_pkt e w.heap.size A k.flying.length c k.flying _ rfl hfn (lie_own pktL_length hK1.fl rfl) (hX.cell 1) (hX.cell 2) (hX.cell 3))
 have q16 := hK1.blk.cell 16
 have HB0 := hide hb0
 simp only [knC, ZG, ZH, ZJ] at q16
 clear hb0 hX hK1 hK
 obtain ⟨ek, es, en, ee⟩ := e
 simp only at H HB0 q16 ⊢
 go_enter Try.func60, Try.ntmps60
 go_wp2_with fail
 with_reducible refine H.out.mono ?_
 rintro e1 w1 ⟨rfl, hb⟩
 go_wp2_with fail
 go_ret
 exact ⟨rfl, HB0.out.trans (hb.mono HB0.out.size)⟩
/-- What an event does: what is known then, or the rule that it breaks. -/
def goneK (k : KN) (i : Nat) : KN := { k with flying := k.flying.eraseIdx i }
def eventP (k : KN) (r : RW) (rs : List RGJ) (e : EVJ) : Except Int KN :=
 if e.kind = 1 then
  if r.kind == 2 && e.sp == r.sp && decide (0 ≤ idxF (atP e) k.flying 0) && rs.any (inR e.num) then .ok (goneK k (idxF (atP e) k.flying 0).toNat) else .error 9
 else if e.kind = 2 then
  if timedB r && (r.kind != 2 || e.sp == r.sp) && decide (0 ≤ idxF (atP e) k.flying 0) then
   if decide (e.num ≤ k.top e.sp.toNat - 3) || (decide (e.num < k.top e.sp.toNat) && decide (1000000 ≤ r.t - ((k.flying[(idxF (atP e) k.flying 0).toNat]?).map PKT.t).getD 0)) then .ok (goneK k (idxF (atP e) k.flying 0).toNat) else .error 10
  else .error 10
 else if e.kind = 3 then
  if r.kind == 4 && (decide (0 ≤ e.sp) && decide (e.sp < 3)) && (e.n == 1 || e.n == 2) then .ok { k with own := fun j => if j = e.sp.toNat then e.n else k.own j } else .error 11
 else if e.kind = 5 then
  if timedB r then .ok k else .error 11
 else if e.kind = 4 then
  if timedB r && decide (2 * k.c.d ≤ e.n) && decide (e.n ≤ k.c.most) && e.n != k.window then .ok { k with window := e.n } else .error 11
 else .error 11
/-- What lies while an event is looked at. -/
structure EvSt (w W : World) (b base : Nat) (k : KN) (vf vp vd : Value) (R X : Nat) (r : RW) (e : EVJ) (rs : List RGJ) : Prop where
 kn : KnAt W b base k vf vp vd
 row : Blk W R 36 (rwC r)
 ev : Blk W X 46 #[ZI ZQ e.kind, ZI ZQ e.sp, ZI ZQ e.num, ZI ZQ e.n]
 rg : LieAt rgL 2 W base r.ra rs
 bl : Far base w W
theorem EvSt.later {w W W' : World} {b base : Nat} {k : KN} {vf vp vd : Value} {R X : Nat} {r : RW} {e : EVJ} {rs : List RGJ} (h : EvSt w W b base k vf vp vd R X r e rs) (hb : Below W.heap.size W W') : EvSt w W' b base k vf vp vd R X r e rs :=
 have hm := hb.mono (Nat.le_of_lt (Nat.lt_of_le_of_lt h.kn.ge h.kn.blk.lt))
 ⟨h.kn.later hb, (hb.block _ h.row.lt).trans h.row, (hb.block _ h.ev.lt).trans h.ev, h.rg.later hm, h.bl.later hb (Nat.le_of_lt (Nat.lt_of_le_of_lt h.kn.ge h.kn.blk.lt))⟩
/-- One flying packet less. -/
theorem KnAt.gone {W W2 : World} {b base n m cap g i : Nat} {k : KN} {vp vd : Value} (h : KnAt W b base k (.slice (some ⟨g, 0, none⟩) n cap) vp vd) (hg : base ≤ g) {cs : Array Value} (hP : Blk W g 106 cs) (hm : (k.flying.eraseIdx i).length = m)
  (hown : W2.ownsRow base 106 8 (.slice (some ⟨g, 0, none⟩) m cap) m ((k.flying.eraseIdx i).flatMap pktL)) (hO : Only [g] W W2) :
  KnAt (W2.setCell ⟨b, 16, none⟩ (.slice (some ⟨g, 0, none⟩) m cap)) b base (goneK k i) (.slice (some ⟨g, 0, none⟩) m cap) vp vd ∧ Far base W (W2.setCell ⟨b, 16, none⟩ (.slice (some ⟨g, 0, none⟩) m cap)) := by
 have hgb : b ≠ g := fun e => own_ne h.fl h.blk (by decide) (by rw [e]; rfl)
 have hb2 : Blk W2 b 58 (knC k (.slice (some ⟨g, 0, none⟩) n cap) vp vd) := hO.blk h.blk (by simpa using hgb)
 have keep : ∀ {e s q : Nat} {v : Value} {xs : List Value}, W.ownsRow base e s v q xs → e ≠ 106 → W2.ownsRow base e s v q xs := by
  intro e s q v xs ho hne
  refine ⟨ho.1, ?_⟩
  rcases ho.2 with h0 | ⟨g1, cap1, cur, hv, hg', hh, rr⟩
  ·exact .inl h0
  ·refine .inr ⟨g1, cap1, cur, hv, hg', (hO.block g1 (Blk.lt hh) ?_).trans hh, rr⟩
   intro hc
   rw [List.mem_singleton] at hc
   exact own_ne h.fl hh (fun x => hne x.symm) (by rw [hc]; rfl)
 have hbb : base ≤ W.heap.size := Nat.le_of_lt (Nat.lt_of_le_of_lt h.ge h.blk.lt)
 refine ⟨⟨(hb2.set 16 _).eq rfl, ?_, ?_, ?_, h.ge⟩, ?_⟩
 ·show World.ownsRow _ _ _ _ _ (k.flying.eraseIdx i).length _
  rw [hm]
  exact own_far hown (own_ne hown hb2 (by decide)) _
 ·exact own_far (keep h.pc (by decide)) (own_ne (keep h.pc (by decide)) hb2 (by decide)) _
 ·exact own_far (keep h.pd (by decide)) (own_ne (keep h.pd (by decide)) hb2 (by decide)) _
 ·exact (Far.only Far.refl hg hP hO hbb).set hb2 h.ge _ _
end Go.Proofs.Ytidfngcclbhoaaa
