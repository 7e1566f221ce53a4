/-
 Layer 24 (judge): row: what lies while it goes; what it recovers.
-/
import Derived.Test.YtidfngcclbhoaaaJgEvent
import Derived.Defers
import Derived.Recover
import Derived.Tactics2
import Derived.Laws.Pointers
import Derived.StillTail
namespace Go.Proofs.Ytidfngcclbhoaaa
open List renaming getElem?_toArray → ZG, getElem?_cons_zero → ZH
set_option linter.unusedSimpArgs false
set_option linter.unusedVariables false
open Go.RowKit Go.Shelf
/-- What lies while a row is gone through. -/
structure RowSt (w W : World) (b base : Nat) (k : KN) (vf vp vd : Value) (R : Nat) (r : RW) (es : List EVJ) (rs : List RGJ) : Prop where
 kn : KnAt W b base k vf vp vd
 row : Blk W R 36 (rwC r)
 res : Blk W (R + 1) 3 #[.int .i64 0]
 rg : LieAt rgL 2 W base r.ra rs
 ev : LieAt evL 4 W base r.ea es
 bl : Far base w W
theorem RowSt.ge {w W : World} {b base : Nat} {k : KN} {vf vp vd : Value} {R : Nat} {r : RW} {es : List EVJ} {rs : List RGJ} (h : RowSt w W b base k vf vp vd R r es rs) : base ≤ W.heap.size := Nat.le_of_lt (Nat.lt_of_le_of_lt h.kn.ge h.kn.blk.lt)
theorem RowSt.far {w W W' : World} {b base : Nat} {k k' : KN} {vf vp vd vf' vp' vd' : Value} {R : Nat} {r : RW} {es : List EVJ} {rs : List RGJ} (h : RowSt w W b base k vf vp vd R r es rs) (hf : Far base W W') (hk : KnAt W' b base k' vf' vp' vd') : RowSt w W' b base k' vf' vp' vd' R r es rs :=
 ⟨hk, hf.kept h.row (by decide) (by decide) (by decide) (by decide), hf.kept h.res (by decide) (by decide) (by decide) (by decide), h.rg.later hf.bl, h.ev.later hf.bl, h.bl.trans hf⟩
theorem RowSt.later {w W W' : World} {b base : Nat} {k : KN} {vf vp vd : Value} {R : Nat} {r : RW} {es : List EVJ} {rs : List RGJ} (h : RowSt w W b base k vf vp vd R r es rs) (hb : Below W.heap.size W W') : RowSt w W' b base k vf vp vd R r es rs :=
 h.far (Far.of_below hb h.ge) (h.kn.later hb)
theorem RowSt.put {w W : World} {b base : Nat} {k k' : KN} {vf vp vd : Value} {R : Nat} {r : RW} {es : List EVJ} {rs : List RGJ} (h : RowSt w W b base k vf vp vd R r es rs) (i : Nat) (u : Value) (hc : (knC k vf vp vd).setIfInBounds i u = knC k' vf vp vd) (hf : k'.flying = k.flying) (hp : k'.pieces = k.pieces) (hd : k'.paced = k.paced) :
  RowSt w (W.setCell ⟨b, i, none⟩ u) b base k' vf vp vd R r es rs := h.far (Far.refl.set h.kn.blk h.kn.ge i u) (h.kn.put i u k' hc hf hp hd)
theorem pie_info : (Try.prog.info? 53).map (fun i => (i.zero, i.size, i.bytes)) = some (some (.agg #[.int .i64 0, .int .i64 0, .int .i64 0]), 3, 24) := by kernel_rfl
theorem RowSt.pushPiece {w W w8 : World} {b base : Nat} {k : KN} {vf vp vd v8 : Value} {R : Nat} {r : RW} {es : List EVJ} {rs : List RGJ} {p : PIE} {X : Obj} (h : RowSt w W b base k vf vp vd R r es rs) (hg : (W.alloc X).grownBy w8 vp.ownBlock)
  (hown : w8.ownsRow base 53 3 v8 (k.pieces ++ [p]).length ((k.pieces ++ [p]).flatMap pieL)) : RowSt w (w8.setCell ⟨b, 27, none⟩ v8) b base { k with pieces := k.pieces ++ [p] } vf v8 vd R r es rs := by
 have hb8 := blk_grown (h.kn.blk.alloc X) hg (own_ne h.kn.pc h.kn.blk (by decide))
 have hfl := own_kept (own_alloc h.kn.fl X) hg (own_two h.kn.fl h.kn.pc (by decide))
 have hpd := own_kept (own_alloc h.kn.pd X) hg (own_two h.kn.pd h.kn.pc (by decide))
 have hf1 : Far base W w8 := Far.grown (Far.of_below ((Below.refl _ _).alloc (Nat.le_refl _) X) h.ge) (own_alloc h.kn.pc X) (.inr (.inl rfl)) hg (by have := h.ge; simp; omega)
 refine h.far (hf1.set hb8 h.kn.ge 27 v8) ⟨(hb8.set 27 v8).eq rfl, own_far hfl ?_ _, own_far hown ?_ _, own_far hpd ?_ _, h.kn.ge⟩
 ·exact own_ne hfl hb8 (by decide)
 ·exact own_ne hown hb8 (by decide)
 ·exact own_ne hpd hb8 (by decide)
set_option maxRecDepth 100000 in
set_option maxHeartbeats 2000000 in
theorem catch_int (r : Nat) (n : Int) (w : World) (h0 : Blk w r 3 #[.int .i64 0]) :
  CallsD Try.prog 21 #[.pointer (some ⟨r, 0, none⟩)] (.panicking ({ v := .iface 3 (.int .i64 n), recovered := false } :: [])) w fun x u' w' =>
   x = .returned (.tuple #[]) ∧ u' = .panicking ({ v := .iface 3 (.int .i64 n), recovered := true } :: []) ∧ w' = w.setCell ⟨r, 0, none⟩ (.int .i64 n) := by
 refine callsD_of_wpS Try.func21 rfl fun c₀ cs hu => ?_
 apply wpS_seq
 apply wpS_region
 simp [wpOpsS, go_sem, recoverD, hu, Try.ntmps21, Exit.thenS]
 have hta : ∀ (v : Value) (w : World), (Instr.typeAssert (.iface 3 v) 20 3 true).run Try.prog w = .ok (.tuple #[v, .bool true]) w := fun _ _ => rfl
 refine wpS_of_wp ?_
 simp [Array.replicate]
 have x0 := h0.cell 0
 have f0 := h0.frozen 0
 simp only [ZG, ZH] at x0
 go_wp2_with fail
 exact ⟨rfl, _, rfl, _, by simp [results, Try.results21, go_sem], rfl, rfl, rfl⟩
theorem catch_nil (r : Nat) (w : World) :
  CallsD Try.prog 21 #[.pointer (some ⟨r, 0, none⟩)] .returning w fun x u' w' => x = .returned (.tuple #[]) ∧ u' = .returning ∧ w' = w := by
 refine callsD_of_wpS Try.func21 rfl fun c₀ cs hu => ?_
 apply wpS_seq
 apply wpS_region
 simp [wpOpsS, go_sem, recoverD, hu, Try.ntmps21, Exit.thenS]
 refine wpS_of_wp ?_
 simp [Array.replicate]
 go_wp2_with fail
 cases c₀
 simp_all [bodyPostS, results, Try.results21]
/-- What a row leaves: what is known then, or the rule that it breaks. -/
def RowPost (b base : Nat) (w : World) (res : Except Int KN) (e : Ending) (w' : World) : Prop :=
 match res with
 | .ok k' => e = .returned (.int .i64 0) ∧ ∃ vf vp vd, KnAt w' b base k' vf vp vd ∧ Far base w w'
 | .error n => e = .returned (.int .i64 n) ∧ Far base w w'
theorem RowPost.ok {b base : Nat} {w w' : World} {res : Except Int KN} {k' : KN} {vf vp vd : Value} (h : res = .ok k') (hk : KnAt w' b base k' vf vp vd) (hb : Far base w w') : RowPost b base w res (.returned (.int .i64 0)) w' := by
 subst h
 exact ⟨rfl, _, _, _, hk, hb⟩
theorem RowPost.err {b base : Nat} {w w' : World} {res : Except Int KN} {n : Int} (h : res = .error n) (hb : Far base w w') : RowPost b base w res (.returned (.int .i64 n)) w' := by
 subst h
 exact ⟨rfl, hb⟩
/-- The events, one behind the other. -/
def eventsP (r : RW) (rs : List RGJ) : KN → List EVJ → Except Int KN
 | k, [] => .ok k
 | k, e :: es => match eventP k r rs e with
  | .ok k' => eventsP r rs k' es
  | .error n => .error n
def pieceK (k : KN) (r : RW) : KN := if timedB r then { k with pieces := k.pieces ++ [(⟨r.t, k.window, r.smooth⟩ : PIE)] } else k
/-- What a row does that is not refused, when its step has been done. -/
def goesP (r : RW) (rs : List RGJ) (es : List EVJ) : Except Int KN → Except Int KN
 | .error n => .error n
 | .ok k => match eventsP r rs k es with
  | .ok k' => .ok (pieceK k' r)
  | .error n => .error n
/-- The end of a row that throws. -/
theorem row_throws {b base R : Nat} {t : Array Value} {w W : World} {res : Except Int KN} {n : Int} (ht : t[4]? = some (.pointer (some ⟨R + 1, 0, none⟩))) (h : Blk W (R + 1) 3 #[.int .i64 0]) (hbl : Far base w W) (hge : w.heap.size ≤ R) (hbw : base ≤ w.heap.size) (hr : res = .error n) :
  Leaves Try.prog Try.f15 t (RowPost b base w res) [{ target := .fn (.func 21) #[.pointer (some ⟨R + 1, 0, none⟩)], args := #[] }] (.panicking [{ v := .iface 3 (.int .i64 n), recovered := false }]) W := by
 refine leaves_cons (f := 21) (args := #[.pointer (some ⟨R + 1, 0, none⟩)]) (by simp) (by simp [go_sem]) ?_
 refine (catch_int (R + 1) n W h).mono ?_
 rintro e6 u6 w6 ⟨rfl, rfl, rfl⟩
 have z0 := (h.set 0 (.int .i64 n)).cell 0
 simp at z0
 simp [Leaves, settle, results, Try.results15, go_sem, ht, z0]
 refine RowPost.err hr ⟨hbl.bl.setCell (p := ⟨R + 1, 0, none⟩) (by show base ≤ R + 1; omega) _, fun hg a1 a2 a3 a4 => (hbl.kept hg a1 a2 a3 a4).far (p := ⟨R + 1, 0, none⟩) (by have := hg.lt; simp; omega) _⟩
end Go.Proofs.Ytidfngcclbhoaaa
