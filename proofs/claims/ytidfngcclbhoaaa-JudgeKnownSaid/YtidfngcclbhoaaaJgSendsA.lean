/-
 Layer 24 (judge): what lies while a packet is looked at.
-/
import Derived.Test.YtidfngcclbhoaaaJgUnless
namespace Go.Proofs.Ytidfngcclbhoaaa
open Go.Value renaming int → ZI
open Go.IntKind renaming i64 → ZQ
set_option linter.unusedSimpArgs false
set_option linter.unusedVariables false
open Go.RowKit Go.Shelf
theorem pcd_info : (Try.prog.info? 104).map (fun i => (i.zero, i.size, i.bytes)) = some (some (.agg #[ZI ZQ 0, ZI ZQ 0]), 2, 16) := by kernel_rfl
theorem pkt_info : (Try.prog.info? 106).map (fun i => (i.zero, i.size, i.bytes)) = some (some (.agg #[ZI ZQ 0, ZI ZQ 0, ZI ZQ 0, .bool false, .bool false, .bool false, .bool false, ZI ZQ 0]), 8, 40) := by kernel_rfl
/-- What a packet that may go leaves. -/
def sentK (k : KN) (o : OUT) (t : Int) : KN := { k with paced := k.paced ++ [(⟨t, o.size⟩ : PCD)], flying := k.flying ++ [(⟨o, t⟩ : PKT)], last := fun j => if j = o.sp.toNat then o.num else k.last j, sent := addI k.sent o.size }
theorem quiet24 {P : Program} {f : FuncId} {args : Array Value} {w : World} {n : Nat} {v : Value}
  (h : Calls P f args (w.drewN n) fun e w' => e = .returned v ∧ w.drewN n = w') : Calls P f args (w.drewN n) fun e w'' => e = .returned v ∧ ∃ m, w'' = w.drewN m :=
 h.mono fun _ _ ⟨he, hm⟩ => ⟨he, n, hm.symm⟩
theorem blk_ne {w : World} {g h t u : Nat} {cs ds : Array Value} (a : Blk w g t cs) (b : Blk w h u ds) (hne : t ≠ u) : g ≠ h := by
 intro e
 subst e
 unfold Blk at a b
 rw [a] at b
 injection b with b
 injection b with _ b2
 exact hne b2
/-- Below a block nothing has turned; nor has any block that is not of what is known. -/
structure Far (B : Nat) (w W : World) : Prop where
 bl : Below B w W
 kept : ∀ {g t : Nat} {cs : Array Value}, Blk w g t cs → t ≠ 58 → t ≠ 106 → t ≠ 53 → t ≠ 104 → Blk W g t cs
theorem Far.of_below {B : Nat} {w W : World} (hb : Below w.heap.size w W) (hB : B ≤ w.heap.size) : Far B w W := ⟨hb.mono hB, fun h _ _ _ _ => (hb.block _ h.lt).trans h⟩
theorem Far.refl {B : Nat} {w : World} : Far B w w := ⟨Below.refl _ _, fun h _ _ _ _ => h⟩
theorem Far.trans {B : Nat} {w W W' : World} (h : Far B w W) (k : Far B W W') : Far B w W' := ⟨h.bl.trans k.bl, fun hg a b c d => k.kept (h.kept hg a b c d) a b c d⟩
theorem Far.later {B : Nat} {w W W' : World} (h : Far B w W) (hb : Below W.heap.size W W') (hB : B ≤ W.heap.size) : Far B w W' := h.trans (Far.of_below hb hB)
theorem Far.set {B b : Nat} {cs : Array Value} {w W : World} (h : Far B w W) (hb : Blk W b 58 cs) (hge : B ≤ b) (i : Nat) (u : Value) : Far B w (W.setCell ⟨b, i, none⟩ u) :=
 ⟨h.bl.setCell (p := ⟨b, i, none⟩) hge u, fun hg a1 a2 a3 a4 => (h.kept hg a1 a2 a3 a4).far (p := ⟨b, i, none⟩) (blk_ne (h.kept hg a1 a2 a3 a4) hb a1) u⟩
theorem Far.grown {B e s n : Nat} {v : Value} {xs : List Value} {w W W' : World} (h : Far B w W) (ho : W.ownsRow B e s v n xs) (he : e = 106 ∨ e = 53 ∨ e = 104) (hg : W.grownBy W' v.ownBlock) (hB : B ≤ W.heap.size) : Far B w W' :=
 ⟨Below.grown h.bl hg hB (fun g e => (ho.lt g e).1), fun hb a1 a2 a3 a4 => blk_grown (h.kept hb a1 a2 a3 a4) hg (own_ne ho (h.kept hb a1 a2 a3 a4) (by rcases he with rfl | rfl | rfl <;> (intro e; subst e; contradiction)))⟩
theorem Far.only {B g : Nat} {cs : Array Value} {w W W' : World} (h : Far B w W) (hg : B ≤ g) (hb : Blk W g 106 cs) (hO : Only [g] W W') (hB : B ≤ W.heap.size) : Far B w W' :=
 ⟨h.bl.trans (hO.below (B := B) (by intro x hx; rw [List.mem_singleton] at hx; omega) hB), fun hk a1 a2 a3 a4 => hO.blk (h.kept hk a1 a2 a3 a4) (by intro hc; rw [List.mem_singleton] at hc; exact blk_ne (h.kept hk a1 a2 a3 a4) hb a2 hc)⟩
/-- What lies while a packet is looked at: what is known, the row, the packet. -/
structure SnSt (w W : World) (b base : Nat) (k : KN) (vf vp vd : Value) (R O : Nat) (rw_ : Array Value) (o : OUT) : Prop where
 kn : KnAt W b base k vf vp vd
 row : Blk W R 36 rw_
 out : Blk W O 28 (outL o).toArray
 bl : Far base w W
theorem SnSt.later {w W W' : World} {b base : Nat} {k : KN} {vf vp vd : Value} {R O : Nat} {rw_ : Array Value} {o : OUT} (h : SnSt w W b base k vf vp vd R O rw_ o) (hb : Below W.heap.size W W') : SnSt w W' b base k vf vp vd R O rw_ o :=
 ⟨h.kn.later hb, (hb.block _ h.row.lt).trans h.row, (hb.block _ h.out.lt).trans h.out, h.bl.later hb (Nat.le_of_lt (Nat.lt_of_le_of_lt h.kn.ge h.kn.blk.lt))⟩
theorem SnSt.drewN {w W : World} {b base : Nat} {k : KN} {vf vp vd : Value} {R O : Nat} {rw_ : Array Value} {o : OUT} (h : SnSt w W b base k vf vp vd R O rw_ o) (n : Nat) : SnSt w (W.drewN n) b base k vf vp vd R O rw_ o := h.later (below_drewN (Below.refl _ _) n)
theorem SnSt.drew {w W : World} {b base : Nat} {k : KN} {vf vp vd : Value} {R O : Nat} {rw_ : Array Value} {o : OUT} (h : SnSt w W b base k vf vp vd R O rw_ o) : SnSt w W.drew b base k vf vp vd R O rw_ o := h.drewN 1
theorem SnCells5 {w W : World} {b base : Nat} {k : KN} {vf vp vd : Value} {R O : Nat} {rw_ : Array Value} {o : OUT} (h : SnSt w W b base k vf vp vd R O rw_ o) : W.cell? ⟨O, 2, none⟩ = some (ZI ZQ o.size) ∧ W.cell? ⟨b, 11, none⟩ = some (ZI ZQ k.window) := ⟨h.out.cell 2, h.kn.blk.cell 11⟩
theorem SnCells9 {w W : World} {b base : Nat} {k : KN} {vf vp vd : Value} {R O : Nat} {kind rt rsp rsize osp onum osize delay e0 e1 e2 err smooth : Int} {oel ofl opr oect marked : Bool} {va ve : Value} {o : OUT}
  (h : SnSt w W b base k vf vp vd R O #[ZI ZQ kind, ZI ZQ rt, ZI ZQ rsp, ZI ZQ rsize, ZI ZQ osp, ZI ZQ onum, ZI ZQ osize, .bool oel, .bool ofl, .bool opr, .bool oect, ZI ZQ delay, va, .bool marked, ZI ZQ e0, ZI ZQ e1, ZI ZQ e2, ve, ZI ZQ err, ZI ZQ smooth] o) : W.cell? ⟨R, 1, none⟩ = some (ZI ZQ rt) ∧ W.cell? ⟨O, 2, none⟩ = some (ZI ZQ o.size) := ⟨h.row.cell 1, h.out.cell 2⟩
theorem own_kept {w w' : World} {base e size n : Nat} {v : Value} {xs : List Value} {row : Option Nat} (h : w.ownsRow base e size v n xs) (hg : w.grownBy w' row) (hne : ∀ g, v.ownBlock = some g → some g ≠ row) : w'.ownsRow base e size v n xs := by
 refine ⟨h.1, ?_⟩
 rcases h.2 with h0 | ⟨g, cap, cur, hv, hg', hh, r⟩
 ·exact .inl h0
 ·exact .inr ⟨g, cap, cur, hv, hg', (hg.block g (Blk.lt hh) (hne g (by rw [hv]; rfl))).trans hh, r⟩
theorem own_two {w : World} {base base' e e' size size' n n' : Nat} {v v' : Value} {xs xs' : List Value} (h : w.ownsRow base e size v n xs) (h' : w.ownsRow base' e' size' v' n' xs') (hne : e' ≠ e) : ∀ g, v.ownBlock = some g → some g ≠ v'.ownBlock := by
 intro g hg
 rcases h.2 with ⟨h0, _⟩ | ⟨g1, cap, cur, hv, _, hh, _⟩
 ·rw [h0] at hg
  cases hg
 ·rw [hv] at hg
  cases hg
  exact own_ne h' hh hne
theorem own_alloc {w : World} {base e size n : Nat} {v : Value} {xs : List Value} (h : w.ownsRow base e size v n xs) (o : Obj) : (w.alloc o).ownsRow base e size v n xs := own_below h ((Below.refl _ _).alloc (Nat.le_refl _) o)
/-- What is known when a packet that went by the pacer is noted. -/
def pacedK (k : KN) (t size : Int) : KN := { k with paced := k.paced ++ [(⟨t, size⟩ : PCD)] }
theorem SnSt.pushPaced {w W w8 : World} {b base : Nat} {k : KN} {vf vp vd v8 : Value} {R O : Nat} {rw_ : Array Value} {o : OUT} {t size : Int} {X : Obj} (h : SnSt w W b base k vf vp vd R O rw_ o) (hg : (W.alloc X).grownBy w8 vd.ownBlock)
  (hown : w8.ownsRow base 104 2 v8 (k.paced ++ [(⟨t, size⟩ : PCD)]).length ((k.paced ++ [(⟨t, size⟩ : PCD)]).flatMap pcdL)) : SnSt w (w8.setCell ⟨b, 28, none⟩ v8) b base (pacedK k t size) vf vp v8 R O rw_ o := by
 have hbb : base ≤ W.heap.size := Nat.le_of_lt (Nat.lt_of_le_of_lt h.kn.ge h.kn.blk.lt)
 have hb8 := blk_grown (h.kn.blk.alloc X) hg (own_ne h.kn.pd h.kn.blk (by decide))
 have hr8 := blk_grown (h.row.alloc X) hg (own_ne h.kn.pd h.row (by decide))
 have ho8 := blk_grown (h.out.alloc X) hg (own_ne h.kn.pd h.out (by decide))
 have hfl := own_kept (own_alloc h.kn.fl X) hg (own_two h.kn.fl h.kn.pd (by decide))
 have hpc := own_kept (own_alloc h.kn.pc X) hg (own_two h.kn.pc h.kn.pd (by decide))
 refine ⟨⟨(hb8.set 28 v8).eq rfl, own_far hfl ?_ _, own_far hpc ?_ _, own_far hown ?_ _, h.kn.ge⟩, hr8.far (blk_ne hr8 hb8 (by decide)) _, ho8.far (blk_ne ho8 hb8 (by decide)) _, ?_⟩
 ·exact own_ne hfl hb8 (by decide)
 ·exact own_ne hpc hb8 (by decide)
 ·exact own_ne hown hb8 (by decide)
 ·exact (Far.grown (h.bl.later ((Below.refl _ _).alloc (Nat.le_refl _) X) hbb) (own_alloc h.kn.pd X) (.inr (.inr rfl)) hg (by simp; omega)).set hb8 h.kn.ge _ _
theorem KnAt.put {W : World} {b base : Nat} {k : KN} {vf vp vd : Value} (h : KnAt W b base k vf vp vd) (i : Nat) (u : Value) (k' : KN) (hc : (knC k vf vp vd).setIfInBounds i u = knC k' vf vp vd)
  (hf : k'.flying = k.flying) (hp : k'.pieces = k.pieces) (hd : k'.paced = k.paced) : KnAt (W.setCell ⟨b, i, none⟩ u) b base k' vf vp vd := by
 refine ⟨(h.blk.set i u).eq hc, ?_, ?_, ?_, h.ge⟩
 ·rw [hf]
  exact own_far h.fl (own_ne h.fl h.blk (by decide)) _
 ·rw [hp]
  exact own_far h.pc (own_ne h.pc h.blk (by decide)) _
 ·rw [hd]
  exact own_far h.pd (own_ne h.pd h.blk (by decide)) _
theorem SnSt.put {w W : World} {b base : Nat} {k : KN} {vf vp vd : Value} {R O : Nat} {rw_ : Array Value} {o : OUT} (h : SnSt w W b base k vf vp vd R O rw_ o) (i : Nat) (u : Value) (k' : KN) (hc : (knC k vf vp vd).setIfInBounds i u = knC k' vf vp vd)
  (hf : k'.flying = k.flying) (hp : k'.pieces = k.pieces) (hd : k'.paced = k.paced) : SnSt w (W.setCell ⟨b, i, none⟩ u) b base k' vf vp vd R O rw_ o :=
 ⟨h.kn.put i u k' hc hf hp hd, h.row.far (blk_ne h.row h.kn.blk (by decide)) _, h.out.far (blk_ne h.out h.kn.blk (by decide)) _, h.bl.set h.kn.blk h.kn.ge _ _⟩
/-- What is known when a packet flies. -/
def flownK (k : KN) (o : OUT) (t : Int) : KN := { k with flying := k.flying ++ [(⟨o, t⟩ : PKT)] }
theorem SnSt.pushFlying {w W w8 : World} {b base : Nat} {k : KN} {vf vp vd v8 : Value} {R O : Nat} {rw_ : Array Value} {o o' : OUT} {t : Int} {X : Obj} (h : SnSt w W b base k vf vp vd R O rw_ o) (hg : (W.alloc X).grownBy w8 vf.ownBlock)
  (hown : w8.ownsRow base 106 8 v8 (k.flying ++ [(⟨o', t⟩ : PKT)]).length ((k.flying ++ [(⟨o', t⟩ : PKT)]).flatMap pktL)) : SnSt w (w8.setCell ⟨b, 16, none⟩ v8) b base (flownK k o' t) v8 vp vd R O rw_ o := by
 have hbb : base ≤ W.heap.size := Nat.le_of_lt (Nat.lt_of_le_of_lt h.kn.ge h.kn.blk.lt)
 have hb8 := blk_grown (h.kn.blk.alloc X) hg (own_ne h.kn.fl h.kn.blk (by decide))
 have hr8 := blk_grown (h.row.alloc X) hg (own_ne h.kn.fl h.row (by decide))
 have ho8 := blk_grown (h.out.alloc X) hg (own_ne h.kn.fl h.out (by decide))
 have hpd := own_kept (own_alloc h.kn.pd X) hg (own_two h.kn.pd h.kn.fl (by decide))
 have hpc := own_kept (own_alloc h.kn.pc X) hg (own_two h.kn.pc h.kn.fl (by decide))
 refine ⟨⟨(hb8.set 16 v8).eq rfl, own_far hown ?_ _, own_far hpc ?_ _, own_far hpd ?_ _, h.kn.ge⟩, hr8.far (blk_ne hr8 hb8 (by decide)) _, ho8.far (blk_ne ho8 hb8 (by decide)) _, ?_⟩
 ·exact own_ne hown hb8 (by decide)
 ·exact own_ne hpc hb8 (by decide)
 ·exact own_ne hpd hb8 (by decide)
 ·exact (Far.grown (h.bl.later ((Below.refl _ _).alloc (Nat.le_refl _) X) hbb) (own_alloc h.kn.fl X) (.inl rfl) hg (by simp; omega)).set hb8 h.kn.ge _ _
theorem still_add {P : Program} {f : Nat} {args : Array Value} {w : World} {v : Value} (h : Calls P f args w fun e w' => e = .returned v ∧ w = w') : Calls P f args w fun e w' => e = .returned v ∧ w' = w := h.mono fun e w' h => ⟨h.1, h.2.symm⟩
/-- What a step leaves: what is known then, or the rule that it throws. -/
def StepPost (b base : Nat) (w : World) (res : Except Int KN) (e : Ending) (w' : World) : Prop :=
 match res with
 | .ok k' => e = .returned (.tuple #[]) ∧ ∃ vf vp vd, KnAt w' b base k' vf vp vd ∧ Far base w w'
 | .error n => e = .panicked [{ v := .iface 3 (ZI ZQ n), recovered := false }] ∧ Far base w w'
theorem StepPost.ok {b base : Nat} {w w' : World} {res : Except Int KN} {k' : KN} {vf vp vd : Value} (h : res = .ok k') (hk : KnAt w' b base k' vf vp vd) (hb : Far base w w') : StepPost b base w res (.returned (.tuple #[])) w' := by
 subst h
 exact ⟨rfl, _, _, _, hk, hb⟩
theorem StepPost.err {b base : Nat} {w w' : World} {res : Except Int KN} {n : Int} (h : res = .error n) (hb : Far base w w') : StepPost b base w res (.panicked [{ v := .iface 3 (ZI ZQ n), recovered := false }]) w' := by
 subst h
 exact ⟨rfl, hb⟩
/-- May a plain packet go, as the pacer is? -/
def plainOk (k : KN) (o : OUT) (t : Int) : Bool := !k.told || fitsP k.c.burst k.pieces t 0 (k.paced ++ [(⟨t, o.size⟩ : PCD)]).reverse
end Go.Proofs.Ytidfngcclbhoaaa
