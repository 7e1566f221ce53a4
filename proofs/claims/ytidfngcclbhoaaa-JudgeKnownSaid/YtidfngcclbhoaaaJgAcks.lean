/-
 Layer 24 (judge): acks: its walk, of an ACK of space 0.
-/
import Derived.Test.YtidfngcclbhoaaaJgEvent
import Derived.StillTail
namespace Go.Proofs.Ytidfngcclbhoaaa
open List renaming getElem?_toArray → ZG, getElem?_cons_zero → ZH, getElem?_cons_succ → ZJ
set_option linter.unusedSimpArgs false
set_option linter.unusedVariables false
open Go.RowKit Go.Shelf
def ackK (k : KN) (hi : Int) : KN := { k with top := fun j => if j = 0 then max (k.top 0) hi else k.top j }
set_option maxRecDepth 100000 in
set_option maxHeartbeats 4000000 in
theorem acks_zero (b base : Nat) (k : KN) (vf vp vd : Value) (r : RW) (rs : List RGJ) (x : RGJ) (w : World) (hK : KnAt w b base k vf vp vd) (hR : LieAt rgL 2 w base r.ra rs) (hrn : rs.length = r.rn) (hx : rs[0]? = some x) (hsp : r.sp = 0) (hrl : r.rn ≤ 2000) :
  Calls Try.prog 28 #[.pointer (some ⟨b, 0, none⟩), .agg (rwC r)] w (StepPost b base w (.ok (ackK k x.hi))) := by
 obtain ⟨kind, rt, rsp, rsize, ⟨osp, onum, osize, oel, ofl, opr, oect⟩, delay, ra, rn, rc, marked, e0, e1, e2, ea, en, ec, err, smooth⟩ := r
 simp only at hR hrn hsp hrl ⊢
 subst hsp
 have hbb : base ≤ w.heap.size := Nat.le_of_lt (Nat.lt_of_le_of_lt hK.ge hK.blk.lt)
 have hn0 : 0 < rn := by have := (List.getElem?_eq_some_iff.1 hx).1; omega
 have hn1 : (0 : Int) < (rn : Int) := by omega
 have ha : Below w.heap.size w (w.alloc (.cells (rwC ⟨kind, rt, 0, rsize, ⟨osp, onum, osize, oel, ofl, opr, oect⟩, delay, ra, rn, rc, marked, e0, e1, e2, ea, en, ec, err, smooth⟩) 36)) := (Below.refl _ _).alloc (Nat.le_refl _) _
 have hK1 := hK.later ha
 have hR1 := hR.later (ha.mono hbb)
 have hB1 := Blk.new w 36 (rwC ⟨kind, rt, 0, rsize, ⟨osp, onum, osize, oel, ofl, opr, oect⟩, delay, ra, rn, rc, marked, e0, e1, e2, ea, en, ec, err, smooth⟩)
 have hbl : Far base w _ := Far.of_below ha hbb
 obtain ⟨W1, hW1⟩ : ∃ x, w.alloc (.cells (rwC ⟨kind, rt, 0, rsize, ⟨osp, onum, osize, oel, ofl, opr, oect⟩, delay, ra, rn, rc, marked, e0, e1, e2, ea, en, ec, err, smooth⟩) 36) = x := ⟨_, rfl⟩
 obtain ⟨R, hRr⟩ : ∃ x, w.heap.size = x := ⟨_, rfl⟩
 have HSP := hide (fun W => isspace_any 0 W)
 rw [show (decide ((0 : Int) ≤ 0) && decide ((0 : Int) < 3)) = true from rfl] at HSP
 rw [hW1] at hK1 hR1 hB1 hbl
 rw [hRr] at hB1
 unfold rwC at hW1 ⊢
 go_enter Try.func28, Try.ntmps28
 go_upto_region 1 with (fail)
 try rw [hW1]
 try rw [hRr]
 clear hW1 hRr ha hK hR
 have r2 := hB1.cell 2
 have r12 := hB1.cell 12
 simp only [rwC, ZG, ZH, ZJ] at r2 r12
 go_wp2_with fail
 with_reducible refine (HSP.out _).mono ?_
 rintro y1 u1 ⟨rfl, rfl⟩
 go_wp2_with fail
 obtain ⟨g, o, rfl, hg, hz⟩ := hR1.at hx
 have z1 := hz 1 _ (by omega) rfl
 simp only [Nat.zero_mul, Nat.add_zero] at z1
 have k20 := hK1.blk.cell 20
 have f20 := hK1.blk.frozen 20
 simp only [knC, ZG, ZH, ZJ] at k20
 have HK1 := hide hK1
 have HBL := hide hbl
 clear hK1 hbl hz hB1 hR1
 refine wp_region_still_tail 20 (by kernel_rfl) (by kernel_rfl) ?_
 simp only [List.take_succ_cons, List.take_zero, List.drop_succ_cons, List.drop_zero]
 change wpStill _ _ W1.drew _ _ _
 have r2 := (World.cell?_drew W1 ⟨R, 2, none⟩).trans r2
 have r12 := (World.cell?_drew W1 ⟨R, 12, none⟩).trans r12
 have z1 := (World.cell?_drew W1 ⟨g, o + 1, none⟩).trans z1
 have k20 := (World.cell?_drew W1 ⟨b, 20, none⟩).trans k20
 obtain ⟨tp, htp⟩ : ∃ y, k.top 0 = y := ⟨_, rfl⟩
 rw [htp] at k20
 have HTP := hide htp
 clear htp
 repeat (refine wpStill_step (fun K hK => ?_); go_simp; with_reducible refine hK _ ?_; clear hK K)
 refine wpStill_nil ?_
 change wpList _ _ _ _ _ W1.drew
 go_wp2_with fail
 go_end0
 exact StepPost.ok (k' := ackK k x.hi) rfl (HK1.out.put 20 (.int .i64 (max tp x.hi)) (ackK k x.hi) (by rw [← HTP.out]; rfl) rfl rfl rfl).drew ((HBL.out.set HK1.out.blk HK1.out.ge _ _).later (below_drewN (Below.refl _ _) 1) (by simp [World.setCell]; exact Nat.le_of_lt (Nat.lt_of_le_of_lt HK1.out.ge HK1.out.blk.lt)))
end Go.Proofs.Ytidfngcclbhoaaa
