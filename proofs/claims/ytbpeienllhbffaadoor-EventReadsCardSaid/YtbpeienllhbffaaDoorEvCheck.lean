/-
  event.Check: its walk.
-/
import Derived.Test.YtbpeienllhbffaaDoorEvForms
namespace Go.Proofs.YtbpeienllhbffaaDoor
set_option linter.unusedSimpArgs false
set_option linter.unusedVariables false
open Go.RowKit Go.Shelf

theorem space_any (b : Nat) (w : World) : Calls Tryd.prog 73 #[.pointer (some ⟨b, 0, none⟩)] w fun e w' => e = .returned (.pointer (some ⟨b, 1, none⟩)) ∧ w = w' := by
  go_enter Tryd.func73, Tryd.ntmps73
  go_wp2
  go_ret
  exact ⟨rfl, rfl⟩
theorem evnumber_any (b : Nat) (w : World) : Calls Tryd.prog 74 #[.pointer (some ⟨b, 0, none⟩)] w fun e w' => e = .returned (.pointer (some ⟨b, 2, none⟩)) ∧ w = w' := by
  go_enter Tryd.func74, Tryd.ntmps74
  go_wp2
  go_ret
  exact ⟨rfl, rfl⟩
theorem evn_any (b : Nat) (w : World) : Calls Tryd.prog 75 #[.pointer (some ⟨b, 0, none⟩)] w fun e w' => e = .returned (.pointer (some ⟨b, 3, none⟩)) ∧ w = w' := by
  go_enter Tryd.func75, Tryd.ntmps75
  go_wp2
  go_ret
  exact ⟨rfl, rfl⟩
theorem fid_any (j : Nat) (hj : 1 ≤ j ∧ j ≤ 3) (b : Nat) (w : World) : Calls Tryd.prog (fidF j) #[.pointer (some ⟨b, 0, none⟩)] w fun e w' => e = .returned (.pointer (some ⟨b, j, none⟩)) ∧ w = w' := by
  have : j = 1 ∨ j = 2 ∨ j = 3 := by omega
  rcases this with rfl | rfl | rfl
  · exact space_any b w
  · exact evnumber_any b w
  · exact evn_any b w
theorem fid_enters (j : Nat) (hj : 1 ≤ j ∧ j ≤ 3) : Enters Tryd.prog (fidF j) := by
  have : j = 1 ∨ j = 2 ∨ j = 3 := by omega
  rcases this with rfl | rfl | rfl
  · exact enters_of Tryd.func73 (by kernel_rfl) rfl
  · exact enters_of Tryd.func74 (by kernel_rfl) rfl
  · exact enters_of Tryd.func75 (by kernel_rfl) rfl
theorem bcellE {W w1 : World} (hb : Below W.heap.size W w1) : (∀ b o, b < W.heap.size → w1.cell? ⟨b, o, none⟩ = W.cell? ⟨b, o, none⟩) ∧ (∀ b o, b < W.heap.size → w1.frozen? ⟨b, o, none⟩ = W.frozen? ⟨b, o, none⟩) :=
  ⟨fun b o h => hb.cell (p := ⟨b, o, none⟩) h, fun b o h => hb.frozen (p := ⟨b, o, none⟩) h⟩
theorem cell_lt' {w : World} {b o : Nat} {v : Value} (h : w.cell? ⟨b, o, none⟩ = some v) : b < w.heap.size := by
  rcases Nat.lt_or_ge b w.heap.size with hl | hl
  · exact hl
  · unfold World.cell? at h
    rw [Array.getElem?_eq_none hl] at h
    cases h
/-- What a look-up of a kind hands back. -/
def lookV (kind : Int) (B : Nat → Nat) : Array Value := match kindOf kind with
  | some j => #[formV j (B j), .bool true]
  | none => #[.agg #[.string ⟨#[]⟩, .slice none 0 0], .bool false]
theorem forms_for (kind : Int) (b : Nat) (W : World) (hq : W.cell? ⟨b, 0, none⟩ = some (.int .i64 kind)) : Calls Tryd.prog 50 #[] W fun e w' => ∃ M B, e = .returned (.map (some M)) ∧ w'.cell? ⟨b, 0, none⟩ = some (.int .i64 kind) ∧
    (Instr.lookup 84 (.map (some M)) (.int .i64 kind) true).run Tryd.prog w' = .ok (.tuple (lookV kind B)) w' ∧
    (∀ cs t, (Instr.lookup 84 (.map (some M)) (.int .i64 kind) true).run Tryd.prog (w'.alloc (.cells cs t)) = .ok (.tuple (lookV kind B)) (w'.alloc (.cells cs t))) ∧ FormsAt w' M 6 B ∧ W.heap.size ≤ M ∧ (∀ k, 1 ≤ k → k ≤ 6 → W.heap.size ≤ B k) ∧ Below W.heap.size W w' := by
  refine (forms_any W).mono ?_
  rintro e w' ⟨M, B, rfl, hF, hM, hB, hb⟩
  exact ⟨M, B, rfl, (hb.cell (p := ⟨b, 0, none⟩) (cell_lt' hq)).trans hq, lookup_forms hF kind, fun cs t => lookup_forms (hF.below ((Below.refl _ _).alloc (Nat.le_refl _) _)) kind, hF, hM, hB, hb⟩
theorem fields_j (k : Nat) : ∀ f ∈ fieldsF k, 1 ≤ f.j ∧ f.j ≤ 3 := by
  intro f hf
  unfold fieldsF at hf
  split at hf <;> simp [fSp, fNum, fSize] at hf
  · rcases hf with rfl | rfl | rfl <;> exact ⟨by decide, by decide⟩
  · rcases hf with rfl | rfl | rfl <;> exact ⟨by decide, by decide⟩
  · rcases hf with rfl | rfl <;> exact ⟨by decide, by decide⟩
  · subst hf; exact ⟨by decide, by decide⟩
  · subst hf; exact ⟨by decide, by decide⟩
  · subst hf; exact ⟨by decide, by decide⟩
theorem fds_at : ∀ (fs : List Fd) (i : Nat) (f : Fd), fs[i]? = some f → (fs.flatMap fdC)[i * 3]? = some (.func (.func (fidF f.j)) #[] #[]) ∧ (fs.flatMap fdC)[i * 3 + 1]? = some (.int .i64 f.lo) ∧ (fs.flatMap fdC)[i * 3 + 2]? = some (.int .i64 f.hi)
  | [], i, f, h => by simp at h
  | g :: fs, 0, f, h => by
    simp at h
    subst h
    exact ⟨rfl, rfl, rfl⟩
  | g :: fs, i + 1, f, h => by
    have ih := fds_at fs i f (by simpa using h)
    have e : (g :: fs).flatMap fdC = .func (.func (fidF g.j)) #[] #[] :: .int .i64 g.lo :: .int .i64 g.hi :: fs.flatMap fdC := by rw [List.flatMap_cons]; rfl
    rw [e, show (i + 1) * 3 = i * 3 + 1 + 1 + 1 by omega, show i * 3 + 1 + 1 + 1 + 1 = (i * 3 + 1) + 1 + 1 + 1 by omega, show i * 3 + 1 + 1 + 1 + 2 = (i * 3 + 2) + 1 + 1 + 1 by omega]
    simpa using ih
theorem FormsAt.field {w : World} {M : Nat} {B : Nat → Nat} (h : FormsAt w M 6 B) {k i : Nat} {f : Fd} (hk : 1 ≤ k ∧ k ≤ 6) (hf : (fieldsF k)[i]? = some f) : w.cell? ⟨B k, i * 3, none⟩ = some (.func (.func (fidF f.j)) #[] #[]) ∧ w.cell? ⟨B k, i * 3 + 1, none⟩ = some (.int .i64 f.lo) ∧ w.cell? ⟨B k, i * 3 + 2, none⟩ = some (.int .i64 f.hi) := by
  have hb := h.rows k hk.1 hk.2
  have hc := fds_at (fieldsF k) i f hf
  exact ⟨by rw [hb.cell]; unfold fdsC; rw [List.getElem?_toArray]; exact hc.1, by rw [hb.cell]; unfold fdsC; rw [List.getElem?_toArray]; exact hc.2.1, by rw [hb.cell]; unfold fdsC; rw [List.getElem?_toArray]; exact hc.2.2⟩
theorem kind_some {x : Int} {k : Nat} (h : kindOf x = some k) : 1 ≤ k ∧ k ≤ 6 ∧ (k : Int) = x := by
  unfold kindOf at h
  split at h
  · injection h with h
    omega
  · cases h
def strikeN (e : EV) (fs : List Fd) (i : Nat) : EV := strike e (fs.take i)
theorem strikeN_succ {e : EV} {fs : List Fd} {i : Nat} {f : Fd} (h : fs[i]? = some f) : strikeN e fs (i + 1) = (strikeN e fs i).set f.j 0 := by
  unfold strikeN strike
  rw [List.take_add_one, h]
  simp
theorem ev_cell (e : EV) : ∀ j, 1 ≤ j ∧ j ≤ 3 → (evC e)[j]? = some (.int .i64 (e.get j))
  | 1, _ => rfl
  | 2, _ => rfl
  | 3, _ => rfl
  | 0, h => by omega
  | n + 4, h => by omega
theorem ev_set (e : EV) (v : Int) : ∀ j, 1 ≤ j ∧ j ≤ 3 → (evC e).setIfInBounds j (.int .i64 v) = evC (e.set j v)
  | 1, _ => rfl
  | 2, _ => rfl
  | 3, _ => rfl
  | 0, h => by omega
  | n + 4, h => by omega
/-- What a round of Check leaves. -/
structure CkAt (w W : World) (e : EV) (M : Nat) (B : Nat → Nat) (L : Nat) (fs : List Fd) (i : Nat) : Prop where
  fm : FormsAt W M 6 B
  bx : Blk W w.heap.size 36 (evC e)
  lf : Blk W L 36 (evC (strikeN e fs i))
  bl : Below w.heap.size w W
def formRow (k : Option Nat) (B : Nat → Nat) : Array Value := match k with
  | some j => #[.string (wordF j), .slice (some ⟨B j, 0, none⟩) (fieldsF j).length (fieldsF j).length]
  | none => #[.string ⟨#[]⟩, .slice none 0 0]
/-- Behind the look-up: the form, the forms, the event's box. -/
def LookedUp (w : World) (e : EV) (k : Option Nat) (s : Value) (wx : World) : Prop := ∃ fb M B, s = .pointer (some ⟨fb, 0, none⟩) ∧ Blk wx fb 82 (formRow k B) ∧ FormsAt wx M 6 B ∧ Blk wx w.heap.size 36 (evC e) ∧ w.heap.size < fb ∧ Below w.heap.size w wx
theorem looked_a {w w1 : World} {e : EV} {k : Option Nat} {M : Nat} {B : Nat → Nat} {cs : Array Value} (hcs : cs = formRow k B) (hF : FormsAt w1 M 6 B) (hb : Below (w.alloc (.cells (evC e) 36)).drew.heap.size (w.alloc (.cells (evC e) 36)).drew w1) : LookedUp w e k (.pointer (some ⟨w1.heap.size, 0, none⟩)) (w1.alloc (.cells cs 82)) := by
  subst hcs
  have hb : Below (w.alloc (.cells (evC e) 36)).heap.size (w.alloc (.cells (evC e) 36)) w1 := (Below.refl _ _).drew.trans hb
  have h0 := Blk.new w 36 (evC e)
  have h1 : Blk w1 w.heap.size 36 (evC e) := (hb.block _ (Blk.lt h0)).trans h0
  have ha : Below w1.heap.size w1 (w1.alloc (.cells (formRow k B) 82)) := (Below.refl _ _).alloc (Nat.le_refl _) _
  exact ⟨_, M, B, rfl, Blk.new _ _ _, hF.below ha, h1.alloc _, Blk.lt h1, below2 (below2 ((Below.refl _ _).alloc (Nat.le_refl _) _) hb) ha⟩
theorem looked_b {w w1 : World} {e : EV} {k : Option Nat} {M : Nat} {B : Nat → Nat} {v0 v1 : Value} (hcs : #[v0, v1] = formRow k B) (hF : FormsAt w1 M 6 B) (hM : w.heap.size + 2 ≤ M) (hB : ∀ k, 1 ≤ k → k ≤ 6 → w.heap.size + 2 ≤ B k)
    (hb : Below ((w.alloc (.cells (evC e) 36)).alloc (.cells #[.string ⟨#[]⟩, .slice none 0 0] 82)).drew.heap.size ((w.alloc (.cells (evC e) 36)).alloc (.cells #[.string ⟨#[]⟩, .slice none 0 0] 82)).drew w1) : LookedUp w e k (.pointer (some ⟨w.heap.size + 1, 0, none⟩)) ((w1.setCell ⟨w.heap.size + 1, 0, none⟩ v0).setCell ⟨w.heap.size + 1, 1, none⟩ v1) := by
  have hb : Below ((w.alloc (.cells (evC e) 36)).alloc (.cells #[.string ⟨#[]⟩, .slice none 0 0] 82)).heap.size ((w.alloc (.cells (evC e) 36)).alloc (.cells #[.string ⟨#[]⟩, .slice none 0 0] 82)) w1 := (Below.refl _ _).drew.trans hb
  have h0 := (Blk.new w 36 (evC e)).alloc (.cells #[.string ⟨#[]⟩, .slice none 0 0] 82)
  have hr : Blk ((w.alloc (.cells (evC e) 36)).alloc (.cells #[.string ⟨#[]⟩, .slice none 0 0] 82)) (w.heap.size + 1) 82 #[.string ⟨#[]⟩, .slice none 0 0] := by
    have h := Blk.new (w.alloc (.cells (evC e) 36)) 82 #[.string ⟨#[]⟩, .slice none 0 0]
    simpa using h
  have h1 : Blk w1 w.heap.size 36 (evC e) := (hb.block _ (Blk.lt h0)).trans h0
  have hr1 : Blk w1 (w.heap.size + 1) 82 #[.string ⟨#[]⟩, .slice none 0 0] := (hb.block _ (Blk.lt hr)).trans hr
  have ho : Only [w.heap.size + 1] w1 ((w1.setCell ⟨w.heap.size + 1, 0, none⟩ v0).setCell ⟨w.heap.size + 1, 1, none⟩ v1) := (Only.setCell (Only.setCell (Only.refl _ w1) (p := ⟨w.heap.size + 1, 0, none⟩) (.inl (by simp)) v0) (p := ⟨w.heap.size + 1, 1, none⟩) (.inl (by simp)) v1)
  have hbl : Below w.heap.size w w1 := below2 (((Below.refl _ _).alloc (Nat.le_refl _) _).alloc (by simp) _) hb
  exact ⟨_, M, B, rfl, Blk.eq (Blk.set (Blk.set hr1 0 v0) 1 v1) (by rw [← hcs]; simp), hF.only ho (by simp; omega) (fun k h1 h2 => by have := hB k h1 h2; simp; omega), ho.blk h1 (by simp), by omega, hbl.trans (ho.below (fun x hx => by simp at hx; omega) hbl.size)⟩
set_option maxRecDepth 100000 in
set_option maxHeartbeats 4000000 in
theorem evcheck_any (e : EV) (w : World) : Calls Tryd.prog 21 #[.agg (evC e)] w fun x w' => x = .returned (.int .i64 (errEV e)) ∧ Below w.heap.size w w' := by
  have HF := hide (fun W q => forms_for e.kind w.heap.size W q)
  obtain ⟨er, her⟩ : ∃ z, errEV e = z := ⟨_, rfl⟩
  rw [her]
  have HER := hide her
  obtain ⟨ev, hev⟩ : ∃ x, x = e := ⟨_, rfl⟩
  have HEV := hide hev
  clear hev
  obtain ⟨kind, sp, num, n⟩ := e
  simp only [evC]
  clear her
  unfold lookV at HF
  have hbx := Blk.new w 36 #[.int .i64 kind, .int .i64 sp, .int .i64 num, .int .i64 n]
  have q0 := hbx.cell 0
  have HBX := hide hbx
  clear hbx
  go_enter Tryd.func21, Tryd.ntmps21
  go_upto_region 1 with (fail)
  go_cut [3, 4] (fun s3 s4 wx => s4 = .bool (kindOf kind).isSome ∧ LookedUp w ⟨kind, sp, num, n⟩ (kindOf kind) s3 wx)
  case first =>
    cases hk : kindOf kind with
    | none =>
      simp only [hk, formV] at HF
      go_region_held3 (fun w' => w'.cell? ⟨w.heap.size, 0, none⟩ = some (.int .i64 kind)) (first | with_reducible exact q1 | with_reducible exact (World.cell?_alloc_lt _ _ _ (cell_lt' q1)).trans q1 | exact q0 | exact (World.cell?_alloc_lt _ _ _ (cell_lt' q0)).trans q0 | exact (World.cell?_setCell_other _ _ _ _ (by simp)).trans ((World.cell?_setCell_other _ _ _ _ (by simp)).trans q1)) (first | (go_at_call 50; refine (HF.out _ (by first | exact q0 | exact (World.cell?_alloc_lt _ _ _ (cell_lt' q0)).trans q0)).mono ?_; rintro e1 w1 ⟨M, B, rfl, q1, k1, k2, hF, hM, hB, hb1⟩; obtain ⟨hcx, hfx⟩ := bcellE hb1))
      all_goals go_wp2_with fail
      all_goals go_meet
      all_goals rw [hk]
      all_goals first | exact ⟨rfl, looked_a rfl hF hb1⟩ | exact ⟨rfl, looked_b rfl hF (by have := hM; simp at this; omega) (fun k h1 h2 => by have := hB k h1 h2; simp at this; omega) hb1⟩
    | some k =>
      simp only [hk, formV] at HF
      go_region_held3 (fun w' => w'.cell? ⟨w.heap.size, 0, none⟩ = some (.int .i64 kind)) (first | with_reducible exact q1 | with_reducible exact (World.cell?_alloc_lt _ _ _ (cell_lt' q1)).trans q1 | exact q0 | exact (World.cell?_alloc_lt _ _ _ (cell_lt' q0)).trans q0 | exact (World.cell?_setCell_other _ _ _ _ (by simp)).trans ((World.cell?_setCell_other _ _ _ _ (by simp)).trans q1)) (first | (go_at_call 50; refine (HF.out _ (by first | exact q0 | exact (World.cell?_alloc_lt _ _ _ (cell_lt' q0)).trans q0)).mono ?_; rintro e1 w1 ⟨M, B, rfl, q1, k1, k2, hF, hM, hB, hb1⟩; obtain ⟨hcx, hfx⟩ := bcellE hb1))
      all_goals go_wp2_with fail
      all_goals go_meet
      all_goals rw [hk]
      all_goals first | exact ⟨rfl, looked_a rfl hF hb1⟩ | exact ⟨rfl, looked_b rfl hF (by have := hM; simp at this; omega) (fun k h1 h2 => by have := hB k h1 h2; simp at this; omega) hb1⟩
  case rest =>
    obtain ⟨rfl, hl⟩ := hcut
    clear HF q0 HBX
    cases hk : kindOf kind with
    | none =>
      rw [hk] at hl
      obtain ⟨fb, M, B, rfl, hfb, hF, hbx, hlt, hbl⟩ := hl
      have her : er = 2 := by
        rw [← HER.out]
        unfold errEV okEV
        rw [hk]
        rfl
      subst her
      have HBL := hide hbl
      clear hbl hfb hF hbx
      go_wp2_with fail
      go_ret
      exact ⟨rfl, HBL.out⟩
    | some k =>
      rw [hk] at hl
      obtain ⟨fb, M, B, rfl, hfb, hF, hbx, hlt, hbl⟩ := hl
      have hk2 := kind_some hk
      have hfj := fields_j k
      have her : er = if (fieldsF k).all (inF ⟨kind, sp, num, n⟩) && decide (strike ⟨kind, sp, num, n⟩ (fieldsF k) = zeroEV) then 0 else 2 := by
        rw [← HER.out]
        unfold errEV okEV
        rw [hk]
      obtain ⟨fs, hfs⟩ : ∃ z, fieldsF k = z := ⟨_, rfl⟩
      have HER2 := hide her
      have HFS := hide hfs
      have HFJ := hide hfj
      have HFB := hide hfb
      have HF := hide hF
      have HBX := hide hbx
      have HBL := hide hbl
      simp only [formRow] at hfb
      have g0 := hfb.cell 0
      have g1 := hfb.cell 1
      simp only [List.getElem?_toArray, List.getElem?_cons_zero, List.getElem?_cons_succ] at g0 g1
      have q0 := hbx.cell 0
      have q1 := hbx.cell 1
      have q2 := hbx.cell 2
      have q3 := hbx.cell 3
      simp only [evC, List.getElem?_toArray, List.getElem?_cons_zero, List.getElem?_cons_succ] at q0 q1 q2 q3
      have hfl := Blk.lt hfb
      have hbxl := Blk.lt hbx
      rw [hfs] at g1
      obtain ⟨m, hm⟩ : ∃ m, fs.length = m := ⟨_, rfl⟩
      have hm3 : m ≤ 3 := by
        rw [← hm, ← hfs]
        unfold fieldsF
        split <;> simp
      rw [hm] at g1
      have HM := hide hm
      clear her hfj hfb hF hbx hbl HER hfs hk hm
      have hML : M < wc.heap.size := HF.out.mlt
      have hBL : ∀ x, 1 ≤ x → x ≤ 6 → B x < wc.heap.size := fun x h1 h2 => Blk.lt (HF.out.rows x h1 h2)
      have HBL0 := hide hBL
      have ha : Below wc.heap.size wc (wc.alloc (.cells #[.int .i64 0, .int .i64 sp, .int .i64 num, .int .i64 n] 36)) := (Below.refl _ _).alloc (Nat.le_refl _) _
      have hst : CkAt w (wc.alloc (.cells #[.int .i64 0, .int .i64 sp, .int .i64 num, .int .i64 n] 36)) ⟨kind, sp, num, n⟩ M B wc.heap.size fs 0 := ⟨HF.out.below ha, HBX.out.alloc _, Blk.new _ _ _, below2 HBL.out ha⟩
      have HST := hide hst
      clear ha hst hBL
      go_wp2_with fail
      obtain ⟨L, hL⟩ : ∃ L, wc.heap.size = L := ⟨_, rfl⟩
      rw [hL]
      rw [hL] at HST hML HBL0
      go_loopg [23] m (fun kx s23 wr => ∃ i : Nat, s23 = .int .i64 i ∧ i ≤ m ∧ m - i ≤ kx ∧ Hid ((fs.take i).all (inF ⟨kind, sp, num, n⟩) = true) ∧ CkAt w wr ⟨kind, sp, num, n⟩ M B L fs i)
      case atStart => exact ⟨0, rfl, by omega, by omega, rfl, HST.out⟩
      case round =>
        have hwL : w.heap.size < L := by omega
        clear HST HF HBX HBL HFB g0 g1 q0 q1 q2 q3 hL hfl hbxl
        obtain ⟨i, rfl, hi, hkx, hall, hC⟩ := hrel
        have HC := hide hC
        have hbx := hC.bx
        have hlf := hC.lf
        clear hC
        by_cases hlt : i < m
        · have hlti : (i : Int) < (m : Int) := by omega
          have hi0 : (0 : Int) ≤ (i : Int) := by omega
          obtain ⟨f, hf⟩ : ∃ f, fs[i]? = some f := ⟨_, List.getElem?_eq_getElem (by rw [HM.out]; exact hlt)⟩
          have hj := HFJ.out f (by rw [HFS.out]; exact List.mem_of_getElem? hf)
          obtain ⟨z0, z1, z2⟩ := HC.out.fm.field (k := k) (by omega) (by rw [HFS.out]; exact hf)
          have eg := fid_enters f.j hj
          have CN := hide (fun b W => fid_any f.j hj b W)
          obtain ⟨g, hg⟩ : ∃ g, fidF f.j = g := ⟨_, rfl⟩
          rw [hg] at z0 eg CN
          have eg' : ∀ args w, (callFunc g args).run Tryd.prog w = .ok (.enter g args) w := eg
          have hev := hbx.cell f.j
          rw [ev_cell _ _ hj] at hev
          have hlv := hlf.cell f.j
          rw [ev_cell _ _ hj] at hlv
          have hlz := hlf.frozen f.j
          have hxl := Blk.lt hbx
          have hLl := Blk.lt hlf
          have hss := strikeN_succ (e := ⟨kind, sp, num, n⟩) hf
          have hts : (fs.take (i + 1)).all (inF ⟨kind, sp, num, n⟩) = ((fs.take i).all (inF ⟨kind, sp, num, n⟩) && inF ⟨kind, sp, num, n⟩ f) := by
            rw [List.take_add_one, hf, List.all_append]
            simp
          have hmem := List.mem_of_getElem? hf
          have hBk := HBL0.out k (by omega) (by omega)
          have hcl := cell_lt' z0
          obtain ⟨v, hv⟩ : ∃ v, EV.get ⟨kind, sp, num, n⟩ f.j = v := ⟨_, rfl⟩
          obtain ⟨u, hu⟩ : ∃ v, EV.get (strikeN ⟨kind, sp, num, n⟩ fs i) f.j = v := ⟨_, rfl⟩
          have hno : ¬ (f.lo ≤ v ∧ v ≤ f.hi) → er = 2 := fun h => by
            rw [HER2.out, if_neg]
            intro h2
            rw [Bool.and_eq_true, List.all_eq_true] at h2
            have := h2.1 f (by rw [HFS.out]; exact hmem)
            unfold inF at this
            rw [hv] at this
            apply h
            simpa using this
          have hin : f.lo ≤ v ∧ v ≤ f.hi → inF ⟨kind, sp, num, n⟩ f = true := fun h => by
            unfold inF
            rw [hv, decide_eq_true h.1, decide_eq_true h.2]
            rfl
          rw [hv] at hev
          rw [hu] at hlv
          obtain ⟨fj, flo, fhi⟩ := f
          simp only [] at *
          have HSS := hide hss
          have HTS := hide hts
          have HNO := hide hno
          have HIN := hide hin
          clear hss hts hno hin hv hu hg eg hf hmem hbx hlf
          have hax : Below wr.heap.size wr (wr.alloc (.cells #[.func (.func g) #[] #[], .int .i64 flo, .int .i64 fhi] 88)) := (Below.refl _ _).alloc (Nat.le_refl _) _
          have HBR := hide (below2 HC.out.bl hax)
          by_cases h1 : v < flo
          · have her : er = 2 := HNO.out (fun h => by omega)
            subst her
            clear hax
            go_wp2_with (first | (go_at_fn g; refine (CN.out _ _).mono ?_; rintro e1 w1 ⟨rfl, rfl⟩))
            go_ret
            exact ⟨rfl, HBR.out⟩
          · by_cases h2 : fhi < v
            · have her : er = 2 := HNO.out (fun h => by omega)
              subst her
              clear hax
              go_wp2_with (first | (go_at_fn g; refine (CN.out _ _).mono ?_; rintro e1 w1 ⟨rfl, rfl⟩))
              go_ret
              exact ⟨rfl, HBR.out⟩
            · have hall2 : (fs.take (i + 1)).all (inF ⟨kind, sp, num, n⟩) = true := by
                rw [HTS.out, hall.out, HIN.out (by omega)]
                rfl
              have HA2 := hide hall2
              have hnx : CkAt w ((wr.setCell ⟨L, fj, none⟩ (.int .i64 0)).alloc (.cells #[.func (.func g) #[] #[], .int .i64 flo, .int .i64 fhi] 88)) ⟨kind, sp, num, n⟩ M B L fs (i + 1) := by
                have hc := HC.out
                have ho : Only [L] wr (wr.setCell ⟨L, fj, none⟩ (.int .i64 0)) := Only.setCell (Only.refl _ _) (p := ⟨L, fj, none⟩) (.inl (by simp)) _
                have hs : CkAt w (wr.setCell ⟨L, fj, none⟩ (.int .i64 0)) ⟨kind, sp, num, n⟩ M B L fs (i + 1) := by
                  refine ⟨hc.fm.only ho (by simp; omega) (fun x h1 h2 => by have := HBL0.out x h1 h2; simp; omega), ho.blk hc.bx (by simp; omega), ?_, hc.bl.trans (ho.below (fun x hx => by simp at hx; omega) hc.bl.size)⟩
                  have := Blk.set hc.lf fj (.int .i64 0)
                  rw [ev_set _ _ _ hj, ← HSS.out] at this
                  exact this
                have ha2 := (Below.refl (wr.setCell ⟨L, fj, none⟩ (.int .i64 0)).heap.size (wr.setCell ⟨L, fj, none⟩ (.int .i64 0))).alloc (Nat.le_refl _) (.cells #[.func (.func g) #[] #[], .int .i64 flo, .int .i64 fhi] 88)
                exact ⟨hs.fm.below ha2, hs.bx.alloc _, hs.lf.alloc _, below2 hs.bl ha2⟩
              have HNX := hide hnx
              clear hall2 hax hnx
              go_wp2_with (first | (go_at_fn g; refine (CN.out _ _).mono ?_; rintro e1 w1 ⟨rfl, rfl⟩))
              go_roundg (m - (i + 1))
              case rel => exact ⟨i + 1, by go_num, by omega, by omega, HA2.out, HNX.out⟩
              case measure => omega
        · have him : i = m := by omega
          subst him
          have hBL1 := hide HC.out.bl
          have htk : fs.take i = fs := List.take_of_length_le (by rw [HM.out]; exact Nat.le_refl _)
          have hes : strikeN ⟨kind, sp, num, n⟩ fs i = strike ⟨kind, sp, num, n⟩ fs := by
            unfold strikeN
            rw [htk]
          have her : er = if strikeN ⟨kind, sp, num, n⟩ fs i = zeroEV then 0 else 2 := by
            have ha := hall.out
            rw [htk] at ha
            rw [HER2.out, HFS.out, ha, hes]
            simp
          obtain ⟨l, hl⟩ : ∃ l, strikeN ⟨kind, sp, num, n⟩ fs i = l := ⟨_, rfl⟩
          rw [hl] at hlf her
          obtain ⟨l0, l1, l2, l3⟩ := l
          have c0 := hlf.cell 0
          have c1 := hlf.cell 1
          have c2 := hlf.cell 2
          have c3 := hlf.cell 3
          simp only [evC, List.getElem?_toArray, List.getElem?_cons_zero, List.getElem?_cons_succ] at c0 c1 c2 c3
          clear hlf hbx hl hes htk hall hkx hi hlt HC
          by_cases h0 : l0 = 0
          · subst h0
            by_cases h1 : l1 = 0
            · subst h1
              by_cases h2 : l2 = 0
              · subst h2
                by_cases h3 : l3 = 0
                · subst h3
                  obtain rfl : er = 0 := by rw [her]; exact if_pos rfl
                  clear her
                  go_wp2_with fail
                  go_ret
                  exact ⟨rfl, hBL1.out⟩
                · obtain rfl : er = 2 := by rw [her]; exact if_neg (fun e => h3 (by injection e))
                  have hb3 : (l3 == 0) = false := by rw [beq_eq_false_iff_ne]; exact h3
                  clear her h3
                  go_wp2_with fail
                  go_ret
                  exact ⟨rfl, hBL1.out⟩
              · obtain rfl : er = 2 := by rw [her]; exact if_neg (fun e => h2 (by injection e))
                have hb2 : (l2 == 0) = false := by rw [beq_eq_false_iff_ne]; exact h2
                clear her h2
                go_wp2_with fail
                go_ret
                exact ⟨rfl, hBL1.out⟩
            · obtain rfl : er = 2 := by rw [her]; exact if_neg (fun e => h1 (by injection e))
              have hb1 : (l1 == 0) = false := by rw [beq_eq_false_iff_ne]; exact h1
              clear her h1
              go_wp2_with fail
              go_ret
              exact ⟨rfl, hBL1.out⟩
          · obtain rfl : er = 2 := by rw [her]; exact if_neg (fun e => h0 (by injection e))
            have hb0 : (l0 == 0) = false := by rw [beq_eq_false_iff_ne]; exact h0
            clear her h0
            go_wp2_with fail
            go_ret
            exact ⟨rfl, hBL1.out⟩
end Go.Proofs.YtbpeienllhbffaaDoor
