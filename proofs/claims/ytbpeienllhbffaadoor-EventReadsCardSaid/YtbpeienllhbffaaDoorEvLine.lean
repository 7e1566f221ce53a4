/-
  event.Line: its walk.
-/
import Derived.Test.YtbpeienllhbffaaDoorEvCheck
import Derived.Test.YtbpeienllhbffaaDoorCfPlainB
import Derived.Test.YtbpeienllhbffaaDoorCfLaws
import Derived.Lib.AppendIntMem
namespace Go.Proofs.YtbpeienllhbffaaDoor
set_option linter.unusedSimpArgs false
set_option linter.unusedVariables false
open Go.RowKit Go.Shelf

theorem look1_forms {w : World} {M : Nat} {B : Nat → Nat} (h : FormsAt w M 6 B) {x : Int} {k : Nat} (hk : kindOf x = some k) : (Instr.lookup 84 (.map (some M)) (.int .i64 x) false).run Tryd.prog w = .ok (.agg #[.string (wordF k), .slice (some ⟨B k, 0, none⟩) (fieldsF k).length (fieldsF k).length]) w := by
  have hf := find_forms B 6 x
  have hi : Tryd.prog.underlying 3 = some (.int .i64) := Tryd.underlying3
  have hk2 := kind_some hk
  rw [if_pos (by omega)] at hf
  have e : x.toNat = k := by omega
  rw [e] at hf
  simp [Instr.lookup, run_underlying mt, MapKept.run_getObj_map h.map, MapKept.run_checkKey hi (k := .int .i64 x) rfl, MapKept.run_findKey hi hf, Result.andThen, formV]
theorem forms_for1 (kind : Int) (k : Nat) (hk : kindOf kind = some k) (b : Nat) (W : World) (hq : W.cell? ⟨b, 0, none⟩ = some (.int .i64 kind)) : Calls Tryd.prog 50 #[] W fun e w' => ∃ M B, e = .returned (.map (some M)) ∧ w'.cell? ⟨b, 0, none⟩ = some (.int .i64 kind) ∧
    (Instr.lookup 84 (.map (some M)) (.int .i64 kind) false).run Tryd.prog w' = .ok (.agg #[.string (wordF k), .slice (some ⟨B k, 0, none⟩) (fieldsF k).length (fieldsF k).length]) w' ∧
    (∀ cs t, (Instr.lookup 84 (.map (some M)) (.int .i64 kind) false).run Tryd.prog (w'.alloc (.cells cs t)) = .ok (.agg #[.string (wordF k), .slice (some ⟨B k, 0, none⟩) (fieldsF k).length (fieldsF k).length]) (w'.alloc (.cells cs t))) ∧ FormsAt w' M 6 B ∧ W.heap.size ≤ M ∧ (∀ k, 1 ≤ k → k ≤ 6 → W.heap.size ≤ B k) ∧ Below W.heap.size W w' := by
  refine (forms_any W).mono ?_
  rintro e w' ⟨M, B, rfl, hF, hM, hB, hb⟩
  exact ⟨M, B, rfl, (hb.cell (p := ⟨b, 0, none⟩) (cell_lt' hq)).trans hq, look1_forms hF hk, fun cs t => look1_forms (hF.below ((Below.refl _ _).alloc (Nat.le_refl _) _)) hk, hF, hM, hB, hb⟩
def EV.small (e : EV) : Prop := ∀ j, -9223372036854775808 ≤ e.get j ∧ e.get j ≤ 9223372036854775807
/-- What a round of Line leaves. -/
structure LnAt (w W : World) (e : EV) (b M : Nat) (B : Nat → Nat) : Prop where
  env : Env W
  fm : FormsAt W M 6 B
  bx : Blk W b 36 (evC e)
  bl : Below w.heap.size w W
theorem LnAt.below {w W W' : World} {e : EV} {b M : Nat} {B : Nat → Nat} (h : LnAt w W e b M B) (hb : Below W.heap.size W W') : LnAt w W' e b M B := ⟨h.env.later hb, h.fm.below hb, (hb.block _ (Blk.lt h.bx)).trans h.bx, below2 h.bl hb⟩
/-- Behind the look-up of a kind that is. -/
def LookedAt (w w1 : World) (e : EV) (k : Nat) (s : Value) (wx : World) : Prop := ∃ fb M B, s = .pointer (some ⟨fb, 0, none⟩) ∧ Blk wx fb 82 (formRow (some k) B) ∧ LnAt w wx e w.heap.size M B
theorem lookat_a {w w1 w2 : World} {e : EV} {k M : Nat} {B : Nat → Nat} {cs : Array Value} (hcs : cs = formRow (some k) B) (hE : Env w1) (hl : Below w.heap.size w w1) (hx : Blk w1 w.heap.size 36 (evC e)) (hF : FormsAt w2 M 6 B) (hb : Below w1.drew.heap.size w1.drew w2) : LookedAt w w1 e k (.pointer (some ⟨w2.heap.size, 0, none⟩)) (w2.alloc (.cells cs 82)) := by
  subst hcs
  have hb : Below w1.heap.size w1 w2 := (Below.refl _ _).drew.trans hb
  have ha : Below w2.heap.size w2 (w2.alloc (.cells (formRow (some k) B) 82)) := (Below.refl _ _).alloc (Nat.le_refl _) _
  have h1 : LnAt w w2 e w.heap.size M B := ⟨hE.later hb, hF, (hb.block _ (Blk.lt hx)).trans hx, below2 hl hb⟩
  exact ⟨_, M, B, rfl, Blk.new _ _ _, h1.below ha⟩
theorem lookat_b {w w1 w2 : World} {e : EV} {k M : Nat} {B : Nat → Nat} {v0 v1 : Value} (hcs : #[v0, v1] = formRow (some k) B) (hE : Env w1) (hl : Below w.heap.size w w1) (hx : Blk w1 w.heap.size 36 (evC e)) (hF : FormsAt w2 M 6 B) (hM : w1.heap.size + 1 ≤ M) (hB : ∀ k, 1 ≤ k → k ≤ 6 → w1.heap.size + 1 ≤ B k)
    (hb : Below (w1.alloc (.cells #[.string ⟨#[]⟩, .slice none 0 0] 82)).drew.heap.size (w1.alloc (.cells #[.string ⟨#[]⟩, .slice none 0 0] 82)).drew w2) : LookedAt w w1 e k (.pointer (some ⟨w1.heap.size, 0, none⟩)) ((w2.setCell ⟨w1.heap.size, 0, none⟩ v0).setCell ⟨w1.heap.size, 1, none⟩ v1) := by
  have ha : Below w1.heap.size w1 (w1.alloc (.cells #[.string ⟨#[]⟩, .slice none 0 0] 82)) := (Below.refl _ _).alloc (Nat.le_refl _) _
  have hb : Below (w1.alloc (.cells #[.string ⟨#[]⟩, .slice none 0 0] 82)).heap.size (w1.alloc (.cells #[.string ⟨#[]⟩, .slice none 0 0] 82)) w2 := (Below.refl _ _).drew.trans hb
  have hr : Blk (w1.alloc (.cells #[.string ⟨#[]⟩, .slice none 0 0] 82)) w1.heap.size 82 #[.string ⟨#[]⟩, .slice none 0 0] := Blk.new _ _ _
  have hr2 : Blk w2 w1.heap.size 82 #[.string ⟨#[]⟩, .slice none 0 0] := (hb.block _ (Blk.lt hr)).trans hr
  have hb2 := below2 ha hb
  have ho : Only [w1.heap.size] w2 ((w2.setCell ⟨w1.heap.size, 0, none⟩ v0).setCell ⟨w1.heap.size, 1, none⟩ v1) := (Only.setCell (Only.setCell (Only.refl _ w2) (p := ⟨w1.heap.size, 0, none⟩) (.inl (by simp)) v0) (p := ⟨w1.heap.size, 1, none⟩) (.inl (by simp)) v1)
  have hxl := Blk.lt hx
  have hb3 : Below w1.heap.size w1 ((w2.setCell ⟨w1.heap.size, 0, none⟩ v0).setCell ⟨w1.heap.size, 1, none⟩ v1) := hb2.trans (ho.below (fun x hx => by simp at hx; omega) hb2.size)
  exact ⟨_, M, B, rfl, Blk.eq (Blk.set (Blk.set hr2 0 v0) 1 v1) (by rw [← hcs]; simp), ⟨hE.later hb3, hF.only ho (by simp; omega) (fun k h1 h2 => by have := hB k h1 h2; simp; omega), (hb3.block _ hxl).trans hx, below2 hl hb3⟩⟩
theorem nums_succ {e : EV} {fs : List Fd} {i : Nat} {f : Fd} (h : fs[i]? = some f) : numsL e (fs.take (i + 1)) = numsL e (fs.take i) ++ 32 :: Lib.itoa (e.get f.j) := by
  unfold numsL
  rw [List.take_add_one, h, List.flatMap_append]
  simp
theorem nums_len {e : EV} (he : e.small) : ∀ (fs : List Fd), (numsL e fs).length ≤ 22 * fs.length
  | [] => by simp [numsL]
  | f :: fs => by
    have h := nums_len he fs
    have h2 := Lib.itoa_length_le (e.get f.j) (he f.j).1 (he f.j).2
    have e1 : numsL e (f :: fs) = (32 :: Lib.itoa (e.get f.j)) ++ numsL e fs := by unfold numsL; rw [List.flatMap_cons]
    rw [e1, List.length_append, List.length_cons, List.length_cons]
    omega
theorem word_len (k : Nat) : (wordF k).size ≤ 8 := by unfold wordF; split <;> decide
theorem ok_kind {e : EV} (h : errEV e = 0) : ∃ k, kindOf e.kind = some k := by
  unfold errEV okEV at h
  cases hk : kindOf e.kind with
  | none => rw [hk] at h; simp at h
  | some k => exact ⟨k, rfl⟩
theorem errEV_two (e : EV) : errEV e = 0 ∨ errEV e = 2 := by
  unfold errEV
  split
  · exact .inl rfl
  · exact .inr rfl
set_option maxRecDepth 100000 in
set_option maxHeartbeats 4000000 in
theorem line_any (e : EV) (w : World) (hE : Env w) (hs : e.small) : Calls Tryd.prog 23 #[.agg (evC e)] w fun x w' => x = .returned (if errEV e = 0 then .tuple #[.string (mkB (lineE e)), .int .i64 0] else .tuple #[.string ⟨#[]⟩, .int .i64 2]) ∧ Below w.heap.size w w' := by
  have HE := hide hE
  have HS := hide hs
  have HCK := hide (fun W => evcheck_any e W)
  have h0 := Blk.new w 36 (evC e)
  have HB0 := hide h0
  have ha0 : Below w.heap.size w (w.alloc (.cells (evC e) 36)) := (Below.refl _ _).alloc (Nat.le_refl _) _
  have HA0 := hide ha0
  obtain ⟨e0, he0⟩ : ∃ x, e = x := ⟨_, rfl⟩
  have HEE := hide he0
  rcases errEV_two e with her | her
  · obtain ⟨k, hk⟩ := ok_kind her
    rw [her] at HCK
    rw [if_pos her]
    have HF := hide (fun W b q => forms_for1 e.kind k hk b W q)
    have hle : lineE e = (wordF k).data.toList ++ numsL e (fieldsF k) ++ [10] := by unfold lineE; rw [hk]
    have HLE := hide hle
    have HK := hide hk
    obtain ⟨res, hres⟩ : ∃ r, mkB (lineE e) = r := ⟨_, rfl⟩
    have HRES := hide hres
    rw [hres]
    obtain ⟨kind, sp, num, n⟩ := e
    simp only [evC] at HB0 HA0 HCK ⊢
    clear hle hres her hk h0 ha0 hE hs he0
    go_enter Tryd.func23, Tryd.ntmps23
    go_wp2_with fail
    refine (HCK.out _).mono ?_
    rintro e1 w1 ⟨rfl, hb1⟩
    have HBX := hide ((hb1.block _ (Blk.lt HB0.out)).trans HB0.out : Blk w1 w.heap.size 36 #[.int .i64 kind, .int .i64 sp, .int .i64 num, .int .i64 n])
    have HBL := hide (below2 HA0.out hb1)
    clear hb1 HB0 HA0 HCK
    go_upto_region 4 with (fail)
    have q0 : w1.cell? ⟨w.heap.size, 0, none⟩ = some (.int .i64 kind) := Blk.cell HBX.out 0
    go_cut [5] (fun s5 wx => LookedAt w w1 ⟨kind, sp, num, n⟩ k s5 wx)
    case first =>
      have HE1 := hide (HE.out.later HBL.out)
      go_region_held3 (fun w' => w'.cell? ⟨w.heap.size, 0, none⟩ = some (.int .i64 kind)) (first | with_reducible exact q1 | with_reducible exact (World.cell?_alloc_lt _ _ _ (cell_lt' q1)).trans q1 | exact q0 | exact (World.cell?_alloc_lt _ _ _ (cell_lt' q0)).trans q0 | exact (World.cell?_setCell_other _ _ _ _ (by first | (simp; done) | (simp; have := cell_lt' q0; omega))).trans ((World.cell?_setCell_other _ _ _ _ (by first | (simp; done) | (simp; have := cell_lt' q0; omega))).trans q1)) (first | (go_at_call 50; refine (HF.out _ _ (by first | exact q0 | exact (World.cell?_alloc_lt _ _ _ (cell_lt' q0)).trans q0)).mono ?_; rintro e1 w2 ⟨M, B, rfl, q1, k1, k2, hF, hM, hB, hb1⟩; obtain ⟨hcx, hfx⟩ := bcellE hb1))
      all_goals go_wp2_with fail
      all_goals go_meet
      all_goals first | exact lookat_a rfl HE1.out HBL.out HBX.out hF hb1 | exact lookat_b rfl HE1.out HBL.out HBX.out hF (by have := hM; simp at this; omega) (fun k h1 h2 => by have := hB k h1 h2; simp at this; omega) hb1
    case rest =>
      obtain ⟨fb, M, B, rfl, hfb, hLn⟩ := hcut
      have HLN := hide hLn
      have HFB := hide hfb
      simp only [formRow] at hfb
      have g0 := hfb.cell 0
      have g1 := hfb.cell 1
      simp only [List.getElem?_toArray, List.getElem?_cons_zero, List.getElem?_cons_succ] at g0 g1
      have hk2 := kind_some HK.out
      have hfj := fields_j k
      obtain ⟨fs, hfs⟩ : ∃ z, fieldsF k = z := ⟨_, rfl⟩
      have HFS := hide hfs
      rw [hfs] at g1 hfj
      have HFJ := hide hfj
      obtain ⟨m, hm⟩ : ∃ m, fs.length = m := ⟨_, rfl⟩
      have hm3 : m ≤ 3 := by
        rw [← hm, ← hfs]
        unfold fieldsF
        split <;> simp
      rw [hm] at g1
      have HM := hide hm
      have hwl := word_len k
      obtain ⟨wd, hwd⟩ : ∃ z, wordF k = z := ⟨_, rfl⟩
      have HWD := hide hwd
      rw [hwd] at g0 hwl
      clear hfb hLn hfs hfj hm hwd HF HBX HBL q0
      go_wp2_with fail
      go_loopg [6, 23] m (fun kx s6 s23 wr => ∃ i : Nat, s23 = .int .i64 i ∧ s6 = .string (mkB (wd.data.toList ++ numsL ⟨kind, sp, num, n⟩ (fs.take i))) ∧ i ≤ m ∧ m - i ≤ kx ∧ LnAt w wr ⟨kind, sp, num, n⟩ w.heap.size M B)
      case atStart => exact ⟨0, rfl, by rw [List.take_zero]; simp [numsL]; exact (mkB_eta _).symm, by omega, by omega, HLN.out⟩
      case round =>
        clear HLN HFB g0 g1
        obtain ⟨i, rfl, rfl, hi, hkx, hC⟩ := hrel
        have HC := hide hC
        have hbx := hC.bx
        clear hC
        by_cases hlt : i < m
        · have hlti : (i : Int) < (m : Int) := by omega
          have hi0 : (0 : Int) ≤ (i : Int) := by omega
          obtain ⟨f, hf⟩ : ∃ f, fs[i]? = some f := ⟨_, List.getElem?_eq_getElem (by rw [HM.out]; exact hlt)⟩
          have hj := HFJ.out f (List.mem_of_getElem? hf)
          obtain ⟨z0, z1, z2⟩ := HC.out.fm.field (k := k) (by omega) (by rw [HFS.out]; exact hf)
          have eg := fid_enters f.j hj
          have CN := hide (fun b W => fid_any f.j hj b W)
          obtain ⟨g, hg⟩ : ∃ g, fidF f.j = g := ⟨_, rfl⟩
          rw [hg] at z0 eg CN
          have eg' : ∀ args w, (callFunc g args).run Tryd.prog w = .ok (.enter g args) w := eg
          have hev := hbx.cell f.j
          rw [ev_cell _ _ hj] at hev
          have hxl := Blk.lt hbx
          have hns := nums_succ (e := ⟨kind, sp, num, n⟩) hf
          have hvb := HS.out f.j
          have hcl := cell_lt' z0
          have hnl := nums_len HS.out (fs.take i)
          have htl : (fs.take i).length ≤ 3 := by rw [List.length_take]; omega
          obtain ⟨v, hv⟩ : ∃ v, EV.get ⟨kind, sp, num, n⟩ f.j = v := ⟨_, rfl⟩
          rw [hv] at hev hvb hns
          have hil := Lib.itoa_length_le v hvb.1 hvb.2
          obtain ⟨fj, flo, fhi⟩ := f
          simp only [] at *
          obtain ⟨sk, hsk⟩ : ∃ z, mkB (wd.data.toList ++ numsL ⟨kind, sp, num, n⟩ (fs.take i)) = z := ⟨_, rfl⟩
          obtain ⟨iv, hiv⟩ : ∃ z, (⟨(Lib.itoa v).toArray⟩ : ByteArray) = z := ⟨_, rfl⟩
          have hsz : sk.size ≤ 100 := by rw [← hsk, Lib.size_eq, mkB_data, List.length_append, ← Lib.size_eq]; omega
          have hivz : iv.size ≤ 30 := by rw [← hiv, Lib.size_eq]; show (Lib.itoa v).length ≤ 30; omega
          have HIT := hide (fun W (E : Env W) => Tryd.strconv_Itoa v hvb.1 hvb.2 W E.tab)
          rw [hiv] at HIT
          have hnx : sk ++ ((⟨#[32]⟩ : ByteArray) ++ iv) = mkB (wd.data.toList ++ numsL ⟨kind, sp, num, n⟩ (fs.take (i + 1))) := by
            apply ba_eq
            rw [hns, ← hsk, ← hiv]
            simp [mkB_data]
          have HNX := hide hnx
          rw [hsk]
          have hax : Below wr.heap.size wr (wr.alloc (.cells #[.func (.func g) #[] #[], .int .i64 flo, .int .i64 fhi] 88)) := (Below.refl _ _).alloc (Nat.le_refl _) _
          have HC2 := hide (HC.out.below hax)
          clear hns hv hg eg hf hbx hsk hiv hnx hax hnl htl hil HC hvb
          go_wp2_with (first | (go_at_fn g; refine (CN.out _ _).mono ?_; rintro e1 w1 ⟨rfl, rfl⟩))
          refine (HIT.out _ HC2.out.env).mono ?_
          rintro e3 w3 ⟨rfl, k3, os3, hw3⟩
          have hb3 : Below _ _ w3 := hw3 ▸ Lib.below_grow _ _ (Nat.le_refl _) _ _
          have HC3 := hide (HC2.out.below hb3)
          clear hw3 hb3 HC2
          go_wp2_with fail
          go_roundg (m - (i + 1))
          case rel => exact ⟨i + 1, by go_num, by rw [HNX.out], by omega, by omega, HC3.out⟩
          case measure => omega
        · have him : i = m := by omega
          subst him
          have htk : fs.take i = fs := List.take_of_length_le (by rw [HM.out]; exact Nat.le_refl _)
          have hnl := nums_len HS.out fs
          rw [HM.out] at hnl
          have hfin : mkB (wd.data.toList ++ numsL ⟨kind, sp, num, n⟩ fs) ++ (⟨#[10]⟩ : ByteArray) = res := by
            rw [← HRES.out]
            apply ba_eq
            rw [HLE.out, HFS.out, HWD.out]
            simp [mkB_data]
          rw [htk]
          obtain ⟨sk, hsk⟩ : ∃ z, mkB (wd.data.toList ++ numsL ⟨kind, sp, num, n⟩ fs) = z := ⟨_, rfl⟩
          have hsz : sk.size ≤ 100 := by rw [← hsk, Lib.size_eq, mkB_data, List.length_append, ← Lib.size_eq]; omega
          rw [hsk] at hfin ⊢
          clear htk hnl hsk hbx hkx hi hlt
          go_wp2_with fail
          exact bodyPost_ret (v := .tuple #[.string res, .int .i64 0]) (by simp [results, Tryd.results23, go_sem]) rfl ⟨rfl, HC.out.bl⟩
  · rw [her] at HCK
    rw [if_neg (by omega)]
    clear her he0 h0 ha0 hE hs
    obtain ⟨kind, sp, num, n⟩ := e
    simp only [evC] at HB0 HA0 HCK ⊢
    go_enter Tryd.func23, Tryd.ntmps23
    go_wp2_with fail
    refine (HCK.out _).mono ?_
    rintro e1 w1 ⟨rfl, hb1⟩
    go_wp2_with fail
    exact bodyPost_ret (v := .tuple #[.string ⟨#[]⟩, .int .i64 2]) (by simp [results, Tryd.results23, go_sem]) rfl ⟨rfl, below2 HA0.out hb1⟩
end Go.Proofs.YtbpeienllhbffaaDoor
