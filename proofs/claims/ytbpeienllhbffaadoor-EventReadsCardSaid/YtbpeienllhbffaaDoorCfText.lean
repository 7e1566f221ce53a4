/-
  conf.Text: a setting as lines. Printed by wip/genc2.py.
-/
import Derived.Test.YtbpeienllhbffaaDoorCfEnv
import Derived.Test.YtbpeienllhbffaaDoorCfPlainB
import Derived.Test.YtbpeienllhbffaaDoorRegionStore
import Derived.Lib.ItoaLen
import Derived.Lib.AppendIntMem
namespace Go.Proofs.YtbpeienllhbffaaDoor
set_option linter.unusedSimpArgs false
set_option linter.unusedVariables false
open Go.RowKit Go.Shelf

theorem bldF_below {T e : TypeId} {B b : Nat} {bs : List Value} {W W' : World} (h : Lib.IsBuilderF T e B b bs W) (hb : Below W.heap.size W W') : Lib.IsBuilderF T e B b bs W' := by
  have key : ∀ p, Lib.BuilderAtF T e B b p bs W → Lib.BuilderAtF T e B b p bs W' := fun p h => by
    have hlt := h.lt
    obtain ⟨hB, v, hv, hown, hne⟩ := h
    exact ⟨hB, v, (hb.block b hlt).trans hv, hown.kept (row := none) ⟨hb.os, hb.tape, hb.output, hb.size, fun k hk _ => hb.block k hk⟩ (Classical.em _), hne⟩
  exact h.elim (fun x => .inl (key _ x)) (fun x => .inr (key _ x))
/-- What a round of Text leaves. -/
structure TxAt (w W : World) (b xb A : Nat) (c : CF) (n : Nat) : Prop where
  env : Env W
  fs : FieldsAt W xb c.sv c.vals
  nm : NamesAt W A
  bd : Lib.IsBuilderF 72 5 b b (Lib.byteCells (textL c n)) W
  bl : Below w.heap.size w W
  ge : w.heap.size ≤ b
  six : 6 ≤ w.heap.size
  xa : b < xb ∧ b < A
theorem TxAt.below {w W W' : World} {b xb A n : Nat} {c : CF} (h : TxAt w W b xb A c n) (hb : Below W.heap.size W W') : TxAt w W' b xb A c n := ⟨h.env.later hb, h.fs.below hb, h.nm.below hb, bldF_below h.bd hb, below2 h.bl hb, h.ge, h.six, h.xa⟩
theorem TxAt.lt {w W : World} {b xb A n : Nat} {c : CF} (h : TxAt w W b xb A c n) : b < W.heap.size := Nat.lt_trans h.xa.1 h.fs.blk.lt
theorem TxAt.write {w W W' : World} {b xb A n : Nat} {c : CF} (h : TxAt w W b xb A c n) (hbd : Lib.IsBuilderF 72 5 b b (Lib.byteCells (textL c (n + 1))) W') (hb : Below b W W') (ho : Lib.OthersKept 5 (some b) W W') : TxAt w W' b xb A c (n + 1) :=
  ⟨h.env.below hb (Nat.le_trans h.six h.ge), ⟨h.fs.len, ho _ _ h.fs.blk (by have := h.xa.1; simp; omega) (fun cs fz e => by cases e)⟩, h.nm.eq fun cs hB => ho _ _ hB (by have := h.xa.2; simp; omega) (fun cs fz e => by cases e), hbd, h.bl.trans (hb.mono h.ge), h.ge, h.six, h.xa⟩
set_option maxRecDepth 100000 in
set_option maxHeartbeats 8000000 in
theorem text_any (c : CF) (w : World) (hE : Env w) (hc : c.small) : Calls Tryd.prog 29 #[.agg (confC c)] w fun e w' => e = .returned (if errC c = 0 then .tuple #[.string ⟨(textL c 10).toArray⟩, .int .i64 0] else .tuple #[.string ⟨#[]⟩, .int .i64 (errC c)]) ∧ Below w.heap.size w w' := by
  have HE := hide hE
  have HC := hide hc
  have hb0 : Below w.heap.size w (w.alloc (.cells (confC c) 46)) := (Below.refl _ _).alloc (Nat.le_refl _) _
  have HB0 := hide hb0
  have hch := fun W => check_any c W
  have hop := fun W => opened_any c W
  have HCH := hide hch
  have HOP := hide hop
  clear hE hc hb0 hch hop
  obtain ⟨er, her⟩ : ∃ er, errC c = er := ⟨_, rfl⟩
  rw [her] at HCH ⊢
  unfold confC at HB0 HCH HOP ⊢
  go_enter Tryd.func29, Tryd.ntmps29
  go_wp2_with fail
  refine (HCH.out _).mono ?_
  rintro e1 w1 ⟨rfl, hb1⟩
  have HB1 := hide (below2 HB0.out hb1)
  by_cases h0 : er = 0
  · subst h0
    have hbox : ConfAt w1 w.heap.size c := (hb1.block _ (Blk.new w 46 (confC c)).lt).trans (Blk.new w 46 (confC c))
    have hbl : w.heap.size < w1.heap.size := Blk.lt hbox
    have k0 := Blk.cell hbox 0
    have k1 := Blk.cell hbox 1
    have k2 := Blk.cell hbox 2
    have k3 := Blk.cell hbox 3
    have k4 := Blk.cell hbox 4
    have k5 := Blk.cell hbox 5
    have k6 := Blk.cell hbox 6
    have k7 := Blk.cell hbox 7
    have k8 := Blk.cell hbox 8
    have k9 := Blk.cell hbox 9
    simp only [confC, List.getElem?_toArray, List.getElem?_cons_zero, List.getElem?_cons_succ] at k0 k1 k2 k3 k4 k5 k6 k7 k8 k9
    clear hbox hb1
    go_wp2_with fail
    refine (HOP.out _).mono ?_
    rintro e2 w2 ⟨xb, rfl, hF2, hx2, hb2⟩
    have hz2 := hb2.size
    have hx2 : w1.heap.size + 1 ≤ xb := by simpa using hx2
    have hz2 : w1.heap.size + 1 ≤ w2.heap.size := by simpa using hz2
    clear k0 k1 k2 k3 k4 k5 k6 k7 k8 k9
    go_wp2_with fail
    refine (rows_any _).mono ?_
    rintro e3 w3 ⟨A, rfl, hR3, hA3, hb3⟩
    have hb12 : Below w1.heap.size w1 w2 := ((Below.refl _ _).alloc (Nat.le_refl _) _).trans (hb2.mono (by simp))
    have hT3 : TxAt w w3 w1.heap.size xb A c 0 := ⟨HE.out.later (below2 HB1.out (below2 hb12 hb3)), hF2.below hb3, hR3.names, bldF_below (bldF_below (Lib.IsBuilderF.of (Lib.fresh_isBuilder 72 5 w1)) hb2) hb3, below2 HB1.out (below2 hb12 hb3), HB1.out.size, HE.out.size, by omega, by omega⟩
    have HT3 := hide hT3
    clear hF2 hR3 hT3 hb2 hb3 hb12
    go_wp2_with fail
    go_loopg [18] 10 (fun kx s18 wr => ∃ i : Nat, s18 = .int .i64 i ∧ i ≤ 10 ∧ 10 - i ≤ kx ∧ TxAt w wr w1.heap.size xb A c i)
    case atStart => exact ⟨0, rfl, by omega, by omega, HT3.out⟩
    case round =>
      clear HT3
      obtain ⟨i, rfl, hi, hkx, hT⟩ := hrel
      by_cases hlt : i < 10
      · have hin : (i : Int) < 10 := by omega
        have hi0 : (0 : Int) ≤ (i : Int) := by omega
        obtain ⟨v, u, z0, z1, z2, hN, g2, lb2, rfl⟩ := hT.nm.row hlt
        obtain ⟨g, lb, rfl, eg, cN⟩ := hN
        have CN := hide cN
        have eg' : ∀ args w, (callFunc g args).run Tryd.prog w = .ok (.enter g args) w := eg
        obtain ⟨x, hx⟩ : ∃ x, valF c i = x := ⟨_, rfl⟩
        have hx2 := HC.out i hlt
        rw [hx] at hx2
        have hxl := textL_len HC.out i (by omega)
        have hll := lineL_len HC.out hlt
        have hwlt := hT.lt
        have hnz := name_len i hlt
        have htl := Lib.itoa_length_le x hx2.1 hx2.2
        obtain ⟨t, ht⟩ : ∃ t : ByteArray, (⟨(Lib.itoa x).toArray⟩ : ByteArray) = t := ⟨_, rfl⟩
        have htd : t.data.toList = Lib.itoa x := by rw [← ht]
        obtain ⟨nm, hnm⟩ : ∃ s, nameB i = s := ⟨_, rfl⟩
        obtain ⟨s1, hs1⟩ : ∃ s, nm ++ (⟨#[32]⟩ : ByteArray) = s := ⟨_, rfl⟩
        obtain ⟨s2, hs2⟩ : ∃ s, s1 ++ t = s := ⟨_, rfl⟩
        obtain ⟨s3, hs3⟩ : ∃ s, s2 ++ (⟨#[10]⟩ : ByteArray) = s := ⟨_, rfl⟩
        have hl3 : s3.data.toList = lineL c i := by
          rw [← hs3, ba_app, ← hs2, ba_app, ← hs1, ba_app, htd, ← hnm]
          unfold lineL
          rw [hx]
        rw [hnm] at hnz z0
        have hz0 : nm.size ≤ 8 := by rw [ba_size]; exact hnz
        have hzt : t.size ≤ 21 := by rw [ba_size, htd]; exact htl
        have hz1 : s1.size ≤ 9 := by rw [← hs1, ba_size, ba_app, List.length_append, ← ba_size, ← ba_size]; show nm.size + 1 ≤ 9; omega
        have hz2' : s2.size ≤ 30 := by rw [← hs2, ba_size, ba_app, List.length_append, ← ba_size, ← ba_size]; omega
        have hz3 : s3.size ≤ 31 := by rw [ba_size, hl3]; exact hll
        have HL3 := hide hl3
        clear htd hl3
        have hN : Blk (wr.alloc (.cells #[.string nm, .func (.func g) #[] lb, .func (.func g2) #[] lb2] 100)) wr.heap.size 100 #[.string nm, .func (.func g) #[] lb, .func (.func g2) #[] lb2] := Blk.new _ _ _
        have HN := hide hN
        have HT := hide (hT.below ((Below.refl _ _).alloc (Nat.le_refl _) (.cells #[.string nm, .func (.func g) #[] lb, .func (.func g2) #[] lb2] 100)))
        have hgx : ∀ W, FieldsAt W xb c.sv c.vals → W.cell? ⟨xb, offF i, none⟩ = some (.int .i64 x) := fun W h => by rw [h.get hlt]; exact congrArg (fun z => some (Value.int .i64 z)) hx
        have HGX := hide hgx
        clear hN cN eg hT hgx
        go_wp2_with fail
        refine wp_region_S (fun w' => w'.cell? ⟨wr.heap.size, 0, none⟩ = some (.string nm) ∧ w'.cell? ⟨wr.heap.size, 1, none⟩ = some (.func (.func g) #[] lb) ∧ w'.cell? ⟨xb, offF i, none⟩ = some (.int .i64 x)) 1000 (by kernel_rfl) (by exact ⟨HN.out.cell 0, HN.out.cell 1, HGX.out _ (HT.out.below (Below.refl _ _).drew).fs⟩) (fun hHeld => ?_)
        have HTD := hide (HT.out.below (Below.refl _ _).drew)
        have HND := hide ((HN.out).drew)
        refine wpAnyS_take (i := 0) (v := ?_) rfl (by kernel_rfl) (by kernel_rfl) (by kernel_rfl) (by kernel_rfl) (fun _ _ _ h => h) (Or.inl ⟨by rfl, ?_⟩) (by assumption) ?_
        rotate_left
        · intro w hSw; (try dsimp only at hSw); go_simp; try with_reducible rfl
        try simp only [Act.put, List.getElem_toArray, List.getElem_cons_succ, List.getElem_cons_zero, List.setIfInBounds_toArray, List.set_cons_zero, List.set_cons_succ]
        refine wpAnyS_take (i := 1) (v := ?_) rfl (by kernel_rfl) (by kernel_rfl) (by kernel_rfl) (by kernel_rfl) (fun _ _ _ h => h) (Or.inl ⟨by rfl, ?_⟩) (by assumption) ?_
        rotate_left
        · intro w hSw; (try dsimp only at hSw); go_simp; try with_reducible rfl
        try simp only [Act.put, List.getElem_toArray, List.getElem_cons_succ, List.getElem_cons_zero, List.setIfInBounds_toArray, List.set_cons_zero, List.set_cons_succ]
        refine wpAnyS_take (i := 2) (v := .string s1) rfl (by kernel_rfl) (by kernel_rfl) (by kernel_rfl) (by kernel_rfl) (fun _ _ _ h => h) (Or.inl ⟨by rfl, ?_⟩) (by assumption) ?_
        · intro w hSw; (try dsimp only at hSw); go_simp; all_goals (first | rfl | omega | (rw [hs1]))
        try simp only [Act.put, List.getElem_toArray, List.getElem_cons_succ, List.getElem_cons_zero, List.setIfInBounds_toArray, List.set_cons_zero, List.set_cons_succ]
        refine wpAnyS_take (i := 3) (v := ?_) rfl (by kernel_rfl) (by kernel_rfl) (by kernel_rfl) (by kernel_rfl) (fun _ _ _ h => h) (Or.inl ⟨by rfl, ?_⟩) (by assumption) ?_
        rotate_left
        · intro w hSw; (try dsimp only at hSw); go_simp; try with_reducible rfl
        try simp only [Act.put, List.getElem_toArray, List.getElem_cons_succ, List.getElem_cons_zero, List.setIfInBounds_toArray, List.set_cons_zero, List.set_cons_succ]
        refine wpAnyS_take (i := 4) (v := ?_) rfl (by kernel_rfl) (by kernel_rfl) (by kernel_rfl) (by kernel_rfl) (fun _ _ _ h => h) (Or.inl ⟨by rfl, ?_⟩) (by assumption) ?_
        rotate_left
        · intro w hSw; (try dsimp only at hSw); go_simp; try with_reducible rfl
        try simp only [Act.put, List.getElem_toArray, List.getElem_cons_succ, List.getElem_cons_zero, List.setIfInBounds_toArray, List.set_cons_zero, List.set_cons_succ]
        refine wpAnyS_take (i := 5) (v := ?_) rfl (by kernel_rfl) (by kernel_rfl) (by kernel_rfl) (by kernel_rfl) (fun _ _ _ h => h) (Or.inl ⟨by rfl, ?_⟩) (by assumption) ?_
        rotate_left
        · intro w hSw; (try dsimp only at hSw); go_simp; try with_reducible rfl
        try simp only [Act.put, List.getElem_toArray, List.getElem_cons_succ, List.getElem_cons_zero, List.setIfInBounds_toArray, List.set_cons_zero, List.set_cons_succ]
        refine wpAnyS_one (i := 6) rfl (by kernel_rfl) (fun K hK => ?_)
        go_simp; go_at_fn g; refine (CN.out _ _).mono ?_; rintro e5 w5 ⟨rfl, rfl⟩
        refine hK.out _ _ (fun _ => hHeld) (fun hH => ?_)
        have hHeld := hH rfl
        clear hK K hH
        try simp only [Act.put, List.getElem_toArray, List.getElem_cons_succ, List.getElem_cons_zero, List.setIfInBounds_toArray, List.set_cons_zero, List.set_cons_succ]
        refine wpAnyS_take (i := 7) (v := ?_) rfl (by kernel_rfl) (by kernel_rfl) (by kernel_rfl) (by kernel_rfl) (fun _ _ _ h => h) (Or.inl ⟨by rfl, ?_⟩) (by assumption) ?_
        rotate_left
        · intro w hSw; (try dsimp only at hSw); go_simp; try with_reducible rfl
        try simp only [Act.put, List.getElem_toArray, List.getElem_cons_succ, List.getElem_cons_zero, List.setIfInBounds_toArray, List.set_cons_zero, List.set_cons_succ]
        refine wpAnyS_take (i := 8) (v := ?_) rfl (by kernel_rfl) (by kernel_rfl) (by kernel_rfl) (by kernel_rfl) (fun _ _ _ h => h) (Or.inl ⟨by rfl, ?_⟩) (by assumption) ?_
        rotate_left
        · intro w hSw; (try dsimp only at hSw); go_simp; try with_reducible rfl
        try simp only [Act.put, List.getElem_toArray, List.getElem_cons_succ, List.getElem_cons_zero, List.setIfInBounds_toArray, List.set_cons_zero, List.set_cons_succ]
        refine wpAnyS_one (i := 9) rfl (by kernel_rfl) (fun K hK => ?_)
        go_simp; go_at_call 51; refine (Tryd.strconv_Itoa x hx2.1 hx2.2 _ HTD.out.env.tab).mono ?_; rintro e6 w6 ⟨rfl, k6, os6, hw6⟩; rw [ht]; have hb6 : Below _ _ w6 := hw6 ▸ Lib.below_grow _ _ (Nat.le_refl _) _ _; clear hw6; have HT6 := hide (HTD.out.below hb6); have HN6 := hide ((hb6.block _ HND.out.lt).trans HND.out : Blk w6 wr.heap.size _ _)
        refine hK.out _ _ (fun _ => ⟨Blk.cell HN6.out 0, Blk.cell HN6.out 1, HGX.out _ HT6.out.fs⟩) (fun hH => ?_)
        have hHeld := hH rfl
        clear hK K hH
        try simp only [Act.put, List.getElem_toArray, List.getElem_cons_succ, List.getElem_cons_zero, List.setIfInBounds_toArray, List.set_cons_zero, List.set_cons_succ]
        refine wpAnyS_take (i := 10) (v := .string s2) rfl (by kernel_rfl) (by kernel_rfl) (by kernel_rfl) (by kernel_rfl) (fun _ _ _ h => h) (Or.inl ⟨by rfl, ?_⟩) (by assumption) ?_
        · intro w hSw; (try dsimp only at hSw); go_simp; all_goals (first | rfl | omega | (rw [hs2]))
        try simp only [Act.put, List.getElem_toArray, List.getElem_cons_succ, List.getElem_cons_zero, List.setIfInBounds_toArray, List.set_cons_zero, List.set_cons_succ]
        refine wpAnyS_take (i := 11) (v := .string s3) rfl (by kernel_rfl) (by kernel_rfl) (by kernel_rfl) (by kernel_rfl) (fun _ _ _ h => h) (Or.inl ⟨by rfl, ?_⟩) (by assumption) ?_
        · intro w hSw; (try dsimp only at hSw); go_simp; all_goals (first | rfl | omega | (rw [hs3]))
        try simp only [Act.put, List.getElem_toArray, List.getElem_cons_succ, List.getElem_cons_zero, List.setIfInBounds_toArray, List.set_cons_zero, List.set_cons_succ]
        refine wpAnyS_one (i := 12) rfl (by kernel_rfl) (fun K hK => ?_)
        go_simp; go_at_call 45; refine (Tryd.Builder_WriteString_k w1.heap.size w1.heap.size (Lib.byteCells (textL c i)) s3 _ HT6.out.bd (by rw [Lib.byteCells_length]; omega) (Nat.le_of_lt HT6.out.lt)).mono ?_; rintro e7 w7 ⟨rfl, hbd7, hb7, ho7⟩; have HT7 := hide (HT6.out.write (by rw [textL_succ, Lib.byteCells_append, ← HL3.out]; exact .inr hbd7) hb7 ho7); have HN7 := hide (ho7 _ _ HN6.out (by simp; omega) (fun cs fz e => by cases e) : Blk w7 wr.heap.size _ _)
        refine hK.out _ _ (fun _ => ⟨Blk.cell HN7.out 0, Blk.cell HN7.out 1, HGX.out _ HT7.out.fs⟩) (fun hH => ?_)
        have hHeld := hH rfl
        clear hK K hH
        try simp only [Act.put, List.getElem_toArray, List.getElem_cons_succ, List.getElem_cons_zero, List.setIfInBounds_toArray, List.set_cons_zero, List.set_cons_succ]
        refine wpAnyS_done (by kernel_rfl) ?_ _
        clear hHeld
        go_wp2_with fail
        go_roundg (10 - (i + 1))
        case rel => exact ⟨i + 1, by go_num, by omega, by omega, HT7.out⟩
        case measure => omega
      · have hi10 : i = 10 := by omega
        subst hi10
        have HT := hide hT
        clear hT hkx hlt
        go_wp2_with fail
        refine (Tryd.Builder_String_k w1.heap.size w1.heap.size (textL c 10) wr HT.out.bd (textL_ne c)).mono ?_
        rintro e4 w4 ⟨rfl, _, hb4, _⟩
        go_wp2_with fail
        exact bodyPost_ret (v := .tuple #[.string ⟨(textL c 10).toArray⟩, .int .i64 0]) (by simp [results, Tryd.results29, go_sem]) rfl ⟨rfl, HT.out.bl.trans (hb4.mono HT.out.ge)⟩
  · have hne : (er == 0) = false := by rw [beq_eq_false_iff_ne]; exact h0
    go_wp2_with fail
    exact bodyPost_ret (v := .tuple #[.string ⟨#[]⟩, .int .i64 er]) (by simp [results, Tryd.results29, go_sem]) rfl ⟨rfl, HB1.out⟩
end Go.Proofs.YtbpeienllhbffaaDoor
