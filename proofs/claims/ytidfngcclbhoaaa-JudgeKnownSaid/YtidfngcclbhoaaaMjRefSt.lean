/-
 The document: sent: 2 texts in one (JrSent, JrSentP).
-/
import Derived.Test.YtidfngcclbhoaaaMjRefB
import Derived.StillTail
import Derived.Deep.RegionHeld3
namespace Go.Proofs.Ytidfngcclbhoaaa
open List renaming getElem_toArray → ZA, getElem_cons_zero → ZB, getElem_cons_succ → ZC, setIfInBounds_toArray → ZD, set_cons_zero → ZE, set_cons_succ → ZF, getElem?_toArray → ZG, getElem?_cons_zero → ZH, getElem?_cons_succ → ZJ
open Go.AllReadyH renaming cons → ZS, nil → ZN
open Go.Act renaming put → ZP
open Go.Value renaming int → ZI
open Go.IntKind renaming i64 → ZQ
set_option linter.unusedSimpArgs false
set_option linter.unusedVariables false
open Go.RowKit Go.Shelf
set_option maxRecDepth 100000 in
set_option maxHeartbeats 8000000 in
theorem rsent_plain (b base : Nat) (k : KN) (vL vA vR vP : Value) (r : RW) (w : World) (hK : KrAt w b base k vL vA vR vP) (hfn : k.flying.length ≤ 1900) (hpl : k.paced.length ≤ 1900) (hsp : r.o.sp = 0) (hfl : r.o.fl = true) (hpr : r.o.pr = false) :
  Calls Try.prog 76 #[.pointer (some ⟨b, 0, none⟩), .agg (rwC r)] w fun e w' => e = .returned (.tuple #[]) ∧ ∃ vL' vA' vP', KrAt w' b base (sentK k r.o r.t) vL' vA' vR vP' ∧ FarR base w w' := by
 obtain ⟨kind, rt, rsp, rsize, ⟨osp, onum, osize, oel, ofl, opr, oect⟩, delay, ra, rn, rc, marked, e0, e1, e2, ea, en, ec, err, smooth⟩ := r
 simp only at hsp hfl hpr ⊢
 subst hsp hfl hpr
 have HK := hide hK
 have hko := own_old (g := w.heap.size + 1) hK.l (Nat.le_succ _)
 have hkl := hK.blk.lt
 go_enter Try.func76, Try.ntmps76
 unfold rwC
 go_upto_region 2 with (fail)
 have hs : RaSt w ((w.alloc (.cells #[ZI ZQ kind, ZI ZQ rt, ZI ZQ rsp, ZI ZQ rsize, ZI ZQ 0, ZI ZQ onum, ZI ZQ osize, .bool oel, .bool true, .bool false, .bool oect, ZI ZQ delay, .slice ra rn rc, .bool marked, ZI ZQ e0, ZI ZQ e1, ZI ZQ e2, .slice ea en ec, ZI ZQ err, ZI ZQ smooth] 93)).alloc (.cells #[ZI ZQ 0, ZI ZQ onum, ZI ZQ osize, .bool oel, .bool true, .bool false, .bool oect] 28)) b base k k.flying k.flying vL vA vR vP w.heap.size (w.heap.size + 1) #[ZI ZQ kind, ZI ZQ rt, ZI ZQ rsp, ZI ZQ rsize, ZI ZQ 0, ZI ZQ onum, ZI ZQ osize, .bool oel, .bool true, .bool false, .bool oect, ZI ZQ delay, .slice ra rn rc, .bool marked, ZI ZQ e0, ZI ZQ e1, ZI ZQ e2, .slice ea en ec, ZI ZQ err, ZI ZQ smooth] ⟨0, onum, osize, oel, true, false, oect⟩ := by
  have ha : Below w.heap.size w ((w.alloc (.cells #[ZI ZQ kind, ZI ZQ rt, ZI ZQ rsp, ZI ZQ rsize, ZI ZQ 0, ZI ZQ onum, ZI ZQ osize, .bool oel, .bool true, .bool false, .bool oect, ZI ZQ delay, .slice ra rn rc, .bool marked, ZI ZQ e0, ZI ZQ e1, ZI ZQ e2, .slice ea en ec, ZI ZQ err, ZI ZQ smooth] 93)).alloc (.cells #[ZI ZQ 0, ZI ZQ onum, ZI ZQ osize, .bool oel, .bool true, .bool false, .bool oect] 28)) := ((Below.refl _ _).alloc (Nat.le_refl _) _).alloc (by simp) _
  have hl := HK.out.later ha
  refine ⟨hl.blk, hl.l, hl.a, hl.r, hl.p, hl.ge, (Blk.new _ _ _).alloc _, ?_, FarR.of_below ha (Nat.le_of_lt (Nat.lt_of_le_of_lt hK.ge hK.blk.lt))⟩
  have := Blk.new (w.alloc (.cells #[ZI ZQ kind, ZI ZQ rt, ZI ZQ rsp, ZI ZQ rsize, ZI ZQ 0, ZI ZQ onum, ZI ZQ osize, .bool oel, .bool true, .bool false, .bool oect, ZI ZQ delay, .slice ra rn rc, .bool marked, ZI ZQ e0, ZI ZQ e1, ZI ZQ e2, .slice ea en ec, ZI ZQ err, ZI ZQ smooth] 93)) 28 #[ZI ZQ 0, ZI ZQ onum, ZI ZQ osize, .bool oel, .bool true, .bool false, .bool oect]
  simpa [outL] using this
 obtain ⟨W1, hW1⟩ : ∃ x, (w.alloc (.cells #[ZI ZQ kind, ZI ZQ rt, ZI ZQ rsp, ZI ZQ rsize, ZI ZQ 0, ZI ZQ onum, ZI ZQ osize, .bool oel, .bool true, .bool false, .bool oect, ZI ZQ delay, .slice ra rn rc, .bool marked, ZI ZQ e0, ZI ZQ e1, ZI ZQ e2, .slice ea en ec, ZI ZQ err, ZI ZQ smooth] 93)).alloc (.cells #[ZI ZQ 0, ZI ZQ onum, ZI ZQ osize, .bool oel, .bool true, .bool false, .bool oect] 28) = x := ⟨_, rfl⟩
 obtain ⟨R, hR⟩ : ∃ x, w.heap.size = x := ⟨_, rfl⟩
 rw [hW1, hR] at hs
 rw [hR] at hko
 rw [hW1, hR]
 have hBO : ∀ (W : World), (Blk W (R + 1) 28 (outL ⟨0, onum, osize, oel, true, false, oect⟩).toArray ∧ Blk W R 93 #[ZI ZQ kind, ZI ZQ rt, ZI ZQ rsp, ZI ZQ rsize, ZI ZQ 0, ZI ZQ onum, ZI ZQ osize, .bool oel, .bool true, .bool false, .bool oect, ZI ZQ delay, .slice ra rn rc, .bool marked, ZI ZQ e0, ZI ZQ e1, ZI ZQ e2, .slice ea en ec, ZI ZQ err, ZI ZQ smooth]) → W.cell? ⟨R + 1, 0, none⟩ = some (ZI ZQ 0) ∧ W.cell? ⟨R + 1, 1, none⟩ = some (ZI ZQ onum) ∧ W.cell? ⟨R + 1, 2, none⟩ = some (ZI ZQ osize) ∧ W.cell? ⟨R + 1, 3, none⟩ = some (.bool oel) ∧ W.cell? ⟨R + 1, 4, none⟩ = some (.bool true) ∧ W.cell? ⟨R + 1, 5, none⟩ = some (.bool false) ∧ W.cell? ⟨R + 1, 6, none⟩ = some (.bool oect) ∧ W.cell? ⟨R, 1, none⟩ = some (ZI ZQ rt) := fun W h => ⟨h.1.cell 0, h.1.cell 1, h.1.cell 2, h.1.cell 3, h.1.cell 4, h.1.cell 5, h.1.cell 6, h.2.cell 1⟩
 have HBO := hide hBO
 clear hBO hW1 hR hkl
 obtain ⟨i0, hi0, hz0, hz1, hz2⟩ := info_parts out_info
 obtain ⟨A8, c8, rfl⟩ := own_sl hs.l
 have ho := hs.l
 obtain ⟨M, hM⟩ : ∃ x, k.flying.length = x := ⟨_, rfl⟩
 rw [hM] at ho
 obtain ⟨xs, hxs⟩ : ∃ x, k.flying.flatMap oL = x := ⟨_, rfl⟩
 rw [hxs] at ho
 have hMl : M ≤ 1900 := by omega
 have kc := hs.blk.cell 16
 have fc := hs.blk.frozen 16
 have hbase := hs.room
 simp only [krC, hM, ZG, ZH, ZJ] at kc
 have hneR := own_ne ho hs.row (by decide)
 have hneO : some (R + 1) ≠ (Value.slice A8 M c8).ownBlock := by rw [← hM]; exact hko
 have hneB := own_ne ho hs.blk (by decide)
 have kca : (W1.alloc (.cells #[ZI ZQ 0, ZI ZQ onum, ZI ZQ osize, .bool oel, .bool true, .bool false, .bool oect] 28)).cell? ⟨b, 16, none⟩ = some (.slice A8 M c8) := by have := (hs.blk.alloc (.cells #[ZI ZQ 0, ZI ZQ onum, ZI ZQ osize, .bool oel, .bool true, .bool false, .bool oect] 28)).cell 16; rw [this]; simp [krC, hM]
 have kcb : (W1.alloc (.cells #[ZI ZQ 0, ZI ZQ onum, ZI ZQ osize, .bool oel, .bool true, .bool false, .bool oect] 28)).drew.cell? ⟨b, 16, none⟩ = some (.slice A8 M c8) := kca
 have HPX : Hid ((k.flying ++ [(⟨⟨0, onum, osize, oel, true, false, oect⟩, rt⟩ : PKT)]).length = M + 1 ∧ (k.flying ++ [(⟨⟨0, onum, osize, oel, true, false, oect⟩, rt⟩ : PKT)]).flatMap oL = xs ++ [ZI ZQ 0, ZI ZQ onum, ZI ZQ osize, .bool oel, .bool true, .bool false, .bool oect]) := ⟨by rw [List.length_append, hM]; rfl, by rw [List.flatMap_append, hxs]; rfl⟩
 have hM' := hide hM
 have hS0 : Blk W1.drew (R + 1) 28 (outL ⟨0, onum, osize, oel, true, false, oect⟩).toArray ∧ Blk W1.drew R 93 #[ZI ZQ kind, ZI ZQ rt, ZI ZQ rsp, ZI ZQ rsize, ZI ZQ 0, ZI ZQ onum, ZI ZQ osize, .bool oel, .bool true, .bool false, .bool oect, ZI ZQ delay, .slice ra rn rc, .bool marked, ZI ZQ e0, ZI ZQ e1, ZI ZQ e2, .slice ea en ec, ZI ZQ err, ZI ZQ smooth] := ⟨hs.drew.out, hs.drew.row⟩
 have HS1 := hide hs
 go_cut [] (fun wx => ∃ vL', RaSt w wx b base k (k.flying ++ [(⟨⟨0, onum, osize, oel, true, false, oect⟩, rt⟩ : PKT)]) k.flying vL' vA vR vP R (R + 1) #[ZI ZQ kind, ZI ZQ rt, ZI ZQ rsp, ZI ZQ rsize, ZI ZQ 0, ZI ZQ onum, ZI ZQ osize, .bool oel, .bool true, .bool false, .bool oect, ZI ZQ delay, .slice ra rn rc, .bool marked, ZI ZQ e0, ZI ZQ e1, ZI ZQ e2, .slice ea en ec, ZI ZQ err, ZI ZQ smooth] ⟨0, onum, osize, oel, true, false, oect⟩)
 case first =>
  clear HK hK HS1
  refine wp_region_held_drew (S := (fun w' => Blk w' (R + 1) 28 (outL ⟨0, onum, osize, oel, true, false, oect⟩).toArray ∧ Blk w' R 93 #[ZI ZQ kind, ZI ZQ rt, ZI ZQ rsp, ZI ZQ rsize, ZI ZQ 0, ZI ZQ onum, ZI ZQ osize, .bool oel, .bool true, .bool false, .bool oect, ZI ZQ delay, .slice ra rn rc, .bool marked, ZI ZQ e0, ZI ZQ e1, ZI ZQ e2, .slice ea en ec, ZI ZQ err, ZI ZQ smooth])) (by kernel_rfl) hS0 (fun hHeld => ?_)
  refine tkP 0 ?_ rfl ?_ ?_
  rotate_left
  ·intro w' hSw; (try dsimp only at hSw); obtain ⟨hb0, hb1, hb2, hb3, hb4, hb5, hb6, hr1⟩ := HBO.out _ hSw; go_simp; try with_reducible rfl
  try simp only [ZP, ZA, ZB, ZC, ZD, ZE, ZF]
  refine tkP 1 ?_ rfl ?_ ?_
  rotate_left
  ·intro w' hSw; (try dsimp only at hSw); obtain ⟨hb0, hb1, hb2, hb3, hb4, hb5, hb6, hr1⟩ := HBO.out _ hSw; go_simp; try with_reducible rfl
  try simp only [ZP, ZA, ZB, ZC, ZD, ZE, ZF]
  refine tkP 2 ?_ rfl ?_ ?_
  rotate_left
  ·intro w' hSw; (try dsimp only at hSw); obtain ⟨hb0, hb1, hb2, hb3, hb4, hb5, hb6, hr1⟩ := HBO.out _ hSw; go_simp; try with_reducible rfl
  try simp only [ZP, ZA, ZB, ZC, ZD, ZE, ZF]
  refine tkP 3 ?_ rfl ?_ ?_
  rotate_left
  ·intro w' hSw; (try dsimp only at hSw); obtain ⟨hb0, hb1, hb2, hb3, hb4, hb5, hb6, hr1⟩ := HBO.out _ hSw; go_simp; try with_reducible rfl
  try simp only [ZP, ZA, ZB, ZC, ZD, ZE, ZF]
  refine tkP 5 ?_ rfl ?_ ?_
  rotate_left
  ·intro w' hSw; (try dsimp only at hSw); obtain ⟨hb0, hb1, hb2, hb3, hb4, hb5, hb6, hr1⟩ := HBO.out _ hSw; go_simp; try with_reducible rfl
  try simp only [ZP, ZA, ZB, ZC, ZD, ZE, ZF]
  refine tkR [4, 6] ?_
  refine ZS rfl (fun K hK => ?_) ?_
  ·skip
   go_simp
   refine hK.out _ _ (hS0) (fun hHeld => ?_)
   clear hK K
   try simp only [ZP, ZA, ZB, ZC, ZD, ZE, ZF]
   refine tkR [6] ?_
   refine ZS rfl (fun K hK => ?_) ZN
   go_simp
   refine hK.out _ _ (by exact ⟨hs.out.alloc _, hs.row.alloc _⟩) (fun hHeld => ?_)
   clear hK K
   try simp only [ZP, ZA, ZB, ZC, ZD, ZE, ZF]
   refine tkR [7] ?_
   refine ZS rfl (fun K hK => ?_) ZN
   refine step_append_any _ rfl (.tmp 13) (.tmp 15) _ rfl base 28 i0 _ 7 32 Try.underlying88 hi0 hz0 hz1 hz2 rfl (by decide) (.slice A8 M c8) M xs rfl (by exact ho.alloc _) (W1.heap.size + 1) (some ⟨W1.heap.size, 0, none⟩) 1 1 [ZI ZQ 0, ZI ZQ onum, ZI ZQ osize, .bool oel, .bool true, .bool false, .bool oect] rfl (by exact reads_lit (blk_new_at (by simp)) (by simp) rfl) (by simp [Value.oneCell']) (by unfold maxLen; omega) (by omega) (by simp; omega) ?_; intro v8 w8 hown8 hg8 hat8; obtain ⟨g8, cap8, rfl⟩ := own_form hown8; have hr8 := blk_grown (t := 93) (by exact hs.row.alloc _) hg8 hneR; have ho8 := blk_grown (t := 28) (by exact hs.out.alloc _) hg8 hneO; have hb8 := blk_grown (t := 92) (by exact hs.blk.alloc _) hg8 hneB; have y8 := hb8.cell 16; have f8 := hb8.frozen 16
   try go_simp
   refine hK.out _ _ (by exact ⟨ho8, hr8⟩) (fun hHeld => ?_)
   clear hK K
   refine tkP 8 ?_ rfl ?_ ?_
   rotate_left
   ·intro w' hSw; (try dsimp only at hSw); obtain ⟨hb0, hb1, hb2, hb3, hb4, hb5, hb6, hr1⟩ := HBO.out _ hSw; go_simp; try with_reducible rfl
   try simp only [ZP, ZA, ZB, ZC, ZD, ZE, ZF]
   refine tkP 9 ?_ rfl ?_ ?_
   rotate_left
   ·intro w' hSw; (try dsimp only at hSw); obtain ⟨hb0, hb1, hb2, hb3, hb4, hb5, hb6, hr1⟩ := HBO.out _ hSw; go_simp; try with_reducible rfl
   try simp only [ZP, ZA, ZB, ZC, ZD, ZE, ZF]
   refine tkR [10] ?_
   refine ZS rfl (fun K hK => ?_) ZN
   go_simp
   refine hK.out _ _ (by exact ⟨ho8.far (blk_ne ho8 hb8 (by decide)) _, hr8.far (blk_ne hr8 hb8 (by decide)) _⟩) (fun hHeld => ?_)
   clear hK K
   refine wpAnyH_done (by kernel_rfl) ?_ _
   go_wp2_with fail
   go_meet
   exact ⟨_, RaSt.pushL hs (q := (⟨⟨0, onum, osize, oel, true, false, oect⟩, rt⟩ : PKT)) (vL := .slice A8 k.flying.length c8) (X := .cells #[ZI ZQ 0, ZI ZQ onum, ZI ZQ osize, .bool oel, .bool true, .bool false, .bool oect] 28) hko (by rw [hM'.out]; exact ⟨hg8.os, hg8.tape, hg8.output, hg8.size, hg8.block⟩) (by rw [HPX.out.1, HPX.out.2]; exact hown8)⟩
  refine ZS rfl (fun K hK => ?_) ZN
  go_simp
  refine hK.out _ _ (by exact ⟨hs.out.alloc _, hs.row.alloc _⟩) (fun hHeld => ?_)
  clear hK K
  try simp only [ZP, ZA, ZB, ZC, ZD, ZE, ZF]
  refine tkR [4] ?_
  refine ZS rfl (fun K hK => ?_) ZN
  go_simp
  refine hK.out _ _ (by exact ⟨hs.out.alloc _, hs.row.alloc _⟩) (fun hHeld => ?_)
  clear hK K
  try simp only [ZP, ZA, ZB, ZC, ZD, ZE, ZF]
  refine tkR [7] ?_
  refine ZS rfl (fun K hK => ?_) ZN
  refine step_append_any _ rfl (.tmp 13) (.tmp 15) _ rfl base 28 i0 _ 7 32 Try.underlying88 hi0 hz0 hz1 hz2 rfl (by decide) (.slice A8 M c8) M xs rfl (by exact ho.alloc _) (W1.heap.size + 1) (some ⟨W1.heap.size, 0, none⟩) 1 1 [ZI ZQ 0, ZI ZQ onum, ZI ZQ osize, .bool oel, .bool true, .bool false, .bool oect] rfl (by exact reads_lit (blk_new_at (by simp)) (by simp) rfl) (by simp [Value.oneCell']) (by unfold maxLen; omega) (by omega) (by simp; omega) ?_; intro v8 w8 hown8 hg8 hat8; obtain ⟨g8, cap8, rfl⟩ := own_form hown8; have hr8 := blk_grown (t := 93) (by exact hs.row.alloc _) hg8 hneR; have ho8 := blk_grown (t := 28) (by exact hs.out.alloc _) hg8 hneO; have hb8 := blk_grown (t := 92) (by exact hs.blk.alloc _) hg8 hneB; have y8 := hb8.cell 16; have f8 := hb8.frozen 16
  try go_simp
  refine hK.out _ _ (by exact ⟨ho8, hr8⟩) (fun hHeld => ?_)
  clear hK K
  refine tkP 8 ?_ rfl ?_ ?_
  rotate_left
  ·intro w' hSw; (try dsimp only at hSw); obtain ⟨hb0, hb1, hb2, hb3, hb4, hb5, hb6, hr1⟩ := HBO.out _ hSw; go_simp; try with_reducible rfl
  try simp only [ZP, ZA, ZB, ZC, ZD, ZE, ZF]
  refine tkP 9 ?_ rfl ?_ ?_
  rotate_left
  ·intro w' hSw; (try dsimp only at hSw); obtain ⟨hb0, hb1, hb2, hb3, hb4, hb5, hb6, hr1⟩ := HBO.out _ hSw; go_simp; try with_reducible rfl
  try simp only [ZP, ZA, ZB, ZC, ZD, ZE, ZF]
  refine tkR [10] ?_
  refine ZS rfl (fun K hK => ?_) ZN
  go_simp
  refine hK.out _ _ (by exact ⟨ho8.far (blk_ne ho8 hb8 (by decide)) _, hr8.far (blk_ne hr8 hb8 (by decide)) _⟩) (fun hHeld => ?_)
  clear hK K
  refine wpAnyH_done (by kernel_rfl) ?_ _
  go_wp2_with fail
  go_meet
  exact ⟨_, RaSt.pushL hs (q := (⟨⟨0, onum, osize, oel, true, false, oect⟩, rt⟩ : PKT)) (vL := .slice A8 k.flying.length c8) (X := .cells #[ZI ZQ 0, ZI ZQ onum, ZI ZQ osize, .bool oel, .bool true, .bool false, .bool oect] 28) hko (by rw [hM'.out]; exact ⟨hg8.os, hg8.tape, hg8.output, hg8.size, hg8.block⟩) (by rw [HPX.out.1, HPX.out.2]; exact hown8)⟩
 case rest =>
  obtain ⟨vL', hs2⟩ := hcut
  clear hs hko hneR hneB hneO hS0 kca kcb HPX hM hM' hxs ho kc fc hi0 hz0 hz1 hz2 HS1
  have hs := hs2
  clear hs2
  clear hMl hbase
  obtain ⟨i0, hi0, hz0, hz1, hz2⟩ := info_parts int_info
  obtain ⟨A8, c8, rfl⟩ := own_sl hs.a
  have ho := hs.a
  obtain ⟨M, hM⟩ : ∃ x, k.flying.length = x := ⟨_, rfl⟩
  rw [hM] at ho
  obtain ⟨xs, hxs⟩ : ∃ x, k.flying.flatMap tL = x := ⟨_, rfl⟩
  rw [hxs] at ho
  have hMl : M ≤ 1900 := by omega
  have kc := hs.blk.cell 17
  have fc := hs.blk.frozen 17
  have hbase := hs.room
  simp only [krC, hM, ZG, ZH, ZJ] at kc
  have hneR := own_ne ho hs.row (by decide)
  have hneO : some (R + 1) ≠ (Value.slice A8 M c8).ownBlock := own_ne ho hs.out (by decide)
  have hneB := own_ne ho hs.blk (by decide)
  have kca : (wc.alloc (.cells #[ZI ZQ rt] 3)).cell? ⟨b, 17, none⟩ = some (.slice A8 M c8) := by have := (hs.blk.alloc (.cells #[ZI ZQ rt] 3)).cell 17; rw [this]; simp [krC, hM]
  have kcb : (wc.alloc (.cells #[ZI ZQ rt] 3)).drew.cell? ⟨b, 17, none⟩ = some (.slice A8 M c8) := kca
  have HPX : Hid ((k.flying ++ [(⟨⟨0, onum, osize, oel, true, false, oect⟩, rt⟩ : PKT)]).length = M + 1 ∧ (k.flying ++ [(⟨⟨0, onum, osize, oel, true, false, oect⟩, rt⟩ : PKT)]).flatMap tL = xs ++ [ZI ZQ rt]) := ⟨by rw [List.length_append, hM]; rfl, by rw [List.flatMap_append, hxs]; rfl⟩
  have hM' := hide hM
  have hS0 : Blk wc.drew (R + 1) 28 (outL ⟨0, onum, osize, oel, true, false, oect⟩).toArray ∧ Blk wc.drew R 93 #[ZI ZQ kind, ZI ZQ rt, ZI ZQ rsp, ZI ZQ rsize, ZI ZQ 0, ZI ZQ onum, ZI ZQ osize, .bool oel, .bool true, .bool false, .bool oect, ZI ZQ delay, .slice ra rn rc, .bool marked, ZI ZQ e0, ZI ZQ e1, ZI ZQ e2, .slice ea en ec, ZI ZQ err, ZI ZQ smooth] := ⟨hs.drew.out, hs.drew.row⟩
  go_upto_region 3 with (fail)
  go_cut [] (fun wx => ∃ vA', RaSt w wx b base k (k.flying ++ [(⟨⟨0, onum, osize, oel, true, false, oect⟩, rt⟩ : PKT)]) (k.flying ++ [(⟨⟨0, onum, osize, oel, true, false, oect⟩, rt⟩ : PKT)]) vL' vA' vR vP R (R + 1) #[ZI ZQ kind, ZI ZQ rt, ZI ZQ rsp, ZI ZQ rsize, ZI ZQ 0, ZI ZQ onum, ZI ZQ osize, .bool oel, .bool true, .bool false, .bool oect, ZI ZQ delay, .slice ra rn rc, .bool marked, ZI ZQ e0, ZI ZQ e1, ZI ZQ e2, .slice ea en ec, ZI ZQ err, ZI ZQ smooth] ⟨0, onum, osize, oel, true, false, oect⟩)
  case first =>
   clear HK hK
   refine wp_region_held_drew (S := (fun w' => Blk w' (R + 1) 28 (outL ⟨0, onum, osize, oel, true, false, oect⟩).toArray ∧ Blk w' R 93 #[ZI ZQ kind, ZI ZQ rt, ZI ZQ rsp, ZI ZQ rsize, ZI ZQ 0, ZI ZQ onum, ZI ZQ osize, .bool oel, .bool true, .bool false, .bool oect, ZI ZQ delay, .slice ra rn rc, .bool marked, ZI ZQ e0, ZI ZQ e1, ZI ZQ e2, .slice ea en ec, ZI ZQ err, ZI ZQ smooth])) (by kernel_rfl) hS0 (fun hHeld => ?_)
   refine tkP 0 ?_ rfl ?_ ?_
   rotate_left
   ·intro w' hSw; (try dsimp only at hSw); obtain ⟨hb0, hb1, hb2, hb3, hb4, hb5, hb6, hr1⟩ := HBO.out _ hSw; go_simp; try with_reducible rfl
   try simp only [ZP, ZA, ZB, ZC, ZD, ZE, ZF]
   refine tkP 1 ?_ rfl ?_ ?_
   rotate_left
   ·intro w' hSw; (try dsimp only at hSw); obtain ⟨hb0, hb1, hb2, hb3, hb4, hb5, hb6, hr1⟩ := HBO.out _ hSw; go_simp; try with_reducible rfl
   try simp only [ZP, ZA, ZB, ZC, ZD, ZE, ZF]
   refine tkP 2 ?_ rfl ?_ ?_
   rotate_left
   ·intro w' hSw; (try dsimp only at hSw); obtain ⟨hb0, hb1, hb2, hb3, hb4, hb5, hb6, hr1⟩ := HBO.out _ hSw; go_simp; try with_reducible rfl
   try simp only [ZP, ZA, ZB, ZC, ZD, ZE, ZF]
   refine tkP 3 ?_ rfl ?_ ?_
   rotate_left
   ·intro w' hSw; (try dsimp only at hSw); obtain ⟨hb0, hb1, hb2, hb3, hb4, hb5, hb6, hr1⟩ := HBO.out _ hSw; go_simp; try with_reducible rfl
   try simp only [ZP, ZA, ZB, ZC, ZD, ZE, ZF]
   refine tkP 5 ?_ rfl ?_ ?_
   rotate_left
   ·intro w' hSw; (try dsimp only at hSw); obtain ⟨hb0, hb1, hb2, hb3, hb4, hb5, hb6, hr1⟩ := HBO.out _ hSw; go_simp; try with_reducible rfl
   try simp only [ZP, ZA, ZB, ZC, ZD, ZE, ZF]
   refine tkP 6 ?_ rfl ?_ ?_
   rotate_left
   ·intro w' hSw; (try dsimp only at hSw); obtain ⟨hb0, hb1, hb2, hb3, hb4, hb5, hb6, hr1⟩ := HBO.out _ hSw; go_simp; try with_reducible rfl
   try simp only [ZP, ZA, ZB, ZC, ZD, ZE, ZF]
   refine tkR [4, 7] ?_
   refine ZS rfl (fun K hK => ?_) ?_
   ·skip
    go_simp
    refine hK.out _ _ (hS0) (fun hHeld => ?_)
    clear hK K
    try simp only [ZP, ZA, ZB, ZC, ZD, ZE, ZF]
    refine tkR [7] ?_
    refine ZS rfl (fun K hK => ?_) ZN
    go_simp
    refine hK.out _ _ (by exact ⟨hs.out.alloc _, hs.row.alloc _⟩) (fun hHeld => ?_)
    clear hK K
    try simp only [ZP, ZA, ZB, ZC, ZD, ZE, ZF]
    refine tkR [8] ?_
    refine ZS rfl (fun K hK => ?_) ZN
    refine step_append_any _ rfl (.tmp 23) (.tmp 26) _ rfl base 3 i0 _ 1 8 Try.underlying89 hi0 hz0 hz1 hz2 rfl (by decide) (.slice A8 M c8) M xs rfl (by exact ho.alloc _) (wc.heap.size + 1) (some ⟨wc.heap.size, 0, none⟩) 1 1 [ZI ZQ rt] rfl (by exact reads_lit (blk_new_at (by simp)) (by simp) rfl) (by simp [Value.oneCell']) (by unfold maxLen; omega) (by omega) (by simp; omega) ?_; intro v8 w8 hown8 hg8 hat8; obtain ⟨g8, cap8, rfl⟩ := own_form hown8; have hr8 := blk_grown (t := 93) (by exact hs.row.alloc _) hg8 hneR; have ho8 := blk_grown (t := 28) (by exact hs.out.alloc _) hg8 hneO; have hb8 := blk_grown (t := 92) (by exact hs.blk.alloc _) hg8 hneB; have y8 := hb8.cell 17; have f8 := hb8.frozen 17
    try go_simp
    refine hK.out _ _ (by exact ⟨ho8, hr8⟩) (fun hHeld => ?_)
    clear hK K
    refine tkP 9 ?_ rfl ?_ ?_
    rotate_left
    ·intro w' hSw; (try dsimp only at hSw); obtain ⟨hb0, hb1, hb2, hb3, hb4, hb5, hb6, hr1⟩ := HBO.out _ hSw; go_simp; try with_reducible rfl
    try simp only [ZP, ZA, ZB, ZC, ZD, ZE, ZF]
    refine tkP 10 ?_ rfl ?_ ?_
    rotate_left
    ·intro w' hSw; (try dsimp only at hSw); obtain ⟨hb0, hb1, hb2, hb3, hb4, hb5, hb6, hr1⟩ := HBO.out _ hSw; go_simp; try with_reducible rfl
    try simp only [ZP, ZA, ZB, ZC, ZD, ZE, ZF]
    refine tkR [11] ?_
    refine ZS rfl (fun K hK => ?_) ZN
    go_simp
    refine hK.out _ _ (by exact ⟨ho8.far (blk_ne ho8 hb8 (by decide)) _, hr8.far (blk_ne hr8 hb8 (by decide)) _⟩) (fun hHeld => ?_)
    clear hK K
    refine wpAnyH_done (by kernel_rfl) ?_ _
    go_wp2_with fail
    go_meet
    exact ⟨_, RaSt.pushA hs (q := (⟨⟨0, onum, osize, oel, true, false, oect⟩, rt⟩ : PKT)) (vA := .slice A8 k.flying.length c8) (X := .cells #[ZI ZQ rt] 3) (by rw [hM'.out]; exact ⟨hg8.os, hg8.tape, hg8.output, hg8.size, hg8.block⟩) (by rw [HPX.out.1, HPX.out.2]; exact hown8)⟩
   refine ZS rfl (fun K hK => ?_) ZN
   go_simp
   refine hK.out _ _ (by exact ⟨hs.out.alloc _, hs.row.alloc _⟩) (fun hHeld => ?_)
   clear hK K
   try simp only [ZP, ZA, ZB, ZC, ZD, ZE, ZF]
   refine tkR [4] ?_
   refine ZS rfl (fun K hK => ?_) ZN
   go_simp
   refine hK.out _ _ (by exact ⟨hs.out.alloc _, hs.row.alloc _⟩) (fun hHeld => ?_)
   clear hK K
   try simp only [ZP, ZA, ZB, ZC, ZD, ZE, ZF]
   refine tkR [8] ?_
   refine ZS rfl (fun K hK => ?_) ZN
   refine step_append_any _ rfl (.tmp 23) (.tmp 26) _ rfl base 3 i0 _ 1 8 Try.underlying89 hi0 hz0 hz1 hz2 rfl (by decide) (.slice A8 M c8) M xs rfl (by exact ho.alloc _) (wc.heap.size + 1) (some ⟨wc.heap.size, 0, none⟩) 1 1 [ZI ZQ rt] rfl (by exact reads_lit (blk_new_at (by simp)) (by simp) rfl) (by simp [Value.oneCell']) (by unfold maxLen; omega) (by omega) (by simp; omega) ?_; intro v8 w8 hown8 hg8 hat8; obtain ⟨g8, cap8, rfl⟩ := own_form hown8; have hr8 := blk_grown (t := 93) (by exact hs.row.alloc _) hg8 hneR; have ho8 := blk_grown (t := 28) (by exact hs.out.alloc _) hg8 hneO; have hb8 := blk_grown (t := 92) (by exact hs.blk.alloc _) hg8 hneB; have y8 := hb8.cell 17; have f8 := hb8.frozen 17
   try go_simp
   refine hK.out _ _ (by exact ⟨ho8, hr8⟩) (fun hHeld => ?_)
   clear hK K
   refine tkP 9 ?_ rfl ?_ ?_
   rotate_left
   ·intro w' hSw; (try dsimp only at hSw); obtain ⟨hb0, hb1, hb2, hb3, hb4, hb5, hb6, hr1⟩ := HBO.out _ hSw; go_simp; try with_reducible rfl
   try simp only [ZP, ZA, ZB, ZC, ZD, ZE, ZF]
   refine tkP 10 ?_ rfl ?_ ?_
   rotate_left
   ·intro w' hSw; (try dsimp only at hSw); obtain ⟨hb0, hb1, hb2, hb3, hb4, hb5, hb6, hr1⟩ := HBO.out _ hSw; go_simp; try with_reducible rfl
   try simp only [ZP, ZA, ZB, ZC, ZD, ZE, ZF]
   refine tkR [11] ?_
   refine ZS rfl (fun K hK => ?_) ZN
   go_simp
   refine hK.out _ _ (by exact ⟨ho8.far (blk_ne ho8 hb8 (by decide)) _, hr8.far (blk_ne hr8 hb8 (by decide)) _⟩) (fun hHeld => ?_)
   clear hK K
   refine wpAnyH_done (by kernel_rfl) ?_ _
   go_wp2_with fail
   go_meet
   exact ⟨_, RaSt.pushA hs (q := (⟨⟨0, onum, osize, oel, true, false, oect⟩, rt⟩ : PKT)) (vA := .slice A8 k.flying.length c8) (X := .cells #[ZI ZQ rt] 3) (by rw [hM'.out]; exact ⟨hg8.os, hg8.tape, hg8.output, hg8.size, hg8.block⟩) (by rw [HPX.out.1, HPX.out.2]; exact hown8)⟩
  case rest =>
   obtain ⟨vA', hs2⟩ := hcut
   clear hs hneR hneB hneO hS0 kca kcb HPX hM hM' hxs ho kc fc hi0 hz0 hz1 hz2 hMl hbase
   have hs := hs2
   clear hs2
   have HS3 := hide hs
   have c18 := hs.blk.cell 18
   have c19 := hs.blk.cell 19
   have c20 := hs.blk.cell 20
   have f18 := hs.blk.frozen 18
   have f19 := hs.blk.frozen 19
   have f20 := hs.blk.frozen 20
   have l1 := hs.blk.lt
   have l2 := hs.out.lt
   have l3 := hs.row.lt
   have o0 := hs.out.cell 0
   have o1 := hs.out.cell 1
   simp only [krC, outL, ZG, ZH, ZJ] at c18 c19 c20 o0 o1
   clear hs
   go_upto_region 7 with (fail)
   have p1 := HS3.out.put 18 (ZI ZQ onum) { k with last := fun j => if j = 0 then onum else k.last j } rfl rfl rfl
   have p2 := p1.put 19 (ZI ZQ (k.last 1)) { k with last := fun j => if j = 0 then onum else k.last j } rfl rfl rfl
   have p3 := p2.put 20 (ZI ZQ (k.last 2)) { k with last := fun j => if j = 0 then onum else k.last j } rfl rfl rfl
   have hs := p3.later ((Below.refl _ _).alloc (Nat.le_refl _) (.cells #[ZI ZQ onum, ZI ZQ (k.last 1), ZI ZQ (k.last 2)] 30))
   obtain ⟨W7, hW7⟩ : ∃ x, (((wc.setCell ⟨b, 18, none⟩ (ZI ZQ onum)).setCell ⟨b, 19, none⟩ (ZI ZQ (k.last 1))).setCell ⟨b, 20, none⟩ (ZI ZQ (k.last 2))).alloc (.cells #[ZI ZQ onum, ZI ZQ (k.last 1), ZI ZQ (k.last 2)] 30) = x := ⟨_, rfl⟩
   rw [hW7] at hs
   rw [hW7]
   clear hW7 p1 p2 p3 HS3 f18 f19 f20 l1 l2 l3 c18 c19 c20 o0 o1
   have HS7 := hide hs
   have o2 := hs.drew.out.cell 2
   have k13 := hs.drew.blk.cell 13
   have f13 := hs.drew.blk.frozen 13
   simp only [krC, outL, ZG, ZH, ZJ] at o2 k13
   have HAD := hide (fun W => still_add (radd_any k.sent osize W))
   clear hs
   refine wp_region_still_tail 10 (by kernel_rfl) (by kernel_rfl) ?_
   simp only [List.take_succ_cons, List.take_zero, List.drop_succ_cons, List.drop_zero]
   change wpStill _ _ W7.drew _ _ _
   repeat (refine wpStill_step (fun K hK => ?_); go_simp; (first | (with_reducible refine hK _ ?_) | with_reducible refine ⟨_, HAD.out _, hK _ ?_⟩); clear hK K)
   refine wpStill_nil ?_
   change wpList _ _ _ _ _ W7.drew
   go_upto_region 8 with (fail)
   have hs := (HS7.out.put 13 (ZI ZQ (addI k.sent osize)) { k with last := fun j => if j = 0 then onum else k.last j, sent := addI k.sent osize } rfl rfl rfl).drew
   obtain ⟨W8, hW8⟩ : ∃ x, (W7.setCell ⟨b, 13, none⟩ (ZI ZQ (addI k.sent osize))).drew = x := ⟨_, rfl⟩
   rw [hW8] at hs
   rw [hW8]
   clear hW8 HS7 o2 k13 f13 HAD
   have HS8 := hide hs
   have o4 := hs.out.cell 4
   have o5 := hs.out.cell 5
   simp only [outL, ZG, ZH, ZJ] at o4 o5
   obtain ⟨i0, hi0, hz0, hz1, hz2⟩ := info_parts two_info
   obtain ⟨A8, c8, rfl⟩ := own_sl hs.p
   have ho := hs.p
   have hpq : ({ k with last := fun j => if j = 0 then onum else k.last j, sent := addI k.sent osize } : KN).paced = k.paced := rfl
   rw [hpq] at ho
   obtain ⟨M, hM⟩ : ∃ x, k.paced.length = x := ⟨_, rfl⟩
   rw [hM] at ho
   obtain ⟨xs, hxs⟩ : ∃ x, k.paced.flatMap pcdL = x := ⟨_, rfl⟩
   rw [hxs] at ho
   have hMl : M ≤ 1900 := by omega
   have kc := hs.blk.cell 29
   have fc := hs.blk.frozen 29
   have hbase := hs.room
   simp only [krC, hpq, hM, ZG, ZH, ZJ] at kc
   have hneR := own_ne ho hs.row (by decide)
   have hneO : some (R + 1) ≠ (Value.slice A8 M c8).ownBlock := own_ne ho hs.out (by decide)
   have hneB := own_ne ho hs.blk (by decide)
   have kca : (W8.alloc (.cells #[ZI ZQ rt, ZI ZQ osize] 127)).cell? ⟨b, 29, none⟩ = some (.slice A8 M c8) := by have := (hs.blk.alloc (.cells #[ZI ZQ rt, ZI ZQ osize] 127)).cell 29; rw [this]; simp [krC, hpq, hM]
   have kcb : (W8.alloc (.cells #[ZI ZQ rt, ZI ZQ osize] 127)).drew.cell? ⟨b, 29, none⟩ = some (.slice A8 M c8) := kca
   have HPX : Hid ((k.paced ++ [(⟨rt, osize⟩ : PCD)]).length = M + 1 ∧ (k.paced ++ [(⟨rt, osize⟩ : PCD)]).flatMap pcdL = xs ++ [ZI ZQ rt, ZI ZQ osize]) := ⟨by rw [List.length_append, hM]; rfl, by rw [List.flatMap_append, hxs]; rfl⟩
   have hM' := hide hM
   have hS0 : Blk W8.drew (R + 1) 28 (outL ⟨0, onum, osize, oel, true, false, oect⟩).toArray ∧ Blk W8.drew R 93 #[ZI ZQ kind, ZI ZQ rt, ZI ZQ rsp, ZI ZQ rsize, ZI ZQ 0, ZI ZQ onum, ZI ZQ osize, .bool oel, .bool true, .bool false, .bool oect, ZI ZQ delay, .slice ra rn rc, .bool marked, ZI ZQ e0, ZI ZQ e1, ZI ZQ e2, .slice ea en ec, ZI ZQ err, ZI ZQ smooth] := ⟨hs.drew.out, hs.drew.row⟩
   go_upto_region 13 with (fail)
   clear HK hK
   refine wp_region_held_drew (S := (fun w' => Blk w' (R + 1) 28 (outL ⟨0, onum, osize, oel, true, false, oect⟩).toArray ∧ Blk w' R 93 #[ZI ZQ kind, ZI ZQ rt, ZI ZQ rsp, ZI ZQ rsize, ZI ZQ 0, ZI ZQ onum, ZI ZQ osize, .bool oel, .bool true, .bool false, .bool oect, ZI ZQ delay, .slice ra rn rc, .bool marked, ZI ZQ e0, ZI ZQ e1, ZI ZQ e2, .slice ea en ec, ZI ZQ err, ZI ZQ smooth])) (by kernel_rfl) hS0 (fun hHeld => ?_)
   refine tkP 0 ?_ rfl ?_ ?_
   rotate_left
   ·intro w' hSw; (try dsimp only at hSw); obtain ⟨hb0, hb1, hb2, hb3, hb4, hb5, hb6, hr1⟩ := HBO.out _ hSw; go_simp; try with_reducible rfl
   try simp only [ZP, ZA, ZB, ZC, ZD, ZE, ZF]
   refine tkP 1 ?_ rfl ?_ ?_
   rotate_left
   ·intro w' hSw; (try dsimp only at hSw); obtain ⟨hb0, hb1, hb2, hb3, hb4, hb5, hb6, hr1⟩ := HBO.out _ hSw; go_simp; try with_reducible rfl
   try simp only [ZP, ZA, ZB, ZC, ZD, ZE, ZF]
   refine tkP 2 ?_ rfl ?_ ?_
   rotate_left
   ·intro w' hSw; (try dsimp only at hSw); obtain ⟨hb0, hb1, hb2, hb3, hb4, hb5, hb6, hr1⟩ := HBO.out _ hSw; go_simp; try with_reducible rfl
   try simp only [ZP, ZA, ZB, ZC, ZD, ZE, ZF]
   refine tkP 3 ?_ rfl ?_ ?_
   rotate_left
   ·intro w' hSw; (try dsimp only at hSw); obtain ⟨hb0, hb1, hb2, hb3, hb4, hb5, hb6, hr1⟩ := HBO.out _ hSw; go_simp; try with_reducible rfl
   try simp only [ZP, ZA, ZB, ZC, ZD, ZE, ZF]
   refine tkP 5 ?_ rfl ?_ ?_
   rotate_left
   ·intro w' hSw; (try dsimp only at hSw); obtain ⟨hb0, hb1, hb2, hb3, hb4, hb5, hb6, hr1⟩ := HBO.out _ hSw; go_simp; try with_reducible rfl
   try simp only [ZP, ZA, ZB, ZC, ZD, ZE, ZF]
   refine tkP 6 ?_ rfl ?_ ?_
   rotate_left
   ·intro w' hSw; (try dsimp only at hSw); obtain ⟨hb0, hb1, hb2, hb3, hb4, hb5, hb6, hr1⟩ := HBO.out _ hSw; go_simp; try with_reducible rfl
   try simp only [ZP, ZA, ZB, ZC, ZD, ZE, ZF]
   refine tkP 7 ?_ rfl ?_ ?_
   rotate_left
   ·intro w' hSw; (try dsimp only at hSw); obtain ⟨hb0, hb1, hb2, hb3, hb4, hb5, hb6, hr1⟩ := HBO.out _ hSw; go_simp; try with_reducible rfl
   try simp only [ZP, ZA, ZB, ZC, ZD, ZE, ZF]
   refine tkP 8 ?_ rfl ?_ ?_
   rotate_left
   ·intro w' hSw; (try dsimp only at hSw); obtain ⟨hb0, hb1, hb2, hb3, hb4, hb5, hb6, hr1⟩ := HBO.out _ hSw; go_simp; try with_reducible rfl
   try simp only [ZP, ZA, ZB, ZC, ZD, ZE, ZF]
   refine tkP 9 ?_ rfl ?_ ?_
   rotate_left
   ·intro w' hSw; (try dsimp only at hSw); obtain ⟨hb0, hb1, hb2, hb3, hb4, hb5, hb6, hr1⟩ := HBO.out _ hSw; go_simp; try with_reducible rfl
   try simp only [ZP, ZA, ZB, ZC, ZD, ZE, ZF]
   refine tkR [4, 10] ?_
   refine ZS rfl (fun K hK => ?_) ?_
   ·skip
    go_simp
    refine hK.out _ _ (hS0) (fun hHeld => ?_)
    clear hK K
    try simp only [ZP, ZA, ZB, ZC, ZD, ZE, ZF]
    refine tkR [10] ?_
    refine ZS rfl (fun K hK => ?_) ZN
    go_simp
    refine hK.out _ _ (by exact ⟨hs.out.alloc _, hs.row.alloc _⟩) (fun hHeld => ?_)
    clear hK K
    try simp only [ZP, ZA, ZB, ZC, ZD, ZE, ZF]
    refine tkR [11] ?_
    refine ZS rfl (fun K hK => ?_) ZN
    refine step_append_any _ rfl (.tmp 77) (.tmp 83) _ rfl base 127 i0 _ 2 16 Try.underlying90 hi0 hz0 hz1 hz2 rfl (by decide) (.slice A8 M c8) M xs rfl (by exact ho.alloc _) (W8.heap.size + 1) (some ⟨W8.heap.size, 0, none⟩) 1 1 [ZI ZQ rt, ZI ZQ osize] rfl (by exact reads_lit (blk_new_at (by simp)) (by simp) rfl) (by simp [Value.oneCell']) (by unfold maxLen; omega) (by omega) (by simp; omega) ?_; intro v8 w8 hown8 hg8 hat8; obtain ⟨g8, cap8, rfl⟩ := own_form hown8; have hr8 := blk_grown (t := 93) (by exact hs.row.alloc _) hg8 hneR; have ho8 := blk_grown (t := 28) (by exact hs.out.alloc _) hg8 hneO; have hb8 := blk_grown (t := 92) (by exact hs.blk.alloc _) hg8 hneB; have y8 := hb8.cell 29; have f8 := hb8.frozen 29
    try go_simp
    refine hK.out _ _ (by exact ⟨ho8, hr8⟩) (fun hHeld => ?_)
    clear hK K
    refine tkP 12 ?_ rfl ?_ ?_
    rotate_left
    ·intro w' hSw; (try dsimp only at hSw); obtain ⟨hb0, hb1, hb2, hb3, hb4, hb5, hb6, hr1⟩ := HBO.out _ hSw; go_simp; try with_reducible rfl
    try simp only [ZP, ZA, ZB, ZC, ZD, ZE, ZF]
    refine tkP 13 ?_ rfl ?_ ?_
    rotate_left
    ·intro w' hSw; (try dsimp only at hSw); obtain ⟨hb0, hb1, hb2, hb3, hb4, hb5, hb6, hr1⟩ := HBO.out _ hSw; go_simp; try with_reducible rfl
    try simp only [ZP, ZA, ZB, ZC, ZD, ZE, ZF]
    refine tkR [14] ?_
    refine ZS rfl (fun K hK => ?_) ZN
    go_simp
    refine hK.out _ _ (by exact ⟨ho8.far (blk_ne ho8 hb8 (by decide)) _, hr8.far (blk_ne hr8 hb8 (by decide)) _⟩) (fun hHeld => ?_)
    clear hK K
    refine wpAnyH_done (by kernel_rfl) ?_ _
    go_wp2_with fail
    go_end0
    have hpp := RaSt.pushP hs (vP := .slice A8 k.paced.length c8) (X := .cells #[ZI ZQ rt, ZI ZQ osize] 127) (by rw [hM'.out]; exact ⟨hg8.os, hg8.tape, hg8.output, hg8.size, hg8.block⟩) (by rw [show ({ k with last := fun j => if j = 0 then onum else k.last j, sent := addI k.sent osize } : KN).paced = k.paced from rfl, HPX.out.1, HPX.out.2]; exact hown8); exact ⟨rfl, ⟨_, _, _, hpp.kr (sentK k ⟨0, onum, osize, oel, true, false, oect⟩ rt) rfl rfl rfl rfl rfl⟩, hpp.bl⟩
   refine ZS rfl (fun K hK => ?_) ZN
   go_simp
   refine hK.out _ _ (by exact ⟨hs.out.alloc _, hs.row.alloc _⟩) (fun hHeld => ?_)
   clear hK K
   try simp only [ZP, ZA, ZB, ZC, ZD, ZE, ZF]
   refine tkR [4] ?_
   refine ZS rfl (fun K hK => ?_) ZN
   go_simp
   refine hK.out _ _ (by exact ⟨hs.out.alloc _, hs.row.alloc _⟩) (fun hHeld => ?_)
   clear hK K
   try simp only [ZP, ZA, ZB, ZC, ZD, ZE, ZF]
   refine tkR [11] ?_
   refine ZS rfl (fun K hK => ?_) ZN
   refine step_append_any _ rfl (.tmp 77) (.tmp 83) _ rfl base 127 i0 _ 2 16 Try.underlying90 hi0 hz0 hz1 hz2 rfl (by decide) (.slice A8 M c8) M xs rfl (by exact ho.alloc _) (W8.heap.size + 1) (some ⟨W8.heap.size, 0, none⟩) 1 1 [ZI ZQ rt, ZI ZQ osize] rfl (by exact reads_lit (blk_new_at (by simp)) (by simp) rfl) (by simp [Value.oneCell']) (by unfold maxLen; omega) (by omega) (by simp; omega) ?_; intro v8 w8 hown8 hg8 hat8; obtain ⟨g8, cap8, rfl⟩ := own_form hown8; have hr8 := blk_grown (t := 93) (by exact hs.row.alloc _) hg8 hneR; have ho8 := blk_grown (t := 28) (by exact hs.out.alloc _) hg8 hneO; have hb8 := blk_grown (t := 92) (by exact hs.blk.alloc _) hg8 hneB; have y8 := hb8.cell 29; have f8 := hb8.frozen 29
   try go_simp
   refine hK.out _ _ (by exact ⟨ho8, hr8⟩) (fun hHeld => ?_)
   clear hK K
   refine tkP 12 ?_ rfl ?_ ?_
   rotate_left
   ·intro w' hSw; (try dsimp only at hSw); obtain ⟨hb0, hb1, hb2, hb3, hb4, hb5, hb6, hr1⟩ := HBO.out _ hSw; go_simp; try with_reducible rfl
   try simp only [ZP, ZA, ZB, ZC, ZD, ZE, ZF]
   refine tkP 13 ?_ rfl ?_ ?_
   rotate_left
   ·intro w' hSw; (try dsimp only at hSw); obtain ⟨hb0, hb1, hb2, hb3, hb4, hb5, hb6, hr1⟩ := HBO.out _ hSw; go_simp; try with_reducible rfl
   try simp only [ZP, ZA, ZB, ZC, ZD, ZE, ZF]
   refine tkR [14] ?_
   refine ZS rfl (fun K hK => ?_) ZN
   go_simp
   refine hK.out _ _ (by exact ⟨ho8.far (blk_ne ho8 hb8 (by decide)) _, hr8.far (blk_ne hr8 hb8 (by decide)) _⟩) (fun hHeld => ?_)
   clear hK K
   refine wpAnyH_done (by kernel_rfl) ?_ _
   go_wp2_with fail
   go_end0
   have hpp := RaSt.pushP hs (vP := .slice A8 k.paced.length c8) (X := .cells #[ZI ZQ rt, ZI ZQ osize] 127) (by rw [hM'.out]; exact ⟨hg8.os, hg8.tape, hg8.output, hg8.size, hg8.block⟩) (by rw [show ({ k with last := fun j => if j = 0 then onum else k.last j, sent := addI k.sent osize } : KN).paced = k.paced from rfl, HPX.out.1, HPX.out.2]; exact hown8); exact ⟨rfl, ⟨_, _, _, hpp.kr (sentK k ⟨0, onum, osize, oel, true, false, oect⟩ rt) rfl rfl rfl rfl rfl⟩, hpp.bl⟩
end Go.Proofs.Ytidfngcclbhoaaa

namespace Go.Proofs.Ytidfngcclbhoaaa
open List renaming getElem_toArray → ZA, getElem_cons_zero → ZB, getElem_cons_succ → ZC, setIfInBounds_toArray → ZD, set_cons_zero → ZE, set_cons_succ → ZF, getElem?_toArray → ZG, getElem?_cons_zero → ZH, getElem?_cons_succ → ZJ
open Go.AllReadyH renaming cons → ZS, nil → ZN
open Go.Act renaming put → ZP
open Go.Value renaming int → ZI
open Go.IntKind renaming i64 → ZQ
set_option linter.unusedSimpArgs false
set_option linter.unusedVariables false
open Go.RowKit Go.Shelf
set_option maxRecDepth 100000 in
set_option maxHeartbeats 8000000 in
theorem rsent_probe (b base : Nat) (k : KN) (vL vA vR vP : Value) (r : RW) (w : World) (hK : KrAt w b base k vL vA vR vP) (hfn : k.flying.length ≤ 1900) (hpl : k.paced.length ≤ 1900) (hsp : r.o.sp = 0) (hfl : r.o.fl = true) (hpr : r.o.pr = true) (ho1 : 1 ≤ k.own 0 ∧ k.own 0 ≤ 9) :
  Calls Try.prog 76 #[.pointer (some ⟨b, 0, none⟩), .agg (rwC r)] w fun e w' => e = .returned (.tuple #[]) ∧ ∃ vL' vA' vP', KrAt w' b base (probeK k r.o r.t) vL' vA' vR vP' ∧ FarR base w w' := by
 obtain ⟨kind, rt, rsp, rsize, ⟨osp, onum, osize, oel, ofl, opr, oect⟩, delay, ra, rn, rc, marked, e0, e1, e2, ea, en, ec, err, smooth⟩ := r
 simp only at hsp hfl hpr ⊢
 subst hsp hfl hpr
 have HK := hide hK
 have hko := own_old (g := w.heap.size + 1) hK.l (Nat.le_succ _)
 have hkl := hK.blk.lt
 go_enter Try.func76, Try.ntmps76
 unfold rwC
 go_upto_region 2 with (fail)
 have hs : RaSt w ((w.alloc (.cells #[ZI ZQ kind, ZI ZQ rt, ZI ZQ rsp, ZI ZQ rsize, ZI ZQ 0, ZI ZQ onum, ZI ZQ osize, .bool oel, .bool true, .bool true, .bool oect, ZI ZQ delay, .slice ra rn rc, .bool marked, ZI ZQ e0, ZI ZQ e1, ZI ZQ e2, .slice ea en ec, ZI ZQ err, ZI ZQ smooth] 93)).alloc (.cells #[ZI ZQ 0, ZI ZQ onum, ZI ZQ osize, .bool oel, .bool true, .bool true, .bool oect] 28)) b base k k.flying k.flying vL vA vR vP w.heap.size (w.heap.size + 1) #[ZI ZQ kind, ZI ZQ rt, ZI ZQ rsp, ZI ZQ rsize, ZI ZQ 0, ZI ZQ onum, ZI ZQ osize, .bool oel, .bool true, .bool true, .bool oect, ZI ZQ delay, .slice ra rn rc, .bool marked, ZI ZQ e0, ZI ZQ e1, ZI ZQ e2, .slice ea en ec, ZI ZQ err, ZI ZQ smooth] ⟨0, onum, osize, oel, true, true, oect⟩ := by
  have ha : Below w.heap.size w ((w.alloc (.cells #[ZI ZQ kind, ZI ZQ rt, ZI ZQ rsp, ZI ZQ rsize, ZI ZQ 0, ZI ZQ onum, ZI ZQ osize, .bool oel, .bool true, .bool true, .bool oect, ZI ZQ delay, .slice ra rn rc, .bool marked, ZI ZQ e0, ZI ZQ e1, ZI ZQ e2, .slice ea en ec, ZI ZQ err, ZI ZQ smooth] 93)).alloc (.cells #[ZI ZQ 0, ZI ZQ onum, ZI ZQ osize, .bool oel, .bool true, .bool true, .bool oect] 28)) := ((Below.refl _ _).alloc (Nat.le_refl _) _).alloc (by simp) _
  have hl := HK.out.later ha
  refine ⟨hl.blk, hl.l, hl.a, hl.r, hl.p, hl.ge, (Blk.new _ _ _).alloc _, ?_, FarR.of_below ha (Nat.le_of_lt (Nat.lt_of_le_of_lt hK.ge hK.blk.lt))⟩
  have := Blk.new (w.alloc (.cells #[ZI ZQ kind, ZI ZQ rt, ZI ZQ rsp, ZI ZQ rsize, ZI ZQ 0, ZI ZQ onum, ZI ZQ osize, .bool oel, .bool true, .bool true, .bool oect, ZI ZQ delay, .slice ra rn rc, .bool marked, ZI ZQ e0, ZI ZQ e1, ZI ZQ e2, .slice ea en ec, ZI ZQ err, ZI ZQ smooth] 93)) 28 #[ZI ZQ 0, ZI ZQ onum, ZI ZQ osize, .bool oel, .bool true, .bool true, .bool oect]
  simpa [outL] using this
 obtain ⟨W1, hW1⟩ : ∃ x, (w.alloc (.cells #[ZI ZQ kind, ZI ZQ rt, ZI ZQ rsp, ZI ZQ rsize, ZI ZQ 0, ZI ZQ onum, ZI ZQ osize, .bool oel, .bool true, .bool true, .bool oect, ZI ZQ delay, .slice ra rn rc, .bool marked, ZI ZQ e0, ZI ZQ e1, ZI ZQ e2, .slice ea en ec, ZI ZQ err, ZI ZQ smooth] 93)).alloc (.cells #[ZI ZQ 0, ZI ZQ onum, ZI ZQ osize, .bool oel, .bool true, .bool true, .bool oect] 28) = x := ⟨_, rfl⟩
 obtain ⟨R, hR⟩ : ∃ x, w.heap.size = x := ⟨_, rfl⟩
 rw [hW1, hR] at hs
 rw [hR] at hko
 rw [hW1, hR]
 have hBO : ∀ (W : World), (Blk W (R + 1) 28 (outL ⟨0, onum, osize, oel, true, true, oect⟩).toArray ∧ Blk W R 93 #[ZI ZQ kind, ZI ZQ rt, ZI ZQ rsp, ZI ZQ rsize, ZI ZQ 0, ZI ZQ onum, ZI ZQ osize, .bool oel, .bool true, .bool true, .bool oect, ZI ZQ delay, .slice ra rn rc, .bool marked, ZI ZQ e0, ZI ZQ e1, ZI ZQ e2, .slice ea en ec, ZI ZQ err, ZI ZQ smooth]) → W.cell? ⟨R + 1, 0, none⟩ = some (ZI ZQ 0) ∧ W.cell? ⟨R + 1, 1, none⟩ = some (ZI ZQ onum) ∧ W.cell? ⟨R + 1, 2, none⟩ = some (ZI ZQ osize) ∧ W.cell? ⟨R + 1, 3, none⟩ = some (.bool oel) ∧ W.cell? ⟨R + 1, 4, none⟩ = some (.bool true) ∧ W.cell? ⟨R + 1, 5, none⟩ = some (.bool true) ∧ W.cell? ⟨R + 1, 6, none⟩ = some (.bool oect) ∧ W.cell? ⟨R, 1, none⟩ = some (ZI ZQ rt) := fun W h => ⟨h.1.cell 0, h.1.cell 1, h.1.cell 2, h.1.cell 3, h.1.cell 4, h.1.cell 5, h.1.cell 6, h.2.cell 1⟩
 have HBO := hide hBO
 clear hBO hW1 hR hkl
 obtain ⟨i0, hi0, hz0, hz1, hz2⟩ := info_parts out_info
 obtain ⟨A8, c8, rfl⟩ := own_sl hs.l
 have ho := hs.l
 obtain ⟨M, hM⟩ : ∃ x, k.flying.length = x := ⟨_, rfl⟩
 rw [hM] at ho
 obtain ⟨xs, hxs⟩ : ∃ x, k.flying.flatMap oL = x := ⟨_, rfl⟩
 rw [hxs] at ho
 have hMl : M ≤ 1900 := by omega
 have kc := hs.blk.cell 16
 have fc := hs.blk.frozen 16
 have hbase := hs.room
 simp only [krC, hM, ZG, ZH, ZJ] at kc
 have hneR := own_ne ho hs.row (by decide)
 have hneO : some (R + 1) ≠ (Value.slice A8 M c8).ownBlock := by rw [← hM]; exact hko
 have hneB := own_ne ho hs.blk (by decide)
 have kca : (W1.alloc (.cells #[ZI ZQ 0, ZI ZQ onum, ZI ZQ osize, .bool oel, .bool true, .bool true, .bool oect] 28)).cell? ⟨b, 16, none⟩ = some (.slice A8 M c8) := by have := (hs.blk.alloc (.cells #[ZI ZQ 0, ZI ZQ onum, ZI ZQ osize, .bool oel, .bool true, .bool true, .bool oect] 28)).cell 16; rw [this]; simp [krC, hM]
 have kcb : (W1.alloc (.cells #[ZI ZQ 0, ZI ZQ onum, ZI ZQ osize, .bool oel, .bool true, .bool true, .bool oect] 28)).drew.cell? ⟨b, 16, none⟩ = some (.slice A8 M c8) := kca
 have HPX : Hid ((k.flying ++ [(⟨⟨0, onum, osize, oel, true, true, oect⟩, rt⟩ : PKT)]).length = M + 1 ∧ (k.flying ++ [(⟨⟨0, onum, osize, oel, true, true, oect⟩, rt⟩ : PKT)]).flatMap oL = xs ++ [ZI ZQ 0, ZI ZQ onum, ZI ZQ osize, .bool oel, .bool true, .bool true, .bool oect]) := ⟨by rw [List.length_append, hM]; rfl, by rw [List.flatMap_append, hxs]; rfl⟩
 have hM' := hide hM
 have hS0 : Blk W1.drew (R + 1) 28 (outL ⟨0, onum, osize, oel, true, true, oect⟩).toArray ∧ Blk W1.drew R 93 #[ZI ZQ kind, ZI ZQ rt, ZI ZQ rsp, ZI ZQ rsize, ZI ZQ 0, ZI ZQ onum, ZI ZQ osize, .bool oel, .bool true, .bool true, .bool oect, ZI ZQ delay, .slice ra rn rc, .bool marked, ZI ZQ e0, ZI ZQ e1, ZI ZQ e2, .slice ea en ec, ZI ZQ err, ZI ZQ smooth] := ⟨hs.drew.out, hs.drew.row⟩
 have HS1 := hide hs
 go_cut [] (fun wx => ∃ vL', RaSt w wx b base k (k.flying ++ [(⟨⟨0, onum, osize, oel, true, true, oect⟩, rt⟩ : PKT)]) k.flying vL' vA vR vP R (R + 1) #[ZI ZQ kind, ZI ZQ rt, ZI ZQ rsp, ZI ZQ rsize, ZI ZQ 0, ZI ZQ onum, ZI ZQ osize, .bool oel, .bool true, .bool true, .bool oect, ZI ZQ delay, .slice ra rn rc, .bool marked, ZI ZQ e0, ZI ZQ e1, ZI ZQ e2, .slice ea en ec, ZI ZQ err, ZI ZQ smooth] ⟨0, onum, osize, oel, true, true, oect⟩)
 case first =>
  clear HK hK HS1
  refine wp_region_held_drew (S := (fun w' => Blk w' (R + 1) 28 (outL ⟨0, onum, osize, oel, true, true, oect⟩).toArray ∧ Blk w' R 93 #[ZI ZQ kind, ZI ZQ rt, ZI ZQ rsp, ZI ZQ rsize, ZI ZQ 0, ZI ZQ onum, ZI ZQ osize, .bool oel, .bool true, .bool true, .bool oect, ZI ZQ delay, .slice ra rn rc, .bool marked, ZI ZQ e0, ZI ZQ e1, ZI ZQ e2, .slice ea en ec, ZI ZQ err, ZI ZQ smooth])) (by kernel_rfl) hS0 (fun hHeld => ?_)
  refine tkP 0 ?_ rfl ?_ ?_
  rotate_left
  ·intro w' hSw; (try dsimp only at hSw); obtain ⟨hb0, hb1, hb2, hb3, hb4, hb5, hb6, hr1⟩ := HBO.out _ hSw; go_simp; try with_reducible rfl
  try simp only [ZP, ZA, ZB, ZC, ZD, ZE, ZF]
  refine tkP 1 ?_ rfl ?_ ?_
  rotate_left
  ·intro w' hSw; (try dsimp only at hSw); obtain ⟨hb0, hb1, hb2, hb3, hb4, hb5, hb6, hr1⟩ := HBO.out _ hSw; go_simp; try with_reducible rfl
  try simp only [ZP, ZA, ZB, ZC, ZD, ZE, ZF]
  refine tkP 2 ?_ rfl ?_ ?_
  rotate_left
  ·intro w' hSw; (try dsimp only at hSw); obtain ⟨hb0, hb1, hb2, hb3, hb4, hb5, hb6, hr1⟩ := HBO.out _ hSw; go_simp; try with_reducible rfl
  try simp only [ZP, ZA, ZB, ZC, ZD, ZE, ZF]
  refine tkP 3 ?_ rfl ?_ ?_
  rotate_left
  ·intro w' hSw; (try dsimp only at hSw); obtain ⟨hb0, hb1, hb2, hb3, hb4, hb5, hb6, hr1⟩ := HBO.out _ hSw; go_simp; try with_reducible rfl
  try simp only [ZP, ZA, ZB, ZC, ZD, ZE, ZF]
  refine tkP 5 ?_ rfl ?_ ?_
  rotate_left
  ·intro w' hSw; (try dsimp only at hSw); obtain ⟨hb0, hb1, hb2, hb3, hb4, hb5, hb6, hr1⟩ := HBO.out _ hSw; go_simp; try with_reducible rfl
  try simp only [ZP, ZA, ZB, ZC, ZD, ZE, ZF]
  refine tkR [4, 6] ?_
  refine ZS rfl (fun K hK => ?_) ?_
  ·skip
   go_simp
   refine hK.out _ _ (hS0) (fun hHeld => ?_)
   clear hK K
   try simp only [ZP, ZA, ZB, ZC, ZD, ZE, ZF]
   refine tkR [6] ?_
   refine ZS rfl (fun K hK => ?_) ZN
   go_simp
   refine hK.out _ _ (by exact ⟨hs.out.alloc _, hs.row.alloc _⟩) (fun hHeld => ?_)
   clear hK K
   try simp only [ZP, ZA, ZB, ZC, ZD, ZE, ZF]
   refine tkR [7] ?_
   refine ZS rfl (fun K hK => ?_) ZN
   refine step_append_any _ rfl (.tmp 13) (.tmp 15) _ rfl base 28 i0 _ 7 32 Try.underlying88 hi0 hz0 hz1 hz2 rfl (by decide) (.slice A8 M c8) M xs rfl (by exact ho.alloc _) (W1.heap.size + 1) (some ⟨W1.heap.size, 0, none⟩) 1 1 [ZI ZQ 0, ZI ZQ onum, ZI ZQ osize, .bool oel, .bool true, .bool true, .bool oect] rfl (by exact reads_lit (blk_new_at (by simp)) (by simp) rfl) (by simp [Value.oneCell']) (by unfold maxLen; omega) (by omega) (by simp; omega) ?_; intro v8 w8 hown8 hg8 hat8; obtain ⟨g8, cap8, rfl⟩ := own_form hown8; have hr8 := blk_grown (t := 93) (by exact hs.row.alloc _) hg8 hneR; have ho8 := blk_grown (t := 28) (by exact hs.out.alloc _) hg8 hneO; have hb8 := blk_grown (t := 92) (by exact hs.blk.alloc _) hg8 hneB; have y8 := hb8.cell 16; have f8 := hb8.frozen 16
   try go_simp
   refine hK.out _ _ (by exact ⟨ho8, hr8⟩) (fun hHeld => ?_)
   clear hK K
   refine tkP 8 ?_ rfl ?_ ?_
   rotate_left
   ·intro w' hSw; (try dsimp only at hSw); obtain ⟨hb0, hb1, hb2, hb3, hb4, hb5, hb6, hr1⟩ := HBO.out _ hSw; go_simp; try with_reducible rfl
   try simp only [ZP, ZA, ZB, ZC, ZD, ZE, ZF]
   refine tkP 9 ?_ rfl ?_ ?_
   rotate_left
   ·intro w' hSw; (try dsimp only at hSw); obtain ⟨hb0, hb1, hb2, hb3, hb4, hb5, hb6, hr1⟩ := HBO.out _ hSw; go_simp; try with_reducible rfl
   try simp only [ZP, ZA, ZB, ZC, ZD, ZE, ZF]
   refine tkR [10] ?_
   refine ZS rfl (fun K hK => ?_) ZN
   go_simp
   refine hK.out _ _ (by exact ⟨ho8.far (blk_ne ho8 hb8 (by decide)) _, hr8.far (blk_ne hr8 hb8 (by decide)) _⟩) (fun hHeld => ?_)
   clear hK K
   refine wpAnyH_done (by kernel_rfl) ?_ _
   go_wp2_with fail
   go_meet
   exact ⟨_, RaSt.pushL hs (q := (⟨⟨0, onum, osize, oel, true, true, oect⟩, rt⟩ : PKT)) (vL := .slice A8 k.flying.length c8) (X := .cells #[ZI ZQ 0, ZI ZQ onum, ZI ZQ osize, .bool oel, .bool true, .bool true, .bool oect] 28) hko (by rw [hM'.out]; exact ⟨hg8.os, hg8.tape, hg8.output, hg8.size, hg8.block⟩) (by rw [HPX.out.1, HPX.out.2]; exact hown8)⟩
  refine ZS rfl (fun K hK => ?_) ZN
  go_simp
  refine hK.out _ _ (by exact ⟨hs.out.alloc _, hs.row.alloc _⟩) (fun hHeld => ?_)
  clear hK K
  try simp only [ZP, ZA, ZB, ZC, ZD, ZE, ZF]
  refine tkR [4] ?_
  refine ZS rfl (fun K hK => ?_) ZN
  go_simp
  refine hK.out _ _ (by exact ⟨hs.out.alloc _, hs.row.alloc _⟩) (fun hHeld => ?_)
  clear hK K
  try simp only [ZP, ZA, ZB, ZC, ZD, ZE, ZF]
  refine tkR [7] ?_
  refine ZS rfl (fun K hK => ?_) ZN
  refine step_append_any _ rfl (.tmp 13) (.tmp 15) _ rfl base 28 i0 _ 7 32 Try.underlying88 hi0 hz0 hz1 hz2 rfl (by decide) (.slice A8 M c8) M xs rfl (by exact ho.alloc _) (W1.heap.size + 1) (some ⟨W1.heap.size, 0, none⟩) 1 1 [ZI ZQ 0, ZI ZQ onum, ZI ZQ osize, .bool oel, .bool true, .bool true, .bool oect] rfl (by exact reads_lit (blk_new_at (by simp)) (by simp) rfl) (by simp [Value.oneCell']) (by unfold maxLen; omega) (by omega) (by simp; omega) ?_; intro v8 w8 hown8 hg8 hat8; obtain ⟨g8, cap8, rfl⟩ := own_form hown8; have hr8 := blk_grown (t := 93) (by exact hs.row.alloc _) hg8 hneR; have ho8 := blk_grown (t := 28) (by exact hs.out.alloc _) hg8 hneO; have hb8 := blk_grown (t := 92) (by exact hs.blk.alloc _) hg8 hneB; have y8 := hb8.cell 16; have f8 := hb8.frozen 16
  try go_simp
  refine hK.out _ _ (by exact ⟨ho8, hr8⟩) (fun hHeld => ?_)
  clear hK K
  refine tkP 8 ?_ rfl ?_ ?_
  rotate_left
  ·intro w' hSw; (try dsimp only at hSw); obtain ⟨hb0, hb1, hb2, hb3, hb4, hb5, hb6, hr1⟩ := HBO.out _ hSw; go_simp; try with_reducible rfl
  try simp only [ZP, ZA, ZB, ZC, ZD, ZE, ZF]
  refine tkP 9 ?_ rfl ?_ ?_
  rotate_left
  ·intro w' hSw; (try dsimp only at hSw); obtain ⟨hb0, hb1, hb2, hb3, hb4, hb5, hb6, hr1⟩ := HBO.out _ hSw; go_simp; try with_reducible rfl
  try simp only [ZP, ZA, ZB, ZC, ZD, ZE, ZF]
  refine tkR [10] ?_
  refine ZS rfl (fun K hK => ?_) ZN
  go_simp
  refine hK.out _ _ (by exact ⟨ho8.far (blk_ne ho8 hb8 (by decide)) _, hr8.far (blk_ne hr8 hb8 (by decide)) _⟩) (fun hHeld => ?_)
  clear hK K
  refine wpAnyH_done (by kernel_rfl) ?_ _
  go_wp2_with fail
  go_meet
  exact ⟨_, RaSt.pushL hs (q := (⟨⟨0, onum, osize, oel, true, true, oect⟩, rt⟩ : PKT)) (vL := .slice A8 k.flying.length c8) (X := .cells #[ZI ZQ 0, ZI ZQ onum, ZI ZQ osize, .bool oel, .bool true, .bool true, .bool oect] 28) hko (by rw [hM'.out]; exact ⟨hg8.os, hg8.tape, hg8.output, hg8.size, hg8.block⟩) (by rw [HPX.out.1, HPX.out.2]; exact hown8)⟩
 case rest =>
  obtain ⟨vL', hs2⟩ := hcut
  clear hs hko hneR hneB hneO hS0 kca kcb HPX hM hM' hxs ho kc fc hi0 hz0 hz1 hz2 HS1
  have hs := hs2
  clear hs2
  clear hMl hbase
  obtain ⟨i0, hi0, hz0, hz1, hz2⟩ := info_parts int_info
  obtain ⟨A8, c8, rfl⟩ := own_sl hs.a
  have ho := hs.a
  obtain ⟨M, hM⟩ : ∃ x, k.flying.length = x := ⟨_, rfl⟩
  rw [hM] at ho
  obtain ⟨xs, hxs⟩ : ∃ x, k.flying.flatMap tL = x := ⟨_, rfl⟩
  rw [hxs] at ho
  have hMl : M ≤ 1900 := by omega
  have kc := hs.blk.cell 17
  have fc := hs.blk.frozen 17
  have hbase := hs.room
  simp only [krC, hM, ZG, ZH, ZJ] at kc
  have hneR := own_ne ho hs.row (by decide)
  have hneO : some (R + 1) ≠ (Value.slice A8 M c8).ownBlock := own_ne ho hs.out (by decide)
  have hneB := own_ne ho hs.blk (by decide)
  have kca : (wc.alloc (.cells #[ZI ZQ rt] 3)).cell? ⟨b, 17, none⟩ = some (.slice A8 M c8) := by have := (hs.blk.alloc (.cells #[ZI ZQ rt] 3)).cell 17; rw [this]; simp [krC, hM]
  have kcb : (wc.alloc (.cells #[ZI ZQ rt] 3)).drew.cell? ⟨b, 17, none⟩ = some (.slice A8 M c8) := kca
  have HPX : Hid ((k.flying ++ [(⟨⟨0, onum, osize, oel, true, true, oect⟩, rt⟩ : PKT)]).length = M + 1 ∧ (k.flying ++ [(⟨⟨0, onum, osize, oel, true, true, oect⟩, rt⟩ : PKT)]).flatMap tL = xs ++ [ZI ZQ rt]) := ⟨by rw [List.length_append, hM]; rfl, by rw [List.flatMap_append, hxs]; rfl⟩
  have hM' := hide hM
  have hS0 : Blk wc.drew (R + 1) 28 (outL ⟨0, onum, osize, oel, true, true, oect⟩).toArray ∧ Blk wc.drew R 93 #[ZI ZQ kind, ZI ZQ rt, ZI ZQ rsp, ZI ZQ rsize, ZI ZQ 0, ZI ZQ onum, ZI ZQ osize, .bool oel, .bool true, .bool true, .bool oect, ZI ZQ delay, .slice ra rn rc, .bool marked, ZI ZQ e0, ZI ZQ e1, ZI ZQ e2, .slice ea en ec, ZI ZQ err, ZI ZQ smooth] := ⟨hs.drew.out, hs.drew.row⟩
  go_upto_region 3 with (fail)
  go_cut [] (fun wx => ∃ vA', RaSt w wx b base k (k.flying ++ [(⟨⟨0, onum, osize, oel, true, true, oect⟩, rt⟩ : PKT)]) (k.flying ++ [(⟨⟨0, onum, osize, oel, true, true, oect⟩, rt⟩ : PKT)]) vL' vA' vR vP R (R + 1) #[ZI ZQ kind, ZI ZQ rt, ZI ZQ rsp, ZI ZQ rsize, ZI ZQ 0, ZI ZQ onum, ZI ZQ osize, .bool oel, .bool true, .bool true, .bool oect, ZI ZQ delay, .slice ra rn rc, .bool marked, ZI ZQ e0, ZI ZQ e1, ZI ZQ e2, .slice ea en ec, ZI ZQ err, ZI ZQ smooth] ⟨0, onum, osize, oel, true, true, oect⟩)
  case first =>
   clear HK hK
   refine wp_region_held_drew (S := (fun w' => Blk w' (R + 1) 28 (outL ⟨0, onum, osize, oel, true, true, oect⟩).toArray ∧ Blk w' R 93 #[ZI ZQ kind, ZI ZQ rt, ZI ZQ rsp, ZI ZQ rsize, ZI ZQ 0, ZI ZQ onum, ZI ZQ osize, .bool oel, .bool true, .bool true, .bool oect, ZI ZQ delay, .slice ra rn rc, .bool marked, ZI ZQ e0, ZI ZQ e1, ZI ZQ e2, .slice ea en ec, ZI ZQ err, ZI ZQ smooth])) (by kernel_rfl) hS0 (fun hHeld => ?_)
   refine tkP 0 ?_ rfl ?_ ?_
   rotate_left
   ·intro w' hSw; (try dsimp only at hSw); obtain ⟨hb0, hb1, hb2, hb3, hb4, hb5, hb6, hr1⟩ := HBO.out _ hSw; go_simp; try with_reducible rfl
   try simp only [ZP, ZA, ZB, ZC, ZD, ZE, ZF]
   refine tkP 1 ?_ rfl ?_ ?_
   rotate_left
   ·intro w' hSw; (try dsimp only at hSw); obtain ⟨hb0, hb1, hb2, hb3, hb4, hb5, hb6, hr1⟩ := HBO.out _ hSw; go_simp; try with_reducible rfl
   try simp only [ZP, ZA, ZB, ZC, ZD, ZE, ZF]
   refine tkP 2 ?_ rfl ?_ ?_
   rotate_left
   ·intro w' hSw; (try dsimp only at hSw); obtain ⟨hb0, hb1, hb2, hb3, hb4, hb5, hb6, hr1⟩ := HBO.out _ hSw; go_simp; try with_reducible rfl
   try simp only [ZP, ZA, ZB, ZC, ZD, ZE, ZF]
   refine tkP 3 ?_ rfl ?_ ?_
   rotate_left
   ·intro w' hSw; (try dsimp only at hSw); obtain ⟨hb0, hb1, hb2, hb3, hb4, hb5, hb6, hr1⟩ := HBO.out _ hSw; go_simp; try with_reducible rfl
   try simp only [ZP, ZA, ZB, ZC, ZD, ZE, ZF]
   refine tkP 5 ?_ rfl ?_ ?_
   rotate_left
   ·intro w' hSw; (try dsimp only at hSw); obtain ⟨hb0, hb1, hb2, hb3, hb4, hb5, hb6, hr1⟩ := HBO.out _ hSw; go_simp; try with_reducible rfl
   try simp only [ZP, ZA, ZB, ZC, ZD, ZE, ZF]
   refine tkP 6 ?_ rfl ?_ ?_
   rotate_left
   ·intro w' hSw; (try dsimp only at hSw); obtain ⟨hb0, hb1, hb2, hb3, hb4, hb5, hb6, hr1⟩ := HBO.out _ hSw; go_simp; try with_reducible rfl
   try simp only [ZP, ZA, ZB, ZC, ZD, ZE, ZF]
   refine tkR [4, 7] ?_
   refine ZS rfl (fun K hK => ?_) ?_
   ·skip
    go_simp
    refine hK.out _ _ (hS0) (fun hHeld => ?_)
    clear hK K
    try simp only [ZP, ZA, ZB, ZC, ZD, ZE, ZF]
    refine tkR [7] ?_
    refine ZS rfl (fun K hK => ?_) ZN
    go_simp
    refine hK.out _ _ (by exact ⟨hs.out.alloc _, hs.row.alloc _⟩) (fun hHeld => ?_)
    clear hK K
    try simp only [ZP, ZA, ZB, ZC, ZD, ZE, ZF]
    refine tkR [8] ?_
    refine ZS rfl (fun K hK => ?_) ZN
    refine step_append_any _ rfl (.tmp 23) (.tmp 26) _ rfl base 3 i0 _ 1 8 Try.underlying89 hi0 hz0 hz1 hz2 rfl (by decide) (.slice A8 M c8) M xs rfl (by exact ho.alloc _) (wc.heap.size + 1) (some ⟨wc.heap.size, 0, none⟩) 1 1 [ZI ZQ rt] rfl (by exact reads_lit (blk_new_at (by simp)) (by simp) rfl) (by simp [Value.oneCell']) (by unfold maxLen; omega) (by omega) (by simp; omega) ?_; intro v8 w8 hown8 hg8 hat8; obtain ⟨g8, cap8, rfl⟩ := own_form hown8; have hr8 := blk_grown (t := 93) (by exact hs.row.alloc _) hg8 hneR; have ho8 := blk_grown (t := 28) (by exact hs.out.alloc _) hg8 hneO; have hb8 := blk_grown (t := 92) (by exact hs.blk.alloc _) hg8 hneB; have y8 := hb8.cell 17; have f8 := hb8.frozen 17
    try go_simp
    refine hK.out _ _ (by exact ⟨ho8, hr8⟩) (fun hHeld => ?_)
    clear hK K
    refine tkP 9 ?_ rfl ?_ ?_
    rotate_left
    ·intro w' hSw; (try dsimp only at hSw); obtain ⟨hb0, hb1, hb2, hb3, hb4, hb5, hb6, hr1⟩ := HBO.out _ hSw; go_simp; try with_reducible rfl
    try simp only [ZP, ZA, ZB, ZC, ZD, ZE, ZF]
    refine tkP 10 ?_ rfl ?_ ?_
    rotate_left
    ·intro w' hSw; (try dsimp only at hSw); obtain ⟨hb0, hb1, hb2, hb3, hb4, hb5, hb6, hr1⟩ := HBO.out _ hSw; go_simp; try with_reducible rfl
    try simp only [ZP, ZA, ZB, ZC, ZD, ZE, ZF]
    refine tkR [11] ?_
    refine ZS rfl (fun K hK => ?_) ZN
    go_simp
    refine hK.out _ _ (by exact ⟨ho8.far (blk_ne ho8 hb8 (by decide)) _, hr8.far (blk_ne hr8 hb8 (by decide)) _⟩) (fun hHeld => ?_)
    clear hK K
    refine wpAnyH_done (by kernel_rfl) ?_ _
    go_wp2_with fail
    go_meet
    exact ⟨_, RaSt.pushA hs (q := (⟨⟨0, onum, osize, oel, true, true, oect⟩, rt⟩ : PKT)) (vA := .slice A8 k.flying.length c8) (X := .cells #[ZI ZQ rt] 3) (by rw [hM'.out]; exact ⟨hg8.os, hg8.tape, hg8.output, hg8.size, hg8.block⟩) (by rw [HPX.out.1, HPX.out.2]; exact hown8)⟩
   refine ZS rfl (fun K hK => ?_) ZN
   go_simp
   refine hK.out _ _ (by exact ⟨hs.out.alloc _, hs.row.alloc _⟩) (fun hHeld => ?_)
   clear hK K
   try simp only [ZP, ZA, ZB, ZC, ZD, ZE, ZF]
   refine tkR [4] ?_
   refine ZS rfl (fun K hK => ?_) ZN
   go_simp
   refine hK.out _ _ (by exact ⟨hs.out.alloc _, hs.row.alloc _⟩) (fun hHeld => ?_)
   clear hK K
   try simp only [ZP, ZA, ZB, ZC, ZD, ZE, ZF]
   refine tkR [8] ?_
   refine ZS rfl (fun K hK => ?_) ZN
   refine step_append_any _ rfl (.tmp 23) (.tmp 26) _ rfl base 3 i0 _ 1 8 Try.underlying89 hi0 hz0 hz1 hz2 rfl (by decide) (.slice A8 M c8) M xs rfl (by exact ho.alloc _) (wc.heap.size + 1) (some ⟨wc.heap.size, 0, none⟩) 1 1 [ZI ZQ rt] rfl (by exact reads_lit (blk_new_at (by simp)) (by simp) rfl) (by simp [Value.oneCell']) (by unfold maxLen; omega) (by omega) (by simp; omega) ?_; intro v8 w8 hown8 hg8 hat8; obtain ⟨g8, cap8, rfl⟩ := own_form hown8; have hr8 := blk_grown (t := 93) (by exact hs.row.alloc _) hg8 hneR; have ho8 := blk_grown (t := 28) (by exact hs.out.alloc _) hg8 hneO; have hb8 := blk_grown (t := 92) (by exact hs.blk.alloc _) hg8 hneB; have y8 := hb8.cell 17; have f8 := hb8.frozen 17
   try go_simp
   refine hK.out _ _ (by exact ⟨ho8, hr8⟩) (fun hHeld => ?_)
   clear hK K
   refine tkP 9 ?_ rfl ?_ ?_
   rotate_left
   ·intro w' hSw; (try dsimp only at hSw); obtain ⟨hb0, hb1, hb2, hb3, hb4, hb5, hb6, hr1⟩ := HBO.out _ hSw; go_simp; try with_reducible rfl
   try simp only [ZP, ZA, ZB, ZC, ZD, ZE, ZF]
   refine tkP 10 ?_ rfl ?_ ?_
   rotate_left
   ·intro w' hSw; (try dsimp only at hSw); obtain ⟨hb0, hb1, hb2, hb3, hb4, hb5, hb6, hr1⟩ := HBO.out _ hSw; go_simp; try with_reducible rfl
   try simp only [ZP, ZA, ZB, ZC, ZD, ZE, ZF]
   refine tkR [11] ?_
   refine ZS rfl (fun K hK => ?_) ZN
   go_simp
   refine hK.out _ _ (by exact ⟨ho8.far (blk_ne ho8 hb8 (by decide)) _, hr8.far (blk_ne hr8 hb8 (by decide)) _⟩) (fun hHeld => ?_)
   clear hK K
   refine wpAnyH_done (by kernel_rfl) ?_ _
   go_wp2_with fail
   go_meet
   exact ⟨_, RaSt.pushA hs (q := (⟨⟨0, onum, osize, oel, true, true, oect⟩, rt⟩ : PKT)) (vA := .slice A8 k.flying.length c8) (X := .cells #[ZI ZQ rt] 3) (by rw [hM'.out]; exact ⟨hg8.os, hg8.tape, hg8.output, hg8.size, hg8.block⟩) (by rw [HPX.out.1, HPX.out.2]; exact hown8)⟩
  case rest =>
   obtain ⟨vA', hs2⟩ := hcut
   clear hs hneR hneB hneO hS0 kca kcb HPX hM hM' hxs ho kc fc hi0 hz0 hz1 hz2 hMl hbase
   have hs := hs2
   clear hs2
   have HS3 := hide hs
   have c18 := hs.blk.cell 18
   have c19 := hs.blk.cell 19
   have c20 := hs.blk.cell 20
   have f18 := hs.blk.frozen 18
   have f19 := hs.blk.frozen 19
   have f20 := hs.blk.frozen 20
   have l1 := hs.blk.lt
   have l2 := hs.out.lt
   have l3 := hs.row.lt
   have o0 := hs.out.cell 0
   have o1 := hs.out.cell 1
   simp only [krC, outL, ZG, ZH, ZJ] at c18 c19 c20 o0 o1
   clear hs
   go_upto_region 7 with (fail)
   have p1 := HS3.out.put 18 (ZI ZQ onum) { k with last := fun j => if j = 0 then onum else k.last j } rfl rfl rfl
   have p2 := p1.put 19 (ZI ZQ (k.last 1)) { k with last := fun j => if j = 0 then onum else k.last j } rfl rfl rfl
   have p3 := p2.put 20 (ZI ZQ (k.last 2)) { k with last := fun j => if j = 0 then onum else k.last j } rfl rfl rfl
   have hs := p3.later ((Below.refl _ _).alloc (Nat.le_refl _) (.cells #[ZI ZQ onum, ZI ZQ (k.last 1), ZI ZQ (k.last 2)] 30))
   obtain ⟨W7, hW7⟩ : ∃ x, (((wc.setCell ⟨b, 18, none⟩ (ZI ZQ onum)).setCell ⟨b, 19, none⟩ (ZI ZQ (k.last 1))).setCell ⟨b, 20, none⟩ (ZI ZQ (k.last 2))).alloc (.cells #[ZI ZQ onum, ZI ZQ (k.last 1), ZI ZQ (k.last 2)] 30) = x := ⟨_, rfl⟩
   rw [hW7] at hs
   rw [hW7]
   clear hW7 p1 p2 p3 HS3 f18 f19 f20 l1 l2 l3 c18 c19 c20 o0 o1
   have HS7 := hide hs
   have o2 := hs.drew.out.cell 2
   have k13 := hs.drew.blk.cell 13
   have f13 := hs.drew.blk.frozen 13
   simp only [krC, outL, ZG, ZH, ZJ] at o2 k13
   have HAD := hide (fun W => still_add (radd_any k.sent osize W))
   clear hs
   refine wp_region_still_tail 10 (by kernel_rfl) (by kernel_rfl) ?_
   simp only [List.take_succ_cons, List.take_zero, List.drop_succ_cons, List.drop_zero]
   change wpStill _ _ W7.drew _ _ _
   repeat (refine wpStill_step (fun K hK => ?_); go_simp; (first | (with_reducible refine hK _ ?_) | with_reducible refine ⟨_, HAD.out _, hK _ ?_⟩); clear hK K)
   refine wpStill_nil ?_
   change wpList _ _ _ _ _ W7.drew
   go_upto_region 8 with (fail)
   have hs := (HS7.out.put 13 (ZI ZQ (addI k.sent osize)) { k with last := fun j => if j = 0 then onum else k.last j, sent := addI k.sent osize } rfl rfl rfl).drew
   obtain ⟨W8, hW8⟩ : ∃ x, (W7.setCell ⟨b, 13, none⟩ (ZI ZQ (addI k.sent osize))).drew = x := ⟨_, rfl⟩
   rw [hW8] at hs
   rw [hW8]
   clear hW8 HS7 o2 k13 f13 HAD
   have HS8 := hide hs
   have o4 := hs.out.cell 4
   have o5 := hs.out.cell 5
   simp only [outL, ZG, ZH, ZJ] at o4 o5
   have c24 := hs.blk.cell 24
   have c25 := hs.blk.cell 25
   have c26 := hs.blk.cell 26
   have l1 := hs.blk.lt
   have l2 := hs.out.lt
   have l3 := hs.row.lt
   have o0 := hs.out.cell 0
   simp only [krC, outL, ZG, ZH, ZJ] at c24 c25 c26 o0
   clear hs o4 HBO
   go_upto_region 10 with (fail)
   have hs := HS8.out.later ((Below.refl _ _).alloc (Nat.le_refl _) (.cells #[ZI ZQ (k.own 0), ZI ZQ (k.own 1), ZI ZQ (k.own 2)] 30))
   have hs11 := (HS8.out.later (((Below.refl _ _).alloc (Nat.le_refl _) (.cells #[ZI ZQ (k.own 0), ZI ZQ (k.own 1), ZI ZQ (k.own 2)] 30)).setCell (p := ⟨W8.heap.size, 0, none⟩) (Nat.le_refl _) (ZI ZQ (k.own 0 - 1)))).drew
   have hX := Blk.new W8 30 #[ZI ZQ (k.own 0), ZI ZQ (k.own 1), ZI ZQ (k.own 2)]
   have hXb : W8.heap.size ≠ b := by omega
   have hXo : W8.heap.size ≠ R + 1 := by omega
   have hXr : W8.heap.size ≠ R := by omega
   obtain ⟨X, hXq⟩ : ∃ x, W8.heap.size = x := ⟨_, rfl⟩
   obtain ⟨W9, hW9⟩ : ∃ x, W8.alloc (.cells #[ZI ZQ (k.own 0), ZI ZQ (k.own 1), ZI ZQ (k.own 2)] 30) = x := ⟨_, rfl⟩
   rw [hW9] at hs hX hs11
   rw [hW9]
   rw [hXq] at hX hXb hXo hXr hs11
   have HS11 := hide hs11
   clear hs11
   try rw [hXq]
   clear hW9 HS8 l1 l2 l3 c24 c25 c26 o0 o5
   have HS9 := hide (And.intro hs hX)
   have x0 := (show Blk W9.drew X _ _ from hX).cell 0
   have xf := (show Blk W9.drew X _ _ from hX).frozen 0
   have o0 := hs.drew.out.cell 0
   simp only [outL, ZG, ZH, ZJ] at x0 o0
   clear hs hX
   refine wp_region_still_tail 8 (by kernel_rfl) (by kernel_rfl) ?_
   simp only [List.take_succ_cons, List.take_zero, List.drop_succ_cons, List.drop_zero]
   change wpStill _ _ W9.drew _ _ _
   repeat (refine wpStill_step (fun K hK => ?_); go_simp; with_reducible refine hK _ ?_; clear hK K)
   refine wpStill_nil ?_
   change wpList _ _ _ _ _ W9.drew
   have hX11 : Blk (W9.setCell ⟨X, 0, none⟩ (ZI ZQ (k.own 0 - 1))).drew X 30 #[ZI ZQ (k.own 0 - 1), ZI ZQ (k.own 1), ZI ZQ (k.own 2)] := (HS9.out.2.set 0 (ZI ZQ (k.own 0 - 1))).eq rfl
   go_upto_region 11 with (fail)
   obtain ⟨W11, hW11⟩ : ∃ x, (W9.setCell ⟨X, 0, none⟩ (ZI ZQ (k.own 0 - 1))).drew = x := ⟨_, rfl⟩
   have hs := HS11.out
   rw [hW11] at hX11 hs
   rw [hW11]
   clear hW11 HS9 HS11 x0 xf o0
   have x0 := hX11.cell 0
   have x1 := hX11.cell 1
   have x2 := hX11.cell 2
   have f24 := hs.blk.frozen 24
   have f25 := hs.blk.frozen 25
   have f26 := hs.blk.frozen 26
   have c24 := hs.blk.cell 24
   have c25 := hs.blk.cell 25
   have c26 := hs.blk.cell 26
   have HS := hide hs
   simp only [krC, ZG, ZH, ZJ] at x0 x1 x2 c24 c25 c26
   clear hs hX11
   go_wp2_with fail
   go_end0
   have p1 := HS.out.put 24 (ZI ZQ (k.own 0 - 1)) { k with last := fun j => if j = 0 then onum else k.last j, sent := addI k.sent osize, own := fun j => if j = 0 then k.own 0 - 1 else k.own j } rfl rfl rfl
   have p2 := p1.put 25 (ZI ZQ (k.own 1)) { k with last := fun j => if j = 0 then onum else k.last j, sent := addI k.sent osize, own := fun j => if j = 0 then k.own 0 - 1 else k.own j } rfl rfl rfl
   have p3 := p2.put 26 (ZI ZQ (k.own 2)) { k with last := fun j => if j = 0 then onum else k.last j, sent := addI k.sent osize, own := fun j => if j = 0 then k.own 0 - 1 else k.own j } rfl rfl rfl
   exact ⟨rfl, _, _, _, p3.kr (probeK k ⟨0, onum, osize, oel, true, true, oect⟩ rt) rfl rfl rfl rfl rfl, p3.bl⟩
end Go.Proofs.Ytidfngcclbhoaaa
