/-
 The quick calls of a space: none, New, Last, Greatest, Loss, Time, Flight, Eliciting, All, Discard. Printed by wip/gensp1.py.
-/
import Derived.Test.YtgicljeedegncaaGreatSqSpcRep
namespace Go.Proofs.YtgicljeedegncaaGreat
open Go.Value renaming int → ZI
open Go.IntKind renaming i64 → ZQ
set_option linter.unusedSimpArgs false
set_option linter.unusedVariables false
open Go.RowKit

theorem spnone (f : Ft) (s : SpSt) (w : World) (h : IsSp w f s) : Calls Tryz.prog 49 #[.pointer (some ⟨f.b, 0, none⟩)] w fun e w' => e = .returned (.bool false) ∧ w = w' := by
 obtain ⟨c0, _⟩ := h.cells
 clear h
 go_enter Tryz.func49, Tryz.ntmps49
 go_wp2
 go_ret
 exact ⟨rfl, rfl⟩
theorem splast_lit (a : Addr) (f : Ft) (s : SpSt) (w : World) (h : IsSp w f s) (ha : w.cell? a = some (.pointer (some ⟨f.b, 0, none⟩))) :
  Calls Tryz.prog 55 #[.pointer (some a)] w fun e w' => e = .returned (ZI ZQ s.last) ∧ Below w.heap.size w w' := by
 obtain ⟨c0, c1, c2, c3, c4, c5⟩ := h.cells
 have H := hide (last_any _ _ _ _ _ _ h.log)
 clear h
 go_enter Tryz.func55, Tryz.ntmps55
 go_wp2_with fail
 refine H.out.mono ?_
 rintro e1 w1 ⟨rfl, hb⟩
 go_wp2_with fail
 go_ret
 exact ⟨rfl, by rw [← hb]; exact Below.refl _ _⟩
theorem splast_one (a : Addr) (f : Ft) (s : SpSt) (w : World) (h : IsSp w f s) (ha : w.cell? a = some (.pointer (some ⟨f.b, 0, none⟩))) :
  Calls Tryz.prog 47 #[.pointer (some ⟨f.b, 0, none⟩), .func (.func 55) #[] #[.pointer (some a)]] w fun e w' => e = .returned (ZI ZQ s.last) ∧ Below w.heap.size w w' := by
 have H1 := hide (spnone f s w h)
 have H2 := hide (splast_lit a f s w h ha)
 clear h ha
 go_enter Tryz.func47, Tryz.ntmps47
 go_wp2_with (first | (go_at_call 49; refine H1.out.mono ?_; rintro e1 w1 ⟨rfl, rfl⟩) | (go_at_call 55; refine H2.out.mono ?_; rintro e2 w2 ⟨rfl, hb⟩))
 go_ret
 exact ⟨rfl, hb⟩
set_option maxHeartbeats 1000000 in
theorem splast_any (f : Ft) (s : SpSt) (w : World) (h : IsSp w f s) :
  Calls Tryz.prog 20 #[.pointer (some ⟨f.b, 0, none⟩)] w fun e w' => e = .returned (ZI ZQ s.last) ∧ Below w.heap.size w w' := by
 have hx := (Blk.new w 23 #[.pointer (some ⟨f.b, 0, none⟩)]).cell 0
 have HS := hide (splast_one ⟨w.heap.size, 0, none⟩ f s _ (h.alloc (.cells #[.pointer (some ⟨f.b, 0, none⟩)] 23)) hx)
 clear h hx
 go_enter Tryz.func20, Tryz.ntmps20
 go_wp2_with (go_at_call 47; refine HS.out.mono ?_; rintro e1 w1 ⟨rfl, hb⟩)
 go_ret
 exact ⟨rfl, bw_below' ((Below.refl _ _).alloc (Nat.le_refl _) _) hb⟩
theorem spgreat_lit (a : Addr) (f : Ft) (s : SpSt) (w : World) (h : IsSp w f s) (ha : w.cell? a = some (.pointer (some ⟨f.b, 0, none⟩))) :
  Calls Tryz.prog 48 #[.pointer (some a)] w fun e w' => e = .returned (ZI ZQ s.great) ∧ Below w.heap.size w w' := by
 obtain ⟨c0, c1, c2, c3, c4, c5⟩ := h.cells
 clear h
 go_enter Tryz.func48, Tryz.ntmps48
 go_wp2
 go_ret
 exact ⟨rfl, Below.refl _ _⟩
theorem spgreat_one (a : Addr) (f : Ft) (s : SpSt) (w : World) (h : IsSp w f s) (ha : w.cell? a = some (.pointer (some ⟨f.b, 0, none⟩))) :
  Calls Tryz.prog 47 #[.pointer (some ⟨f.b, 0, none⟩), .func (.func 48) #[] #[.pointer (some a)]] w fun e w' => e = .returned (ZI ZQ s.great) ∧ Below w.heap.size w w' := by
 have H1 := hide (spnone f s w h)
 have H2 := hide (spgreat_lit a f s w h ha)
 clear h ha
 go_enter Tryz.func47, Tryz.ntmps47
 go_wp2_with (first | (go_at_call 49; refine H1.out.mono ?_; rintro e1 w1 ⟨rfl, rfl⟩) | (go_at_call 48; refine H2.out.mono ?_; rintro e2 w2 ⟨rfl, hb⟩))
 go_ret
 exact ⟨rfl, hb⟩
set_option maxHeartbeats 1000000 in
theorem spgreat_any (f : Ft) (s : SpSt) (w : World) (h : IsSp w f s) :
  Calls Tryz.prog 13 #[.pointer (some ⟨f.b, 0, none⟩)] w fun e w' => e = .returned (ZI ZQ s.great) ∧ Below w.heap.size w w' := by
 have hx := (Blk.new w 23 #[.pointer (some ⟨f.b, 0, none⟩)]).cell 0
 have HS := hide (spgreat_one ⟨w.heap.size, 0, none⟩ f s _ (h.alloc (.cells #[.pointer (some ⟨f.b, 0, none⟩)] 23)) hx)
 clear h hx
 go_enter Tryz.func13, Tryz.ntmps13
 go_wp2_with (go_at_call 47; refine HS.out.mono ?_; rintro e1 w1 ⟨rfl, hb⟩)
 go_ret
 exact ⟨rfl, bw_below' ((Below.refl _ _).alloc (Nat.le_refl _) _) hb⟩
theorem sploss_lit (a : Addr) (f : Ft) (s : SpSt) (w : World) (h : IsSp w f s) (ha : w.cell? a = some (.pointer (some ⟨f.b, 0, none⟩))) :
  Calls Tryz.prog 51 #[.pointer (some a)] w fun e w' => e = .returned (ZI ZQ s.loss) ∧ Below w.heap.size w w' := by
 obtain ⟨c0, c1, c2, c3, c4, c5⟩ := h.cells
 clear h
 go_enter Tryz.func51, Tryz.ntmps51
 go_wp2
 go_ret
 exact ⟨rfl, Below.refl _ _⟩
theorem sploss_one (a : Addr) (f : Ft) (s : SpSt) (w : World) (h : IsSp w f s) (ha : w.cell? a = some (.pointer (some ⟨f.b, 0, none⟩))) :
  Calls Tryz.prog 47 #[.pointer (some ⟨f.b, 0, none⟩), .func (.func 51) #[] #[.pointer (some a)]] w fun e w' => e = .returned (ZI ZQ s.loss) ∧ Below w.heap.size w w' := by
 have H1 := hide (spnone f s w h)
 have H2 := hide (sploss_lit a f s w h ha)
 clear h ha
 go_enter Tryz.func47, Tryz.ntmps47
 go_wp2_with (first | (go_at_call 49; refine H1.out.mono ?_; rintro e1 w1 ⟨rfl, rfl⟩) | (go_at_call 51; refine H2.out.mono ?_; rintro e2 w2 ⟨rfl, hb⟩))
 go_ret
 exact ⟨rfl, hb⟩
set_option maxHeartbeats 1000000 in
theorem sploss_any (f : Ft) (s : SpSt) (w : World) (h : IsSp w f s) :
  Calls Tryz.prog 15 #[.pointer (some ⟨f.b, 0, none⟩)] w fun e w' => e = .returned (ZI ZQ s.loss) ∧ Below w.heap.size w w' := by
 have hx := (Blk.new w 23 #[.pointer (some ⟨f.b, 0, none⟩)]).cell 0
 have HS := hide (sploss_one ⟨w.heap.size, 0, none⟩ f s _ (h.alloc (.cells #[.pointer (some ⟨f.b, 0, none⟩)] 23)) hx)
 clear h hx
 go_enter Tryz.func15, Tryz.ntmps15
 go_wp2_with (go_at_call 47; refine HS.out.mono ?_; rintro e1 w1 ⟨rfl, hb⟩)
 go_ret
 exact ⟨rfl, bw_below' ((Below.refl _ _).alloc (Nat.le_refl _) _) hb⟩
theorem sptime_lit (a : Addr) (f : Ft) (s : SpSt) (w : World) (h : IsSp w f s) (ha : w.cell? a = some (.pointer (some ⟨f.b, 0, none⟩))) :
  Calls Tryz.prog 69 #[.pointer (some a)] w fun e w' => e = .returned (ZI ZQ s.time) ∧ Below w.heap.size w w' := by
 obtain ⟨c0, c1, c2, c3, c4, c5⟩ := h.cells
 clear h
 go_enter Tryz.func69, Tryz.ntmps69
 go_wp2
 go_ret
 exact ⟨rfl, Below.refl _ _⟩
theorem sptime_one (a : Addr) (f : Ft) (s : SpSt) (w : World) (h : IsSp w f s) (ha : w.cell? a = some (.pointer (some ⟨f.b, 0, none⟩))) :
  Calls Tryz.prog 47 #[.pointer (some ⟨f.b, 0, none⟩), .func (.func 69) #[] #[.pointer (some a)]] w fun e w' => e = .returned (ZI ZQ s.time) ∧ Below w.heap.size w w' := by
 have H1 := hide (spnone f s w h)
 have H2 := hide (sptime_lit a f s w h ha)
 clear h ha
 go_enter Tryz.func47, Tryz.ntmps47
 go_wp2_with (first | (go_at_call 49; refine H1.out.mono ?_; rintro e1 w1 ⟨rfl, rfl⟩) | (go_at_call 69; refine H2.out.mono ?_; rintro e2 w2 ⟨rfl, hb⟩))
 go_ret
 exact ⟨rfl, hb⟩
set_option maxHeartbeats 1000000 in
theorem sptime_any (f : Ft) (s : SpSt) (w : World) (h : IsSp w f s) :
  Calls Tryz.prog 30 #[.pointer (some ⟨f.b, 0, none⟩)] w fun e w' => e = .returned (ZI ZQ s.time) ∧ Below w.heap.size w w' := by
 have hx := (Blk.new w 23 #[.pointer (some ⟨f.b, 0, none⟩)]).cell 0
 have HS := hide (sptime_one ⟨w.heap.size, 0, none⟩ f s _ (h.alloc (.cells #[.pointer (some ⟨f.b, 0, none⟩)] 23)) hx)
 clear h hx
 go_enter Tryz.func30, Tryz.ntmps30
 go_wp2_with (go_at_call 47; refine HS.out.mono ?_; rintro e1 w1 ⟨rfl, hb⟩)
 go_ret
 exact ⟨rfl, bw_below' ((Below.refl _ _).alloc (Nat.le_refl _) _) hb⟩
theorem IsLog.flight0 {w : World} {b rb room : Nat} {last : Int} {ps : List Pk} (h : IsLog w b rb room last ps) : 0 ≤ flightOf ps := (flight_bounds ps h.may).1
theorem elic_nn : ∀ ps : List Pk, 0 ≤ elicOf ps
 | [] => by simp [elicOf]
 | p :: l => by have := elic_nn l; unfold elicOf; split <;> omega
theorem IsLog.elic0 {w : World} {b rb room : Nat} {last : Int} {ps : List Pk} (h : IsLog w b rb room last ps) : 0 ≤ elicOf ps := elic_nn ps
theorem spflight_lit (a : Addr) (f : Ft) (s : SpSt) (w : World) (h : IsSp w f s) (ha : w.cell? a = some (.pointer (some ⟨f.b, 0, none⟩))) :
  Calls Tryz.prog 64 #[.pointer (some a)] w fun e w' => e = .returned (ZI ZQ (flightOf s.ps)) ∧ Below w.heap.size w w' := by
 obtain ⟨c0, c1, c2, c3, c4, c5⟩ := h.cells
 have H := hide (flight_any _ _ _ _ _ _ h.log)
 clear h
 go_enter Tryz.func64, Tryz.ntmps64
 go_wp2_with fail
 refine H.out.mono ?_
 rintro e1 w1 ⟨rfl, hb⟩
 go_wp2_with fail
 go_ret
 exact ⟨rfl, hb⟩
theorem spflight_one (a : Addr) (f : Ft) (s : SpSt) (w : World) (h : IsSp w f s) (ha : w.cell? a = some (.pointer (some ⟨f.b, 0, none⟩))) :
  Calls Tryz.prog 47 #[.pointer (some ⟨f.b, 0, none⟩), .func (.func 64) #[] #[.pointer (some a)]] w fun e w' => e = .returned (ZI ZQ (flightOf s.ps)) ∧ Below w.heap.size w w' := by
 have H1 := hide (spnone f s w h)
 have H2 := hide (spflight_lit a f s w h ha)
 clear h ha
 go_enter Tryz.func47, Tryz.ntmps47
 go_wp2_with (first | (go_at_call 49; refine H1.out.mono ?_; rintro e1 w1 ⟨rfl, rfl⟩) | (go_at_call 64; refine H2.out.mono ?_; rintro e2 w2 ⟨rfl, hb⟩))
 go_ret
 exact ⟨rfl, hb⟩
set_option maxHeartbeats 1000000 in
theorem spflight_any (f : Ft) (s : SpSt) (w : World) (h : IsSp w f s) :
  Calls Tryz.prog 27 #[.pointer (some ⟨f.b, 0, none⟩)] w fun e w' => e = .returned (ZI ZQ (flightOf s.ps)) ∧ Below w.heap.size w w' := by
 have hx := (Blk.new w 23 #[.pointer (some ⟨f.b, 0, none⟩)]).cell 0
 have HS := hide (spflight_one ⟨w.heap.size, 0, none⟩ f s _ (h.alloc (.cells #[.pointer (some ⟨f.b, 0, none⟩)] 23)) hx)
 have hpos : (if 0 < (flightOf s.ps) then (flightOf s.ps) else 0) = (flightOf s.ps) := by have := h.log.flight0; split <;> omega
 clear h hx
 go_enter Tryz.func27, Tryz.ntmps27
 go_wp2_with (go_at_call 47; refine HS.out.mono ?_; rintro e1 w1 ⟨rfl, hb⟩)
 go_ret
 exact ⟨rfl, bw_below' ((Below.refl _ _).alloc (Nat.le_refl _) _) hb⟩
theorem spelic_lit (a : Addr) (f : Ft) (s : SpSt) (w : World) (h : IsSp w f s) (ha : w.cell? a = some (.pointer (some ⟨f.b, 0, none⟩))) :
  Calls Tryz.prog 66 #[.pointer (some a)] w fun e w' => e = .returned (ZI ZQ (elicOf s.ps)) ∧ Below w.heap.size w w' := by
 obtain ⟨c0, c1, c2, c3, c4, c5⟩ := h.cells
 have H := hide (elic_any _ _ _ _ _ _ h.log)
 clear h
 go_enter Tryz.func66, Tryz.ntmps66
 go_wp2_with fail
 refine H.out.mono ?_
 rintro e1 w1 ⟨rfl, hb⟩
 go_wp2_with fail
 go_ret
 exact ⟨rfl, hb⟩
theorem spelic_one (a : Addr) (f : Ft) (s : SpSt) (w : World) (h : IsSp w f s) (ha : w.cell? a = some (.pointer (some ⟨f.b, 0, none⟩))) :
  Calls Tryz.prog 47 #[.pointer (some ⟨f.b, 0, none⟩), .func (.func 66) #[] #[.pointer (some a)]] w fun e w' => e = .returned (ZI ZQ (elicOf s.ps)) ∧ Below w.heap.size w w' := by
 have H1 := hide (spnone f s w h)
 have H2 := hide (spelic_lit a f s w h ha)
 clear h ha
 go_enter Tryz.func47, Tryz.ntmps47
 go_wp2_with (first | (go_at_call 49; refine H1.out.mono ?_; rintro e1 w1 ⟨rfl, rfl⟩) | (go_at_call 66; refine H2.out.mono ?_; rintro e2 w2 ⟨rfl, hb⟩))
 go_ret
 exact ⟨rfl, hb⟩
set_option maxHeartbeats 1000000 in
theorem spelic_any (f : Ft) (s : SpSt) (w : World) (h : IsSp w f s) :
  Calls Tryz.prog 28 #[.pointer (some ⟨f.b, 0, none⟩)] w fun e w' => e = .returned (ZI ZQ (elicOf s.ps)) ∧ Below w.heap.size w w' := by
 have hx := (Blk.new w 23 #[.pointer (some ⟨f.b, 0, none⟩)]).cell 0
 have HS := hide (spelic_one ⟨w.heap.size, 0, none⟩ f s _ (h.alloc (.cells #[.pointer (some ⟨f.b, 0, none⟩)] 23)) hx)
 have hpos : (if 0 < (elicOf s.ps) then (elicOf s.ps) else 0) = (elicOf s.ps) := by have := h.log.elic0; split <;> omega
 clear h hx
 go_enter Tryz.func28, Tryz.ntmps28
 go_wp2_with (go_at_call 47; refine HS.out.mono ?_; rintro e1 w1 ⟨rfl, hb⟩)
 go_ret
 exact ⟨rfl, bw_below' ((Below.refl _ _).alloc (Nat.le_refl _) _) hb⟩
set_option maxHeartbeats 1000000 in
theorem spall_any (f : Ft) (s : SpSt) (w : World) (h : IsSp w f s) :
  Calls Tryz.prog 14 #[.pointer (some ⟨f.b, 0, none⟩)] w (PksPost w s.ps) := by
 obtain ⟨c0, _⟩ := h.cells
 have H1 := hide (spnone f s w h)
 have H2 := hide (all_any _ _ _ _ _ _ h.log)
 clear h
 go_enter Tryz.func14, Tryz.ntmps14
 go_wp2_with (first | (go_at_call 49; refine H1.out.mono ?_; rintro e1 w1 ⟨rfl, rfl⟩) | (go_at_call 50; refine H2.out.mono ?_; rintro e2 w2 ⟨v, rfl, hv, hb⟩))
 go_ret
 exact ⟨v, rfl, hv, hb⟩
set_option maxHeartbeats 1000000 in
theorem spdiscard_any (f : Ft) (s : SpSt) (w : World) (h : IsSp w f s) :
  Calls Tryz.prog 29 #[.pointer (some ⟨f.b, 0, none⟩)] w fun e w' => e = .returned (.tuple #[]) ∧ SpPost w f { s with ps := [], loss := -1, time := -1 } f w' := by
 obtain ⟨c0, _⟩ := h.cells
 have H1 := hide (spnone f s w h)
 have H2 := hide (clear_any _ _ _ _ _ _ h.log)
 have H := hide h
 clear h
 go_enter Tryz.func29, Tryz.ntmps29
 go_wp2_with (first | (go_at_call 49; refine H1.out.mono ?_; rintro e1 w1 ⟨rfl, rfl⟩) | (go_at_call 68; refine H2.out.mono ?_; rintro e2 w2 ⟨rfl, hl, ho⟩; have HP := hide (H.out.turnLog hl (.inl rfl) (ho.mono fun x hx => .inl (by simp at hx; subst hx; simp))); clear hl ho; have y4 : w2.cell? ⟨f.b, 4, none⟩ = some (ZI ZQ s.loss) := HP.out.sp.blk.cell 4; have y5 : w2.cell? ⟨f.b, 5, none⟩ = some (ZI ZQ s.time) := HP.out.sp.blk.cell 5; have f4 := HP.out.sp.blk.frozen 4; have f5 := HP.out.sp.blk.frozen 5))
 have h4 := HP.out.trans (HP.out.sp.turnOwn (j := 4) (u := ZI ZQ (-1)) (great := s.great) (loss := -1) (time := s.time) rfl)
 have h5 := h4.trans (h4.sp.turnOwn (j := 5) (u := ZI ZQ (-1)) (great := s.great) (loss := -1) (time := -1) rfl)
 go_end0
 exact ⟨rfl, h5⟩
theorem ft_five {b lb rb kb mb : Nat} : ∀ i x, (Ft.mk b lb rb kb none mb none).at i = some x → (i = 0 ∧ x = b) ∨ (i = 1 ∧ x = lb) ∨ (i = 2 ∧ x = rb) ∨ (i = 3 ∧ x = kb) ∨ (i = 5 ∧ x = mb)
 | 0, x, h => by cases h; simp
 | 1, x, h => by cases h; simp
 | 2, x, h => by cases h; simp
 | 3, x, h => by cases h; simp
 | 4, x, h => by cases h
 | 5, x, h => by cases h; simp
 | 6, x, h => by cases h
 | n + 7, x, h => by cases h
set_option maxHeartbeats 1000000 in
theorem spnew_ok (room : Nat) (w : World) (h1 : 1 ≤ room) (h2 : room ≤ 256) :
  Calls Tryz.prog 10 #[ZI ZQ room] w fun e w' => ∃ f, e = .returned (.tuple #[.pointer (some ⟨f.b, 0, none⟩), ZI ZQ 0]) ∧ IsSp w' f ⟨room, -1, [], [], [], -1, -1, -1⟩ ∧ (∀ x ∈ f.all, w.heap.size ≤ x) ∧ Below w.heap.size w w' := by
 go_enter Tryz.func10, Tryz.ntmps10
 go_wp2_with fail
 refine (new_ok room w h1 h2).mono ?_
 rintro e1 w1 ⟨lb, rb, rfl, hl, n1, n2, hb1⟩
 go_wp2_with fail
 refine (snew_ok 256 w1 (by omega) (by omega)).mono ?_
 rintro e2 w2 ⟨kb, rfl, hk, n3, hb2⟩
 have hl2 := hl.below hb2
 have l1 := hl.lt
 clear hl
 go_wp2_with fail
 refine (snew_ok 256 w2 (by omega) (by omega)).mono ?_
 rintro e3 w3 ⟨mb, rfl, hm, n4, hb3⟩
 have hl3 := hl2.below hb3
 have hk3 := hk.below hb3
 have l2 := hk.lt.1
 have l3 := hm.lt.1
 have hb := bw_below' (bw_below' hb1 hb2) hb3
 have s1 := hb1.size
 have s2 := hb2.size
 have s3 := hb3.size
 clear hl2 hk hb1 hb2 hb3
 go_wp2_with fail
 go_ret2
 refine ⟨⟨w3.heap.size, lb, rb, kb, none, mb, none⟩, rfl, ⟨Blk.new _ _ _, hl3.alloc _, hk3.alloc _, hm.alloc _, ?_⟩, ?_, bw_alloc' hb _⟩
 ·intro i j x hi hj
  have h1 := ft_five i x hi
  have h2 := ft_five j x hj
  omega
 ·intro x hx
  simp [Ft.all] at hx
  omega
end Go.Proofs.YtgicljeedegncaaGreat
