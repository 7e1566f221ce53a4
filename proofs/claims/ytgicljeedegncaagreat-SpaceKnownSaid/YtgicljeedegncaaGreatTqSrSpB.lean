/-
 2 texts in one (SrSpA, SrSpB).
-/
import Derived.Test.YtgicljeedegncaaGreatTqSrRep
import Derived.Test.YtgicljeedegncaaGreatSrFind
import Derived.Test.YtgicljeedegncaaGreatRefPeriod
namespace Go.Proofs.YtgicljeedegncaaGreat
open List renaming getElem_toArray → ZA, getElem_cons_zero → ZB, getElem_cons_succ → ZC, setIfInBounds_toArray → ZD, set_cons_zero → ZE, set_cons_succ → ZF
open Go.AllReadyH renaming cons → ZS, nil → ZN
open Go.Act renaming put → ZP
open Go.Value renaming int → ZI
open Go.IntKind renaming i64 → ZQ
set_option linter.unusedSimpArgs false
set_option linter.unusedVariables false
open Go.RowKit

theorem freeR_rev (rs : List Rg) (a b : PK) : freeR rs.reverse a b = freeR rs a b := by unfold freeR; rw [List.reverse_reverse, List.any_reverse]
theorem pairsL_rev (rs : List Rg) (first : Int) : ∀ ps : List PK, pairsL rs.reverse first ps = pairsL rs first ps
 | [] => rfl
 | p :: ps => by
  unfold pairsL
  rw [pairsL_rev rs first ps]
  simp only [pairOk, freeR_rev]
theorem periodOf_rev (rs : List Rg) (first : Int) (ps : List PK) : periodOf rs.reverse first ps = periodOf rs first ps := by
 unfold periodOf periodR
 rw [pairsL_rev]
theorem refS_at {w : World} {b : Nat} {a : Option Addr} {c : Nat} {rs : List Rg} (h : RefS w b a c rs) : RefAt w (.pointer (some ⟨b, 0, none⟩)) rs.reverse :=
 .inr ⟨b, rfl, h.blk.lt, a, c, by rw [List.length_reverse]; exact h.blk.cell 1, h.row⟩
/-- A new space of the document's. -/
def RNew17Post (w : World) (room : Nat) (e : Ending) (w' : World) : Prop := ∃ d : Dt, e = .returned (.tuple #[.pointer (some ⟨d.m, 0, none⟩), ZI ZQ 0]) ∧ IsRs w' d ⟨room, -1, [], [], [], -1, -1, -1⟩ ∧ (∀ x, x ∈ d.own ∨ RowB d x → w.heap.size ≤ x) ∧ Below w.heap.size w w'
theorem refS_new {W : World} {b : Nat} (h : Blk W b 145 #[ZI ZQ 256, .slice none 0 0]) : RefS W b none 0 [] := ⟨h, fun i r hi => by simp at hi, GoodR.nil, by simp, by simp, by simp, by simp⟩
set_option maxHeartbeats 2000000 in
theorem r17new_ok (room : Nat) (w : World) (h1 : 1 ≤ room) (h2 : room ≤ 256) : Calls Tryz.prog 31 #[ZI ZQ room] w (RNew17Post w room) := by
 go_enter Tryz.func31, Tryz.ntmps31
 go_wp2_with fail
 refine (rnew_ok room w h1 h2).mono ?_
 rintro e1 w1 ⟨m, rfl, hR, n1, hb1⟩
 have HR := hide hR
 have HB1 := hide hb1
 clear hR hb1
 go_wp2_with fail
 refine (r04new_ok _).mono ?_
 rintro e2 w2 ⟨rfl, hw2⟩
 have hk2 : Blk w2 w1.heap.size 145 #[ZI ZQ 256, .slice none 0 0] := by rw [hw2]; exact Blk.new _ _ _
 have hb2 : Below w1.heap.size w1 w2 := by rw [hw2]; exact (Below.refl _ _).alloc (Nat.le_refl _) _
 have hs2 : w2.heap.size = w1.heap.size + 1 := by rw [hw2]; simp
 have HK2 := hide hk2
 have HB2 := hide hb2
 have HZ2 := hide hs2
 clear hk2 hb2 hw2 hs2
 go_wp2_with fail
 refine (r04new_ok _).mono ?_
 rintro e3 w3 ⟨rfl, hw3⟩
 have hk3 : Blk w3 w2.heap.size 145 #[ZI ZQ 256, .slice none 0 0] := by rw [hw3]; exact Blk.new _ _ _
 have hb3 : Below w2.heap.size w2 w3 := by rw [hw3]; exact (Below.refl _ _).alloc (Nat.le_refl _) _
 have hs3 : w3.heap.size = w2.heap.size + 1 := by rw [hw3]; simp
 have HK3 := hide hk3
 have HB3 := hide hb3
 have HZ3 := hide hs3
 clear hk3 hb3 hw3 hs3
 go_wp2_with fail
 go_ret2
 have hbx : Below w3.heap.size w3 (w3.alloc (.cells (spCells m w1.heap.size w2.heap.size (-1) (-1) (-1)) 105)) := (Below.refl _ _).alloc (Nat.le_refl _) _
 have hm := HR.out.lt
 have hsz := HB1.out.size
 have hs2 := HZ2.out
 have hs3 := HZ3.out
 refine ⟨⟨w3.heap.size, m, w1.heap.size, none, 0, w2.heap.size, none, 0⟩, rfl, ⟨Blk.new _ _ _, ((HR.out.below HB2.out).below HB3.out).below hbx, ((refS_new HK2.out).below HB3.out).below hbx, (refS_new HK3.out).below hbx, ?_, ?_⟩, ?_, ?_⟩
 ·rintro k (h | h) <;> cases h
 ·show w1.heap.size ≠ w2.heap.size
  omega
 ·rintro x (hx | hx | hx)
  ·simp only [Dt.own, List.mem_cons, List.not_mem_nil, or_false] at hx
   omega
  ·cases hx
  ·cases hx
 ·exact bw_below' (bw_below' (bw_below' HB1.out HB2.out) HB3.out) hbx
theorem r17new_no (room : Int) (w : World) (h : room < 1 ∨ 256 < room) :
  Calls Tryz.prog 31 #[ZI ZQ room] w fun e w' => e = .returned (.tuple #[.pointer none, ZI ZQ 2]) ∧ Below w.heap.size w w' := by
 go_enter Tryz.func31, Tryz.ntmps31
 go_wp2_with fail
 refine (rnew_no room w h).mono ?_
 rintro e1 w1 ⟨rfl, rfl⟩
 go_wp2_with fail
 go_ret2
 exact ⟨rfl, Below.refl _ _⟩
theorem IsRs.own_blk {w : World} {d : Dt} {s : SpSt} (h : IsRs w d s) {x : Nat} (hx : x = d.m ∨ x = d.kb ∨ x = d.mb) : ∃ t cs, Blk w x t cs ∧ t ≠ 40 ∧ t ≠ 115 := by
 rcases hx with rfl | rfl | rfl
 ·exact ⟨_, _, h.blk, by decide, by decide⟩
 ·exact ⟨_, _, h.kn.blk, by decide, by decide⟩
 ·exact ⟨_, _, h.rem.blk, by decide, by decide⟩
theorem IsRs.apart {w : World} {d : Dt} {s : SpSt} (h : IsRs w d s) : d.m ≠ d.lb ∧ d.m ≠ d.kb ∧ d.m ≠ d.mb ∧ d.lb ≠ d.kb ∧ d.lb ≠ d.mb ∧ d.kb ≠ d.mb := by
 obtain ⟨cs, hl⟩ := h.log.blk
 have ne : ∀ {a b t u : Nat} {cs ds : Array Value}, Blk w a t cs → Blk w b u ds → t ≠ u → a ≠ b := fun ha hb ht e => by subst e; exact ht (blk_type_ne ha hb)
 exact ⟨ne h.blk hl (by decide), ne h.blk h.kn.blk (by decide), ne h.blk h.rem.blk (by decide), ne hl h.kn.blk (by decide), ne hl h.rem.blk (by decide), h.ne⟩
/-- A cell of the document's space turns. -/
theorem IsRs.turnOwn {w : World} {d : Dt} {s : SpSt} {j : Nat} {u : Value} {great loss time : Int} (h : IsRs w d s) (hc : (spCells d.lb d.kb d.mb s.great s.loss s.time).setIfInBounds j u = spCells d.lb d.kb d.mb great loss time) : RsPost w d { s with great := great, loss := loss, time := time } d (w.setCell ⟨d.m, j, none⟩ u) := by
 have ho : Only [d.m] w (w.setCell ⟨d.m, j, none⟩ u) := (Only.refl _ _).setCell (.inl (by simp)) _
 obtain ⟨a1, a2, a3, a4, a5, a6⟩ := h.apart
 refine ⟨⟨(h.blk.set j u).eq hc, h.log.only ho (fun x hx => by simp at hx; subst hx; exact h.own_blk (.inl rfl)), h.kn.only ho (by simp; exact Ne.symm a2) (fun k e hm => h.off k (.inl e) (by simp at hm; subst hm; simp [Dt.own])), h.rem.only ho (by simp; exact Ne.symm a3) (fun k e hm => h.off k (.inr e) (by simp at hm; subst hm; simp [Dt.own])), h.off, h.ne⟩, rfl, fun x hx => .inl hx, fun x hx => .inl hx, ho.mono fun x hx => .inl (by simp at hx; subst hx; simp [Dt.own])⟩
/-- The document's log turns. -/
theorem IsRs.turnLog {w w' : World} {d : Dt} {s : SpSt} {last : Int} {ps : List Pk} (h : IsRs w d s) (hl : IsRef w' d.lb s.room last ps) (ho : Only [d.lb] w w') : RsPost w d { s with last := last, ps := ps } d w' := by
 obtain ⟨a1, a2, a3, a4, a5, a6⟩ := h.apart
 refine ⟨⟨ho.blk h.blk (by simp; exact a1), hl, h.kn.only ho (by simp; exact Ne.symm a4) (fun k e hm => h.off k (.inl e) (by simp at hm; subst hm; simp [Dt.own])), h.rem.only ho (by simp; exact Ne.symm a5) (fun k e hm => h.off k (.inr e) (by simp at hm; subst hm; simp [Dt.own])), h.off, h.ne⟩, rfl, fun x hx => .inl hx, fun x hx => .inl hx, ho.mono fun x hx => .inl (by simp at hx; subst hx; simp [Dt.own])⟩
/-- What the document's space remembers turns. -/
theorem IsRs.turnRem {w w' : World} {d : Dt} {s : SpSt} {z : Int} {R : List Rg} {e : Ending} (h : IsRs w d s) (hp : RSetPost w d.mb d.ma z R e w') : ∃ d', d'.mb = d.mb ∧ RsPost w d { s with R := R } d' w' := by
 obtain ⟨_, a', c', hS, hn, ho⟩ := hp
 obtain ⟨a1, a2, a3, a4, a5, a6⟩ := h.apart
 have hlt := h.lt
 refine ⟨{ d with ma := a', mc := c' }, rfl, ⟨ho.blk h.blk (by simp; exact a3), h.log.only ho (fun x hx => by simp at hx; subst hx; exact h.own_blk (.inr (.inr rfl))), h.kn.only ho (by simp; exact a6) (fun k e hm => h.off k (.inl e) (by simp at hm; subst hm; simp [Dt.own])), hS, ?_, h.ne⟩, rfl, fun x hx => .inl hx, ?_, ho.mono fun x hx => .inl (by simp at hx; subst hx; simp [Dt.own])⟩
 ·rintro k (e | e) hm
  ·exact h.off k (.inl e) hm
  ·rcases hn k e with e2 | e2
   ·exact h.off k (.inr (by rw [e2]; exact e)) hm
   ·have := hlt k (.inl hm); omega
 ·rintro k (e | e)
  ·exact .inl (.inl e)
  ·rcases hn k e with e2 | e2
   ·exact .inl (.inr (by rw [e2]; exact e))
   ·exact .inr e2
set_option maxHeartbeats 1000000 in
theorem r17discard_any (d : Dt) (s : SpSt) (w : World) (h : IsRs w d s) :
  Calls Tryz.prog 38 #[.pointer (some ⟨d.m, 0, none⟩)] w fun e w' => e = .returned (.tuple #[]) ∧ RsPost w d { s with ps := [], loss := -1, time := -1 } d w' := by
 obtain ⟨y0, y1, y2, y3, y4, y5⟩ := h.six
 have H := hide h
 clear h
 go_enter Tryz.func38, Tryz.ntmps38
 go_wp2_with fail
 refine (rclear_any _ _ _ _ _ H.out.log).mono ?_
 rintro e1 w1 ⟨rfl, hl, ho⟩
 have hp := H.out.turnLog hl ho
 obtain ⟨y0, y1, y2, y3, y4, y5⟩ := hp.rs.six
 have f4 := hp.rs.blk.frozen 4
 have f5 := hp.rs.blk.frozen 5
 have HP := hide hp
 clear hp hl ho
 go_wp2_with fail
 go_end0
 have h1 := HP.out.rs.turnOwn (j := 4) (u := ZI ZQ (-1)) (great := s.great) (loss := -1) (time := s.time) rfl
 have h2 := h1.rs.turnOwn (j := 5) (u := ZI ZQ (-1)) (great := s.great) (loss := -1) (time := -1) rfl
 exact ⟨rfl, (HP.out.trans h1).trans h2⟩
set_option maxHeartbeats 2000000 in
theorem r17known_any (d : Dt) (s : SpSt) (x : Rg) (w : World) (h : IsRs w d s) :
  Calls Tryz.prog 77 #[.pointer (some ⟨d.m, 0, none⟩), .agg #[ZI ZQ x.lo, ZI ZQ x.hi]] w fun e w' => e = .returned (.bool (s.K.any (inP x))) ∧ Below w.heap.size w w' := by
 have hb0 : Below w.heap.size w (w.alloc (.cells #[ZI ZQ x.lo, ZI ZQ x.hi] 93)) := (Below.refl _ _).alloc (Nat.le_refl _) _
 have hx := Blk.new w 93 #[ZI ZQ x.lo, ZI ZQ x.hi]
 have h1 := h.below hb0
 obtain ⟨y0, y1, y2, y3, y4, y5⟩ := h1.six
 have H := hide h1
 have HX := hide hx
 have HB := hide hb0
 have hle := h.kn.le
 clear h h1 hb0 hx
 go_enter Tryz.func77, Tryz.ntmps77
 go_wp2_with fail
 refine (r04ranges_any _ _ _ _ _ H.out.kn).mono ?_
 rintro e1 w1 ⟨a1, c1, rfl, hr, hc, hn, hb1⟩
 have HR := hide hr
 have hx1 : Blk w1 w.heap.size 93 #[ZI ZQ x.lo, ZI ZQ x.hi] := (hb1.block _ HX.out.lt).trans HX.out
 have HX1 := hide hx1
 have HB1 := hide (bw_below' HB.out hb1)
 obtain ⟨l, hl⟩ : ∃ l, s.K.reverse = l := ⟨_, rfl⟩
 obtain ⟨N, hN⟩ : ∃ N, s.K.length = N := ⟨_, rfl⟩
 have HN : Hid (l.length = N) := by show _ = _; rw [← hl, List.length_reverse, hN]
 rw [hl] at HR
 have HLE : Hid (s.K.any (inP x) = l.any (inP x)) := by show _ = _; rw [← hl, List.any_reverse]
 rw [hN] at hle ⊢
 clear hr hx1 hb1 hn hc hl hN y0 y1 y2 y3 y4 y5
 go_wp2_with fail
 go_loopg [6] N (fun kx s6 wr => ∃ i : Nat, s6 = ZI ZQ i ∧ i ≤ N ∧ N - i ≤ kx ∧ Hid (l.any (inP x) = (l.drop i).any (inP x)) ∧ Below w1.heap.size w1 wr)
 case atStart => exact ⟨0, rfl, by omega, by omega, rfl, Below.refl _ _⟩
 case round =>
  obtain ⟨i, rfl, hi, hkx, hany, hB⟩ := hrel
  by_cases hlt : i < N
  ·have hir : i < l.length := by rw [HN.out]; exact hlt
   obtain ⟨k, hk⟩ : ∃ k, l[i]? = some k := ⟨_, List.getElem?_eq_getElem hir⟩
   have hd : l.drop i = k :: l.drop (i + 1) := by
    rw [List.drop_eq_getElem_cons hir]
    congr 1
    rw [List.getElem?_eq_getElem hir] at hk
    exact Option.some.inj hk
   obtain ⟨b, rfl, hbl, z0, z1⟩ := (HR.out.below hB) i k hk
   have hx2 : Blk wr w.heap.size 93 #[ZI ZQ x.lo, ZI ZQ x.hi] := (hB.block _ HX1.out.lt).trans HX1.out
   have x0 : wr.cell? ⟨w.heap.size, 0, none⟩ = some (ZI ZQ x.lo) := Blk.cell (g := w.heap.size) hx2 0
   have x1 : wr.cell? ⟨w.heap.size, 1, none⟩ = some (ZI ZQ x.hi) := Blk.cell (g := w.heap.size) hx2 1
   have HA : Hid (l.any (inP x) = (inP x k || (l.drop (i + 1)).any (inP x))) := by show _ = _; rw [hany, hd]; rfl
   have hin : (i : Int) < (N : Int) := by omega
   have HB2 := hide hB
   clear hany hd hk hir hB hx2
   by_cases c1 : k.lo ≤ x.lo
   ·by_cases c2 : x.hi ≤ k.hi
    ·have HT : Hid (l.any (inP x) = true) := by show _ = _; rw [HA.out]; simp [inP, c1, c2]
     go_upto_region 5 with (fail)
     go_quiet (fail)
     go_wp2_with fail
     go_ret
     exact ⟨by rw [HLE.out, HT.out]; rfl, below_drewN (bw_below' HB1.out HB2.out) _⟩
    ·have HT : Hid (l.any (inP x) = (l.drop (i + 1)).any (inP x)) := by show _ = _; rw [HA.out]; simp [inP, c2]
     go_upto_region 5 with (fail)
     go_quiet (fail)
     go_wp2_with fail
     go_roundg (N - (i + 1))
     case rel => exact ⟨i + 1, by go_num, by omega, by omega, HT, below_drewN HB2.out _⟩
     case measure => omega
   ·have HT : Hid (l.any (inP x) = (l.drop (i + 1)).any (inP x)) := by show _ = _; rw [HA.out]; simp [inP, c1]
    go_upto_region 5 with (fail)
    go_quiet (fail)
    go_wp2_with fail
    go_roundg (N - (i + 1))
    case rel => exact ⟨i + 1, by go_num, by omega, by omega, HT, below_drewN HB2.out _⟩
    case measure => omega
  ·obtain rfl : i = N := by omega
   have hin : ¬ (i : Int) < (i : Int) := by omega
   have HT : Hid (l.any (inP x) = false) := by show _ = _; rw [hany, List.drop_of_length_le (by rw [HN.out]; exact Nat.le_refl _)]; rfl
   clear hany
   go_wp2_with fail
   go_ret
   exact ⟨by rw [HLE.out, HT.out]; rfl, bw_below' HB1.out hB⟩
end Go.Proofs.YtgicljeedegncaaGreat

namespace Go.Proofs.YtgicljeedegncaaGreat
open List renaming getElem_toArray → ZA, getElem_cons_zero → ZB, getElem_cons_succ → ZC, setIfInBounds_toArray → ZD, set_cons_zero → ZE, set_cons_succ → ZF
open Go.AllReadyH renaming cons → ZS, nil → ZN
open Go.Act renaming put → ZP
open Go.Value renaming int → ZI
open Go.IntKind renaming i64 → ZQ
set_option linter.unusedSimpArgs false
set_option linter.unusedVariables false
open Go.RowKit

set_option maxRecDepth 100000 in
set_option maxHeartbeats 4000000 in
theorem r17persists_any (d : Dt) (s : SpSt) (a : Option Addr) (n cap : Nat) (ps : List PK) (r : RT) (delay : Int) (w : World) (h : IsRs w d s) (hn : ps.length = n) (hP : PksAt w a ps) (ha : ∀ k o, a = some ⟨k, o, none⟩ → k < w.heap.size) (hsm : (-9223372036854775808 ≤ r.smooth ∧ r.smooth ≤ 9223372036854775807)) :
  Calls Tryz.prog 90 #[.pointer (some ⟨d.m, 0, none⟩), .slice a n cap, rtV r, ZI ZQ delay] w fun e w' => e = .returned (.bool (perB s.R ps r delay)) ∧ Below w.heap.size w w' := by
 have hb0 : Below w.heap.size w (w.alloc (.cells #[ZI ZQ r.latest, ZI ZQ r.min, ZI ZQ r.smooth, ZI ZQ r.var, ZI ZQ r.first] 45)) := (Below.refl _ _).alloc (Nat.le_refl _) _
 have hx := Blk.new w 45 #[ZI ZQ r.latest, ZI ZQ r.min, ZI ZQ r.smooth, ZI ZQ r.var, ZI ZQ r.first]
 have CC : Hid (∀ W, Below w.heap.size w W → Blk W w.heap.size 45 #[ZI ZQ r.latest, ZI ZQ r.min, ZI ZQ r.smooth, ZI ZQ r.var, ZI ZQ r.first] → W.cell? ⟨d.m, 2, none⟩ = some (.pointer (some ⟨d.mb, 0, none⟩)) ∧ W.cell? ⟨w.heap.size, 0, none⟩ = some (ZI ZQ r.latest) ∧ W.cell? ⟨w.heap.size, 1, none⟩ = some (ZI ZQ r.min) ∧ W.cell? ⟨w.heap.size, 2, none⟩ = some (ZI ZQ r.smooth) ∧ W.cell? ⟨w.heap.size, 3, none⟩ = some (ZI ZQ r.var) ∧ W.cell? ⟨w.heap.size, 4, none⟩ = some (ZI ZQ r.first)) :=
  fun W hW hB => ⟨(h.below hW).six.2.2.1, hB.cell 0, hB.cell 1, hB.cell 2, hB.cell 3, hB.cell 4⟩
 have HIS := hide (fun W (hW : Below w.heap.size w W) => refis_any a n cap ps (.pointer (some ⟨d.mb, 0, none⟩)) s.R.reverse r delay W hn (hP.below hW (Nat.le_refl _)) (fun k o e => Nat.lt_of_lt_of_le (ha k o e) hW.size) (refS_at (h.below hW).rem) (by rw [List.length_reverse]; have := h.rem.le; omega) hsm)
 simp only [periodOf_rev] at HIS
 obtain ⟨T, hT⟩ : ∃ T, perB s.R ps r delay = T := ⟨_, rfl⟩
 unfold perB at hT
 rw [hT] at HIS
 rw [show perB s.R ps r delay = T from hT]
 have HB := hide hb0
 have HX := hide hx
 clear h hP ha hT hb0 hx
 unfold rtV at HIS ⊢
 go_enter Tryz.func90, Tryz.ntmps90
 go_upto_region 1 with (fail)
 refine wp_region_held_drew (S := (fun w' => Below w.heap.size w w' ∧ Blk w' w.heap.size 45 #[ZI ZQ r.latest, ZI ZQ r.min, ZI ZQ r.smooth, ZI ZQ r.var, ZI ZQ r.first])) (by kernel_rfl) (by exact ⟨HB.out.drew, HX.out.drew⟩) (fun hHeld => ?_)
 refine tkP 0 ?_ rfl ?_ ?_
 rotate_left
 ·intro w' hSw; (try dsimp only at hSw); go_simp; try with_reducible rfl
 try simp only [ZP, ZA, ZB, ZC, ZD, ZE, ZF]
 refine tkP 1 ?_ rfl ?_ ?_
 rotate_left
 ·intro w' hSw; (try dsimp only at hSw); go_simp; try with_reducible rfl
 try simp only [ZP, ZA, ZB, ZC, ZD, ZE, ZF]
 refine tkP 2 ?_ rfl ?_ ?_
 rotate_left
 ·intro w' hSw; (try dsimp only at hSw); go_simp; try with_reducible rfl
 try simp only [ZP, ZA, ZB, ZC, ZD, ZE, ZF]
 refine tkP 3 ?_ rfl ?_ ?_
 rotate_left
 ·intro w' hSw; (try dsimp only at hSw); go_simp; try with_reducible rfl
 try simp only [ZP, ZA, ZB, ZC, ZD, ZE, ZF]
 refine tkP 4 ?_ rfl ?_ ?_
 rotate_left
 ·intro w' hSw; (try dsimp only at hSw); obtain ⟨c2, x0, x1, x2, x3, x4⟩ := CC.out _ hSw.1 hSw.2; go_simp; try with_reducible rfl
 try simp only [ZP, ZA, ZB, ZC, ZD, ZE, ZF]
 refine tkP 5 ?_ rfl ?_ ?_
 rotate_left
 ·intro w' hSw; (try dsimp only at hSw); obtain ⟨c2, x0, x1, x2, x3, x4⟩ := CC.out _ hSw.1 hSw.2; go_simp; try with_reducible rfl
 try simp only [ZP, ZA, ZB, ZC, ZD, ZE, ZF]
 refine tkP 6 ?_ rfl ?_ ?_
 rotate_left
 ·intro w' hSw; (try dsimp only at hSw); go_simp; try with_reducible rfl
 try simp only [ZP, ZA, ZB, ZC, ZD, ZE, ZF]
 refine tkR [7] ?_
 refine ZS rfl (fun K hK => ?_) ZN
 go_simp; go_at_call 133; refine (HIS.out _ hHeld.1).mono ?_; rintro e1 w1 ⟨rfl, hb1⟩
 have HC2 := hide (And.intro (bw_below' hHeld.1 hb1) (show Blk w1 w.heap.size 45 #[ZI ZQ r.latest, ZI ZQ r.min, ZI ZQ r.smooth, ZI ZQ r.var, ZI ZQ r.first] from (hb1.block _ hHeld.2.lt).trans hHeld.2))
 clear hb1 hHeld
 refine hK.out _ _ (HC2.out) (fun hHeld => ?_)
 clear hK K
 try simp only [ZP, ZA, ZB, ZC, ZD, ZE, ZF]
 refine tkP 8 ?_ rfl ?_ ?_
 rotate_left
 ·intro w' hSw; (try dsimp only at hSw); go_simp; try with_reducible rfl
 try simp only [ZP, ZA, ZB, ZC, ZD, ZE, ZF]
 refine wpAnyH_done (by kernel_rfl) ?_ _
 clear hHeld
 go_wp2_with fail
 go_ret
 exact ⟨by rfl, HC2.out.1⟩
/-- The document's space while it is copied. -/
structure CrAt (w W : World) (d : Dt) (s : SpSt) (X : Nat) (cs : Array Value) : Prop where
 rs : IsRs W d s
 blk : Blk W X 105 cs
 below : Below w.heap.size w W
theorem CrAt.later {w W W' : World} {d : Dt} {s : SpSt} {X : Nat} {cs : Array Value} (h : CrAt w W d s X cs) (hb : Below W.heap.size W W') : CrAt w W' d s X cs := ⟨h.rs.below hb, (hb.block _ h.blk.lt).trans h.blk, bw_below' h.below hb⟩
theorem CrAt.set {w W : World} {d : Dt} {s : SpSt} {X : Nat} {cs cs' : Array Value} {j : Nat} {v : Value} (h : CrAt w W d s X cs) (hX : w.heap.size ≤ X) (hn : ∀ x, x ∈ d.own ∨ RowB d x → x < w.heap.size) (hc : cs.setIfInBounds j v = cs') : CrAt w (W.setCell ⟨X, j, none⟩ v) d s X cs' :=
 ⟨h.rs.only (S := [X]) ((Only.refl _ _).setCell (.inl (by simp)) _) (fun x hx hm => by simp at hm; subst hm; have := hn _ hx; omega) (fun x hx => by simp at hx; subst hx; exact ⟨_, _, h.blk, by decide, by decide⟩), (h.blk.set j v).eq hc, h.below.setCell (p := ⟨X, j, none⟩) hX _⟩
theorem only_setX {W : World} {X j : Nat} {v : Value} : Only [X] W (W.setCell ⟨X, j, none⟩ v) := (Only.refl _ _).setCell (.inl (by simp)) _
theorem IsRef.setX {W : World} {m room X j : Nat} {top : Int} {ps : List Pk} {v : Value} {cs : Array Value} (h : IsRef W m room top ps) (hx : Blk W X 105 cs) : IsRef (W.setCell ⟨X, j, none⟩ v) m room top ps :=
 h.only only_setX (fun x hm => by simp at hm; subst hm; exact ⟨_, _, hx, by decide, by decide⟩)
theorem RefS.setX {W : World} {b c X j : Nat} {a : Option Addr} {rs : List Rg} {v : Value} (h : RefS W b a c rs) (hb : b ≠ X) (ha : ∀ k, a = some ⟨k, 0, none⟩ → k ≠ X) : RefS (W.setCell ⟨X, j, none⟩ v) b a c rs :=
 h.only only_setX (by simpa using hb) (fun k e => by simpa using ha k e)
def CopyRsPost (w : World) (s : SpSt) (e : Ending) (w' : World) : Prop := ∃ d' : Dt, e = .returned (.pointer (some ⟨d'.m, 0, none⟩)) ∧ IsRs w' d' s ∧ (∀ x, x ∈ d'.own ∨ RowB d' x → w.heap.size ≤ x) ∧ Below w.heap.size w w'
set_option maxRecDepth 100000 in
set_option maxHeartbeats 4000000 in
theorem r17copy_any (d : Dt) (s : SpSt) (w : World) (h : IsRs w d s) : Calls Tryz.prog 37 #[.pointer (some ⟨d.m, 0, none⟩)] w (CopyRsPost w s) := by
 obtain ⟨y0, y1, y2, y3, y4, y5⟩ := h.six
 have hlt := h.lt
 have hc0 : CrAt w (w.alloc (.cells (spCells d.lb d.kb d.mb s.great s.loss s.time) 105)) d s w.heap.size (spCells d.lb d.kb d.mb s.great s.loss s.time) := ⟨h.alloc _, Blk.new _ _ _, (Below.refl _ _).alloc (Nat.le_refl _) _⟩
 have HC0 := hide hc0
 have HLT := hide hlt
 have hml := h.blk.lt
 clear h hc0 hlt
 unfold spCells at HC0
 go_enter Tryz.func37, Tryz.ntmps37
 go_upto_region 2 with (fail)
 obtain ⟨X, hX⟩ : ∃ X, w.heap.size = X := ⟨_, rfl⟩
 obtain ⟨W0, hW0⟩ : ∃ y, w.alloc (.cells #[.pointer (some ⟨d.lb, 0, none⟩), .pointer (some ⟨d.kb, 0, none⟩), .pointer (some ⟨d.mb, 0, none⟩), ZI ZQ s.great, ZI ZQ s.loss, ZI ZQ s.time] 105) = y := ⟨_, rfl⟩
 have hW0s : W0.heap.size = X + 1 := by rw [← hW0, World.size_alloc, hX]
 rw [hW0] at HC0 ⊢
 rw [hX] at HC0 ⊢
 have hXw : w.heap.size ≤ X := by omega
 have HZ0 := hide hW0s
 clear y0 y1 y2 y3 y4 y5 hW0 hW0s
 obtain ⟨y0, y1, y2, y3, y4, y5⟩ := HC0.out.rs.six
 go_wp2_with fail
 refine (rcopy_any _ _ _ _ _ HC0.out.rs.log).mono ?_
 rintro e1 w1 ⟨lb1, rfl, hl1, n1, hb1⟩
 have HC1 := hide (HC0.out.later hb1)
 have HL1 := hide hl1
 have HN1 := hide (And.intro n1 (And.intro hl1.lt hb1.size))
 clear y0 y1 y2 y3 y4 y5 hl1 n1 hb1 HC0
 have f1 := HC1.out.blk.frozen 0
 have z0 := HC1.out.blk.cell 0
 go_upto_region 3 with (fail)
 have hc2 := HC1.out.set (j := 0) (v := .pointer (some ⟨lb1, 0, none⟩)) (cs' := #[.pointer (some ⟨lb1, 0, none⟩), .pointer (some ⟨d.kb, 0, none⟩), .pointer (some ⟨d.mb, 0, none⟩), ZI ZQ s.great, ZI ZQ s.loss, ZI ZQ s.time]) hXw HLT.out (by simp)
 have hl2 := HL1.out.setX (j := 0) (v := .pointer (some ⟨lb1, 0, none⟩)) HC1.out.blk
 have hz2 : (w1.setCell ⟨X, 0, none⟩ (.pointer (some ⟨lb1, 0, none⟩))).heap.size = w1.heap.size := World.size_setCell _ _ _
 obtain ⟨W2, hW2⟩ : ∃ y, w1.setCell ⟨X, 0, none⟩ (.pointer (some ⟨lb1, 0, none⟩)) = y := ⟨_, rfl⟩
 rw [hW2] at hc2 hl2 hz2 ⊢
 have HC2 := hide hc2
 have HL2 := hide hl2
 have HZ2 := hide hz2
 clear hc2 hl2 hz2 hW2 f1 z0 HC1 HL1
 obtain ⟨y0, y1, y2, y3, y4, y5⟩ := HC2.out.rs.six
 go_wp2_with fail
 refine (r04copy_any _ _ _ _ _ HC2.out.rs.kn).mono ?_
 rintro e3 w3 ⟨kb1, ka1, kc1, rfl, hk3, n3, n3r, hb3⟩
 have HC3 := hide (HC2.out.later hb3)
 have HL3 := hide (HL2.out.below hb3)
 have HK3 := hide hk3
 have HN3 := hide (And.intro (And.intro n3 n3r) (And.intro hk3.blk.lt (And.intro hk3.lt hb3.size)))
 clear y0 y1 y2 y3 y4 y5 hk3 n3 n3r hb3 HC2 HL2
 have f1 := HC3.out.blk.frozen 1
 have z0 := HC3.out.blk.cell 1
 go_upto_region 4 with (fail)
 have hXne : kb1 ≠ X ∧ ∀ k, ka1 = some ⟨k, 0, none⟩ → k ≠ X := by
  have a1 := HN1.out
  have a2 := HZ0.out
  have a3 := HZ2.out
  exact ⟨fun e => by have := HN3.out.1.1; omega, fun k e h2 => by have := HN3.out.1.2 k e; omega⟩
 have hc4 := HC3.out.set (j := 1) (v := .pointer (some ⟨kb1, 0, none⟩)) (cs' := #[.pointer (some ⟨lb1, 0, none⟩), .pointer (some ⟨kb1, 0, none⟩), .pointer (some ⟨d.mb, 0, none⟩), ZI ZQ s.great, ZI ZQ s.loss, ZI ZQ s.time]) hXw HLT.out (by simp)
 have hl4 := HL3.out.setX (j := 1) (v := .pointer (some ⟨kb1, 0, none⟩)) HC3.out.blk
 have hk4 := HK3.out.setX (j := 1) (v := .pointer (some ⟨kb1, 0, none⟩)) hXne.1 hXne.2
 have hz4 : (w3.setCell ⟨X, 1, none⟩ (.pointer (some ⟨kb1, 0, none⟩))).heap.size = w3.heap.size := World.size_setCell _ _ _
 obtain ⟨W4, hW4⟩ : ∃ y, w3.setCell ⟨X, 1, none⟩ (.pointer (some ⟨kb1, 0, none⟩)) = y := ⟨_, rfl⟩
 rw [hW4] at hc4 hl4 hk4 hz4 ⊢
 have HC4 := hide hc4
 have HL4 := hide hl4
 have HK4 := hide hk4
 have HZ4 := hide hz4
 have HXN := hide hXne
 clear hc4 hl4 hk4 hz4 hW4 f1 z0 HC3 HL3 HK3 hXne
 obtain ⟨y0, y1, y2, y3, y4, y5⟩ := HC4.out.rs.six
 go_wp2_with fail
 refine (r04copy_any _ _ _ _ _ HC4.out.rs.rem).mono ?_
 rintro e5 w5 ⟨mb1, ma1, mc1, rfl, hm5, n5, n5r, hb5⟩
 have HC5 := hide (HC4.out.later hb5)
 have HL5 := hide (HL4.out.below hb5)
 have HK5 := hide (HK4.out.below hb5)
 have HM5 := hide hm5
 have HN5 := hide (And.intro (And.intro n5 n5r) (And.intro hm5.blk.lt (And.intro hm5.lt hb5.size)))
 clear y0 y1 y2 y3 y4 y5 hm5 n5 n5r hb5 HC4 HL4 HK4
 have f1 := HC5.out.blk.frozen 2
 have z0 := HC5.out.blk.cell 2
 go_wp2_with fail
 go_ret
 have a0 := HZ0.out
 have a2 := HZ2.out
 have a4 := HZ4.out
 obtain ⟨b1, b2, b3⟩ := HN1.out
 obtain ⟨⟨c1, c2⟩, c3, c4, c5⟩ := HN3.out
 obtain ⟨⟨g1, g2⟩, g3, g4, g5⟩ := HN5.out
 have hXm : mb1 ≠ X ∧ ∀ k, ma1 = some ⟨k, 0, none⟩ → k ≠ X := ⟨fun e => by omega, fun k e h2 => by have := g2 k e; omega⟩
 have hc6 := HC5.out.set (j := 2) (v := .pointer (some ⟨mb1, 0, none⟩)) (cs' := #[.pointer (some ⟨lb1, 0, none⟩), .pointer (some ⟨kb1, 0, none⟩), .pointer (some ⟨mb1, 0, none⟩), ZI ZQ s.great, ZI ZQ s.loss, ZI ZQ s.time]) hXw HLT.out (by simp)
 refine ⟨⟨X, lb1, kb1, ka1, kc1, mb1, ma1, mc1⟩, rfl, ⟨hc6.blk, HL5.out.setX HC5.out.blk, HK5.out.setX HXN.out.1 HXN.out.2, HM5.out.setX hXm.1 hXm.2, ?_, ?_⟩, ?_, hc6.below⟩
 ·rintro k (e | e) hm
  ·have h1 := c2 k e
   have h2 := c4 k e
   have h3 := HK5.out.ne k e
   simp only [Dt.own, List.mem_cons, List.not_mem_nil, or_false] at hm
   omega
  ·have h1 := g2 k e
   have h2 := g4 k e
   have h3 := HM5.out.ne k e
   simp only [Dt.own, List.mem_cons, List.not_mem_nil, or_false] at hm
   omega
 ·show kb1 ≠ mb1
  omega
 ·rintro x (hx | hx | hx)
  ·simp only [Dt.own, List.mem_cons, List.not_mem_nil, or_false] at hx
   omega
  ·have := c2 x hx; omega
  ·have := g2 x hx; omega
end Go.Proofs.YtgicljeedegncaaGreat
