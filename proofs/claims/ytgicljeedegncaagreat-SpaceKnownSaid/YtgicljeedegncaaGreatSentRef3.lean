/-
 The document's log (sounderref06): contracts of Clear, Oldest, Copy, Flight, Eliciting, Between, Drop.
-/
import Derived.Test.YtgicljeedegncaaGreatTqSentRef2
namespace Go.Proofs.YtgicljeedegncaaGreat
open Go.Value renaming int → ZI
open Go.IntKind renaming i64 → ZQ
open Go.RowKit

set_option maxHeartbeats 1000000 in
theorem rclear_any (m room : Nat) (top : Int) (ps : List Pk) (w : World) (hR : IsRef w m room top ps) :
  Calls Tryz.prog 86 #[.pointer (some ⟨m, 0, none⟩)] w fun e w' => e = .returned (.tuple #[]) ∧ IsRef w' m room top [] ∧ Only [m] w w' := by
 obtain ⟨hr, hl, v, hB, hv⟩ := hR
 obtain ⟨a, c, rfl⟩ := hv.slice
 have hm := hB.lt
 have hfb := hB.frozen
 have c2 : w.cell? ⟨m, 2, none⟩ = some (.slice a ps.length c) := hB.cell 2
 go_enter Tryz.func86, Tryz.ntmps86
 go_wp2
 go_end0
 exact ⟨rfl, ⟨hr, by simp, .slice none 0 0, (hB.set 2 _).eq (by simp), .inl ⟨rfl, rfl⟩⟩, (Only.refl _ _).setCell (.inl (by simp)) _⟩

set_option maxHeartbeats 1000000 in
theorem roldest_is (m room : Nat) (top : Int) (p : Pk) (ps : List Pk) (w : World) (hR : IsRef w m room top (p :: ps)) :
  Calls Tryz.prog 78 #[.pointer (some ⟨m, 0, none⟩)] w fun e w' => e = .returned (.tuple #[.agg #[ZI ZQ p.num, ZI ZQ p.time, ZI ZQ p.size, .bool p.el, .bool p.fl, .bool p.ect], .bool true]) ∧ Below w.heap.size w w' := by
 obtain ⟨hr, hl, v, hB, hv⟩ := hR
 obtain ⟨a, c, rfl⟩ := hv.slice
 have hm := hB.lt
 have c2 : w.cell? ⟨m, 2, none⟩ = some (.slice a (p :: ps).length c) := hB.cell 2
 obtain ⟨g, rfl, p', hp, a0, a1, a2, a3, a4, a5⟩ := hv.at_ (k := 0) (by simp)
 obtain rfl : p = p' := by simpa using hp
 have hgl : g < w.heap.size := by
  rcases hv with ⟨h0, _⟩ | ⟨g', _, _, h0, h1⟩
  ·cases h0
  ·cases h0; exact h1.lt
 obtain ⟨N, hN⟩ : ∃ N, (p :: ps).length = N := ⟨_, rfl⟩
 rw [hN] at c2 hl
 have hN1 : 1 ≤ N := by simp at hN; omega
 have e0 : ((N : Int) == 0) = false := by rw [beq_eq_false_iff_ne]; omega
 clear hN hv hp hB
 go_enter Tryz.func78, Tryz.ntmps78
 go_wp2
 refine bodyPost_ret (v := .tuple #[.agg #[ZI ZQ p.num, ZI ZQ p.time, ZI ZQ p.size, .bool p.el, .bool p.fl, .bool p.ect], .bool true]) (by simp [results, Tryz.results78, go_sem]) rfl ⟨rfl, ?_⟩
 go_grown

set_option maxHeartbeats 1000000 in
theorem roldest_none (m room : Nat) (top : Int) (w : World) (hR : IsRef w m room top []) :
  Calls Tryz.prog 78 #[.pointer (some ⟨m, 0, none⟩)] w fun e w' => e = .returned (.tuple #[.agg #[ZI ZQ 0, ZI ZQ 0, ZI ZQ 0, .bool false, .bool false, .bool false], .bool false]) ∧ Below w.heap.size w w' := by
 obtain ⟨hr, hl, v, hB, hv⟩ := hR
 obtain ⟨a, c, rfl⟩ := hv.slice
 have hm := hB.lt
 have c2 : w.cell? ⟨m, 2, none⟩ = some (.slice a 0 c) := hB.cell 2
 go_enter Tryz.func78, Tryz.ntmps78
 go_wp2
 refine bodyPost_ret (v := .tuple #[.agg #[ZI ZQ 0, ZI ZQ 0, ZI ZQ 0, .bool false, .bool false, .bool false], .bool false]) (by simp [results, Tryz.results78, go_sem]) rfl ⟨rfl, ?_⟩
 go_grown

theorem PkRow.lt {w : World} {g n c : Nat} {ps : List Pk} (h : PkRow w (.slice (some ⟨g, 0, none⟩) n c) ps) : g < w.heap.size := by
 rcases h with ⟨h0, _⟩ | ⟨g', _, _, h0, h1⟩
 ·cases h0
 ·cases h0; exact h1.lt

set_option maxHeartbeats 1000000 in
theorem rflight_any (m room : Nat) (top : Int) (ps : List Pk) (w : World) (hR : IsRef w m room top ps) (hmay : ∀ p ∈ ps, p.may) :
  Calls Tryz.prog 87 #[.pointer (some ⟨m, 0, none⟩)] w fun e w' => e = .returned (ZI ZQ (flightOf ps)) ∧ w = w' := by
 obtain ⟨hr, hl, v, hB, hv⟩ := hR
 obtain ⟨a, c, rfl⟩ := hv.slice
 have hm := hB.lt
 have c2 : w.cell? ⟨m, 2, none⟩ = some (.slice a ps.length c) := hB.cell 2
 have hFa := flight_bounds ps hmay
 obtain ⟨N, hN⟩ : ∃ N, ps.length = N := ⟨_, rfl⟩
 obtain ⟨F, hF⟩ : ∃ F, flightOf ps = F := ⟨_, rfl⟩
 rw [hN] at hv c2 hl hFa
 rw [hF] at hFa ⊢
 have HV := hide hv
 have HN := hide hN
 have HF := hide hF
 have HM := hide hmay
 clear hv hN hF hmay
 go_enter Tryz.func87, Tryz.ntmps87
 go_wp2
 go_loop [3, 4] (fun s3 s4 => ∃ (k : Nat) (x : Int), s4 = ZI ZQ k ∧ s3 = ZI ZQ x ∧ k ≤ N ∧ 0 ≤ x ∧ x + flightOf (ps.drop k) = F) (fun _ i => N - (intOf i).toNat)
 case atStart => exact ⟨0, 0, rfl, rfl, Nat.zero_le _, Int.le_refl _, by simpa using HF.out⟩
 case round =>
  obtain ⟨k, x, rfl, rfl, hk, hx0, hx⟩ := hrel
  by_cases hlt : k < N
  ·have hkp : k < ps.length := by rw [HN.out]; exact hlt
   obtain ⟨g, rfl, p, hp, a0, a1, a2, a3, a4, a5⟩ := HV.out.at_ hkp
   have hpm := HM.out p (List.mem_of_getElem? hp)
   have hFb := flight_bounds (ps.drop (k + 1)) (fun q hq => HM.out q (List.mem_of_mem_drop hq))
   rw [drop_cons hp] at hx
   obtain ⟨pn, pt, ps', pe, pf, pc⟩ := p
   obtain ⟨m1, m2, m3, m4, m5, m6⟩ := hpm
   simp only at m5 m6 a0 a1 a2 a3 a4 a5
   unfold flightOf at hx
   simp only at hx
   have HP := hide hp
   clear hp m1 m2 m3 m4
   cases pf with
   | true =>
    have hb1 : x + ps' ≤ 1000000000 := by simp at hx; omega
    have HX := hide hx
    clear hx hFb
    go_wp2
    go_round
    case rel => exact ⟨k + 1, x + ps', by go_num, rfl, by omega, by omega, by have := HX.out; simp at this; omega⟩
    case measure => simp [intOf]; omega
   | false =>
    have HX := hide hx
    clear hx hFb
    go_wp2
    go_round
    case rel => exact ⟨k + 1, x, by go_num, rfl, by omega, by omega, by have := HX.out; simp at this; omega⟩
    case measure => simp [intOf]; omega
  ·obtain rfl : k = N := by omega
   rw [List.drop_eq_nil_of_le (by rw [HN.out]; exact Nat.le_refl _)] at hx
   have hx2 : x = F := by unfold flightOf at hx; omega
   subst hx2
   clear hlt hx
   go_wp2
   go_ret
   exact ⟨rfl, rfl⟩

set_option maxHeartbeats 1000000 in
theorem relic_any (m room : Nat) (top : Int) (ps : List Pk) (w : World) (hR : IsRef w m room top ps) :
  Calls Tryz.prog 88 #[.pointer (some ⟨m, 0, none⟩)] w fun e w' => e = .returned (ZI ZQ (elicOf ps)) ∧ w = w' := by
 obtain ⟨hr, hl, v, hB, hv⟩ := hR
 obtain ⟨a, c, rfl⟩ := hv.slice
 have hm := hB.lt
 have c2 : w.cell? ⟨m, 2, none⟩ = some (.slice a ps.length c) := hB.cell 2
 have hFa := elic_bounds ps
 obtain ⟨N, hN⟩ : ∃ N, ps.length = N := ⟨_, rfl⟩
 obtain ⟨F, hF⟩ : ∃ F, elicOf ps = F := ⟨_, rfl⟩
 rw [hN] at hv c2 hl hFa
 rw [hF] at hFa ⊢
 have HV := hide hv
 have HN := hide hN
 have HF := hide hF
 clear hv hN hF
 go_enter Tryz.func88, Tryz.ntmps88
 go_wp2
 go_loop [3, 4] (fun s3 s4 => ∃ (k : Nat) (x : Int), s4 = ZI ZQ k ∧ s3 = ZI ZQ x ∧ k ≤ N ∧ 0 ≤ x ∧ x + elicOf (ps.drop k) = F) (fun _ i => N - (intOf i).toNat)
 case atStart => exact ⟨0, 0, rfl, rfl, Nat.zero_le _, Int.le_refl _, by simpa using HF.out⟩
 case round =>
  obtain ⟨k, x, rfl, rfl, hk, hx0, hx⟩ := hrel
  by_cases hlt : k < N
  ·have hkp : k < ps.length := by rw [HN.out]; exact hlt
   obtain ⟨g, rfl, p, hp, a0, a1, a2, a3, a4, a5⟩ := HV.out.at_ hkp
   have hFb := elic_bounds (ps.drop (k + 1))
   rw [drop_cons hp] at hx
   obtain ⟨pn, pt, ps', pe, pf, pc⟩ := p
   simp only at a0 a1 a2 a3 a4 a5
   unfold elicOf at hx
   simp only at hx
   have HP := hide hp
   clear hp
   cases pf with
   | true =>
    cases pe with
    | true =>
     have hb1 : x + 1 ≤ 1000000000 := by simp at hx; omega
     have HX := hide hx
     clear hx hFb
     go_wp2
     go_round
     case rel => exact ⟨k + 1, x + 1, by go_num, rfl, by omega, by omega, by have := HX.out; simp at this; omega⟩
     case measure => simp [intOf]; omega
    | false =>
     have HX := hide hx
     clear hx hFb
     go_wp2
     go_round
     case rel => exact ⟨k + 1, x, by go_num, rfl, by omega, by omega, by have := HX.out; simp at this; omega⟩
     case measure => simp [intOf]; omega
   | false =>
    have HX := hide hx
    clear hx hFb
    go_wp2
    go_round
    case rel => exact ⟨k + 1, x, by go_num, rfl, by omega, by omega, by have := HX.out; simp at this; omega⟩
    case measure => simp [intOf]; omega
  ·obtain rfl : k = N := by omega
   rw [List.drop_eq_nil_of_le (by rw [HN.out]; exact Nat.le_refl _)] at hx
   have hx2 : x = F := by unfold elicOf at hx; omega
   subst hx2
   clear hlt hx
   go_wp2
   go_ret
   exact ⟨rfl, rfl⟩

/-- What the document's Copy leaves. -/
def RCopyPost (w : World) (room : Nat) (top : Int) (ps : List Pk) (e : Ending) (w' : World) : Prop :=
 ∃ m', e = .returned (.pointer (some ⟨m', 0, none⟩)) ∧ IsRef w' m' room top ps ∧ w.heap.size ≤ m' ∧ Below w.heap.size w w'

set_option maxHeartbeats 2000000 in
theorem rcopy_any (m room : Nat) (top : Int) (ps : List Pk) (w : World) (hR : IsRef w m room top ps) :
  Calls Tryz.prog 72 #[.pointer (some ⟨m, 0, none⟩)] w (RCopyPost w room top ps) := by
 have hR0 := hR
 obtain ⟨hr, hl, v, hB, hv⟩ := hR
 have hm := hB.lt
 have c0 : w.cell? ⟨m, 0, none⟩ = some (ZI ZQ room) := hB.cell 0
 have c1 : w.cell? ⟨m, 1, none⟩ = some (ZI ZQ top) := hB.cell 1
 clear hv hB
 go_enter Tryz.func72, Tryz.ntmps72
 go_wp2
 go_region_held3 (fun w' => w'.cell? ⟨m, 0, none⟩ = some (ZI ZQ room) ∧ w'.cell? ⟨m, 1, none⟩ = some (ZI ZQ top)) (first | with_reducible exact ⟨d0, d1⟩ | exact ⟨(World.cell?_alloc_lt _ _ _ (by simpa using Nat.lt_of_lt_of_le hm hb1.size)).trans d0, (World.cell?_alloc_lt _ _ _ (by simpa using Nat.lt_of_lt_of_le hm hb1.size)).trans d1⟩ | exact ⟨c0, c1⟩)
  (first | (go_at_call 80; refine (rall_any m room top ps _ (by exact hR0)).mono ?_; rintro e1 w1 ⟨v1, rfl, hv1, hb1⟩; have d0 : w1.cell? ⟨m, 0, none⟩ = some (ZI ZQ room) := (hb1.cell (p := ⟨m, 0, none⟩) hm).trans c0; have d1 : w1.cell? ⟨m, 1, none⟩ = some (ZI ZQ top) := (hb1.cell (p := ⟨m, 1, none⟩) hm).trans c1; obtain ⟨a1, k1, rfl⟩ := own_slice hv1))
 all_goals go_wp2
 all_goals go_ret
 all_goals
  refine ⟨w1.heap.size, rfl, ⟨hr, hl, _, Blk.new _ _ _, (own_pkrow hv1).below ((Below.refl _ _).alloc (Nat.le_refl _) _)⟩, hb1.size, (Below.alloc ?_ hb1.size _)⟩
  exact ((Below.refl w.heap.size w).drew).trans hb1

/-- What the document's Drop leaves. -/
def RDropPost (w : World) (m room : Nat) (top n : Int) (p : Pk) (b : Bool) (ps : List Pk) (e : Ending) (w' : World) : Prop :=
 e = .returned (.tuple #[.agg #[ZI ZQ p.num, ZI ZQ p.time, ZI ZQ p.size, .bool p.el, .bool p.fl, .bool p.ect], .bool b]) ∧ IsRef w' m room top (without n ps) ∧ Only [m] w w'
theorem without_take {n : Int} {ps : List Pk} {k : Nat} {p : Pk} (h : ps[k]? = some p) : without n (ps.take (k + 1)) = if p.num = n then without n (ps.take k) else without n (ps.take k) ++ [p] := by
 obtain ⟨hl, he⟩ := List.getElem?_eq_some_iff.1 h
 rw [List.take_succ_eq_append_getElem hl, he]
 unfold without
 rw [List.filter_append, List.filter_cons]
 by_cases h : p.num = n <;> simp [h]
theorem without_length (n : Int) (ps : List Pk) : (without n ps).length ≤ ps.length := List.length_filter_le _ _

/-- The log's row lies in a block of its own, not below `lo`. -/
def RowNew (w : World) (m lo : Nat) : Prop := ∃ v, w.cell? ⟨m, 2, none⟩ = some v ∧ ∀ k, v.ownBlock = some k → lo ≤ k ∧ k < w.heap.size
/-- The log's row lies apart from the row of `o`. -/
def RowFar (w : World) (m : Nat) (o : Value) : Prop := ∃ v, w.cell? ⟨m, 2, none⟩ = some v ∧ ∀ k, v.ownBlock = some k → k < w.heap.size ∧ o.ownBlock ≠ some k
theorem RowFar.below {w w' : World} {m : Nat} {o : Value} (h : RowFar w m o) (hm : m < w.heap.size) (hb : Below w.heap.size w w') : RowFar w' m o := by
 obtain ⟨v, hv, hk⟩ := h
 exact ⟨v, (hb.cell (p := ⟨m, 2, none⟩) hm).trans hv, fun k e => ⟨Nat.lt_of_lt_of_le (hk k e).1 hb.size, (hk k e).2⟩⟩
theorem RowNew.far {w : World} {m lo : Nat} {o : Value} (h : RowNew w m lo) (ho : ∀ k, o.ownBlock = some k → k < lo) : RowFar w m o := by
 obtain ⟨v, hv, hk⟩ := h
 exact ⟨v, hv, fun k e => ⟨(hk k e).2, fun e2 => by have h1 := (hk k e).1; have h2 := ho k e2; omega⟩⟩
theorem IsRef.rowFar {w : World} {m room : Nat} {top : Int} {ps : List Pk} {o : Value} (h : IsRef w m room top ps) (ho : o.ownBlock = none) : RowFar w m o := by
 obtain ⟨_, _, v, hB, hv⟩ := h
 refine ⟨v, hB.cell 2, fun k e => ⟨?_, by rw [ho]; simp⟩⟩
 rcases hv with ⟨rfl, _⟩ | ⟨g, cap, rest, rfl, hb⟩
 ·cases e
 ·cases e
  exact hb.lt
/-- What turns is neither the log's block nor its row's. -/
theorem IsRef.far {S : List Nat} {w w' : World} {m room : Nat} {top : Int} {ps : List Pk} {o : Value} (h : IsRef w m room top ps) (hf : RowFar w m o) (ho : Only S w w') (hm : m ∉ S) (hS : ∀ x ∈ S, o.ownBlock = some x) : IsRef w' m room top ps := by
 obtain ⟨h1, h2, v, hB, hv⟩ := h
 obtain ⟨u, hu, hk⟩ := hf
 have hc := hB.cell 2
 have e : v = u := by
  have h3 : w.cell? ⟨m, 2, none⟩ = some v := hc
  rw [hu] at h3
  exact (Option.some.inj h3).symm
 subst e
 exact ⟨h1, h2, v, ho.blk hB hm, hv.only ho (fun g hg hx => (hk g hg).2 (hS g hx))⟩

theorem drop_fin {w wr w' : World} {m room N X B c c8 : Nat} {top n : Int} {ps : List Pk} {p : Pk} {b : Bool} {a A8 : Option Addr} (hr : room ≤ 256) (hl : (without n ps).length ≤ room)
  (hB : Blk wr m 115 #[ZI ZQ room, ZI ZQ top, .slice a N c]) (hown : wr.ownsRow B 40 6 (.slice A8 (without n ps).length c8) (without n ps).length ((without n ps).flatMap Pk.cells))
  (hW : Below w.heap.size w wr) (hX : w.heap.size ≤ X) (hXB : X < B) (hmX : m ≠ X) (hO : Only [X] (wr.setCell ⟨m, 2, none⟩ (.slice A8 (without n ps).length c8)) w') :
  RDropPost w m room top n p b ps (.returned (.tuple #[.agg #[ZI ZQ p.num, ZI ZQ p.time, ZI ZQ p.size, .bool p.el, .bool p.fl, .bool p.ect], .bool b])) w' ∧ RowNew w' m w.heap.size := by
 have h1 := (own_pkrow (own_far hown (own_ne hown hB (by decide)) (p := ⟨m, 2, none⟩) (.slice A8 (without n ps).length c8))).only hO (fun g hg => by have := (hown.lt g hg).1; simp; omega)
 have h2 : Blk w' m 115 #[ZI ZQ room, ZI ZQ top, .slice A8 (without n ps).length c8] := hO.blk ((hB.set 2 (.slice A8 (without n ps).length c8)).eq (by simp)) (by simpa using hmX)
 exact ⟨⟨rfl, ⟨hr, hl, _, h2, h1⟩,
  Only.trans (S' := [X]) (Only.setCell ((only_of_below hW)) (.inl (by simp)) _) hO (fun x hx => by simp at hx; exact .inr (by omega))⟩,
  .slice A8 (without n ps).length c8, h2.cell 2, fun k e => ⟨by have := (hown.lt k e).1; omega, Nat.lt_of_lt_of_le (hown.lt k e).2 (by have h3 := hO.size; rw [World.size_setCell] at h3; exact h3)⟩⟩

set_option maxRecDepth 100000 in
set_option maxHeartbeats 4000000 in
theorem rdropx_any (m room : Nat) (top n : Int) (ps : List Pk) (p : Pk) (b : Bool) (w : World) (hR : IsRef w m room top ps) (hg : getOf n ps = (p, b)) :
  Calls Tryz.prog 82 #[.pointer (some ⟨m, 0, none⟩), ZI ZQ n] w (fun e w' => RDropPost w m room top n p b ps e w' ∧ RowNew w' m w.heap.size) := by
 have hR0 := hR
 obtain ⟨hr, hl, v, hB, hv⟩ := hR
 obtain ⟨a, c, rfl⟩ := hv.slice
 obtain ⟨i0, hi, hz0, hz1, hz2⟩ := info_parts pk_info
 have hm := hB.lt
 have HGET := hide (rget_any m room top n ps p b (w.alloc (.cells #[ZI ZQ 0, ZI ZQ 0, ZI ZQ 0, .bool false, .bool false, .bool false] 40)) (hR0.alloc _) hg)
 clear hg
 go_enter Tryz.func82, Tryz.ntmps82
 go_wp2_with (go_at_call 126; refine HGET.out.mono ?_; rintro e1 w1 ⟨rfl, hb1⟩; have hb2 : Below w.heap.size w w1 := ((Below.refl _ _).alloc (Nat.le_refl _) _).trans (hb1.mono (by simp)); have hs1 := hb1.size; simp at hs1; have hbx := (only_of_below hb1 (S := [])).blk (Blk.new w _ _) (by simp))
 have hs2 := hb2.size
 obtain ⟨N, hN⟩ : ∃ N, ps.length = N := ⟨_, rfl⟩
 rw [hN] at hv hB hl
 obtain ⟨X, hX⟩ : ∃ X, w.heap.size = X := ⟨_, rfl⟩
 obtain ⟨Y, hY⟩ : ∃ Y, w1.heap.size = Y := ⟨_, rfl⟩
 have hby : Blk (w1.alloc (.cells #[ZI ZQ p.num, ZI ZQ p.time, ZI ZQ p.size, .bool p.el, .bool p.fl, .bool p.ect] 40)) Y 40 #[ZI ZQ p.num, ZI ZQ p.time, ZI ZQ p.size, .bool p.el, .bool p.fl, .bool p.ect] := hY ▸ Blk.new _ _ _
 have hb3 : Below w.heap.size w (w1.alloc (.cells #[ZI ZQ p.num, ZI ZQ p.time, ZI ZQ p.size, .bool p.el, .bool p.fl, .bool p.ect] 40)) := hb2.alloc hs2 _
 have hbx3 := hbx.alloc (.cells #[ZI ZQ p.num, ZI ZQ p.time, ZI ZQ p.size, .bool p.el, .bool p.fl, .bool p.ect] 40)
 rw [hX] at hbx3 hs1
 rw [hY] at hs1
 rw [hX, hY]
 have HV := hide hv
 have HBm := hide hB
 have HN := hide hN
 have HX := hide hX
 have HY := hide hY
 have hmX : m < X := by omega
 clear hv hN hX hB hb1 hb2 hbx hR0 hs2
 go_loopg [8, 9] N (fun kx s8 s9 wr => ∃ (k : Nat), s9 = ZI ZQ k ∧ k ≤ N ∧ N - k ≤ kx ∧ wr.ownsRow (Y + 1) 40 6 s8 (without n (ps.take k)).length ((without n (ps.take k)).flatMap Pk.cells) ∧
  Blk wr X 40 #[ZI ZQ 0, ZI ZQ 0, ZI ZQ 0, .bool false, .bool false, .bool false] ∧ Blk wr Y 40 #[ZI ZQ p.num, ZI ZQ p.time, ZI ZQ p.size, .bool p.el, .bool p.fl, .bool p.ect] ∧ Below w.heap.size w wr)
 case atStart => exact ⟨0, rfl, Nat.zero_le _, Nat.le_refl _, ⟨by simp [without], .inl ⟨rfl, by simp [without]⟩⟩, hbx3, hby, hb3⟩
 case round =>
  clear hbx3 hby hb3 hY
  obtain ⟨k, rfl, hk, hkx, hown, hbx, hby, hW⟩ := hrel
  have hxl := hbx.lt
  have hyl := hby.lt
  have hBr := (only_of_below hW (S := [])).blk HBm.out (by simp)
  have c2 : wr.cell? ⟨m, 2, none⟩ = some (.slice a N c) := hBr.cell 2
  have hvr := HV.out.below hW
  by_cases hlt : k < N
  ·have hkp : k < ps.length := by rw [HN.out]; exact hlt
   obtain ⟨g, rfl, q, hq, a0, a1, a2, a3, a4, a5⟩ := hvr.at_ hkp
   have hgl := hvr.lt
   have hwt := without_take (n := n) hq
   have hwl := without_length n (ps.take k)
   have hwl2 : (ps.take k).length ≤ k := List.length_take_le _ _
   by_cases he : q.num = n
   ·rw [if_pos he] at hwt
    have hbe : (q.num == n) = true := by simpa using he
    have HT := hide hwt
    have HO := hide hown
    clear hwt he hq hown
    go_wp2_with fail
    go_roundg (N - (k + 1))
    case rel => exact ⟨k + 1, by go_num, by omega, Nat.le_refl _, by rw [HT.out]; exact HO.out, hbx, hby, hW⟩
    case measure => omega
   ·rw [if_neg he] at hwt
    have hbe : (q.num == n) = false := by simpa using he
    have HT := hide hwt
    clear hwt he hq
    obtain ⟨M, hM⟩ : ∃ M, (without n (ps.take k)).length = M := ⟨_, rfl⟩
    obtain ⟨xs, hxs⟩ : ∃ xs, (without n (ps.take k)).flatMap Pk.cells = xs := ⟨_, rfl⟩
    rw [hM, hxs] at hown
    rw [hM] at hwl
    have HM := hide hM
    have HXS := hide hxs
    clear hM hxs
    obtain ⟨A8, c8, rfl⟩ := own_slice hown
    go_wp2_with (at_builtin; refine wpList_append_any _ rfl (.tmp 35) (.tmp 43) _ rfl (Y + 1) 40 i0 _ 6 32 Tryz.underlying37 hi hz0 hz1 hz2 rfl (by decide) (.slice A8 M c8) M xs rfl (by exact hown.alloc _) (wr.heap.size + 1) (some ⟨wr.heap.size, 0, none⟩) 1 1 q.cells rfl (by exact reads_lit (blk_new_at (by simp)) (by simp) rfl) (by simp [Pk.cells, Value.oneCell']) (by unfold maxLen; omega) (by omega) (by simp; omega) ?_; intro v5 w5 hown5 hg5 hat5)
    go_roundg (N - (k + 1))
    case rel =>
     refine ⟨k + 1, by go_num, by omega, Nat.le_refl _, ?_, blk_grown (hbx.alloc _) hg5 (fun e => by have := (hown.lt X e.symm).1; omega), blk_grown (hby.alloc _) hg5 (fun e => by have := (hown.lt Y e.symm).1; omega), ?_⟩
     ·rw [HT.out, List.length_append, List.flatMap_append, HM.out, HXS.out]
      simpa using hown5
     ·exact Below.grown (hW.alloc hW.size _) hg5 (by simp; have := hW.size; omega) (fun x hx => by have := (hown.lt x hx).1; have := HX.out; omega)
    case measure => omega
  ·obtain rfl : k = N := by omega
   rw [List.take_of_length_le (by rw [HN.out]; exact Nat.le_refl _)] at hown
   obtain ⟨A8, c8, rfl⟩ := own_slice hown
   have hfb := hBr.frozen
   have hfx := hbx.frozen
   have y0 : wr.cell? ⟨Y, 0, none⟩ = some (ZI ZQ p.num) := hby.cell 0
   have y1 : wr.cell? ⟨Y, 1, none⟩ = some (ZI ZQ p.time) := hby.cell 1
   have y2 : wr.cell? ⟨Y, 2, none⟩ = some (ZI ZQ p.size) := hby.cell 2
   have y3 : wr.cell? ⟨Y, 3, none⟩ = some (.bool p.el) := hby.cell 3
   have y4 : wr.cell? ⟨Y, 4, none⟩ = some (.bool p.fl) := hby.cell 4
   have y5 : wr.cell? ⟨Y, 5, none⟩ = some (.bool p.ect) := hby.cell 5
   have x0 : wr.cell? ⟨X, 0, none⟩ = some (ZI ZQ 0) := hbx.cell 0
   have x1 : wr.cell? ⟨X, 1, none⟩ = some (ZI ZQ 0) := hbx.cell 1
   have x2 : wr.cell? ⟨X, 2, none⟩ = some (ZI ZQ 0) := hbx.cell 2
   have x3 : wr.cell? ⟨X, 3, none⟩ = some (.bool false) := hbx.cell 3
   have x4 : wr.cell? ⟨X, 4, none⟩ = some (.bool false) := hbx.cell 4
   have x5 : wr.cell? ⟨X, 5, none⟩ = some (.bool false) := hbx.cell 5
   have hmX' : m ≠ X := by omega
   have hXm : X ≠ m := by omega
   have hYm : Y ≠ m := by omega
   have hYX : Y ≠ X := by omega
   have hXY : X ≠ Y := by omega
   clear hlt hkx
   go_wp2_with fail
   refine bodyPost_ret (v := .tuple #[.agg #[ZI ZQ p.num, ZI ZQ p.time, ZI ZQ p.size, .bool p.el, .bool p.fl, .bool p.ect], .bool b]) (by simp [results, Tryz.results82, go_sem, x0, x1, x2, x3, x4, x5]) rfl ?_
   have hwl := without_length n ps
   have hXX := HX.out
   refine drop_fin hr (by have := HN.out; omega) hBr hown hW (by omega) (by omega) hmX' ?_
   iterate 6 with_reducible refine Only.setCell ?_ (.inl (by simp)) _
   exact Only.refl _ _
theorem rdrop_any (m room : Nat) (top n : Int) (ps : List Pk) (p : Pk) (b : Bool) (w : World) (hR : IsRef w m room top ps) (hg : getOf n ps = (p, b)) :
  Calls Tryz.prog 82 #[.pointer (some ⟨m, 0, none⟩), ZI ZQ n] w (RDropPost w m room top n p b ps) :=
 (rdropx_any m room top n ps p b w hR hg).mono fun _ _ h => h.1
end Go.Proofs.YtgicljeedegncaaGreat
