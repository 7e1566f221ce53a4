/-
  The packets' log: Drop.
-/
import Derived.Test.YtcigkggdcogokaaSentW7
namespace Go.Proofs.Ytcigkggdcogokaa
open Go.RowKit

/-- What Drop leaves where the packet is there. -/
def DropPost (w : World) (b rb room : Nat) (last n : Int) (p : Pk) (ps : List Pk) (e : Ending) (w' : World) : Prop :=
  e = .returned (.tuple #[.agg #[.int .i64 p.num, .int .i64 p.time, .int .i64 p.size, .bool p.el, .bool p.fl, .bool p.ect], .bool true]) ∧ IsLog w' b rb room last (without n ps) ∧ Only [b, rb] w w'

set_option maxHeartbeats 1000000 in
theorem drop_none (b rb room : Nat) (last n : Int) (ps : List Pk) (w : World) (hL : IsLog w b rb room last ps) (h : ps.find? (fun p => p.num == n) = none) :
    Calls Try.prog 13 #[.pointer (some ⟨b, 0, none⟩), .int .i64 n] w fun e w' => e = .returned (.tuple #[.agg #[.int .i64 0, .int .i64 0, .int .i64 0, .bool false, .bool false, .bool false], .bool false]) ∧ Below w.heap.size w w' := by
  obtain ⟨m, fr, ring, q, hC, hR, hG, hp⟩ := hL
  rw [hp] at h
  have hb := hC.blk.lt
  have hrb := hC.rng.lt
  have HS := hide (slot_none n (hC.alloc (.cells #[.int .i64 0, .int .i64 0, .int .i64 0, .bool false, .bool false, .bool false] 30)) hR hG.sorted (noSlot_of hG.sorted h))
  have HP := hide hp
  have HH := hide h
  clear hp h
  go_enter Try.func13, Try.ntmps13
  go_wp2_with (first | (go_at_call 38; refine HS.out.mono ?_; rintro e1 w1 ⟨rfl, hb1⟩; obtain ⟨hc1, hf1⟩ := bcell hb1; have hsz := hb1.size; simp only [World.size_alloc] at hsz))
  refine bodyPost_ret (v := .tuple #[.agg #[.int .i64 0, .int .i64 0, .int .i64 0, .bool false, .bool false, .bool false], .bool false]) (by simp [results, Try.results13, go_sem, hc1]) rfl ⟨rfl, ?_⟩
  refine Only.of_nil ?_
  repeat (first | with_reducible refine Only.setCell ?_ (.inr (Nat.le_refl _)) _ | with_reducible refine Only.drewN ?_ _)
  exact Only.trans (S' := []) ((Only.refl [] w).alloc _) (only_of_below hb1) (by simp)

theorem LogC.setThere {w : World} {b rb m room : Nat} {last : Int} {fr long many : Nat} {fl el : Int} {ring : List Sl} (h : LogC w b rb m room last fr long many fl el ring) {k : Nat} {p : Pk} {x y : Bool} (hk : ring[k]? = some (p, x)) :
    LogC (w.setCell ⟨rb, k * 7 + 6, none⟩ (.bool y)) b rb m room last fr long many fl el (ring.set k (p, y)) := by
  have hl := flat_length slCells 7 slCells_length ring
  have hkl := (List.getElem?_eq_some_iff.1 hk).1
  refine ⟨_, h.rest, h.blk.far h.ne _, (h.rng.set _ _).eq ?_, h.m2, h.r1, h.r2⟩
  rw [List.setIfInBounds_toArray, List.set_append_left _ _ (by rw [hl]; omega), flat_set slCells 7 slCells_length ring k 6 (p, x) (p, y) _ (by omega) hk rfl]

theorem set_there {s : Sl} {q3 : List Sl} (hs : s.2 = false) : liveOf (s :: q3) = liveOf q3 := by rw [liveOf_cons, hs]; rfl

theorem drop_end {w : World} {b rb m room : Nat} {last n : Int} {fr2 i : Nat} {ring q q2 : List Sl} {ps : List Pk} {p : Pk} (hL : LogC w b rb m room last fr2 q2.length (without n ps).length (flightOf (without n ps)) (elicOf (without n ps)) ring) (hR : Ring m fr2 ring q2) (hG : Good room last q)
    (hq : q[i]? = some (p, true)) (hsf : q2 <:+ q.set i (p, false)) (hlv3 : liveOf q2 = liveOf (q.set i (p, false))) (hlv : liveOf (q.set i (p, false)) = without n ps) (hh : ∀ s, q2.head? = some s → s.2 = true) : IsLog w b rb room last (without n ps) :=
  ⟨m, fr2, ring, q2, hL, hR, good_after hG hq hsf hlv3 hh, by rw [hlv3, hlv]⟩

set_option maxHeartbeats 4000000 in
theorem drop_is (b rb room : Nat) (last n : Int) (p : Pk) (ps : List Pk) (w : World) (hL : IsLog w b rb room last ps) (h : ps.find? (fun p => p.num == n) = some p) :
    Calls Try.prog 13 #[.pointer (some ⟨b, 0, none⟩), .int .i64 n] w (DropPost w b rb room last n p ps) := by
  obtain ⟨m, fr, ring, q, hC, hR, hG, hp⟩ := hL
  rw [hp] at h
  obtain ⟨hq, hn⟩ := slotAt_of hG.sorted h
  have hi : firstAt n q < q.length := (List.getElem?_eq_some_iff.1 hq).1
  have hat := hR.at_ _ hi
  rw [hq] at hat
  have hb := hC.blk.lt
  have hrb := hC.rng.lt
  have hr1 := hC.r1
  have hr2 := hC.r2
  have hmp := hG.may _ (List.mem_of_getElem? hq)
  have hps : p ∈ ps := by rw [hp]; exact List.mem_of_find?_eq_some h
  have hpss : ps.Pairwise fun a b => a.num < b.num := by rw [hp]; exact live_sorted hG.sorted
  have hlen := length_without hpss hps hn
  have hfl := flight_without hpss hps hn
  have hel := elic_without hpss hps hn
  have hlv := without_at hG.sorted hq
  have HS := hide (slot_is n p (hC.alloc (.cells #[.int .i64 0, .int .i64 0, .int .i64 0, .bool false, .bool false, .bool false] 30)) hR hG.sorted hq hn)
  obtain ⟨i, hie⟩ : ∃ i, firstAt n q = i := ⟨_, rfl⟩
  rw [hie] at hq hi hat HS hlv
  rw [hn, ← hp] at hlv
  have hRS := hR.set hi (p, false)
  obtain ⟨k, hke⟩ : ∃ k, (fr + i) % m = k := ⟨_, rfl⟩
  rw [hke] at hat hRS HS
  have HP := hide hp
  have HN := hide hn
  have HQ := hide hq
  have HH := hide h
  have HA := hide hat
  have HI := hide hie
  have HK := hide hke
  have HLEN := hide hlen
  have HFL := hide hfl
  have HEL := hide hel
  have HLV := hide hlv
  have HM := hide hC.m2
  have HPS := hide hps
  clear hp hn hq h hie hke hlen hfl hel hlv hps hat
  obtain ⟨p1, p2, p3, p4, p5, p6⟩ := hmp
  obtain ⟨f1, f2⟩ := flight_bounds ps (by rw [HP.out]; exact live_may hG.may)
  obtain ⟨g1, g2⟩ := elic_bounds ps
  have hroom := hG.room
  rw [← HP.out] at hroom
  go_enter Try.func13, Try.ntmps13
  go_wp2_with (first | (go_at_call 38; refine HS.out.mono ?_; rintro e1 w1 ⟨rfl, hb1⟩; have hC1 := (hC.alloc (.cells #[.int .i64 0, .int .i64 0, .int .i64 0, .bool false, .bool false, .bool false] 30)).below hb1; obtain ⟨z0, z1, z2, z3, z4, z5, z6⟩ := hC1.slot HA.out; simp only at z0 z1 z2 z3 z4 z5 z6; have hsz := hb1.size; simp only [World.size_alloc] at hsz; have hfr1 := hC1.rng.frozen; have hbx := (only_of_below hb1 (S := [])).blk (Blk.new w _ _) (by simp)))
  rw [← HLEN.out] at hC1
  refine (less_any (hC1.setThere HA.out) p.num p.time p.size p.el p.fl p.ect (by have := HLEN.out; omega) f1 (by omega) g1 (by omega) p5 p6).mono ?_
  rintro e2 w2 ⟨rfl, hL2, hO2⟩
  rw [← HFL.out, ← HEL.out] at hL2
  have hbx2 : Blk w2 w.heap.size 30 _ := hO2.blk (hbx.far (by simp; omega) _) (by simp; omega)
  have hk2 : (ring.set k (p, false))[k]? = some (p, false) := List.getElem?_set_self (List.getElem?_eq_some_iff.1 HA.out).1
  obtain ⟨y0, y1, y2, y3, y4, y5, y6⟩ := hL2.slot hk2
  simp only at y0 y1 y2 y3 y4 y5 y6
  have x0 : w2.cell? ⟨w.heap.size, 0, none⟩ = some (.int .i64 0) := hbx2.cell 0
  have x1 : w2.cell? ⟨w.heap.size, 1, none⟩ = some (.int .i64 0) := hbx2.cell 1
  have x2 : w2.cell? ⟨w.heap.size, 2, none⟩ = some (.int .i64 0) := hbx2.cell 2
  have x3 : w2.cell? ⟨w.heap.size, 3, none⟩ = some (.bool false) := hbx2.cell 3
  have x4 : w2.cell? ⟨w.heap.size, 4, none⟩ = some (.bool false) := hbx2.cell 4
  have x5 : w2.cell? ⟨w.heap.size, 5, none⟩ = some (.bool false) := hbx2.cell 5
  have hfx := hbx2.frozen
  have hne1 : rb ≠ w.heap.size := by omega
  have hne2 : b ≠ w.heap.size := by omega
  have hsz2 : w.heap.size < w2.heap.size := hbx2.lt
  have hO2' : Only [b, rb] w w2 := Only.trans (S' := [b]) (Only.setCell (Only.trans (S' := []) ((Only.refl [b, rb] w).alloc _) (only_of_below hb1) (by simp)) (.inl (by simp)) _) hO2 (by simp)
  have hpb := hbx2.set 0 (.int .i64 p.num) |>.set 1 (.int .i64 p.time) |>.set 2 (.int .i64 p.size) |>.set 3 (.bool p.el) |>.set 4 (.bool p.fl) |>.set 5 (.bool p.ect)
  have hlq : (q.set i (p, false)).length = q.length := List.length_set
  rw [← hlq] at hL2
  have HK2 := hide hk2
  clear hk2 hC1 hbx
  go_wp2
  go_loopg [26] q.length (fun kx s26 wr => ∃ (fr2 : Nat) (q2 : List Sl), q2.length ≤ kx ∧ LogC wr b rb m room last fr2 q2.length (without n ps).length (flightOf (without n ps)) (elicOf (without n ps)) (ring.set k (p, false)) ∧ Ring m fr2 (ring.set k (p, false)) q2 ∧
    q2 <:+ q.set i (p, false) ∧ liveOf q2 = liveOf (q.set i (p, false)) ∧ Only [b, rb] w wr ∧ Blk wr w.heap.size 30 #[.int .i64 p.num, .int .i64 p.time, .int .i64 p.size, .bool p.el, .bool p.fl, .bool p.ect])
  case atStart =>
    refine ⟨fr, q.set i (p, false), Nat.le_of_eq hlq, ?_, hRS, List.suffix_refl _, rfl, ?_, hpb.eq (by simp)⟩
    · exact (((((hL2.far hne2 hne1 _).far hne2 hne1 _).far hne2 hne1 _).far hne2 hne1 _).far hne2 hne1 _).far hne2 hne1 _
    · exact (((((hO2'.setCell (.inr (Nat.le_refl _)) _).setCell (.inr (Nat.le_refl _)) _).setCell (.inr (Nat.le_refl _)) _).setCell (.inr (Nat.le_refl _)) _).setCell (.inr (Nat.le_refl _)) _).setCell (.inr (Nat.le_refl _)) _
  case round =>
    obtain ⟨fr2, q2, hkx, hL3, hR3, hsf, hlv3, hO3, hB3⟩ := hrel
    have c2 : wr.cell? ⟨b, 2, none⟩ = some (.slice (some ⟨rb, 0, none⟩) m hL3.cap) := hL3.cell 2
    have c3 : wr.cell? ⟨b, 3, none⟩ = some (.int .i64 fr2) := hL3.cell 3
    have c4 : wr.cell? ⟨b, 4, none⟩ = some (.int .i64 q2.length) := hL3.cell 4
    have b0 : wr.cell? ⟨w.heap.size, 0, none⟩ = some (.int .i64 p.num) := hB3.cell 0
    have b1 : wr.cell? ⟨w.heap.size, 1, none⟩ = some (.int .i64 p.time) := hB3.cell 1
    have b2 : wr.cell? ⟨w.heap.size, 2, none⟩ = some (.int .i64 p.size) := hB3.cell 2
    have b3 : wr.cell? ⟨w.heap.size, 3, none⟩ = some (.bool p.el) := hB3.cell 3
    have b4 : wr.cell? ⟨w.heap.size, 4, none⟩ = some (.bool p.fl) := hB3.cell 4
    have b5 : wr.cell? ⟨w.heap.size, 5, none⟩ = some (.bool p.ect) := hB3.cell 5
    have hf3 := hB3.frozen
    have hf4 := hL3.blk.frozen
    have hfm := hR3.frm
    have hqm := hR3.long
    have hm1 : 1 ≤ m := by omega
    have hm2 : m ≤ 512 := by have := HM.out; omega
    have hA := fun (c : Nat) (W : World) (g2 : W.cell? ⟨b, 2, none⟩ = some (.slice (some ⟨rb, 0, none⟩) m c)) (g3 : W.cell? ⟨b, 3, none⟩ = some (.int .i64 fr2)) => at_any b rb m fr2 0 W g2 g3 (by omega) (by omega) (by omega) (by omega)
    simp only [Nat.add_zero, Nat.mod_eq_of_lt hfm, Int.natCast_zero] at hA
    have HAT := hide hA
    clear hA
    clear z0 z1 z2 z3 z4 z5 z6 y0 y1 y2 y3 y4 y5 y6 x0 x1 x2 x3 x4 x5 hfx hpb hL2 hO2 hbx2 hfr1
    cases q2 with
    | nil =>
      have c4' : wr.cell? ⟨b, 4, none⟩ = some (.int .i64 0) := c4
      have HEAD : Hid (∀ s, ([] : List Sl).head? = some s → s.2 = true) := by intro s h; cases h
      clear c4
      go_wp2_with (first | (go_at_call 36; refine (HAT.out _ _ c2 c3).mono ?_; rintro e4 w4 ⟨rfl, nq, rfl⟩))
      refine bodyPost_ret (v := .tuple #[.agg #[.int .i64 p.num, .int .i64 p.time, .int .i64 p.size, .bool p.el, .bool p.fl, .bool p.ect], .bool true]) (by simp [results, Try.results13, go_sem, b0, b1, b2, b3, b4, b5]) rfl ⟨rfl, drop_end ?_ hR3 hG HQ.out hsf hlv3 HLV.out HEAD.out, ?_⟩
      · repeat (first | with_reducible refine LogC.far ?_ hne2 hne1 _ | with_reducible refine LogC.drewN ?_ _)
        exact hL3
      · repeat (first | with_reducible refine Only.setCell ?_ (.inr (Nat.le_refl _)) _ | with_reducible refine Only.drewN ?_ _)
        exact hO3
    | cons s q3 =>
      have hat3 := hR3.at_ 0 (by simp)
      simp only [Nat.add_zero, List.getElem?_cons_zero, Nat.mod_eq_of_lt hfm] at hat3
      obtain ⟨t0, t1, t2, t3, t4, t5, t6⟩ := hL3.slot hat3
      have HT3 := hide hat3
      clear hat3
      have hpos : (0 : Int) < (((s :: q3).length : Nat) : Int) := by simp only [List.length_cons]; omega
      obtain ⟨ln, hln⟩ : ∃ ln, (s :: q3).length = ln := ⟨_, rfl⟩
      rw [hln] at c4 hpos hkx hqm
      cases hs2 : s.2
      · rw [hs2] at t6
        have hlv4 : liveOf q3 = liveOf (q.set i (p, false)) := by rw [← hlv3, set_there hs2]
        have hsf4 : q3 <:+ q.set i (p, false) := (List.suffix_cons s q3).trans hsf
        have HS2 := hide hs2
        have HLN := hide hln
        have HL3 := hide hlv3
        have HL4 := hide hlv4
        clear hs2 hln hlv3 hlv4
        go_wp2_with (go_at_call 36; refine (HAT.out _ _ c2 c3).mono ?_; rintro e4 w4 ⟨rfl, nq, rfl⟩)
        go_region
        all_goals go_wp2
        all_goals
          go_roundg q3.length
          case measure => have := HLN.out; simp only [List.length_cons] at this; omega
          case rel =>
            refine ⟨(fr2 + 1) % m, q3, Nat.le_refl _, ?_, hR3.pop, hsf4, HL4.out, ?_, ?_⟩
            · exact ((hL3.drewN _).setFrom (k := (fr2 + 1) % m) (by rw [Int.natCast_emod]; rfl)).setLong (k := q3.length) (by have := HLN.out; simp only [List.length_cons] at this; omega)
            · exact ((hO3.drewN _).setCell (.inl (by simp)) _).setCell (.inl (by simp)) _
            · exact ((hB3.drewN _).far hne2.symm _).far hne2.symm _
      · have HEAD : Hid (∀ s', (s :: q3).head? = some s' → s'.2 = true) := by intro s' h; cases h; exact hs2
        rw [hs2] at t6
        have HS2 := hide hs2
        have HLN := hide hln
        clear hs2 hln
        go_wp2_with (first | (go_at_call 36; refine (HAT.out _ _ c2 c3).mono ?_; rintro e4 w4 ⟨rfl, nq, rfl⟩))
        refine bodyPost_ret (v := .tuple #[.agg #[.int .i64 p.num, .int .i64 p.time, .int .i64 p.size, .bool p.el, .bool p.fl, .bool p.ect], .bool true]) (by simp [results, Try.results13, go_sem, b0, b1, b2, b3, b4, b5]) rfl ⟨rfl, drop_end ?_ hR3 hG HQ.out hsf hlv3 HLV.out HEAD.out, ?_⟩
        · repeat (first | with_reducible refine LogC.far ?_ hne2 hne1 _ | with_reducible refine LogC.drewN ?_ _)
          exact hL3
        · repeat (first | with_reducible refine Only.setCell ?_ (.inr (Nat.le_refl _)) _ | with_reducible refine Only.drewN ?_ _)
          exact hO3
end Go.Proofs.Ytcigkggdcogokaa
