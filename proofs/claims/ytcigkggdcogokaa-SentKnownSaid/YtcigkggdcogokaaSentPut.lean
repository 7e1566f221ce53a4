/-
  The packets' log: Put, where the packet is taken.
-/
import Derived.Test.YtcigkggdcogokaaSentW4
import Derived.Test.YtcigkggdcogokaaSentPack
namespace Go.Proofs.Ytcigkggdcogokaa
open Go.RowKit

/-- What Put leaves where it takes the packet. -/
def PutPost (w : World) (b rb room : Nat) (p : Pk) (ps : List Pk) (e : Ending) (w' : World) : Prop :=
  e = .returned (.int .i64 0) ∧ ∃ rb', IsLog w' b rb' room p.num (ps ++ [p]) ∧ (rb' = rb ∨ w.heap.size ≤ rb') ∧ Only [b, rb] w w'

theorem put_end {w : World} {b rb m room : Nat} {last : Int} {fr : Nat} {ring q : List Sl} {ps : List Pk} {p : Pk} (hC : LogC w b rb m room p.num fr (q.length + 1) (ps.length + 1) (totF p.fl (flightOf ps) p.size) (totE p.fl p.el (elicOf ps) 1) (ring.set ((fr + q.length) % m) (p, true)))
    (hR : Ring m fr ring q) (hl : q.length < m) (hG : Good room last q) (hp : ps = liveOf q) (hm : p.may) (hn : last < p.num) (hr : ps.length < room) : IsLog w b rb room p.num (ps ++ [p]) := by
  refine ⟨m, fr, _, q ++ [(p, true)], ?_, hR.push hl _, good_push hG hm hn (by rw [← hp]; exact hr), by rw [live_push, hp]⟩
  rw [List.length_append, List.length_append, flight_push, elic_push]
  exact hC

theorem good_filter {room : Nat} {last : Int} {q : List Sl} (h : Good room last q) : Good room last (q.filter (·.2)) := by
  refine ⟨h.sorted.sublist List.filter_sublist, fun s hs => h.may s (List.mem_filter.1 hs).1, fun s hs => h.le s (List.mem_filter.1 hs).1, fun s hs => ?_, ?_, h.last⟩
  · have : s ∈ q.filter (·.2) := List.mem_of_mem_head? hs
    exact (List.mem_filter.1 this).2
  · have := h.room
    simpa [liveOf] using this
theorem live_filter (q : List Sl) : liveOf (q.filter (·.2)) = liveOf q := by simp [liveOf]

set_option maxHeartbeats 4000000 in
theorem put_ok1 (b rb room : Nat) (last n t s : Int) (e f c : Bool) (ps : List Pk) (w : World) (m fr : Nat) (ring q : List Sl) (hC : LogC w b rb m room last fr q.length ps.length (flightOf ps) (elicOf ps) ring) (hR : Ring m fr ring q) (hG : Good room last q) (hp : ps = liveOf q)
    (h : (Pk.mk n t s e f c).may) (hn : last < n) (hfull : ps.length < room) (hlong : q.length < m) :
    Calls Try.prog 11 #[.pointer (some ⟨b, 0, none⟩), .agg #[.int .i64 n, .int .i64 t, .int .i64 s, .bool e, .bool f, .bool c]] w (PutPost w b rb room (Pk.mk n t s e f c) ps) := by
  have hr1 := hC.r1
  have hr2 := hC.r2
  have hm2 : m ≤ 512 := by have := hC.m2; omega
  have hb := hC.blk.lt
  have hrb := hC.rng.lt
  have hne := hC.ne
  have hne' := hC.ne.symm
  have hfm := hR.frm
  have h0 : w.cell? ⟨b, 0, none⟩ = some (.int .i64 room) := hC.cell 0
  have h1 : w.cell? ⟨b, 1, none⟩ = some (.int .i64 last) := hC.cell 1
  have h2 : w.cell? ⟨b, 2, none⟩ = some (.slice (some ⟨rb, 0, none⟩) m hC.cap) := hC.cell 2
  have h3 : w.cell? ⟨b, 3, none⟩ = some (.int .i64 fr) := hC.cell 3
  have h4 : w.cell? ⟨b, 4, none⟩ = some (.int .i64 q.length) := hC.cell 4
  have h5 : w.cell? ⟨b, 5, none⟩ = some (.int .i64 ps.length) := hC.cell 5
  have hk : (fr + q.length) % m < ring.length := by rw [hR.len]; exact Nat.mod_lt _ (by omega)
  have hat : ring[(fr + q.length) % m]? = some ring[(fr + q.length) % m] := List.getElem?_eq_getElem hk
  obtain ⟨z0, z1, z2, z3, z4, z5, z6⟩ := hC.slot hat
  have hfz := hC.rng.frozen
  have hfb := hC.blk.frozen
  have e5 : ((ps.length : Int) == (room : Int)) = false := by rw [beq_eq_false_iff_ne]; omega
  have e4 : ((q.length : Int) == (m : Int)) = false := by rw [beq_eq_false_iff_ne]; omega
  have HP := hide hp
  have HN := hide h
  have HA := hide hat
  clear hp h hat
  go_enter Try.func11, Try.ntmps11
  go_wp2_with (first | (go_at_call 33; refine (none_no b room _ ((hC.alloc _).cell 0) hr1).mono ?_; rintro e1 w1 ⟨rfl, rfl⟩) | (go_at_call 34; refine (may_yes _ _ _ _ _ _ _ HN.out).mono ?_; rintro e1 w1 ⟨rfl, hb1⟩; obtain ⟨hc1, hf1⟩ := bcell hb1; have hC1 := (hC.alloc _).below hb1; have c2 : w1.cell? ⟨b, 2, none⟩ = some (.slice (some ⟨rb, 0, none⟩) m hC1.cap) := hC1.cell 2; have c3 : w1.cell? ⟨b, 3, none⟩ = some (.int .i64 fr) := hC1.cell 3))
  go_quiet (fail)
  go_wp2
  go_quiet (fail)
  go_wp2
  go_quiet (fail)
  go_wp2
  go_region_with (go_at_call 36; refine (at_any b rb m fr q.length (w1.drewN _) c2 c3 (by omega) (by omega) (by omega) (by omega)).mono ?_; rintro e2 w2 ⟨rfl, nq2, rfl⟩)
  all_goals go_wp2_with fail
  all_goals
    obtain ⟨p1, p2, p3, p4, p5, p6⟩ := HN.out
    obtain ⟨f1, f2⟩ := flight_bounds ps (by rw [HP.out]; exact live_may hG.may)
    obtain ⟨g1, g2⟩ := elic_bounds ps
    refine (more_any ((((hC1.drewN _).setSlot hk (⟨n, t, s, e, f, c⟩, true)).setLong (x := (q.length : Int) + 1) (k := q.length + 1) (by omega)).setLast n) n t s e f c (by omega) f1 (by omega) g1 (by omega) p5 p6).mono ?_
    rintro e3 w3 ⟨rfl, hL3, hO3⟩
    go_wp2
    go_ret
    refine ⟨rfl, rb, put_end hL3 hR hlong hG HP.out HN.out hn hfull, .inl rfl, Only.trans (S := [b, rb]) ?_ hO3 (by simp)⟩
    repeat (first | with_reducible refine Only.setCell ?_ (.inl (by simp)) _ | with_reducible refine Only.drewN ?_ _)
    exact ((Only.refl _ _).alloc _).trans (only_of_below hb1 (S := [])) (by simp)
set_option maxHeartbeats 4000000 in
theorem put_ok2 (b rb room : Nat) (last n t s : Int) (e f c : Bool) (ps : List Pk) (w : World) (m fr : Nat) (ring q : List Sl) (hC : LogC w b rb m room last fr q.length ps.length (flightOf ps) (elicOf ps) ring) (hR : Ring m fr ring q) (hG : Good room last q) (hp : ps = liveOf q)
    (h : (Pk.mk n t s e f c).may) (hn : last < n) (hfull : ps.length < room) (hlong : q.length = m) :
    Calls Try.prog 11 #[.pointer (some ⟨b, 0, none⟩), .agg #[.int .i64 n, .int .i64 t, .int .i64 s, .bool e, .bool f, .bool c]] w (PutPost w b rb room (Pk.mk n t s e f c) ps) := by
  have hr1 := hC.r1
  have hr2 := hC.r2
  have hm2 : m ≤ 512 := by have := hC.m2; omega
  have hb := hC.blk.lt
  have hrb := hC.rng.lt
  have hne := hC.ne
  have hne' := hC.ne.symm
  have hfm := hR.frm
  have h0 : w.cell? ⟨b, 0, none⟩ = some (.int .i64 room) := hC.cell 0
  have h1 : w.cell? ⟨b, 1, none⟩ = some (.int .i64 last) := hC.cell 1
  have h2 : w.cell? ⟨b, 2, none⟩ = some (.slice (some ⟨rb, 0, none⟩) m hC.cap) := hC.cell 2
  have h3 : w.cell? ⟨b, 3, none⟩ = some (.int .i64 fr) := hC.cell 3
  have h4 : w.cell? ⟨b, 4, none⟩ = some (.int .i64 q.length) := hC.cell 4
  have h5 : w.cell? ⟨b, 5, none⟩ = some (.int .i64 ps.length) := hC.cell 5
  have hlt : (q.filter (·.2)).length < m := by have h1 := hC.m2; have h2 : (liveOf q).length = (q.filter (·.2)).length := by simp [liveOf]
                                               rw [← hp] at h2; omega
  have hfb := hC.blk.frozen
  have e5 : ((ps.length : Int) == (room : Int)) = false := by rw [beq_eq_false_iff_ne]; omega
  have e4 : ((q.length : Int) == (m : Int)) = true := by rw [beq_iff_eq]; omega
  have HL := hide hlong
  have HP := hide hp
  have HN := hide h
  clear hp h hlong
  go_enter Try.func11, Try.ntmps11
  go_wp2_with (first | (go_at_call 33; refine (none_no b room _ ((hC.alloc _).cell 0) hr1).mono ?_; rintro e1 w1 ⟨rfl, rfl⟩) | (go_at_call 34; refine (may_yes _ _ _ _ _ _ _ HN.out).mono ?_; rintro e1 w1 ⟨rfl, hb1⟩; obtain ⟨hc1, hf1⟩ := bcell hb1; have hC1 := (hC.alloc _).below hb1; have hbx := (only_of_below hb1 (S := [])).blk (Blk.new w _ _) (by simp)))
  go_quiet (fail)
  go_wp2
  go_quiet (fail)
  go_wp2
  go_quiet (fail)
  go_wp2_with (go_at_call 35; refine (pack_any (hC1.drewN _) hR).mono ?_; rintro e2 w2 ⟨rfl, ring', hL2, hR2, hO2⟩)
  have hsz1 := hb1.size
  simp only [World.size_alloc] at hsz1
  obtain ⟨N, hN⟩ : ∃ N, w1.heap.size = N := ⟨_, rfl⟩
  change LogC w2 b w1.heap.size m room last 0 _ _ _ _ ring' at hL2
  rw [hN] at hL2 hsz1
  obtain ⟨k, hkk⟩ : ∃ k, (q.filter (·.2)).length = k := ⟨_, rfl⟩
  rw [hkk] at hlt hL2
  have hk : k % m < ring'.length := by rw [hR2.len]; exact Nat.mod_lt _ (by omega)
  have hat : ring'[k % m]? = some ring'[k % m] := List.getElem?_eq_getElem hk
  obtain ⟨z0, z1, z2, z3, z4, z5, z6⟩ := hL2.slot hat
  have hfz := hL2.rng.frozen
  have hfb2 := hL2.blk.frozen
  have hne2 := hL2.ne
  have hbx2 := hO2.blk (hbx.drewN _) (by simp; omega)
  have x0 : w2.cell? ⟨w.heap.size, 0, none⟩ = some (.int .i64 n) := hbx2.cell 0
  have x1 : w2.cell? ⟨w.heap.size, 1, none⟩ = some (.int .i64 t) := hbx2.cell 1
  have x2 : w2.cell? ⟨w.heap.size, 2, none⟩ = some (.int .i64 s) := hbx2.cell 2
  have x3 : w2.cell? ⟨w.heap.size, 3, none⟩ = some (.bool e) := hbx2.cell 3
  have x4 : w2.cell? ⟨w.heap.size, 4, none⟩ = some (.bool f) := hbx2.cell 4
  have x5 : w2.cell? ⟨w.heap.size, 5, none⟩ = some (.bool c) := hbx2.cell 5
  have y1 : w2.cell? ⟨b, 1, none⟩ = some (.int .i64 last) := hL2.cell 1
  have y2 : w2.cell? ⟨b, 2, none⟩ = some (.slice (some ⟨N, 0, none⟩) m hL2.cap) := hL2.cell 2
  have y3 : w2.cell? ⟨b, 3, none⟩ = some (.int .i64 (0 : Nat)) := hL2.cell 3
  have y4 : w2.cell? ⟨b, 4, none⟩ = some (.int .i64 k) := hL2.cell 4
  have hsz2 := hO2.size
  have hnb2 := hL2.rng.lt
  have hne3 := hne2.symm
  have hne4 : N ≠ w.heap.size := by omega
  have hne5 : w.heap.size ≠ N := by omega
  have hne6 : b ≠ w.heap.size := by omega
  have hne7 : w.heap.size ≠ b := by omega
  have HK := hide hkk
  clear hkk hat
  have hA := fun (c : Nat) (W : World) (g2 : W.cell? ⟨b, 2, none⟩ = some (.slice (some ⟨N, 0, none⟩) m c)) (g3 : W.cell? ⟨b, 3, none⟩ = some (.int .i64 (0 : Nat))) => at_any b N m 0 k W g2 g3 (by omega) (by omega) (by omega) (by omega)
  simp only [Nat.zero_add] at hA
  have HA := hide hA
  clear hA
  go_region_with (go_at_call 36; refine (HA.out _ (w2.drewN _) y2 y3).mono ?_; rintro e3 w3 ⟨rfl, nq2, rfl⟩)
  all_goals go_wp2_with fail
  all_goals
    obtain ⟨p1, p2, p3, p4, p5, p6⟩ := HN.out
    obtain ⟨f1, f2⟩ := flight_bounds ps (by rw [HP.out]; exact live_may hG.may)
    obtain ⟨g1, g2⟩ := elic_bounds ps
    refine (more_any ((((hL2.drewN _).setSlot hk (⟨n, t, s, e, f, c⟩, true)).setLong (x := (k : Int) + 1) (k := k + 1) (by omega)).setLast n) n t s e f c (by omega) f1 (by omega) g1 (by omega) p5 p6).mono ?_
    rintro e3 w3 ⟨rfl, hL3, hO3⟩
    go_wp2
    go_ret
    refine ⟨rfl, N, put_end (fr := 0) (q := q.filter (·.2)) (ring := ring') (by rw [HK.out, Nat.zero_add]; exact hL3) hR2 (by rw [HK.out]; exact hlt) (good_filter hG) (by rw [live_filter]; exact HP.out) HN.out hn hfull, .inr (by omega), Only.trans (S := [b, rb]) ?_ hO3 (by simp)⟩
    repeat (first | with_reducible refine Only.setCell ?_ (by first | (left; simp; done) | (right; simp; done) | (right; show _ ≤ N; omega)) _ | with_reducible refine Only.drewN ?_ _)
    exact Only.trans (S := [b, rb]) (S' := [b]) (Only.drewN (Only.trans (S' := []) ((Only.refl _ _).alloc _) (only_of_below hb1) (by simp)) _) hO2 (by simp)

/-- Put, where it takes the packet. -/
theorem put_ok (b rb room : Nat) (last n t s : Int) (e f c : Bool) (ps : List Pk) (w : World) (hL : IsLog w b rb room last ps) (h : (Pk.mk n t s e f c).may) (hn : last < n) (hfull : ps.length < room) :
    Calls Try.prog 11 #[.pointer (some ⟨b, 0, none⟩), .agg #[.int .i64 n, .int .i64 t, .int .i64 s, .bool e, .bool f, .bool c]] w (PutPost w b rb room (Pk.mk n t s e f c) ps) := by
  obtain ⟨m, fr, ring, q, hC, hR, hG, hp⟩ := hL
  rcases Nat.lt_or_ge q.length m with hl | hl
  · exact put_ok1 b rb room last n t s e f c ps w m fr ring q hC hR hG hp h hn hfull hl
  · exact put_ok2 b rb room last n t s e f c ps w m fr ring q hC hR hG hp h hn hfull (Nat.le_antisymm hR.long hl)
end Go.Proofs.Ytcigkggdcogokaa
