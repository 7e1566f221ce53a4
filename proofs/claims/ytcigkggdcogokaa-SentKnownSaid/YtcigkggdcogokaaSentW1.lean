/-
  The packets' log: walks of the small functions (none, at, the search, the totals, may).
-/
import Derived.Test.YtcigkggdcogokaaSentRep
import Derived.Test.YtcigkggdcogokaaRows
import Derived.Deep.LoopGhost
namespace Go.Proofs.Ytcigkggdcogokaa
open Go.RowKit

/-- A log, as it lies in memory: its block b, its ring's block rb, of capacity cap, with rest behind the ring. -/
structure LogD (w : World) (b rb m cap : Nat) (rest : List Value) (room : Nat) (last : Int) (fr long many : Nat) (fl el : Int) (ring : List Sl) : Prop where
  blk : Blk w b 62 #[.int .i64 room, .int .i64 last, .slice (some ⟨rb, 0, none⟩) m cap, .int .i64 fr, .int .i64 long, .int .i64 many, .int .i64 fl, .int .i64 el]
  rng : Blk w rb 65 (ring.flatMap slCells ++ rest).toArray
  m2 : m = 2 * room
  r1 : 1 ≤ room
  r2 : room ≤ 256
def LogC (w : World) (b rb m room : Nat) (last : Int) (fr long many : Nat) (fl el : Int) (ring : List Sl) : Prop := ∃ cap rest, LogD w b rb m cap rest room last fr long many fl el ring

theorem slot_cells {w : World} {g t k : Nat} {r : List Sl} {rest : List Value} {s : Sl} (h : Blk w g t (r.flatMap slCells ++ rest).toArray) (hs : r[k]? = some s) :
    w.cell? ⟨g, k * 7, none⟩ = some (.int .i64 s.1.num) ∧ w.cell? ⟨g, k * 7 + 1, none⟩ = some (.int .i64 s.1.time) ∧ w.cell? ⟨g, k * 7 + 2, none⟩ = some (.int .i64 s.1.size) ∧
    w.cell? ⟨g, k * 7 + 3, none⟩ = some (.bool s.1.el) ∧ w.cell? ⟨g, k * 7 + 4, none⟩ = some (.bool s.1.fl) ∧ w.cell? ⟨g, k * 7 + 5, none⟩ = some (.bool s.1.ect) ∧ w.cell? ⟨g, k * 7 + 6, none⟩ = some (.bool s.2) := by
  have hk : k < r.length := (List.getElem?_eq_some_iff.1 hs).1
  have hl := flat_length slCells 7 slCells_length r
  have H : ∀ j, j < 7 → w.cell? ⟨g, k * 7 + j, none⟩ = (slCells s)[j]? := fun j hj => by
    rw [h.cell, List.getElem?_toArray, List.getElem?_append_left (by rw [hl]; omega), flat_cell slCells 7 slCells_length r k j hj, hs]; rfl
  exact ⟨H 0 (by omega), H 1 (by omega), H 2 (by omega), H 3 (by omega), H 4 (by omega), H 5 (by omega), H 6 (by omega)⟩

section
variable {w w' : World} {b rb m room : Nat} {last : Int} {fr long many : Nat} {fl el : Int} {ring : List Sl}
noncomputable def LogC.cap (h : LogC w b rb m room last fr long many fl el ring) : Nat := Classical.choose h
noncomputable def LogC.rest (h : LogC w b rb m room last fr long many fl el ring) : List Value := Classical.choose (Classical.choose_spec h)
theorem LogC.d (h : LogC w b rb m room last fr long many fl el ring) : LogD w b rb m h.cap h.rest room last fr long many fl el ring := Classical.choose_spec (Classical.choose_spec h)
theorem LogC.blk (h : LogC w b rb m room last fr long many fl el ring) : Blk w b 62 #[.int .i64 room, .int .i64 last, .slice (some ⟨rb, 0, none⟩) m h.cap, .int .i64 fr, .int .i64 long, .int .i64 many, .int .i64 fl, .int .i64 el] := h.d.blk
theorem LogC.rng (h : LogC w b rb m room last fr long many fl el ring) : Blk w rb 65 (ring.flatMap slCells ++ h.rest).toArray := h.d.rng
theorem LogC.m2 (h : LogC w b rb m room last fr long many fl el ring) : m = 2 * room := h.d.m2
theorem LogC.r1 (h : LogC w b rb m room last fr long many fl el ring) : 1 ≤ room := h.d.r1
theorem LogC.r2 (h : LogC w b rb m room last fr long many fl el ring) : room ≤ 256 := h.d.r2
theorem LogC.ne (h : LogC w b rb m room last fr long many fl el ring) : b ≠ rb := by
  rintro rfl
  have h1 := h.blk
  have h2 := h.rng
  unfold Blk at h1 h2
  rw [h1] at h2
  injection h2 with h2
  injection h2 with _ h2
  cases h2
theorem LogC.cell (h : LogC w b rb m room last fr long many fl el ring) (i : Nat) :
    w.cell? ⟨b, i, none⟩ = #[.int .i64 room, .int .i64 last, .slice (some ⟨rb, 0, none⟩) m h.cap, .int .i64 fr, .int .i64 long, .int .i64 many, .int .i64 fl, .int .i64 el][i]? := h.blk.cell i
theorem LogC.slot (h : LogC w b rb m room last fr long many fl el ring) {k : Nat} {s : Sl} (hs : ring[k]? = some s) :
    w.cell? ⟨rb, k * 7, none⟩ = some (.int .i64 s.1.num) ∧ w.cell? ⟨rb, k * 7 + 1, none⟩ = some (.int .i64 s.1.time) ∧ w.cell? ⟨rb, k * 7 + 2, none⟩ = some (.int .i64 s.1.size) ∧
    w.cell? ⟨rb, k * 7 + 3, none⟩ = some (.bool s.1.el) ∧ w.cell? ⟨rb, k * 7 + 4, none⟩ = some (.bool s.1.fl) ∧ w.cell? ⟨rb, k * 7 + 5, none⟩ = some (.bool s.1.ect) ∧ w.cell? ⟨rb, k * 7 + 6, none⟩ = some (.bool s.2) := slot_cells h.rng hs
theorem LogC.drewN (h : LogC w b rb m room last fr long many fl el ring) (n : Nat) : LogC (w.drewN n) b rb m room last fr long many fl el ring := ⟨_, _, h.blk, h.rng, h.m2, h.r1, h.r2⟩
theorem LogC.drew (h : LogC w b rb m room last fr long many fl el ring) : LogC w.drew b rb m room last fr long many fl el ring := h.drewN 1
theorem LogC.alloc (h : LogC w b rb m room last fr long many fl el ring) (o : Obj) : LogC (w.alloc o) b rb m room last fr long many fl el ring := ⟨_, _, h.blk.alloc o, h.rng.alloc o, h.m2, h.r1, h.r2⟩
theorem LogC.only {S : List Nat} (h : LogC w b rb m room last fr long many fl el ring) (ho : Only S w w') (hb : b ∉ S) (hr : rb ∉ S) : LogC w' b rb m room last fr long many fl el ring :=
  ⟨_, _, ho.blk h.blk hb, ho.blk h.rng hr, h.m2, h.r1, h.r2⟩
theorem LogC.below (h : LogC w b rb m room last fr long many fl el ring) (ho : Below w.heap.size w w') : LogC w' b rb m room last fr long many fl el ring :=
  h.only (S := []) (only_of_below ho) (by simp) (by simp)
theorem LogC.far (h : LogC w b rb m room last fr long many fl el ring) {p : Addr} (hb : b ≠ p.block) (hr : rb ≠ p.block) (u : Value) : LogC (w.setCell p u) b rb m room last fr long many fl el ring :=
  ⟨_, _, h.blk.far hb u, h.rng.far hr u, h.m2, h.r1, h.r2⟩
theorem LogC.setLast (h : LogC w b rb m room last fr long many fl el ring) (x : Int) : LogC (w.setCell ⟨b, 1, none⟩ (.int .i64 x)) b rb m room x fr long many fl el ring :=
  ⟨h.cap, h.rest, (h.blk.set 1 _).eq (by simp), h.rng.far h.ne.symm _, h.m2, h.r1, h.r2⟩
theorem LogC.setFrom (h : LogC w b rb m room last fr long many fl el ring) {x : Int} {k : Nat} (e : x = (k : Int)) : LogC (w.setCell ⟨b, 3, none⟩ (.int .i64 x)) b rb m room last k long many fl el ring :=
  ⟨h.cap, h.rest, (h.blk.set 3 _).eq (by simp [e]), h.rng.far h.ne.symm _, h.m2, h.r1, h.r2⟩
theorem LogC.setLong (h : LogC w b rb m room last fr long many fl el ring) {x : Int} {k : Nat} (e : x = (k : Int)) : LogC (w.setCell ⟨b, 4, none⟩ (.int .i64 x)) b rb m room last fr k many fl el ring :=
  ⟨h.cap, h.rest, (h.blk.set 4 _).eq (by simp [e]), h.rng.far h.ne.symm _, h.m2, h.r1, h.r2⟩
theorem LogC.setMany (h : LogC w b rb m room last fr long many fl el ring) {x : Int} {k : Nat} (e : x = (k : Int)) : LogC (w.setCell ⟨b, 5, none⟩ (.int .i64 x)) b rb m room last fr long k fl el ring :=
  ⟨h.cap, h.rest, (h.blk.set 5 _).eq (by simp [e]), h.rng.far h.ne.symm _, h.m2, h.r1, h.r2⟩
theorem LogC.setFlight (h : LogC w b rb m room last fr long many fl el ring) (x : Int) : LogC (w.setCell ⟨b, 6, none⟩ (.int .i64 x)) b rb m room last fr long many x el ring :=
  ⟨h.cap, h.rest, (h.blk.set 6 _).eq (by simp), h.rng.far h.ne.symm _, h.m2, h.r1, h.r2⟩
theorem LogC.setElic (h : LogC w b rb m room last fr long many fl el ring) (x : Int) : LogC (w.setCell ⟨b, 7, none⟩ (.int .i64 x)) b rb m room last fr long many fl x ring :=
  ⟨h.cap, h.rest, (h.blk.set 7 _).eq (by simp), h.rng.far h.ne.symm _, h.m2, h.r1, h.r2⟩
end

theorem none_nil (w : World) : Calls Try.prog 33 #[.pointer none] w fun e w' => e = .returned (.bool true) ∧ w = w' := by
  go_enter Try.func33, Try.ntmps33
  go_wp2
  go_ret
  exact ⟨rfl, rfl⟩
theorem none_zero (b : Nat) (w : World) (h : w.cell? ⟨b, 0, none⟩ = some (.int .i64 0)) :
    Calls Try.prog 33 #[.pointer (some ⟨b, 0, none⟩)] w fun e w' => e = .returned (.bool true) ∧ w = w' := by
  go_enter Try.func33, Try.ntmps33
  go_wp2
  go_ret
  exact ⟨rfl, rfl⟩
theorem none_no (b room : Nat) (w : World) (h : w.cell? ⟨b, 0, none⟩ = some (.int .i64 room)) (h1 : 1 ≤ room) :
    Calls Try.prog 33 #[.pointer (some ⟨b, 0, none⟩)] w fun e w' => e = .returned (.bool false) ∧ w = w' := by
  have h2 : ((room : Int) == 0) = false := by rw [beq_eq_false_iff_ne]; omega
  go_enter Try.func33, Try.ntmps33
  go_wp2
  go_ret
  exact ⟨rfl, rfl⟩

set_option maxHeartbeats 400000 in
theorem at_any (b rb m fr i : Nat) {cap : Nat} (w : World) (h2 : w.cell? ⟨b, 2, none⟩ = some (.slice (some ⟨rb, 0, none⟩) m cap)) (h3 : w.cell? ⟨b, 3, none⟩ = some (.int .i64 fr))
    (hm : 1 ≤ m) (hm2 : m ≤ 512) (hfr : fr ≤ 512) (hi : i ≤ 512) :
    Calls Try.prog 36 #[.pointer (some ⟨b, 0, none⟩), .int .i64 i] w fun e w' => e = .returned (.pointer (some ⟨rb, (fr + i) % m * 7, none⟩)) ∧ ∃ n, w' = w.drewN n := by
  obtain ⟨H1, H2⟩ := emod_bounds fr i m hm
  go_enter Try.func36, Try.ntmps36
  go_wp2
  go_quiet (fail)
  go_wp2
  go_ret
  exact ⟨rfl, _, rfl⟩

set_option maxHeartbeats 400000 in
theorem find1_any (a1 a2 : Addr) (b rb m fr i : Nat) {cap : Nat} (n x : Int) (w : World) (ha : w.cell? a1 = some (.pointer (some ⟨b, 0, none⟩))) (hn : w.cell? a2 = some (.int .i64 n))
    (h2 : w.cell? ⟨b, 2, none⟩ = some (.slice (some ⟨rb, 0, none⟩) m cap)) (h3 : w.cell? ⟨b, 3, none⟩ = some (.int .i64 fr))
    (hm : 1 ≤ m) (hm2 : m ≤ 512) (hfr : fr ≤ 512) (hi : i ≤ 512) (hc : w.cell? ⟨rb, (fr + i) % m * 7, none⟩ = some (.int .i64 x)) :
    Calls Try.prog 57 #[.int .i64 i, .pointer (some a1), .pointer (some a2)] w fun e w' => e = .returned (.bool (decide (n ≤ x))) ∧ ∃ n, w' = w.drewN n := by
  go_enter Try.func57, Try.ntmps57
  go_wp2
  go_quiet ((go_at_call 36; exact Calls.quiet_of (at_any b rb m fr i _ h2 h3 hm hm2 hfr hi)))
  go_wp2
  go_ret
  exact ⟨rfl, _, rfl⟩
end Go.Proofs.Ytcigkggdcogokaa
