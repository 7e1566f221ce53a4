/-
  The packets' log: Copy.
-/
import Derived.Test.YtcigkggdcogokaaSentEach
import Derived.Test.YtcigkggdcogokaaSentDrop
namespace Go.Proofs.Ytcigkggdcogokaa
open Go.RowKit

/-- What slices.Clone leaves of a ring. -/
def ClonePost (w : World) (m : Nat) (xs : List Value) (e : Ending) (w' : World) : Prop := ∃ v, e = .returned v ∧ w'.ownsRow w.heap.size 65 7 v m xs ∧ Below w.heap.size w w'

theorem sl_one {r : List Sl} : ∀ u ∈ r.flatMap slCells, u.oneCell' = true := by
  intro u hu
  obtain ⟨s, _, hs⟩ := List.mem_flatMap.1 hu
  simp [slCells] at hs
  rcases hs with h | h | h | h | h | h | h <;> subst h <;> rfl

set_option maxHeartbeats 1000000 in
theorem clone_any (rb m cap : Nat) (ring : List Sl) (rest : List Value) (w : World) (h : Blk w rb 65 (ring.flatMap slCells ++ rest).toArray) (hl : ring.length = m) (hm : m ≤ 512) :
    Calls Try.prog 49 #[.slice (some ⟨rb, 0, none⟩) m cap] w (ClonePost w m (ring.flatMap slCells)) := by
  have hrb := h.lt
  obtain ⟨i0, hi, hz0, hz1, hz2⟩ := info_parts slot_info
  have hfl := flat_length slCells 7 slCells_length ring
  have hR : Reads w w.heap.size 7 (some ⟨rb, 0, none⟩) m (ring.flatMap slCells) := ⟨by rw [hfl, hl], fun _ => ⟨_, rfl, hrb, fun j u hu => by
    rw [add_at, h.cell, List.getElem?_toArray, List.getElem?_append_left (List.getElem?_eq_some_iff.1 hu).1]; exact hu⟩⟩
  have HR := hide hR
  have HL := hide hl
  clear hR hl hfl
  have hnil := fun (W : World) => Lib.run_eql_slice_nil (P := Try.prog) W 60 65 (some ⟨rb, 0, none⟩) m cap 0 0 Try.underlying60
  go_enter Try.func49, Try.ntmps49
  go_wp2_with (at_builtin; refine wpList_append_any _ rfl (.tmp 5) (.tmp 6) _ rfl w.heap.size 65 i0 _ 7 40 Try.underlying60 hi hz0 hz1 hz2 rfl (by decide) (.slice (some ⟨w.heap.size, 0, none⟩) 0 0) 0 [] rfl (by exact World.ownsRow_lit w #[] 0 (Nat.le_refl _) (by decide) rfl) w.heap.size (some ⟨rb, 0, none⟩) m cap (ring.flatMap slCells) rfl (by exact HR.out.alloc (Nat.le_refl _) _) sl_one (by unfold maxLen; omega) (by omega) (by simp) ?_; intro v' w1 hown1 hg1 hat1)
  go_ret
  refine ⟨v', rfl, by simpa using hown1, ((Below.refl _ _).alloc (Nat.le_refl _) _).trans (Below.grown (Below.refl _ _) hg1 (by simp) (fun k hk => by simp [Value.ownBlock] at hk; omega))⟩

/-- What Copy leaves. -/
def CopyPost (w : World) (room : Nat) (last : Int) (ps : List Pk) (e : Ending) (w' : World) : Prop :=
  ∃ b' rb', e = .returned (.pointer (some ⟨b', 0, none⟩)) ∧ IsLog w' b' rb' room last ps ∧ w.heap.size ≤ b' ∧ w.heap.size ≤ rb' ∧ Below w.heap.size w w'

set_option maxHeartbeats 1000000 in
theorem copy_any (b rb room : Nat) (last : Int) (ps : List Pk) (w : World) (hL : IsLog w b rb room last ps) :
    Calls Try.prog 28 #[.pointer (some ⟨b, 0, none⟩)] w (CopyPost w room last ps) := by
  obtain ⟨m, fr, ring, q, hC, hR, hG, hp⟩ := hL
  have hb := hC.blk.lt
  have hrb := hC.rng.lt
  have hr1 := hC.r1
  have hr2 := hC.r2
  have hm2 := hC.m2
  have c0 : w.cell? ⟨b, 0, none⟩ = some (.int .i64 room) := hC.cell 0
  have c1 : w.cell? ⟨b, 1, none⟩ = some (.int .i64 last) := hC.cell 1
  have c2 : w.cell? ⟨b, 2, none⟩ = some (.slice (some ⟨rb, 0, none⟩) m hC.cap) := hC.cell 2
  have c3 : w.cell? ⟨b, 3, none⟩ = some (.int .i64 fr) := hC.cell 3
  have c4 : w.cell? ⟨b, 4, none⟩ = some (.int .i64 q.length) := hC.cell 4
  have c5 : w.cell? ⟨b, 5, none⟩ = some (.int .i64 ps.length) := hC.cell 5
  have c6 : w.cell? ⟨b, 6, none⟩ = some (.int .i64 (flightOf ps)) := hC.cell 6
  have c7 : w.cell? ⟨b, 7, none⟩ = some (.int .i64 (elicOf ps)) := hC.cell 7
  have HK := hide (fun (t : TypeId) (cs : Array Value) => clone_any rb m hC.cap ring hC.rest (w.alloc (.cells cs t)) (hC.rng.alloc _) hR.len (by omega))
  have HP := hide hp
  have HM := hide hm2
  have hm1 : 1 ≤ m := by omega
  clear hp hm2
  go_enter Try.func28, Try.ntmps28
  go_wp2_with (first | (go_at_call 33; refine (none_no b room _ (hC.cell 0) hr1).mono ?_; rintro e1 w1 ⟨rfl, rfl⟩) | (go_at_call 49; refine (HK.out _ _).mono ?_; rintro e1 w1 ⟨v, rfl, hown1, hb1⟩; obtain ⟨g, cap', rest', rfl, hg, hcap, hBg⟩ := own_blk hown1 hm1; have hB1 := (only_of_below hb1 (S := [])).blk (Blk.new w _ _) (by simp); have d2 : w1.cell? ⟨w.heap.size, 2, none⟩ = some (.slice (some ⟨rb, 0, none⟩) m hC.cap) := hB1.cell 2; have df := hB1.frozen))
  go_ret
  simp only [World.size_alloc] at hg
  refine ⟨w.heap.size, g, rfl, ⟨m, fr, ring, q, ⟨cap', rest', (hB1.set 2 _).eq (by simp), hBg.far (by simp; omega) _, HM.out, hr1, hr2⟩, hR, hG, HP.out⟩, Nat.le_refl _, by omega, (((Below.refl _ _).alloc (Nat.le_refl _) _).trans (hb1.mono (by simp))).setCell (by simp) _⟩
end Go.Proofs.Ytcigkggdcogokaa
