/-
  The packets' log: 'pack', which lets places without a packet be gone.
-/
import Derived.Test.YtcigkggdcogokaaSentW3
import Derived.Laws.MakeOwn
namespace Go.Proofs.Ytcigkggdcogokaa
open Go.RowKit

def zeroSl : Sl := (Pk.zero, false)
theorem made_slots (m : Nat) : madeCells #[.int .i64 0, .int .i64 0, .int .i64 0, .bool false, .bool false, .bool false, .bool false] (m * 7) = ((List.replicate m zeroSl).flatMap slCells).toArray := by
  refine Array.ext_getElem? fun i => ?_
  have hR : (((List.replicate m zeroSl).flatMap slCells).toArray)[i]? = ((List.replicate m zeroSl).flatMap slCells)[i]? := List.getElem?_toArray
  rw [hR]
  by_cases hi : i < m * 7
  · have e : i = (i / 7) * 7 + i % 7 := by omega
    have hc := flat_cell slCells 7 slCells_length (List.replicate m zeroSl) (i / 7) (i % 7) (by omega)
    rw [← e, List.getElem?_replicate, if_pos (by omega)] at hc
    rw [hc]
    have h7 : i % 7 = 0 ∨ i % 7 = 1 ∨ i % 7 = 2 ∨ i % 7 = 3 ∨ i % 7 = 4 ∨ i % 7 = 5 ∨ i % 7 = 6 := by omega
    rcases h7 with h | h | h | h | h | h | h <;> simp [madeCells, hi, h, slCells, zeroSl, Pk.zero]
  · rw [Array.getElem?_eq_none (by rw [size_madeCells]; omega), List.getElem?_eq_none (by rw [flat_length slCells 7 slCells_length, List.length_replicate]; omega)]

/-- What is put so far, and places that are not used yet. -/
def packed (m : Nat) (q : List Sl) (k : Nat) : List Sl := (q.take k).filter (·.2) ++ List.replicate (m - ((q.take k).filter (·.2)).length) zeroSl
theorem packed_length {m : Nat} {q : List Sl} (k : Nat) (h : q.length ≤ m) : (packed m q k).length = m := by
  have : ((q.take k).filter (·.2)).length ≤ (q.take k).length := List.length_filter_le _ _
  have : (q.take k).length ≤ q.length := List.length_take_le' _ _
  simp only [packed, List.length_append, List.length_replicate]
  omega
theorem take_skip {q : List Sl} {k : Nat} {s : Sl} (h : q[k]? = some s) (hs : s.2 = false) : (q.take (k + 1)).filter (·.2) = (q.take k).filter (·.2) := by
  rw [List.take_add_one, h]; simp [hs]
theorem take_keep {q : List Sl} {k : Nat} {s : Sl} (h : q[k]? = some s) (hs : s.2 = true) : (q.take (k + 1)).filter (·.2) = (q.take k).filter (·.2) ++ [s] := by
  rw [List.take_add_one, h]; simp [hs]
theorem packed_skip {m : Nat} {q : List Sl} {k : Nat} {s : Sl} (h : q[k]? = some s) (hs : s.2 = false) : packed m q (k + 1) = packed m q k := by
  unfold packed; rw [take_skip h hs]
theorem packed_keep {m : Nat} {q : List Sl} {k : Nat} {s : Sl} (hm : q.length ≤ m) (h : q[k]? = some s) (hs : s.2 = true) :
    packed m q (k + 1) = (packed m q k).set ((q.take k).filter (·.2)).length s := by
  have hk : k < q.length := (List.getElem?_eq_some_iff.1 h).1
  have h1 : ((q.take k).filter (·.2)).length ≤ (q.take k).length := List.length_filter_le _ _
  have h2 : (q.take k).length ≤ k := List.length_take_le _ _
  unfold packed
  rw [take_keep h hs, List.set_append_right _ _ (Nat.le_refl _), Nat.sub_self, List.append_assoc]
  congr 1
  rw [List.length_append, List.length_singleton]
  obtain ⟨d, hd⟩ : ∃ d, m - ((q.take k).filter (·.2)).length = d + 1 := ⟨m - ((q.take k).filter (·.2)).length - 1, by omega⟩
  rw [show m - (((q.take k).filter (·.2)).length + 1) = d by omega, hd, List.replicate_succ]
  simp

/-- Seven stores lay a place whole. -/
theorem blk_slot {w : World} {g t k : Nat} {r : List Sl} {rest : List Value} {s : Sl} (h : Blk w g t (r.flatMap slCells ++ rest).toArray) (hk : k < r.length) :
    Blk (((((((w.setCell ⟨g, k * 7, none⟩ (.int .i64 s.1.num)).setCell ⟨g, k * 7 + 1, none⟩ (.int .i64 s.1.time)).setCell ⟨g, k * 7 + 2, none⟩ (.int .i64 s.1.size)).setCell ⟨g, k * 7 + 3, none⟩ (.bool s.1.el)).setCell ⟨g, k * 7 + 4, none⟩ (.bool s.1.fl)).setCell ⟨g, k * 7 + 5, none⟩ (.bool s.1.ect)).setCell ⟨g, k * 7 + 6, none⟩ (.bool s.2)) g t ((r.set k s).flatMap slCells ++ rest).toArray := by
  have hl : ∀ r : List Sl, (r.flatMap slCells).length = r.length * 7 := flat_length slCells 7 slCells_length
  obtain ⟨⟨n, ti, si, e, f, c⟩, th⟩ := s
  have hr : r[k]? = some r[k] := List.getElem?_eq_getElem hk
  obtain ⟨⟨⟨n0, t0, s0, e0, f0, c0⟩, h0⟩, hx⟩ : ∃ x, r[k] = x := ⟨_, rfl⟩
  rw [hx] at hr
  refine Blk.eq (((((((h.set _ _).set _ _).set _ _).set _ _).set _ _).set _ _).set _ _) ?_
  simp only [List.setIfInBounds_toArray]
  congr 1
  have hs : ∀ (l : List Sl) (j : Nat) (u : Value), l.length = r.length → j < 7 → (l.flatMap slCells ++ rest).set (k * 7 + j) u = (l.flatMap slCells).set (k * 7 + j) u ++ rest := fun l j u h1 h2 =>
    List.set_append_left _ _ (by rw [hl]; omega)
  have E0 := flat_set slCells 7 slCells_length r k 0 ((⟨n0, t0, s0, e0, f0, c0⟩, h0) : Sl) (⟨n, t0, s0, e0, f0, c0⟩, h0) (.int .i64 n) (by omega) hr rfl
  rw [Nat.add_zero] at E0
  have S0 := hs r 0 (.int .i64 n) rfl (by omega)
  rw [Nat.add_zero] at S0
  rw [S0, E0]
  rw [hs _ 1 _ (by simp) (by omega), flat_set slCells 7 slCells_length _ k 1 ((⟨n, t0, s0, e0, f0, c0⟩, h0) : Sl) (⟨n, ti, s0, e0, f0, c0⟩, h0) _ (by omega) (by rw [List.getElem?_set_self hk]) rfl, List.set_set]
  rw [hs _ 2 _ (by simp) (by omega), flat_set slCells 7 slCells_length _ k 2 ((⟨n, ti, s0, e0, f0, c0⟩, h0) : Sl) (⟨n, ti, si, e0, f0, c0⟩, h0) _ (by omega) (by rw [List.getElem?_set_self hk]) rfl, List.set_set]
  rw [hs _ 3 _ (by simp) (by omega), flat_set slCells 7 slCells_length _ k 3 ((⟨n, ti, si, e0, f0, c0⟩, h0) : Sl) (⟨n, ti, si, e, f0, c0⟩, h0) _ (by omega) (by rw [List.getElem?_set_self hk]) rfl, List.set_set]
  rw [hs _ 4 _ (by simp) (by omega), flat_set slCells 7 slCells_length _ k 4 ((⟨n, ti, si, e, f0, c0⟩, h0) : Sl) (⟨n, ti, si, e, f, c0⟩, h0) _ (by omega) (by rw [List.getElem?_set_self hk]) rfl, List.set_set]
  rw [hs _ 5 _ (by simp) (by omega), flat_set slCells 7 slCells_length _ k 5 ((⟨n, ti, si, e, f, c0⟩, h0) : Sl) (⟨n, ti, si, e, f, c⟩, h0) _ (by omega) (by rw [List.getElem?_set_self hk]) rfl, List.set_set]
  rw [hs _ 6 _ (by simp) (by omega), flat_set slCells 7 slCells_length _ k 6 ((⟨n, ti, si, e, f, c⟩, h0) : Sl) (⟨n, ti, si, e, f, c⟩, th) _ (by omega) (by rw [List.getElem?_set_self hk]) rfl, List.set_set]

theorem LogC.setSlot {w : World} {b rb m room : Nat} {last : Int} {fr long many : Nat} {fl el : Int} {ring : List Sl} (h : LogC w b rb m room last fr long many fl el ring) {k : Nat} (hk : k < ring.length) (s : Sl) :
    LogC (((((((w.setCell ⟨rb, k * 7, none⟩ (.int .i64 s.1.num)).setCell ⟨rb, k * 7 + 1, none⟩ (.int .i64 s.1.time)).setCell ⟨rb, k * 7 + 2, none⟩ (.int .i64 s.1.size)).setCell ⟨rb, k * 7 + 3, none⟩ (.bool s.1.el)).setCell ⟨rb, k * 7 + 4, none⟩ (.bool s.1.fl)).setCell ⟨rb, k * 7 + 5, none⟩ (.bool s.1.ect)).setCell ⟨rb, k * 7 + 6, none⟩ (.bool s.2)) b rb m room last fr long many fl el (ring.set k s) :=
  ⟨_, _, ((((((h.blk.far h.ne _).far h.ne _).far h.ne _).far h.ne _).far h.ne _).far h.ne _).far h.ne _, blk_slot h.rng hk, h.m2, h.r1, h.r2⟩

theorem slot_info : (Try.prog.info? 65).map (fun i => (i.zero, i.size, i.bytes)) = some (some (.agg #[.int .i64 0, .int .i64 0, .int .i64 0, .bool false, .bool false, .bool false, .bool false]), 7, 40) := by kernel_rfl

theorem LogC.newRing {w : World} {b rb m room : Nat} {last : Int} {fr long many : Nat} {fl el : Int} {ring ring' : List Sl} (h : LogC w b rb m room last fr long many fl el ring) {N k : Nat} {x : Int} (hN : Blk w N 65 (ring'.flatMap slCells ++ []).toArray) (e : x = (k : Int)) :
    LogC (((w.setCell ⟨b, 2, none⟩ (.slice (some ⟨N, 0, none⟩) m m)).setCell ⟨b, 3, none⟩ (.int .i64 0)).setCell ⟨b, 4, none⟩ (.int .i64 x)) b N m room last 0 k many fl el ring' := by
  have hne : N ≠ b := by
    rintro rfl
    have h1 := h.blk
    unfold Blk at h1 hN
    rw [h1] at hN
    injection hN with hN
    injection hN with _ hN
    cases hN
  exact ⟨m, [], (((h.blk.set 2 _).set 3 _).set 4 _).eq (by simp [e]), ((hN.far hne _).far hne _).far hne _, h.m2, h.r1, h.r2⟩

/-- What 'pack' leaves. -/
def PackPost (w : World) (b m room : Nat) (last : Int) (many : Nat) (fl el : Int) (q : List Sl) (e : Ending) (w' : World) : Prop :=
  e = .returned (.tuple #[]) ∧ ∃ ring', LogC w' b w.heap.size m room last 0 (q.filter (·.2)).length many fl el ring' ∧ Ring m 0 ring' (q.filter (·.2)) ∧ Only [b] w w'

set_option maxHeartbeats 2000000 in
theorem pack_any {w : World} {b rb m room : Nat} {last : Int} {fr many : Nat} {fl el : Int} {ring q : List Sl} (hL : LogC w b rb m room last fr q.length many fl el ring) (hr : Ring m fr ring q) :
    Calls Try.prog 35 #[.pointer (some ⟨b, 0, none⟩)] w (PackPost w b m room last many fl el q) := by
  have hb := hL.blk.lt
  have hrb := hL.rng.lt
  have hm := hL.m2
  have hr1 := hL.r1
  have hr2 := hL.r2
  have hq := hr.long
  have hf := hr.frm
  obtain ⟨i0, hi, hz0, hz1, hz2⟩ := info_parts slot_info
  have hmk := fun W => make_rows (P := Try.prog) 60 65 i0 _ 7 40 Try.underlying60 hi hz0 hz1 hz2 m (by omega) (by omega) W
  have H2 : w.cell? ⟨b, 2, none⟩ = some (.slice (some ⟨rb, 0, none⟩) m hL.cap) := hL.cell 2
  have H4 : w.cell? ⟨b, 4, none⟩ = some (.int .i64 q.length) := hL.cell 4
  have HM := hide hm
  clear hm hi hz0 hz1 hz2
  have hm1 : 1 ≤ m := by have := HM.out; omega
  have hm2 : m ≤ 512 := by have := HM.out; omega
  go_enter Try.func35, Try.ntmps35
  go_wp2
  go_loopw [3, 16] (fun t3 t16 wr => ∃ k : Nat, k ≤ q.length ∧ t16 = .int .i64 k ∧ t3 = .int .i64 ((q.take k).filter (·.2)).length ∧ Only [w.heap.size] w wr ∧ Blk wr w.heap.size 65 ((packed m q k).flatMap slCells ++ []).toArray)
    (fun _ i _ => q.length - (intOf i).toNat)
  case atStart =>
    refine ⟨0, Nat.zero_le _, rfl, rfl, (Only.refl _ _).alloc _, ?_⟩
    rw [show packed m q 0 = List.replicate m zeroSl by simp [packed], List.append_nil, ← made_slots]
    exact Blk.new _ _ _
  case round =>
    obtain ⟨k, hk, rfl, rfl, hO, hN⟩ := hrel
    have hLw := hL.only hO (by simp; omega) (by simp; omega)
    have c2 : wr.cell? ⟨b, 2, none⟩ = some (.slice (some ⟨rb, 0, none⟩) m hLw.cap) := hLw.cell 2
    have c3 : wr.cell? ⟨b, 3, none⟩ = some (.int .i64 fr) := hLw.cell 3
    have hpl := packed_length (m := m) (q := q) k hq
    have htl : ((q.take k).filter (·.2)).length ≤ k := Nat.le_trans (List.length_filter_le _ _) (List.length_take_le _ _)
    by_cases hlt : k < q.length
    · have hs : q[k]? = some q[k] := List.getElem?_eq_getElem hlt
      have hat := hr.at_ k hlt
      rw [hs] at hat
      obtain ⟨s, hsx⟩ : ∃ s, q[k] = s := ⟨_, rfl⟩
      rw [hsx] at hs hat
      obtain ⟨s0, s1, s2, s3, s4, s5, s6⟩ := hLw.slot hat
      cases hth : s.2
      · have e1 := packed_skip (m := m) hs hth
        have e2 := congrArg List.length (take_skip hs hth)
        rw [hth] at s6
        have E1 := hide e1
        have E2 := hide e2
        clear e1 e2 hs hat hsx hth
        go_wp2_with (go_at_call 36; refine (at_any b rb m fr k _ c2 c3 (by omega) (by omega) (by omega) (by omega)).mono ?_; rintro e w1 ⟨rfl, nq, rfl⟩)
        go_roundw
        case rel => exact ⟨k + 1, by omega, by go_num, by rw [E2.out], hO.drewN _, by rw [E1.out]; exact hN.drewN _⟩
        case measure => simp [intOf]; omega
      · have e1 := packed_keep (m := m) hq hs hth
        have e2 : ((q.take (k + 1)).filter (·.2)).length = ((q.take k).filter (·.2)).length + 1 := by rw [take_keep hs hth]; simp
        rw [hth] at s6
        obtain ⟨to, hto⟩ : ∃ to, to = ((q.take k).filter (·.2)).length := ⟨_, rfl⟩
        rw [← hto] at e1 e2 htl ⊢
        have hz : (packed m q k)[to]? = some zeroSl := by
          unfold packed
          rw [List.getElem?_append_right (by omega), List.getElem?_replicate, if_pos (by omega)]
        obtain ⟨z0, z1, z2, z3, z4, z5, z6⟩ := slot_cells hN hz
        have hfz := hN.frozen
        have hnb := hN.lt
        have hlen : to < (packed m q k).length := by omega
        have E1 := hide e1
        have E2 := hide e2
        have E3 := hide hth
        clear e1 e2 hs hat hsx hz hto hth hpl
        go_wp2_with (go_at_call 36; refine (at_any b rb m fr k _ c2 c3 (by omega) (by omega) (by omega) (by omega)).mono ?_; rintro e w1 ⟨rfl, nq, rfl⟩)
        go_roundw
        case rel =>
          refine ⟨k + 1, by omega, by go_num, ?_, ?_, ?_⟩
          · rw [E2.out]; go_num
          · (repeat (first | with_reducible exact hO | with_reducible refine Only.setCell ?_ (.inl (by simp)) _ | with_reducible refine Only.drewN ?_ _))
          · rw [E1.out]
            have hx := blk_slot (s := s) (hN.drewN nq) hlen
            rw [E3.out] at hx
            exact hx
        case measure => simp [intOf]; omega
    · obtain rfl : k = q.length := by omega
      have hfr := hLw.blk.frozen
      have c4 : wr.cell? ⟨b, 4, none⟩ = some (.int .i64 q.length) := hLw.cell 4
      have e1 : q.take q.length = q := List.take_length
      rw [e1]
      have E1 := hide e1
      clear e1
      go_wp2
      go_end0
      refine ⟨rfl, _, hLw.newRing hN rfl, ⟨packed_length _ hq, ?_, by omega, ?_⟩, ?_⟩
      · have := List.length_filter_le (fun s : Sl => s.2) q; omega
      · intro i hi
        rw [Nat.zero_add, Nat.mod_eq_of_lt (by have := List.length_filter_le (fun s : Sl => s.2) q; omega)]
        unfold packed
        rw [E1.out, List.getElem?_append_left hi]
      · refine Only.mono (S := [w.heap.size, b]) ?_ (by simp)
        refine Only.setCell (Only.setCell (Only.setCell (hO.mono (by simp)) (.inl (by simp)) _) (.inl (by simp)) _) (.inl (by simp)) _
end Go.Proofs.Ytcigkggdcogokaa
