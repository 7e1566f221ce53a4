/-
  The statement SentSums: its walk.
-/
import Derived.Test.YtcigkggdcogokaaSentParts
import Derived.Deep.RegionHeld3
import Derived.Deep.DeepCutAuto
namespace Go.Proofs.Ytcigkggdcogokaa
open Go.RowKit

/-- Rows of what was put, and whether it is there: two slices of the call's own. -/
structure Two (w : World) (B : Nat) (v5 v6 : Value) (q : List Sl) : Prop where
  put : w.ownsRow B 30 6 v5 q.length ((q.map (·.1)).flatMap Pk.cells)
  there : w.ownsRow B 4 1 v6 q.length (q.map fun s => Value.bool s.2)
theorem Two.below {w w' : World} {B : Nat} {v5 v6 : Value} {q : List Sl} (h : Two w B v5 v6 q) (hb : Below w.heap.size w w') : Two w' B v5 v6 q := ⟨own_below h.put hb, own_below h.there hb⟩
theorem Two.only {S : List Nat} {w w' : World} {B : Nat} {v5 v6 : Value} {q : List Sl} (h : Two w B v5 v6 q) (hb : Only S w w') (h5 : ∀ x ∈ S, some x ≠ v5.ownBlock) (h6 : ∀ x ∈ S, some x ≠ v6.ownBlock) : Two w' B v5 v6 q := by
  constructor
  · refine ⟨h.put.1, ?_⟩
    rcases h.put.2 with h0 | ⟨g, cap, cur, hv, hg, hh, r⟩
    · exact .inl h0
    · exact .inr ⟨g, cap, cur, hv, hg, (hb.block g (Array.getElem?_eq_some_iff.1 hh).1 (fun hm => h5 g hm (by rw [hv]; rfl))).trans hh, r⟩
  · refine ⟨h.there.1, ?_⟩
    rcases h.there.2 with h0 | ⟨g, cap, cur, hv, hg, hh, r⟩
    · exact .inl h0
    · exact .inr ⟨g, cap, cur, hv, hg, (hb.block g (Array.getElem?_eq_some_iff.1 hh).1 (fun hm => h6 g hm (by rw [hv]; rfl))).trans hh, r⟩
theorem IsLog.blks {w : World} {b rb room : Nat} {last : Int} {ps : List Pk} (h : IsLog w b rb room last ps) : ∃ c1 c2, Blk w b 62 c1 ∧ Blk w rb 65 c2 := by
  obtain ⟨m, fr, ring, q, hC, hR, hG, hp⟩ := h
  exact ⟨_, _, hC.blk, hC.rng⟩
/-- The log's blocks are none of the two rows'. -/
theorem Two.apart {w : World} {B b rb room : Nat} {last : Int} {ps : List Pk} {v5 v6 : Value} {q : List Sl} (h : Two w B v5 v6 q) (hL : IsLog w b rb room last ps) :
    (∀ x ∈ [b, rb], some x ≠ v5.ownBlock) ∧ (∀ x ∈ [b, rb], some x ≠ v6.ownBlock) := by
  obtain ⟨c1, c2, h1, h2⟩ := hL.blks
  constructor
  · intro x hx
    simp at hx
    rcases hx with rfl | rfl
    · exact own_ne h.put h1 (by decide)
    · exact own_ne h.put h2 (by decide)
  · intro x hx
    simp at hx
    rcases hx with rfl | rfl
    · exact own_ne h.there h1 (by decide)
    · exact own_ne h.there h2 (by decide)
/-- What lies at place k. -/
theorem Two.at_ {w : World} {B : Nat} {v5 v6 : Value} {q : List Sl} (h : Two w B v5 v6 q) (h1 : 1 ≤ q.length) : ∃ g5 c5 g6 c6, v5 = .slice (some ⟨g5, 0, none⟩) q.length c5 ∧ v6 = .slice (some ⟨g6, 0, none⟩) q.length c6 ∧ g5 ≠ g6 ∧
    (∀ i, w.frozen? ⟨g6, i, none⟩ = false) ∧
    ∀ (k : Nat) (s : Sl), q[k]? = some s → (w.cell? ⟨g5, k * 6, none⟩ = some (.int .i64 s.1.num) ∧ w.cell? ⟨g5, k * 6 + 1, none⟩ = some (.int .i64 s.1.time) ∧ w.cell? ⟨g5, k * 6 + 2, none⟩ = some (.int .i64 s.1.size) ∧
    w.cell? ⟨g5, k * 6 + 3, none⟩ = some (.bool s.1.el) ∧ w.cell? ⟨g5, k * 6 + 4, none⟩ = some (.bool s.1.fl) ∧ w.cell? ⟨g5, k * 6 + 5, none⟩ = some (.bool s.1.ect)) ∧ w.cell? ⟨g6, k, none⟩ = some (.bool s.2) := by
  obtain ⟨g5, c5, r5, e5, _, _, b5⟩ := own_blk h.put h1
  obtain ⟨g6, c6, r6, e6, _, _, b6⟩ := own_blk h.there h1
  refine ⟨g5, c5, g6, c6, e5, e6, ?_, b6.frozen, fun k s hs => ⟨?_, ?_⟩⟩
  · rintro rfl
    unfold Blk at b5 b6
    rw [b5] at b6
    injection b6 with b6
    injection b6 with _ b6
    cases b6
  · exact pk_cells b5 (by rw [List.getElem?_map, hs]; rfl)
  · have hk : k < q.length := (List.getElem?_eq_some_iff.1 hs).1
    rw [b6.cell, List.getElem?_toArray, List.getElem?_append_left (by simpa using hk), List.getElem?_map, hs]
    rfl
theorem Two.at2 {w : World} {B g5 g6 c5 c6 : Nat} {v5 v6 : Value} {q : List Sl} (h : Two w B v5 v6 q) {n n' : Nat} (e5 : v5 = .slice (some ⟨g5, 0, none⟩) n c5) (e6 : v6 = .slice (some ⟨g6, 0, none⟩) n' c6) :
    ∀ (k : Nat) (s : Sl), q[k]? = some s → (w.cell? ⟨g5, k * 6, none⟩ = some (.int .i64 s.1.num) ∧ w.cell? ⟨g5, k * 6 + 1, none⟩ = some (.int .i64 s.1.time) ∧ w.cell? ⟨g5, k * 6 + 2, none⟩ = some (.int .i64 s.1.size) ∧
    w.cell? ⟨g5, k * 6 + 3, none⟩ = some (.bool s.1.el) ∧ w.cell? ⟨g5, k * 6 + 4, none⟩ = some (.bool s.1.fl) ∧ w.cell? ⟨g5, k * 6 + 5, none⟩ = some (.bool s.1.ect)) ∧ w.cell? ⟨g6, k, none⟩ = some (.bool s.2) := by
  intro k s hs
  obtain ⟨a5, d5, a6, d6, f5, f6, _, _, hat⟩ := h.at_ (by have := (List.getElem?_eq_some_iff.1 hs).1; omega)
  rw [f5] at e5
  rw [f6] at e6
  cases e5
  cases e6
  exact hat k s hs
/-- What the loop's head holds. -/
structure SumsAt (w wr : World) (b rb k : Nat) (last : Int) (q : List Sl) (v5 v6 : Value) : Prop where
  log : IsLog wr b rb 256 last (liveOf q)
  len : q.length ≤ k
  rb : w.heap.size ≤ rb
  two : Two wr w.heap.size v5 v6 q
  srt : q.Pairwise fun a b => a.1.num < b.1.num
  le : ∀ s ∈ q, s.1.num ≤ last
  kk : k ≤ 120
  lst : last ≤ 5 * k
  bw : Below w.heap.size w wr

theorem find_slot {s : Sl} : ∀ {q : List Sl}, (q.Pairwise fun a b => a.1.num < b.1.num) → s ∈ q → (liveOf q).find? (fun p => p.num == s.1.num) = if s.2 = true then some s.1 else none
  | [], _, h => by simp at h
  | x :: q, hs, h => by
    obtain ⟨h1, h2⟩ := List.pairwise_cons.1 hs
    rw [liveOf_cons]
    rcases List.mem_cons.1 h with rfl | h
    · by_cases hx : s.2 = true
      · rw [if_pos hx, if_pos hx, List.find?_cons]; simp
      · rw [if_neg hx, if_neg hx]
        exact find_none_of_gt fun p hp => by have := h1 _ (mem_live hp); exact this
    · have hlt := h1 s h
      rw [← find_slot h2 h]
      split
      · rw [List.find?_cons]
        have : (x.1.num == s.1.num) = false := by rw [beq_eq_false_iff_ne]; omega
        rw [this]
      · rfl
theorem below_alloc_drew (W : World) (o : Obj) : Below W.heap.size W (W.alloc o).drew := below_drewN ((Below.refl W.heap.size W).alloc (Nat.le_refl _) o) 1
theorem bl_info : (Try.prog.info? 4).map (fun i => (i.zero, i.size, i.bytes)) = some (some (.bool false), 1, 1) := by kernel_rfl
theorem own_apart {w : World} {B1 B2 e e' size size' n n' : Nat} {v u : Value} {xs ys : List Value} (h : w.ownsRow B1 e size v n xs) (k : w.ownsRow B2 e' size' u n' ys) (hne : e' ≠ e) : v.ownBlock = none ∨ v.ownBlock ≠ u.ownBlock := by
  rcases h.2 with ⟨h0, _⟩ | ⟨g, cap, cur, hv, hg, hh, r⟩
  · exact .inl (by rw [h0]; rfl)
  · refine .inr ?_
    have := own_ne k (show Blk w g e cur from hh) hne
    rw [hv]; exact this
theorem SumsAt.dropped {w w7 : World} {b rb k g6 c6 j : Nat} {last : Int} {q : List Sl} {v5 : Value} {s : Sl} (hs : q[j]? = some s) (hL : IsLog w7 b rb 256 last (liveOf (q.set j (s.1, false)))) (hT : Two w7 w.heap.size v5 (.slice (some ⟨g6, 0, none⟩) q.length c6) q)
    (hql : q.length ≤ k) (hrb : w.heap.size ≤ rb) (hsrt : q.Pairwise fun a b => a.1.num < b.1.num) (hle : ∀ s ∈ q, s.1.num ≤ last) (hk : k + 1 ≤ 120) (hlast : last ≤ 5 * (k + 1)) (hW : Below w.heap.size w w7) :
    SumsAt w (w7.setCell ⟨g6, j, none⟩ (.bool false)) b rb (k + 1) last (q.set j (s.1, false)) v5 (.slice (some ⟨g6, 0, none⟩) q.length c6) := by
  obtain ⟨p, t⟩ := s
  have hm := map_set_fst (c := false) hs
  obtain ⟨h5, h6⟩ := hT.apart hL
  have hg6 : w.heap.size ≤ g6 := (hT.there.lt g6 rfl).1
  have hO : Only [g6] w7 (w7.setCell ⟨g6, j, none⟩ (.bool false)) := (Only.refl [g6] w7).setCell (.inl (by simp)) _
  have hst := (hT.there.stored j (.bool false)).1
  refine ⟨hL.only hO (fun hx => h6 b (by simp) ?_) (fun hx => h6 rb (by simp) ?_), by simp; omega, hrb, ⟨?_, ?_⟩, ?_, ?_, hk, hlast, bw_only hW hO (by simp; omega)⟩
  · simp at hx; subst hx; rfl
  · simp at hx; subst hx; rfl
  · rw [hm, List.length_set]
    exact own_far hT.put (by have := own_apart hT.put hT.there (by decide); rcases this with h | h; (rw [h]; simp); (exact fun e => h e.symm)) _
  · rw [List.length_set, List.map_set]; exact hst
  · have : ((q.set j (p, false)).map (·.1)).Pairwise fun a b => a.num < b.num := by rw [hm, List.pairwise_map]; exact hsrt
    rwa [List.pairwise_map] at this
  · intro x hx
    have : x.1 ∈ (q.set j (p, false)).map (·.1) := List.mem_map_of_mem hx
    rw [hm] at this
    obtain ⟨y, hy, he⟩ := List.mem_map.1 this
    rw [← he]; exact hle y hy
theorem below_alloc_drewN (W : World) (o : Obj) (n : Nat) : Below W.heap.size W ((W.alloc o).drewN n) := below_drewN ((Below.refl W.heap.size W).alloc (Nat.le_refl _) o) n
theorem Two.frz {w : World} {B g6 c6 : Nat} {v5 v6 : Value} {q : List Sl} (h : Two w B v5 v6 q) {n' : Nat} (e6 : v6 = .slice (some ⟨g6, 0, none⟩) n' c6) (i : Nat) : w.frozen? ⟨g6, i, none⟩ = false := by
  rcases h.there.2 with ⟨h0, _⟩ | ⟨g, cap, cur, hv, _, hh, _⟩
  · rw [h0] at e6; cases e6
  · rw [hv] at e6; cases e6; exact frozen_of_row w g6 i cur _ hh
theorem live_set_none {q : List Sl} {k : Nat} {p : Pk} (h : q[k]? = some (p, false)) : q.set k (p, false) = q := by
  obtain ⟨hl, he⟩ := List.getElem?_eq_some_iff.1 h
  rw [← he, List.set_getElem_self]

theorem live_take {q : List Sl} {j : Nat} {p : Pk} (h : p ∈ liveOf (q.take j)) : p ∈ liveOf q := by
  have h1 := mem_live h
  unfold liveOf
  exact List.mem_map.2 ⟨(p, true), List.mem_filter.2 ⟨List.take_subset _ _ h1, rfl⟩, rfl⟩
theorem take_step {q : List Sl} {j : Nat} {p : Pk} {t : Bool} (h : q[j]? = some (p, t)) : liveOf (q.take (j + 1)) = if t = true then liveOf (q.take j) ++ [p] else liveOf (q.take j) := by
  obtain ⟨hl, he⟩ := List.getElem?_eq_some_iff.1 h
  rw [List.take_succ_eq_append_getElem hl, he, live_append]
  cases t <;> simp [liveOf]
theorem SumsAt.below {w w1 w2 : World} {b rb k : Nat} {last : Int} {q : List Sl} {v5 v6 : Value} (h : SumsAt w w1 b rb k last q v5 v6) (hb : Below w1.heap.size w1 w2) : SumsAt w w2 b rb k last q v5 v6 :=
  ⟨h.log.below hb, h.len, h.rb, h.two.below hb, h.srt, h.le, h.kk, h.lst, bw_below h.bw hb⟩

set_option maxRecDepth 100000 in
set_option maxHeartbeats 8000000 in
theorem sentsums_any (a : Option Addr) (len cap : Nat) (w : World) (hz : RecsAt w a len 4) :
    Calls Try.prog 4 #[.slice a len cap] w fun e w' => e = .returned (.bool true) ∧ Below w.heap.size w w' := by
  have hlen := hz.1
  have HZ := hide hz.2
  obtain ⟨i0, hi0, hz0, hz1, hz2⟩ := info_parts pk_info
  obtain ⟨j0, hj0, hy0, hy1, hy2⟩ := info_parts bl_info
  clear hz
  go_enter Try.func4, Try.ntmps4
  go_wp2_with fail
  refine (works_any _).mono ?_
  rintro e0 w0 ⟨rfl, hW0⟩
  go_wp2_with fail
  refine (new_ok 256 _ (by omega) (by omega)).mono ?_
  rintro e1 w1 ⟨b, rb1, rfl, hL1, hb, hrb1, hB1⟩
  have hW1 := bw_below hW0 hB1
  have hsz0 := hW0.size
  clear hW0 hB1
  go_wp2_with fail
  go_loopg [5, 6, 7, 8] 120 (fun kx s5 s6 s7 s8 wr => ∃ (k rb : Nat) (last : Int) (q : List Sl), s8 = .int .i64 k ∧ s7 = .int .i64 last ∧ 120 - k ≤ kx ∧ SumsAt w wr b rb k last q s5 s6)
  case atStart => exact ⟨0, rb1, -1, [], rfl, rfl, by omega, ⟨hL1, by simp, by omega, ⟨⟨by simp, .inl ⟨rfl, rfl⟩⟩, ⟨by simp, .inl ⟨rfl, rfl⟩⟩⟩, by simp, by simp, by omega, by omega, hW1⟩⟩
  case round =>
    obtain ⟨k, rb, last, q, rfl, rfl, hkx, ⟨hL, hql, hrb, hT, hsrt, hle, hk, hlast, hW⟩⟩ := hrel
    have hla := hL.last
    by_cases hlt : k < len ∧ k < 120
    · obtain ⟨hlt, hlt2⟩ := hlt
      obtain ⟨xb, xo, ha, hxl, hf⟩ := HZ.out (by omega)
      obtain ⟨z0, q0, a1, a2⟩ := hf k 0 hlt (by omega)
      obtain ⟨z1, q1, b1, b2⟩ := hf k 1 hlt (by omega)
      obtain ⟨z2, q2, c1, c2⟩ := hf k 2 hlt (by omega)
      obtain ⟨z3, q3, d1, d2⟩ := hf k 3 hlt (by omega)
      have hxw : ∀ o, wr.cell? ⟨xb, o, none⟩ = w.cell? ⟨xb, o, none⟩ := fun o => hW.cell (p := ⟨xb, o, none⟩) hxl
      rw [← hxw, Nat.add_zero] at q0
      rw [← hxw, ← Nat.add_assoc] at q1 q2 q3
      have HA := hide (fun W => bring_any z0 4 W (by omega) (by omega) a1 a2)
      have HB := hide (fun W => bring_any z1 5 W (by omega) (by omega) b1 b2)
      have HC := hide (fun W => bring_any z2 65535 W (by omega) (by omega) c1 c2)
      have HD := hide (fun W => bring_any z3 2 W (by omega) (by omega) d1 d2)
      have HE := hide (fun W => bring_any z3 4 W (by omega) (by omega) d1 d2)
      have hm0 : 0 ≤ z0 % 4 ∧ z0 % 4 ≤ 3 := by omega
      have hm1 : 0 ≤ z1 % 5 ∧ z1 % 5 ≤ 4 := by omega
      have hm2 : 0 ≤ z2 % 65535 ∧ z2 % 65535 ≤ 65534 := by omega
      have hm3 : 0 ≤ z3 % 2 ∧ z3 % 2 ≤ 1 := by omega
      have hm4 : 0 ≤ z3 % 4 ∧ z3 % 4 ≤ 3 := by omega
      obtain ⟨r0, e0⟩ : ∃ n, z0 % 4 = n := ⟨_, rfl⟩
      obtain ⟨r1, e1⟩ : ∃ n, z1 % 5 = n := ⟨_, rfl⟩
      obtain ⟨r2, e2⟩ : ∃ n, z2 % 65535 = n := ⟨_, rfl⟩
      obtain ⟨r3, e3⟩ : ∃ n, z3 % 2 = n := ⟨_, rfl⟩
      obtain ⟨r4, e4⟩ : ∃ n, z3 % 4 = n := ⟨_, rfl⟩
      rw [e0] at hm0 HA
      rw [e1] at hm1 HB
      rw [e2] at hm2 HC
      rw [e3] at hm3 HD
      rw [e4] at hm4 HE
      clear e0 e1 e2 e3 e4 hf hxw
      subst ha
      obtain ⟨A5, k5, rfl⟩ := own_slice hT.put
      obtain ⟨A6, k6, rfl⟩ := own_slice hT.there
      go_upto_if 45 with (refine (HA.out _).mono ?_; rintro e2 w2 ⟨rfl, rfl⟩)
      go_cut [5, 6, 7] (fun s5 s6 s7 wc => ∃ (rb' : Nat) (last' : Int) (q' : List Sl), s7 = .int .i64 last' ∧ SumsAt w wc b rb' (k + 1) last' q' s5 s6)
      case first =>
        have hx9 := Blk.new wr 41 #[.int .i64 z0, .int .i64 z1, .int .i64 z2, .int .i64 z3]
        have hL9 := hL.alloc (.cells #[.int .i64 z0, .int .i64 z1, .int .i64 z2, .int .i64 z3] 41)
        have hT9 := hT.below ((Below.refl wr.heap.size wr).alloc (Nat.le_refl _) (.cells #[.int .i64 z0, .int .i64 z1, .int .i64 z2, .int .i64 z3] 41))
        have hW9 := bw_alloc hW (.cells #[.int .i64 z0, .int .i64 z1, .int .i64 z2, .int .i64 z3] 41)
        have hX9 : w.heap.size ≤ wr.heap.size := hW.size
        clear hL hT hW q0 q1 q2 q3
        by_cases hr0 : r0 < 2
        · go_wp2_with fail
          refine (HB.out _).mono ?_
          rintro e3 w3 ⟨rfl, rfl⟩
          go_wp2_with fail
          refine name_world (fun W => IsLog W b rb 256 last (liveOf q) ∧ Blk W wr.heap.size 41 #[.int .i64 z0, .int .i64 z1, .int .i64 z2, .int .i64 z3] ∧ Two W w.heap.size (.slice A5 q.length k5) (.slice A6 q.length k6) q ∧ Below w.heap.size w W) ⟨hL9, hx9, hT9, hW9⟩ ?_
          clear hL9 hx9 hT9 hW9
          rintro W ⟨hL, hx, hT, hW⟩
          obtain ⟨X, hX⟩ : ∃ X, wr.heap.size = X := ⟨_, rfl⟩
          rw [hX] at hx hX9 ⊢
          have hXX := hide hX
          clear hX
          go_upto_region 15 with fail
          go_cut [10] (fun s10 wc => ∃ g, s10 = .pointer (some ⟨g, 0, none⟩) ∧ Blk wc g 30 #[.int .i64 (last + 1 + r1), .int .i64 k, .int .i64 (IntKind.i64.wrap (1 + r2)), .bool (r3 == 1), .bool (decide (1 < r4)), .bool false] ∧ w.heap.size ≤ g ∧
            IsLog wc b rb 256 last (liveOf q) ∧ Two wc w.heap.size (.slice A5 q.length k5) (.slice A6 q.length k6) q ∧ Below w.heap.size w wc)
          case first =>
            go_region_held3 (fun w' => w'.cell? ⟨X, 0, none⟩ = some (.int .i64 z0) ∧ w'.cell? ⟨X, 1, none⟩ = some (.int .i64 z1) ∧ w'.cell? ⟨X, 2, none⟩ = some (.int .i64 z2) ∧ w'.cell? ⟨X, 3, none⟩ = some (.int .i64 z3)) (first | exact ⟨hx.cell 0, hx.cell 1, hx.cell 2, hx.cell 3⟩ | exact ⟨(hx.alloc _).cell 0, (hx.alloc _).cell 1, (hx.alloc _).cell 2, (hx.alloc _).cell 3⟩)
              (first
                | (go_at_call_of 10 (Value.int IntKind.i64 z2); refine (HC.out _).mono ?_; rintro e4 w4 ⟨rfl, rfl⟩)
                | (go_at_call 10; (with_reducible refine (HD.out _).mono ?_); rintro e4 w4 ⟨rfl, rfl⟩)
                | (go_at_call 10; (with_reducible refine (HE.out _).mono ?_); rintro e4 w4 ⟨rfl, rfl⟩))
            all_goals (go_wp2_with fail; go_meet; exact ⟨_, rfl, (Blk.new _ _ _).drew, hW.size, hL.below (below_alloc_drew _ _), hT.below (below_alloc_drew _ _), bw_below hW (below_alloc_drew _ _)⟩)
          case rest =>
            obtain ⟨g, rfl, hg, hgw, hL2, hT2, hW2⟩ := hcut
            clear hL hx hT hW
            obtain ⟨sz, hsz⟩ : ∃ x, IntKind.i64.wrap (1 + r2) = x := ⟨_, rfl⟩
            obtain ⟨el, hel⟩ : ∃ x, (r3 == 1) = x := ⟨_, rfl⟩
            obtain ⟨fl, hfl⟩ : ∃ x, decide (1 < r4) = x := ⟨_, rfl⟩
            rw [hsz, hel, hfl] at hg
            have hszb : 1 ≤ sz ∧ sz ≤ 65535 := by rw [IntKind.wrap_i64] at hsz; omega
            have hmay : (Pk.mk (last + 1 + r1) k sz el fl false).may := ⟨by show 0 ≤ last + 1 + r1; omega, by show last + 1 + r1 ≤ 9007199254740991; omega, by show 0 ≤ (k : Int); omega, by show (k : Int) ≤ 9007199254740991; omega, hszb.1, hszb.2⟩
            have hroom : (liveOf q).length < 256 := by have := live_length q; omega
            clear hsz hel hfl
            have g0 := hg.cell 0
            have g1 := hg.cell 1
            have g2 := hg.cell 2
            have g3 := hg.cell 3
            have g4 := hg.cell 4
            have g5 := hg.cell 5
            simp at g0 g1 g2 g3 g4 g5
            go_wp2_with fail
            refine (put_ok b rb 256 last (last + 1 + r1) k sz el fl false (liveOf q) _ hL2 hmay (by omega) hroom).mono ?_
            rintro e4 w4 ⟨rfl, rb4, hL4, hrb4, hO4⟩
            obtain ⟨hap5, hap6⟩ := hT2.apart hL2
            have hT4 := hT2.only hO4 hap5 hap6
            have hW4 := bw_only hW2 hO4 (by simp; omega)
            have hgn : g ∉ [b, rb] := by have h1 := (hL2.blks); obtain ⟨c1, c2, h1, h2⟩ := h1; intro hm; simp at hm; rcases hm with rfl | rfl; (unfold Blk at hg h1; rw [hg] at h1; injection h1 with h1; injection h1 with _ h1; cases h1); (unfold Blk at hg h2; rw [hg] at h2; injection h2 with h2; injection h2 with _ h2; cases h2)
            have hg4 := hO4.blk hg hgn
            have hrb6 := rb_le hrb4 hrb (by have := hW2.size; omega)
            have hs4 := hW4.size
            clear g0 g1 g2 g3 g4 g5 hL2 hT2 hW2 hO4 hg hrb4 hap5 hap6
            have g0 := hg4.cell 0
            have g1 := hg4.cell 1
            have g2 := hg4.cell 2
            have g3 := hg4.cell 3
            have g4 := hg4.cell 4
            have g5 := hg4.cell 5
            simp at g0 g1 g2 g3 g4 g5
            go_wp2_with (first
              | (at_builtin; refine wpList_append_any _ rfl (.tmp 71) (.tmp 73) _ rfl w.heap.size 30 i0 _ 6 32 Try.underlying38 hi0 hz0 hz1 hz2 rfl (by decide) (.slice A5 q.length k5) q.length ((q.map (·.1)).flatMap Pk.cells) rfl (by exact hT4.put.alloc _) (w4.heap.size + 1) (some ⟨w4.heap.size, 0, none⟩) 1 1 (Pk.mk (last + 1 + r1) k sz el fl false).cells rfl (by exact reads_lit (blk_new_at (by simp)) (by simp) rfl) (by simp [Pk.cells, Value.oneCell']) (by unfold maxLen; omega) (by omega) (by simp; omega) ?_; intro v5 w5 hown5 hg5 hat5; have hs5 : w4.heap.size + 1 ≤ w5.heap.size := (by have := hg5.size; simpa using this); have hth5 := World.ownsRow.kept (hT4.there.alloc _) hg5 (own_apart hT4.there hT4.put (by decide)))
              | (at_builtin; refine wpList_append_any _ rfl (.tmp 75) (.tmp 76) _ rfl w.heap.size 4 j0 _ 1 1 Try.underlying39 hj0 hy0 hy1 hy2 rfl (by decide) (.slice A6 q.length k6) q.length (q.map fun s => Value.bool s.2) rfl (by exact hth5.alloc _) (w5.heap.size + 1) (some ⟨w5.heap.size, 0, none⟩) 1 1 [.bool true] rfl (by exact reads_lit (blk_new_at (by simp)) (by simp) rfl) (by simp [Value.oneCell']) (by unfold maxLen; omega) (by omega) (by simp; omega) ?_; intro v6 w6 hown6 hg6 hat6))
            have hX := hXX.out
            subst hX
            go_meet
            refine ⟨rb4, last + 1 + r1, q ++ [(Pk.mk (last + 1 + r1) k sz el fl false, true)], rfl, ?_⟩
            have hs6 : w5.heap.size + 1 ≤ w6.heap.size := by have := hg6.size; simpa using this
            obtain ⟨hap5, hap6⟩ := hT4.apart hL4
            have hL5 := (hL4.alloc _).only (only_grown hg5) (fun hm => hap5 b (by simp) (by simpa [eq_comm] using hm)) (fun hm => hap5 rb4 (by simp) (by simpa [eq_comm] using hm))
            have hL6 := (hL5.alloc _).only (only_grown hg6) (fun hm => hap6 b (by simp) (by simpa [eq_comm] using hm)) (fun hm => hap6 rb4 (by simp) (by simpa [eq_comm] using hm))
            have hW5 := bw_only (bw_alloc hW4 _) (only_grown hg5) (fun x hx => hT4.put.lt x (by simpa [eq_comm] using hx) |>.1)
            have hW6 := bw_only (bw_alloc hW5 _) (only_grown hg6) (fun x hx => hT4.there.lt x (by simpa [eq_comm] using hx) |>.1)
            have hown5' := World.ownsRow.kept (hown5.alloc _) hg6 (own_apart hown5 hth5 (by decide))
            refine ⟨by rw [live_push]; exact hL6, by simp; omega, hrb6, ⟨?_, ?_⟩, ?_, ?_, by omega, by omega, hW6⟩
            · rw [List.length_append, List.map_append, List.flatMap_append]; exact hown5'
            · rw [List.length_append, List.map_append]; exact hown6
            · rw [List.pairwise_append]
              refine ⟨hsrt, by simp, fun x hx y hy => ?_⟩
              have := hle x hx
              simp at hy; subst hy; show x.1.num < last + 1 + r1; omega
            · intro s hs
              rcases List.mem_append.1 hs with hs | hs
              · have := hle s hs; omega
              · simp at hs; subst hs; exact Int.le_refl _
        · by_cases hq0 : q.length = 0
          · go_wp2_with fail
            go_meet
            exact ⟨rb, last, q, rfl, ⟨hL9, by omega, hrb, by rw [hq0] at hT9; exact hT9, hsrt, hle, by omega, by omega, hW9⟩⟩
          · have HF := hide (fun W => bring_any z1 q.length W (by omega) (by omega) b1 b2)
            obtain ⟨j, hj⟩ : ∃ j : Nat, z1 % (q.length : Int) = j := Int.eq_ofNat_of_zero_le (Int.emod_nonneg _ (by omega))
            have hjl : j < q.length := by have := Int.emod_lt_of_pos z1 (show 0 < (q.length : Int) by omega); omega
            rw [hj] at HF
            obtain ⟨g5, c5, g6, c6, e5, e6, hne, hfz, hat⟩ := hT9.at_ (by omega)
            cases e5
            cases e6
            obtain ⟨⟨p, t⟩, hs⟩ : ∃ s, q[j]? = some s := ⟨_, List.getElem?_eq_getElem hjl⟩
            have hfind := find_slot hsrt (List.mem_of_getElem? hs)
            obtain ⟨⟨y0, y1, y2, y3, y4, y5⟩, y6⟩ := hat j _ hs
            simp only at y0 y1 y2 y3 y4 y5 y6 hfind
            have HS := hide hs
            have HJ := hide hj
            have HAT := hide hat
            clear hs hj hat hfz
            go_wp2_with fail
            refine (HF.out _).mono ?_
            rintro e5 w5 ⟨rfl, rfl⟩
            cases t with
            | true =>
              have hf2 : (liveOf q).find? (fun x => x.num == p.num) = some p := hfind
              go_wp2_with fail
              refine (drop_is b rb 256 last p.num p (liveOf q) _ hL9 hf2).mono ?_
              rintro e6 w6 ⟨rfl, hL7, hO7⟩
              have hw := without_at hsrt HS.out
              rw [← hw] at hL7
              clear hw
              obtain ⟨hap5, hap6⟩ := hT9.apart hL9
              have hT7 := hT9.only hO7 hap5 hap6
              have hW7 := bw_only hW9 hO7 (by simp; omega)
              clear y0 y1 y2 y3 y4 y5 y6 hL9 hx9 hT9 hW9
              obtain ⟨⟨y0, y1, y2, y3, y4, y5⟩, y6⟩ := hT7.at2 rfl rfl j _ HS.out
              have hg5 := (hT7.put.lt _ rfl).2
              have hg6 := (hT7.there.lt _ rfl).2
              simp only at y0 y1 y2 y3 y4 y5 y6
              have hfz := hT7.frz rfl
              go_wp2_with fail
              go_quiet (fail)
              go_wp2_with fail
              go_meet
              exact ⟨rb, last, q.set j (p, false), rfl, SumsAt.dropped HS.out (hL7.below (below_alloc_drewN _ _ _)) (hT7.below (below_alloc_drewN _ _ _)) hql hrb hsrt hle (by omega) (by omega) (bw_below hW7 (below_alloc_drewN _ _ _))⟩
            | false =>
              have hf2 : (liveOf q).find? (fun x => x.num == p.num) = none := hfind
              go_wp2_with fail
              refine (drop_none b rb 256 last p.num (liveOf q) _ hL9 hf2).mono ?_
              rintro e6 w6 ⟨rfl, hB7⟩
              have hL7 := hL9.below hB7
              rw [← live_set_none HS.out] at hL7
              have hT7 := hT9.below hB7
              have hW7 := bw_below hW9 hB7
              clear y0 y1 y2 y3 y4 y5 y6 hL9 hx9 hT9 hW9
              obtain ⟨⟨y0, y1, y2, y3, y4, y5⟩, y6⟩ := hT7.at2 rfl rfl j _ HS.out
              have hg5 := (hT7.put.lt _ rfl).2
              have hg6 := (hT7.there.lt _ rfl).2
              simp only at y0 y1 y2 y3 y4 y5 y6
              have hfz := hT7.frz rfl
              go_wp2_with fail
              go_quiet (fail)
              go_wp2_with fail
              go_meet
              exact ⟨rb, last, q.set j (p, false), rfl, SumsAt.dropped HS.out (hL7.below (below_alloc_drewN _ _ _)) (hT7.below (below_alloc_drewN _ _ _)) hql hrb hsrt hle (by omega) (by omega) (bw_below hW7 (below_alloc_drewN _ _ _))⟩
      case rest =>
        obtain ⟨rb', last', q', rfl, hS⟩ := hcut
        clear hL hT hW hsrt hle q0 q1 q2 q3 HA HB HC HD HE hrb hql hlast hla
        obtain ⟨A7, k7, rfl⟩ := own_slice hS.two.put
        obtain ⟨A8, k8, rfl⟩ := own_slice hS.two.there
        have hqk := hS.len
        have hkk := hS.kk
        go_wp2_with fail
        go_loopg [14, 15, 16, 17] q'.length (fun jx s14 s15 s16 s17 wi => ∃ j : Nat, s17 = .int .i64 j ∧ s14 = .int .i64 (flightOf (liveOf (q'.take j))) ∧ s15 = .int .i64 (elicOf (liveOf (q'.take j))) ∧ s16 = .int .i64 ((liveOf (q'.take j)).length : Nat) ∧ j ≤ q'.length ∧ q'.length - j ≤ jx ∧ SumsAt w wi b rb' (k + 1) last' q' (.slice A7 q'.length k7) (.slice A8 q'.length k8))
        case atStart => exact ⟨0, rfl, rfl, rfl, rfl, Nat.zero_le _, Nat.le_refl _, hS⟩
        case round =>
          clear hS
          obtain ⟨j, rfl, rfl, rfl, rfl, hj, hjx, hS⟩ := hrel
          have hL := hS.log
          have hFb := flight_bounds (liveOf (q'.take j)) (fun p hp => hL.may p (live_take hp))
          have hEb := elic_bounds (liveOf (q'.take j))
          have hNb := live_length (q'.take j)
          have hNb2 : (q'.take j).length ≤ j := List.length_take_le _ _
          by_cases hjl : j < q'.length
          · obtain ⟨g5, c5, g6, c6, e5, e6, hne, hfz, hat⟩ := hS.two.at_ (by omega)
            cases e5
            cases e6
            obtain ⟨⟨p, t⟩, hs⟩ : ∃ s, q'[j]? = some s := ⟨_, List.getElem?_eq_getElem hjl⟩
            have hfind := find_slot hS.srt (List.mem_of_getElem? hs)
            obtain ⟨⟨y0, y1, y2, y3, y4, y5⟩, y6⟩ := hat j _ hs
            have htk := take_step hs
            simp only at y0 y1 y2 y3 y4 y5 y6 hfind
            have hpm := hL.may p
            obtain ⟨F, hF⟩ : ∃ x, flightOf (liveOf (q'.take j)) = x := ⟨_, rfl⟩
            obtain ⟨E, hE⟩ : ∃ x, elicOf (liveOf (q'.take j)) = x := ⟨_, rfl⟩
            obtain ⟨M, hM⟩ : ∃ x, (liveOf (q'.take j)).length = x := ⟨_, rfl⟩
            rw [hF, hM] at hFb
            rw [hE, hM] at hEb
            rw [hM] at hNb
            rw [hF, hE, hM]
            have HF := hide hF
            have HE := hide hE
            have HM := hide hM
            have HS := hide hs
            have HT := hide htk
            have HAT := hide hat
            clear hF hE hM hs htk hat hfz
            cases t with
            | false =>
              have hf2 : (liveOf q').find? (fun x => x.num == p.num) = none := hfind
              clear hfind
              go_wp2_with fail
              refine (get_none b rb' 256 last' p.num (liveOf q') _ hL hf2).mono ?_
              rintro e6 w6 ⟨rfl, hB6⟩
              have hS6 := hS.below hB6
              clear y0 y1 y2 y3 y4 y5 y6 hL hS
              obtain ⟨⟨y0, y1, y2, y3, y4, y5⟩, y6⟩ := hS6.two.at2 rfl rfl j _ HS.out
              have hg5 := (hS6.two.put.lt _ rfl).2
              have hg6 := (hS6.two.there.lt _ rfl).2
              simp only at y0 y1 y2 y3 y4 y5 y6
              go_wp2_with fail
              go_quiet (fail)
              go_wp2_with fail
              go_roundg (q'.length - (j + 1))
              case rel => exact ⟨j + 1, by go_num, by rw [HT.out]; simp [HF.out], by rw [HT.out]; simp [HE.out], by rw [HT.out]; simp [HM.out], by omega, by omega, hS6.below (below_alloc_drewN _ _ _)⟩
              case measure => omega
            | true =>
              have hf2 : (liveOf q').find? (fun x => x.num == p.num) = some p := hfind
              clear hfind
              have hpm2 := hpm (List.mem_of_find?_eq_some hf2)
              clear hpm
              obtain ⟨pn, pt, ps, pe, pf, pc⟩ := p
              obtain ⟨m1, m2, m3, m4, m5, m6⟩ := hpm2
              simp only at m1 m2 m3 m4 m5 m6 y0 y1 y2 y3 y4 y5 y6 hf2
              cases pf with
              | false =>
                go_wp2_with fail
                refine (get_is b rb' 256 last' pn _ (liveOf q') _ hL hf2).mono ?_
                rintro e6 w6 ⟨rfl, hB6⟩
                have hS6 := hS.below hB6
                clear y0 y1 y2 y3 y4 y5 y6 hL hS
                obtain ⟨⟨y0, y1, y2, y3, y4, y5⟩, y6⟩ := hS6.two.at2 rfl rfl j _ HS.out
                have hg5 := (hS6.two.put.lt _ rfl).2
                have hg6 := (hS6.two.there.lt _ rfl).2
                simp only at y0 y1 y2 y3 y4 y5 y6
                go_wp2_with fail
                go_quiet (fail)
                go_wp2_with fail
                go_roundg (q'.length - (j + 1))
                case rel => exact ⟨j + 1, by go_num, by rw [HT.out]; simp [flight_push, HF.out, totF], by rw [HT.out]; simp [elic_push, HE.out, totE], by rw [HT.out]; simp [HM.out], by omega, by omega, hS6.below (below_alloc_drewN _ _ _)⟩
                case measure => omega
              | true =>
                cases pe with
                | false =>
                  go_wp2_with fail
                  refine (get_is b rb' 256 last' pn _ (liveOf q') _ hL hf2).mono ?_
                  rintro e6 w6 ⟨rfl, hB6⟩
                  have hS6 := hS.below hB6
                  clear y0 y1 y2 y3 y4 y5 y6 hL hS
                  obtain ⟨⟨y0, y1, y2, y3, y4, y5⟩, y6⟩ := hS6.two.at2 rfl rfl j _ HS.out
                  have hg5 := (hS6.two.put.lt _ rfl).2
                  have hg6 := (hS6.two.there.lt _ rfl).2
                  simp only at y0 y1 y2 y3 y4 y5 y6
                  go_wp2_with fail
                  go_quiet (fail)
                  go_wp2_with fail
                  go_roundg (q'.length - (j + 1))
                  case rel => exact ⟨j + 1, by go_num, by rw [HT.out]; simp [flight_push, HF.out, totF], by rw [HT.out]; simp [elic_push, HE.out, totE], by rw [HT.out]; simp [HM.out], by omega, by omega, hS6.below (below_alloc_drewN _ _ _)⟩
                  case measure => omega
                | true =>
                  go_wp2_with fail
                  refine (get_is b rb' 256 last' pn _ (liveOf q') _ hL hf2).mono ?_
                  rintro e6 w6 ⟨rfl, hB6⟩
                  have hS6 := hS.below hB6
                  clear y0 y1 y2 y3 y4 y5 y6 hL hS
                  obtain ⟨⟨y0, y1, y2, y3, y4, y5⟩, y6⟩ := hS6.two.at2 rfl rfl j _ HS.out
                  have hg5 := (hS6.two.put.lt _ rfl).2
                  have hg6 := (hS6.two.there.lt _ rfl).2
                  simp only at y0 y1 y2 y3 y4 y5 y6
                  go_wp2_with fail
                  go_quiet (fail)
                  go_wp2_with fail
                  go_roundg (q'.length - (j + 1))
                  case rel => exact ⟨j + 1, by go_num, by rw [HT.out]; simp [flight_push, HF.out, totF], by rw [HT.out]; simp [elic_push, HE.out, totE], by rw [HT.out]; simp [HM.out], by omega, by omega, hS6.below (below_alloc_drewN _ _ _)⟩
                  case measure => omega
          · obtain rfl : j = q'.length := by omega
            rw [List.take_length]
            clear hFb hEb hNb hNb2 hjl hj hjx hL
            go_wp2_with (first
              | (go_at_call 18; refine (flight_any b rb' 256 last' (liveOf q') _ hS.log).mono ?_; rintro e1 w1 ⟨rfl, hB1⟩; have hS1 := hS.below hB1)
              | (go_at_call 19; refine (elic_any b rb' 256 last' (liveOf q') _ hS1.log).mono ?_; rintro e2 w2 ⟨rfl, hB2⟩; have hS2 := hS1.below hB2)
              | (go_at_call 20; refine (len_any b rb' 256 last' (liveOf q') _ hS2.log).mono ?_; rintro e3 w3 ⟨rfl, hB3⟩; have hS3 := hS2.below hB3)
              | (go_at_call 21; refine (all_any b rb' 256 last' (liveOf q') _ hS3.log).mono ?_; rintro e4 w4 ⟨v4, rfl, hv4, hB4⟩; obtain ⟨a4, c4, rfl⟩ := own_slice hv4; have hS4 := hS3.below hB4)
              | (go_at_call 15; refine (last_any b rb' 256 last' (liveOf q') _ hS4.log).mono ?_; rintro e5 w5 ⟨rfl, rfl⟩))
            go_roundg (120 - (k + 1))
            case rel => exact ⟨k + 1, rb', last', q', by go_num, rfl, by omega, hS4⟩
            case measure => omega
    · go_wp2_with fail
      all_goals (go_ret; exact ⟨rfl, hW⟩)
end Go.Proofs.Ytcigkggdcogokaa
