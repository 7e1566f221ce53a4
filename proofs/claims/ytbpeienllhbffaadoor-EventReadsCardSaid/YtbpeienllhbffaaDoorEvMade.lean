/-
  Layer 22's law: made, events that may be of rows: its walk.
-/
import Derived.Test.YtbpeienllhbffaaDoorEvMadePlain
import Derived.Test.YtbpeienllhbffaaDoorEvWorks
import Derived.Test.YtbpeienllhbffaaDoorBring
import Derived.Test.YtbpeienllhbffaaDoorFlat
import Derived.Test.YtbpeienllhbffaaDoorRowOps
import Derived.BigQuiet
import Derived.Deep.QuietTactic
namespace Go.Proofs.YtbpeienllhbffaaDoor
set_option linter.unusedSimpArgs false
set_option linter.unusedVariables false
open Go.RowKit Go.Shelf

theorem quiet22 {P : Program} {f : FuncId} {args : Array Value} {w : World} {n : Nat} {v : Value}
    (h : Calls P f args (w.drewN n) fun e w' => e = .returned v ∧ w.drewN n = w') : Calls P f args (w.drewN n) fun e w'' => e = .returned v ∧ ∃ m, w'' = w.drewN m :=
  h.mono fun _ _ ⟨he, hm⟩ => ⟨he, n, hm.symm⟩
/-- The rows that came in. -/
def ResAt (w : World) (a : Option Addr) (rs : List RE) : Prop := ∀ i r, rs[i]? = some r → ∃ xb xo, a = some ⟨xb, xo, none⟩ ∧ xb < w.heap.size ∧ w.cell? ⟨xb, xo + i * 3, none⟩ = some (.int .i64 r.k) ∧ w.cell? ⟨xb, xo + i * 3 + 1, none⟩ = some (.int .i64 r.s) ∧ w.cell? ⟨xb, xo + i * 3 + 2, none⟩ = some (.int .i64 r.n) ∧
    (-9223372036854775808 ≤ r.k ∧ r.k ≤ 9223372036854775807) ∧ (-9223372036854775808 ≤ r.s ∧ r.s ≤ 9223372036854775807) ∧ (-9223372036854775808 ≤ r.n ∧ r.n ≤ 9223372036854775807)
theorem res_of_rows {w : World} {a : Option Addr} {len : Nat} (h : RowsK w a len [some .i64, some .i64, some .i64]) : ∃ rs : List RE, rs.length = len ∧ ResAt w a rs := by
  obtain ⟨h1, h2⟩ := h
  have key : ∀ i, ∃ r : RE, i < len → ∃ xb xo, a = some ⟨xb, xo, none⟩ ∧ xb < w.heap.size ∧ w.cell? ⟨xb, xo + i * 3, none⟩ = some (.int .i64 r.k) ∧ w.cell? ⟨xb, xo + i * 3 + 1, none⟩ = some (.int .i64 r.s) ∧ w.cell? ⟨xb, xo + i * 3 + 2, none⟩ = some (.int .i64 r.n) ∧
      (-9223372036854775808 ≤ r.k ∧ r.k ≤ 9223372036854775807) ∧ (-9223372036854775808 ≤ r.s ∧ r.s ≤ 9223372036854775807) ∧ (-9223372036854775808 ≤ r.n ∧ r.n ≤ 9223372036854775807) := by
    intro i
    by_cases hi : i < len
    · obtain ⟨xb, xo, ha, hb, hc⟩ := h2 (by omega)
      obtain ⟨x, hx, x0, x1⟩ := (hc i hi 0 _ rfl).i64
      obtain ⟨y, hy, y0, y1⟩ := (hc i hi 1 _ rfl).i64
      obtain ⟨z, hz, z0, z1⟩ := (hc i hi 2 _ rfl).i64
      exact ⟨⟨x, y, z⟩, fun _ => ⟨xb, xo, ha, hb, hx, hy, hz, ⟨x0, x1⟩, ⟨y0, y1⟩, ⟨z0, z1⟩⟩⟩
    · exact ⟨⟨0, 0, 0⟩, fun h => absurd h hi⟩
  refine ⟨(List.range len).map fun i => Classical.choose (key i), by simp, fun i r hi => ?_⟩
  rw [List.getElem?_map] at hi
  have hl : i < len := by
    rcases Nat.lt_or_ge i len with h | h
    · exact h
    · rw [List.getElem?_eq_none (by simpa using h)] at hi
      simp at hi
  rw [List.getElem?_range hl] at hi
  simp only [Option.map_some, Option.some.injEq] at hi
  subst hi
  exact Classical.choose_spec (key i) hl
theorem ResAt.later {w w' : World} {a : Option Addr} {rs : List RE} (h : ResAt w a rs) (hb : Below w.heap.size w w') : ResAt w' a rs := fun i r hi => by
  obtain ⟨xb, xo, e, hl, c0, c1, c2, r⟩ := h i r hi
  exact ⟨xb, xo, e, Nat.lt_of_lt_of_le hl hb.size, (hb.cell (p := ⟨xb, _, none⟩) hl).trans c0, (hb.cell (p := ⟨xb, _, none⟩) hl).trans c1, (hb.cell (p := ⟨xb, _, none⟩) hl).trans c2, r⟩
theorem ResAt.take {w : World} {a : Option Addr} {rs : List RE} (h : ResAt w a rs) (n : Nat) : ResAt w a (rs.take n) := fun i r hi => by
  rw [List.getElem?_take] at hi
  split at hi
  · exact h i r hi
  · cases hi
def MadePost (w : World) (es : List EV) (e : Ending) (w' : World) : Prop := ∃ v, e = .returned v ∧ w'.ownsRow w.heap.size 36 4 v es.length (evsC es) ∧ Below w.heap.size w w'
theorem madeE_length (rs : List RE) : (madeE rs).length = rs.length := by unfold madeE; rw [List.length_map]

set_option maxRecDepth 100000 in
set_option maxHeartbeats 8000000 in
theorem evmade_any (a : Option Addr) (len cap : Nat) (rs : List RE) (w : World) (hz : ResAt w a rs) (hlen : rs.length = len) (hlm : len ≤ 9223372036854775807) :
    Calls Tryd.prog 18 #[.slice a len cap] w (MadePost w (madeE (rs.take 300))) := by
  have HZ := hide hz
  have HLEN := hide hlen
  clear hz hlen
  obtain ⟨i0, hi0, hz0, hz1, hz2⟩ := info_parts ev_info
  obtain ⟨L, hL⟩ : ∃ L, min len 300 = L := ⟨_, rfl⟩
  have htk : madeE (rs.take 300) = madeE (rs.take L) := by
    rw [← hL]
    congr 1
    rcases Nat.le_total len 300 with h | h
    · rw [Nat.min_eq_left h, List.take_of_length_le (by rw [HLEN.out]; exact h), List.take_of_length_le (by rw [HLEN.out]; exact Nat.le_refl _)]
    · rw [Nat.min_eq_right h]
  rw [htk]
  have hLL : L ≤ len ∧ L ≤ 300 ∧ (L = len ∨ L = 300) := by omega
  obtain ⟨hL0, hL1, hL2⟩ := hLL
  clear hL htk
  go_enter Tryd.func18, Tryd.ntmps18
  go_wp2_with fail
  go_loopg [3, 4] 300 (fun kx s3 s4 wr => ∃ k : Nat, s4 = .int .i64 k ∧ k ≤ L ∧ 300 - k ≤ kx ∧ wr.ownsRow w.heap.size 36 4 s3 k (evsC (madeE (rs.take k))) ∧ Below w.heap.size w wr)
  case atStart => exact ⟨0, rfl, by omega, by omega, ⟨rfl, .inl ⟨rfl, rfl⟩⟩, Below.refl _ _⟩
  case round =>
    obtain ⟨k, rfl, hk, hkx, hown, hW⟩ := hrel
    by_cases hlt : k < L
    · obtain ⟨r, hr⟩ : ∃ r, rs[k]? = some r := ⟨_, List.getElem?_eq_getElem (by rw [HLEN.out]; omega)⟩
      obtain ⟨xb, xo, ha, hxl, c0, c1, c2, ⟨k1, k2⟩, ⟨s1, s2⟩, ⟨n1, n2⟩⟩ := (HZ.out.later hW) k r hr
      subst ha
      have hnx : evsC (madeE (rs.take (k + 1))) = evsC (madeE (rs.take k)) ++ (evC (evRow r)).toList := by
        rw [List.take_add_one, hr]
        unfold madeE
        rw [List.map_append, Option.toList_some, List.map_singleton, evsC_snoc]
      have HNX := hide hnx
      obtain ⟨k0, s0, n0⟩ := r
      simp only [] at c0 c1 c2 k1 k2 s1 s2 n1 n2
      obtain ⟨A8, c8, rfl⟩ := own_slice6 hown
      have HS := hide (fun W => bring_any s0 3 W (by omega) (by omega) s1 s2)
      have HK := hide (fun W => bring_any k0 6 W (by omega) (by omega) k1 k2)
      obtain ⟨x, hx⟩ : ∃ x, s0 % 3 = x := ⟨_, rfl⟩
      obtain ⟨q, hq⟩ : ∃ x, k0 % 6 = x := ⟨_, rfl⟩
      have rx : 0 ≤ x ∧ x < 3 := by omega
      have rq : 0 ≤ q ∧ q < 6 := by omega
      rw [hx] at HS
      rw [hq] at HK
      have HX := hide hx
      have HQ := hide hq
      have hd1 : -9223372036854775808 ≤ n0.tdiv 7 ∧ n0.tdiv 7 ≤ 9223372036854775807 := by
        rcases Int.le_total 0 n0 with h | h
        · have := Int.tdiv_nonneg h (show (0 : Int) ≤ 7 by omega)
          have := Int.tdiv_le_self (a := n0) 7 h
          omega
        · have h2 : n0.tdiv 7 = - ((-n0).tdiv 7) := by rw [Int.neg_tdiv, Int.neg_neg]
          have := Int.tdiv_nonneg (show 0 ≤ -n0 by omega) (show (0 : Int) ≤ 7 by omega)
          have := Int.tdiv_le_self (a := -n0) 7 (by omega)
          omega
      obtain ⟨xs, hxs⟩ : ∃ xs, evsC (madeE (rs.take k)) = xs := ⟨_, rfl⟩
      rw [hxs] at hown HNX
      have hkl : (k : Int) < (len : Int) := by omega
      have hk3 : (k : Int) < 300 := by omega
      have hk0 : (0 : Int) ≤ (k : Int) := by omega
      clear hr hnx hx hq hxs k1 k2 s1 s2
      go_wp2_with fail
      go_quiet ((go_at_call 22; with_reducible exact quiet22 (HS.out _)))
      have hW1 := below_drewN hW nq
      have HO1 := hide (own_drewN hown nq)
      have c01 : (wr.drewN nq).cell? ⟨xb, xo + k * 3, none⟩ = some (.int .i64 k0) := c0
      obtain ⟨W1, hW11⟩ : ∃ W1, wr.drewN nq = W1 := ⟨_, rfl⟩
      rw [hW11] at hW1 HO1 c01
      try rw [hW11]
      have hsz := hW1.size
      have HW1 := hide hW1
      have ho1 := HO1.out
      clear hW11 hW hown c0 c1 c2 hW1
      go_wp2_with fail
      refine (HK.out _).mono ?_
      rintro e3 W3 ⟨rfl, rfl⟩
      clear HK HS c01
      have hq6 : q = 0 ∨ q = 1 ∨ q = 2 ∨ q = 3 ∨ q = 4 ∨ q = 5 := by omega
      rcases hq6 with rfl | rfl | rfl | rfl | rfl | rfl
      · have hev : evC (evRow ⟨k0, s0, n0⟩) = #[.int .i64 (1), .int .i64 (s0 % 3), .int .i64 (n0 % 9007199254740992), .int .i64 (1 + n0 % 65535)] := by
          unfold evRow
          simp only [HQ.out]
          rfl
        rw [HX.out] at hev
        have Hy := hide (fun W => bring_any (n0) 9007199254740992 W (by omega) (by omega) n1 n2)
        obtain ⟨y, hy⟩ : ∃ x, n0 % 9007199254740992 = x := ⟨_, rfl⟩
        have ry : 0 ≤ y ∧ y < 9007199254740992 := by omega
        rw [hy] at hev Hy
        have Hz := hide (fun W => bring_any (n0) 65535 W (by omega) (by omega) n1 n2)
        obtain ⟨z, hz⟩ : ∃ x, n0 % 65535 = x := ⟨_, rfl⟩
        have rz : 0 ≤ z ∧ z < 65535 := by omega
        rw [hz] at hev Hz
        have HEV := hide hev
        clear hev hy hz n1 n2
        go_wp2_with fail
        refine (Hy.out _).mono ?_
        rintro ey Wy ⟨rfl, rfl⟩
        go_wp2_with fail
        refine (Hz.out _).mono ?_
        clear hd1
        rintro ez Wz ⟨rfl, rfl⟩
        go_wp2_with (at_builtin; refine wpList_append_any _ rfl (.tmp 43) (.tmp 51) _ rfl w.heap.size 36 i0 _ 4 32 Tryd.underlying22 hi0 hz0 hz1 hz2 rfl (by decide) (.slice A8 k c8) k xs rfl (by exact ho1.alloc _) (W1.heap.size + 1) (some ⟨W1.heap.size, 0, none⟩) 1 1 [.int .i64 1, .int .i64 x, .int .i64 y, .int .i64 (1 + z)] rfl (by exact reads_lit (blk_new_at (by simp)) (by simp) rfl) (by simp [Value.oneCell']) (by unfold maxLen; omega) (by omega) (by simp; omega) ?_; intro v5 w5 hown5 hg5 hat5)
        go_roundg (300 - (k + 1))
        case rel =>
          refine ⟨k + 1, by go_num, by omega, by omega, ?_, ?_⟩
          · rw [HNX.out, HEV.out]
            exact hown5
          · exact Below.grown (HW1.out.alloc hsz _) hg5 (by simp; omega) (fun x hx => (ho1.lt x hx).1)
        case measure => omega
      · have hev : evC (evRow ⟨k0, s0, n0⟩) = #[.int .i64 (2), .int .i64 (s0 % 3), .int .i64 (n0 % 9007199254740992), .int .i64 (1 + (n0.tdiv 7) % 65535)] := by
          unfold evRow
          simp only [HQ.out]
          rfl
        rw [HX.out] at hev
        have Hy := hide (fun W => bring_any (n0) 9007199254740992 W (by omega) (by omega) n1 n2)
        obtain ⟨y, hy⟩ : ∃ x, n0 % 9007199254740992 = x := ⟨_, rfl⟩
        have ry : 0 ≤ y ∧ y < 9007199254740992 := by omega
        rw [hy] at hev Hy
        have Hz := hide (fun W => bring_any (n0.tdiv 7) 65535 W (by omega) (by omega) hd1.1 hd1.2)
        obtain ⟨z, hz⟩ : ∃ x, (n0.tdiv 7) % 65535 = x := ⟨_, rfl⟩
        have rz : 0 ≤ z ∧ z < 65535 := by omega
        rw [hz] at hev Hz
        have HEV := hide hev
        clear hev hy hz n1 n2
        go_wp2_with fail
        refine (Hy.out _).mono ?_
        rintro ey Wy ⟨rfl, rfl⟩
        go_wp2_with fail
        refine (Hz.out _).mono ?_
        clear hd1
        rintro ez Wz ⟨rfl, rfl⟩
        go_wp2_with (at_builtin; refine wpList_append_any _ rfl (.tmp 55) (.tmp 64) _ rfl w.heap.size 36 i0 _ 4 32 Tryd.underlying22 hi0 hz0 hz1 hz2 rfl (by decide) (.slice A8 k c8) k xs rfl (by exact ho1.alloc _) (W1.heap.size + 1) (some ⟨W1.heap.size, 0, none⟩) 1 1 [.int .i64 2, .int .i64 x, .int .i64 y, .int .i64 (1 + z)] rfl (by exact reads_lit (blk_new_at (by simp)) (by simp) rfl) (by simp [Value.oneCell']) (by unfold maxLen; omega) (by omega) (by simp; omega) ?_; intro v5 w5 hown5 hg5 hat5)
        go_roundg (300 - (k + 1))
        case rel =>
          refine ⟨k + 1, by go_num, by omega, by omega, ?_, ?_⟩
          · rw [HNX.out, HEV.out]
            exact hown5
          · exact Below.grown (HW1.out.alloc hsz _) hg5 (by simp; omega) (fun x hx => (ho1.lt x hx).1)
        case measure => omega
      · have hev : evC (evRow ⟨k0, s0, n0⟩) = #[.int .i64 (3), .int .i64 (s0 % 3), .int .i64 (0), .int .i64 (1 + n0 % 2)] := by
          unfold evRow
          simp only [HQ.out]
          rfl
        rw [HX.out] at hev
        have Hz := hide (fun W => bring_any (n0) 2 W (by omega) (by omega) n1 n2)
        obtain ⟨z, hz⟩ : ∃ x, n0 % 2 = x := ⟨_, rfl⟩
        have rz : 0 ≤ z ∧ z < 2 := by omega
        rw [hz] at hev Hz
        have HEV := hide hev
        clear hev hz n1 n2
        go_wp2_with fail
        refine (Hz.out _).mono ?_
        clear hd1
        rintro ez Wz ⟨rfl, rfl⟩
        go_wp2_with (at_builtin; refine wpList_append_any _ rfl (.tmp 68) (.tmp 74) _ rfl w.heap.size 36 i0 _ 4 32 Tryd.underlying22 hi0 hz0 hz1 hz2 rfl (by decide) (.slice A8 k c8) k xs rfl (by exact ho1.alloc _) (W1.heap.size + 1) (some ⟨W1.heap.size, 0, none⟩) 1 1 [.int .i64 3, .int .i64 x, .int .i64 0, .int .i64 (1 + z)] rfl (by exact reads_lit (blk_new_at (by simp)) (by simp) rfl) (by simp [Value.oneCell']) (by unfold maxLen; omega) (by omega) (by simp; omega) ?_; intro v5 w5 hown5 hg5 hat5)
        go_roundg (300 - (k + 1))
        case rel =>
          refine ⟨k + 1, by go_num, by omega, by omega, ?_, ?_⟩
          · rw [HNX.out, HEV.out]
            exact hown5
          · exact Below.grown (HW1.out.alloc hsz _) hg5 (by simp; omega) (fun x hx => (ho1.lt x hx).1)
        case measure => omega
      · have hev : evC (evRow ⟨k0, s0, n0⟩) = #[.int .i64 (4), .int .i64 (0), .int .i64 (0), .int .i64 (2400 + n0 % 1099511625377)] := by
          unfold evRow
          simp only [HQ.out]
          rfl
        skip
        have Hz := hide (fun W => bring_any (n0) 1099511625377 W (by omega) (by omega) n1 n2)
        obtain ⟨z, hz⟩ : ∃ x, n0 % 1099511625377 = x := ⟨_, rfl⟩
        have rz : 0 ≤ z ∧ z < 1099511625377 := by omega
        rw [hz] at hev Hz
        have HEV := hide hev
        clear hev hz n1 n2
        go_wp2_with fail
        refine (Hz.out _).mono ?_
        clear hd1
        rintro ez Wz ⟨rfl, rfl⟩
        go_wp2_with (at_builtin; refine wpList_append_any _ rfl (.tmp 78) (.tmp 83) _ rfl w.heap.size 36 i0 _ 4 32 Tryd.underlying22 hi0 hz0 hz1 hz2 rfl (by decide) (.slice A8 k c8) k xs rfl (by exact ho1.alloc _) (W1.heap.size + 1) (some ⟨W1.heap.size, 0, none⟩) 1 1 [.int .i64 4, .int .i64 0, .int .i64 0, .int .i64 (2400 + z)] rfl (by exact reads_lit (blk_new_at (by simp)) (by simp) rfl) (by simp [Value.oneCell']) (by unfold maxLen; omega) (by omega) (by simp; omega) ?_; intro v5 w5 hown5 hg5 hat5)
        go_roundg (300 - (k + 1))
        case rel =>
          refine ⟨k + 1, by go_num, by omega, by omega, ?_, ?_⟩
          · rw [HNX.out, HEV.out]
            exact hown5
          · exact Below.grown (HW1.out.alloc hsz _) hg5 (by simp; omega) (fun x hx => (ho1.lt x hx).1)
        case measure => omega
      · have hev : evC (evRow ⟨k0, s0, n0⟩) = #[.int .i64 (5), .int .i64 (s0 % 3), .int .i64 (0), .int .i64 (0)] := by
          unfold evRow
          simp only [HQ.out]
          rfl
        rw [HX.out] at hev
        have HEV := hide hev
        clear hev  n1 n2
        go_wp2_with (at_builtin; refine wpList_append_any _ rfl (.tmp 87) (.tmp 90) _ rfl w.heap.size 36 i0 _ 4 32 Tryd.underlying22 hi0 hz0 hz1 hz2 rfl (by decide) (.slice A8 k c8) k xs rfl (by exact ho1.alloc _) (W1.heap.size + 1) (some ⟨W1.heap.size, 0, none⟩) 1 1 [.int .i64 5, .int .i64 x, .int .i64 0, .int .i64 0] rfl (by exact reads_lit (blk_new_at (by simp)) (by simp) rfl) (by simp [Value.oneCell']) (by unfold maxLen; omega) (by omega) (by simp; omega) ?_; intro v5 w5 hown5 hg5 hat5)
        go_roundg (300 - (k + 1))
        case rel =>
          refine ⟨k + 1, by go_num, by omega, by omega, ?_, ?_⟩
          · rw [HNX.out, HEV.out]
            exact hown5
          · exact Below.grown (HW1.out.alloc hsz _) hg5 (by simp; omega) (fun x hx => (ho1.lt x hx).1)
        case measure => omega
      · have hev : evC (evRow ⟨k0, s0, n0⟩) = #[.int .i64 (6), .int .i64 (0), .int .i64 (0), .int .i64 (1 + n0 % 999)] := by
          unfold evRow
          simp only [HQ.out]
          rfl
        skip
        have Hz := hide (fun W => bring_any (n0) 999 W (by omega) (by omega) n1 n2)
        obtain ⟨z, hz⟩ : ∃ x, n0 % 999 = x := ⟨_, rfl⟩
        have rz : 0 ≤ z ∧ z < 999 := by omega
        rw [hz] at hev Hz
        have HEV := hide hev
        clear hev hz n1 n2
        go_wp2_with fail
        refine (Hz.out _).mono ?_
        clear hd1
        rintro ez Wz ⟨rfl, rfl⟩
        go_wp2_with (at_builtin; refine wpList_append_any _ rfl (.tmp 34) (.tmp 39) _ rfl w.heap.size 36 i0 _ 4 32 Tryd.underlying22 hi0 hz0 hz1 hz2 rfl (by decide) (.slice A8 k c8) k xs rfl (by exact ho1.alloc _) (W1.heap.size + 1) (some ⟨W1.heap.size, 0, none⟩) 1 1 [.int .i64 6, .int .i64 0, .int .i64 0, .int .i64 (1 + z)] rfl (by exact reads_lit (blk_new_at (by simp)) (by simp) rfl) (by simp [Value.oneCell']) (by unfold maxLen; omega) (by omega) (by simp; omega) ?_; intro v5 w5 hown5 hg5 hat5)
        go_roundg (300 - (k + 1))
        case rel =>
          refine ⟨k + 1, by go_num, by omega, by omega, ?_, ?_⟩
          · rw [HNX.out, HEV.out]
            exact hown5
          · exact Below.grown (HW1.out.alloc hsz _) hg5 (by simp; omega) (fun x hx => (ho1.lt x hx).1)
        case measure => omega
    · obtain rfl : k = L := by omega
      have hle : (madeE (rs.take k)).length = k := by rw [madeE_length, List.length_take, HLEN.out]; omega
      have hend : len ≤ k ∨ (k < len ∧ k = 300) := by omega
      obtain ⟨A8, c8, rfl⟩ := own_slice6 hown
      have HOW : Hid (wr.ownsRow w.heap.size 36 4 (.slice A8 k c8) (madeE (rs.take k)).length (evsC (madeE (rs.take k)))) := by rw [hle]; exact hown
      clear hown hle
      rcases hend with hend | ⟨hend, h40⟩
      · clear hlt
        go_wp2_with fail
        go_ret
        exact ⟨_, rfl, HOW.out, hW⟩
      · clear hlt
        have h40' : ¬ (k : Int) < 300 := by omega
        clear h40 hL1 hL2 hk hkx
        go_wp2_with fail
        go_ret
        exact ⟨_, rfl, HOW.out, hW⟩
end Go.Proofs.YtbpeienllhbffaaDoor
