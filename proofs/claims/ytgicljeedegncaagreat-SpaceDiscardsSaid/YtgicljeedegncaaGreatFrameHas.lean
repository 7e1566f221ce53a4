/-
  Layer 5 (package frame): Has; layer 17: sentAll. Printed by wip/genfh.py.
-/
import Derived.Test.YtgicljeedegncaaGreatFrameCheck
import Derived.Test.YtgicljeedegncaaGreatSpcSent
namespace Go.Proofs.YtgicljeedegncaaGreat
set_option linter.unusedSimpArgs false
set_option linter.unusedVariables false
open Go.RowKit

theorem check_any (a : Option Addr) (c : Nat) (rs : List Rg) (w : World) (hok : AckOk rs) (hR : RgAt w a rs) :
    Calls Tryz.prog 57 #[.agg (ackC a rs.length c)] w fun e W' => e = .returned (.int .i64 0) ∧ Below w.heap.size w W' := callsIn_wide.1 (check_in 4 (Nat.le_refl _) a c rs w hok hR)
def hasP (n : Int) (r : Rg) : Bool := decide (r.lo ≤ n) && decide (n ≤ r.hi)
def inP (x k : Rg) : Bool := decide (k.lo ≤ x.lo) && decide (x.hi ≤ k.hi)
theorem has1_any (r : Rg) (n : Int) (A : Nat) (w : World) (h0 : w.cell? ⟨A, 0, none⟩ = some (.int .i64 n)) : Calls Tryz.prog 107 #[.agg #[.int .i64 r.lo, .int .i64 r.hi], .pointer (some ⟨A, 0, none⟩)] w fun e w' => e = .returned (.bool (hasP n r)) ∧ Below w.heap.size w w' := by
  have hA := cell_lt h0
  have hc := (World.cell?_alloc_lt w (.cells #[.int .i64 r.lo, .int .i64 r.hi] 93) ⟨A, 0, none⟩ hA).trans h0
  by_cases h1 : r.lo ≤ n
  · by_cases h2 : n ≤ r.hi
    all_goals
      go_enter Tryz.func107, Tryz.ntmps107
      go_wp2
      go_ret
      exact ⟨by simp [hasP, h1]; omega, (Below.refl _ _).alloc (Nat.le_refl _) _⟩
  · go_enter Tryz.func107, Tryz.ntmps107
    go_wp2
    go_ret
    exact ⟨by simp [hasP]; omega, (Below.refl _ _).alloc (Nat.le_refl _) _⟩
theorem sent1_any (k x : Rg) (A : Nat) (w : World) (h0 : w.cell? ⟨A, 0, none⟩ = some (.int .i64 x.lo)) (h1 : w.cell? ⟨A, 1, none⟩ = some (.int .i64 x.hi)) : Calls Tryz.prog 104 #[.agg #[.int .i64 k.lo, .int .i64 k.hi], .pointer (some ⟨A, 0, none⟩)] w fun e w' => e = .returned (.bool (inP x k)) ∧ Below w.heap.size w w' := by
  have hA := cell_lt h0
  have hc := (World.cell?_alloc_lt w (.cells #[.int .i64 k.lo, .int .i64 k.hi] 93) ⟨A, 0, none⟩ hA).trans h0
  have hd := (World.cell?_alloc_lt w (.cells #[.int .i64 k.lo, .int .i64 k.hi] 93) ⟨A, 1, none⟩ hA).trans h1
  by_cases h1 : k.lo ≤ x.lo
  · by_cases h2 : x.hi ≤ k.hi
    all_goals
      go_enter Tryz.func104, Tryz.ntmps104
      go_wp2
      go_ret
      exact ⟨by simp [inP, h1]; omega, (Below.refl _ _).alloc (Nat.le_refl _) _⟩
  · go_enter Tryz.func104, Tryz.ntmps104
    go_wp2
    go_ret
    exact ⟨by simp [inP]; omega, (Below.refl _ _).alloc (Nat.le_refl _) _⟩
def IdxR (t : Bool) (w : World) (e : Ending) (w' : World) : Prop := ∃ R : Int, e = .returned (.int .i64 R) ∧ (t = true → 0 ≤ R) ∧ (t = false → R = -1) ∧ Below w.heap.size w w'
set_option maxRecDepth 100000 in
set_option maxHeartbeats 2000000 in
theorem idx_has (a : Option Addr) (len cap : Nat) (rs : List Rg) (n : Int) (A : Nat) (w : World) (hlen : rs.length = len) (hl : len ≤ 1000) (hR : RgAt w a rs) (h0 : w.cell? ⟨A, 0, none⟩ = some (.int .i64 n)) :
    Calls Tryz.prog 150 #[.slice a len cap, .func (.func 107) #[] #[.pointer (some ⟨A, 0, none⟩)]] w (IdxR (rs.any (hasP n)) w) := by
  have HR := hide hR
  have HL := hide hlen
  have HC : Hid (∀ W, Below w.heap.size w W → ∀ k : Rg, Calls Tryz.prog 107 #[.agg #[.int .i64 k.lo, .int .i64 k.hi], .pointer (some ⟨A, 0, none⟩)] W fun e w' => e = .returned (.bool (hasP n k)) ∧ Below W.heap.size W w') := by
    show ∀ W, _
    intro W hb k
    exact has1_any k n A W ((hb.cell (p := ⟨A, 0, none⟩) (cell_lt h0)).trans h0)
  clear hR hlen
  go_enter Tryz.func150, Tryz.ntmps150
  go_wp2_with fail
  go_loopg [8] len (fun kx s8 wr => ∃ i : Nat, s8 = .int .i64 i ∧ i ≤ len ∧ len - i ≤ kx ∧ Hid (rs.any (hasP n) = (rs.drop i).any (hasP n)) ∧ Below w.heap.size w wr)
  case atStart => exact ⟨0, rfl, by omega, by omega, rfl, Below.refl _ _⟩
  case round =>
    obtain ⟨i, rfl, hi, hkx, hany, hB⟩ := hrel
    by_cases hlt : i < len
    · have hir : i < rs.length := by rw [HL.out]; exact hlt
      obtain ⟨k, hk⟩ : ∃ k, rs[i]? = some k := ⟨_, List.getElem?_eq_getElem hir⟩
      have hd : rs.drop i = k :: rs.drop (i + 1) := by
        rw [List.drop_eq_getElem_cons hir]
        congr 1
        rw [List.getElem?_eq_getElem hir] at hk
        exact Option.some.inj hk
      obtain ⟨b, rfl, hbl, z0, z1⟩ := (HR.out.below hB) i k hk
      have HA : Hid (rs.any (hasP n) = (hasP n k || (rs.drop (i + 1)).any (hasP n))) := by show _ = _; rw [hany, hd]; rfl
      have HW := hide (HC.out wr hB k)
      have hin : (i : Int) < (len : Int) := by omega
      have HB := hide hB
      clear hany hd hk hir hB
      cases hq : hasP n k with
      | true =>
        rw [hq] at HW HA
        go_wp2_with fail
        refine HW.out.mono ?_
        rintro e1 w1 ⟨rfl, hb⟩
        go_wp2_with fail
        go_ret
        exact ⟨i, rfl, fun _ => by omega, fun h => (by rw [HA.out] at h; cases h), bw_below' HB.out hb⟩
      | false =>
        rw [hq] at HW HA
        go_wp2_with fail
        refine HW.out.mono ?_
        rintro e1 w1 ⟨rfl, hb⟩
        go_wp2_with fail
        go_roundg (len - (i + 1))
        case rel => exact ⟨i + 1, by go_num, by omega, by omega, (by show _ = _; rw [HA.out]; rfl), bw_below' HB.out hb⟩
        case measure => omega
    · obtain rfl : i = len := by omega
      have hin : ¬ (i : Int) < (i : Int) := by omega
      have HA : Hid (rs.any (hasP n) = false) := by show _ = _; rw [hany, List.drop_of_length_le (by rw [HL.out]; exact Nat.le_refl _)]; rfl
      clear hany
      go_wp2_with fail
      go_ret
      exact ⟨-1, rfl, fun h => (by rw [HA.out] at h; cases h), fun _ => rfl, hB⟩
set_option maxHeartbeats 1000000 in
theorem con_has (a : Option Addr) (len cap : Nat) (rs : List Rg) (n : Int) (A : Nat) (w : World) (hlen : rs.length = len) (hl : len ≤ 1000) (hR : RgAt w a rs) (h0 : w.cell? ⟨A, 0, none⟩ = some (.int .i64 n)) :
    Calls Tryz.prog 102 #[.slice a len cap, .func (.func 107) #[] #[.pointer (some ⟨A, 0, none⟩)]] w fun e w' => e = .returned (.bool (rs.any (hasP n))) ∧ Below w.heap.size w w' := by
  have H := hide (idx_has a len cap rs n A w hlen hl hR h0)
  clear hR
  cases ht : rs.any (hasP n) with
  | true =>
    rw [ht] at H
    go_enter Tryz.func102, Tryz.ntmps102
    go_wp2_with fail
    refine H.out.mono ?_
    rintro e1 w1 ⟨R, rfl, h1, h2, hb⟩
    have hR0 := h1 rfl
    go_wp2_with fail
    go_ret
    exact ⟨rfl, hb⟩
  | false =>
    rw [ht] at H
    go_enter Tryz.func102, Tryz.ntmps102
    go_wp2_with fail
    refine H.out.mono ?_
    rintro e1 w1 ⟨R, rfl, h1, h2, hb⟩
    obtain rfl := h2 rfl
    go_wp2_with fail
    go_ret
    exact ⟨rfl, hb⟩
set_option maxRecDepth 100000 in
set_option maxHeartbeats 2000000 in
theorem idx_in (a : Option Addr) (len cap : Nat) (rs : List Rg) (x : Rg) (A : Nat) (w : World) (hlen : rs.length = len) (hl : len ≤ 1000) (hR : RgAt w a rs) (h0 : w.cell? ⟨A, 0, none⟩ = some (.int .i64 x.lo)) (h1 : w.cell? ⟨A, 1, none⟩ = some (.int .i64 x.hi)) :
    Calls Tryz.prog 150 #[.slice a len cap, .func (.func 104) #[] #[.pointer (some ⟨A, 0, none⟩)]] w (IdxR (rs.any (inP x)) w) := by
  have HR := hide hR
  have HL := hide hlen
  have HC : Hid (∀ W, Below w.heap.size w W → ∀ k : Rg, Calls Tryz.prog 104 #[.agg #[.int .i64 k.lo, .int .i64 k.hi], .pointer (some ⟨A, 0, none⟩)] W fun e w' => e = .returned (.bool (inP x k)) ∧ Below W.heap.size W w') := by
    show ∀ W, _
    intro W hb k
    exact sent1_any k x A W ((hb.cell (p := ⟨A, 0, none⟩) (cell_lt h0)).trans h0) ((hb.cell (p := ⟨A, 1, none⟩) (cell_lt h1)).trans h1)
  clear hR hlen
  go_enter Tryz.func150, Tryz.ntmps150
  go_wp2_with fail
  go_loopg [8] len (fun kx s8 wr => ∃ i : Nat, s8 = .int .i64 i ∧ i ≤ len ∧ len - i ≤ kx ∧ Hid (rs.any (inP x) = (rs.drop i).any (inP x)) ∧ Below w.heap.size w wr)
  case atStart => exact ⟨0, rfl, by omega, by omega, rfl, Below.refl _ _⟩
  case round =>
    obtain ⟨i, rfl, hi, hkx, hany, hB⟩ := hrel
    by_cases hlt : i < len
    · have hir : i < rs.length := by rw [HL.out]; exact hlt
      obtain ⟨k, hk⟩ : ∃ k, rs[i]? = some k := ⟨_, List.getElem?_eq_getElem hir⟩
      have hd : rs.drop i = k :: rs.drop (i + 1) := by
        rw [List.drop_eq_getElem_cons hir]
        congr 1
        rw [List.getElem?_eq_getElem hir] at hk
        exact Option.some.inj hk
      obtain ⟨b, rfl, hbl, z0, z1⟩ := (HR.out.below hB) i k hk
      have HA : Hid (rs.any (inP x) = (inP x k || (rs.drop (i + 1)).any (inP x))) := by show _ = _; rw [hany, hd]; rfl
      have HW := hide (HC.out wr hB k)
      have hin : (i : Int) < (len : Int) := by omega
      have HB := hide hB
      clear hany hd hk hir hB
      cases hq : inP x k with
      | true =>
        rw [hq] at HW HA
        go_wp2_with fail
        refine HW.out.mono ?_
        rintro e1 w1 ⟨rfl, hb⟩
        go_wp2_with fail
        go_ret
        exact ⟨i, rfl, fun _ => by omega, fun h => (by rw [HA.out] at h; cases h), bw_below' HB.out hb⟩
      | false =>
        rw [hq] at HW HA
        go_wp2_with fail
        refine HW.out.mono ?_
        rintro e1 w1 ⟨rfl, hb⟩
        go_wp2_with fail
        go_roundg (len - (i + 1))
        case rel => exact ⟨i + 1, by go_num, by omega, by omega, (by show _ = _; rw [HA.out]; rfl), bw_below' HB.out hb⟩
        case measure => omega
    · obtain rfl : i = len := by omega
      have hin : ¬ (i : Int) < (i : Int) := by omega
      have HA : Hid (rs.any (inP x) = false) := by show _ = _; rw [hany, List.drop_of_length_le (by rw [HL.out]; exact Nat.le_refl _)]; rfl
      clear hany
      go_wp2_with fail
      go_ret
      exact ⟨-1, rfl, fun h => (by rw [HA.out] at h; cases h), fun _ => rfl, hB⟩
set_option maxHeartbeats 1000000 in
theorem con_in (a : Option Addr) (len cap : Nat) (rs : List Rg) (x : Rg) (A : Nat) (w : World) (hlen : rs.length = len) (hl : len ≤ 1000) (hR : RgAt w a rs) (h0 : w.cell? ⟨A, 0, none⟩ = some (.int .i64 x.lo)) (h1 : w.cell? ⟨A, 1, none⟩ = some (.int .i64 x.hi)) :
    Calls Tryz.prog 102 #[.slice a len cap, .func (.func 104) #[] #[.pointer (some ⟨A, 0, none⟩)]] w fun e w' => e = .returned (.bool (rs.any (inP x))) ∧ Below w.heap.size w w' := by
  have H := hide (idx_in a len cap rs x A w hlen hl hR h0 h1)
  clear hR
  cases ht : rs.any (inP x) with
  | true =>
    rw [ht] at H
    go_enter Tryz.func102, Tryz.ntmps102
    go_wp2_with fail
    refine H.out.mono ?_
    rintro e1 w1 ⟨R, rfl, h1, h2, hb⟩
    have hR0 := h1 rfl
    go_wp2_with fail
    go_ret
    exact ⟨rfl, hb⟩
  | false =>
    rw [ht] at H
    go_enter Tryz.func102, Tryz.ntmps102
    go_wp2_with fail
    refine H.out.mono ?_
    rintro e1 w1 ⟨R, rfl, h1, h2, hb⟩
    obtain rfl := h2 rfl
    go_wp2_with fail
    go_ret
    exact ⟨rfl, hb⟩
set_option maxHeartbeats 2000000 in
theorem has_any (a : Option Addr) (c : Nat) (rs : List Rg) (n : Int) (w : World) (hok : AckOk rs) (hR : RgAt w a rs) :
    Calls Tryz.prog 61 #[.agg (ackC a rs.length c), .int .i64 n] w fun e W' => e = .returned (.bool (rs.any (hasP n))) ∧ Below w.heap.size w W' := by
  have hb0 : Below w.heap.size w ((w.alloc (.cells (ackC a rs.length c) 52)).alloc (.cells #[.int .i64 n] 3)) := ((Below.refl _ _).alloc (Nat.le_refl _) _).alloc (by simp) _
  have hx := (Blk.new w 52 (ackC a rs.length c)).alloc (.cells #[.int .i64 n] 3)
  have hy : Blk ((w.alloc (.cells (ackC a rs.length c) 52)).alloc (.cells #[.int .i64 n] 3)) (w.heap.size + 1) 3 #[.int .i64 n] := blk_new_at (by simp)
  have HK := hide (check_any a c rs _ hok (hR.below hb0))
  have HX := hide hx
  have HY := hide hy
  have HB := hide hb0
  have HR := hide hR
  have HO := hide hok
  clear hb0 hx hy hR hok
  unfold ackC at *
  have x0 := HX.out.cell 0
  have x1 : ((w.alloc (.cells #[.int .i64 0, .slice a rs.length c, .bool false, .int .i64 0, .int .i64 0, .int .i64 0] 52)).alloc (.cells #[.int .i64 n] 3)).cell? ⟨w.heap.size, 1, none⟩ = some (.slice a rs.length c) := HX.out.cell 1
  have x2 := HX.out.cell 2
  have x3 := HX.out.cell 3
  have x4 := HX.out.cell 4
  have x5 := HX.out.cell 5
  go_enter Tryz.func61, Tryz.ntmps61
  go_wp2_with fail
  refine HK.out.mono ?_
  rintro e1 w1 ⟨rfl, hb⟩
  have HR1 := hide (HR.out.below (bw_below' HB.out hb))
  have hx1 := (hb.block _ HX.out.lt).trans HX.out
  have x1 : w1.cell? ⟨w.heap.size, 1, none⟩ = some (.slice a rs.length c) := Blk.cell (g := w.heap.size) hx1 1
  have y0 : w1.cell? ⟨w.heap.size + 1, 0, none⟩ = some (.int .i64 n) := (hb.cell (p := ⟨w.heap.size + 1, 0, none⟩) HY.out.lt).trans (HY.out.cell 0)
  have HB1 := hide (bw_below' HB.out hb)
  clear hb hx1
  go_wp2_with fail
  refine (con_has a rs.length c rs n (w.heap.size + 1) w1 rfl (by have := HO.out.le; omega) HR1.out y0).mono ?_
  rintro e2 w2 ⟨rfl, hb2⟩
  go_wp2_with fail
  go_ret
  exact ⟨rfl, bw_below' HB1.out hb2⟩
set_option maxHeartbeats 2000000 in
theorem sentall_any (f : Ft) (s : SpSt) (x : Rg) (w : World) (h : IsSp w f s) :
    Calls Tryz.prog 58 #[.pointer (some ⟨f.b, 0, none⟩), .agg #[.int .i64 x.lo, .int .i64 x.hi]] w fun e W' => e = .returned (.bool (s.K.any (inP x))) ∧ Below w.heap.size w W' := by
  have hb0 : Below w.heap.size w (w.alloc (.cells #[.int .i64 x.lo, .int .i64 x.hi] 93)) := (Below.refl _ _).alloc (Nat.le_refl _) _
  have hx := Blk.new w 93 #[.int .i64 x.lo, .int .i64 x.hi]
  have h1 := h.below hb0
  have c1 := h1.cells.2.1
  have HH := hide h1
  have HX := hide hx
  have HB := hide hb0
  clear h hb0 hx h1
  go_enter Tryz.func58, Tryz.ntmps58
  go_wp2_with fail
  refine (ranges_any _ _ _ _ _ HH.out.kn).mono ?_
  rintro e1 w1 ⟨v, rfl, hv, _, hb⟩
  obtain ⟨a1, k1, rfl⟩ := own_slice' hv
  have hx1 := (hb.block _ HX.out.lt).trans HX.out
  have y0 : w1.cell? ⟨w.heap.size, 0, none⟩ = some (.int .i64 x.lo) := Blk.cell (g := w.heap.size) hx1 0
  have y1 : w1.cell? ⟨w.heap.size, 1, none⟩ = some (.int .i64 x.hi) := Blk.cell (g := w.heap.size) hx1 1
  have HR1 := hide (own_rgat List.length_reverse hv)
  have HL := hide HH.out.kn.len
  have HB1 := hide (bw_below' HB.out hb)
  clear hv hx1 hb
  go_wp2_with fail
  refine (con_in a1 s.K.length k1 s.K.reverse x w.heap.size w1 List.length_reverse (by have := HL.out; omega) HR1.out y0 y1).mono ?_
  rintro e2 w2 ⟨rfl, hb2⟩
  go_wp2_with fail
  go_ret
  exact ⟨rfl, bw_below' HB1.out hb2⟩
end Go.Proofs.YtgicljeedegncaaGreat
