/-
  Layer 5 (package frame): the iterator over an ACK's gaps.
-/
import Derived.Test.YtgicljeedegncaaGreatMgLoss
import Derived.Test.YtgicljeedegncaaGreatMgSpanD
import Derived.Sort.LoopGhostIn
import Derived.Sort.CutIn
import Derived.BigRegionIn
import Derived.RegionIn
namespace Go.Proofs.YtgicljeedegncaaGreat
set_option linter.unusedSimpArgs false
set_option linter.unusedVariables false
open Go.RowKit Go.Shelf
attribute [local go_sem] Oper.semAt_some

theorem isnumber_any (n : Int) (w : World) : Calls Tryz.prog 100 #[.int .i64 n] w fun e w' => e = .returned (.bool (decide (0 ≤ n) && decide (n ≤ 9007199254740991))) ∧ w = w' := by
  by_cases h1 : 0 ≤ n
  · by_cases h2 : n ≤ 9007199254740991
    · go_enter Tryz.func100, Tryz.ntmps100
      go_wp2
      go_ret
      simp [h1, h2]
    · go_enter Tryz.func100, Tryz.ntmps100
      go_wp2
      go_ret
      simp [h1, h2]
  · go_enter Tryz.func100, Tryz.ntmps100
    go_wp2
    go_ret
    have h1 : ¬ 0 ≤ n := by omega
    simp [h1]
/-- An ACK of some ranges, without a delay, and without marks. -/
def ackC (a : Option Addr) (n c : Nat) : Array Value := #[.int .i64 0, .slice a n c, .bool false, .int .i64 0, .int .i64 0, .int .i64 0]
/-- The ranges of an ACK that may be. -/
structure AckOk (rs : List Rg) : Prop where
  le : rs.length ≤ 256
  pos : 1 ≤ rs.length
  ok : ∀ r ∈ rs, 0 ≤ r.lo ∧ r.lo ≤ r.hi ∧ r.hi ≤ 9007199254740991
  gap : ∀ i p q, rs[i]? = some p → rs[i + 1]? = some q → q.hi + 2 ≤ p.lo
def gapAt (rs : List Rg) : Nat → Int
  | 0 => 0
  | i + 1 => match rs[i]?, rs[i + 1]? with
    | some p, some q => p.lo - q.hi - 2
    | _, _ => 0
theorem gapAt_succ {rs : List Rg} {i : Nat} {p q : Rg} (hp : rs[i]? = some p) (hq : rs[i + 1]? = some q) : gapAt rs (i + 1) = p.lo - q.hi - 2 := by simp [gapAt, hp, hq]
theorem AckOk.gap0 {rs : List Rg} (h : AckOk rs) (i : Nat) : 0 ≤ gapAt rs i := by
  cases i with
  | zero => simp [gapAt]
  | succ i =>
    cases hp : rs[i]? with
    | none => simp [gapAt, hp]
    | some p =>
      cases hq : rs[i + 1]? with
      | none => simp [gapAt, hp, hq]
      | some q =>
        rw [gapAt_succ hp hq]
        have := h.gap i p q hp hq
        omega
def gapL (rs : List Rg) : List (Int × Rg) := rs.mapIdx fun i r => (gapAt rs i, r)
theorem gapL_len (rs : List Rg) : (gapL rs).length = rs.length := by simp [gapL]
theorem gapL_at {rs : List Rg} {i : Nat} {r : Rg} (h : rs[i]? = some r) : (gapL rs)[i]? = some (gapAt rs i, r) := by simp [gapL, h]
def encG (x : Int × Rg) : Array Value := #[.int .i64 x.1, .agg #[.int .i64 x.2.lo, .int .i64 x.2.hi]]
/-- What the iterator reads. -/
structure GpAt (W : World) (Bx : Nat) (a : Option Addr) (c : Nat) (rs : List Rg) : Prop where
  box : Blk W Bx 52 (ackC a rs.length c)
  row : RgAt W a rs
theorem RgAt.keepC {W W' : World} {a : Option Addr} {rs : List Rg} (h : RgAt W a rs) (k : KeepC [] W W') : RgAt W' a rs := fun i r hi => by
  obtain ⟨x, e, hx, z0, z1⟩ := h i r hi
  exact ⟨x, e, k.lt hx, k.cell z0 (by simp), k.cell z1 (by simp)⟩
theorem GpAt.keep {W W' : World} {Bx : Nat} {a : Option Addr} {c : Nat} {rs : List Rg} (h : GpAt W Bx a c rs) (k : KeepC [] W W') : GpAt W' Bx a c rs := ⟨k.blk h.box (by simp), h.row.keepC k⟩
theorem GpAt.below {W W' : World} {Bx : Nat} {a : Option Addr} {c : Nat} {rs : List Rg} (h : GpAt W Bx a c rs) (hb : Below W.heap.size W W') : GpAt W' Bx a c rs := h.keep (keepC_below hb)

set_option maxRecDepth 100000 in
set_option maxHeartbeats 4000000 in
theorem gaps1_in (n : Nat) (hn : 1 ≤ n) (l Bx : Nat) (a : Option Addr) (c : Nat) (rs : List Rg) (hok : AckOk rs) (J Jx : List (Int × Rg) → World → Prop)
    (hJ : ∀ pre A B, J pre A → Below A.heap.size A B → J pre B)
    (hY : ∀ pre x W, J pre W → pre.length < rs.length → YieldAt Fence.wide (n - 1) Tryz.prog l (encG x) W fun e W' =>
      (e = .returned (.bool true) ∧ J (pre ++ [x]) W' ∧ KeepC [] W W') ∨ (e = .returned (.bool false) ∧ Jx (pre ++ [x]) W'))
    (W : World) (hA : GpAt W Bx a c rs) (h0 : J [] W) :
    CallsIn Fence.wide n Tryz.prog 149 #[.func (.yield l) #[] #[], .pointer (some ⟨Bx, 0, none⟩)] W fun e W' => (∃ v, e = .returned v) ∧
      ((∃ ys, ys = gapL rs ∧ J ys W') ∨ (∃ pre, pre <+: gapL rs ∧ Jx pre W')) := by
  refine callsIn_of_wp Tryz.func149 rfl trivial ?_ rfl
  simp only [Tryz.ntmps149, List.size_toArray, List.length_cons, List.length_nil, Nat.reduceAdd, Nat.reduceSub, Array.replicate_succ, Array.replicate_zero, List.push_toArray, List.append_toArray, List.nil_append, List.cons_append]
  have q1 : W.cell? ⟨Bx, 1, none⟩ = some (.slice a rs.length c) := hA.box.cell 1
  have hle := hok.le
  have HA := hide hA
  have HOK := hide hok
  have HJ := hide hJ
  have HY := hide hY
  clear hA hok hJ hY
  obtain ⟨K, hK⟩ : ∃ K, rs.length = K := ⟨_, rfl⟩
  have HK := hide hK
  rw [hK] at q1 hle HY
  clear hK
  gi_wp2
  gi_loopg [9] K (fun kx s9 wr => ∃ i : Nat, s9 = .int .i64 i ∧ i ≤ K ∧ K - i ≤ kx ∧ J ((gapL rs).take i) wr ∧ GpAt wr Bx a c rs)
  case atStart => exact ⟨0, rfl, by omega, by omega, h0, HA.out⟩
  case round =>
    clear q1 HA h0
    obtain ⟨i, rfl, hi, hkx, hJs, hA⟩ := hrel
    by_cases hlt : i < K
    · obtain ⟨r, hr⟩ : ∃ r, rs[i]? = some r := ⟨_, List.getElem?_eq_getElem (by rw [HK.out]; exact hlt)⟩
      obtain ⟨k, rfl, hk, z0, z1⟩ := hA.row i r hr
      have q1 : wr.cell? ⟨Bx, 1, none⟩ = some (.slice (some ⟨k, 0, none⟩) rs.length c) := hA.box.cell 1
      rw [HK.out] at q1
      have hbA : Below wr.heap.size wr (wr.alloc (.cells #[.int .i64 r.lo, .int .i64 r.hi] 93)) := (Below.refl _ _).alloc (Nat.le_refl _) _
      have hin : (i : Int) < (K : Int) := by omega
      have hi0 : (0 : Int) ≤ (i : Int) := by omega
      have hJ1 := HJ.out _ _ _ hJs hbA
      have hA1 := hA.below hbA
      have hX := Blk.new wr 93 #[.int .i64 r.lo, .int .i64 r.hi]
      have x0 : (wr.alloc (.cells #[.int .i64 r.lo, .int .i64 r.hi] 93)).cell? ⟨wr.heap.size, 0, none⟩ = some (.int .i64 r.lo) := hX.cell 0
      have x1 : (wr.alloc (.cells #[.int .i64 r.lo, .int .i64 r.hi] 93)).cell? ⟨wr.heap.size, 1, none⟩ = some (.int .i64 r.hi) := hX.cell 1
      have q1' := (hbA.cell (p := ⟨Bx, 1, none⟩) (cell_lt q1)).trans q1
      have hstep : (gapL rs).take i ++ [(gapAt rs i, r)] = (gapL rs).take (i + 1) := by
        rw [List.take_add_one, gapL_at hr]
        rfl
      have hJ1d := HJ.out _ _ _ hJs hbA.drew
      have HA1 := hide hA1
      clear hA1 hJs hA hX
      cases i with
      | zero =>
        obtain ⟨fn, tmps, assign, body, hy, hR⟩ := HY.out _ (gapAt rs 0, r) (wr.alloc (.cells #[.int .i64 r.lo, .int .i64 r.hi] 93)) hJ1 (by rw [List.length_take]; omega)
        unfold encG at hy
        dsimp only at hy
        rw [hstep] at hR
        have HR := hide hR
        clear hR hJ1 hJ1d
        rw [show gapAt rs 0 = 0 from rfl] at hy
        simp only [Int.natCast_zero] at hin hi0 ⊢
        gi_wp2
        refine HR.out.mono ?_
        rintro e W3 (⟨rfl, hJ3, hk3⟩ | ⟨rfl, hJx3⟩)
        · gi_wp2
          go_roundg (K - (0 + 1))
          case rel => exact ⟨0 + 1, by go_num, by omega, by omega, hJ3, HA1.out.keep hk3⟩
          case measure => omega
        · gi_wp2
          exact bodyPost_ret (results_none rfl _ _ _) rfl ⟨⟨_, rfl⟩, .inr ⟨_, List.take_prefix _ _, hJx3⟩⟩
      | succ m =>
        obtain ⟨p, hp⟩ : ∃ p, rs[m]? = some p := ⟨_, List.getElem?_eq_getElem (by rw [HK.out]; omega)⟩
        obtain ⟨k', hk', hkl', y0, y1⟩ := HA1.out.row m p hp
        obtain rfl : k = k' := by injection hk' with e1; injection e1
        obtain ⟨fn, tmps, assign, body, hy, hR⟩ := HY.out _ (gapAt rs (m + 1), r) (wr.alloc (.cells #[.int .i64 r.lo, .int .i64 r.hi] 93)).drew hJ1d (by rw [List.length_take]; omega)
        unfold encG at hy
        dsimp only at hy
        rw [hstep] at hR
        have HR := hide hR
        clear hR hJ1 hJ1d
        rw [gapAt_succ hp hr] at hy
        have o1 := HOK.out.ok p (List.mem_of_getElem? hp)
        have o2 := HOK.out.ok r (List.mem_of_getElem? hr)
        have hw0 : IntKind.i64.wrap (m : Int) = m := by rw [IntKind.wrap_i64]; omega
        have hw1 : IntKind.i64.wrap (p.lo - r.hi) = p.lo - r.hi := by rw [IntKind.wrap_i64]; omega
        have hw2 : IntKind.i64.wrap (p.lo - r.hi - 2) = p.lo - r.hi - 2 := by rw [IntKind.wrap_i64]; omega
        have hm1 : (m : Int) < (K : Int) := by omega
        have hm2 : (0 : Int) < ((m : Int) + 1) := by omega
        simp only [Int.natCast_add, Int.natCast_one] at hin hi0 ⊢
        gi_upto_region 5 with (fail)
        gi_region
        all_goals
          gi_wp2
          refine HR.out.mono ?_
          rintro e W3 (⟨rfl, hJ3, hk3⟩ | ⟨rfl, hJx3⟩)
          · gi_wp2
            go_roundg (K - (m + 1 + 1))
            case rel => exact ⟨m + 1 + 1, by go_num, by omega, by omega, hJ3, (HA1.out.below (Below.refl _ _).drew).keep hk3⟩
            case measure => omega
          · gi_wp2
            exact bodyPost_ret (results_none rfl _ _ _) rfl ⟨⟨_, rfl⟩, .inr ⟨_, List.take_prefix _ _, hJx3⟩⟩
    · obtain rfl : i = K := by omega
      have hin : ¬ (i : Int) < (i : Int) := by omega
      rw [List.take_of_length_le (by rw [gapL_len, HK.out]; exact Nat.le_refl _)] at hJs
      gi_wp2
      go_end0
      first
      | exact ⟨⟨_, rfl⟩, .inl ⟨_, rfl, hJs⟩⟩
      | exact ⟨⟨_, rfl⟩, .inl hJs⟩
end Go.Proofs.YtgicljeedegncaaGreat
