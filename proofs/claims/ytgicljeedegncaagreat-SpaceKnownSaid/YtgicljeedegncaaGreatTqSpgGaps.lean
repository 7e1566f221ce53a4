/-
 8 texts in one (RttOk, PersistAny, RttAny, Eq3, PersistHelp, PersistWorks, AkPlain, SpgGaps).
-/
import Derived.Test.YtgicljeedegncaaGreatTqLossCheck
import Derived.Test.YtgicljeedegncaaGreatPersistPeriod
import Derived.ChangeKeysEq
import Derived.Test.YtgicljeedegncaaGreatTqSpanAdd
import Derived.Test.YtgicljeedegncaaGreatTqSentRef2
import Derived.Test.YtgicljeedegncaaGreatTqFrameGaps
namespace Go.Proofs.YtgicljeedegncaaGreat
open List renaming getElem?_toArray → ZG
open Go.Value renaming int → ZI
open Go.IntKind renaming i64 → ZQ
set_option linter.unusedSimpArgs false
set_option linter.unusedVariables false
open Go.RowKit

/-- A measure. -/
structure RT where
 latest : Int
 min : Int
 smooth : Int
 var : Int
 first : Int
def rtV (r : RT) : Value := .agg #[ZI ZQ r.latest, ZI ZQ r.min, ZI ZQ r.smooth, ZI ZQ r.var, ZI ZQ r.first]
/-- One that is sampled, and small. -/
structure RT.ok (r : RT) : Prop where
 l : 0 ≤ r.latest ∧ r.latest ≤ 1099511627776
 m : 0 ≤ r.min ∧ r.min ≤ 1099511627776
 s : 0 ≤ r.smooth ∧ r.smooth ≤ 1099511627776
 v : 0 ≤ r.var ∧ r.var ≤ 1099511627776
 f : 0 ≤ r.first ∧ r.first ≤ 1099511627776
 lm : r.min ≤ r.latest
 sm : r.min ≤ r.smooth
set_option maxHeartbeats 1000000 in
theorem rtttime_any (k : Nat) (zs : List Int) (n cap : Nat) (t : TypeId) (w : World) (hB : Blk w k t (zs.map fun z => Value.int .i64 z).toArray) (hn : zs.length = n) (hl : n ≤ 100) (hz : ∀ z ∈ zs, 0 ≤ z ∧ z ≤ 9007199254740991) :
  Calls Tryz.prog 141 #[.slice (some ⟨k, 0, none⟩) n cap] w fun e w' => e = .returned (.bool true) ∧ w = w' := by
 have HB := hide hB
 have HZ := hide hz
 have HN := hide hn
 clear hB hz hn
 go_enter Tryz.func141, Tryz.ntmps141
 go_wp2_with fail
 go_loopg [7] n (fun kx s7 wr => ∃ i : Nat, s7 = ZI ZQ i ∧ i ≤ n ∧ n - i ≤ kx ∧ wr = w)
 case atStart => exact ⟨0, rfl, by omega, by omega, rfl⟩
 case round =>
  obtain ⟨i, rfl, hi, hkx, rfl⟩ := hrel
  by_cases hlt : i < n
  ·obtain ⟨z, hz⟩ : ∃ z, zs[i]? = some z := ⟨_, List.getElem?_eq_getElem (by rw [HN.out]; exact hlt)⟩
   obtain ⟨z0, z1⟩ := HZ.out z (List.mem_of_getElem? hz)
   have hc := HB.out.cell i
   rw [ZG, List.getElem?_map, hz] at hc
   have hin : (i : Int) < (n : Int) := by omega
   have hn0 : ¬ z < 0 := by omega
   have hn1 : ¬ 9007199254740991 < z := by omega
   clear hz
   go_wp2_with fail
   go_roundg (n - (i + 1))
   case rel => exact ⟨i + 1, by go_num, by omega, by omega, rfl⟩
   case measure => omega
  ·obtain rfl : i = n := by omega
   have hin : ¬ (i : Int) < (i : Int) := by omega
   go_wp2_with fail
   go_ret
   exact ⟨rfl, rfl⟩
set_option maxHeartbeats 1000000 in
theorem rttcheck_ok (r : RT) (w : World) (h : r.ok) : Calls Tryz.prog 95 #[rtV r] w fun e w' => e = .returned (ZI ZQ 0) ∧ Below w.heap.size w w' := by
 obtain ⟨⟨l0, l1⟩, ⟨m0, m1⟩, ⟨s0, s1⟩, ⟨v0, v1⟩, ⟨f0, f1⟩, lm, sm⟩ := h
 obtain ⟨la, mi, sm_, va, fi⟩ := r
 unfold rtV
 dsimp only at *
 have hf : (fi == -1) = false := by rw [beq_eq_false_iff_ne]; omega
 have hbw : Below w.heap.size w ((w.alloc (.cells #[ZI ZQ la, ZI ZQ mi, ZI ZQ sm_, ZI ZQ va, ZI ZQ fi] 45)).alloc (.cells #[ZI ZQ fi, ZI ZQ la, ZI ZQ mi, ZI ZQ sm_, ZI ZQ va] 3)) := ((Below.refl _ _).alloc (Nat.le_refl _) _).alloc (by simp) _
 have HT := hide (rtttime_any (w.heap.size + 1) [fi, la, mi, sm_, va] 5 5 3 ((w.alloc (.cells #[ZI ZQ la, ZI ZQ mi, ZI ZQ sm_, ZI ZQ va, ZI ZQ fi] 45)).alloc (.cells #[ZI ZQ fi, ZI ZQ la, ZI ZQ mi, ZI ZQ sm_, ZI ZQ va] 3)) (by
  have := Blk.new (w.alloc (.cells #[ZI ZQ la, ZI ZQ mi, ZI ZQ sm_, ZI ZQ va, ZI ZQ fi] 45)) 3 #[ZI ZQ fi, ZI ZQ la, ZI ZQ mi, ZI ZQ sm_, ZI ZQ va]
  rw [World.size_alloc] at this
  exact this) rfl (by omega) (by
  intro z hz
  simp at hz
  rcases hz with rfl | rfl | rfl | rfl | rfl <;> omega))
 have HBW := hide hbw
 obtain ⟨K, hK⟩ : ∃ K, (if sm_ < la then sm_ else la) = K := ⟨_, rfl⟩
 have hK1 : ¬ K < mi := by rw [← hK]; split <;> omega
 clear hbw
 go_enter Tryz.func95, Tryz.ntmps95
 go_wp2_with fail
 refine HT.out.mono ?_
 rintro e1 w1 ⟨rfl, rfl⟩
 go_wp2_with fail
 all_goals
  go_ret
  exact ⟨rfl, HBW.out⟩
end Go.Proofs.YtgicljeedegncaaGreat

namespace Go.Proofs.YtgicljeedegncaaGreat
open List renaming getElem?_toArray → ZG
open Go.Value renaming int → ZI
open Go.IntKind renaming i64 → ZQ
set_option linter.unusedSimpArgs false
set_option linter.unusedVariables false
open Go.RowKit

theorem period_any (a : Option Addr) (n cap : Nat) (ps : List PK) (q : Option Addr) (rs : List Rg) (first : Int) (w : World) (hn : ps.length = n) (hcap : n ≤ cap) (hP : PksAt w a ps) (ha : ∀ k o, a = some ⟨k, o, none⟩ → k < w.heap.size) (hA : AckAt w (.pointer q) rs) :
  Calls Tryz.prog 134 #[.slice a n cap, .pointer q, ZI ZQ first] w fun e W' => e = .returned (perV (periodOf rs first ps)) ∧ Below w.heap.size w W' := by
 subst hn
 exact callsIn_wide.1 (period_in Fence.wide 5 trivial trivial trivial trivial trivial trivial trivial trivial rfl (by omega)
  (hide fun m p first Bf w h => callsIn_wide.2 (counts_any p first Bf w h (cell_lt h)))
  (hide fun m a b v rs Bk w h h2 h3 h4 => callsIn_wide.2 (free_any a b v rs Bk w h (cell_lt h) h2 (by have := h3.1; omega) h3.2.1 (by have := h4.1; omega) h4.2.1))
  (hide fun m a b B st w h => callsIn_wide.2 (keep_any a b B st w h))
  (hide fun m a n cap q first w => callsIn_wide.2 (pairs_any a n cap q first w))
  (hide fun m a len cap ps w h1 h2 h3 => callsIn_wide.2 (losscheck_any a len cap ps w h1 h2 h3))
  (hide fun m n w => callsIn_wide.2 (satis_any n w))
  a cap ps q rs first w hcap hP ha hA)

/-- The wait, of a measure, and a delay. -/
def baseOf (r : RT) (delay : Int) : Int := r.smooth + (if 4 * r.var < 1000000 then 1000000 else 4 * r.var) + delay
end Go.Proofs.YtgicljeedegncaaGreat

namespace Go.Proofs.YtgicljeedegncaaGreat
open List renaming getElem?_toArray → ZG
open Go.Value renaming int → ZI
open Go.IntKind renaming i64 → ZQ
set_option linter.unusedSimpArgs false
set_option linter.unusedVariables false
open Go.RowKit

def isT (z : Int) : Bool := decide (0 ≤ z) && decide (z ≤ 9007199254740991)
set_option maxHeartbeats 1000000 in
theorem rtttime_gen (k : Nat) (zs : List Int) (n cap : Nat) (t : TypeId) (w : World) (hB : Blk w k t (zs.map fun z => Value.int .i64 z).toArray) (hn : zs.length = n) (hl : n ≤ 100) :
  Calls Tryz.prog 141 #[.slice (some ⟨k, 0, none⟩) n cap] w fun e w' => e = .returned (.bool (zs.all isT)) ∧ w = w' := by
 have HB := hide hB
 have HN := hide hn
 clear hB hn
 go_enter Tryz.func141, Tryz.ntmps141
 go_wp2_with fail
 go_loopg [7] n (fun kx s7 wr => ∃ i : Nat, s7 = ZI ZQ i ∧ i ≤ n ∧ n - i ≤ kx ∧ Hid (zs.all isT = (zs.drop i).all isT) ∧ wr = w)
 case atStart => exact ⟨0, rfl, by omega, by omega, rfl, rfl⟩
 case round =>
  obtain ⟨i, rfl, hi, hkx, hok, rfl⟩ := hrel
  by_cases hlt : i < n
  ·have hir : i < zs.length := by rw [HN.out]; exact hlt
   obtain ⟨z, hz⟩ : ∃ z, zs[i]? = some z := ⟨_, List.getElem?_eq_getElem hir⟩
   have hd : zs.drop i = z :: zs.drop (i + 1) := by
    rw [List.drop_eq_getElem_cons hir]
    congr 1
    rw [List.getElem?_eq_getElem hir] at hz
    exact Option.some.inj hz
   have HOK : Hid (zs.all isT = (isT z && (zs.drop (i + 1)).all isT)) := by rw [hok, hd]; rfl
   have hc := HB.out.cell i
   rw [ZG, List.getElem?_map, hz] at hc
   have hin : (i : Int) < (n : Int) := by omega
   clear hz hok hd hir
   by_cases h0 : z < 0
   ·have HF : Hid (zs.all isT = false) := by
     show _ = _
     rw [HOK.out]
     unfold isT
     rw [decide_eq_false (by omega)]
     rfl
    clear HOK
    go_wp2_with fail
    go_ret
    exact ⟨by rw [HF.out]; rfl, rfl⟩
   ·by_cases h1 : 9007199254740991 < z
    ·have HF : Hid (zs.all isT = false) := by
      show _ = _
      rw [HOK.out]
      unfold isT
      rw [decide_eq_false (show ¬ z ≤ 9007199254740991 by omega), Bool.and_false]
      rfl
     clear HOK
     go_wp2_with fail
     go_ret
     exact ⟨by rw [HF.out]; rfl, rfl⟩
    ·have HF : Hid (zs.all isT = (zs.drop (i + 1)).all isT) := by
      show _ = _
      rw [HOK.out]
      unfold isT
      rw [decide_eq_true (by omega), decide_eq_true (by omega)]
      rfl
     clear HOK
     go_wp2_with fail
     go_roundg (n - (i + 1))
     case rel => exact ⟨i + 1, by go_num, by omega, by omega, HF, rfl⟩
     case measure => omega
  ·obtain rfl : i = n := by omega
   have hin : ¬ (i : Int) < (i : Int) := by omega
   have HF : Hid (zs.all isT = true) := by show _ = _; rw [hok, List.drop_of_length_le (by rw [HN.out]; exact Nat.le_refl _)]; rfl
   clear hok
   go_wp2_with fail
   go_ret
   exact ⟨by rw [HF.out]; rfl, rfl⟩

/-- May a measure be? -/
def rtC (r : RT) : Bool := if r.first = -1 then decide (1000000 ≤ r.smooth) && decide (r.smooth ≤ 60000000000) && decide (r.latest = 0) && decide (r.min = 0) && decide (r.var = r.smooth / 2)
 else isT r.first && isT r.latest && isT r.min && isT r.smooth && isT r.var && decide (r.min ≤ r.latest) && decide (r.min ≤ r.smooth)
set_option maxHeartbeats 1000000 in
theorem rttnew_ok (f : Int) (w : World) (h0 : 1000000 ≤ f) (h1 : f ≤ 60000000000) : Calls Tryz.prog 140 #[ZI ZQ f] w fun e w' => e = .returned (.tuple #[rtV ⟨0, 0, f, f / 2, -1⟩, ZI ZQ 0]) ∧ Below w.heap.size w w' := by
 unfold rtV
 have n0 : ¬ f < 1000000 := by omega
 have n1 : ¬ 60000000000 < f := by omega
 go_enter Tryz.func140, Tryz.ntmps140
 go_wp2_with fail
 exact bodyPost_ret (v := .tuple #[.agg #[ZI ZQ 0, ZI ZQ 0, ZI ZQ f, ZI ZQ (f / 2), ZI ZQ (-1)], ZI ZQ 0]) (by simp [results, Tryz.results140, go_sem]) rfl ⟨rfl, (Below.refl _ _).alloc (Nat.le_refl _) _⟩
set_option maxHeartbeats 1000000 in
theorem rttnew_no (f : Int) (w : World) (h : f < 1000000 ∨ 60000000000 < f) : Calls Tryz.prog 140 #[ZI ZQ f] w fun e w' => e = .returned (.tuple #[rtV ⟨0, 0, 0, 0, 0⟩, ZI ZQ 9]) ∧ Below w.heap.size w w' := by
 unfold rtV
 rcases h with h | h
 all_goals
  have n0 : f < 1000000 ∨ 60000000000 < f := by omega
  go_enter Tryz.func140, Tryz.ntmps140
  go_wp2_with fail
  exact bodyPost_ret (v := .tuple #[.agg #[ZI ZQ 0, ZI ZQ 0, ZI ZQ 0, ZI ZQ 0, ZI ZQ 0], ZI ZQ 9]) (by simp [results, Tryz.results140, go_sem]) rfl ⟨rfl, (Below.refl _ _).alloc (Nat.le_refl _) _⟩
set_option maxRecDepth 100000 in
set_option maxHeartbeats 2000000 in
theorem rttcheck_any (r : RT) (w : World) (hs : (-9223372036854775808 ≤ r.smooth ∧ r.smooth ≤ 9223372036854775807)) :
  Calls Tryz.prog 95 #[rtV r] w fun e w' => e = .returned (ZI ZQ (if rtC r = true then 0 else 2)) ∧ Below w.heap.size w w' := by
 have hbw : Below w.heap.size w (w.alloc (.cells #[ZI ZQ r.latest, ZI ZQ r.min, ZI ZQ r.smooth, ZI ZQ r.var, ZI ZQ r.first] 45)) := (Below.refl _ _).alloc (Nat.le_refl _) _
 have hx := Blk.new w 45 #[ZI ZQ r.latest, ZI ZQ r.min, ZI ZQ r.smooth, ZI ZQ r.var, ZI ZQ r.first]
 obtain ⟨la, mi, sm_, va, fi⟩ := r
 unfold rtC rtV
 dsimp only at *
 have HBW := hide hbw
 have HX := hide hx
 clear hbw hx
 by_cases hf : fi = -1
 ·subst hf
  rw [if_pos rfl]
  by_cases hr : 1000000 ≤ sm_ ∧ sm_ ≤ 60000000000
  ·have HN := hide (rttnew_ok sm_ (w.alloc (.cells #[ZI ZQ la, ZI ZQ mi, ZI ZQ sm_, ZI ZQ va, ZI ZQ (-1)] 45)) hr.1 hr.2)
   unfold rtV at HN
   dsimp only at HN
   by_cases he : la = 0 ∧ mi = 0 ∧ va = sm_ / 2
   ·obtain ⟨rfl, rfl, rfl⟩ := he
    rw [show (decide ((1000000 : Int) ≤ sm_) && decide (sm_ ≤ 60000000000) && decide ((0 : Int) = 0) && decide ((0 : Int) = 0) && decide (sm_ / 2 = sm_ / 2)) = true by simp [hr.1, hr.2], if_pos rfl]
    clear hr hs
    go_enter Tryz.func95, Tryz.ntmps95
    go_wp2_with fail
    refine HN.out.mono ?_
    rintro e1 w1 ⟨rfl, hb1⟩
    have hx1 := (hb1.block _ HX.out.lt).trans HX.out
    have c0 := Blk.cell hx1 0
    have c1 := Blk.cell hx1 1
    have c2 := Blk.cell hx1 2
    have c3 := Blk.cell hx1 3
    have c4 := Blk.cell hx1 4
    have hlt := Blk.lt hx1
    have HB1 := hide (bw_below' HBW.out hb1)
    clear hb1 hx1
    go_wp2_with fail
    go_ret
    exact ⟨rfl, HB1.out.alloc HB1.out.size _⟩
   ·have hno : (decide ((1000000 : Int) ≤ sm_) && decide (sm_ ≤ 60000000000) && decide (la = 0) && decide (mi = 0) && decide (va = sm_ / 2)) = false := by
     rw [Bool.eq_false_iff]
     intro h
     simp only [Bool.and_eq_true, decide_eq_true_eq] at h
     exact he ⟨h.1.1.2, h.1.2, h.2⟩
    rw [hno, if_neg (by simp)]
    have hne : ((0 : Int) == la) = false ∨ (((0 : Int) == la) = true ∧ ((0 : Int) == mi) = false) ∨ (((0 : Int) == la) = true ∧ ((0 : Int) == mi) = true ∧ (sm_ / 2 == va) = false) := by
     simp only [beq_eq_false_iff_ne, beq_iff_eq]
     omega
    clear hr hs hno he
    go_enter Tryz.func95, Tryz.ntmps95
    go_wp2_with fail
    refine HN.out.mono ?_
    rintro e1 w1 ⟨rfl, hb1⟩
    have hx1 := (hb1.block _ HX.out.lt).trans HX.out
    have c0 := Blk.cell hx1 0
    have c1 := Blk.cell hx1 1
    have c2 := Blk.cell hx1 2
    have c3 := Blk.cell hx1 3
    have c4 := Blk.cell hx1 4
    have hlt := Blk.lt hx1
    have HB1 := hide (bw_below' HBW.out hb1)
    clear hb1 hx1
    rcases hne with h1 | ⟨h1, h2⟩ | ⟨h1, h2, h3⟩
    all_goals
     go_wp2_with fail
     go_ret
     exact ⟨rfl, HB1.out.alloc HB1.out.size _⟩
  ·have HN := hide (rttnew_no sm_ (w.alloc (.cells #[ZI ZQ la, ZI ZQ mi, ZI ZQ sm_, ZI ZQ va, ZI ZQ (-1)] 45)) (by omega))
   unfold rtV at HN
   dsimp only at HN
   have hno : (decide ((1000000 : Int) ≤ sm_) && decide (sm_ ≤ 60000000000) && decide (la = 0) && decide (mi = 0) && decide (va = sm_ / 2)) = false := by
    rw [Bool.eq_false_iff]
    intro h
    simp only [Bool.and_eq_true, decide_eq_true_eq] at h
    exact hr h.1.1.1
   rw [hno, if_neg (by simp)]
   clear hr hs hno
   go_enter Tryz.func95, Tryz.ntmps95
   go_wp2_with fail
   refine HN.out.mono ?_
   rintro e1 w1 ⟨rfl, hb1⟩
   have HB1 := hide (bw_below' HBW.out hb1)
   clear hb1
   go_wp2_with fail
   go_ret
   exact ⟨rfl, HB1.out.alloc HB1.out.size _⟩
 ·rw [if_neg hf]
  have hff : (fi == -1) = false := by rw [beq_eq_false_iff_ne]; exact hf
  have hbw : Below w.heap.size w ((w.alloc (.cells #[ZI ZQ la, ZI ZQ mi, ZI ZQ sm_, ZI ZQ va, ZI ZQ fi] 45)).alloc (.cells #[ZI ZQ fi, ZI ZQ la, ZI ZQ mi, ZI ZQ sm_, ZI ZQ va] 3)) := ((Below.refl _ _).alloc (Nat.le_refl _) _).alloc (by simp) _
  have HT := hide (rtttime_gen (w.heap.size + 1) [fi, la, mi, sm_, va] 5 5 3 ((w.alloc (.cells #[ZI ZQ la, ZI ZQ mi, ZI ZQ sm_, ZI ZQ va, ZI ZQ fi] 45)).alloc (.cells #[ZI ZQ fi, ZI ZQ la, ZI ZQ mi, ZI ZQ sm_, ZI ZQ va] 3)) (by
   have := Blk.new (w.alloc (.cells #[ZI ZQ la, ZI ZQ mi, ZI ZQ sm_, ZI ZQ va, ZI ZQ fi] 45)) 3 #[ZI ZQ fi, ZI ZQ la, ZI ZQ mi, ZI ZQ sm_, ZI ZQ va]
   rw [World.size_alloc] at this
   exact this) rfl (by omega))
  have HBW2 := hide hbw
  have hall : [fi, la, mi, sm_, va].all isT = (isT fi && isT la && isT mi && isT sm_ && isT va) := by simp [Bool.and_assoc]
  rw [hall] at HT
  obtain ⟨T, hT⟩ : ∃ T, (isT fi && isT la && isT mi && isT sm_ && isT va) = T := ⟨_, rfl⟩
  rw [hT] at HT ⊢
  clear hbw hall hT HX hf hs
  cases T with
  | false =>
   rw [Bool.false_and, Bool.false_and, if_neg (by simp)]
   go_enter Tryz.func95, Tryz.ntmps95
   go_wp2_with fail
   refine HT.out.mono ?_
   rintro e1 w1 ⟨rfl, rfl⟩
   go_wp2_with fail
   all_goals
    go_ret
    exact ⟨rfl, HBW2.out⟩
  | true =>
   rw [Bool.true_and]
   by_cases h1 : mi ≤ la
   ·by_cases h2 : mi ≤ sm_
    ·rw [decide_eq_true h1, decide_eq_true h2, if_pos (by rfl)]
     have h3 : ¬ la < mi := by omega
     have h4 : ¬ sm_ < mi := by omega
     go_enter Tryz.func95, Tryz.ntmps95
     go_wp2_with fail
     refine HT.out.mono ?_
     rintro e1 w1 ⟨rfl, rfl⟩
     go_wp2_with fail
     all_goals
      go_ret
      exact ⟨rfl, HBW2.out⟩
    ·rw [decide_eq_true h1, decide_eq_false h2, if_neg (by simp)]
     have h3 : sm_ < la := by omega
     go_enter Tryz.func95, Tryz.ntmps95
     go_wp2_with fail
     refine HT.out.mono ?_
     rintro e1 w1 ⟨rfl, rfl⟩
     go_wp2_with fail
     all_goals
      go_ret
      exact ⟨rfl, HBW2.out⟩
   ·rw [decide_eq_false h1, Bool.false_and, if_neg (by simp)]
    by_cases h2 : sm_ < la
    ·have h3 : sm_ < mi := by omega
     go_enter Tryz.func95, Tryz.ntmps95
     go_wp2_with fail
     refine HT.out.mono ?_
     rintro e1 w1 ⟨rfl, rfl⟩
     go_wp2_with fail
     all_goals
      go_ret
      exact ⟨rfl, HBW2.out⟩
    ·go_enter Tryz.func95, Tryz.ntmps95
     go_wp2_with fail
     refine HT.out.mono ?_
     rintro e1 w1 ⟨rfl, rfl⟩
     go_wp2_with fail
     all_goals
      go_ret
      exact ⟨rfl, HBW2.out⟩
end Go.Proofs.YtgicljeedegncaaGreat

namespace Go.Proofs.YtgicljeedegncaaGreat
open List renaming getElem?_toArray → ZG
open Go.Value renaming int → ZI
open Go.IntKind renaming i64 → ZQ
open Go.RowKit
end Go.Proofs.YtgicljeedegncaaGreat

namespace Go.Proofs.YtgicljeedegncaaGreat
open List renaming getElem?_toArray → ZG
open Go.Value renaming int → ZI
open Go.IntKind renaming i64 → ZQ
set_option linter.unusedSimpArgs false
set_option linter.unusedVariables false
open Go.RowKit

/-- A lost packet, to be acknowledged. -/
def atP (n t : Int) : PK := ⟨n, t, 100, true, true, false⟩
end Go.Proofs.YtgicljeedegncaaGreat

namespace Go.Proofs.YtgicljeedegncaaGreat
open List renaming getElem?_toArray → ZG
open Go.Value renaming int → ZI
open Go.IntKind renaming i64 → ZQ
set_option linter.unusedSimpArgs false
set_option linter.unusedVariables false
open Go.RowKit

def setOf (xs : List Rg) : List Rg := xs.foldl (fun s r => addR r.lo r.hi s) []
def RgOk (r : Rg) : Prop := 0 ≤ r.lo ∧ r.lo ≤ r.hi ∧ r.hi ≤ 9007199254740991
def SetPost (w : World) (rs : List Rg) (e : Ending) (w' : World) : Prop := ∃ b g, e = .returned (.pointer (some ⟨b, 0, none⟩)) ∧ SAt w w' b g 256 rs
def fourP : List PK := [atP 1 10, atP 3 50, atP 5 60, atP 8 200]
def FourPost (w : World) (e : Ending) (w' : World) : Prop := ∃ k, e = .returned (.slice (some ⟨k, 0, none⟩) 4 4) ∧ PksAt w' (some ⟨k, 0, none⟩) fourP ∧ k < w'.heap.size ∧ Below w.heap.size w w'
end Go.Proofs.YtgicljeedegncaaGreat

namespace Go.Proofs.YtgicljeedegncaaGreat
open List renaming getElem?_toArray → ZG
open Go.Value renaming int → ZI
open Go.IntKind renaming i64 → ZQ
set_option linter.unusedSimpArgs false
set_option linter.unusedVariables false
open Go.RowKit Go.Shelf

/-- What an ACK holds, besides its ranges' place. -/
structure AK where
 delay : Int
 rs : List Rg
 marked : Bool
 e0 : Int
 e1 : Int
 e2 : Int
def akC (k : AK) (a : Option Addr) (n c : Nat) : Array Value := #[ZI ZQ k.delay, .slice a n c, .bool k.marked, ZI ZQ k.e0, ZI ZQ k.e1, ZI ZQ k.e2]
def numB (r : Rg) : Bool := isT r.lo && isT r.hi && decide (r.lo ≤ r.hi)
def okAt (rs : List Rg) (i : Nat) : Bool := match rs[i]? with
 | some r => numB r && decide (0 ≤ gapAt rs i)
 | none => true
def okTake (rs : List Rg) : Nat → Bool
 | 0 => true
 | i + 1 => okTake rs i && okAt rs i
def markB (m : Bool) (z : Int) : Bool := isT z && (m || decide (z = 0))
def okAk (k : AK) : Bool := decide (1 ≤ k.rs.length) && decide (k.rs.length ≤ 256) && isT k.delay && okTake k.rs k.rs.length && markB k.marked k.e0 && markB k.marked k.e1 && markB k.marked k.e2
theorem isT_iff {z : Int} : isT z = true ↔ 0 ≤ z ∧ z ≤ 9007199254740991 := by simp [isT]
theorem numB_iff {r : Rg} : numB r = true ↔ 0 ≤ r.lo ∧ r.lo ≤ r.hi ∧ r.hi ≤ 9007199254740991 := by
 unfold numB
 rw [Bool.and_eq_true, Bool.and_eq_true, isT_iff, isT_iff, decide_eq_true_iff]
 omega
theorem okTake_iff {rs : List Rg} : ∀ {n : Nat}, okTake rs n = true ↔ ∀ i, i < n → okAt rs i = true
 | 0 => by simp [okTake]
 | n + 1 => by
  unfold okTake
  rw [Bool.and_eq_true, okTake_iff]
  constructor
  ·rintro ⟨h1, h2⟩ i hi
   by_cases e : i = n
   ·subst e; exact h2
   ·exact h1 i (by omega)
  ·intro h
   exact ⟨fun i hi => h i (by omega), h n (by omega)⟩
theorem okTake_bad {rs : List Rg} {i n : Nat} (hi : i < n) (h : okAt rs i = false) : okTake rs n = false := by
 cases e : okTake rs n with
 | false => rfl
 | true => rw [okTake_iff] at e; rw [e i hi] at h; cases h
theorem okAt_some {rs : List Rg} {i : Nat} {r : Rg} (h : rs[i]? = some r) : okAt rs i = (numB r && decide (0 ≤ gapAt rs i)) := by unfold okAt; rw [h]
theorem okAk_false {k : AK} (h : (1 ≤ k.rs.length → k.rs.length ≤ 256 → isT k.delay = true → okTake k.rs k.rs.length = true → markB k.marked k.e0 = true → markB k.marked k.e1 = true → markB k.marked k.e2 = true → False)) : okAk k = false := by
 cases e : okAk k with
 | false => rfl
 | true =>
  unfold okAk at e
  simp only [Bool.and_eq_true, decide_eq_true_iff] at e
  obtain ⟨⟨⟨⟨⟨⟨h1, h2⟩, h3⟩, h4⟩, h5⟩, h6⟩, h7⟩ := e
  exact (h h1 h2 h3 h4 h5 h6 h7).elim
theorem okAk_true {k : AK} (h1 : 1 ≤ k.rs.length) (h2 : k.rs.length ≤ 256) (h3 : isT k.delay = true) (h4 : okTake k.rs k.rs.length = true) (h5 : markB k.marked k.e0 = true) (h6 : markB k.marked k.e1 = true) (h7 : markB k.marked k.e2 = true) : okAk k = true := by
 unfold okAk
 simp [h1, h2, h3, h4, h5, h6, h7]
theorem ackOk_of {k : AK} (h : okAk k = true) : AckOk k.rs := by
 unfold okAk at h
 simp only [Bool.and_eq_true, decide_eq_true_iff] at h
 obtain ⟨⟨⟨⟨⟨⟨h1, h2⟩, h3⟩, h4⟩, h5⟩, h6⟩, h7⟩ := h
 rw [okTake_iff] at h4
 refine ⟨h2, h1, fun r hr => ?_, fun i p q hp hq => ?_⟩
 ·obtain ⟨i, hi⟩ := List.mem_iff_getElem?.1 hr
  have := h4 i (List.getElem?_eq_some_iff.1 hi).1
  rw [okAt_some hi, Bool.and_eq_true] at this
  exact numB_iff.1 this.1
 ·have := h4 (i + 1) (List.getElem?_eq_some_iff.1 hq).1
  rw [okAt_some hq, Bool.and_eq_true, decide_eq_true_iff, gapAt_succ hp hq] at this
  omega
/-- The ranges' numbers may be, whatever their order. -/
structure NumsOk (rs : List Rg) : Prop where
 le : rs.length ≤ 256
 ok : ∀ r ∈ rs, 0 ≤ r.lo ∧ r.lo ≤ r.hi ∧ r.hi ≤ 9007199254740991
theorem gapL_bad {rs : List Rg} {x : Int × Rg} (h : x ∈ gapL rs) (hx : x.1 < 0) : okTake rs rs.length = false := by
 unfold gapL at h
 rw [List.mem_mapIdx] at h
 obtain ⟨i, hi, rfl⟩ := h
 refine okTake_bad hi ?_
 rw [okAt_some (List.getElem?_eq_getElem hi)]
 simp only at hx
 simp
 omega
theorem gapL_good {rs : List Rg} (hn : ∀ r ∈ rs, numB r = true) (h : ∀ x ∈ gapL rs, ¬ x.1 < 0) : okTake rs rs.length = true := by
 rw [okTake_iff]
 intro i hi
 have hr := List.getElem?_eq_getElem hi
 rw [okAt_some hr, hn _ (List.getElem_mem hi)]
 have := h _ (List.mem_of_getElem? (gapL_at hr))
 simp only at this
 simp
 omega
end Go.Proofs.YtgicljeedegncaaGreat

namespace Go.Proofs.YtgicljeedegncaaGreat
open List renaming getElem?_toArray → ZG
open Go.Value renaming int → ZI
open Go.IntKind renaming i64 → ZQ
set_option linter.unusedSimpArgs false
set_option linter.unusedVariables false
open Go.RowKit Go.Shelf
attribute [local go_sem] Oper.semAt_some

/-- What the iterator reads. -/
structure GqAt (W : World) (Bx : Nat) (a : Option Addr) (c : Nat) (ak : AK) : Prop where
 box : Blk W Bx 52 (akC ak a ak.rs.length c)
 row : RgAt W a ak.rs
theorem GqAt.keep {W W' : World} {Bx : Nat} {a : Option Addr} {c : Nat} {ak : AK} (h : GqAt W Bx a c ak) (k : KeepC [] W W') : GqAt W' Bx a c ak := ⟨k.blk h.box (by simp), h.row.keepC k⟩
theorem GqAt.below {W W' : World} {Bx : Nat} {a : Option Addr} {c : Nat} {ak : AK} (h : GqAt W Bx a c ak) (hb : Below W.heap.size W W') : GqAt W' Bx a c ak := h.keep (keepC_below hb)

set_option maxRecDepth 100000 in
set_option maxHeartbeats 4000000 in
theorem gapsq_in (n : Nat) (hn : 1 ≤ n) (l Bx : Nat) (a : Option Addr) (c : Nat) (ak : AK) (hok : NumsOk ak.rs) (J Jx : List (Int × Rg) → World → Prop)
  (hJ : ∀ pre A B, J pre A → Below A.heap.size A B → J pre B)
  (hY : ∀ pre x W, J pre W → pre.length < ak.rs.length → YieldAt Fence.wide (n - 1) Tryz.prog l (encG x) W fun e W' =>
   (e = .returned (.bool true) ∧ J (pre ++ [x]) W' ∧ KeepC [] W W') ∨ (e = .returned (.bool false) ∧ Jx (pre ++ [x]) W'))
  (W : World) (hA : GqAt W Bx a c ak) (h0 : J [] W) :
  CallsIn Fence.wide n Tryz.prog 149 #[.func (.yield l) #[] #[], .pointer (some ⟨Bx, 0, none⟩)] W fun e W' => (∃ v, e = .returned v) ∧
   ((∃ ys, ys = gapL ak.rs ∧ J ys W') ∨ (∃ pre, pre <+: gapL ak.rs ∧ Jx pre W')) := by
 refine callsIn_of_wp Tryz.func149 rfl trivial ?_ rfl
 simp only [Tryz.ntmps149, List.size_toArray, List.length_cons, List.length_nil, Nat.reduceAdd, Nat.reduceSub, Array.replicate_succ, Array.replicate_zero, List.push_toArray, List.append_toArray, List.nil_append, List.cons_append]
 have q1 : W.cell? ⟨Bx, 1, none⟩ = some (.slice a ak.rs.length c) := hA.box.cell 1
 have hle := hok.le
 have HA := hide hA
 have HOK := hide hok
 have HJ := hide hJ
 have HY := hide hY
 clear hA hok hJ hY
 obtain ⟨K, hK⟩ : ∃ K, ak.rs.length = K := ⟨_, rfl⟩
 have HK := hide hK
 rw [hK] at q1 hle HY
 clear hK
 gi_wp2
 gi_loopg [9] K (fun kx s9 wr => ∃ i : Nat, s9 = ZI ZQ i ∧ i ≤ K ∧ K - i ≤ kx ∧ J ((gapL ak.rs).take i) wr ∧ GqAt wr Bx a c ak)
 case atStart => exact ⟨0, rfl, by omega, by omega, h0, HA.out⟩
 case round =>
  clear q1 HA h0
  obtain ⟨i, rfl, hi, hkx, hJs, hA⟩ := hrel
  by_cases hlt : i < K
  ·obtain ⟨r, hr⟩ : ∃ r, ak.rs[i]? = some r := ⟨_, List.getElem?_eq_getElem (by rw [HK.out]; exact hlt)⟩
   obtain ⟨k, rfl, hk, z0, z1⟩ := hA.row i r hr
   have q1 : wr.cell? ⟨Bx, 1, none⟩ = some (.slice (some ⟨k, 0, none⟩) ak.rs.length c) := hA.box.cell 1
   rw [HK.out] at q1
   have hbA : Below wr.heap.size wr (wr.alloc (.cells #[ZI ZQ r.lo, ZI ZQ r.hi] 93)) := (Below.refl _ _).alloc (Nat.le_refl _) _
   have hin : (i : Int) < (K : Int) := by omega
   have hi0 : (0 : Int) ≤ (i : Int) := by omega
   have hJ1 := HJ.out _ _ _ hJs hbA
   have hA1 := hA.below hbA
   have hX := Blk.new wr 93 #[ZI ZQ r.lo, ZI ZQ r.hi]
   have x0 : (wr.alloc (.cells #[ZI ZQ r.lo, ZI ZQ r.hi] 93)).cell? ⟨wr.heap.size, 0, none⟩ = some (ZI ZQ r.lo) := hX.cell 0
   have x1 : (wr.alloc (.cells #[ZI ZQ r.lo, ZI ZQ r.hi] 93)).cell? ⟨wr.heap.size, 1, none⟩ = some (ZI ZQ r.hi) := hX.cell 1
   have q1' := (hbA.cell (p := ⟨Bx, 1, none⟩) (cell_lt q1)).trans q1
   have hstep : (gapL ak.rs).take i ++ [(gapAt ak.rs i, r)] = (gapL ak.rs).take (i + 1) := by
    rw [List.take_add_one, gapL_at hr]
    rfl
   have hJ1d := HJ.out _ _ _ hJs hbA.drew
   have HA1 := hide hA1
   clear hA1 hJs hA hX
   cases i with
   | zero =>
    obtain ⟨fn, tmps, assign, body, hy, hR⟩ := HY.out _ (gapAt ak.rs 0, r) (wr.alloc (.cells #[ZI ZQ r.lo, ZI ZQ r.hi] 93)) hJ1 (by rw [List.length_take]; omega)
    unfold encG at hy
    dsimp only at hy
    rw [hstep] at hR
    have HR := hide hR
    clear hR hJ1 hJ1d
    rw [show gapAt ak.rs 0 = 0 from rfl] at hy
    simp only [Int.natCast_zero] at hin hi0 ⊢
    gi_wp2
    refine HR.out.mono ?_
    rintro e W3 (⟨rfl, hJ3, hk3⟩ | ⟨rfl, hJx3⟩)
    ·gi_wp2
     go_roundg (K - (0 + 1))
     case rel => exact ⟨0 + 1, by go_num, by omega, by omega, hJ3, HA1.out.keep hk3⟩
     case measure => omega
    ·gi_wp2
     exact bodyPost_ret (results_none rfl _ _ _) rfl ⟨⟨_, rfl⟩, .inr ⟨_, List.take_prefix _ _, hJx3⟩⟩
   | succ m =>
    obtain ⟨p, hp⟩ : ∃ p, ak.rs[m]? = some p := ⟨_, List.getElem?_eq_getElem (by rw [HK.out]; omega)⟩
    obtain ⟨k', hk', hkl', y0, y1⟩ := HA1.out.row m p hp
    obtain rfl : k = k' := by injection hk' with e1; injection e1
    obtain ⟨fn, tmps, assign, body, hy, hR⟩ := HY.out _ (gapAt ak.rs (m + 1), r) (wr.alloc (.cells #[ZI ZQ r.lo, ZI ZQ r.hi] 93)).drew hJ1d (by rw [List.length_take]; omega)
    unfold encG at hy
    dsimp only at hy
    rw [hstep] at hR
    have HR := hide hR
    clear hR hJ1 hJ1d
    rw [gapAt_succ hp hr] at hy
    have o1 := HOK.out.ok p (List.mem_of_getElem? hp)
    have o2 := HOK.out.ok r (List.mem_of_getElem? hr)
    have hw0 : IntKind.i64.wrap (m : Int) = m := by rw [IntKind.wrap_i64]; omega
    have hw1 : IntKind.i64.wrap (p.lo - r.hi) = p.lo - r.hi := by rw [IntKind.wrap_i64]; omega
    have hw2 : IntKind.i64.wrap (p.lo - r.hi - 2) = p.lo - r.hi - 2 := by rw [IntKind.wrap_i64]; omega
    have hm1 : (m : Int) < (K : Int) := by omega
    have hm2 : (0 : Int) < ((m : Int) + 1) := by omega
    simp only [Int.natCast_add, Int.natCast_one] at hin hi0 ⊢
    gi_upto_region 5 with (fail)
    gi_region
    all_goals
     gi_wp2
     refine HR.out.mono ?_
     rintro e W3 (⟨rfl, hJ3, hk3⟩ | ⟨rfl, hJx3⟩)
     ·gi_wp2
      go_roundg (K - (m + 1 + 1))
      case rel => exact ⟨m + 1 + 1, by go_num, by omega, by omega, hJ3, (HA1.out.below (Below.refl _ _).drew).keep hk3⟩
      case measure => omega
     ·gi_wp2
      exact bodyPost_ret (results_none rfl _ _ _) rfl ⟨⟨_, rfl⟩, .inr ⟨_, List.take_prefix _ _, hJx3⟩⟩
  ·obtain rfl : i = K := by omega
   have hin : ¬ (i : Int) < (i : Int) := by omega
   rw [List.take_of_length_le (by rw [gapL_len, HK.out]; exact Nat.le_refl _)] at hJs
   gi_wp2
   go_end0
   first
   | exact ⟨⟨_, rfl⟩, .inl ⟨_, rfl, hJs⟩⟩
   | exact ⟨⟨_, rfl⟩, .inl hJs⟩
end Go.Proofs.YtgicljeedegncaaGreat
