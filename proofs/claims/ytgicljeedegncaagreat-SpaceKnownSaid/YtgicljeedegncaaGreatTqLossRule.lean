/-
 2 texts in one (SpcAck, LossRule).
-/
import Derived.Test.YtgicljeedegncaaGreatSpcDrop
import Derived.Test.YtgicljeedegncaaGreatTqSpgGaps
import Derived.Laws.EntriesVeiled
namespace Go.Proofs.YtgicljeedegncaaGreat
open Go.Value renaming int → ZI
open Go.IntKind renaming i64 → ZQ
set_option linter.unusedSimpArgs false
set_option linter.unusedVariables false
open Go.RowKit

theorem SpPost.off {w w' : World} {f f' : Ft} {s' : SpSt} (h : SpPost w f s' f' w') {x : Nat} (hx : x < w.heap.size) (hn : x ∉ f.all) : x ∉ f'.all := fun hm => by
 rcases h.new x hm with h1 | h1
 ·exact hn h1
 ·omega
/-- The ACK, and its box, while nothing of the space turns. -/
structure AqAt (w W : World) (f : Ft) (s : SpSt) (ra : Option Addr) (rc : Nat) (rs : List Rg) : Prop where
 sp : IsSp W f s
 box : Blk W w.heap.size 52 (ackC ra rs.length rc)
 row : RgAt W ra rs
 below : Below w.heap.size w W
section
variable {w W W' : World} {f : Ft} {s : SpSt} {ra : Option Addr} {rc : Nat} {rs : List Rg}
theorem AqAt.later (h : AqAt w W f s ra rc rs) (hb : Below W.heap.size W W') : AqAt w W' f s ra rc rs := ⟨h.sp.below hb, (hb.block _ h.box.lt).trans h.box, h.row.below hb, bw_below' h.below hb⟩
theorem AqAt.six (h : AqAt w W f s ra rc rs) : W.cell? ⟨w.heap.size, 0, none⟩ = some (ZI ZQ 0) ∧ W.cell? ⟨w.heap.size, 1, none⟩ = some (.slice ra rs.length rc) ∧ W.cell? ⟨w.heap.size, 2, none⟩ = some (.bool false) ∧ W.cell? ⟨w.heap.size, 3, none⟩ = some (ZI ZQ 0) ∧ W.cell? ⟨w.heap.size, 4, none⟩ = some (ZI ZQ 0) ∧ W.cell? ⟨w.heap.size, 5, none⟩ = some (ZI ZQ 0) := ⟨h.box.cell 0, h.box.cell 1, h.box.cell 2, h.box.cell 3, h.box.cell 4, h.box.cell 5⟩
end
/-- What Ack, or Lose, leaves: the packets that it tells, and the space without them. -/
def ToldPost (w : World) (f : Ft) (s' : SpSt) (out : List PK) (e : Ending) (w' : World) : Prop := ∃ a c f', e = .returned (.tuple #[.slice a out.length c, ZI ZQ 0]) ∧ PksAt w' a out ∧ out.length ≤ c ∧ (∀ k o, a = some ⟨k, o, none⟩ → w.heap.size ≤ k ∧ k < w'.heap.size ∧ k ∉ f'.all) ∧ SpPost w f s' f' w'
set_option maxRecDepth 100000 in
set_option maxHeartbeats 4000000 in
theorem spack_any (f : Ft) (s : SpSt) (ra : Option Addr) (rc : Nat) (rs : List Rg) (r0 : Rg) (M : Int) (w : World) (h : IsSp w f s) (hok : AckOk rs) (hr0 : rs[0]? = some r0) (hR : RgAt w ra rs) (hna : ∀ k, ra = some ⟨k, 0, none⟩ → k ∉ f.all) (hM : (if s.great < r0.hi then r0.hi else s.great) = M) :
  Calls Tryz.prog 21 #[.pointer (some ⟨f.b, 0, none⟩), .agg (ackC ra rs.length rc)] w fun e w' =>
   ((∀ r ∈ rs, s.K.any (inP r) = true) ∧ ∃ R', ToldPost w f { s with R := R', great := M, ps := dropL (ackP rs) (s.ps.map toPK) s.ps } ((s.ps.map toPK).filter (ackP rs)) e w') ∨
   ((∃ r ∈ rs, s.K.any (inP r) = false) ∧ e = .returned (.tuple #[.slice none 0 0, ZI ZQ 170]) ∧ Below w.heap.size w w') := by
 have hb0 : Below w.heap.size w (w.alloc (.cells (ackC ra rs.length rc) 52)) := (Below.refl _ _).alloc (Nat.le_refl _) _
 have h1 : AqAt w (w.alloc (.cells (ackC ra rs.length rc) 52)) f s ra rc rs := ⟨h.below hb0, Blk.new _ _ _, hR.below hb0, hb0⟩
 have HLT := hide h.lt
 have HQ := hide h1
 have HOK := hide hok
 have HR0 := hide hr0
 have HNA := hide hna
 have HM := hide hM
 have HRL := hide hR
 have HMAY := hide h.log.may
 have HRM := hide h.log.room
 obtain ⟨x0, x1, x2, x3, x4, x5⟩ := h1.six
 have hle := hok.le
 obtain ⟨K, hK⟩ : ∃ K, rs.length = K := ⟨_, rfl⟩
 have HK := hide hK
 clear h hb0 hok hR hna h1 hr0 hM
 unfold ackC at x0 x1 x2 x3 x4 x5 HQ ⊢
 rw [hK] at x0 x1 x2 x3 x4 x5 HQ hle ⊢
 clear hK
 go_enter Tryz.func21, Tryz.ntmps21
 go_wp2_with fail
 refine (spnone f s _ HQ.out.sp).mono ?_
 rintro e1 w1 ⟨rfl, rfl⟩
 go_wp2_with fail
 have HCK := hide (check_any ra rc rs _ HOK.out HQ.out.row)
 unfold ackC at HCK
 rw [HK.out] at HCK
 refine HCK.out.mono ?_
 rintro e2 w2 ⟨rfl, hb2⟩
 have HQ2 := hide (HQ.out.later hb2)
 clear HQ HCK x0 x1 x2 x3 x4 x5 hb2
 obtain ⟨x0, x1, x2, x3, x4, x5⟩ := HQ2.out.six
 rw [HK.out] at x1
 go_wp2_with fail
 go_loopg [19] K (fun kx s19 wr => ∃ i : Nat, s19 = ZI ZQ i ∧ i ≤ K ∧ K - i ≤ kx ∧ Hid (∀ (j : Nat) (r : Rg), j < i → rs[j]? = some r → s.K.any (inP r) = true) ∧ AqAt w wr f s ra rc rs)
 case atStart => exact ⟨0, rfl, by omega, by omega, fun j r hj => by omega, HQ2.out⟩
 case round =>
  clear HQ2 x0 x1 x2 x3 x4 x5
  obtain ⟨i, rfl, hi, hkx, hall, hQ⟩ := hrel
  by_cases hlt : i < K
  ·obtain ⟨r, hr⟩ : ∃ r, rs[i]? = some r := ⟨_, List.getElem?_eq_getElem (by rw [HK.out]; exact hlt)⟩
   obtain ⟨k, rfl, hk, z0, z1⟩ := hQ.row i r hr
   have hba : Below wr.heap.size wr (wr.alloc (.cells #[ZI ZQ r.lo, ZI ZQ r.hi] 93)) := (Below.refl _ _).alloc (Nat.le_refl _) _
   have hx := Blk.new wr 93 #[ZI ZQ r.lo, ZI ZQ r.hi]
   have x7 : (wr.alloc (.cells #[ZI ZQ r.lo, ZI ZQ r.hi] 93)).cell? ⟨wr.heap.size, 0, none⟩ = some (ZI ZQ r.lo) := hx.cell 0
   have x8 : (wr.alloc (.cells #[ZI ZQ r.lo, ZI ZQ r.hi] 93)).cell? ⟨wr.heap.size, 1, none⟩ = some (ZI ZQ r.hi) := hx.cell 1
   have hQ1 := hQ.later hba
   have HS := hide (sentall_any f s r _ hQ1.sp)
   have HQ1 := hide hQ1
   have HR := hide hr
   have HALL := hide hall
   have hin : (i : Int) < (K : Int) := by omega
   clear hQ hQ1 hx hba hr hall
   cases hs : s.K.any (inP r) with
   | true =>
    rw [hs] at HS
    have HSS := hide hs
    clear hs
    go_wp2_with fail
    refine HS.out.mono ?_
    rintro e3 w3 ⟨rfl, hb3⟩
    have hQ3 := HQ1.out.later hb3
    go_wp2_with fail
    go_roundg (K - (i + 1))
    case rel =>
     refine ⟨i + 1, by go_num, by omega, by omega, ?_, hQ3⟩
     intro j r' hj hr'
     by_cases hji : j < i
     ·exact HALL.out j r' hji hr'
     ·obtain rfl : j = i := by omega
      rw [HR.out] at hr'
      cases hr'
      exact HSS.out
    case measure => omega
   | false =>
    rw [hs] at HS
    have HSS := hide hs
    clear hs
    go_wp2_with fail
    refine HS.out.mono ?_
    rintro e3 w3 ⟨rfl, hb3⟩
    have hQ3 := HQ1.out.later hb3
    go_wp2_with fail
    go_ret2
    exact .inr ⟨⟨r, List.mem_of_getElem? HR.out, HSS.out⟩, rfl, hQ3.below⟩
  ·obtain rfl : i = K := by omega
   have hin : ¬ (i : Int) < (i : Int) := by omega
   obtain ⟨x0, x1, x2, x3, x4, x5⟩ := hQ.six
   rw [HK.out] at x1
   have HALL : Hid (∀ r ∈ rs, s.K.any (inP r) = true) := fun r hr => by
    obtain ⟨j, hj⟩ := List.mem_iff_getElem?.1 hr
    exact hall j r (by have := (List.getElem?_eq_some_iff.1 hj).1; rw [HK.out] at this; exact this) hj
   have HREM := hide (remember_any f s ra rc rs r0 M wr hQ.sp HOK.out HR0.out hQ.row HNA.out HM.out)
   unfold ackC at HREM
   rw [HK.out] at HREM
   have HQ3 := hide hQ
   clear hQ hall
   go_wp2_with fail
   refine HREM.out.mono ?_
   rintro e4 w4 ⟨rfl, f4, R4, hp4⟩
   have hXlt : w.heap.size < wr.heap.size := HQ3.out.box.lt
   have hXn : w.heap.size ∉ f.all := fun hm => by have := HLT.out _ hm; omega
   have hX4 := hp4.off hXlt hXn
   have hr4 : ∀ k, ra = some ⟨k, 0, none⟩ → k ∉ f4.all := fun k e => by
    obtain ⟨k', e', hk', _, _⟩ := HQ3.out.row 0 r0 HR0.out
    rw [e] at e'
    cases e'
    exact hp4.off hk' (HNA.out k e)
   have hbox4 := hp4.only.blk HQ3.out.box hXn
   have hrow4 := HQ3.out.row.only hp4.only HNA.out
   have y0 : w4.cell? ⟨f.b, 0, none⟩ = some (.pointer (some ⟨f4.lb, 0, none⟩)) := by rw [← hp4.b]; exact hp4.sp.blk.cell 0
   have HP4 := hide (SpPost.ahead HQ3.out.below hp4)
   have HS4 := hide hp4.sp
   have HB4 := hide hp4.b
   have HX4 := hide (And.intro hX4 hr4)
   have HO4 := hide (And.intro hbox4 hrow4)
   clear hp4 hX4 hr4 hbox4 hrow4 x0 x1 x2 x3 x4 x5 HREM HQ3
   go_wp2_with fail
   refine (all_any _ _ _ _ _ _ HS4.out.log).mono ?_
   rintro e5 w5 ⟨v5, rfl, hv5, hb5⟩
   obtain ⟨a5, c5, rfl⟩ := own_slice' hv5
   rw [← pkcs_toPK] at hv5
   have hsm : ∀ p ∈ s.ps.map toPK, p.small := fun p hp => by
    obtain ⟨q, hq, rfl⟩ := List.mem_map.1 hp
    exact toPK_small (HMAY.out q hq)
   obtain ⟨hp5, hc5, hk5⟩ := own_pk3 (by simp) hv5 hsm
   have hS5 := HS4.out.below hb5
   have hsrc : SrcAk w5 f4 a5 (s.ps.map toPK) w.heap.size ra rc rs :=
    ⟨hp5, fun k o e hm => by have h1 := HS4.out.lt _ hm; have h2 := (hk5 k o e).1; omega, (hb5.block _ HO4.out.1.lt).trans HO4.out.1, HX4.out.1, HO4.out.2.below hb5, HX4.out.2, HOK.out⟩
   have HDR := hide (dropped_ack f4 { s with R := R4, great := M } a5 s.ps.length c5 (s.ps.map toPK) w.heap.size ra rc rs w5 hS5 (by simp) (by have := HRM.out; omega) hsrc)
   rw [HB4.out] at HDR
   have HP5 := hide (HP4.out.below hb5)
   have HSM := hide hsm
   have hz5 := hb5.size
   have hz4 := HP4.out.only.size
   clear hv5 hb5 hsm hp5 hc5 hk5 hS5 hsrc HS4 HP4 HB4 HX4 HO4 y0
   go_wp2_with fail
   refine HDR.out.mono ?_
   rintro e6 w6 ⟨v6, f6, rfl, hD⟩
   obtain ⟨a6, c6, hv6⟩ := own_slice' hD.own
   subst hv6
   obtain ⟨hp6, hc6, hk6⟩ := own_pk3 rfl hD.own (fun p hp => HSM.out p (List.mem_filter.1 hp).1)
   have hpost := HP5.out.trans hD.post
   have hoff := hD.off
   clear hD
   go_wp2_with fail
   go_ret2
   exact .inl ⟨HALL.out, R4, a6, c6, f6, rfl, hp6, hc6, fun k o e => by
    subst e
    have h1 := hk6 k o rfl
    exact ⟨by omega, h1.2, hoff k rfl⟩, hpost⟩
end Go.Proofs.YtgicljeedegncaaGreat

namespace Go.Proofs.YtgicljeedegncaaGreat
open Go.Value renaming int → ZI
open Go.IntKind renaming i64 → ZQ
set_option linter.unusedSimpArgs false
set_option linter.unusedVariables false
open Go.RowKit

def steadyR : RT := ⟨100, 1, 100, 0, 0⟩
theorem steadyR_ok : steadyR.ok := ⟨by decide, by decide, by decide, by decide, by decide, by decide, by decide⟩
def steadyV : Value := .agg #[ZI ZQ 100, ZI ZQ 1, ZI ZQ 100, ZI ZQ 0, ZI ZQ 0]
theorem steady_check (w : World) : Calls Tryz.prog 95 #[.agg #[ZI ZQ 100, ZI ZQ 1, ZI ZQ 100, ZI ZQ 0, ZI ZQ 0]] w fun e w' => e = .returned (ZI ZQ 0) ∧ Below w.heap.size w w' := rttcheck_ok steadyR w steadyR_ok
set_option maxHeartbeats 1000000 in
theorem steady_great (w : World) : Calls Tryz.prog 146 #[.agg #[ZI ZQ 100, ZI ZQ 1, ZI ZQ 100, ZI ZQ 0, ZI ZQ 0]] w fun e w' => e = .returned (ZI ZQ 100) ∧ Below w.heap.size w w' := by
 have hx := Blk.new w 45 #[ZI ZQ 100, ZI ZQ 1, ZI ZQ 100, ZI ZQ 0, ZI ZQ 0]
 have hba : Below w.heap.size w (w.alloc (.cells #[ZI ZQ 100, ZI ZQ 1, ZI ZQ 100, ZI ZQ 0, ZI ZQ 0] 45)) := (Below.refl _ _).alloc (Nat.le_refl _) _
 have HX := hide hx
 have HB := hide hba
 clear hx hba
 go_enter Tryz.func146, Tryz.ntmps146
 go_wp2_with fail
 refine (steady_check _).mono ?_
 rintro e1 w1 ⟨rfl, hb⟩
 have hx1 := (hb.block _ HX.out.lt).trans HX.out
 have x0 : w1.cell? ⟨w.heap.size, 0, none⟩ = some (ZI ZQ 100) := Blk.cell (g := w.heap.size) hx1 0
 have x2 : w1.cell? ⟨w.heap.size, 2, none⟩ = some (ZI ZQ 100) := Blk.cell (g := w.heap.size) hx1 2
 go_wp2_with fail
 go_ret
 exact ⟨rfl, bw_below' HB.out hb⟩
set_option maxHeartbeats 1000000 in
theorem steady_wait (w : World) : Calls Tryz.prog 97 #[.agg #[ZI ZQ 100, ZI ZQ 1, ZI ZQ 100, ZI ZQ 0, ZI ZQ 0]] w fun e w' => e = .returned (ZI ZQ 1000000) ∧ Below w.heap.size w w' := by
 have hx := Blk.new w 45 #[ZI ZQ 100, ZI ZQ 1, ZI ZQ 100, ZI ZQ 0, ZI ZQ 0]
 have hba : Below w.heap.size w (w.alloc (.cells #[ZI ZQ 100, ZI ZQ 1, ZI ZQ 100, ZI ZQ 0, ZI ZQ 0] 45)) := (Below.refl _ _).alloc (Nat.le_refl _) _
 have HX := hide hx
 have HB := hide hba
 clear hx hba
 go_enter Tryz.func97, Tryz.ntmps97
 go_wp2_with fail
 refine (steady_check _).mono ?_
 rintro e1 w1 ⟨rfl, hb⟩
 have hx1 := (hb.block _ HX.out.lt).trans HX.out
 have x0 : w1.cell? ⟨w.heap.size, 0, none⟩ = some (ZI ZQ 100) := Blk.cell (g := w.heap.size) hx1 0
 have x1 : w1.cell? ⟨w.heap.size, 1, none⟩ = some (ZI ZQ 1) := Blk.cell (g := w.heap.size) hx1 1
 have x2 : w1.cell? ⟨w.heap.size, 2, none⟩ = some (ZI ZQ 100) := Blk.cell (g := w.heap.size) hx1 2
 have x3 : w1.cell? ⟨w.heap.size, 3, none⟩ = some (ZI ZQ 0) := Blk.cell (g := w.heap.size) hx1 3
 have x4 : w1.cell? ⟨w.heap.size, 4, none⟩ = some (ZI ZQ 0) := Blk.cell (g := w.heap.size) hx1 4
 go_wp2_with fail
 refine (steady_great _).mono ?_
 rintro e2 w2 ⟨rfl, hb2⟩
 go_wp2_with fail
 go_ret
 exact ⟨rfl, bw_below' (bw_below' HB.out hb) hb2⟩

/-- What the rule's functions read. -/
structure RuAt (W : World) (B : Nat) (acked now wait : Int) : Prop where
 c0 : W.cell? ⟨B, 0, none⟩ = some (ZI ZQ acked)
 c1 : W.cell? ⟨B + 1, 0, none⟩ = some (ZI ZQ now)
 c2 : W.cell? ⟨B + 2, 0, none⟩ = some (ZI ZQ wait)
 c4 : W.cell? ⟨B + 4, 0, none⟩ = some (.func (.func 142) #[] #[.pointer (some ⟨B + 2, 0, none⟩)])
theorem RuAt.cellB {W W' : World} {k : Nat} {v : Value} (h : W.cell? ⟨k, 0, none⟩ = some v) (hb : Below W.heap.size W W') : W'.cell? ⟨k, 0, none⟩ = some v := (hb.cell (p := ⟨k, 0, none⟩) (cell_lt h)).trans h
theorem RuAt.below {W W' : World} {B : Nat} {acked now wait : Int} (h : RuAt W B acked now wait) (hb : Below W.heap.size W W') : RuAt W' B acked now wait := ⟨RuAt.cellB h.c0 hb, RuAt.cellB h.c1 hb, RuAt.cellB h.c2 hb, RuAt.cellB h.c4 hb⟩
theorem RuAt.alloc {W : World} {B : Nat} {acked now wait : Int} (h : RuAt W B acked now wait) (o : Obj) : RuAt (W.alloc o) B acked now wait := h.below ((Below.refl _ _).alloc (Nat.le_refl _) _)
def ruleV (B : Nat) : Value := .agg #[.func (.func 143) #[] #[.pointer (some ⟨B, 0, none⟩)], .func (.func 144) #[] #[.pointer (some ⟨B, 0, none⟩), .pointer (some ⟨B + 4, 0, none⟩), .pointer (some ⟨B + 1, 0, none⟩)], .func (.func 145) #[] #[.pointer (some ⟨B + 4, 0, none⟩)]]
set_option maxHeartbeats 2000000 in
theorem ruled_any (acked now wait : Int) (w : World) : Calls Tryz.prog 96 #[ZI ZQ acked, ZI ZQ now, ZI ZQ wait] w fun e w' => e = .returned (ruleV w.heap.size) ∧ RuAt w' w.heap.size acked now wait ∧ Below w.heap.size w w' ∧ w'.heap.size = w.heap.size + 5 := by
 go_enter Tryz.func96, Tryz.ntmps96
 go_wp2_with fail
 have q0 := (((((Blk.new w 3 #[ZI ZQ acked]).alloc (.cells #[ZI ZQ now] 3)).alloc (.cells #[ZI ZQ wait] 3)).alloc (.cells #[.func (.func 143) #[] #[.pointer (some ⟨w.heap.size, 0, none⟩)], .func (.func 144) #[] #[.pointer (some ⟨w.heap.size, 0, none⟩), .pointer (some ⟨w.heap.size + 1 + 1 + 1 + 1, 0, none⟩), .pointer (some ⟨w.heap.size + 1, 0, none⟩)], .func (.func 145) #[] #[.pointer (some ⟨w.heap.size + 1 + 1 + 1 + 1, 0, none⟩)]] 128)).alloc (.cells #[.func (.func 142) #[] #[.pointer (some ⟨w.heap.size + 1 + 1, 0, none⟩)]] 126))
 have hbb : Below w.heap.size w (((((w.alloc (.cells #[ZI ZQ acked] 3)).alloc (.cells #[ZI ZQ now] 3)).alloc (.cells #[ZI ZQ wait] 3)).alloc (.cells #[.func (.func 143) #[] #[.pointer (some ⟨w.heap.size, 0, none⟩)], .func (.func 144) #[] #[.pointer (some ⟨w.heap.size, 0, none⟩), .pointer (some ⟨w.heap.size + 1 + 1 + 1 + 1, 0, none⟩), .pointer (some ⟨w.heap.size + 1, 0, none⟩)], .func (.func 145) #[] #[.pointer (some ⟨w.heap.size + 1 + 1 + 1 + 1, 0, none⟩)]] 128)).alloc (.cells #[.func (.func 142) #[] #[.pointer (some ⟨w.heap.size + 1 + 1, 0, none⟩)]] 126)) :=
  (((((Below.refl _ _).alloc (Nat.le_refl _) _).alloc (by simp) _).alloc (by simp; omega) _).alloc (by simp; omega) _).alloc (by simp; omega) _
 have hsz : (((((w.alloc (.cells #[ZI ZQ acked] 3)).alloc (.cells #[ZI ZQ now] 3)).alloc (.cells #[ZI ZQ wait] 3)).alloc (.cells #[.func (.func 143) #[] #[.pointer (some ⟨w.heap.size, 0, none⟩)], .func (.func 144) #[] #[.pointer (some ⟨w.heap.size, 0, none⟩), .pointer (some ⟨w.heap.size + 1 + 1 + 1 + 1, 0, none⟩), .pointer (some ⟨w.heap.size + 1, 0, none⟩)], .func (.func 145) #[] #[.pointer (some ⟨w.heap.size + 1 + 1 + 1 + 1, 0, none⟩)]] 128)).alloc (.cells #[.func (.func 142) #[] #[.pointer (some ⟨w.heap.size + 1 + 1, 0, none⟩)]] 126)).heap.size = w.heap.size + 5 := by simp only [World.size_alloc]
 have q1 := ((((blk_new_at (W := w.alloc (.cells #[ZI ZQ acked] 3)) (n := w.heap.size + 1) (t := 3) (cs := #[ZI ZQ now]) (by simp)).alloc (.cells #[ZI ZQ wait] 3)).alloc (.cells #[.func (.func 143) #[] #[.pointer (some ⟨w.heap.size, 0, none⟩)], .func (.func 144) #[] #[.pointer (some ⟨w.heap.size, 0, none⟩), .pointer (some ⟨w.heap.size + 1 + 1 + 1 + 1, 0, none⟩), .pointer (some ⟨w.heap.size + 1, 0, none⟩)], .func (.func 145) #[] #[.pointer (some ⟨w.heap.size + 1 + 1 + 1 + 1, 0, none⟩)]] 128)).alloc (.cells #[.func (.func 142) #[] #[.pointer (some ⟨w.heap.size + 1 + 1, 0, none⟩)]] 126))
 have q2 := (((blk_new_at (W := (w.alloc (.cells #[ZI ZQ acked] 3)).alloc (.cells #[ZI ZQ now] 3)) (n := w.heap.size + 2) (t := 3) (cs := #[ZI ZQ wait]) (by simp)).alloc (.cells #[.func (.func 143) #[] #[.pointer (some ⟨w.heap.size, 0, none⟩)], .func (.func 144) #[] #[.pointer (some ⟨w.heap.size, 0, none⟩), .pointer (some ⟨w.heap.size + 1 + 1 + 1 + 1, 0, none⟩), .pointer (some ⟨w.heap.size + 1, 0, none⟩)], .func (.func 145) #[] #[.pointer (some ⟨w.heap.size + 1 + 1 + 1 + 1, 0, none⟩)]] 128)).alloc (.cells #[.func (.func 142) #[] #[.pointer (some ⟨w.heap.size + 1 + 1, 0, none⟩)]] 126))
 have q3 := ((blk_new_at (W := ((w.alloc (.cells #[ZI ZQ acked] 3)).alloc (.cells #[ZI ZQ now] 3)).alloc (.cells #[ZI ZQ wait] 3)) (n := w.heap.size + 3) (t := 128) (cs := #[.func (.func 143) #[] #[.pointer (some ⟨w.heap.size, 0, none⟩)], .func (.func 144) #[] #[.pointer (some ⟨w.heap.size, 0, none⟩), .pointer (some ⟨w.heap.size + 1 + 1 + 1 + 1, 0, none⟩), .pointer (some ⟨w.heap.size + 1, 0, none⟩)], .func (.func 145) #[] #[.pointer (some ⟨w.heap.size + 1 + 1 + 1 + 1, 0, none⟩)]]) (by simp)).alloc (.cells #[.func (.func 142) #[] #[.pointer (some ⟨w.heap.size + 1 + 1, 0, none⟩)]] 126))
 have q4 := (blk_new_at (W := (((w.alloc (.cells #[ZI ZQ acked] 3)).alloc (.cells #[ZI ZQ now] 3)).alloc (.cells #[ZI ZQ wait] 3)).alloc (.cells #[.func (.func 143) #[] #[.pointer (some ⟨w.heap.size, 0, none⟩)], .func (.func 144) #[] #[.pointer (some ⟨w.heap.size, 0, none⟩), .pointer (some ⟨w.heap.size + 1 + 1 + 1 + 1, 0, none⟩), .pointer (some ⟨w.heap.size + 1, 0, none⟩)], .func (.func 145) #[] #[.pointer (some ⟨w.heap.size + 1 + 1 + 1 + 1, 0, none⟩)]] 128)) (n := w.heap.size + 4) (t := 126) (cs := #[.func (.func 142) #[] #[.pointer (some ⟨w.heap.size + 1 + 1, 0, none⟩)]]) (by simp))
 generalize (((((w.alloc (.cells #[ZI ZQ acked] 3)).alloc (.cells #[ZI ZQ now] 3)).alloc (.cells #[ZI ZQ wait] 3)).alloc (.cells #[.func (.func 143) #[] #[.pointer (some ⟨w.heap.size, 0, none⟩)], .func (.func 144) #[] #[.pointer (some ⟨w.heap.size, 0, none⟩), .pointer (some ⟨w.heap.size + 1 + 1 + 1 + 1, 0, none⟩), .pointer (some ⟨w.heap.size + 1, 0, none⟩)], .func (.func 145) #[] #[.pointer (some ⟨w.heap.size + 1 + 1 + 1 + 1, 0, none⟩)]] 128)).alloc (.cells #[.func (.func 142) #[] #[.pointer (some ⟨w.heap.size + 1 + 1, 0, none⟩)]] 126)) = W5 at *
 have z0 : W5.cell? ⟨w.heap.size + 1 + 1 + 1, 0, none⟩ = some (.func (.func 143) #[] #[.pointer (some ⟨w.heap.size, 0, none⟩)]) := Blk.cell (g := w.heap.size + 3) q3 0
 have z1 : W5.cell? ⟨w.heap.size + 1 + 1 + 1, 1, none⟩ = some (.func (.func 144) #[] #[.pointer (some ⟨w.heap.size, 0, none⟩), .pointer (some ⟨w.heap.size + 1 + 1 + 1 + 1, 0, none⟩), .pointer (some ⟨w.heap.size + 1, 0, none⟩)]) := Blk.cell (g := w.heap.size + 3) q3 1
 have z2 : W5.cell? ⟨w.heap.size + 1 + 1 + 1, 2, none⟩ = some (.func (.func 145) #[] #[.pointer (some ⟨w.heap.size + 1 + 1 + 1 + 1, 0, none⟩)]) := Blk.cell (g := w.heap.size + 3) q3 2
 exact bodyPost_ret (v := ruleV w.heap.size) (by simp [results, Tryz.results96, go_sem, z0, z1, z2, ruleV]) rfl ⟨rfl, ⟨Blk.cell (g := w.heap.size) q0 0, Blk.cell (g := w.heap.size + 1) q1 0, Blk.cell (g := w.heap.size + 2) q2 0, Blk.cell (g := w.heap.size + 4) q4 0⟩, hbb, hsz⟩
section
variable (q : PK) (B : Nat) (acked now wait : Int) (w : World)
theorem pk_box (h : RuAt w B acked now wait) : RuAt (w.alloc (.cells (pkC q) 40)) B acked now wait ∧ Blk (w.alloc (.cells (pkC q) 40)) w.heap.size 40 (pkC q) ∧ Below w.heap.size w (w.alloc (.cells (pkC q) 40)) := ⟨h.alloc _, Blk.new _ _ _, (Below.refl _ _).alloc (Nat.le_refl _) _⟩
theorem due1_any (h : RuAt w B acked now wait) (hw : IntKind.i64.wrap (q.t + wait) = q.t + wait) : Calls Tryz.prog 142 #[.agg (pkC q), .pointer (some ⟨B + 2, 0, none⟩)] w fun e w' => e = .returned (ZI ZQ (q.t + wait)) ∧ Below w.heap.size w w' := by
 obtain ⟨h1, h2, h3⟩ := pk_box q B acked now wait w h
 have y2 := h1.c2
 have x1 : (w.alloc (.cells (pkC q) 40)).cell? ⟨w.heap.size, 1, none⟩ = some (ZI ZQ q.t) := h2.cell 1
 have HB := hide h3
 clear h h1 h2 h3
 unfold pkC at *
 go_enter Tryz.func142, Tryz.ntmps142
 go_wp2_with fail
 go_ret
 exact ⟨rfl, HB.out⟩
theorem meant2_any (h : RuAt w B acked now wait) : Calls Tryz.prog 143 #[.agg (pkC q), .pointer (some ⟨B, 0, none⟩)] w fun e w' => e = .returned (.bool (decide (q.n ≤ acked))) ∧ Below w.heap.size w w' := by
 obtain ⟨h1, h2, h3⟩ := pk_box q B acked now wait w h
 have y0 := h1.c0
 have x0 : (w.alloc (.cells (pkC q) 40)).cell? ⟨w.heap.size, 0, none⟩ = some (ZI ZQ q.n) := h2.cell 0
 have HB := hide h3
 clear h h1 h2 h3
 unfold pkC at *
 go_enter Tryz.func143, Tryz.ntmps143
 go_wp2_with fail
 go_ret
 exact ⟨rfl, HB.out⟩
set_option maxHeartbeats 1000000 in
theorem due4_any (h : RuAt w B acked now wait) (hw : IntKind.i64.wrap (q.t + wait) = q.t + wait) : Calls Tryz.prog 145 #[.agg (pkC q), .pointer (some ⟨B + 4, 0, none⟩)] w fun e w' => e = .returned (ZI ZQ (if 9007199254740991 < q.t + wait then 9007199254740991 else q.t + wait)) ∧ Below w.heap.size w w' := by
 obtain ⟨h1, h2, h3⟩ := pk_box q B acked now wait w h
 have y4 := h1.c4
 have x0 : (w.alloc (.cells (pkC q) 40)).cell? ⟨w.heap.size, 0, none⟩ = some (ZI ZQ q.n) := h2.cell 0
 have x1 : (w.alloc (.cells (pkC q) 40)).cell? ⟨w.heap.size, 1, none⟩ = some (ZI ZQ q.t) := h2.cell 1
 have x2 : (w.alloc (.cells (pkC q) 40)).cell? ⟨w.heap.size, 2, none⟩ = some (ZI ZQ q.s) := h2.cell 2
 have x3 : (w.alloc (.cells (pkC q) 40)).cell? ⟨w.heap.size, 3, none⟩ = some (.bool q.e) := h2.cell 3
 have x4 : (w.alloc (.cells (pkC q) 40)).cell? ⟨w.heap.size, 4, none⟩ = some (.bool q.f) := h2.cell 4
 have x5 : (w.alloc (.cells (pkC q) 40)).cell? ⟨w.heap.size, 5, none⟩ = some (.bool q.c) := h2.cell 5
 have HD := hide (due1_any q B acked now wait _ h1 hw)
 have HB := hide h3
 obtain ⟨D, hD⟩ : ∃ D, q.t + wait = D := ⟨_, rfl⟩
 rw [hD] at HD ⊢
 clear h h1 h2 h3 hw hD
 unfold pkC at *
 by_cases hlt : 9007199254740991 < D
 ·rw [if_pos hlt]
  go_enter Tryz.func145, Tryz.ntmps145
  go_wp2_with fail
  refine HD.out.mono ?_
  rintro e1 w1 ⟨rfl, hb⟩
  go_wp2_with fail
  go_ret
  exact ⟨rfl, bw_below' HB.out hb⟩
 ·rw [if_neg hlt]
  have h2 : (if D < 9007199254740991 then D else 9007199254740991) = D := by split <;> omega
  go_enter Tryz.func145, Tryz.ntmps145
  go_wp2_with fail
  refine HD.out.mono ?_
  rintro e1 w1 ⟨rfl, hb⟩
  go_wp2_with fail
  go_ret
  exact ⟨rfl, bw_below' HB.out hb⟩
end
end Go.Proofs.YtgicljeedegncaaGreat
