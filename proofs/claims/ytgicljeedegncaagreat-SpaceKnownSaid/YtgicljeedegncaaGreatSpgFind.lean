/-
 Layer 9 (package loss): what is lost, at any time and measure (Find). Printed by wip/genspglose.py.
-/
import Derived.Test.YtgicljeedegncaaGreatLossFind
import Derived.Test.YtgicljeedegncaaGreatTqSpgGaps
namespace Go.Proofs.YtgicljeedegncaaGreat
open Go.Value renaming int → ZI
open Go.IntKind renaming i64 → ZQ
set_option linter.unusedSimpArgs false
set_option linter.unusedVariables false
open Go.RowKit

def greatR (r : RT) : Int := if r.smooth < r.latest then r.latest else r.smooth
def waitR (r : RT) : Int := if rtC r = true then (if 1000000 < (if 9007199254740991 < (9 * greatR r).tdiv 8 then 9007199254740991 else (9 * greatR r).tdiv 8) then (if 9007199254740991 < (9 * greatR r).tdiv 8 then 9007199254740991 else (9 * greatR r).tdiv 8) else 1000000) else 0
theorem rtC_bd {r : RT} (h : rtC r = true) : 0 ≤ r.smooth ∧ r.smooth ≤ 9007199254740991 ∧ 0 ≤ r.latest ∧ r.latest ≤ 9007199254740991 := by
 unfold rtC at h
 split at h
 ·simp only [Bool.and_eq_true, decide_eq_true_iff] at h
  omega
 ·simp only [Bool.and_eq_true, decide_eq_true_iff, isT_iff] at h
  omega
theorem greatR_le {r : RT} (h : rtC r = true) : 0 ≤ greatR r ∧ greatR r ≤ 9007199254740991 := by
 have := rtC_bd h
 unfold greatR
 split <;> omega
theorem waitR_le (r : RT) : 0 ≤ waitR r ∧ waitR r ≤ 9007199254740991 := by
 unfold waitR
 split
 ·split <;> split <;> omega
 ·omega
theorem rttcheckq (r : RT) (w : World) (h : rtC r = true) : Calls Tryz.prog 95 #[rtV r] w fun e w' => e = .returned (ZI ZQ 0) ∧ Below w.heap.size w w' := by
 have := rttcheck_any r w (by have := rtC_bd h; omega)
 rw [if_pos h] at this
 exact this
set_option maxHeartbeats 1000000 in
theorem greatq_any (r : RT) (w : World) (h : rtC r = true) : Calls Tryz.prog 146 #[rtV r] w fun e w' => e = .returned (ZI ZQ (greatR r)) ∧ Below w.heap.size w w' := by
 have HC := hide (fun W => rttcheckq r W h)
 obtain ⟨G, hG⟩ : ∃ G, greatR r = G := ⟨_, rfl⟩
 have hg := hG
 unfold greatR at hg
 rw [hG]
 clear hG h
 obtain ⟨rl, rm, rz, rv, rf⟩ := r
 unfold rtV at HC ⊢
 dsimp only at HC hg ⊢
 have hx := Blk.new w 45 #[ZI ZQ rl, ZI ZQ rm, ZI ZQ rz, ZI ZQ rv, ZI ZQ rf]
 have hba : Below w.heap.size w (w.alloc (.cells #[ZI ZQ rl, ZI ZQ rm, ZI ZQ rz, ZI ZQ rv, ZI ZQ rf] 45)) := (Below.refl _ _).alloc (Nat.le_refl _) _
 have HX := hide hx
 have HB := hide hba
 clear hx hba
 go_enter Tryz.func146, Tryz.ntmps146
 go_wp2_with fail
 refine (HC.out _).mono ?_
 rintro e1 w1 ⟨rfl, hb⟩
 have hx1 := (hb.block _ HX.out.lt).trans HX.out
 have x0 : w1.cell? ⟨w.heap.size, 0, none⟩ = some (ZI ZQ rl) := Blk.cell (g := w.heap.size) hx1 0
 have x2 : w1.cell? ⟨w.heap.size, 2, none⟩ = some (ZI ZQ rz) := Blk.cell (g := w.heap.size) hx1 2
 go_wp2_with fail
 go_ret
 exact ⟨rfl, bw_below' HB.out hb⟩
set_option maxHeartbeats 1000000 in
theorem waitq_any (r : RT) (w : World) (h : rtC r = true) : Calls Tryz.prog 97 #[rtV r] w fun e w' => e = .returned (ZI ZQ (waitR r)) ∧ Below w.heap.size w w' := by
 have HC := hide (fun W => rttcheckq r W h)
 have HG := hide (fun W => greatq_any r W h)
 have hgb := greatR_le h
 unfold waitR
 rw [if_pos h]
 obtain ⟨G, hG⟩ : ∃ G, greatR r = G := ⟨_, rfl⟩
 rw [hG] at HG hgb ⊢
 clear hG h
 have hq : -9223372036854775808 ≤ (9 * G).tdiv 8 ∧ (9 * G).tdiv 8 ≤ 9223372036854775807 := by
  have e : (9 * G).tdiv 8 = (9 * G) / 8 := Int.tdiv_eq_ediv_of_nonneg (by omega)
  rw [e]
  omega
 obtain ⟨T1, hT1⟩ : ∃ T1, (if 9007199254740991 < (9 * G).tdiv 8 then 9007199254740991 else (9 * G).tdiv 8) = T1 := ⟨_, rfl⟩
 obtain ⟨T2, hT2⟩ : ∃ T2, (if 1000000 < T1 then T1 else 1000000) = T2 := ⟨_, rfl⟩
 rw [hT1, hT2]
 have hw9 : IntKind.i64.wrap (9 * G) = 9 * G := by rw [IntKind.wrap_i64]; omega
 obtain ⟨rl, rm, rz, rv, rf⟩ := r
 unfold rtV at HC HG ⊢
 dsimp only at HC HG ⊢
 have hx := Blk.new w 45 #[ZI ZQ rl, ZI ZQ rm, ZI ZQ rz, ZI ZQ rv, ZI ZQ rf]
 have hba : Below w.heap.size w (w.alloc (.cells #[ZI ZQ rl, ZI ZQ rm, ZI ZQ rz, ZI ZQ rv, ZI ZQ rf] 45)) := (Below.refl _ _).alloc (Nat.le_refl _) _
 have HX := hide hx
 have HB := hide hba
 clear hx hba
 go_enter Tryz.func97, Tryz.ntmps97
 go_wp2_with fail
 refine (HC.out _).mono ?_
 rintro e1 w1 ⟨rfl, hb⟩
 have hx1 := (hb.block _ HX.out.lt).trans HX.out
 have x0 : w1.cell? ⟨w.heap.size, 0, none⟩ = some (ZI ZQ rl) := Blk.cell (g := w.heap.size) hx1 0
 have x1 : w1.cell? ⟨w.heap.size, 1, none⟩ = some (ZI ZQ rm) := Blk.cell (g := w.heap.size) hx1 1
 have x2 : w1.cell? ⟨w.heap.size, 2, none⟩ = some (ZI ZQ rz) := Blk.cell (g := w.heap.size) hx1 2
 have x3 : w1.cell? ⟨w.heap.size, 3, none⟩ = some (ZI ZQ rv) := Blk.cell (g := w.heap.size) hx1 3
 have x4 : w1.cell? ⟨w.heap.size, 4, none⟩ = some (ZI ZQ rf) := Blk.cell (g := w.heap.size) hx1 4
 go_wp2_with fail
 refine (HG.out _).mono ?_
 rintro e2 w2 ⟨rfl, hb2⟩
 go_wp2_with fail
 go_ret
 exact ⟨by first | rfl | (congr 3; done), bw_below' (bw_below' HB.out hb) hb2⟩
def lostG (wt acked now : Int) (q : PK) : Bool := decide (q.n ≤ acked) && lostB acked now wt q
def dueG (wt : Int) (q : PK) : Int := if 9007199254740991 < q.t + wt then 9007199254740991 else q.t + wt
def atStep (wt acked now : Int) (at_ : Int) (q : PK) : Int := if lostG wt acked now q then at_ else if q.n ≤ acked ∧ (at_ = -1 ∨ dueG wt q < at_) then dueG wt q else at_
def atG (wt acked now : Int) (qs : List PK) : Int := qs.foldl (atStep wt acked now) (-1)
theorem atG_snoc (wt acked now : Int) (qs : List PK) (q : PK) : atG wt acked now (qs ++ [q]) = if lostG wt acked now q then atG wt acked now qs else if q.n ≤ acked ∧ (atG wt acked now qs = -1 ∨ dueG wt q < atG wt acked now qs) then dueG wt q else atG wt acked now qs := by
 unfold atG
 rw [List.foldl_append]
 rfl
def FindqPost (w : World) (wt acked now : Int) (qs : List PK) (e : Ending) (w' : World) : Prop := ∃ v1 v2, e = .returned (.tuple #[v1, v2, ZI ZQ (atG wt acked now qs), ZI ZQ 0]) ∧ w'.ownsRow w.heap.size 40 6 v1 (qs.filter (lostG wt acked now)).length (pkcs (qs.filter (lostG wt acked now))) ∧ Below w.heap.size w w'
set_option maxRecDepth 100000 in
set_option maxHeartbeats 8000000 in
theorem lossfindq_ok (a : Option Addr) (n cap : Nat) (qs : List PK) (acked now : Int) (r : RT) (w : World) (hrt : rtC r = true) (hn : qs.length = n) (hl : n ≤ 256) (hP : PksAt w a qs) (ha : ∀ k o, a = some ⟨k, o, none⟩ → k < w.heap.size) (hck : checkL qs = 0) (ht : ∀ q ∈ qs, 0 ≤ q.n ∧ q.n ≤ 9007199254740991 ∧ 0 ≤ q.t ∧ q.t ≤ 9007199254740991)
  (a0 : -1 ≤ acked) (a1 : acked ≤ 9007199254740991) (n0 : 0 ≤ now) (n1 : now ≤ 9007199254740991) :
  Calls Tryz.prog 52 #[.slice a n cap, ZI ZQ acked, ZI ZQ now, rtV r] w (FindqPost w (waitR r) acked now qs) := by
 have HCR := hide (fun W => rttcheckq r W hrt)
 have HWT := hide (fun W => waitq_any r W hrt)
 have hwb := waitR_le r
 obtain ⟨wt, hwt⟩ : ∃ z, waitR r = z := ⟨_, rfl⟩
 rw [hwt] at HWT hwb ⊢
 obtain ⟨wt0, wt1⟩ := hwb
 clear hrt hwt
 obtain ⟨rl, rm, rz, rv, rf⟩ := r
 unfold rtV at HCR HWT ⊢
 dsimp only at HCR HWT ⊢
 have hba : Below w.heap.size w (w.alloc (.cells #[ZI ZQ rl, ZI ZQ rm, ZI ZQ rz, ZI ZQ rv, ZI ZQ rf] 45)) := (Below.refl _ _).alloc (Nat.le_refl _) _
 have hx := Blk.new w 45 #[ZI ZQ rl, ZI ZQ rm, ZI ZQ rz, ZI ZQ rv, ZI ZQ rf]
 have HCK := hide (losscheck_any a n cap qs (w.alloc (.cells #[ZI ZQ rl, ZI ZQ rm, ZI ZQ rz, ZI ZQ rv, ZI ZQ rf] 45)) hn (hP.below hba (Nat.le_refl _)) (fun k o e => Nat.lt_of_lt_of_le (ha k o e) hba.size))
 rw [hck] at HCK
 have HN := hide hn
 have HP := hide hP
 have HT := hide ht
 have HB := hide hba
 have HX := hide hx
 clear hn hP ha hck ht hba hx
 go_enter Tryz.func52, Tryz.ntmps52
 go_wp2_with fail
 refine HCK.out.mono ?_
 rintro e1 w1 ⟨rfl, hb1⟩
 have hx1 : Blk w1 w.heap.size 45 #[ZI ZQ rl, ZI ZQ rm, ZI ZQ rz, ZI ZQ rv, ZI ZQ rf] := (hb1.block _ HX.out.lt).trans HX.out
 have HB1 := hide (bw_below' HB.out hb1)
 have HX1 := hide hx1
 clear hb1 hx1 HCK HB HX
 go_wp2_with fail
 refine (istime_any now _).mono ?_
 rintro e2 w2 ⟨rfl, rfl⟩
 rw [show (decide (0 ≤ now) && decide (now ≤ 9007199254740991)) = true by simp [n0, n1]]
 have x0 := HX1.out.cell 0
 have x1 := HX1.out.cell 1
 have x2 := HX1.out.cell 2
 have x3 := HX1.out.cell 3
 have x4 := HX1.out.cell 4
 go_wp2_with fail
 refine (HCR.out _).mono ?_
 rintro e3 w3 ⟨rfl, hb3⟩
 have hx3 : Blk w3 w.heap.size 45 #[ZI ZQ rl, ZI ZQ rm, ZI ZQ rz, ZI ZQ rv, ZI ZQ rf] := (hb3.block _ HX1.out.lt).trans HX1.out
 have HB3 := hide (bw_below' HB1.out hb3)
 have HX3 := hide hx3
 clear hb3 hx3 HB1 HX1 x0 x1 x2 x3 x4
 have x0 := HX3.out.cell 0
 have x1 := HX3.out.cell 1
 have x2 := HX3.out.cell 2
 have x3 := HX3.out.cell 3
 have x4 := HX3.out.cell 4
 go_wp2_with fail
 refine (HWT.out _).mono ?_
 rintro e4 w4 ⟨rfl, hb4⟩
 have HB4 := hide (bw_below' HB3.out hb4)
 clear hb4 HB3 HX3 x0 x1 x2 x3 x4
 go_wp2_with fail
 refine (ruled_any acked now wt _).mono ?_
 rintro e5 w5 ⟨rfl, hru, hb5, hsz5⟩
 have HB5 := hide (bw_below' HB4.out hb5)
 obtain ⟨B, hB⟩ : ∃ B, w4.heap.size = B := ⟨_, rfl⟩
 rw [hB] at hru ⊢
 clear hb5 hsz5 hB HB4
 unfold ruleV
 have HRU := hide (hru.alloc (.cells #[.func (.func 143) #[] #[.pointer (some ⟨B, 0, none⟩)], .func (.func 144) #[] #[.pointer (some ⟨B, 0, none⟩), .pointer (some ⟨B + 4, 0, none⟩), .pointer (some ⟨B + 1, 0, none⟩)], .func (.func 145) #[] #[.pointer (some ⟨B + 4, 0, none⟩)]] 128))
 have HXR := hide (Blk.new w5 128 #[.func (.func 143) #[] #[.pointer (some ⟨B, 0, none⟩)], .func (.func 144) #[] #[.pointer (some ⟨B, 0, none⟩), .pointer (some ⟨B + 4, 0, none⟩), .pointer (some ⟨B + 1, 0, none⟩)], .func (.func 145) #[] #[.pointer (some ⟨B + 4, 0, none⟩)]])
 have HB6 := hide (bw_alloc' HB5.out (.cells #[.func (.func 143) #[] #[.pointer (some ⟨B, 0, none⟩)], .func (.func 144) #[] #[.pointer (some ⟨B, 0, none⟩), .pointer (some ⟨B + 4, 0, none⟩), .pointer (some ⟨B + 1, 0, none⟩)], .func (.func 145) #[] #[.pointer (some ⟨B + 4, 0, none⟩)]] 128))
 clear hru HB5
 obtain ⟨i0, hi0, hz0, hz1, hz2⟩ := info_parts pk_info3
 go_wp2_with fail
 refine name_world (fun W => RuAt W B acked now wt ∧ Blk W w5.heap.size 128 #[.func (.func 143) #[] #[.pointer (some ⟨B, 0, none⟩)], .func (.func 144) #[] #[.pointer (some ⟨B, 0, none⟩), .pointer (some ⟨B + 4, 0, none⟩), .pointer (some ⟨B + 1, 0, none⟩)], .func (.func 145) #[] #[.pointer (some ⟨B + 4, 0, none⟩)]] ∧ Below w.heap.size w W) ⟨HRU.out, HXR.out, HB6.out⟩ ?_
 clear HRU HXR HB6
 rintro W0 ⟨hru, hxr, hb6⟩
 have HRU := hide hru
 have HXR := hide hxr
 have HB6 := hide hb6
 clear hru hxr hb6
 go_loopg [8, 9, 10, 45] n (fun kx s8 s9 s10 s45 wr => ∃ i : Nat, s45 = ZI ZQ i ∧ i ≤ n ∧ n - i ≤ kx ∧ s10 = ZI ZQ (atG wt acked now (qs.take i)) ∧ FdAt W0 wr s8 s9 ((qs.take i).filter (lostG wt acked now)) ((qs.take i).filter fun q => !lostG wt acked now q))
 case atStart => exact ⟨0, rfl, by omega, by omega, rfl, Below.refl _ _, ⟨rfl, .inl ⟨rfl, rfl⟩⟩, ⟨rfl, .inl ⟨rfl, rfl⟩⟩, fun k hk => by simp [Value.ownBlock] at hk⟩
 case round =>
  obtain ⟨i, rfl, hi, hkx, hs10, hF⟩ := hrel
  obtain ⟨A, hA⟩ : ∃ A, atG wt acked now (qs.take i) = A := ⟨_, rfl⟩
  rw [hA] at hs10
  subst hs10
  have HA := hide hA
  clear hA
  by_cases hlt : i < n
  ·obtain ⟨q, hq⟩ : ∃ q, qs[i]? = some q := ⟨_, List.getElem?_eq_getElem (by rw [HN.out]; exact hlt)⟩
   obtain ⟨t0, t1, t2, t3⟩ := HT.out q (List.mem_of_getElem? hq)
   have hPw := (HP.out.below HB6.out (Nat.le_refl _)).below hF.below (Nat.le_refl _)
   obtain ⟨k, o, rfl, hk, z0, z1, z2, z3, z4, z5⟩ := hPw.cells hq
   have HTK : Hid (qs.take (i + 1) = qs.take i ++ [q]) := by show _ = _; rw [List.take_add_one, hq]; rfl
   have hin : (i : Int) < (n : Int) := by omega
   have hbx : Below wr.heap.size wr (wr.alloc (.cells (pkC q) 40)) := (Below.refl _ _).alloc (Nat.le_refl _) _
   have hF1 := hF.later hbx
   have hX := Blk.new wr 40 (pkC q)
   have hlt8 := hF.own8.lt
   have hlt9 := hF.own9.lt
   have HL8 : Hid ((∀ k, u8.ownBlock = some k → k ≠ wr.heap.size) ∧ ∀ k, u9.ownBlock = some k → k ≠ wr.heap.size) := ⟨fun k hk e => by have := (hlt8 k hk).2; omega, fun k hk e => by have := (hlt9 k hk).2; omega⟩
   have HR1 := hide (fun (W : World) (hb : Below W0.heap.size W0 W) => HRU.out.below hb)
   have HX1 := hide (fun (W : World) (hb : Below W0.heap.size W0 W) => (hb.block _ HXR.out.lt).trans HXR.out)
   have hw1 : IntKind.i64.wrap (q.t + wt) = q.t + wt := by rw [IntKind.wrap_i64]; omega
   have hw2 : IntKind.i64.wrap (acked - q.n) = acked - q.n := by rw [IntKind.wrap_i64]; omega
   have HW := hide (And.intro hw1 hw2)
   have hsz0 : W0.heap.size ≤ wr.heap.size := hF.below.size
   have hln : ((qs.take i).filter (lostG wt acked now)).length ≤ i := Nat.le_trans (List.length_filter_le _ _) (by rw [List.length_take]; omega)
   have hln9 : ((qs.take i).filter fun q => !lostG wt acked now q).length ≤ i := Nat.le_trans (List.length_filter_le _ _) (by rw [List.length_take]; omega)
   have HF1 := hide hF1
   have HX := hide hX
   have r0 : (wr.alloc (.cells (pkC q) 40)).cell? ⟨w5.heap.size, 0, none⟩ = some (.func (.func 143) #[] #[.pointer (some ⟨B, 0, none⟩)]) := Blk.cell (g := w5.heap.size) (HX1.out _ HF1.out.below) 0
   clear hPw hbx hF1 hX hF hq hlt8 hlt9 hw1 hw2
   have HM2 := hide (fun (W : World) (hb : Below W0.heap.size W0 W) => meant2_any q B acked now wt W (HR1.out W hb))
   have HL3 := hide (fun (W : World) (hb : Below W0.heap.size W0 W) => lost3_any q B acked now wt W (HR1.out W hb) HW.out.1 HW.out.2)
   have HD4 := hide (fun (W : World) (hb : Below W0.heap.size W0 W) => due4_any q B acked now wt W (HR1.out W hb) HW.out.1)
   obtain ⟨qn, qt, qz, qe, qf, qc⟩ := q
   have HLF : Hid (lostG wt acked now ⟨qn, qt, qz, qe, qf, qc⟩ = (decide (qn ≤ acked) && lostB acked now wt ⟨qn, qt, qz, qe, qf, qc⟩)) := rfl
   have HDU : Hid (dueG wt ⟨qn, qt, qz, qe, qf, qc⟩ = if 9007199254740991 < qt + wt then 9007199254740991 else qt + wt) := rfl
   obtain ⟨D, hD⟩ : ∃ D, (if 9007199254740991 < qt + wt then 9007199254740991 else qt + wt) = D := ⟨_, rfl⟩
   dsimp only at z0 z1 z2 z3 z4 z5 t0 t1 t2 t3 HM2 HL3 HD4
   rw [hD] at HD4 HDU
   clear hD
   unfold pkC at HF1 HX HM2 HL3 HD4 r0
   dsimp only at HF1 HX HM2 HL3 HD4 r0
   have b0 : (wr.alloc (.cells #[ZI ZQ qn, ZI ZQ qt, ZI ZQ qz, .bool qe, .bool qf, .bool qc] 40)).cell? ⟨wr.heap.size, 0, none⟩ = some (ZI ZQ qn) := HX.out.cell 0
   have b1 : (wr.alloc (.cells #[ZI ZQ qn, ZI ZQ qt, ZI ZQ qz, .bool qe, .bool qf, .bool qc] 40)).cell? ⟨wr.heap.size, 1, none⟩ = some (ZI ZQ qt) := HX.out.cell 1
   go_wp2_with fail
   refine (HM2.out _ HF1.out.below).mono ?_
   rintro e6 w6 ⟨rfl, hb6⟩
   have HF6 := hide (HF1.out.later hb6)
   have HX6 : Hid (Blk w6 wr.heap.size 40 #[ZI ZQ qn, ZI ZQ qt, ZI ZQ qz, .bool qe, .bool qf, .bool qc]) := hide ((hb6.block _ HX.out.lt).trans HX.out)
   clear hb6 b0 b1 r0 HF1 HX z0 z1 z2 z3 z4 z5
   by_cases hm : qn ≤ acked
   ·rw [decide_eq_true hm]
    have r1 : w6.cell? ⟨w5.heap.size, 1, none⟩ = some (.func (.func 144) #[] #[.pointer (some ⟨B, 0, none⟩), .pointer (some ⟨B + 4, 0, none⟩), .pointer (some ⟨B + 1, 0, none⟩)]) := Blk.cell (g := w5.heap.size) (HX1.out _ HF6.out.below) 1
    have b0 : w6.cell? ⟨wr.heap.size, 0, none⟩ = some (ZI ZQ qn) := Blk.cell (g := wr.heap.size) HX6.out 0
    have b1 : w6.cell? ⟨wr.heap.size, 1, none⟩ = some (ZI ZQ qt) := Blk.cell (g := wr.heap.size) HX6.out 1
    have b2 : w6.cell? ⟨wr.heap.size, 2, none⟩ = some (ZI ZQ qz) := Blk.cell (g := wr.heap.size) HX6.out 2
    have b3 : w6.cell? ⟨wr.heap.size, 3, none⟩ = some (.bool qe) := Blk.cell (g := wr.heap.size) HX6.out 3
    have b4 : w6.cell? ⟨wr.heap.size, 4, none⟩ = some (.bool qf) := Blk.cell (g := wr.heap.size) HX6.out 4
    have b5 : w6.cell? ⟨wr.heap.size, 5, none⟩ = some (.bool qc) := Blk.cell (g := wr.heap.size) HX6.out 5
    go_wp2_with fail
    refine (HL3.out _ HF6.out.below).mono ?_
    rintro e7 w7 ⟨rfl, hb7⟩
    have HF7 := hide (HF6.out.later hb7)
    have HX7 : Hid (Blk w7 wr.heap.size 40 #[ZI ZQ qn, ZI ZQ qt, ZI ZQ qz, .bool qe, .bool qf, .bool qc]) := hide ((hb7.block _ HX6.out.lt).trans HX6.out)
    clear hb7 r1 b0 b1 b2 b3 b4 b5 HF6 HX6
    cases hlb : lostB acked now wt (⟨qn, qt, qz, qe, qf, qc⟩ : PK) with
    | true =>
     have HYL : Hid (lostG wt acked now (⟨qn, qt, qz, qe, qf, qc⟩ : PK) = true) := by show _ = _; rw [HLF.out, hlb, decide_eq_true hm]; rfl
     obtain ⟨A8, c8, hv8⟩ := own_slice' HF7.out.own8
     subst hv8
     obtain ⟨M, hM⟩ : ∃ M, ((qs.take i).filter (lostG wt acked now)).length = M := ⟨_, rfl⟩
     obtain ⟨xs, hxs⟩ : ∃ xs, pkcs ((qs.take i).filter (lostG wt acked now)) = xs := ⟨_, rfl⟩
     have hown := HF7.out.own8
     rw [hM, hxs] at hown
     rw [hM] at hln
     have HOW := hide hown
     have HM := hide hM
     have HXS := hide hxs
     rw [hM]
     have hLM := HL8.out
     rw [hM] at hLM
     have HLM := hide hLM
     clear hown hM hxs hLM
     have b0 : w7.cell? ⟨wr.heap.size, 0, none⟩ = some (ZI ZQ qn) := Blk.cell (g := wr.heap.size) HX7.out 0
     have b1 : w7.cell? ⟨wr.heap.size, 1, none⟩ = some (ZI ZQ qt) := Blk.cell (g := wr.heap.size) HX7.out 1
     have b2 : w7.cell? ⟨wr.heap.size, 2, none⟩ = some (ZI ZQ qz) := Blk.cell (g := wr.heap.size) HX7.out 2
     have b3 : w7.cell? ⟨wr.heap.size, 3, none⟩ = some (.bool qe) := Blk.cell (g := wr.heap.size) HX7.out 3
     have b4 : w7.cell? ⟨wr.heap.size, 4, none⟩ = some (.bool qf) := Blk.cell (g := wr.heap.size) HX7.out 4
     have b5 : w7.cell? ⟨wr.heap.size, 5, none⟩ = some (.bool qc) := Blk.cell (g := wr.heap.size) HX7.out 5
     have hs0 : W0.heap.size ≤ w7.heap.size := HF7.out.below.size
     go_wp2_with (at_builtin; refine wpList_append_any _ rfl (.tmp 59) (.tmp 61) _ rfl W0.heap.size 40 i0 _ 6 32 Tryz.underlying37 hi0 hz0 hz1 hz2 rfl (by decide) (.slice A8 M c8) M xs rfl (by exact HOW.out.alloc _) (w7.heap.size + 1) (some ⟨w7.heap.size, 0, none⟩) 1 1 [ZI ZQ qn, ZI ZQ qt, ZI ZQ qz, .bool qe, .bool qf, .bool qc] rfl (by exact reads_lit (blk_new_at (by simp)) (by simp) rfl) (by simp [Value.oneCell']) (by unfold maxLen; omega) (by omega) (by simp; omega) ?_; intro v8 w8 hown8 hg8 hat8)
     go_roundg (n - (i + 1))
     case rel =>
      refine ⟨i + 1, by go_num, by omega, by omega, by rw [HTK.out, atG_snoc, HYL.out, HA.out]; rfl, ?_⟩
      rw [HTK.out, filt_yes _ _ _ HYL.out, filt_no _ _ _ (by simp [HYL.out])]
      exact FdAt.push8 (out' := ((qs.take i).filter (lostG wt acked now)) ++ [(⟨qn, qt, qz, qe, qf, qc⟩ : PK)]) (by have h := HF7.out.later ((Below.refl _ _).alloc (Nat.le_refl _) (.cells #[ZI ZQ qn, ZI ZQ qt, ZI ZQ qz, .bool qe, .bool qf, .bool qc] 40)); rw [HM.out] at h; exact h) hg8 hat8 (by rw [show (((qs.take i).filter (lostG wt acked now)) ++ [(⟨qn, qt, qz, qe, qf, qc⟩ : PK)]).length = M + 1 by rw [List.length_append, HM.out]; rfl, pkcs_snoc, HXS.out]; exact hown8)
     case measure => omega
    | false =>
     have HNL : Hid (lostG wt acked now (⟨qn, qt, qz, qe, qf, qc⟩ : PK) = false) := by show _ = _; rw [HLF.out, hlb, Bool.and_false]
     obtain ⟨A8, c8, hv8⟩ := own_slice' HF7.out.own9
     subst hv8
     obtain ⟨M, hM⟩ : ∃ M, ((qs.take i).filter fun q => !lostG wt acked now q).length = M := ⟨_, rfl⟩
     obtain ⟨xs, hxs⟩ : ∃ xs, pkcs ((qs.take i).filter fun q => !lostG wt acked now q) = xs := ⟨_, rfl⟩
     have hown := HF7.out.own9
     rw [hM, hxs] at hown
     rw [hM] at hln9
     have HOW := hide hown
     have HM := hide hM
     have HXS := hide hxs
     rw [hM]
     have hLM := HL8.out
     rw [hM] at hLM
     have HLM := hide hLM
     clear hown hM hxs hLM
     have b0 : w7.cell? ⟨wr.heap.size, 0, none⟩ = some (ZI ZQ qn) := Blk.cell (g := wr.heap.size) HX7.out 0
     have b1 : w7.cell? ⟨wr.heap.size, 1, none⟩ = some (ZI ZQ qt) := Blk.cell (g := wr.heap.size) HX7.out 1
     have b2 : w7.cell? ⟨wr.heap.size, 2, none⟩ = some (ZI ZQ qz) := Blk.cell (g := wr.heap.size) HX7.out 2
     have b3 : w7.cell? ⟨wr.heap.size, 3, none⟩ = some (.bool qe) := Blk.cell (g := wr.heap.size) HX7.out 3
     have b4 : w7.cell? ⟨wr.heap.size, 4, none⟩ = some (.bool qf) := Blk.cell (g := wr.heap.size) HX7.out 4
     have b5 : w7.cell? ⟨wr.heap.size, 5, none⟩ = some (.bool qc) := Blk.cell (g := wr.heap.size) HX7.out 5
     have hs0 : W0.heap.size ≤ w7.heap.size := HF7.out.below.size
     go_wp2_with (at_builtin; refine wpList_append_any _ rfl (.tmp 63) (.tmp 65) _ rfl W0.heap.size 40 i0 _ 6 32 Tryz.underlying37 hi0 hz0 hz1 hz2 rfl (by decide) (.slice A8 M c8) M xs rfl (by exact HOW.out.alloc _) (w7.heap.size + 1) (some ⟨w7.heap.size, 0, none⟩) 1 1 [ZI ZQ qn, ZI ZQ qt, ZI ZQ qz, .bool qe, .bool qf, .bool qc] rfl (by exact reads_lit (blk_new_at (by simp)) (by simp) rfl) (by simp [Value.oneCell']) (by unfold maxLen; omega) (by omega) (by simp; omega) ?_; intro v8 w8 hown8 hg8 hat8; have HF8 := hide (FdAt.push9 (out' := ((qs.take i).filter fun q => !lostG wt acked now q) ++ [(⟨qn, qt, qz, qe, qf, qc⟩ : PK)]) (by have h := HF7.out.later ((Below.refl _ _).alloc (Nat.le_refl _) (.cells #[ZI ZQ qn, ZI ZQ qt, ZI ZQ qz, .bool qe, .bool qf, .bool qc] 40)); rw [HM.out] at h; exact h) hg8 hat8 (by rw [show (((qs.take i).filter fun q => !lostG wt acked now q) ++ [(⟨qn, qt, qz, qe, qf, qc⟩ : PK)]).length = M + 1 by rw [List.length_append, HM.out]; rfl, pkcs_snoc, HXS.out]; exact hown8)); have HX8 : Hid (Blk w8 wr.heap.size 40 #[ZI ZQ qn, ZI ZQ qt, ZI ZQ qz, .bool qe, .bool qf, .bool qc]) := hide ((hg8.block _ (HX7.out.alloc _).lt (fun e => HLM.out.2 _ e.symm rfl)).trans (HX7.out.alloc _)); have r0 : w8.cell? ⟨w5.heap.size, 0, none⟩ = some (.func (.func 143) #[] #[.pointer (some ⟨B, 0, none⟩)]) := Blk.cell (g := w5.heap.size) (HX1.out _ HF8.out.below) 0; have r2 : w8.cell? ⟨w5.heap.size, 2, none⟩ = some (.func (.func 145) #[] #[.pointer (some ⟨B + 4, 0, none⟩)]) := Blk.cell (g := w5.heap.size) (HX1.out _ HF8.out.below) 2; have b0 : w8.cell? ⟨wr.heap.size, 0, none⟩ = some (ZI ZQ qn) := HX8.out.cell 0; have b1 : w8.cell? ⟨wr.heap.size, 1, none⟩ = some (ZI ZQ qt) := HX8.out.cell 1; have b2 : w8.cell? ⟨wr.heap.size, 2, none⟩ = some (ZI ZQ qz) := HX8.out.cell 2; have b3 : w8.cell? ⟨wr.heap.size, 3, none⟩ = some (.bool qe) := HX8.out.cell 3; have b4 : w8.cell? ⟨wr.heap.size, 4, none⟩ = some (.bool qf) := HX8.out.cell 4; have b5 : w8.cell? ⟨wr.heap.size, 5, none⟩ = some (.bool qc) := HX8.out.cell 5)
     refine (HD4.out _ HF8.out.below).mono ?_
     rintro e9 w9 ⟨rfl, hb9⟩
     have HF9 := hide (HF8.out.later hb9)
     have HX9 : Hid (Blk w9 wr.heap.size 40 #[ZI ZQ qn, ZI ZQ qt, ZI ZQ qz, .bool qe, .bool qf, .bool qc]) := hide ((hb9.block _ HX8.out.lt).trans HX8.out)
     clear hb9 b0 b1 b2 b3 b4 b5 r0 r2 hown8 hg8 hat8
     have r0 : w9.cell? ⟨w5.heap.size, 0, none⟩ = some (.func (.func 143) #[] #[.pointer (some ⟨B, 0, none⟩)]) := Blk.cell (g := w5.heap.size) (HX1.out _ HF9.out.below) 0
     have b0 : w9.cell? ⟨wr.heap.size, 0, none⟩ = some (ZI ZQ qn) := Blk.cell (g := wr.heap.size) HX9.out 0
     have b1 : w9.cell? ⟨wr.heap.size, 1, none⟩ = some (ZI ZQ qt) := Blk.cell (g := wr.heap.size) HX9.out 1
     have b2 : w9.cell? ⟨wr.heap.size, 2, none⟩ = some (ZI ZQ qz) := Blk.cell (g := wr.heap.size) HX9.out 2
     have b3 : w9.cell? ⟨wr.heap.size, 3, none⟩ = some (.bool qe) := Blk.cell (g := wr.heap.size) HX9.out 3
     have b4 : w9.cell? ⟨wr.heap.size, 4, none⟩ = some (.bool qf) := Blk.cell (g := wr.heap.size) HX9.out 4
     have b5 : w9.cell? ⟨wr.heap.size, 5, none⟩ = some (.bool qc) := Blk.cell (g := wr.heap.size) HX9.out 5
     go_wp2_with fail
     refine (HM2.out _ HF9.out.below).mono ?_
     rintro e10 w10 ⟨rfl, hb10⟩
     have HF10 := hide (HF9.out.later hb10)
     clear hb10
     rw [show decide (qn ≤ acked) = true from decide_eq_true (by omega)]
     by_cases hA1 : A = -1
     ·subst hA1
      go_wp2_with fail
      go_roundg (n - (i + 1))
      case rel =>
       refine ⟨i + 1, by go_num, by omega, by omega, ?_, ?_⟩
       ·rw [HTK.out, atG_snoc, HNL.out, HA.out, HDU.out]
        simp [hm]
       ·rw [HTK.out, filt_no _ _ _ HNL.out, filt_yes _ _ _ (by simp [HNL.out])]
        exact HF10.out
      case measure => omega
     ·by_cases hDA : D < A
      ·have hA2 : (A == -1) = false := by simpa using hA1
       go_wp2_with fail
       go_roundg (n - (i + 1))
       case rel =>
        refine ⟨i + 1, by go_num, by omega, by omega, ?_, ?_⟩
        ·rw [HTK.out, atG_snoc, HNL.out, HA.out, HDU.out]
         simp [hm, hDA]
        ·rw [HTK.out, filt_no _ _ _ HNL.out, filt_yes _ _ _ (by simp [HNL.out])]
         exact HF10.out
       case measure => omega
      ·have hA2 : (A == -1) = false := by simpa using hA1
       go_wp2_with fail
       go_roundg (n - (i + 1))
       case rel =>
        refine ⟨i + 1, by go_num, by omega, by omega, ?_, ?_⟩
        ·rw [HTK.out, atG_snoc, HNL.out, HA.out, HDU.out]
         simp only [Bool.false_eq_true, if_false]
         rw [if_neg (by intro h; rcases h.2 with h3 | h3 <;> omega)]
        ·rw [HTK.out, filt_no _ _ _ HNL.out, filt_yes _ _ _ (by simp [HNL.out])]
         exact HF10.out
       case measure => omega
   ·rw [decide_eq_false hm]
    have HNL : Hid (lostG wt acked now (⟨qn, qt, qz, qe, qf, qc⟩ : PK) = false) := by show _ = _; rw [HLF.out, decide_eq_false hm]; rfl
    obtain ⟨A8, c8, hv8⟩ := own_slice' HF6.out.own9
    subst hv8
    obtain ⟨M, hM⟩ : ∃ M, ((qs.take i).filter fun q => !lostG wt acked now q).length = M := ⟨_, rfl⟩
    obtain ⟨xs, hxs⟩ : ∃ xs, pkcs ((qs.take i).filter fun q => !lostG wt acked now q) = xs := ⟨_, rfl⟩
    have hown := HF6.out.own9
    rw [hM, hxs] at hown
    rw [hM] at hln9
    have HOW := hide hown
    have HM := hide hM
    have HXS := hide hxs
    rw [hM]
    have hLM := HL8.out
    rw [hM] at hLM
    have HLM := hide hLM
    clear hown hM hxs hLM
    have b0 : w6.cell? ⟨wr.heap.size, 0, none⟩ = some (ZI ZQ qn) := Blk.cell (g := wr.heap.size) HX6.out 0
    have b1 : w6.cell? ⟨wr.heap.size, 1, none⟩ = some (ZI ZQ qt) := Blk.cell (g := wr.heap.size) HX6.out 1
    have b2 : w6.cell? ⟨wr.heap.size, 2, none⟩ = some (ZI ZQ qz) := Blk.cell (g := wr.heap.size) HX6.out 2
    have b3 : w6.cell? ⟨wr.heap.size, 3, none⟩ = some (.bool qe) := Blk.cell (g := wr.heap.size) HX6.out 3
    have b4 : w6.cell? ⟨wr.heap.size, 4, none⟩ = some (.bool qf) := Blk.cell (g := wr.heap.size) HX6.out 4
    have b5 : w6.cell? ⟨wr.heap.size, 5, none⟩ = some (.bool qc) := Blk.cell (g := wr.heap.size) HX6.out 5
    have hs0 : W0.heap.size ≤ w6.heap.size := HF6.out.below.size
    go_wp2_with (at_builtin; refine wpList_append_any _ rfl (.tmp 63) (.tmp 65) _ rfl W0.heap.size 40 i0 _ 6 32 Tryz.underlying37 hi0 hz0 hz1 hz2 rfl (by decide) (.slice A8 M c8) M xs rfl (by exact HOW.out.alloc _) (w6.heap.size + 1) (some ⟨w6.heap.size, 0, none⟩) 1 1 [ZI ZQ qn, ZI ZQ qt, ZI ZQ qz, .bool qe, .bool qf, .bool qc] rfl (by exact reads_lit (blk_new_at (by simp)) (by simp) rfl) (by simp [Value.oneCell']) (by unfold maxLen; omega) (by omega) (by simp; omega) ?_; intro v8 w8 hown8 hg8 hat8; have HF8 := hide (FdAt.push9 (out' := ((qs.take i).filter fun q => !lostG wt acked now q) ++ [(⟨qn, qt, qz, qe, qf, qc⟩ : PK)]) (by have h := HF6.out.later ((Below.refl _ _).alloc (Nat.le_refl _) (.cells #[ZI ZQ qn, ZI ZQ qt, ZI ZQ qz, .bool qe, .bool qf, .bool qc] 40)); rw [HM.out] at h; exact h) hg8 hat8 (by rw [show (((qs.take i).filter fun q => !lostG wt acked now q) ++ [(⟨qn, qt, qz, qe, qf, qc⟩ : PK)]).length = M + 1 by rw [List.length_append, HM.out]; rfl, pkcs_snoc, HXS.out]; exact hown8)); have HX8 : Hid (Blk w8 wr.heap.size 40 #[ZI ZQ qn, ZI ZQ qt, ZI ZQ qz, .bool qe, .bool qf, .bool qc]) := hide ((hg8.block _ (HX6.out.alloc _).lt (fun e => HLM.out.2 _ e.symm rfl)).trans (HX6.out.alloc _)); have r0 : w8.cell? ⟨w5.heap.size, 0, none⟩ = some (.func (.func 143) #[] #[.pointer (some ⟨B, 0, none⟩)]) := Blk.cell (g := w5.heap.size) (HX1.out _ HF8.out.below) 0; have r2 : w8.cell? ⟨w5.heap.size, 2, none⟩ = some (.func (.func 145) #[] #[.pointer (some ⟨B + 4, 0, none⟩)]) := Blk.cell (g := w5.heap.size) (HX1.out _ HF8.out.below) 2; have b0 : w8.cell? ⟨wr.heap.size, 0, none⟩ = some (ZI ZQ qn) := HX8.out.cell 0; have b1 : w8.cell? ⟨wr.heap.size, 1, none⟩ = some (ZI ZQ qt) := HX8.out.cell 1; have b2 : w8.cell? ⟨wr.heap.size, 2, none⟩ = some (ZI ZQ qz) := HX8.out.cell 2; have b3 : w8.cell? ⟨wr.heap.size, 3, none⟩ = some (.bool qe) := HX8.out.cell 3; have b4 : w8.cell? ⟨wr.heap.size, 4, none⟩ = some (.bool qf) := HX8.out.cell 4; have b5 : w8.cell? ⟨wr.heap.size, 5, none⟩ = some (.bool qc) := HX8.out.cell 5)
    refine (HD4.out _ HF8.out.below).mono ?_
    rintro e9 w9 ⟨rfl, hb9⟩
    have HF9 := hide (HF8.out.later hb9)
    have HX9 : Hid (Blk w9 wr.heap.size 40 #[ZI ZQ qn, ZI ZQ qt, ZI ZQ qz, .bool qe, .bool qf, .bool qc]) := hide ((hb9.block _ HX8.out.lt).trans HX8.out)
    clear hb9 b0 b1 b2 b3 b4 b5 r0 r2 hown8 hg8 hat8
    have r0 : w9.cell? ⟨w5.heap.size, 0, none⟩ = some (.func (.func 143) #[] #[.pointer (some ⟨B, 0, none⟩)]) := Blk.cell (g := w5.heap.size) (HX1.out _ HF9.out.below) 0
    have b0 : w9.cell? ⟨wr.heap.size, 0, none⟩ = some (ZI ZQ qn) := Blk.cell (g := wr.heap.size) HX9.out 0
    have b1 : w9.cell? ⟨wr.heap.size, 1, none⟩ = some (ZI ZQ qt) := Blk.cell (g := wr.heap.size) HX9.out 1
    have b2 : w9.cell? ⟨wr.heap.size, 2, none⟩ = some (ZI ZQ qz) := Blk.cell (g := wr.heap.size) HX9.out 2
    have b3 : w9.cell? ⟨wr.heap.size, 3, none⟩ = some (.bool qe) := Blk.cell (g := wr.heap.size) HX9.out 3
    have b4 : w9.cell? ⟨wr.heap.size, 4, none⟩ = some (.bool qf) := Blk.cell (g := wr.heap.size) HX9.out 4
    have b5 : w9.cell? ⟨wr.heap.size, 5, none⟩ = some (.bool qc) := Blk.cell (g := wr.heap.size) HX9.out 5
    go_wp2_with fail
    refine (HM2.out _ HF9.out.below).mono ?_
    rintro e10 w10 ⟨rfl, hb10⟩
    have HF10 := hide (HF9.out.later hb10)
    clear hb10
    rw [show decide (qn ≤ acked) = false from decide_eq_false (by omega)]
    go_wp2_with fail
    go_roundg (n - (i + 1))
    case rel =>
     refine ⟨i + 1, by go_num, by omega, by omega, ?_, ?_⟩
     ·rw [HTK.out, atG_snoc, HNL.out, HA.out, HDU.out]
      simp [show ¬ qn ≤ acked by omega]
     ·rw [HTK.out, filt_no _ _ _ HNL.out, filt_yes _ _ _ (by simp [HNL.out])]
      exact HF10.out
    case measure => omega
  ·obtain rfl : i = n := by omega
   have hin : ¬ (i : Int) < (i : Int) := by omega
   rw [List.take_of_length_le (by rw [HN.out]; exact Nat.le_refl _)] at hF HA
   have hsz0 := HB6.out.size
   go_wp2_with fail
   exact bodyPost_ret (v := .tuple #[u8, u9, ZI ZQ A, ZI ZQ 0]) (by simp [results, Tryz.results52, go_sem]) rfl ⟨u8, u9, by rw [HA.out], own_lower hF.own8 hsz0, bw_below0 HB6.out hF.below⟩
end Go.Proofs.YtgicljeedegncaaGreat
