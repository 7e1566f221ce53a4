/-
 2 texts in one (PersistPairs, PersistKeep).
-/
import Derived.Test.YtgicljeedegncaaGreatTqFrameGaps
import Derived.Sort.LoopGhostIn
import Derived.Laws.EntriesVeiled
namespace Go.Proofs.YtgicljeedegncaaGreat
open Go.Value renaming int → ZI
open Go.IntKind renaming i64 → ZQ
set_option linter.unusedSimpArgs false
set_option linter.unusedVariables false
open Go.RowKit Go.Shelf
attribute [local go_sem] Oper.semAt_some

def encP (x : PK × PK) : Array Value := #[pkV x.1, pkV x.2]
/-- Packets that were checked. -/
def PkOk (p : PK) : Prop := 0 ≤ p.n ∧ p.n ≤ 9007199254740991 ∧ 0 ≤ p.t ∧ p.t ≤ 9007199254740991

/-- Inside the inner round: the two packets' boxes besides. -/
structure InCtx (S : List Nat) (W : World) (Bl Bc Bg Bf Bk : Nat) (a : Option Addr) (cap : Nat) (ps : List PK) (first : Int) (v : Value) (rs : List Rg) (X6 X8 : Nat) (p q : PK) : Prop where
 ctx : PairCtx S W Bl Bc Bg Bf Bk a cap ps first v rs
 x6 : Blk W X6 40 (pkC p)
 x8 : Blk W X8 40 (pkC q)
theorem InCtx.below {S : List Nat} {W W' : World} {Bl Bc Bg Bf Bk X6 X8 : Nat} {a : Option Addr} {cap : Nat} {ps : List PK} {first : Int} {v : Value} {rs : List Rg} {p q : PK} (h : InCtx S W Bl Bc Bg Bf Bk a cap ps first v rs X6 X8 p q) (hb : Below W.heap.size W W') :
  InCtx S W' Bl Bc Bg Bf Bk a cap ps first v rs X6 X8 p q := ⟨h.ctx.keep (keepC_below hb), (hb.block _ h.x6.lt).trans h.x6, (hb.block _ h.x8.lt).trans h.x8⟩
theorem InCtx.facts {S : List Nat} {W : World} {Bl Bc Bg Bf Bk X6 X8 : Nat} {a : Option Addr} {cap : Nat} {ps : List PK} {first : Int} {v : Value} {rs : List Rg} {p q : PK} (h : InCtx S W Bl Bc Bg Bf Bk a cap ps first v rs X6 X8 p q) :
  W.cell? ⟨Bc, 0, none⟩ = some (.func (.func 180) #[] #[.pointer (some ⟨Bf, 0, none⟩)]) ∧ W.cell? ⟨Bg, 0, none⟩ = some (.func (.func 181) #[] #[.pointer (some ⟨Bk, 0, none⟩)]) ∧
  W.cell? ⟨X6, 0, none⟩ = some (ZI ZQ p.n) ∧ W.cell? ⟨X6, 1, none⟩ = some (ZI ZQ p.t) ∧ W.cell? ⟨X6, 2, none⟩ = some (ZI ZQ p.s) ∧ W.cell? ⟨X6, 3, none⟩ = some (.bool p.e) ∧ W.cell? ⟨X6, 4, none⟩ = some (.bool p.f) ∧ W.cell? ⟨X6, 5, none⟩ = some (.bool p.c) ∧
  W.cell? ⟨X8, 0, none⟩ = some (ZI ZQ q.n) ∧ W.cell? ⟨X8, 1, none⟩ = some (ZI ZQ q.t) ∧ W.cell? ⟨X8, 2, none⟩ = some (ZI ZQ q.s) ∧ W.cell? ⟨X8, 3, none⟩ = some (.bool q.e) ∧ W.cell? ⟨X8, 4, none⟩ = some (.bool q.f) ∧ W.cell? ⟨X8, 5, none⟩ = some (.bool q.c) :=
 ⟨h.ctx.c, h.ctx.g, h.x6.cell 0, h.x6.cell 1, h.x6.cell 2, h.x6.cell 3, h.x6.cell 4, h.x6.cell 5, h.x8.cell 0, h.x8.cell 1, h.x8.cell 2, h.x8.cell 3, h.x8.cell 4, h.x8.cell 5⟩
set_option maxRecDepth 100000 in
set_option maxHeartbeats 4000000 in
theorem pairs3_in (F : Fence) (n : Nat) (hF : F.fn 183) (h1F : F.fn 180) (h2F : F.fn 181) (hro : F.round = none) (hn : 2 ≤ n) (l : Nat)
  (HC : Hid (∀ (p : PK) (first : Int) (Bf : Nat) (w : World), w.cell? ⟨Bf, 0, none⟩ = some (ZI ZQ first) → CallsIn F (n - 1) Tryz.prog 180 #[pkV p, .pointer (some ⟨Bf, 0, none⟩)] w fun e w' => e = .returned (.bool (counts first p)) ∧ Below w.heap.size w w'))
  (HG : Hid (∀ (a b : PK) (v : Value) (rs : List Rg) (Bk : Nat) (w : World), w.cell? ⟨Bk, 0, none⟩ = some v → AckAt w v rs → PkOk a → PkOk b → CallsIn F (n - 1) Tryz.prog 181 #[pkV a, pkV b, .pointer (some ⟨Bk, 0, none⟩)] w fun e w' => e = .returned (.bool (freeR rs a b)) ∧ Below w.heap.size w w'))
  (S : List Nat) (Bl Bc Bg Bf Bk : Nat) (a : Option Addr) (cap : Nat) (ps : List PK) (first : Int) (v : Value) (rs : List Rg) (hlen : ps.length ≤ 256) (hcap : ps.length ≤ cap) (hps : ∀ p ∈ ps, PkOk p) (J Jx : List (PK × PK) → World → Prop)
  (hJ : ∀ pre A B, J pre A → Below A.heap.size A B → J pre B)
  (hY : ∀ pre x W, J pre W → pre.length < (pairsL rs first ps).length → YieldAt F (n - 1) Tryz.prog l (encP x) W fun e W' =>
   (e = .returned (.bool true) ∧ J (pre ++ [x]) W' ∧ KeepC S W W') ∨ (e = .returned (.bool false) ∧ Jx (pre ++ [x]) W'))
  (W : World) (hSW : ∀ k ∈ S, k < W.heap.size) (hA : PairCtx S W Bl Bc Bg Bf Bk a cap ps first v rs) (h0 : J [] W) :
  CallsIn F n Tryz.prog 183 #[.func (.yield l) #[] #[], .pointer (some ⟨Bl, 0, none⟩), .pointer (some ⟨Bc, 0, none⟩), .pointer (some ⟨Bg, 0, none⟩)] W fun e W' => (∃ v, e = .returned v) ∧
   ((∃ ys, ys = pairsL rs first ps ∧ J ys W') ∨ (∃ pre, pre <+: pairsL rs first ps ∧ Jx pre W')) := by
 refine callsIn_of_wp Tryz.func183 rfl hF ?_ hro
 simp only [Tryz.ntmps183, List.size_toArray, List.length_cons, List.length_nil, Nat.reduceAdd, Nat.reduceSub, Array.replicate_succ, Array.replicate_zero, List.push_toArray, List.append_toArray, List.nil_append, List.cons_append]
 have q0 := hA.l
 have HA := hide hA
 have HPS := hide hps
 have HJ := hide hJ
 have HY := hide hY
 clear hA hps hJ hY
 obtain ⟨PL, hPL⟩ : ∃ PL, pairsL rs first ps = PL := ⟨_, rfl⟩
 have HPL := hide hPL
 rw [hPL] at HY ⊢
 clear hPL
 gi_wp2
 gi_loopg [11] ps.length (fun kx s11 wr => ∃ (i : Nat) (pre : List (PK × PK)), s11 = ZI ZQ i ∧ i ≤ ps.length ∧ ps.length - i ≤ kx ∧ Hid (pre ++ pairsL rs first (ps.drop i) = PL) ∧ J pre wr ∧ PairCtx S wr Bl Bc Bg Bf Bk a cap ps first v rs ∧ W.heap.size ≤ wr.heap.size)
 case atStart => exact ⟨0, [], rfl, by omega, by omega, HPL, h0, HA.out, Nat.le_refl _⟩
 case round =>
  clear q0 HA h0
  obtain ⟨i, pre, rfl, hi, hkx, hpl, hJs, hA, hWs⟩ := hrel
  by_cases hlt : i < ps.length
  ·obtain ⟨p, hp⟩ : ∃ p, ps[i]? = some p := ⟨_, List.getElem?_eq_getElem hlt⟩
   have hd : ps.drop i = p :: ps.drop (i + 1) := by
    rw [List.drop_eq_getElem_cons hlt]
    congr 1
    rw [List.getElem?_eq_getElem hlt] at hp
    exact Option.some.inj hp
   obtain ⟨k, o, rfl, hk, z0, z1, z2, z3, z4, z5⟩ := hA.pks.cells hp
   have q0 := hA.l
   have hq0 := cell_lt q0
   have HAA := hide hA
   have HJS := hide hJs
   have HP := hide hp
   have HD := hide hd
   clear hA hJs hp hd
   have hin : (i : Int) < (ps.length : Int) := by omega
   have hi1 : (i : Int) + 1 ≤ (ps.length : Int) := by omega
   have hi2 : (i : Int) + 1 ≤ (cap : Int) := by omega
   have ALo : Blk (wr.alloc (.cells (pkC p) 40)) wr.heap.size 40 (pkC p) := Blk.new _ _ _
   have hbA : Below wr.heap.size wr (wr.alloc (.cells (pkC p) 40)) := (Below.refl _ _).alloc (Nat.le_refl _) _
   have hA1 := HAA.out.keep (keepC_below (S := S) hbA)
   have hJ1 := HJ.out _ _ _ HJS.out hbA
   have hX6 : wr.heap.size ∉ S := fun h => by have := hSW _ h; omega
   have HX6 := hide hX6
   have HALo := hide ALo
   have HA1 := hide hA1
   have HJ1 := hide hJ1
   have hsz1 : W.heap.size ≤ (wr.alloc (.cells (pkC p) 40)).heap.size := Nat.le_trans hWs hbA.size
   have HSZ1 := hide hsz1
   have HPL1 : Hid (pre ++ (((ps.drop (i + 1 + 0)).filter fun b => pairOk rs first p b).map fun b => (p, b)) ++ pairsL rs first (ps.drop (i + 1)) = PL) := by
    show _ = _
    rw [← hpl, HD.out, List.append_assoc]
    rfl
   clear ALo hbA hA1 hJ1 hX6 hsz1 hpl HJS HAA
   by_cases hce : cap = i + 1
   ·have HM0 : Hid (ps.length - (i + 1) = 0) := by show _ = _; omega
    have HML : Hid (ps.length = i + 1) := by show _ = _; omega
    unfold pkC at HALo HA1 HJ1 HSZ1
    gi_wp2
    rw [HM0.out]
    have h00 : ¬ ((0 : Nat) : Int) < 0 := by omega
    clear hce
    gi_loopg [21] 0 (fun ky s21 wi => s21 = ZI ZQ 0 ∧ J pre wi ∧ PairCtx S wi Bl Bc Bg Bf Bk (some ⟨k, o, none⟩) cap ps first v rs ∧ W.heap.size ≤ wi.heap.size)
    case atStart => exact ⟨rfl, HJ1.out, HA1.out, HSZ1.out⟩
    case round =>
     clear HJ1 HA1 HALo HSZ1 z0 z1 z2 z3 z4 z5 q0
     obtain ⟨rfl, hJs, hA, hWs2⟩ := hrel
     gi_wp2
     go_roundg (ps.length - (i + 1))
     case rel => exact ⟨i + 1, pre, by go_num, by omega, by omega, by
      show _ = _
      have := HPL1.out
      have e := List.drop_of_length_le (i := i + 1) (l := ps) (by rw [HML.out]; omega)
      simp only [Nat.add_zero, e] at this ⊢
      simpa using this, hJs, hA, hWs2⟩
     case measure => omega
   ·unfold pkC at HALo HA1 HJ1 HSZ1
    gi_wp2
    obtain ⟨M, hM⟩ : ∃ M, ps.length - (i + 1) = M := ⟨_, rfl⟩
    rw [hM]
    have HM : Hid (ps.length = i + 1 + M) := by show _ = _; omega
    have hMlt : M < 256 := by omega
    clear hM
    generalize hX6e : wr.heap.size = X6 at *
    gi_loopg [21] M (fun ky s21 wi => ∃ (j : Nat) (pre2 : List (PK × PK)), s21 = ZI ZQ j ∧ j ≤ M ∧ M - j ≤ ky ∧ Hid (pre2 ++ (((ps.drop (i + 1 + j)).filter fun b => pairOk rs first p b).map fun b => (p, b)) ++ pairsL rs first (ps.drop (i + 1)) = PL) ∧ J pre2 wi ∧ PairCtx S wi Bl Bc Bg Bf Bk (some ⟨k, o, none⟩) cap ps first v rs ∧ Blk wi X6 40 (pkC p) ∧ W.heap.size ≤ wi.heap.size)
    case atStart => exact ⟨0, pre, rfl, by omega, by omega, HPL1, HJ1.out, HA1.out, HALo.out, HSZ1.out⟩
    case round =>
     clear HPL1 HJ1 HA1 HALo HSZ1 z0 z1 z2 z3 z4 z5 q0
     obtain ⟨j, pre2, rfl, hj, hky, hpl, hJs, hA, hB6, hWs2⟩ := hrel
     by_cases hlt2 : j < M
     ·obtain ⟨q, hq⟩ : ∃ q, ps[i + 1 + j]? = some q := ⟨_, List.getElem?_eq_getElem (by have := HM.out; omega)⟩
      have hd : ps.drop (i + 1 + j) = q :: ps.drop (i + 1 + (j + 1)) := by
       have hlt3 : i + 1 + j < ps.length := by have := HM.out; omega
       rw [List.drop_eq_getElem_cons hlt3]
       congr 1
       rw [List.getElem?_eq_getElem hlt3] at hq
       exact Option.some.inj hq
      have hpo := HPS.out p (List.mem_of_getElem? HP.out)
      have hqo := HPS.out q (List.mem_of_getElem? hq)
      obtain ⟨k', o', ek, hkw, z0, z1, z2, z3, z4, z5⟩ := hA.pks.cells hq
      cases ek
      rw [show o + (i + 1 + j) * 6 = o + (i + 1) * 6 + j * 6 by omega] at z0 z1 z2 z3 z4 z5
      have hI : InCtx S (wr.alloc (.cells (pkC q) 40)) Bl Bc Bg Bf Bk (some ⟨k, o, none⟩) cap ps first v rs X6 wr.heap.size p q := ⟨hA.keep (keepC_below ((Below.refl _ _).alloc (Nat.le_refl _) _)), hB6.alloc _, Blk.new _ _ _⟩
      have hJ2 := HJ.out _ _ _ hJs ((Below.refl _ _).alloc (Nat.le_refl _) (.cells (pkC q) 40))
      have hX8 : wr.heap.size ∉ S := fun h => by have := hSW _ h; omega
      have HX8 := hide hX8
      have hWs3 : W.heap.size ≤ (wr.alloc (.cells (pkC q) 40)).heap.size := Nat.le_trans hWs2 (by simp)
      have HWS3 := hide hWs3
      have HI := hide hI
      have HJ2 := hide hJ2
      have HPO := hide hpo
      have HQO := hide hqo
      have HD2 := hide hd
      have HPL2 : Hid (pre2 ++ ((if pairOk rs first p q = true then [(p, q)] else []) ++ ((ps.drop (i + 1 + (j + 1))).filter fun b => pairOk rs first p b).map fun b => (p, b)) ++ pairsL rs first (ps.drop (i + 1)) = PL) := by
       show _ = _
       rw [← hpl, HD2.out, List.filter_cons]
       split <;> simp
      have c1 := hA.c
      have c2 := hA.g
      have c3 := cell_lt c1
      have c4 := cell_lt c2
      have c5 := hB6.lt
      have g0 := hB6.cell 0
      have g1 := hB6.cell 1
      have g2 := hB6.cell 2
      have g3 := hB6.cell 3
      have g4 := hB6.cell 4
      have g5 := hB6.cell 5
      clear hq hd hA hJs hB6 hX8 hI hJ2 hpo hqo hpl hWs3 hWs2
      have hjM : (j : Int) < (M : Int) := by omega
      obtain ⟨X8, hX8e⟩ : ∃ X8, wr.heap.size = X8 := ⟨_, rfl⟩
      rw [hX8e] at HX8 HI
      have HX8e := hide hX8e
      clear hX8e
      obtain ⟨pn, pt, ps_, pe, pf, pc⟩ := p
      obtain ⟨qn, qt, qs, qe, qf, qc⟩ := q
      unfold pkC at HI HJ2 HWS3 g0 g1 g2 g3 g4 g5
      dsimp only at z0 z1 z2 z3 z4 z5 g0 g1 g2 g3 g4 g5 HI
      gi_wp2_with fail
      rw [HX8e.out]
      refine ⟨fun _ => by omega, (HC.out ⟨pn, pt, ps_, pe, pf, pc⟩ first Bf _ HI.out.ctx.f).mono ?_⟩
      rintro x1 w1 ⟨rfl, hb1⟩
      have hI := HI.out.below hb1
      have hJ3 := HJ.out _ _ _ HJ2.out hb1
      have hW3 := Nat.le_trans HWS3.out hb1.size
      clear z0 z1 z2 z3 z4 z5 g0 g1 g2 g3 g4 g5 c1 c2 c3 c4 c5 HI HJ2 HWS3 HX8e hb1
      obtain ⟨c1, c2, g0, g1, g2, g3, g4, g5, e0, e1, e2, e3, e4, e5⟩ := hI.facts
      dsimp only at g0 g1 g2 g3 g4 g5 e0 e1 e2 e3 e4 e5
      cases hca : counts first ⟨pn, pt, ps_, pe, pf, pc⟩ with
      | false =>
       have hno : pairOk rs first ⟨pn, pt, ps_, pe, pf, pc⟩ ⟨qn, qt, qs, qe, qf, qc⟩ = false := by unfold pairOk; rw [hca]; rfl
       have HPLF := HPL2
       rw [hno, if_neg (by simp), List.nil_append] at HPLF
       clear hno HPL2
       gi_wp2_with fail
       repeat (refine ⟨fun _ h => (by cases h), ?_⟩; gi_wp2_with fail)
       go_roundg (M - (j + 1))
       case rel => exact ⟨j + 1, pre2, by go_num, by omega, by omega, HPLF, hJ3, hI.ctx, hI.x6, hW3⟩
       case measure => omega
      | true =>
       have HCA := hide hca
       clear hca
       gi_wp2_with fail
       refine ⟨fun _ => by omega, (HC.out ⟨qn, qt, qs, qe, qf, qc⟩ first Bf _ hI.ctx.f).mono ?_⟩
       rintro x2 w2 ⟨rfl, hb2⟩
       have hJ3 := HJ.out _ _ _ hJ3 hb2
       have hW3 := Nat.le_trans hW3 hb2.size
       clear c1 c2 g0 g1 g2 g3 g4 g5 e0 e1 e2 e3 e4 e5
       have hI := hI.below hb2
       clear hb2
       obtain ⟨c1, c2, g0, g1, g2, g3, g4, g5, e0, e1, e2, e3, e4, e5⟩ := hI.facts
       dsimp only at g0 g1 g2 g3 g4 g5 e0 e1 e2 e3 e4 e5
       cases hcb : counts first ⟨qn, qt, qs, qe, qf, qc⟩ with
       | false =>
        have hno : pairOk rs first ⟨pn, pt, ps_, pe, pf, pc⟩ ⟨qn, qt, qs, qe, qf, qc⟩ = false := by unfold pairOk; rw [hcb, Bool.and_false]; rfl
        have HPLF := HPL2
        rw [hno, if_neg (by simp), List.nil_append] at HPLF
        clear hno HPL2
        gi_wp2_with fail
        repeat (refine ⟨fun _ h => (by cases h), ?_⟩; gi_wp2_with fail)
        go_roundg (M - (j + 1))
        case rel => exact ⟨j + 1, pre2, by go_num, by omega, by omega, HPLF, hJ3, hI.ctx, hI.x6, hW3⟩
        case measure => omega
       | true =>
        have HCB := hide hcb
        clear hcb
        by_cases hle : pt ≤ qt
        ·gi_wp2_with fail
         refine ⟨fun _ => by omega, (HG.out ⟨pn, pt, ps_, pe, pf, pc⟩ ⟨qn, qt, qs, qe, qf, qc⟩ v rs Bk _ hI.ctx.k hI.ctx.ack.at HPO.out HQO.out).mono ?_⟩
         rintro x3 w3 ⟨rfl, hb3⟩
         have hJ3 := HJ.out _ _ _ hJ3 hb3
         have hW3 := Nat.le_trans hW3 hb3.size
         clear c1 c2 g0 g1 g2 g3 g4 g5 e0 e1 e2 e3 e4 e5
         have hI := hI.below hb3
         clear hb3
         obtain ⟨c1, c2, g0, g1, g2, g3, g4, g5, e0, e1, e2, e3, e4, e5⟩ := hI.facts
         dsimp only at g0 g1 g2 g3 g4 g5 e0 e1 e2 e3 e4 e5
         cases hfr : freeR rs ⟨pn, pt, ps_, pe, pf, pc⟩ ⟨qn, qt, qs, qe, qf, qc⟩ with
         | false =>
          have hno : pairOk rs first ⟨pn, pt, ps_, pe, pf, pc⟩ ⟨qn, qt, qs, qe, qf, qc⟩ = false := by unfold pairOk; rw [hfr, Bool.and_false]
          have HPLF := HPL2
          rw [hno, if_neg (by simp), List.nil_append] at HPLF
          clear hno HPL2
          gi_wp2_with fail
          repeat (refine ⟨fun _ h => (by cases h), ?_⟩; gi_wp2_with fail)
          go_roundg (M - (j + 1))
          case rel => exact ⟨j + 1, pre2, by go_num, by omega, by omega, HPLF, hJ3, hI.ctx, hI.x6, hW3⟩
          case measure => omega
         | true =>
          have hyes : pairOk rs first ⟨pn, pt, ps_, pe, pf, pc⟩ ⟨qn, qt, qs, qe, qf, qc⟩ = true := by unfold pairOk; rw [hfr, HCA.out, HCB.out, show decide (pt ≤ qt) = true from decide_eq_true hle]; rfl
          have HPLT := HPL2
          rw [hyes, if_pos rfl] at HPLT
          have hlen3 : pre2.length < PL.length := by rw [← HPLT.out]; simp
          obtain ⟨fn, tmps, assign, body, hy, hR⟩ := HY.out pre2 (⟨pn, pt, ps_, pe, pf, pc⟩, ⟨qn, qt, qs, qe, qf, qc⟩) w3 hJ3 hlen3
          unfold encP pkV pkC at hy
          have HR := hide hR
          clear hfr hyes hlen3 HPL2 hR
          gi_wp2_with fail
          refine ⟨fun _ => by omega, HR.out.mono ?_⟩
          rintro e w4 (⟨rfl, hJ4, hk4⟩ | ⟨rfl, hJx4⟩)
          ·have hc4 := hI.ctx.keep hk4
           have hx4 := hk4.blk hI.x6 HX6.out
           have hW4 := Nat.le_trans hW3 hk4.1
           have HPL4 : Hid ((pre2 ++ [(⟨pn, pt, ps_, pe, pf, pc⟩, ⟨qn, qt, qs, qe, qf, qc⟩)]) ++ (((ps.drop (i + 1 + (j + 1))).filter fun b => pairOk rs first ⟨pn, pt, ps_, pe, pf, pc⟩ b).map fun b => (⟨pn, pt, ps_, pe, pf, pc⟩, b)) ++ pairsL rs first (ps.drop (i + 1)) = PL) := by
            show _ = _
            rw [← HPLT.out]
            simp only [List.append_assoc]
           clear c1 c2 g0 g1 g2 g3 g4 g5 e0 e1 e2 e3 e4 e5 hI hk4 hJ3 hy HR
           gi_wp2_with fail
           go_roundg (M - (j + 1))
           case rel => exact ⟨j + 1, _, by go_num, by omega, by omega, HPL4, hJ4, hc4, hx4, hW4⟩
           case measure => omega
          ·clear hy HR
           gi_wp2_with fail
           refine bodyPost_ret (results_none rfl _ _ _) rfl ?_
           refine ⟨⟨_, rfl⟩, .inr ⟨_, ?_, hJx4⟩⟩
           rw [← HPLT.out]
           simp only [List.append_assoc]
           exact ⟨_, by rw [List.append_assoc]⟩
        ·have hdl : decide (pt ≤ qt) = false := decide_eq_false hle
         have HDL := hide hdl
         clear hdl
         have hno : pairOk rs first ⟨pn, pt, ps_, pe, pf, pc⟩ ⟨qn, qt, qs, qe, qf, qc⟩ = false := by unfold pairOk; rw [HDL.out, Bool.and_false]; rfl
         have HPLF := HPL2
         rw [hno, if_neg (by simp), List.nil_append] at HPLF
         clear hno HPL2
         gi_wp2_with fail
         repeat (refine ⟨fun _ h => (by cases h), ?_⟩; gi_wp2_with fail)
         go_roundg (M - (j + 1))
         case rel => exact ⟨j + 1, pre2, by go_num, by omega, by omega, HPLF, hJ3, hI.ctx, hI.x6, hW3⟩
         case measure => omega
     ·obtain rfl : j = M := by omega
      have hjM : ¬ (j : Int) < (j : Int) := by omega
      have HPLE : Hid (pre2 ++ pairsL rs first (ps.drop (i + 1)) = PL) := by
       show _ = _
       rw [← hpl, List.drop_of_length_le (i := i + 1 + j) (by rw [HM.out]; exact Nat.le_refl _)]
       simp
      clear hpl hB6
      gi_wp2_with fail
      go_roundg (ps.length - (i + 1))
      case rel => exact ⟨i + 1, pre2, by go_num, by omega, by omega, HPLE, hJs, hA, hWs2⟩
      case measure => omega
  ·obtain hie : i = ps.length := by omega
   have hin : ¬ (i : Int) < (ps.length : Int) := by omega
   have HPLE : Hid (pre = PL) := by
    show _ = _
    rw [← hpl, List.drop_of_length_le (by omega)]
    simp [pairsL]
   clear hpl hie
   gi_wp2_with fail
   repeat (refine ⟨fun _ h => (by cases h), ?_⟩; gi_wp2_with fail)
   go_end0
   exact ⟨⟨_, rfl⟩, .inl (by rw [← HPLE.out]; exact hJs)⟩
end Go.Proofs.YtgicljeedegncaaGreat

namespace Go.Proofs.YtgicljeedegncaaGreat
open Go.Value renaming int → ZI
open Go.IntKind renaming i64 → ZQ
set_option linter.unusedSimpArgs false
set_option linter.unusedVariables false
open Go.RowKit

/-- What is kept, in four cells. -/
structure PerAt (W : World) (B : Nat) (st : Per) : Prop where
 d : Blk W B 3 #[ZI ZQ st.d]
 lo : Blk W (B + 1) 3 #[ZI ZQ st.lo]
 hi : Blk W (B + 2) 3 #[ZI ZQ st.hi]
 some : Blk W (B + 3) 4 #[.bool st.some]
theorem PerAt.below {W W' : World} {B : Nat} {st : Per} (h : PerAt W B st) (hb : Below W.heap.size W W') : PerAt W' B st :=
 ⟨(hb.block _ h.d.lt).trans h.d, (hb.block _ h.lo.lt).trans h.lo, (hb.block _ h.hi.lt).trans h.hi, (hb.block _ h.some.lt).trans h.some⟩
/-- What is kept of a pair, as the program reckons it. -/
def keepW (st : Per) (x : PK × PK) : Per := if !st.some || decide (st.d < wrap64 (x.2.t - x.1.t)) then ⟨wrap64 (x.2.t - x.1.t), x.1.n, x.2.n, true⟩ else st
theorem keepW_fold : ∀ (l : List (PK × PK)) (st : Per), (∀ x ∈ l, PkOk x.1 ∧ PkOk x.2) → l.foldl keepW st = l.foldl keepP st
 | [], _, _ => rfl
 | x :: l, st, h => by
  have e : keepW st x = keepP st x := by
   obtain ⟨⟨_, _, h1, h2⟩, _, _, h3, h4⟩ := h x (by simp)
   have hw : wrap64 (x.2.t - x.1.t) = x.2.t - x.1.t := by unfold wrap64; omega
   unfold keepW keepP
   rw [hw]
  rw [List.foldl_cons, List.foldl_cons, e]
  exact keepW_fold l _ fun y hy => h y (by simp [hy])
/-- The boxes of two packets. -/
def KeepPost (W : World) (B : Nat) (st : Per) (e : Ending) (W' : World) : Prop := (∃ v, e = .returned v) ∧ PerAt W' B st ∧ Only [B, B + 1, B + 2, B + 3] W W'

theorem PerAt.set4 {W : World} {B : Nat} {st : Per} (h : PerAt W B st) (d lo hi : Int) :
  PerAt ((((W.setCell ⟨B, 0, none⟩ (ZI ZQ d)).setCell ⟨B + 1, 0, none⟩ (ZI ZQ lo)).setCell ⟨B + 2, 0, none⟩ (ZI ZQ hi)).setCell ⟨B + 3, 0, none⟩ (.bool true)) B ⟨d, lo, hi, true⟩ :=
 ⟨(((h.d.set 0 _).far (by simp) _).far (by simp) _).far (by simp) _, (((h.lo.far (by simp) _).set 0 _).far (by simp) _).far (by simp) _,
  (((h.hi.far (by simp) _).far (by simp) _).set 0 _).far (by simp) _, (((h.some.far (by simp) _).far (by simp) _).far (by simp) _).set 0 _⟩
theorem only_set4 (W : World) (B : Nat) (v0 v1 v2 v3 : Value) :
  Only [B, B + 1, B + 2, B + 3] W ((((W.setCell ⟨B, 0, none⟩ v0).setCell ⟨B + 1, 0, none⟩ v1).setCell ⟨B + 2, 0, none⟩ v2).setCell ⟨B + 3, 0, none⟩ v3) :=
 ((((only_of_below (Below.refl _ _)).setCell (.inl (by simp)) _).setCell (.inl (by simp)) _).setCell (.inl (by simp)) _).setCell (.inl (by simp)) _

set_option maxRecDepth 100000 in
set_option maxHeartbeats 2000000 in
theorem keep_any (a b : PK) (B : Nat) (st : Per) (w : World) (hP : PerAt w B st) :
  Calls Tryz.prog 166 #[pkV a, pkV b, .pointer (some ⟨B + 3, 0, none⟩), .pointer (some ⟨B, 0, none⟩), .pointer (some ⟨B + 1, 0, none⟩), .pointer (some ⟨B + 2, 0, none⟩)] w (KeepPost w B (keepW st (a, b))) := by
 obtain ⟨an, at_, as_, ae, af, ac⟩ := a
 obtain ⟨bn, bt, bs, be, bf, bc⟩ := b
 unfold pkV pkC
 dsimp only at *
 have d0 := hP.d.cell 0
 have s0 := hP.some.cell 0
 have f0 := hP.d.frozen 0
 have f1 := hP.lo.frozen 0
 have f2 := hP.hi.frozen 0
 have f3 := hP.some.frozen 0
 have l0 := hP.d.lt
 have l1 := hP.lo.lt
 have l2 := hP.hi.lt
 have l3 := hP.some.lt
 have c1 := hP.lo.cell 0
 have c2 := hP.hi.cell 0
 have HPP := hide hP
 clear hP
 obtain ⟨d, lo, hi, sm⟩ := st
 obtain ⟨D, hD⟩ : ∃ D, wrap64 (bt - at_) = D := ⟨_, rfl⟩
 dsimp only at *
 cases sm with
 | false =>
  have HK : Hid (keepW ⟨d, lo, hi, false⟩ (⟨an, at_, as_, ae, af, ac⟩, ⟨bn, bt, bs, be, bf, bc⟩) = ⟨D, an, bn, true⟩) := by show _ = _; unfold keepW; rw [hD]; rfl
  rw [HK.out]
  go_enter Tryz.func166, Tryz.ntmps166
  go_wp2_with fail
  go_region
  go_end0
  exact ⟨⟨_, rfl⟩, (((HPP.out.set4 D an bn).below ((Below.refl _ _).alloc (Nat.le_refl _) _)).below ((Below.refl _ _).alloc (Nat.le_refl _) _)).below (Below.refl _ _).drew, (((only_set4 w B _ _ _ _).alloc _).alloc _).drew⟩
 | true =>
  by_cases hd : d < D
  ·have HK : Hid (keepW ⟨d, lo, hi, true⟩ (⟨an, at_, as_, ae, af, ac⟩, ⟨bn, bt, bs, be, bf, bc⟩) = ⟨D, an, bn, true⟩) := by show _ = _; unfold keepW; rw [hD]; simp [hd]
   rw [HK.out]
   go_enter Tryz.func166, Tryz.ntmps166
   go_wp2_with fail
   go_region
   go_end0
   exact ⟨⟨_, rfl⟩, (((HPP.out.set4 D an bn).below ((Below.refl _ _).alloc (Nat.le_refl _) _)).below ((Below.refl _ _).alloc (Nat.le_refl _) _)).below (Below.refl _ _).drew, (((only_set4 w B _ _ _ _).alloc _).alloc _).drew⟩
  ·have HK : Hid (keepW ⟨d, lo, hi, true⟩ (⟨an, at_, as_, ae, af, ac⟩, ⟨bn, bt, bs, be, bf, bc⟩) = ⟨d, lo, hi, true⟩) := by show _ = _; unfold keepW; rw [hD]; simp [hd]
   rw [HK.out]
   go_enter Tryz.func166, Tryz.ntmps166
   go_wp2_with fail
   go_end0
   exact ⟨⟨_, rfl⟩, (HPP.out.below ((Below.refl _ _).alloc (Nat.le_refl _) _)).below ((Below.refl _ _).alloc (Nat.le_refl _) _), ((only_of_below (Below.refl _ _)).alloc _).alloc _⟩

def PairsPost (a : Option Addr) (n cap : Nat) (q : Option Addr) (first : Int) (w : World) (e : Ending) (w' : World) : Prop :=
 ∃ Bc Bg, e = .returned (.func (.func 183) #[] #[.pointer (some ⟨w.heap.size, 0, none⟩), .pointer (some ⟨Bc, 0, none⟩), .pointer (some ⟨Bg, 0, none⟩)]) ∧ Below w.heap.size w w' ∧ w.heap.size ≤ Bc ∧ w.heap.size ≤ Bg ∧
  w'.cell? ⟨w.heap.size, 0, none⟩ = some (.slice a n cap) ∧ w'.cell? ⟨w.heap.size + 1, 0, none⟩ = some (.pointer q) ∧ w'.cell? ⟨w.heap.size + 2, 0, none⟩ = some (ZI ZQ first) ∧
  w'.cell? ⟨Bc, 0, none⟩ = some (.func (.func 180) #[] #[.pointer (some ⟨w.heap.size + 2, 0, none⟩)]) ∧
  w'.cell? ⟨Bg, 0, none⟩ = some (.func (.func 181) #[] #[.pointer (some ⟨w.heap.size + 1, 0, none⟩)])
set_option maxHeartbeats 1000000 in
theorem pairs_any (a : Option Addr) (n cap : Nat) (q : Option Addr) (first : Int) (w : World) :
  Calls Tryz.prog 167 #[.slice a n cap, .pointer q, ZI ZQ first] w (PairsPost a n cap q first w) := by
 have b0 : Below w.heap.size w (((w.alloc (.cells #[.slice a n cap] 37)).alloc (.cells #[.pointer q] 76)).alloc (.cells #[ZI ZQ first] 3)) := (((Below.refl _ _).alloc (Nat.le_refl _) _).alloc (by simp) _).alloc (by simp; omega) _
 have x0 : Blk (((w.alloc (.cells #[.slice a n cap] 37)).alloc (.cells #[.pointer q] 76)).alloc (.cells #[ZI ZQ first] 3)) w.heap.size 37 #[.slice a n cap] := ((Blk.new _ _ _).alloc _).alloc _
 have x1 : Blk (((w.alloc (.cells #[.slice a n cap] 37)).alloc (.cells #[.pointer q] 76)).alloc (.cells #[ZI ZQ first] 3)) (w.heap.size + 1) 76 #[.pointer q] := by
  have := (Blk.new (w.alloc (.cells #[.slice a n cap] 37)) 76 #[.pointer q]).alloc (.cells #[ZI ZQ first] 3)
  rw [World.size_alloc] at this
  exact this
 have x2 : Blk (((w.alloc (.cells #[.slice a n cap] 37)).alloc (.cells #[.pointer q] 76)).alloc (.cells #[ZI ZQ first] 3)) (w.heap.size + 2) 3 #[ZI ZQ first] := by
  have := Blk.new ((w.alloc (.cells #[.slice a n cap] 37)).alloc (.cells #[.pointer q] 76)) 3 #[ZI ZQ first]
  simp only [World.size_alloc] at this
  exact this
 have s0 : (((w.alloc (.cells #[.slice a n cap] 37)).alloc (.cells #[.pointer q] 76)).alloc (.cells #[ZI ZQ first] 3)).heap.size = w.heap.size + 3 := by simp only [World.size_alloc]
 have B0 := hide b0
 have X0 := hide x0
 have X1 := hide x1
 have X2 := hide x2
 have S0 := hide s0
 clear b0 x0 x1 x2 s0
 go_enter Tryz.func167, Tryz.ntmps167
 go_upto_region 1 with (fail)
 rw [show w.heap.size + 1 + 1 = w.heap.size + 2 from rfl]
 obtain ⟨W1, hW1⟩ : ∃ W1, ((w.alloc (.cells #[.slice a n cap] 37)).alloc (.cells #[.pointer q] 76)).alloc (.cells #[ZI ZQ first] 3) = W1 := ⟨_, rfl⟩
 rw [hW1] at B0 X0 X1 X2 S0 ⊢
 clear hW1
 go_wp2_with fail

 go_ret
 have hb2 : Below W1.heap.size W1 ((W1.alloc (.cells #[.func (.func 180) #[] #[.pointer (some ⟨w.heap.size + 2, 0, none⟩)]] 90)).alloc (.cells #[.func (.func 181) #[] #[.pointer (some ⟨w.heap.size + 1, 0, none⟩)]] 184)) := ((Below.refl _ _).alloc (Nat.le_refl _) _).alloc (by simp) _
 have y1 := (Blk.new W1 90 #[.func (.func 180) #[] #[.pointer (some ⟨w.heap.size + 2, 0, none⟩)]]).alloc (.cells #[.func (.func 181) #[] #[.pointer (some ⟨w.heap.size + 1, 0, none⟩)]] 184)
 have y2 := Blk.new (W1.alloc (.cells #[.func (.func 180) #[] #[.pointer (some ⟨w.heap.size + 2, 0, none⟩)]] 90)) 184 #[.func (.func 181) #[] #[.pointer (some ⟨w.heap.size + 1, 0, none⟩)]]
 rw [World.size_alloc] at y2
 have hs := S0.out
 exact ⟨W1.heap.size, W1.heap.size + 1, rfl, bw_below' B0.out hb2, by omega, by omega, (hb2.cell (p := ⟨_, 0, none⟩) X0.out.lt).trans (X0.out.cell 0), (hb2.cell (p := ⟨_, 0, none⟩) X1.out.lt).trans (X1.out.cell 0), (hb2.cell (p := ⟨_, 0, none⟩) X2.out.lt).trans (X2.out.cell 0), y1.cell 0, y2.cell 0⟩
end Go.Proofs.YtgicljeedegncaaGreat
