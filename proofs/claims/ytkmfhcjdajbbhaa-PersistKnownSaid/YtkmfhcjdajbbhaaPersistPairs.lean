/-
  Layer 10 (package persist): the iterator over the pairs.
-/
import Derived.Test.YtkmfhcjdajbbhaaKeepC
import Derived.Sort.LoopGhostIn
namespace Go.Proofs.Ytkmfhcjdajbbhaa
set_option linter.unusedSimpArgs false
set_option linter.unusedVariables false
open Go.RowKit Go.Shelf
attribute [local go_sem] Oper.semAt_some

def encP (x : PK × PK) : Array Value := #[pkV x.1, pkV x.2]
/-- Packets that were checked. -/
def PkOk (p : PK) : Prop := 0 ≤ p.n ∧ p.n ≤ 9007199254740991 ∧ 0 ≤ p.t ∧ p.t ≤ 9007199254740991

/-- Inside the inner round: the two packets' boxes besides. -/
structure InCtx (S : List Nat) (W : World) (Bl Bc Bg Bf Bk : Nat) (a : Option Addr) (cap : Nat) (ps : List PK) (first : Int) (v : Value) (rs : List Rg) (X6 X8 : Nat) (p q : PK) : Prop where
  ctx : PairCtx S W Bl Bc Bg Bf Bk a cap ps first v rs
  x6 : Blk W X6 55 (pkC p)
  x8 : Blk W X8 55 (pkC q)
theorem InCtx.below {S : List Nat} {W W' : World} {Bl Bc Bg Bf Bk X6 X8 : Nat} {a : Option Addr} {cap : Nat} {ps : List PK} {first : Int} {v : Value} {rs : List Rg} {p q : PK} (h : InCtx S W Bl Bc Bg Bf Bk a cap ps first v rs X6 X8 p q) (hb : Below W.heap.size W W') :
    InCtx S W' Bl Bc Bg Bf Bk a cap ps first v rs X6 X8 p q := ⟨h.ctx.keep (keepC_below hb), (hb.block _ h.x6.lt).trans h.x6, (hb.block _ h.x8.lt).trans h.x8⟩
theorem InCtx.facts {S : List Nat} {W : World} {Bl Bc Bg Bf Bk X6 X8 : Nat} {a : Option Addr} {cap : Nat} {ps : List PK} {first : Int} {v : Value} {rs : List Rg} {p q : PK} (h : InCtx S W Bl Bc Bg Bf Bk a cap ps first v rs X6 X8 p q) :
    W.cell? ⟨Bc, 0, none⟩ = some (.func (.func 73) #[] #[.pointer (some ⟨Bf, 0, none⟩)]) ∧ W.cell? ⟨Bg, 0, none⟩ = some (.func (.func 74) #[] #[.pointer (some ⟨Bk, 0, none⟩)]) ∧
    W.cell? ⟨X6, 0, none⟩ = some (.int .i64 p.n) ∧ W.cell? ⟨X6, 1, none⟩ = some (.int .i64 p.t) ∧ W.cell? ⟨X6, 2, none⟩ = some (.int .i64 p.s) ∧ W.cell? ⟨X6, 3, none⟩ = some (.bool p.e) ∧ W.cell? ⟨X6, 4, none⟩ = some (.bool p.f) ∧ W.cell? ⟨X6, 5, none⟩ = some (.bool p.c) ∧
    W.cell? ⟨X8, 0, none⟩ = some (.int .i64 q.n) ∧ W.cell? ⟨X8, 1, none⟩ = some (.int .i64 q.t) ∧ W.cell? ⟨X8, 2, none⟩ = some (.int .i64 q.s) ∧ W.cell? ⟨X8, 3, none⟩ = some (.bool q.e) ∧ W.cell? ⟨X8, 4, none⟩ = some (.bool q.f) ∧ W.cell? ⟨X8, 5, none⟩ = some (.bool q.c) :=
  ⟨h.ctx.c, h.ctx.g, h.x6.cell 0, h.x6.cell 1, h.x6.cell 2, h.x6.cell 3, h.x6.cell 4, h.x6.cell 5, h.x8.cell 0, h.x8.cell 1, h.x8.cell 2, h.x8.cell 3, h.x8.cell 4, h.x8.cell 5⟩
theorem alloc_blk (W : World) (k t : Nat) (cs cs' : Array Value) (h : Blk W k t cs) : Blk (W.alloc (.cells cs' t)) k t cs := h.alloc _

set_option maxRecDepth 100000 in
set_option maxHeartbeats 4000000 in
theorem pairs3_in (F : Fence) (n : Nat) (hF : F.fn 77) (h1F : F.fn 73) (h2F : F.fn 74) (hro : F.round = none) (hn : 2 ≤ n) (l : Nat)
    (HC : Hid (∀ (p : PK) (first : Int) (Bf : Nat) (w : World), w.cell? ⟨Bf, 0, none⟩ = some (.int .i64 first) → CallsIn F (n - 1) Try.prog 73 #[pkV p, .pointer (some ⟨Bf, 0, none⟩)] w fun e w' => e = .returned (.bool (counts first p)) ∧ Below w.heap.size w w'))
    (HG : Hid (∀ (a b : PK) (v : Value) (rs : List Rg) (Bk : Nat) (w : World), w.cell? ⟨Bk, 0, none⟩ = some v → AckAt w v rs → PkOk a → PkOk b → CallsIn F (n - 1) Try.prog 74 #[pkV a, pkV b, .pointer (some ⟨Bk, 0, none⟩)] w fun e w' => e = .returned (.bool (freeR rs a b)) ∧ Below w.heap.size w w'))
    (S : List Nat) (Bl Bc Bg Bf Bk : Nat) (a : Option Addr) (cap : Nat) (ps : List PK) (first : Int) (v : Value) (rs : List Rg) (hlen : ps.length ≤ 256) (hcap : ps.length ≤ cap) (hps : ∀ p ∈ ps, PkOk p) (J Jx : List (PK × PK) → World → Prop)
    (hJ : ∀ pre A B, J pre A → Below A.heap.size A B → J pre B)
    (hY : ∀ pre x W, J pre W → pre.length < (pairsL rs first ps).length → YieldAt F (n - 1) Try.prog l (encP x) W fun e W' =>
      (e = .returned (.bool true) ∧ J (pre ++ [x]) W' ∧ KeepC S W W') ∨ (e = .returned (.bool false) ∧ Jx (pre ++ [x]) W'))
    (W : World) (hSW : ∀ k ∈ S, k < W.heap.size) (hA : PairCtx S W Bl Bc Bg Bf Bk a cap ps first v rs) (h0 : J [] W) :
    CallsIn F n Try.prog 77 #[.func (.yield l) #[] #[], .pointer (some ⟨Bl, 0, none⟩), .pointer (some ⟨Bc, 0, none⟩), .pointer (some ⟨Bg, 0, none⟩)] W fun e W' => (∃ v, e = .returned v) ∧
      ((∃ ys, ys = pairsL rs first ps ∧ J ys W') ∨ (∃ pre, pre <+: pairsL rs first ps ∧ Jx pre W')) := by
  refine callsIn_of_wp Try.func77 rfl hF ?_ hro
  simp only [Try.ntmps77, List.size_toArray, List.length_cons, List.length_nil, Nat.reduceAdd, Nat.reduceSub, Array.replicate_succ, Array.replicate_zero, List.push_toArray, List.append_toArray, List.nil_append, List.cons_append]
  have q0 := hA.l
  have HA := hide hA
  have HPS := hide hps
  have HJ := hide hJ
  have HY := hide hY
  clear hA hps hJ hY
  obtain ⟨PL, hPL⟩ : ∃ PL, pairsL rs first ps = PL := ⟨_, rfl⟩
  have HPL := hide hPL
  rw [hPL] at HY ⊢
  clear hPL
  gi_wp2
  gi_loopg [11] ps.length (fun kx s11 wr => ∃ (i : Nat) (pre : List (PK × PK)), s11 = .int .i64 i ∧ i ≤ ps.length ∧ ps.length - i ≤ kx ∧ Hid (pre ++ pairsL rs first (ps.drop i) = PL) ∧ J pre wr ∧ PairCtx S wr Bl Bc Bg Bf Bk a cap ps first v rs ∧ W.heap.size ≤ wr.heap.size)
  case atStart => exact ⟨0, [], rfl, by omega, by omega, HPL, h0, HA.out, Nat.le_refl _⟩
  case round =>
    clear q0 HA h0
    obtain ⟨i, pre, rfl, hi, hkx, hpl, hJs, hA, hWs⟩ := hrel
    by_cases hlt : i < ps.length
    · obtain ⟨p, hp⟩ : ∃ p, ps[i]? = some p := ⟨_, List.getElem?_eq_getElem hlt⟩
      have hd : ps.drop i = p :: ps.drop (i + 1) := by
        rw [List.drop_eq_getElem_cons hlt]
        congr 1
        rw [List.getElem?_eq_getElem hlt] at hp
        exact Option.some.inj hp
      obtain ⟨k, o, rfl, hk, z0, z1, z2, z3, z4, z5⟩ := hA.pks.cells hp
      have q0 := hA.l
      have hq0 := cell_lt q0
      have HAA := hide hA
      have HJS := hide hJs
      have HP := hide hp
      have HD := hide hd
      clear hA hJs hp hd
      have hin : (i : Int) < (ps.length : Int) := by omega
      have hi1 : (i : Int) + 1 ≤ (ps.length : Int) := by omega
      have hi2 : (i : Int) + 1 ≤ (cap : Int) := by omega
      have ALo : Blk (wr.alloc (.cells (pkC p) 55)) wr.heap.size 55 (pkC p) := Blk.new _ _ _
      have hbA : Below wr.heap.size wr (wr.alloc (.cells (pkC p) 55)) := (Below.refl _ _).alloc (Nat.le_refl _) _
      have hA1 := HAA.out.keep (keepC_below (S := S) hbA)
      have hJ1 := HJ.out _ _ _ HJS.out hbA
      have hX6 : wr.heap.size ∉ S := fun h => by have := hSW _ h; omega
      have HX6 := hide hX6
      have HALo := hide ALo
      have HA1 := hide hA1
      have HJ1 := hide hJ1
      have hsz1 : W.heap.size ≤ (wr.alloc (.cells (pkC p) 55)).heap.size := Nat.le_trans hWs hbA.size
      have HSZ1 := hide hsz1
      have HPL1 : Hid (pre ++ (((ps.drop (i + 1 + 0)).filter fun b => pairOk rs first p b).map fun b => (p, b)) ++ pairsL rs first (ps.drop (i + 1)) = PL) := by
        show _ = _
        rw [← hpl, HD.out, List.append_assoc]
        rfl
      clear ALo hbA hA1 hJ1 hX6 hsz1 hpl HJS HAA
      by_cases hce : cap = i + 1
      · have HM0 : Hid (ps.length - (i + 1) = 0) := by show _ = _; omega
        have HML : Hid (ps.length = i + 1) := by show _ = _; omega
        unfold pkC at HALo HA1 HJ1 HSZ1
        gi_wp2
        rw [HM0.out]
        have h00 : ¬ ((0 : Nat) : Int) < 0 := by omega
        clear hce
        gi_loopg [21] 0 (fun ky s21 wi => s21 = .int .i64 0 ∧ J pre wi ∧ PairCtx S wi Bl Bc Bg Bf Bk (some ⟨k, o, none⟩) cap ps first v rs ∧ W.heap.size ≤ wi.heap.size)
        case atStart => exact ⟨rfl, HJ1.out, HA1.out, HSZ1.out⟩
        case round =>
          clear HJ1 HA1 HALo HSZ1 z0 z1 z2 z3 z4 z5 q0
          obtain ⟨rfl, hJs, hA, hWs2⟩ := hrel
          gi_wp2
          go_roundg (ps.length - (i + 1))
          case rel => exact ⟨i + 1, pre, by go_num, by omega, by omega, by
            show _ = _
            have := HPL1.out
            have e := List.drop_of_length_le (i := i + 1) (l := ps) (by rw [HML.out]; omega)
            simp only [Nat.add_zero, e] at this ⊢
            simpa using this, hJs, hA, hWs2⟩
          case measure => omega
      · unfold pkC at HALo HA1 HJ1 HSZ1
        gi_wp2
        obtain ⟨M, hM⟩ : ∃ M, ps.length - (i + 1) = M := ⟨_, rfl⟩
        rw [hM]
        have HM : Hid (ps.length = i + 1 + M) := by show _ = _; omega
        have hMlt : M < 256 := by omega
        clear hM
        generalize hX6e : wr.heap.size = X6 at *
        gi_loopg [21] M (fun ky s21 wi => ∃ (j : Nat) (pre2 : List (PK × PK)), s21 = .int .i64 j ∧ j ≤ M ∧ M - j ≤ ky ∧ Hid (pre2 ++ (((ps.drop (i + 1 + j)).filter fun b => pairOk rs first p b).map fun b => (p, b)) ++ pairsL rs first (ps.drop (i + 1)) = PL) ∧ J pre2 wi ∧ PairCtx S wi Bl Bc Bg Bf Bk (some ⟨k, o, none⟩) cap ps first v rs ∧ Blk wi X6 55 (pkC p) ∧ W.heap.size ≤ wi.heap.size)
        case atStart => exact ⟨0, pre, rfl, by omega, by omega, HPL1, HJ1.out, HA1.out, HALo.out, HSZ1.out⟩
        case round =>
          clear HPL1 HJ1 HA1 HALo HSZ1 z0 z1 z2 z3 z4 z5 q0
          obtain ⟨j, pre2, rfl, hj, hky, hpl, hJs, hA, hB6, hWs2⟩ := hrel
          by_cases hlt2 : j < M
          · obtain ⟨q, hq⟩ : ∃ q, ps[i + 1 + j]? = some q := ⟨_, List.getElem?_eq_getElem (by have := HM.out; omega)⟩
            have hd : ps.drop (i + 1 + j) = q :: ps.drop (i + 1 + (j + 1)) := by
              have hlt3 : i + 1 + j < ps.length := by have := HM.out; omega
              rw [List.drop_eq_getElem_cons hlt3]
              congr 1
              rw [List.getElem?_eq_getElem hlt3] at hq
              exact Option.some.inj hq
            have hpo := HPS.out p (List.mem_of_getElem? HP.out)
            have hqo := HPS.out q (List.mem_of_getElem? hq)
            obtain ⟨k', o', ek, hkw, z0, z1, z2, z3, z4, z5⟩ := hA.pks.cells hq
            cases ek
            rw [show o + (i + 1 + j) * 6 = o + (i + 1) * 6 + j * 6 by omega] at z0 z1 z2 z3 z4 z5
            have hI : InCtx S (wr.alloc (.cells (pkC q) 55)) Bl Bc Bg Bf Bk (some ⟨k, o, none⟩) cap ps first v rs X6 wr.heap.size p q := ⟨hA.keep (keepC_below ((Below.refl _ _).alloc (Nat.le_refl _) _)), hB6.alloc _, Blk.new _ _ _⟩
            have hJ2 := HJ.out _ _ _ hJs ((Below.refl _ _).alloc (Nat.le_refl _) (.cells (pkC q) 55))
            have hX8 : wr.heap.size ∉ S := fun h => by have := hSW _ h; omega
            have HX8 := hide hX8
            have hWs3 : W.heap.size ≤ (wr.alloc (.cells (pkC q) 55)).heap.size := Nat.le_trans hWs2 (by simp)
            have HWS3 := hide hWs3
            have HI := hide hI
            have HJ2 := hide hJ2
            have HPO := hide hpo
            have HQO := hide hqo
            have HD2 := hide hd
            have HPL2 : Hid (pre2 ++ ((if pairOk rs first p q = true then [(p, q)] else []) ++ ((ps.drop (i + 1 + (j + 1))).filter fun b => pairOk rs first p b).map fun b => (p, b)) ++ pairsL rs first (ps.drop (i + 1)) = PL) := by
              show _ = _
              rw [← hpl, HD2.out, List.filter_cons]
              split <;> simp
            have c1 := hA.c
            have c2 := hA.g
            have c3 := cell_lt c1
            have c4 := cell_lt c2
            have c5 := hB6.lt
            have g0 := hB6.cell 0
            have g1 := hB6.cell 1
            have g2 := hB6.cell 2
            have g3 := hB6.cell 3
            have g4 := hB6.cell 4
            have g5 := hB6.cell 5
            clear hq hd hA hJs hB6 hX8 hI hJ2 hpo hqo hpl hWs3 hWs2
            have hjM : (j : Int) < (M : Int) := by omega
            obtain ⟨X8, hX8e⟩ : ∃ X8, wr.heap.size = X8 := ⟨_, rfl⟩
            rw [hX8e] at HX8 HI
            have HX8e := hide hX8e
            clear hX8e
            obtain ⟨pn, pt, ps_, pe, pf, pc⟩ := p
            obtain ⟨qn, qt, qs, qe, qf, qc⟩ := q
            unfold pkC at HI HJ2 HWS3 g0 g1 g2 g3 g4 g5
            dsimp only at z0 z1 z2 z3 z4 z5 g0 g1 g2 g3 g4 g5 HI
            gi_wp2_with fail
            rw [HX8e.out]
            refine ⟨fun _ => by omega, (HC.out ⟨pn, pt, ps_, pe, pf, pc⟩ first Bf _ HI.out.ctx.f).mono ?_⟩
            rintro x1 w1 ⟨rfl, hb1⟩
            have hI := HI.out.below hb1
            have hJ3 := HJ.out _ _ _ HJ2.out hb1
            have hW3 := Nat.le_trans HWS3.out hb1.size
            clear z0 z1 z2 z3 z4 z5 g0 g1 g2 g3 g4 g5 c1 c2 c3 c4 c5 HI HJ2 HWS3 HX8e hb1
            obtain ⟨c1, c2, g0, g1, g2, g3, g4, g5, e0, e1, e2, e3, e4, e5⟩ := hI.facts
            dsimp only at g0 g1 g2 g3 g4 g5 e0 e1 e2 e3 e4 e5
            cases hca : counts first ⟨pn, pt, ps_, pe, pf, pc⟩ with
            | false =>
              have hno : pairOk rs first ⟨pn, pt, ps_, pe, pf, pc⟩ ⟨qn, qt, qs, qe, qf, qc⟩ = false := by unfold pairOk; rw [hca]; rfl
              have HPLF := HPL2
              rw [hno, if_neg (by simp), List.nil_append] at HPLF
              clear hno HPL2
              gi_wp2_with fail
              repeat (refine ⟨fun _ h => (by cases h), ?_⟩; gi_wp2_with fail)
              go_roundg (M - (j + 1))
              case rel => exact ⟨j + 1, pre2, by go_num, by omega, by omega, HPLF, hJ3, hI.ctx, hI.x6, hW3⟩
              case measure => omega
            | true =>
              have HCA := hide hca
              clear hca
              gi_wp2_with fail
              refine ⟨fun _ => by omega, (HC.out ⟨qn, qt, qs, qe, qf, qc⟩ first Bf _ hI.ctx.f).mono ?_⟩
              rintro x2 w2 ⟨rfl, hb2⟩
              have hJ3 := HJ.out _ _ _ hJ3 hb2
              have hW3 := Nat.le_trans hW3 hb2.size
              clear c1 c2 g0 g1 g2 g3 g4 g5 e0 e1 e2 e3 e4 e5
              have hI := hI.below hb2
              clear hb2
              obtain ⟨c1, c2, g0, g1, g2, g3, g4, g5, e0, e1, e2, e3, e4, e5⟩ := hI.facts
              dsimp only at g0 g1 g2 g3 g4 g5 e0 e1 e2 e3 e4 e5
              cases hcb : counts first ⟨qn, qt, qs, qe, qf, qc⟩ with
              | false =>
                have hno : pairOk rs first ⟨pn, pt, ps_, pe, pf, pc⟩ ⟨qn, qt, qs, qe, qf, qc⟩ = false := by unfold pairOk; rw [hcb, Bool.and_false]; rfl
                have HPLF := HPL2
                rw [hno, if_neg (by simp), List.nil_append] at HPLF
                clear hno HPL2
                gi_wp2_with fail
                repeat (refine ⟨fun _ h => (by cases h), ?_⟩; gi_wp2_with fail)
                go_roundg (M - (j + 1))
                case rel => exact ⟨j + 1, pre2, by go_num, by omega, by omega, HPLF, hJ3, hI.ctx, hI.x6, hW3⟩
                case measure => omega
              | true =>
                have HCB := hide hcb
                clear hcb
                by_cases hle : pt ≤ qt
                · gi_wp2_with fail
                  refine ⟨fun _ => by omega, (HG.out ⟨pn, pt, ps_, pe, pf, pc⟩ ⟨qn, qt, qs, qe, qf, qc⟩ v rs Bk _ hI.ctx.k hI.ctx.ack.at HPO.out HQO.out).mono ?_⟩
                  rintro x3 w3 ⟨rfl, hb3⟩
                  have hJ3 := HJ.out _ _ _ hJ3 hb3
                  have hW3 := Nat.le_trans hW3 hb3.size
                  clear c1 c2 g0 g1 g2 g3 g4 g5 e0 e1 e2 e3 e4 e5
                  have hI := hI.below hb3
                  clear hb3
                  obtain ⟨c1, c2, g0, g1, g2, g3, g4, g5, e0, e1, e2, e3, e4, e5⟩ := hI.facts
                  dsimp only at g0 g1 g2 g3 g4 g5 e0 e1 e2 e3 e4 e5
                  cases hfr : freeR rs ⟨pn, pt, ps_, pe, pf, pc⟩ ⟨qn, qt, qs, qe, qf, qc⟩ with
                  | false =>
                    have hno : pairOk rs first ⟨pn, pt, ps_, pe, pf, pc⟩ ⟨qn, qt, qs, qe, qf, qc⟩ = false := by unfold pairOk; rw [hfr, Bool.and_false]
                    have HPLF := HPL2
                    rw [hno, if_neg (by simp), List.nil_append] at HPLF
                    clear hno HPL2
                    gi_wp2_with fail
                    repeat (refine ⟨fun _ h => (by cases h), ?_⟩; gi_wp2_with fail)
                    go_roundg (M - (j + 1))
                    case rel => exact ⟨j + 1, pre2, by go_num, by omega, by omega, HPLF, hJ3, hI.ctx, hI.x6, hW3⟩
                    case measure => omega
                  | true =>
                    have hyes : pairOk rs first ⟨pn, pt, ps_, pe, pf, pc⟩ ⟨qn, qt, qs, qe, qf, qc⟩ = true := by unfold pairOk; rw [hfr, HCA.out, HCB.out, show decide (pt ≤ qt) = true from decide_eq_true hle]; rfl
                    have HPLT := HPL2
                    rw [hyes, if_pos rfl] at HPLT
                    have hlen3 : pre2.length < PL.length := by rw [← HPLT.out]; simp
                    obtain ⟨fn, tmps, assign, body, hy, hR⟩ := HY.out pre2 (⟨pn, pt, ps_, pe, pf, pc⟩, ⟨qn, qt, qs, qe, qf, qc⟩) w3 hJ3 hlen3
                    unfold encP pkV pkC at hy
                    have HR := hide hR
                    clear hfr hyes hlen3 HPL2 hR
                    gi_wp2_with fail
                    refine ⟨fun _ => by omega, HR.out.mono ?_⟩
                    rintro e w4 (⟨rfl, hJ4, hk4⟩ | ⟨rfl, hJx4⟩)
                    · have hc4 := hI.ctx.keep hk4
                      have hx4 := hk4.blk hI.x6 HX6.out
                      have hW4 := Nat.le_trans hW3 hk4.1
                      have HPL4 : Hid ((pre2 ++ [(⟨pn, pt, ps_, pe, pf, pc⟩, ⟨qn, qt, qs, qe, qf, qc⟩)]) ++ (((ps.drop (i + 1 + (j + 1))).filter fun b => pairOk rs first ⟨pn, pt, ps_, pe, pf, pc⟩ b).map fun b => (⟨pn, pt, ps_, pe, pf, pc⟩, b)) ++ pairsL rs first (ps.drop (i + 1)) = PL) := by
                        show _ = _
                        rw [← HPLT.out]
                        simp only [List.append_assoc]
                      clear c1 c2 g0 g1 g2 g3 g4 g5 e0 e1 e2 e3 e4 e5 hI hk4 hJ3 hy HR
                      gi_wp2_with fail
                      go_roundg (M - (j + 1))
                      case rel => exact ⟨j + 1, _, by go_num, by omega, by omega, HPL4, hJ4, hc4, hx4, hW4⟩
                      case measure => omega
                    · clear hy HR
                      gi_wp2_with fail
                      refine bodyPost_ret (results_none rfl _ _ _) rfl ?_
                      refine ⟨⟨_, rfl⟩, .inr ⟨_, ?_, hJx4⟩⟩
                      rw [← HPLT.out]
                      simp only [List.append_assoc]
                      exact ⟨_, by rw [List.append_assoc]⟩
                · have hdl : decide (pt ≤ qt) = false := decide_eq_false hle
                  have HDL := hide hdl
                  clear hdl
                  have hno : pairOk rs first ⟨pn, pt, ps_, pe, pf, pc⟩ ⟨qn, qt, qs, qe, qf, qc⟩ = false := by unfold pairOk; rw [HDL.out, Bool.and_false]; rfl
                  have HPLF := HPL2
                  rw [hno, if_neg (by simp), List.nil_append] at HPLF
                  clear hno HPL2
                  gi_wp2_with fail
                  repeat (refine ⟨fun _ h => (by cases h), ?_⟩; gi_wp2_with fail)
                  go_roundg (M - (j + 1))
                  case rel => exact ⟨j + 1, pre2, by go_num, by omega, by omega, HPLF, hJ3, hI.ctx, hI.x6, hW3⟩
                  case measure => omega
          · obtain rfl : j = M := by omega
            have hjM : ¬ (j : Int) < (j : Int) := by omega
            have HPLE : Hid (pre2 ++ pairsL rs first (ps.drop (i + 1)) = PL) := by
              show _ = _
              rw [← hpl, List.drop_of_length_le (i := i + 1 + j) (by rw [HM.out]; exact Nat.le_refl _)]
              simp
            clear hpl hB6
            gi_wp2_with fail
            go_roundg (ps.length - (i + 1))
            case rel => exact ⟨i + 1, pre2, by go_num, by omega, by omega, HPLE, hJs, hA, hWs2⟩
            case measure => omega
    · obtain hie : i = ps.length := by omega
      have hin : ¬ (i : Int) < (ps.length : Int) := by omega
      have HPLE : Hid (pre = PL) := by
        show _ = _
        rw [← hpl, List.drop_of_length_le (by omega)]
        simp [pairsL]
      clear hpl hie
      gi_wp2_with fail
      repeat (refine ⟨fun _ h => (by cases h), ?_⟩; gi_wp2_with fail)
      go_end0
      exact ⟨⟨_, rfl⟩, .inl (by rw [← HPLE.out]; exact hJs)⟩
end Go.Proofs.Ytkmfhcjdajbbhaa
