/-
 The document's answer: Period (sounderref10). Printed by wip/genr10q.py.
-/
import Derived.Test.YtgicljeedegncaaGreatTqSrAdded
import Derived.Test.YtgicljeedegncaaGreatTqPersistIsAny
namespace Go.Proofs.YtgicljeedegncaaGreat
open List renaming getElem_toArray → ZA, getElem_cons_zero → ZB, getElem_cons_succ → ZC, setIfInBounds_toArray → ZD, set_cons_zero → ZE, set_cons_succ → ZF
open Go.Act renaming put → ZP
open Go.Value renaming int → ZI
open Go.IntKind renaming i64 → ZQ
set_option linter.unusedSimpArgs false
set_option linter.unusedVariables false
open Go.RowKit

/-- What a round of the double loop sees. -/
structure PrAt (w wr : World) (xb xo : Nat) (v : Value) (ps : List PK) (rs : List Rg) : Prop where
 pks : PksAt wr (some ⟨xb, xo, none⟩) ps
 ref : RefAt wr v rs
 below : Below w.heap.size w wr
theorem PrAt.later {w wr w' : World} {xb xo : Nat} {v : Value} {ps : List PK} {rs : List Rg} (h : PrAt w wr xb xo v ps rs) (hb : Below wr.heap.size wr w') : PrAt w w' xb xo v ps rs :=
 ⟨h.pks.below hb (Nat.le_refl _), h.ref.below hb, bw_below' h.below hb⟩
theorem PrAt.cells {w wr : World} {xb xo : Nat} {v : Value} {ps : List PK} {rs : List Rg} (h : PrAt w wr xb xo v ps rs) {i : Nat} {p : PK} (hi : ps[i]? = some p) :
  wr.cell? ⟨xb, xo + i * 6, none⟩ = some (ZI ZQ p.n) ∧ wr.cell? ⟨xb, xo + i * 6 + 1, none⟩ = some (ZI ZQ p.t) ∧ wr.cell? ⟨xb, xo + i * 6 + 2, none⟩ = some (ZI ZQ p.s) ∧ wr.cell? ⟨xb, xo + i * 6 + 3, none⟩ = some (.bool p.e) ∧ wr.cell? ⟨xb, xo + i * 6 + 4, none⟩ = some (.bool p.f) ∧ wr.cell? ⟨xb, xo + i * 6 + 5, none⟩ = some (.bool p.c) := by
 obtain ⟨k, o, e, _, h⟩ := h.pks.cells hi
 cases e
 exact h
theorem PrAt.two {w wr : World} {xb xo : Nat} {v : Value} {ps : List PK} {rs : List Rg} (h : PrAt w wr xb xo v ps rs) {i k : Nat} {p q : PK} (hi : ps[i]? = some p) (hk : ps[k]? = some q) : wr.cell? ⟨xb, xo + i * 6, none⟩ = some (ZI ZQ p.n) ∧ wr.cell? ⟨xb, xo + i * 6 + 1, none⟩ = some (ZI ZQ p.t) ∧ wr.cell? ⟨xb, xo + i * 6 + 2, none⟩ = some (ZI ZQ p.s) ∧ wr.cell? ⟨xb, xo + i * 6 + 3, none⟩ = some (.bool p.e) ∧ wr.cell? ⟨xb, xo + i * 6 + 4, none⟩ = some (.bool p.f) ∧ wr.cell? ⟨xb, xo + i * 6 + 5, none⟩ = some (.bool p.c) ∧ wr.cell? ⟨xb, xo + k * 6, none⟩ = some (ZI ZQ q.n) ∧ wr.cell? ⟨xb, xo + k * 6 + 1, none⟩ = some (ZI ZQ q.t) ∧ wr.cell? ⟨xb, xo + k * 6 + 2, none⟩ = some (ZI ZQ q.s) ∧ wr.cell? ⟨xb, xo + k * 6 + 3, none⟩ = some (.bool q.e) ∧ wr.cell? ⟨xb, xo + k * 6 + 4, none⟩ = some (.bool q.f) ∧ wr.cell? ⟨xb, xo + k * 6 + 5, none⟩ = some (.bool q.c) := by
 obtain ⟨a0, a1, a2, a3, a4, a5⟩ := h.cells hi
 obtain ⟨b0, b1, b2, b3, b4, b5⟩ := h.cells hk
 exact ⟨a0, a1, a2, a3, a4, a5, b0, b1, b2, b3, b4, b5⟩
/-- The pairs of one. -/
def rowOf (rs : List Rg) (first : Int) (p : PK) (qs : List PK) : List (PK × PK) := (qs.filter fun b => pairOk rs first p b).map fun b => (p, b)
theorem rowOf_cons (rs : List Rg) (first : Int) (p q : PK) (qs : List PK) (st : Per) : (rowOf rs first p (q :: qs)).foldl keepP st = if pairOk rs first p q = true then (rowOf rs first p qs).foldl keepP (keepP st (p, q)) else (rowOf rs first p qs).foldl keepP st := by
 unfold rowOf
 by_cases h : pairOk rs first p q = true <;> simp [List.filter_cons, h]
theorem drop_cons' {α : Type} {ps : List α} {i : Nat} {p : α} (h : ps[i]? = some p) : ps.drop i = p :: ps.drop (i + 1) := by
 obtain ⟨hi, he⟩ := List.getElem?_eq_some_iff.1 h
 rw [List.drop_eq_getElem_cons hi, he]

set_option maxRecDepth 100000 in
set_option maxHeartbeats 8000000 in
theorem refperiod_any (a : Option Addr) (K cap : Nat) (ps : List PK) (v : Value) (rs : List Rg) (first : Int) (w : World) (hn : ps.length = K) (hP : PksAt w a ps) (ha : ∀ k o, a = some ⟨k, o, none⟩ → k < w.heap.size) (hR : RefAt w v rs) (hl : rs.length ≤ 1000) :
  Calls Tryz.prog 163 #[.slice a K cap, v, ZI ZQ first] w fun e w' => e = .returned (perV (periodOf rs first ps)) ∧ Below w.heap.size w w' := by
 have HCK := hide (r09check_any a K cap ps w hn hP ha)
 have HIS := hide (fun W => r01is_any first W)
 obtain ⟨RS, hRS⟩ : ∃ RS, periodOf rs first ps = RS := ⟨_, rfl⟩
 have HRS := hide hRS
 rw [hRS]
 clear hRS
 unfold periodOf at HRS
 by_cases hck : checkL ps = 0
 ·rw [hck] at HCK
  cases hf : isT first with
  | false =>
   have HRS2 : Hid (RS = Per.none) := by
    show _ = _
    rw [← HRS.out, if_neg]
    rintro ⟨_, h1, h2⟩
    unfold isT at hf
    rw [decide_eq_true h1, decide_eq_true h2] at hf
    cases hf
   rw [hf] at HIS
   clear hf hck HRS hP ha hR hn
   go_enter Tryz.func163, Tryz.ntmps163
   go_wp2_with fail
   refine HCK.out.mono ?_
   rintro e1 w1 ⟨rfl, hb1⟩
   go_wp2_with fail
   refine (HIS.out _).mono ?_
   rintro e2 w2 ⟨rfl, rfl⟩
   go_wp2_with fail
   exact bodyPost_ret (v := perV Per.none) (by simp [results, Tryz.results163, go_sem, perV, Per.none]) rfl ⟨by rw [HRS2.out], hb1⟩
  | true =>
   have HRS2 : Hid ((pairsL rs first ps).foldl keepP Per.none = RS) := by
    show _ = _
    rw [← HRS.out, if_pos]
    ·rfl
    ·refine ⟨hck, ?_⟩
     unfold isT at hf
     simpa using hf
   have HTB : Hid (∀ p ∈ ps, -1 ≤ p.n ∧ p.n ≤ 9007199254740991 ∧ 0 ≤ p.t ∧ p.t ≤ 9007199254740991) := by
    show ∀ p ∈ ps, _
    intro p hp
    have h : okPks (-1) ps = true := by
     unfold checkL at hck
     split at hck
     ·next h => exact h.2
     ·cases hck
    have := okPks_mem h p hp
    omega
   rw [hf] at HIS
   cases K with
   | zero =>
    have hps : ps = [] := List.length_eq_zero_iff.1 hn
    have HRS3 : Hid (RS = Per.none) := by show _ = _; rw [← HRS2.out, hps]; rfl
    clear hf hck HRS HRS2 hP ha hR hn hps
    go_enter Tryz.func163, Tryz.ntmps163
    go_wp2_with fail
    refine HCK.out.mono ?_
    rintro e1 w1 ⟨rfl, hb1⟩
    go_wp2_with fail
    refine (HIS.out _).mono ?_
    rintro e2 w2 ⟨rfl, rfl⟩
    go_wp2_with fail
    go_loopg [10, 11, 12, 13, 14] 0 (fun kx s10 s11 s12 s13 s14 wr => s14 = ZI ZQ 0 ∧ s10 = ZI ZQ 0 ∧ s11 = ZI ZQ 0 ∧ s12 = ZI ZQ 0 ∧ s13 = .bool false ∧ Below w.heap.size w wr)
    case atStart => exact ⟨rfl, rfl, rfl, rfl, rfl, hb1⟩
    case round =>
     obtain ⟨rfl, rfl, rfl, rfl, rfl, hW⟩ := hrel
     go_wp2_with fail
     exact bodyPost_ret (v := perV Per.none) (by simp [results, Tryz.results163, go_sem, perV, Per.none]) rfl ⟨by rw [HRS3.out], hW⟩
   | succ K0 =>
    obtain ⟨K, hKE⟩ : ∃ K, K0 + 1 = K := ⟨_, rfl⟩
    rw [hKE] at hn HCK ⊢
    have hK1 : 1 ≤ K := by omega
    clear hKE
    obtain ⟨p0, hp0⟩ : ∃ p, ps[0]? = some p := ⟨_, List.getElem?_eq_getElem (by omega)⟩
    obtain ⟨xb, xo, rfl, hxl, -⟩ := hP.cells hp0
    have HPR0 : Hid (PrAt w w xb xo v ps rs) := ⟨hP, hR, Below.refl _ _⟩
    have HLN := hide hn
    have hKs : K ≤ 256 := by
     unfold checkL at hck
     split at hck
     ·next h => omega
     ·cases hck
    clear hf hck HRS hP ha hR hn hp0 p0
    go_enter Tryz.func163, Tryz.ntmps163
    go_wp2_with fail
    refine HCK.out.mono ?_
    rintro e1 w1 ⟨rfl, hb1⟩
    have HPR1 := hide (HPR0.out.later hb1)
    clear HPR0 hb1
    go_wp2_with fail
    refine (HIS.out _).mono ?_
    rintro e2 w2 ⟨rfl, rfl⟩
    clear HCK HIS
    go_wp2_with fail
    go_loopg [10, 11, 12, 13, 14] K (fun kx s10 s11 s12 s13 s14 wr => ∃ (i : Nat) (st : Per), s14 = ZI ZQ i ∧ s10 = ZI ZQ st.d ∧ s11 = ZI ZQ st.lo ∧ s12 = ZI ZQ st.hi ∧ s13 = .bool st.some ∧ i ≤ K ∧ K - i ≤ kx ∧ Hid ((pairsL rs first (ps.drop i)).foldl keepP st = RS) ∧ PrAt w wr xb xo v ps rs)
    case atStart => exact ⟨0, Per.none, rfl, rfl, rfl, rfl, rfl, by omega, by omega, HRS2.out, HPR1.out⟩
    case round =>
     clear HPR1
     obtain ⟨i, st, rfl, rfl, rfl, rfl, rfl, hi, hkx, hRS, hs⟩ := hrel
     by_cases hlt : i < K
     ·obtain ⟨p, hp⟩ : ∃ p, ps[i]? = some p := ⟨_, List.getElem?_eq_getElem (by rw [HLN.out]; exact hlt)⟩
      have HP := hide hp
      have HRO : Hid ((pairsL rs first (ps.drop (i + 1))).foldl keepP ((rowOf rs first p (ps.drop (i + 1))).foldl keepP st) = RS) := by
       show _ = _
       rw [← hRS, drop_cons' hp]
       show _ = (rowOf rs first p (ps.drop (i + 1)) ++ pairsL rs first (ps.drop (i + 1))).foldl keepP st
       rw [List.foldl_append]
      obtain ⟨M, hM⟩ : ∃ M, (rowOf rs first p (ps.drop (i + 1))).foldl keepP st = M := ⟨_, rfl⟩
      rw [hM] at HRO
      have HM := hide hM
      have HS := hide hs
      have bp := HTB.out p (List.mem_of_getElem? hp)
      have HBP := hide bp
      have hin : (i : Int) < (K : Int) := by omega
      have hi0 : (0 : Int) ≤ (i : Int) := by omega
      have w1 : IntKind.i64.wrap ((i : Int) + 1) = (i : Int) + 1 := IntWalk.i64_in _ ⟨by omega, by omega⟩
      clear hp hRS hM hs bp
      go_wp2_with fail
      go_loopg [10, 11, 12, 13, 15] K (fun ky s10 s11 s12 s13 s15 wr => ∃ (k : Nat) (st : Per), s15 = ZI ZQ k ∧ s10 = ZI ZQ st.d ∧ s11 = ZI ZQ st.lo ∧ s12 = ZI ZQ st.hi ∧ s13 = .bool st.some ∧ i + 1 ≤ k ∧ k ≤ K ∧ K - k ≤ ky ∧ Hid ((rowOf rs first p (ps.drop k)).foldl keepP st = M) ∧ PrAt w wr xb xo v ps rs)
      case atStart => exact ⟨i + 1, st, by go_num, rfl, rfl, rfl, rfl, by omega, by omega, by omega, HM.out, HS.out⟩
      case round =>
       clear HM HS
       clear w1
       obtain ⟨k, st, rfl, rfl, rfl, rfl, rfl, hik, hk, hky, hM, hs⟩ := hrel
       by_cases hlt2 : k < K
       ·obtain ⟨q, hq⟩ : ∃ q, ps[k]? = some q := ⟨_, List.getElem?_eq_getElem (by rw [HLN.out]; exact hlt2)⟩
        have hkn : (k : Int) < (K : Int) := by omega
        have hk0 : (0 : Int) ≤ (k : Int) := by omega
        have HQ := hide hq
        have bq := HTB.out q (List.mem_of_getElem? hq)
        have hc := hs.two HP.out hq
        have HS := hide hs
        have HMM : Hid ((if pairOk rs first p q = true then (rowOf rs first p (ps.drop (k + 1))).foldl keepP (keepP st (p, q)) else (rowOf rs first p (ps.drop (k + 1))).foldl keepP st) = M) := by
         show _ = _
         rw [← hM, drop_cons' hq, rowOf_cons]
        have HPA : Hid (∀ W, Below wr.heap.size wr W → Calls Tryz.prog 176 #[pkV p, pkV q, v, ZI ZQ first] W fun e w' => e = .returned (.bool (pairOk rs first p q)) ∧ Below W.heap.size W w') := by
         show ∀ W, _
         intro W hW
         exact pair_ref p q v rs first W (HS.out.later hW).ref hl HBP.out.1 HBP.out.2.1 bq.1 bq.2.1
        have w3 : IntKind.i64.wrap (q.t - p.t) = q.t - p.t := by
         have := HBP.out
         exact IntWalk.i64_in _ ⟨by omega, by omega⟩
        unfold pkV pkC at HPA
        clear hM hq hs bq
        cases hpo : pairOk rs first p q with
        | false =>
         rw [hpo] at HPA HMM
         rw [if_neg (by simp)] at HMM
         clear hpo w3
         go_wp2_with fail
         refine wp_region_S (fun w' => w'.cell? ⟨xb, xo + i * 6, none⟩ = some (ZI ZQ p.n) ∧ w'.cell? ⟨xb, xo + i * 6 + 1, none⟩ = some (ZI ZQ p.t) ∧ w'.cell? ⟨xb, xo + i * 6 + 2, none⟩ = some (ZI ZQ p.s) ∧ w'.cell? ⟨xb, xo + i * 6 + 3, none⟩ = some (.bool p.e) ∧ w'.cell? ⟨xb, xo + i * 6 + 4, none⟩ = some (.bool p.f) ∧ w'.cell? ⟨xb, xo + i * 6 + 5, none⟩ = some (.bool p.c) ∧ w'.cell? ⟨xb, xo + k * 6, none⟩ = some (ZI ZQ q.n) ∧ w'.cell? ⟨xb, xo + k * 6 + 1, none⟩ = some (ZI ZQ q.t) ∧ w'.cell? ⟨xb, xo + k * 6 + 2, none⟩ = some (ZI ZQ q.s) ∧ w'.cell? ⟨xb, xo + k * 6 + 3, none⟩ = some (.bool q.e) ∧ w'.cell? ⟨xb, xo + k * 6 + 4, none⟩ = some (.bool q.f) ∧ w'.cell? ⟨xb, xo + k * 6 + 5, none⟩ = some (.bool q.c)) 1000 (by kernel_rfl) (by exact hc) (fun hHeld => ?_)
         refine tsP 0 ?_ rfl ?_ ?_
         rotate_left
         ·intro w hSw; (try dsimp only at hSw); go_simp; try with_reducible rfl
         try simp only [ZP, ZA, ZC, ZB, ZD, ZE, ZF]
         refine tsP 1 ?_ rfl ?_ ?_
         rotate_left
         ·intro w hSw; (try dsimp only at hSw); go_simp; try with_reducible rfl
         try simp only [ZP, ZA, ZC, ZB, ZD, ZE, ZF]
         refine tsP 2 ?_ rfl ?_ ?_
         rotate_left
         ·intro w hSw; (try dsimp only at hSw); go_simp; try with_reducible rfl
         try simp only [ZP, ZA, ZC, ZB, ZD, ZE, ZF]
         refine tsP 3 ?_ rfl ?_ ?_
         rotate_left
         ·intro w hSw; (try dsimp only at hSw); go_simp; try with_reducible rfl
         try simp only [ZP, ZA, ZC, ZB, ZD, ZE, ZF]
         refine tsP 4 ?_ rfl ?_ ?_
         rotate_left
         ·intro w hSw; (try dsimp only at hSw); go_simp; try with_reducible rfl
         try simp only [ZP, ZA, ZC, ZB, ZD, ZE, ZF]
         refine tsP 5 ?_ rfl ?_ ?_
         rotate_left
         ·intro w hSw; (try dsimp only at hSw); go_simp; try with_reducible rfl
         try simp only [ZP, ZA, ZC, ZB, ZD, ZE, ZF]
         refine tsP 6 ?_ rfl ?_ ?_
         rotate_left
         ·intro w hSw; (try dsimp only at hSw); go_simp; try with_reducible rfl
         try simp only [ZP, ZA, ZC, ZB, ZD, ZE, ZF]
         refine tsP 7 ?_ rfl ?_ ?_
         rotate_left
         ·intro w hSw; (try dsimp only at hSw); go_simp; try with_reducible rfl
         try simp only [ZP, ZA, ZC, ZB, ZD, ZE, ZF]
         refine tsP 8 ?_ rfl ?_ ?_
         rotate_left
         ·intro w hSw; (try dsimp only at hSw); go_simp; try with_reducible rfl
         try simp only [ZP, ZA, ZC, ZB, ZD, ZE, ZF]
         refine tsP 9 ?_ rfl ?_ ?_
         rotate_left
         ·intro w hSw; (try dsimp only at hSw); go_simp; try with_reducible rfl
         try simp only [ZP, ZA, ZC, ZB, ZD, ZE, ZF]
         refine wpAnyS_one (i := 10) rfl (by kernel_rfl) (fun K hK => ?_)
         go_simp; go_at_call 176; refine (HPA.out _ (by first | exact Below.refl _ _ | exact (Below.refl _ _).drew | exact (Below.refl _ _).drew.drew)).mono ?_; rintro e3 w3 ⟨rfl, hb3⟩; have HS2 := hide ((HS.out.later (by first | exact Below.refl _ _ | exact (Below.refl _ _).drew | exact (Below.refl _ _).drew.drew)).later hb3)
         refine hK.out _ _ (fun _ => (HS2.out.two HP.out HQ.out)) (fun hH => ?_)
         have hHeld := hH rfl
         clear hK K hH
         try simp only [ZP, ZA, ZC, ZB, ZD, ZE, ZF]
         refine tsP 11 ?_ rfl ?_ ?_
         rotate_left
         ·intro w hSw; (try dsimp only at hSw); go_simp; try with_reducible rfl
         try simp only [ZP, ZA, ZC, ZB, ZD, ZE, ZF]
         refine wpAnyS_done (by kernel_rfl) ?_ _
         go_wp2_with fail
         go_roundg (K - (k + 1))
         case rel => exact ⟨k + 1, st, by go_num, rfl, rfl, rfl, rfl, by omega, by omega, by omega, HMM.out, HS2.out⟩
         case measure => omega
        | true =>
         rw [hpo] at HPA HMM
         rw [if_pos rfl] at HMM
         clear hpo
         obtain ⟨sd, slo, shi, ssm⟩ := st
         dsimp only at *
         cases ssm with
         | false =>
          have HM2 : Hid ((rowOf rs first p (ps.drop (k + 1))).foldl keepP ⟨q.t - p.t, p.n, q.n, true⟩ = M) := HMM.out
          clear HMM
          go_wp2_with fail
          refine wp_region_S (fun w' => w'.cell? ⟨xb, xo + i * 6, none⟩ = some (ZI ZQ p.n) ∧ w'.cell? ⟨xb, xo + i * 6 + 1, none⟩ = some (ZI ZQ p.t) ∧ w'.cell? ⟨xb, xo + i * 6 + 2, none⟩ = some (ZI ZQ p.s) ∧ w'.cell? ⟨xb, xo + i * 6 + 3, none⟩ = some (.bool p.e) ∧ w'.cell? ⟨xb, xo + i * 6 + 4, none⟩ = some (.bool p.f) ∧ w'.cell? ⟨xb, xo + i * 6 + 5, none⟩ = some (.bool p.c) ∧ w'.cell? ⟨xb, xo + k * 6, none⟩ = some (ZI ZQ q.n) ∧ w'.cell? ⟨xb, xo + k * 6 + 1, none⟩ = some (ZI ZQ q.t) ∧ w'.cell? ⟨xb, xo + k * 6 + 2, none⟩ = some (ZI ZQ q.s) ∧ w'.cell? ⟨xb, xo + k * 6 + 3, none⟩ = some (.bool q.e) ∧ w'.cell? ⟨xb, xo + k * 6 + 4, none⟩ = some (.bool q.f) ∧ w'.cell? ⟨xb, xo + k * 6 + 5, none⟩ = some (.bool q.c)) 1000 (by kernel_rfl) (by exact hc) (fun hHeld => ?_)
          refine tsP 0 ?_ rfl ?_ ?_
          rotate_left
          ·intro w hSw; (try dsimp only at hSw); go_simp; try with_reducible rfl
          try simp only [ZP, ZA, ZC, ZB, ZD, ZE, ZF]
          refine tsP 1 ?_ rfl ?_ ?_
          rotate_left
          ·intro w hSw; (try dsimp only at hSw); go_simp; try with_reducible rfl
          try simp only [ZP, ZA, ZC, ZB, ZD, ZE, ZF]
          refine tsP 2 ?_ rfl ?_ ?_
          rotate_left
          ·intro w hSw; (try dsimp only at hSw); go_simp; try with_reducible rfl
          try simp only [ZP, ZA, ZC, ZB, ZD, ZE, ZF]
          refine tsP 3 ?_ rfl ?_ ?_
          rotate_left
          ·intro w hSw; (try dsimp only at hSw); go_simp; try with_reducible rfl
          try simp only [ZP, ZA, ZC, ZB, ZD, ZE, ZF]
          refine tsP 4 ?_ rfl ?_ ?_
          rotate_left
          ·intro w hSw; (try dsimp only at hSw); go_simp; try with_reducible rfl
          try simp only [ZP, ZA, ZC, ZB, ZD, ZE, ZF]
          refine tsP 5 ?_ rfl ?_ ?_
          rotate_left
          ·intro w hSw; (try dsimp only at hSw); go_simp; try with_reducible rfl
          try simp only [ZP, ZA, ZC, ZB, ZD, ZE, ZF]
          refine tsP 6 ?_ rfl ?_ ?_
          rotate_left
          ·intro w hSw; (try dsimp only at hSw); go_simp; try with_reducible rfl
          try simp only [ZP, ZA, ZC, ZB, ZD, ZE, ZF]
          refine tsP 7 ?_ rfl ?_ ?_
          rotate_left
          ·intro w hSw; (try dsimp only at hSw); go_simp; try with_reducible rfl
          try simp only [ZP, ZA, ZC, ZB, ZD, ZE, ZF]
          refine tsP 8 ?_ rfl ?_ ?_
          rotate_left
          ·intro w hSw; (try dsimp only at hSw); go_simp; try with_reducible rfl
          try simp only [ZP, ZA, ZC, ZB, ZD, ZE, ZF]
          refine tsP 9 ?_ rfl ?_ ?_
          rotate_left
          ·intro w hSw; (try dsimp only at hSw); go_simp; try with_reducible rfl
          try simp only [ZP, ZA, ZC, ZB, ZD, ZE, ZF]
          refine wpAnyS_one (i := 10) rfl (by kernel_rfl) (fun K hK => ?_)
          go_simp; go_at_call 176; refine (HPA.out _ (by first | exact Below.refl _ _ | exact (Below.refl _ _).drew | exact (Below.refl _ _).drew.drew)).mono ?_; rintro e3 w3 ⟨rfl, hb3⟩; have HS2 := hide ((HS.out.later (by first | exact Below.refl _ _ | exact (Below.refl _ _).drew | exact (Below.refl _ _).drew.drew)).later hb3)
          refine hK.out _ _ (fun _ => (HS2.out.two HP.out HQ.out)) (fun hH => ?_)
          have hHeld := hH rfl
          clear hK K hH
          try simp only [ZP, ZA, ZC, ZB, ZD, ZE, ZF]
          refine tsP 11 ?_ rfl ?_ ?_
          rotate_left
          ·intro w hSw; (try dsimp only at hSw); go_simp; try with_reducible rfl
          try simp only [ZP, ZA, ZC, ZB, ZD, ZE, ZF]
          refine wpAnyS_done (by kernel_rfl) ?_ _
          obtain ⟨x0, x1, -, -, -, -, z0, z1, -, -, -, -⟩ := HS2.out.two HP.out HQ.out
          go_wp2_with fail
          refine wp_region_S (fun w' => w'.cell? ⟨xb, xo + i * 6 + 1, none⟩ = some (ZI ZQ p.t) ∧ w'.cell? ⟨xb, xo + k * 6 + 1, none⟩ = some (ZI ZQ q.t)) 1000 (by kernel_rfl) (by exact ⟨x1, z1⟩) (fun hHeld => ?_)
          refine tsP 0 ?_ rfl ?_ ?_
          rotate_left
          ·intro w hSw; (try dsimp only at hSw); go_simp; try with_reducible rfl
          try simp only [ZP, ZA, ZC, ZB, ZD, ZE, ZF]
          refine tsP 1 ?_ rfl ?_ ?_
          rotate_left
          ·intro w hSw; (try dsimp only at hSw); go_simp; try with_reducible rfl
          try simp only [ZP, ZA, ZC, ZB, ZD, ZE, ZF]
          refine tsP 2 ?_ rfl ?_ ?_
          rotate_left
          ·intro w hSw; (try dsimp only at hSw); go_simp; try with_reducible rfl
          try simp only [ZP, ZA, ZC, ZB, ZD, ZE, ZF]
          refine tsP 3 ?_ rfl ?_ ?_
          rotate_left
          ·intro w hSw; (try dsimp only at hSw); go_simp; try with_reducible rfl
          try simp only [ZP, ZA, ZC, ZB, ZD, ZE, ZF]
          refine tsP 4 ?_ rfl ?_ ?_
          rotate_left
          ·intro w hSw; (try dsimp only at hSw); go_simp; try with_reducible rfl
          try simp only [ZP, ZA, ZC, ZB, ZD, ZE, ZF]
          refine tsP 5 ?_ rfl ?_ ?_
          rotate_left
          ·intro w hSw; (try dsimp only at hSw); go_simp; try with_reducible rfl
          try simp only [ZP, ZA, ZC, ZB, ZD, ZE, ZF]
          refine tsP 6 ?_ rfl ?_ ?_
          rotate_left
          ·intro w hSw; (try dsimp only at hSw); go_simp; try with_reducible rfl
          try simp only [ZP, ZA, ZC, ZB, ZD, ZE, ZF]
          refine tsP 7 ?_ rfl ?_ ?_
          rotate_left
          ·intro w hSw; (try dsimp only at hSw); go_simp; try with_reducible rfl
          try simp only [ZP, ZA, ZC, ZB, ZD, ZE, ZF]
          refine tsP 8 ?_ rfl ?_ ?_
          rotate_left
          ·intro w hSw; (try dsimp only at hSw); go_simp; try with_reducible rfl
          try simp only [ZP, ZA, ZC, ZB, ZD, ZE, ZF]
          refine tsP 9 ?_ rfl ?_ ?_
          rotate_left
          ·intro w hSw; (try dsimp only at hSw); go_simp; try with_reducible rfl
          try simp only [ZP, ZA, ZC, ZB, ZD, ZE, ZF]
          refine tsP 10 ?_ rfl ?_ ?_
          rotate_left
          ·intro w hSw; (try dsimp only at hSw); go_simp; try with_reducible rfl
          try simp only [ZP, ZA, ZC, ZB, ZD, ZE, ZF]
          refine tsP 11 ?_ rfl ?_ ?_
          rotate_left
          ·intro w hSw; (try dsimp only at hSw); go_simp; try with_reducible rfl
          try simp only [ZP, ZA, ZC, ZB, ZD, ZE, ZF]
          refine wpAnyS_done (by kernel_rfl) ?_ _
          go_wp2_with fail
          refine wp_region_S (fun w' => w'.cell? ⟨xb, xo + i * 6, none⟩ = some (ZI ZQ p.n) ∧ w'.cell? ⟨xb, xo + k * 6, none⟩ = some (ZI ZQ q.n)) 1000 (by kernel_rfl) (by exact ⟨x0, z0⟩) (fun hHeld => ?_)
          refine tsP 0 ?_ rfl ?_ ?_
          rotate_left
          ·intro w hSw; (try dsimp only at hSw); go_simp; try with_reducible rfl
          try simp only [ZP, ZA, ZC, ZB, ZD, ZE, ZF]
          refine tsP 1 ?_ rfl ?_ ?_
          rotate_left
          ·intro w hSw; (try dsimp only at hSw); go_simp; try with_reducible rfl
          try simp only [ZP, ZA, ZC, ZB, ZD, ZE, ZF]
          refine tsP 2 ?_ rfl ?_ ?_
          rotate_left
          ·intro w hSw; (try dsimp only at hSw); go_simp; try with_reducible rfl
          try simp only [ZP, ZA, ZC, ZB, ZD, ZE, ZF]
          refine tsP 3 ?_ rfl ?_ ?_
          rotate_left
          ·intro w hSw; (try dsimp only at hSw); go_simp; try with_reducible rfl
          try simp only [ZP, ZA, ZC, ZB, ZD, ZE, ZF]
          refine tsP 4 ?_ rfl ?_ ?_
          rotate_left
          ·intro w hSw; (try dsimp only at hSw); go_simp; try with_reducible rfl
          try simp only [ZP, ZA, ZC, ZB, ZD, ZE, ZF]
          refine tsP 5 ?_ rfl ?_ ?_
          rotate_left
          ·intro w hSw; (try dsimp only at hSw); go_simp; try with_reducible rfl
          try simp only [ZP, ZA, ZC, ZB, ZD, ZE, ZF]
          refine tsP 6 ?_ rfl ?_ ?_
          rotate_left
          ·intro w hSw; (try dsimp only at hSw); go_simp; try with_reducible rfl
          try simp only [ZP, ZA, ZC, ZB, ZD, ZE, ZF]
          refine tsP 7 ?_ rfl ?_ ?_
          rotate_left
          ·intro w hSw; (try dsimp only at hSw); go_simp; try with_reducible rfl
          try simp only [ZP, ZA, ZC, ZB, ZD, ZE, ZF]
          refine tsP 8 ?_ rfl ?_ ?_
          rotate_left
          ·intro w hSw; (try dsimp only at hSw); go_simp; try with_reducible rfl
          try simp only [ZP, ZA, ZC, ZB, ZD, ZE, ZF]
          refine tsP 9 ?_ rfl ?_ ?_
          rotate_left
          ·intro w hSw; (try dsimp only at hSw); go_simp; try with_reducible rfl
          try simp only [ZP, ZA, ZC, ZB, ZD, ZE, ZF]
          refine tsP 10 ?_ rfl ?_ ?_
          rotate_left
          ·intro w hSw; (try dsimp only at hSw); go_simp; try with_reducible rfl
          try simp only [ZP, ZA, ZC, ZB, ZD, ZE, ZF]
          refine tsP 11 ?_ rfl ?_ ?_
          rotate_left
          ·intro w hSw; (try dsimp only at hSw); go_simp; try with_reducible rfl
          try simp only [ZP, ZA, ZC, ZB, ZD, ZE, ZF]
          refine tsP 12 ?_ rfl ?_ ?_
          rotate_left
          ·intro w hSw; (try dsimp only at hSw); go_simp; try with_reducible rfl
          try simp only [ZP, ZA, ZC, ZB, ZD, ZE, ZF]
          refine tsP 13 ?_ rfl ?_ ?_
          rotate_left
          ·intro w hSw; (try dsimp only at hSw); go_simp; try with_reducible rfl
          try simp only [ZP, ZA, ZC, ZB, ZD, ZE, ZF]
          refine tsP 14 ?_ rfl ?_ ?_
          rotate_left
          ·intro w hSw; (try dsimp only at hSw); go_simp; try with_reducible rfl
          try simp only [ZP, ZA, ZC, ZB, ZD, ZE, ZF]
          refine wpAnyS_done (by kernel_rfl) ?_ _
          go_wp2_with fail
          go_roundg (K - (k + 1))
          case rel => exact ⟨k + 1, ⟨q.t - p.t, p.n, q.n, true⟩, by go_num, rfl, rfl, rfl, rfl, by omega, by omega, by omega, HM2.out, HS2.out.later (by first | exact (Below.refl _ _).drew.drew | exact (Below.refl _ _).drew)⟩
          case measure => omega
         | true =>
          by_cases hdd : sd < q.t - p.t
          ·have HM2 : Hid ((rowOf rs first p (ps.drop (k + 1))).foldl keepP ⟨q.t - p.t, p.n, q.n, true⟩ = M) := by
            show _ = _
            have h := HMM.out
            unfold keepP at h
            dsimp only at h
            rw [decide_eq_true hdd] at h
            exact h
           clear HMM
           go_wp2_with fail
           refine wp_region_S (fun w' => w'.cell? ⟨xb, xo + i * 6, none⟩ = some (ZI ZQ p.n) ∧ w'.cell? ⟨xb, xo + i * 6 + 1, none⟩ = some (ZI ZQ p.t) ∧ w'.cell? ⟨xb, xo + i * 6 + 2, none⟩ = some (ZI ZQ p.s) ∧ w'.cell? ⟨xb, xo + i * 6 + 3, none⟩ = some (.bool p.e) ∧ w'.cell? ⟨xb, xo + i * 6 + 4, none⟩ = some (.bool p.f) ∧ w'.cell? ⟨xb, xo + i * 6 + 5, none⟩ = some (.bool p.c) ∧ w'.cell? ⟨xb, xo + k * 6, none⟩ = some (ZI ZQ q.n) ∧ w'.cell? ⟨xb, xo + k * 6 + 1, none⟩ = some (ZI ZQ q.t) ∧ w'.cell? ⟨xb, xo + k * 6 + 2, none⟩ = some (ZI ZQ q.s) ∧ w'.cell? ⟨xb, xo + k * 6 + 3, none⟩ = some (.bool q.e) ∧ w'.cell? ⟨xb, xo + k * 6 + 4, none⟩ = some (.bool q.f) ∧ w'.cell? ⟨xb, xo + k * 6 + 5, none⟩ = some (.bool q.c)) 1000 (by kernel_rfl) (by exact hc) (fun hHeld => ?_)
           refine tsP 0 ?_ rfl ?_ ?_
           rotate_left
           ·intro w hSw; (try dsimp only at hSw); go_simp; try with_reducible rfl
           try simp only [ZP, ZA, ZC, ZB, ZD, ZE, ZF]
           refine tsP 1 ?_ rfl ?_ ?_
           rotate_left
           ·intro w hSw; (try dsimp only at hSw); go_simp; try with_reducible rfl
           try simp only [ZP, ZA, ZC, ZB, ZD, ZE, ZF]
           refine tsP 2 ?_ rfl ?_ ?_
           rotate_left
           ·intro w hSw; (try dsimp only at hSw); go_simp; try with_reducible rfl
           try simp only [ZP, ZA, ZC, ZB, ZD, ZE, ZF]
           refine tsP 3 ?_ rfl ?_ ?_
           rotate_left
           ·intro w hSw; (try dsimp only at hSw); go_simp; try with_reducible rfl
           try simp only [ZP, ZA, ZC, ZB, ZD, ZE, ZF]
           refine tsP 4 ?_ rfl ?_ ?_
           rotate_left
           ·intro w hSw; (try dsimp only at hSw); go_simp; try with_reducible rfl
           try simp only [ZP, ZA, ZC, ZB, ZD, ZE, ZF]
           refine tsP 5 ?_ rfl ?_ ?_
           rotate_left
           ·intro w hSw; (try dsimp only at hSw); go_simp; try with_reducible rfl
           try simp only [ZP, ZA, ZC, ZB, ZD, ZE, ZF]
           refine tsP 6 ?_ rfl ?_ ?_
           rotate_left
           ·intro w hSw; (try dsimp only at hSw); go_simp; try with_reducible rfl
           try simp only [ZP, ZA, ZC, ZB, ZD, ZE, ZF]
           refine tsP 7 ?_ rfl ?_ ?_
           rotate_left
           ·intro w hSw; (try dsimp only at hSw); go_simp; try with_reducible rfl
           try simp only [ZP, ZA, ZC, ZB, ZD, ZE, ZF]
           refine tsP 8 ?_ rfl ?_ ?_
           rotate_left
           ·intro w hSw; (try dsimp only at hSw); go_simp; try with_reducible rfl
           try simp only [ZP, ZA, ZC, ZB, ZD, ZE, ZF]
           refine tsP 9 ?_ rfl ?_ ?_
           rotate_left
           ·intro w hSw; (try dsimp only at hSw); go_simp; try with_reducible rfl
           try simp only [ZP, ZA, ZC, ZB, ZD, ZE, ZF]
           refine wpAnyS_one (i := 10) rfl (by kernel_rfl) (fun K hK => ?_)
           go_simp; go_at_call 176; refine (HPA.out _ (by first | exact Below.refl _ _ | exact (Below.refl _ _).drew | exact (Below.refl _ _).drew.drew)).mono ?_; rintro e3 w3 ⟨rfl, hb3⟩; have HS2 := hide ((HS.out.later (by first | exact Below.refl _ _ | exact (Below.refl _ _).drew | exact (Below.refl _ _).drew.drew)).later hb3)
           refine hK.out _ _ (fun _ => (HS2.out.two HP.out HQ.out)) (fun hH => ?_)
           have hHeld := hH rfl
           clear hK K hH
           try simp only [ZP, ZA, ZC, ZB, ZD, ZE, ZF]
           refine tsP 11 ?_ rfl ?_ ?_
           rotate_left
           ·intro w hSw; (try dsimp only at hSw); go_simp; try with_reducible rfl
           try simp only [ZP, ZA, ZC, ZB, ZD, ZE, ZF]
           refine wpAnyS_done (by kernel_rfl) ?_ _
           obtain ⟨x0, x1, -, -, -, -, z0, z1, -, -, -, -⟩ := HS2.out.two HP.out HQ.out
           go_wp2_with fail
           refine wp_region_S (fun w' => w'.cell? ⟨xb, xo + i * 6 + 1, none⟩ = some (ZI ZQ p.t) ∧ w'.cell? ⟨xb, xo + k * 6 + 1, none⟩ = some (ZI ZQ q.t)) 1000 (by kernel_rfl) (by exact ⟨x1, z1⟩) (fun hHeld => ?_)
           refine tsP 0 ?_ rfl ?_ ?_
           rotate_left
           ·intro w hSw; (try dsimp only at hSw); go_simp; try with_reducible rfl
           try simp only [ZP, ZA, ZC, ZB, ZD, ZE, ZF]
           refine tsP 1 ?_ rfl ?_ ?_
           rotate_left
           ·intro w hSw; (try dsimp only at hSw); go_simp; try with_reducible rfl
           try simp only [ZP, ZA, ZC, ZB, ZD, ZE, ZF]
           refine tsP 2 ?_ rfl ?_ ?_
           rotate_left
           ·intro w hSw; (try dsimp only at hSw); go_simp; try with_reducible rfl
           try simp only [ZP, ZA, ZC, ZB, ZD, ZE, ZF]
           refine tsP 3 ?_ rfl ?_ ?_
           rotate_left
           ·intro w hSw; (try dsimp only at hSw); go_simp; try with_reducible rfl
           try simp only [ZP, ZA, ZC, ZB, ZD, ZE, ZF]
           refine tsP 4 ?_ rfl ?_ ?_
           rotate_left
           ·intro w hSw; (try dsimp only at hSw); go_simp; try with_reducible rfl
           try simp only [ZP, ZA, ZC, ZB, ZD, ZE, ZF]
           refine tsP 5 ?_ rfl ?_ ?_
           rotate_left
           ·intro w hSw; (try dsimp only at hSw); go_simp; try with_reducible rfl
           try simp only [ZP, ZA, ZC, ZB, ZD, ZE, ZF]
           refine tsP 6 ?_ rfl ?_ ?_
           rotate_left
           ·intro w hSw; (try dsimp only at hSw); go_simp; try with_reducible rfl
           try simp only [ZP, ZA, ZC, ZB, ZD, ZE, ZF]
           refine tsP 7 ?_ rfl ?_ ?_
           rotate_left
           ·intro w hSw; (try dsimp only at hSw); go_simp; try with_reducible rfl
           try simp only [ZP, ZA, ZC, ZB, ZD, ZE, ZF]
           refine tsP 8 ?_ rfl ?_ ?_
           rotate_left
           ·intro w hSw; (try dsimp only at hSw); go_simp; try with_reducible rfl
           try simp only [ZP, ZA, ZC, ZB, ZD, ZE, ZF]
           refine tsP 9 ?_ rfl ?_ ?_
           rotate_left
           ·intro w hSw; (try dsimp only at hSw); go_simp; try with_reducible rfl
           try simp only [ZP, ZA, ZC, ZB, ZD, ZE, ZF]
           refine tsP 10 ?_ rfl ?_ ?_
           rotate_left
           ·intro w hSw; (try dsimp only at hSw); go_simp; try with_reducible rfl
           try simp only [ZP, ZA, ZC, ZB, ZD, ZE, ZF]
           refine tsP 11 ?_ rfl ?_ ?_
           rotate_left
           ·intro w hSw; (try dsimp only at hSw); go_simp; try with_reducible rfl
           try simp only [ZP, ZA, ZC, ZB, ZD, ZE, ZF]
           refine wpAnyS_done (by kernel_rfl) ?_ _
           go_wp2_with fail
           refine wp_region_S (fun w' => w'.cell? ⟨xb, xo + i * 6, none⟩ = some (ZI ZQ p.n) ∧ w'.cell? ⟨xb, xo + k * 6, none⟩ = some (ZI ZQ q.n)) 1000 (by kernel_rfl) (by exact ⟨x0, z0⟩) (fun hHeld => ?_)
           refine tsP 0 ?_ rfl ?_ ?_
           rotate_left
           ·intro w hSw; (try dsimp only at hSw); go_simp; try with_reducible rfl
           try simp only [ZP, ZA, ZC, ZB, ZD, ZE, ZF]
           refine tsP 1 ?_ rfl ?_ ?_
           rotate_left
           ·intro w hSw; (try dsimp only at hSw); go_simp; try with_reducible rfl
           try simp only [ZP, ZA, ZC, ZB, ZD, ZE, ZF]
           refine tsP 2 ?_ rfl ?_ ?_
           rotate_left
           ·intro w hSw; (try dsimp only at hSw); go_simp; try with_reducible rfl
           try simp only [ZP, ZA, ZC, ZB, ZD, ZE, ZF]
           refine tsP 3 ?_ rfl ?_ ?_
           rotate_left
           ·intro w hSw; (try dsimp only at hSw); go_simp; try with_reducible rfl
           try simp only [ZP, ZA, ZC, ZB, ZD, ZE, ZF]
           refine tsP 4 ?_ rfl ?_ ?_
           rotate_left
           ·intro w hSw; (try dsimp only at hSw); go_simp; try with_reducible rfl
           try simp only [ZP, ZA, ZC, ZB, ZD, ZE, ZF]
           refine tsP 5 ?_ rfl ?_ ?_
           rotate_left
           ·intro w hSw; (try dsimp only at hSw); go_simp; try with_reducible rfl
           try simp only [ZP, ZA, ZC, ZB, ZD, ZE, ZF]
           refine tsP 6 ?_ rfl ?_ ?_
           rotate_left
           ·intro w hSw; (try dsimp only at hSw); go_simp; try with_reducible rfl
           try simp only [ZP, ZA, ZC, ZB, ZD, ZE, ZF]
           refine tsP 7 ?_ rfl ?_ ?_
           rotate_left
           ·intro w hSw; (try dsimp only at hSw); go_simp; try with_reducible rfl
           try simp only [ZP, ZA, ZC, ZB, ZD, ZE, ZF]
           refine tsP 8 ?_ rfl ?_ ?_
           rotate_left
           ·intro w hSw; (try dsimp only at hSw); go_simp; try with_reducible rfl
           try simp only [ZP, ZA, ZC, ZB, ZD, ZE, ZF]
           refine tsP 9 ?_ rfl ?_ ?_
           rotate_left
           ·intro w hSw; (try dsimp only at hSw); go_simp; try with_reducible rfl
           try simp only [ZP, ZA, ZC, ZB, ZD, ZE, ZF]
           refine tsP 10 ?_ rfl ?_ ?_
           rotate_left
           ·intro w hSw; (try dsimp only at hSw); go_simp; try with_reducible rfl
           try simp only [ZP, ZA, ZC, ZB, ZD, ZE, ZF]
           refine tsP 11 ?_ rfl ?_ ?_
           rotate_left
           ·intro w hSw; (try dsimp only at hSw); go_simp; try with_reducible rfl
           try simp only [ZP, ZA, ZC, ZB, ZD, ZE, ZF]
           refine tsP 12 ?_ rfl ?_ ?_
           rotate_left
           ·intro w hSw; (try dsimp only at hSw); go_simp; try with_reducible rfl
           try simp only [ZP, ZA, ZC, ZB, ZD, ZE, ZF]
           refine tsP 13 ?_ rfl ?_ ?_
           rotate_left
           ·intro w hSw; (try dsimp only at hSw); go_simp; try with_reducible rfl
           try simp only [ZP, ZA, ZC, ZB, ZD, ZE, ZF]
           refine tsP 14 ?_ rfl ?_ ?_
           rotate_left
           ·intro w hSw; (try dsimp only at hSw); go_simp; try with_reducible rfl
           try simp only [ZP, ZA, ZC, ZB, ZD, ZE, ZF]
           refine wpAnyS_done (by kernel_rfl) ?_ _
           go_wp2_with fail
           go_roundg (K - (k + 1))
           case rel => exact ⟨k + 1, ⟨q.t - p.t, p.n, q.n, true⟩, by go_num, rfl, rfl, rfl, rfl, by omega, by omega, by omega, HM2.out, HS2.out.later (by first | exact (Below.refl _ _).drew.drew | exact (Below.refl _ _).drew)⟩
           case measure => omega
          ·have HM2 : Hid ((rowOf rs first p (ps.drop (k + 1))).foldl keepP ⟨sd, slo, shi, true⟩ = M) := by
            show _ = _
            have h := HMM.out
            unfold keepP at h
            dsimp only at h
            rw [decide_eq_false hdd] at h
            exact h
           clear HMM
           go_wp2_with fail
           refine wp_region_S (fun w' => w'.cell? ⟨xb, xo + i * 6, none⟩ = some (ZI ZQ p.n) ∧ w'.cell? ⟨xb, xo + i * 6 + 1, none⟩ = some (ZI ZQ p.t) ∧ w'.cell? ⟨xb, xo + i * 6 + 2, none⟩ = some (ZI ZQ p.s) ∧ w'.cell? ⟨xb, xo + i * 6 + 3, none⟩ = some (.bool p.e) ∧ w'.cell? ⟨xb, xo + i * 6 + 4, none⟩ = some (.bool p.f) ∧ w'.cell? ⟨xb, xo + i * 6 + 5, none⟩ = some (.bool p.c) ∧ w'.cell? ⟨xb, xo + k * 6, none⟩ = some (ZI ZQ q.n) ∧ w'.cell? ⟨xb, xo + k * 6 + 1, none⟩ = some (ZI ZQ q.t) ∧ w'.cell? ⟨xb, xo + k * 6 + 2, none⟩ = some (ZI ZQ q.s) ∧ w'.cell? ⟨xb, xo + k * 6 + 3, none⟩ = some (.bool q.e) ∧ w'.cell? ⟨xb, xo + k * 6 + 4, none⟩ = some (.bool q.f) ∧ w'.cell? ⟨xb, xo + k * 6 + 5, none⟩ = some (.bool q.c)) 1000 (by kernel_rfl) (by exact hc) (fun hHeld => ?_)
           refine tsP 0 ?_ rfl ?_ ?_
           rotate_left
           ·intro w hSw; (try dsimp only at hSw); go_simp; try with_reducible rfl
           try simp only [ZP, ZA, ZC, ZB, ZD, ZE, ZF]
           refine tsP 1 ?_ rfl ?_ ?_
           rotate_left
           ·intro w hSw; (try dsimp only at hSw); go_simp; try with_reducible rfl
           try simp only [ZP, ZA, ZC, ZB, ZD, ZE, ZF]
           refine tsP 2 ?_ rfl ?_ ?_
           rotate_left
           ·intro w hSw; (try dsimp only at hSw); go_simp; try with_reducible rfl
           try simp only [ZP, ZA, ZC, ZB, ZD, ZE, ZF]
           refine tsP 3 ?_ rfl ?_ ?_
           rotate_left
           ·intro w hSw; (try dsimp only at hSw); go_simp; try with_reducible rfl
           try simp only [ZP, ZA, ZC, ZB, ZD, ZE, ZF]
           refine tsP 4 ?_ rfl ?_ ?_
           rotate_left
           ·intro w hSw; (try dsimp only at hSw); go_simp; try with_reducible rfl
           try simp only [ZP, ZA, ZC, ZB, ZD, ZE, ZF]
           refine tsP 5 ?_ rfl ?_ ?_
           rotate_left
           ·intro w hSw; (try dsimp only at hSw); go_simp; try with_reducible rfl
           try simp only [ZP, ZA, ZC, ZB, ZD, ZE, ZF]
           refine tsP 6 ?_ rfl ?_ ?_
           rotate_left
           ·intro w hSw; (try dsimp only at hSw); go_simp; try with_reducible rfl
           try simp only [ZP, ZA, ZC, ZB, ZD, ZE, ZF]
           refine tsP 7 ?_ rfl ?_ ?_
           rotate_left
           ·intro w hSw; (try dsimp only at hSw); go_simp; try with_reducible rfl
           try simp only [ZP, ZA, ZC, ZB, ZD, ZE, ZF]
           refine tsP 8 ?_ rfl ?_ ?_
           rotate_left
           ·intro w hSw; (try dsimp only at hSw); go_simp; try with_reducible rfl
           try simp only [ZP, ZA, ZC, ZB, ZD, ZE, ZF]
           refine tsP 9 ?_ rfl ?_ ?_
           rotate_left
           ·intro w hSw; (try dsimp only at hSw); go_simp; try with_reducible rfl
           try simp only [ZP, ZA, ZC, ZB, ZD, ZE, ZF]
           refine wpAnyS_one (i := 10) rfl (by kernel_rfl) (fun K hK => ?_)
           go_simp; go_at_call 176; refine (HPA.out _ (by first | exact Below.refl _ _ | exact (Below.refl _ _).drew | exact (Below.refl _ _).drew.drew)).mono ?_; rintro e3 w3 ⟨rfl, hb3⟩; have HS2 := hide ((HS.out.later (by first | exact Below.refl _ _ | exact (Below.refl _ _).drew | exact (Below.refl _ _).drew.drew)).later hb3)
           refine hK.out _ _ (fun _ => (HS2.out.two HP.out HQ.out)) (fun hH => ?_)
           have hHeld := hH rfl
           clear hK K hH
           try simp only [ZP, ZA, ZC, ZB, ZD, ZE, ZF]
           refine tsP 11 ?_ rfl ?_ ?_
           rotate_left
           ·intro w hSw; (try dsimp only at hSw); go_simp; try with_reducible rfl
           try simp only [ZP, ZA, ZC, ZB, ZD, ZE, ZF]
           refine wpAnyS_done (by kernel_rfl) ?_ _
           obtain ⟨x0, x1, -, -, -, -, z0, z1, -, -, -, -⟩ := HS2.out.two HP.out HQ.out
           go_wp2_with fail
           refine wp_region_S (fun w' => w'.cell? ⟨xb, xo + i * 6 + 1, none⟩ = some (ZI ZQ p.t) ∧ w'.cell? ⟨xb, xo + k * 6 + 1, none⟩ = some (ZI ZQ q.t)) 1000 (by kernel_rfl) (by exact ⟨x1, z1⟩) (fun hHeld => ?_)
           refine tsP 0 ?_ rfl ?_ ?_
           rotate_left
           ·intro w hSw; (try dsimp only at hSw); go_simp; try with_reducible rfl
           try simp only [ZP, ZA, ZC, ZB, ZD, ZE, ZF]
           refine tsP 1 ?_ rfl ?_ ?_
           rotate_left
           ·intro w hSw; (try dsimp only at hSw); go_simp; try with_reducible rfl
           try simp only [ZP, ZA, ZC, ZB, ZD, ZE, ZF]
           refine tsP 2 ?_ rfl ?_ ?_
           rotate_left
           ·intro w hSw; (try dsimp only at hSw); go_simp; try with_reducible rfl
           try simp only [ZP, ZA, ZC, ZB, ZD, ZE, ZF]
           refine tsP 3 ?_ rfl ?_ ?_
           rotate_left
           ·intro w hSw; (try dsimp only at hSw); go_simp; try with_reducible rfl
           try simp only [ZP, ZA, ZC, ZB, ZD, ZE, ZF]
           refine tsP 4 ?_ rfl ?_ ?_
           rotate_left
           ·intro w hSw; (try dsimp only at hSw); go_simp; try with_reducible rfl
           try simp only [ZP, ZA, ZC, ZB, ZD, ZE, ZF]
           refine tsP 5 ?_ rfl ?_ ?_
           rotate_left
           ·intro w hSw; (try dsimp only at hSw); go_simp; try with_reducible rfl
           try simp only [ZP, ZA, ZC, ZB, ZD, ZE, ZF]
           refine tsP 6 ?_ rfl ?_ ?_
           rotate_left
           ·intro w hSw; (try dsimp only at hSw); go_simp; try with_reducible rfl
           try simp only [ZP, ZA, ZC, ZB, ZD, ZE, ZF]
           refine tsP 7 ?_ rfl ?_ ?_
           rotate_left
           ·intro w hSw; (try dsimp only at hSw); go_simp; try with_reducible rfl
           try simp only [ZP, ZA, ZC, ZB, ZD, ZE, ZF]
           refine tsP 8 ?_ rfl ?_ ?_
           rotate_left
           ·intro w hSw; (try dsimp only at hSw); go_simp; try with_reducible rfl
           try simp only [ZP, ZA, ZC, ZB, ZD, ZE, ZF]
           refine tsP 9 ?_ rfl ?_ ?_
           rotate_left
           ·intro w hSw; (try dsimp only at hSw); go_simp; try with_reducible rfl
           try simp only [ZP, ZA, ZC, ZB, ZD, ZE, ZF]
           refine tsP 10 ?_ rfl ?_ ?_
           rotate_left
           ·intro w hSw; (try dsimp only at hSw); go_simp; try with_reducible rfl
           try simp only [ZP, ZA, ZC, ZB, ZD, ZE, ZF]
           refine tsP 11 ?_ rfl ?_ ?_
           rotate_left
           ·intro w hSw; (try dsimp only at hSw); go_simp; try with_reducible rfl
           try simp only [ZP, ZA, ZC, ZB, ZD, ZE, ZF]
           refine wpAnyS_done (by kernel_rfl) ?_ _
           go_wp2_with fail
           go_roundg (K - (k + 1))
           case rel => exact ⟨k + 1, ⟨sd, slo, shi, true⟩, by go_num, rfl, rfl, rfl, rfl, by omega, by omega, by omega, HM2.out, HS2.out.later (by first | exact (Below.refl _ _).drew | exact (Below.refl _ _).drew.drew)⟩
           case measure => omega
       ·have hkK : k = K := by omega
        have hkn : ¬ (k : Int) < (K : Int) := by omega
        have HM2 : Hid (st = M) := by
         show _ = _
         rw [← hM, List.drop_of_length_le (by rw [HLN.out]; omega)]
         rfl
        have HS := hide hs
        clear hM hs hkK
        go_wp2_with fail
        go_roundg (K - (i + 1))
        case rel => exact ⟨i + 1, st, by go_num, rfl, rfl, rfl, rfl, by omega, by omega, by rw [HM2.out]; exact HRO, HS.out⟩
        case measure => omega
     ·have hiK : i = K := by omega
      have hin : ¬ (i : Int) < (K : Int) := by omega
      have HR2 : Hid (st = RS) := by
       show _ = _
       rw [← hRS, List.drop_of_length_le (by rw [HLN.out]; omega)]
       rfl
      have HS := hide hs
      clear hRS hs hiK
      go_wp2_with fail
      exact bodyPost_ret (v := perV st) (by simp [results, Tryz.results163, go_sem, perV, Per.none]) rfl ⟨by rw [HR2.out], HS.out.below⟩
 ·have hc2 : checkL ps = 2 := by unfold checkL at hck ⊢; exact if_neg fun h => hck (if_pos h)
  rw [hc2] at HCK
  have HRS2 : Hid (RS = Per.none) := by show _ = _; rw [← HRS.out, if_neg (fun h => hck h.1)]
  clear hck hc2 HRS hP ha hR hn
  go_enter Tryz.func163, Tryz.ntmps163
  go_wp2_with fail
  refine HCK.out.mono ?_
  rintro e1 w1 ⟨rfl, hb1⟩
  go_wp2_with fail
  exact bodyPost_ret (v := perV Per.none) (by simp [results, Tryz.results163, go_sem, perV, Per.none]) rfl ⟨by rw [HRS2.out], hb1⟩

set_option maxRecDepth 100000 in
set_option maxHeartbeats 2000000 in
theorem refis_any (a : Option Addr) (n cap : Nat) (ps : List PK) (v : Value) (rs : List Rg) (r : RT) (delay : Int) (w : World) (hn : ps.length = n) (hP : PksAt w a ps) (ha : ∀ k o, a = some ⟨k, o, none⟩ → k < w.heap.size) (hA : RefAt w v rs) (hl : rs.length ≤ 1000)
  (hsm : (-9223372036854775808 ≤ r.smooth ∧ r.smooth ≤ 9223372036854775807)) :
  Calls Tryz.prog 133 #[.slice a n cap, v, rtV r, ZI ZQ delay] w fun e w' => e = .returned (.bool ((periodOf rs r.first ps).some && rtC r && decide (timeOf (3 * baseAny r delay) < (periodOf rs r.first ps).d))) ∧ Below w.heap.size w w' := by
 have hbw : Below w.heap.size w (w.alloc (.cells #[ZI ZQ r.latest, ZI ZQ r.min, ZI ZQ r.smooth, ZI ZQ r.var, ZI ZQ r.first] 45)) := (Below.refl _ _).alloc (Nat.le_refl _) _
 have hx := Blk.new w 45 #[ZI ZQ r.latest, ZI ZQ r.min, ZI ZQ r.smooth, ZI ZQ r.var, ZI ZQ r.first]
 have HPE := hide (refperiod_any a n cap ps v rs r.first (w.alloc (.cells #[ZI ZQ r.latest, ZI ZQ r.min, ZI ZQ r.smooth, ZI ZQ r.var, ZI ZQ r.first] 45)) hn (hP.below hbw (Nat.le_refl _)) (fun k o e => Nat.lt_of_lt_of_le (ha k o e) hbw.size) (hA.below hbw) hl)
 have HCK := hide (fun W => r07check_any r W hsm)
 have HPT := hide (fun W => r08persist_any r delay W hsm)
 obtain ⟨st, hst⟩ : ∃ st, periodOf rs r.first ps = st := ⟨_, rfl⟩
 obtain ⟨V, hV⟩ : ∃ V, timeOf (3 * baseAny r delay) = V := ⟨_, rfl⟩
 obtain ⟨T, hT⟩ : ∃ T, rtC r = T := ⟨_, rfl⟩
 rw [hT] at HCK ⊢
 rw [hst] at HPE ⊢
 rw [hV] at HPT ⊢
 have HBW := hide hbw
 have HX := hide hx
 clear hbw hx hst hV hT hn hP ha hA hsm
 obtain ⟨la, mi, sm_, va, fi⟩ := r
 obtain ⟨d, lo, hi, sm⟩ := st
 unfold rtV perV at *
 dsimp only at *
 cases sm with
 | false =>
  go_enter Tryz.func133, Tryz.ntmps133
  go_wp2_with fail
  refine HPE.out.mono ?_
  rintro x1 w1 ⟨rfl, hb1⟩
  have HB1 := hide (bw_below' HBW.out hb1)
  clear hb1
  go_wp2_with fail
  go_ret
  exact ⟨rfl, HB1.out⟩
 | true =>
  cases T with
  | false =>
   simp only [Bool.false_eq_true, if_false] at HCK
   go_enter Tryz.func133, Tryz.ntmps133
   go_wp2_with fail
   refine HPE.out.mono ?_
   rintro x1 w1 ⟨rfl, hb1⟩
   have HX1 := hide ((hb1.block _ HX.out.lt).trans HX.out)
   have HB1 := hide (bw_below' HBW.out hb1)
   clear hb1 HX
   have c0 := Blk.cell HX1.out 0
   have c1 := Blk.cell HX1.out 1
   have c2 := Blk.cell HX1.out 2
   have c3 := Blk.cell HX1.out 3
   have c4 := Blk.cell HX1.out 4
   go_wp2_with fail
   refine (HCK.out _).mono ?_
   rintro x2 w2 ⟨rfl, hb2⟩
   have HX2 := hide ((hb2.block _ (Blk.lt HX1.out)).trans HX1.out)
   have HB2 := hide (bw_below' HB1.out hb2)
   clear hb2 HX1 HB1 c0 c1 c2 c3 c4
   go_wp2_with fail
   go_ret
   exact ⟨rfl, HB2.out⟩
  | true =>
   simp only [if_true] at HCK
   go_enter Tryz.func133, Tryz.ntmps133
   go_wp2_with fail
   refine HPE.out.mono ?_
   rintro x1 w1 ⟨rfl, hb1⟩
   have HX1 := hide ((hb1.block _ HX.out.lt).trans HX.out)
   have HB1 := hide (bw_below' HBW.out hb1)
   clear hb1 HX
   have c0 := Blk.cell HX1.out 0
   have c1 := Blk.cell HX1.out 1
   have c2 := Blk.cell HX1.out 2
   have c3 := Blk.cell HX1.out 3
   have c4 := Blk.cell HX1.out 4
   go_wp2_with fail
   refine (HCK.out _).mono ?_
   rintro x2 w2 ⟨rfl, hb2⟩
   have HX2 := hide ((hb2.block _ (Blk.lt HX1.out)).trans HX1.out)
   have HB2 := hide (bw_below' HB1.out hb2)
   clear hb2 HX1 HB1 c0 c1 c2 c3 c4
   have c0 := Blk.cell HX2.out 0
   have c1 := Blk.cell HX2.out 1
   have c2 := Blk.cell HX2.out 2
   have c3 := Blk.cell HX2.out 3
   have c4 := Blk.cell HX2.out 4
   go_wp2_with fail
   refine (HPT.out _).mono ?_
   rintro x3 w3 ⟨rfl, hb3⟩
   have HB3 := hide (bw_below' HB2.out hb3)
   clear hb3 c0 c1 c2 c3 c4
   go_wp2_with fail
   go_ret
   exact ⟨rfl, HB3.out⟩
end Go.Proofs.YtgicljeedegncaaGreat
