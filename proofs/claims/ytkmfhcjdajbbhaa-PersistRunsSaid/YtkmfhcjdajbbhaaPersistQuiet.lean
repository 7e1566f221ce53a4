/-
  The statement PersistQuiet: its walk.
-/
import Derived.Test.YtkmfhcjdajbbhaaPersistQuietLaw
import Derived.Test.YtkmfhcjdajbbhaaSpanIsLaw
namespace Go.Proofs.Ytkmfhcjdajbbhaa
set_option linter.unusedSimpArgs false
set_option linter.unusedVariables false
open Go.RowKit

structure QuAt (w W : World) (a7 : Option Addr) (ps : List PK) (b : Nat) (g : Option Nat) (rs : List Rg) : Prop where
  p : PksAt W a7 ps
  pl : ∀ k o, a7 = some ⟨k, o, none⟩ → k < W.heap.size
  set : IsSet W b g 256 rs
  below : Below w.heap.size w W
theorem QuAt.later {w W W' : World} {a7 : Option Addr} {ps : List PK} {b : Nat} {g : Option Nat} {rs : List Rg} (h : QuAt w W a7 ps b g rs) (hb : Below W.heap.size W W') : QuAt w W' a7 ps b g rs :=
  ⟨h.p.below hb (Nat.le_refl _), fun k o e => Nat.lt_of_lt_of_le (h.pl k o e) hb.size, h.set.below hb, bw_below' h.below hb⟩

structure Qu2At (w W : World) (a7 : Option Addr) (ps : List PK) (b : Nat) (g : Option Nat) (rs : List Rg) (A8 : Option Addr) (qs : List PK) : Prop where
  one : QuAt w W a7 ps b g rs
  q : PksAt W A8 qs
  ql : ∀ k o, A8 = some ⟨k, o, none⟩ → k < W.heap.size
theorem Qu2At.later {w W W' : World} {a7 A8 : Option Addr} {ps qs : List PK} {b : Nat} {g : Option Nat} {rs : List Rg} (h : Qu2At w W a7 ps b g rs A8 qs) (hb : Below W.heap.size W W') : Qu2At w W' a7 ps b g rs A8 qs :=
  ⟨h.one.later hb, h.q.below hb (Nat.le_refl _), fun k o e => Nat.lt_of_lt_of_le (h.ql k o e) hb.size⟩

set_option maxRecDepth 100000 in
set_option maxHeartbeats 8000000 in
theorem squiet_any (a0 : Option Addr) (len0 cap0 : Nat) (N D B : Nat → Int) (za : Option Addr) (len1 cap1 : Nat) (Z : Nat → Int) (m2 : Int) (w : World) (hz : TriAt w a0 len0 N D B) (ho : OneAt w za len1 Z) (hm2 : -9223372036854775808 ≤ m2) (hm2' : m2 ≤ 9223372036854775807) :
    Calls Try.prog 11 #[.slice a0 len0 cap0, .slice za len1 cap1, .int .i64 m2] w fun e w' => e = .returned (.bool true) ∧ Below w.heap.size w w' := by
  obtain ⟨i0, hi0, hz0, hz1, hz2⟩ := info_parts pk_info10
  have HMADE := hide (made_any a0 len0 cap0 N D B w hz)
  have HMARK := hide (fun W (hb : Below w.heap.size w W) => marks_any za len1 cap1 Z W (ho.below hb (Nat.le_refl _)))
  obtain ⟨K, hK⟩ : ∃ K, min len0 40 = K := ⟨_, rfl⟩
  have hK40 : K ≤ 40 := by omega
  rw [hK] at HMADE
  obtain ⟨L, hL⟩ : ∃ L, min len1 40 = L := ⟨_, rfl⟩
  rw [hL] at HMARK
  have q0 := Int.emod_nonneg m2 (show (34359738368 : Int) ≠ 0 by omega)
  have q1 := Int.emod_lt_of_pos m2 (show (0 : Int) < 34359738368 by omega)
  have A2 := fun W => bring_any m2 34359738368 W (by omega) (by omega) hm2 hm2'
  obtain ⟨f, hf⟩ : ∃ f, m2 % 34359738368 = f := ⟨_, rfl⟩
  rw [hf] at A2 q0 q1
  have AA2 := hide A2
  clear A2 hf hz ho hK hL hm2 hm2'
  obtain ⟨ps, hps⟩ : ∃ ps, madeL N D B K = ps := ⟨_, rfl⟩
  have HSM := hide (madeL_small N D B hK40)
  have HOK := hide (madeL_ok N D B K hK40)
  have HLN := hide (madeL_len N D B K)
  have HG := hide (marksR_good Z L)
  obtain ⟨rs, hrs⟩ : ∃ rs, marksR Z L = rs := ⟨_, rfl⟩
  rw [hps] at HMADE HSM HOK HLN
  rw [hrs] at HMARK HG
  clear hps hrs
  go_enter Try.func11, Try.ntmps11
  go_wp2_with fail
  refine HMADE.out.mono ?_
  rintro e1 w1 ⟨v, rfl, hown, hb1⟩
  rw [HLN.out] at hown
  obtain ⟨a7, c7, rfl⟩ := own_slice' hown
  obtain ⟨hpk, hnc, hpl⟩ := own_pks HLN.out hown HSM.out
  have HB1 := hide hb1
  have HPK := hide hpk
  have HPL := hide hpl
  clear hown hb1 hpk hpl HMADE
  go_wp2_with fail
  refine (HMARK.out _ HB1.out).mono ?_
  rintro e2 w2 ⟨b, g, rfl, hsa⟩
  have hq : QuAt w w2 a7 ps b g rs := ⟨HPK.out.below hsa.below (Nat.le_refl _), fun k o e => Nat.lt_of_lt_of_le (HPL.out k o e) hsa.below.size, hsa.set, bw_below' HB1.out hsa.below⟩
  clear hsa HB1 HPK HPL HMARK
  go_wp2_with fail
  refine (AA2.out _).mono ?_
  rintro e3 w3 ⟨rfl, rfl⟩
  clear AA2
  have HQ := hide hq
  clear hq
  go_wp2_with fail
  go_loopg [9, 10] 40 (fun kx s9 s10 wr => ∃ k : Nat, s10 = .int .i64 k ∧ k ≤ K ∧ 40 - k ≤ kx ∧ wr.ownsRow w2.heap.size 55 6 s9 ((ps.take k).filter fun p => p.e).length (((ps.take k).filter fun p => p.e).flatMap fun p => (pkC p).toList) ∧ Below w2.heap.size w2 wr)
  case atStart => exact ⟨0, rfl, by omega, by omega, ⟨rfl, .inl ⟨rfl, rfl⟩⟩, Below.refl _ _⟩
  case round =>
    obtain ⟨k, rfl, hk, hkx, hown, hW⟩ := hrel
    by_cases hlt : k < K
    · have hkp : k < ps.length := by rw [HLN.out]; exact hlt
      obtain ⟨p, hp⟩ : ∃ p, ps[k]? = some p := ⟨_, List.getElem?_eq_getElem hkp⟩
      obtain ⟨xb, xo, rfl, hxl, z0, z1, z2, z3, z4, z5⟩ := (HQ.out.later hW).p.cells hp
      have HT : Hid (ps.take (k + 1) = ps.take k ++ [p]) := by show _ = _; rw [List.take_add_one, hp]; rfl
      have hln : ((ps.take k).filter fun p => p.e).length ≤ k := Nat.le_trans (List.length_filter_le _ _) (by rw [List.length_take]; omega)
      obtain ⟨M, hM⟩ : ∃ M, ((ps.take k).filter fun p => p.e).length = M := ⟨_, rfl⟩
      obtain ⟨xs, hxs⟩ : ∃ xs, (((ps.take k).filter fun p => p.e).flatMap fun p => (pkC p).toList) = xs := ⟨_, rfl⟩
      rw [hM, hxs] at hown
      rw [hM] at hln
      have HM := hide hM
      have HXS := hide hxs
      obtain ⟨A8, c8, rfl⟩ := own_slice' hown
      have hsz := hW.size
      obtain ⟨pn, pt, ps_, pe, pf, pc⟩ := p
      dsimp only at z0 z1 z2 z3 z4 z5
      have hkl : (k : Int) < (K : Int) := by omega
      clear hp hM hxs hkp
      cases pe with
      | true =>
        have HOW := hide hown
        have HWW := hide hW
        go_wp2_with (at_builtin; refine wpList_append_any _ rfl (.tmp 40) (.tmp 45) _ rfl w2.heap.size 55 i0 _ 6 32 Try.underlying46 hi0 hz0 hz1 hz2 rfl (by decide) (.slice A8 M c8) M xs rfl (by exact HOW.out.alloc _) (wr.heap.size + 1) (some ⟨wr.heap.size, 0, none⟩) 1 1 [.int .i64 pn, .int .i64 pt, .int .i64 ps_, .bool true, .bool pf, .bool pc] rfl (by exact reads_lit (blk_new_at (by simp)) (by simp) rfl) (by simp [Value.oneCell']) (by unfold maxLen; omega) (by omega) (by simp; omega) ?_; intro v5 w5 hown5 hg5 hat5)
        go_roundg (40 - (k + 1))
        case rel =>
          refine ⟨k + 1, by go_num, by omega, by omega, ?_, ?_⟩
          · rw [HT.out, List.filter_append, List.length_append, List.flatMap_append, HM.out, HXS.out]
            exact hown5
          · exact Below.grown (HWW.out.alloc hsz _) hg5 (by simp; omega) (fun x hx => (HOW.out.lt x hx).1)
        case measure => omega
      | false =>
        have HOW := hide hown
        clear hown
        go_wp2_with fail
        go_roundg (40 - (k + 1))
        case rel =>
          refine ⟨k + 1, by go_num, by omega, by omega, ?_, hW⟩
          rw [HT.out, List.filter_append, List.length_append, List.flatMap_append, HM.out, HXS.out]
          simp only [List.filter_cons, Bool.false_eq_true, if_false, List.filter_nil, List.length_nil, Nat.add_zero, List.flatMap_nil, List.append_nil]
          exact HOW.out
        case measure => omega
    · obtain rfl : k = K := by omega
      have hin : ¬ (k : Int) < (k : Int) := by omega
      rw [List.take_of_length_le (by rw [HLN.out]; exact Nat.le_refl _)] at hown
      have hq := HQ.out.later hW
      have hfl : (ps.filter fun p => p.e).length ≤ k := by rw [← HLN.out]; exact List.length_filter_le _ _
      obtain ⟨qs, hqs⟩ : ∃ qs, (ps.filter fun p => p.e) = qs := ⟨_, rfl⟩
      rw [hqs] at hown hfl
      have HQS := hide hqs
      obtain ⟨M, hM⟩ : ∃ M, qs.length = M := ⟨_, rfl⟩
      rw [hM] at hown hfl
      have HM := hide hM
      obtain ⟨A8, c8, rfl⟩ := own_slice' hown
      have hsmq : ∀ p ∈ qs, p.small := fun p hp => by rw [← HQS.out] at hp; exact HSM.out p (List.mem_filter.1 hp).1
      obtain ⟨hpq, hnq, hplq⟩ := own_pks HM.out hown hsmq
      clear hqs hM hown hsmq hW hkx hlt hk HQ
      have hs : Qu2At w wr a7 ps b g rs A8 qs := ⟨hq, hpq, hplq⟩
      clear hq hpq hplq
      have hl256 : ps.length ≤ 256 := by rw [HLN.out]; omega
      have E1 := periodOf_eq (rs := rs) (first := f) HOK.out hl256 q0 (by omega)
      have E2 := periodOf_eq (rs := rs) (first := f) (ps := qs) (by rw [← HQS.out]; exact okPks_filter _ HOK.out) (by rw [HM.out]; omega) q0 (by omega)
      have E12 : periodR rs f qs = periodR rs f ps := by unfold periodR; rw [← HQS.out, pairsL_quiet]
      have HPW := hide (okPks_pw (ps := qs) (a := -1) (by rw [← HQS.out]; exact okPks_filter _ HOK.out))
      have HQP := hide (quiet_pair (rs := rs) (first := f) (ps := ps) HG.out.1 HOK.out)
      have HTB := hide (fun (p : PK) (hp : p ∈ ps) => okPks_mem HOK.out p hp)
      rw [E12] at E2
      obtain ⟨P, hP⟩ : ∃ P, periodR rs f ps = P := ⟨_, rfl⟩
      rw [hP] at E1 E2 HQP
      have HP1 := hide (period_any a7 k c7 ps (some ⟨b, 0, none⟩) rs f wr HLN.out hnc hs.one.p hs.one.pl (.inr ⟨b, g, 256, rfl, hs.one.set⟩))
      have HP2 := hide (fun W (h : Below wr.heap.size wr W) => period_any A8 M c8 qs (some ⟨b, 0, none⟩) rs f W HM.out hnq (hs.later h).q (hs.later h).ql (.inr ⟨b, g, 256, rfl, (hs.later h).one.set⟩))
      rw [E1] at HP1
      simp only [E2] at HP2
      clear E1 E2 E12 hP hl256
      obtain ⟨d, lo, hi, x⟩ := P
      unfold perV at HP1 HP2
      dsimp only at HP1 HP2 HQP
      have HS := hide hs
      clear hs
      go_wp2_with fail
      refine HP1.out.mono ?_
      rintro e6 w6 ⟨rfl, hb6⟩
      have HB6 := hide hb6
      clear hb6
      go_wp2_with fail
      refine (HP2.out _ HB6.out).mono ?_
      rintro e7 w7 ⟨rfl, hb7⟩
      have hs := HS.out.later (bw_below' HB6.out hb7)
      clear HS HB6 hb7 HP1 HP2
      cases x with
      | false =>
        go_wp2_with fail
        refine (works10_any _).mono ?_
        rintro e9 w9 ⟨rfl, hb9⟩
        go_wp2_with fail
        go_ret
        exact ⟨rfl, bw_below' hs.one.below hb9⟩
      | true =>
        obtain ⟨px, py, hx, hy, hxy, hPe, hfx, hfree⟩ := HQP.out rfl
        rw [HQS.out] at hx hy
        simp only [Per.mk.injEq, and_true] at hPe
        obtain ⟨hd, hlo, hhi⟩ := hPe
        have bx := HTB.out px (by rw [← HQS.out] at hx; exact (List.mem_filter.1 hx).1)
        have byy := HTB.out py (by rw [← HQS.out] at hy; exact (List.mem_filter.1 hy).1)
        obtain ⟨tx, htx⟩ : ∃ t, px.t = t := ⟨_, rfl⟩
        obtain ⟨ty, hty⟩ : ∃ t, py.t = t := ⟨_, rfl⟩
        rw [← hlo] at hxy hfree bx
        rw [← hhi] at hxy hfree byy
        rw [htx] at hd hfx bx
        rw [hty] at hd byy
        have bx0 : 0 ≤ lo := by omega
        have HX := hide hx
        have HY := hide hy
        have HLO := hide hlo
        have HHI := hide hhi
        have HTX := hide htx
        have HTY := hide hty
        have HFREE := hide hfree
        have HD := hide hd
        obtain ⟨bx1, bx2, bx3, bx4, _, _⟩ := bx
        obtain ⟨by1, by2, by3, by4, _, _⟩ := byy
        clear hx hy hlo hhi htx hty hfree hd HQP
        have HS := hide hs
        clear hs
        go_wp2_with fail
        go_loopg [19] (hi - lo).toNat (fun kx s19 wr => ∃ n : Int, s19 = .int .i64 n ∧ lo + 1 ≤ n ∧ n ≤ hi ∧ (hi - n).toNat ≤ kx ∧ Qu2At w wr a7 ps b g rs A8 qs)
        case atStart => exact ⟨lo + 1, rfl, by omega, by omega, by omega, HS.out⟩
        case round =>
          clear HS
          obtain ⟨n, rfl, hn0, hn1, hkx, hs⟩ := hrel
          by_cases hlt : n < hi
          · have HHS := hide (has_any b g 256 n rs _ hs.one.set)
            have HDC : Hid ((rngOf n rs).2 = false) := by
              show _ = _
              rw [rngOf_dec HG.out.1]
              exact decide_eq_false (HFREE.out n (by omega) hlt)
            have HS := hide hs
            clear hs
            go_wp2_with fail
            refine HHS.out.mono ?_
            rintro e8 w8 ⟨rfl, hb8⟩
            rw [HDC.out]
            have h8 := HS.out.later hb8
            clear HS hb8 HHS
            go_wp2_with fail
            go_roundg (hi - (n + 1)).toNat
            case rel => exact ⟨n + 1, rfl, by omega, by omega, by omega, h8⟩
            case measure => omega
          · have HS := hide hs
            clear hs hkx
            go_wp2_with fail
            go_loopg [20, 21, 22] M (fun ky s20 s21 s22 wr => ∃ i : Nat, s22 = .int .i64 i ∧ i ≤ M ∧ M - i ≤ ky ∧ s20 = .int .i64 (seenT (qs.take i) lo tx) ∧ s21 = .int .i64 (seenT (qs.take i) hi ty) ∧ Qu2At w wr a7 ps b g rs A8 qs)
            case atStart => exact ⟨0, rfl, by omega, by omega, rfl, rfl, HS.out⟩
            case round =>
              clear HS
              obtain ⟨i, rfl, hi', hky, rfl, rfl, hs⟩ := hrel
              by_cases hlt2 : i < M
              · have hir : i < qs.length := by rw [HM.out]; exact hlt2
                obtain ⟨q, hq⟩ : ∃ q, qs[i]? = some q := ⟨_, List.getElem?_eq_getElem hir⟩
                have hqm := List.mem_of_getElem? hq
                obtain ⟨xb, xo, rfl, hxl, z0, z1, z2, z3, z4, z5⟩ := hs.q.cells hq
                have HT : Hid (qs.take (i + 1) = qs.take i ++ [q]) := by show _ = _; rw [List.take_add_one, hq]; rfl
                have H1 : Hid (q.n = lo → q.t = tx) := fun e => by rw [← HTX.out, pw_same HPW.out hqm HX.out (e.trans HLO.out)]
                have H2 : Hid (q.n = hi → q.t = ty) := fun e => by rw [← HTY.out, pw_same HPW.out hqm HY.out (e.trans HHI.out)]
                have HE1 := hide (seen_eq (qs.take i) q lo tx)
                have HE2 := hide (seen_eq (qs.take i) q hi ty)
                have HN1 := hide (seen_ne (qs.take i) q lo tx)
                have HN2 := hide (seen_ne (qs.take i) q hi ty)
                rw [← HT.out] at HE1 HE2 HN1 HN2
                obtain ⟨S1, hS1⟩ : ∃ S, seenT (qs.take i) lo tx = S := ⟨_, rfl⟩
                obtain ⟨S2, hS2⟩ : ∃ S, seenT (qs.take i) hi ty = S := ⟨_, rfl⟩
                rw [hS1] at HN1 ⊢
                rw [hS2] at HN2 ⊢
                clear hS1 hS2 hq hqm hir z2 z3 z4 z5
                obtain ⟨qn, qt, q3, q4, q5, q6⟩ := q
                dsimp only at z0 z1 H1 H2 HE1 HE2 HN1 HN2
                have hiM : (i : Int) < (M : Int) := by omega
                by_cases c1 : qn = lo
                · subst c1
                  have hne : (qn == hi) = false := by rw [beq_eq_false_iff_ne]; omega
                  have HQT := H1.out rfl
                  have HR1 := hide (HE1.out rfl)
                  have HR2 := hide (HN2.out (by omega))
                  clear H1 H2 HE1 HE2 HN1 HN2
                  subst HQT
                  go_wp2_with fail
                  go_roundg (M - (i + 1))
                  case rel => exact ⟨i + 1, by go_num, by omega, by omega, by rw [HR1.out], by rw [HR2.out], hs⟩
                  case measure => omega
                · have hne : (qn == lo) = false := by rw [beq_eq_false_iff_ne]; exact c1
                  have HR1 := hide (HN1.out c1)
                  by_cases c2 : qn = hi
                  · subst c2
                    have HQT := H2.out rfl
                    have HR2 := hide (HE2.out rfl)
                    clear H1 H2 HE1 HE2 HN1 HN2
                    subst HQT
                    go_wp2_with fail
                    go_roundg (M - (i + 1))
                    case rel => exact ⟨i + 1, by go_num, by omega, by omega, by rw [HR1.out], by rw [HR2.out], hs⟩
                    case measure => omega
                  · have hne2 : (qn == hi) = false := by rw [beq_eq_false_iff_ne]; exact c2
                    have HR2 := hide (HN2.out c2)
                    clear H1 H2 HE1 HE2 HN1 HN2
                    go_wp2_with fail
                    go_roundg (M - (i + 1))
                    case rel => exact ⟨i + 1, by go_num, by omega, by omega, by rw [HR1.out], by rw [HR2.out], hs⟩
                    case measure => omega
              · obtain rfl : i = M := by omega
                have hiM : ¬ (i : Int) < (i : Int) := by omega
                have F1 : seenT (qs.take i) lo tx = tx := by
                  rw [List.take_of_length_le (by rw [HM.out]; exact Nat.le_refl _), HLO.out]
                  exact seen_all tx HX.out
                have F2 : seenT (qs.take i) hi ty = ty := by
                  rw [List.take_of_length_le (by rw [HM.out]; exact Nat.le_refl _), HHI.out]
                  exact seen_all ty HY.out
                rw [F1, F2]
                have hdd : ((ty - tx) == d) = true := by rw [HD.out, beq_self_eq_true]
                have HB := hide hs.one.below
                clear F1 F2 hs hky hlt2 hi'
                go_wp2_with fail
                refine (works10_any _).mono ?_
                rintro e9 w9 ⟨rfl, hb9⟩
                go_wp2_with fail
                go_ret
                exact ⟨rfl, bw_below' HB.out hb9⟩
end Go.Proofs.Ytkmfhcjdajbbhaa
