/-
 The document: row: 3 texts in one (JrRowA, JrRowB, JrRowC).
-/
import Derived.Test.YtidfngcclbhoaaaMjRefB
import Derived.StillTail
import Derived.Deep.RegionHeld3
import Derived.BigQuiet
namespace Go.Proofs.Ytidfngcclbhoaaa
open List renaming getElem?_toArray → ZG, getElem?_cons_zero → ZH, getElem?_cons_succ → ZJ
open Go.Value renaming int → ZI
open Go.IntKind renaming i64 → ZQ
set_option linter.unusedSimpArgs false
set_option linter.unusedVariables false
open Go.RowKit Go.Shelf
theorem any_drop6 {es : List EVJ} {i : Nat} {e : EVJ} (h : es[i]? = some e) : (es.drop i).any closesP = (closesP e || (es.drop (i + 1)).any closesP) := by
 have hi : i < es.length := (List.getElem?_eq_some_iff.1 h).1
 rw [List.drop_eq_getElem_cons hi]
 rw [List.getElem?_eq_getElem hi] at h
 rw [Option.some.inj h]
 rfl
set_option maxRecDepth 100000 in
set_option maxHeartbeats 8000000 in
theorem rrow_refused (b base : Nat) (k : KN) (vL vA vR vP : Value) (r : RW) (rs : List RGJ) (es : List EVJ) (w : World) (hK : KrAt w b base k vL vA vR vP) (hR : LieAt rgL 2 w base r.ra rs) (hE : LieAt evL 4 w base r.ea es) (hen : es.length = r.en) (henl : r.en ≤ 2000) (hsh : k.shut = false) (e : EVJ) (hes : es = [e]) (hcl : closesP e = true) (hne : (e.n == r.err) = false) (he0 : (r.err == 0) = false) :
  Calls Try.prog 35 #[.pointer (some ⟨b, 0, none⟩), .agg (rwC r)] w (RefPost b base w (.error 2)) := by
 obtain ⟨kind, rt, rsp, rsize, ⟨osp, onum, osize, oel, ofl, opr, oect⟩, delay, ra, rn, rc, marked, e0, e1, e2, ea, en, ec, err, smooth⟩ := r
 simp only at hR hE hen henl hne he0 ⊢
 have hen1 : en = 1 := by rw [← hen, hes]; rfl
 subst hen1
 have hbb : base ≤ w.heap.size := Nat.le_of_lt (Nat.lt_of_le_of_lt hK.ge hK.blk.lt)
 have ha : Below w.heap.size w (w.alloc (.cells #[ZI ZQ kind, ZI ZQ rt, ZI ZQ rsp, ZI ZQ rsize, ZI ZQ osp, ZI ZQ onum, ZI ZQ osize, .bool oel, .bool ofl, .bool opr, .bool oect, ZI ZQ delay, .slice ra rn rc, .bool marked, ZI ZQ e0, ZI ZQ e1, ZI ZQ e2, .slice ea 1 ec, ZI ZQ err, ZI ZQ smooth] 93)) := (Below.refl _ _).alloc (Nat.le_refl _) _
 have hs0 : RdSt w (w.alloc (.cells #[ZI ZQ kind, ZI ZQ rt, ZI ZQ rsp, ZI ZQ rsize, ZI ZQ osp, ZI ZQ onum, ZI ZQ osize, .bool oel, .bool ofl, .bool opr, .bool oect, ZI ZQ delay, .slice ra rn rc, .bool marked, ZI ZQ e0, ZI ZQ e1, ZI ZQ e2, .slice ea 1 ec, ZI ZQ err, ZI ZQ smooth] 93)) b base k vL vA vR vP w.heap.size ⟨kind, rt, rsp, rsize, ⟨osp, onum, osize, oel, ofl, opr, oect⟩, delay, ra, rn, rc, marked, e0, e1, e2, ea, 1, ec, err, smooth⟩ es rs := ⟨hK.later ha, Blk.new _ _ _, hE, hR, FarR.of_below ha hbb⟩
 unfold rwC
 obtain ⟨W1, hW1⟩ : ∃ x, w.alloc (.cells #[ZI ZQ kind, ZI ZQ rt, ZI ZQ rsp, ZI ZQ rsize, ZI ZQ osp, ZI ZQ onum, ZI ZQ osize, .bool oel, .bool ofl, .bool opr, .bool oect, ZI ZQ delay, .slice ra rn rc, .bool marked, ZI ZQ e0, ZI ZQ e1, ZI ZQ e2, .slice ea 1 ec, ZI ZQ err, ZI ZQ smooth] 93) = x := ⟨_, rfl⟩
 obtain ⟨R, hRr⟩ : ∃ x, w.heap.size = x := ⟨_, rfl⟩
 go_enter Try.func35, Try.ntmps35
 go_upto_region 1 with (fail)
 rw [hW1, hRr] at hs0
 try rw [hW1]
 try rw [hRr]
 have HS := hide hs0
 have r1 := hs0.row.cell 1
 have r17 := hs0.row.cell 17
 have r18 := hs0.row.cell 18
 have k15 := hs0.kn.blk.cell 15
 simp only [rwC, krC, hsh, ZG, ZH, ZJ] at r1 r17 r18 k15
 have he : es[0]? = some e := by rw [hes]; rfl
 obtain ⟨g, o, hea, hg, hz⟩ := hs0.ev.at he
 simp only at hea
 rw [hea] at r17
 have z0 := hz 0 _ (by omega) rfl
 have z3 := hz 3 _ (by omega) rfl
 simp only [Nat.zero_mul, Nat.add_zero] at z0 z3
 have hk6 : e.kind = 6 := by unfold closesP at hcl; simpa using hcl
 rw [hk6] at z0
 obtain ⟨n3, hn3⟩ : ∃ y, e.n = y := ⟨_, rfl⟩
 rw [hn3] at z3 hne
 have f15 := hs0.kn.blk.frozen 15
 have hne0 : ¬ err = 0 := by simpa using he0
 have hnei : ¬ n3 = err := by simpa using hne
 have hned : decide (n3 = err) = false := decide_eq_false hnei
 clear hs0 hW1 hRr ha hR hE hK hes hcl hen hz hea he hk6 hn3 hsh
 go_upto_region 5 with (fail)
 go_quiet (fail)
 have HS5 := hide (HS.out.drewN nq)
 have r17 := HS5.out.row.cell 17
 have r18 := HS5.out.row.cell 18
 have k15 := HS5.out.kn.blk.cell 15
 have f15 := HS5.out.kn.blk.frozen 15
 simp only [rwC, krC, ZG, ZH, ZJ] at r17 r18 k15
 obtain ⟨W5, hW5⟩ : ∃ x, W1.drewN nq = x := ⟨_, rfl⟩
 rw [hW5] at HS5 r17 r18 k15 f15
 rw [hW5]
 clear hW5 z0 z3 hne hnei hned HS
 have hRb := blk_ne HS5.out.row HS5.out.kn.blk (by decide)
 go_wp2_with fail
 go_ret
 exact RefPost.err rfl (HS5.out.bl.set HS5.out.kn.blk HS5.out.kn.ge _ _)
set_option maxRecDepth 100000 in
set_option maxHeartbeats 8000000 in
theorem rrow_closes (b base : Nat) (k : KN) (vL vA vR vP : Value) (r : RW) (rs : List RGJ) (es : List EVJ) (w : World) (hK : KrAt w b base k vL vA vR vP) (hR : LieAt rgL 2 w base r.ra rs) (hE : LieAt evL 4 w base r.ea es) (hen : es.length = r.en) (henl : r.en ≤ 2000) (hsh : k.shut = false) (he0 : r.err = 0) (hc : es.any closesP = true)  :
  Calls Try.prog 35 #[.pointer (some ⟨b, 0, none⟩), .agg (rwC r)] w (RefPost b base w (.error 2)) := by
 obtain ⟨kind, rt, rsp, rsize, ⟨osp, onum, osize, oel, ofl, opr, oect⟩, delay, ra, rn, rc, marked, e0, e1, e2, ea, en, ec, err, smooth⟩ := r
 simp only at hR hE hen henl he0  ⊢
 subst he0
 have HC := hide hc
 clear hc
 have hbb : base ≤ w.heap.size := Nat.le_of_lt (Nat.lt_of_le_of_lt hK.ge hK.blk.lt)
 have ha : Below w.heap.size w (w.alloc (.cells #[ZI ZQ kind, ZI ZQ rt, ZI ZQ rsp, ZI ZQ rsize, ZI ZQ osp, ZI ZQ onum, ZI ZQ osize, .bool oel, .bool ofl, .bool opr, .bool oect, ZI ZQ delay, .slice ra rn rc, .bool marked, ZI ZQ e0, ZI ZQ e1, ZI ZQ e2, .slice ea en ec, ZI ZQ 0, ZI ZQ smooth] 93)) := (Below.refl _ _).alloc (Nat.le_refl _) _
 have hs0 : RdSt w (w.alloc (.cells #[ZI ZQ kind, ZI ZQ rt, ZI ZQ rsp, ZI ZQ rsize, ZI ZQ osp, ZI ZQ onum, ZI ZQ osize, .bool oel, .bool ofl, .bool opr, .bool oect, ZI ZQ delay, .slice ra rn rc, .bool marked, ZI ZQ e0, ZI ZQ e1, ZI ZQ e2, .slice ea en ec, ZI ZQ 0, ZI ZQ smooth] 93)) b base k vL vA vR vP w.heap.size ⟨kind, rt, rsp, rsize, ⟨osp, onum, osize, oel, ofl, opr, oect⟩, delay, ra, rn, rc, marked, e0, e1, e2, ea, en, ec, 0, smooth⟩ es rs := ⟨hK.later ha, Blk.new _ _ _, hE, hR, FarR.of_below ha hbb⟩
 unfold rwC
 obtain ⟨W1, hW1⟩ : ∃ x, w.alloc (.cells #[ZI ZQ kind, ZI ZQ rt, ZI ZQ rsp, ZI ZQ rsize, ZI ZQ osp, ZI ZQ onum, ZI ZQ osize, .bool oel, .bool ofl, .bool opr, .bool oect, ZI ZQ delay, .slice ra rn rc, .bool marked, ZI ZQ e0, ZI ZQ e1, ZI ZQ e2, .slice ea en ec, ZI ZQ 0, ZI ZQ smooth] 93) = x := ⟨_, rfl⟩
 obtain ⟨R, hRr⟩ : ∃ x, w.heap.size = x := ⟨_, rfl⟩
 go_enter Try.func35, Try.ntmps35
 go_upto_region 1 with (fail)
 rw [hW1, hRr] at hs0
 try rw [hW1]
 try rw [hRr]
 have HS := hide hs0
 have r1 := hs0.row.cell 1
 have r17 := hs0.row.cell 17
 have r18 := hs0.row.cell 18
 have k15 := hs0.kn.blk.cell 15
 simp only [rwC, krC, hsh, ZG, ZH, ZJ] at r1 r17 r18 k15
 clear hs0 hW1 hRr ha hR hE hK
 have HEN := hide hen
 clear hen
 go_upto_region 5 with (fail)
 go_cut [5] (fun s5 wx => (∃ c, s5 = .bool c) ∧ RdSt w wx b base k vL vA vR vP R ⟨kind, rt, rsp, rsize, ⟨osp, onum, osize, oel, ofl, opr, oect⟩, delay, ra, rn, rc, marked, e0, e1, e2, ea, en, ec, 0, smooth⟩ es rs)
 case first =>
  by_cases h1 : en = 1
  ·subst h1
   obtain ⟨e, he⟩ : ∃ e, es[0]? = some e := ⟨_, List.getElem?_eq_getElem (by rw [HEN.out]; exact Nat.zero_lt_one)⟩
   obtain ⟨g, o, hea, hg, hz⟩ := HS.out.ev.at he
   simp only at hea
   rw [hea] at r17
   have z0 := hz 0 _ (by omega) rfl
   have z3 := hz 3 _ (by omega) rfl
   simp only [Nat.zero_mul, Nat.add_zero] at z0 z3
   obtain ⟨ek, hek⟩ : ∃ y, e.kind = y := ⟨_, rfl⟩
   obtain ⟨n3, hn3⟩ : ∃ y, e.n = y := ⟨_, rfl⟩
   rw [hek] at z0
   rw [hn3] at z3
   clear hz hek hn3 hea he
   cases h6 : (ek == 6) with
   | true =>
    have h6d : decide (ek = 6) = true := by simpa using h6
    cases h0 : (n3 == 0) with
    | true =>
     have h0d : decide (n3 = 0) = true := by simpa using h0
     go_quiet (fail)
     go_wp2_with fail
     go_meet
     exact ⟨⟨_, rfl⟩, HS.out.drewN _⟩
    | false =>
     have h0d : decide (n3 = 0) = false := by simpa using h0
     go_quiet (fail)
     go_wp2_with fail
     go_meet
     exact ⟨⟨_, rfl⟩, HS.out.drewN _⟩
   | false =>
    have h6d : decide (ek = 6) = false := by simpa using h6
    go_quiet (fail)
    go_wp2_with fail
    go_meet
    exact ⟨⟨_, rfl⟩, HS.out.drewN _⟩
  ·have h1i : ¬ (en : Int) = 1 := by omega
   have h1b : ((en : Int) == 1) = false := by simpa using h1i
   have h1d : decide ((en : Int) = 1) = false := decide_eq_false h1i
   clear h1
   go_quiet (fail)
   go_wp2_with fail
   go_meet
   exact ⟨⟨_, rfl⟩, HS.out.drewN _⟩
 case rest =>
  obtain ⟨⟨c, rfl⟩, hs⟩ := hcut
  have r1 := hs.row.cell 1
  have r17 := hs.row.cell 17
  have r18 := hs.row.cell 18
  simp only [rwC, ZG, ZH, ZJ] at r1 r17 r18
  have HS5 := hide hs
  clear hs HS k15
  go_wp2_with fail
  have hc : Hid ((es.drop 0).any closesP = true) := by rw [List.drop_zero]; exact HC.out
  go_loopg [6] en (fun kx s6 wr => wc = wr ∧ ∃ i : Nat, s6 = ZI ZQ i ∧ i ≤ en ∧ en - i ≤ kx ∧ Hid ((es.drop i).any closesP = true))
  case atStart => exact ⟨rfl, 0, rfl, by omega, by omega, hc⟩
  case round =>
   obtain ⟨rfl, i, rfl, hi, hkx, hany⟩ := hrel
   by_cases hlt : i < en
   ·have hir : i < es.length := by rw [HEN.out]; exact hlt
    obtain ⟨e, he⟩ : ∃ e, es[i]? = some e := ⟨_, List.getElem?_eq_getElem hir⟩
    obtain ⟨g, o, hea, hg, hz⟩ := HS5.out.ev.at he
    simp only at hea
    rw [hea] at r17
    have z0 := hz 0 _ (by omega) rfl
    simp only [Nat.add_zero] at z0
    have HA : Hid ((es.drop i).any closesP = (closesP e || (es.drop (i + 1)).any closesP)) := any_drop6 he
    have hin : (i : Int) < (en : Int) := by omega
    obtain ⟨ek, hek⟩ : ∃ y, e.kind = y := ⟨_, rfl⟩
    have HCL : Hid (closesP e = (ek == 6)) := by show _ = _; unfold closesP; rw [hek]
    rw [hek] at z0
    have HANY := hide hany.out
    clear hany hir he hz hek hea
    cases h6 : (ek == 6) with
    | true =>
     have h6p : ek = 6 := by simpa using h6
     subst h6p
     clear h6
     go_wp2_with fail
     go_ret
     exact RefPost.err rfl HS5.out.bl
    | false =>
     have h6p : ¬ ek = 6 := by simpa using h6
     have HC2 : Hid ((ek == 6) = false) := h6
     go_wp2_with fail
     go_roundg (en - (i + 1))
     case rel => exact ⟨rfl, i + 1, by go_num, by omega, by omega, by show _ = _; have := HANY.out; rw [HA.out, HCL.out, HC2.out] at this; simpa using this⟩
     case measure => omega
   ·obtain rfl : en = i := by omega
    have hin : ¬ (en : Int) < (en : Int) := by omega
    have := hany.out
    rw [List.drop_of_length_le (by rw [HEN.out]; exact Nat.le_refl _)] at this
    cases this
end Go.Proofs.Ytidfngcclbhoaaa

namespace Go.Proofs.Ytidfngcclbhoaaa
open List renaming getElem?_toArray → ZG, getElem?_cons_zero → ZH, getElem?_cons_succ → ZJ
open Go.Value renaming int → ZI
open Go.IntKind renaming i64 → ZQ
set_option linter.unusedSimpArgs false
set_option linter.unusedVariables false
open Go.RowKit Go.Shelf
theorem any_drop7 {es : List EVJ} {i : Nat} {e : EVJ} (h : es[i]? = some e) : (es.drop i).any closesP = (closesP e || (es.drop (i + 1)).any closesP) := by
 have hi : i < es.length := (List.getElem?_eq_some_iff.1 h).1
 rw [List.drop_eq_getElem_cons hi]
 rw [List.getElem?_eq_getElem hi] at h
 rw [Option.some.inj h]
 rfl
set_option maxRecDepth 100000 in
set_option maxHeartbeats 8000000 in
theorem rrow_never (b base : Nat) (k : KN) (vL vA vR vP : Value) (r : RW) (rs : List RGJ) (es : List EVJ) (w : World) (hK : KrAt w b base k vL vA vR vP) (hR : LieAt rgL 2 w base r.ra rs) (hE : LieAt evL 4 w base r.ea es) (hen : es.length = r.en) (henl : r.en ≤ 2000) (hsh : k.shut = false) (he0 : r.err = 0) (hc : es.any closesP = false) (hn : isN r.t = false) :
  Calls Try.prog 35 #[.pointer (some ⟨b, 0, none⟩), .agg (rwC r)] w (RefPost b base w (.error 3)) := by
 obtain ⟨kind, rt, rsp, rsize, ⟨osp, onum, osize, oel, ofl, opr, oect⟩, delay, ra, rn, rc, marked, e0, e1, e2, ea, en, ec, err, smooth⟩ := r
 simp only at hR hE hen henl he0 hn ⊢
 subst he0
 have HC := hide hc
 clear hc
 have hbb : base ≤ w.heap.size := Nat.le_of_lt (Nat.lt_of_le_of_lt hK.ge hK.blk.lt)
 have ha : Below w.heap.size w (w.alloc (.cells #[ZI ZQ kind, ZI ZQ rt, ZI ZQ rsp, ZI ZQ rsize, ZI ZQ osp, ZI ZQ onum, ZI ZQ osize, .bool oel, .bool ofl, .bool opr, .bool oect, ZI ZQ delay, .slice ra rn rc, .bool marked, ZI ZQ e0, ZI ZQ e1, ZI ZQ e2, .slice ea en ec, ZI ZQ 0, ZI ZQ smooth] 93)) := (Below.refl _ _).alloc (Nat.le_refl _) _
 have hs0 : RdSt w (w.alloc (.cells #[ZI ZQ kind, ZI ZQ rt, ZI ZQ rsp, ZI ZQ rsize, ZI ZQ osp, ZI ZQ onum, ZI ZQ osize, .bool oel, .bool ofl, .bool opr, .bool oect, ZI ZQ delay, .slice ra rn rc, .bool marked, ZI ZQ e0, ZI ZQ e1, ZI ZQ e2, .slice ea en ec, ZI ZQ 0, ZI ZQ smooth] 93)) b base k vL vA vR vP w.heap.size ⟨kind, rt, rsp, rsize, ⟨osp, onum, osize, oel, ofl, opr, oect⟩, delay, ra, rn, rc, marked, e0, e1, e2, ea, en, ec, 0, smooth⟩ es rs := ⟨hK.later ha, Blk.new _ _ _, hE, hR, FarR.of_below ha hbb⟩
 unfold rwC
 obtain ⟨W1, hW1⟩ : ∃ x, w.alloc (.cells #[ZI ZQ kind, ZI ZQ rt, ZI ZQ rsp, ZI ZQ rsize, ZI ZQ osp, ZI ZQ onum, ZI ZQ osize, .bool oel, .bool ofl, .bool opr, .bool oect, ZI ZQ delay, .slice ra rn rc, .bool marked, ZI ZQ e0, ZI ZQ e1, ZI ZQ e2, .slice ea en ec, ZI ZQ 0, ZI ZQ smooth] 93) = x := ⟨_, rfl⟩
 obtain ⟨R, hRr⟩ : ∃ x, w.heap.size = x := ⟨_, rfl⟩
 go_enter Try.func35, Try.ntmps35
 go_upto_region 1 with (fail)
 rw [hW1, hRr] at hs0
 try rw [hW1]
 try rw [hRr]
 have HS := hide hs0
 have r1 := hs0.row.cell 1
 have r17 := hs0.row.cell 17
 have r18 := hs0.row.cell 18
 have k15 := hs0.kn.blk.cell 15
 simp only [rwC, krC, hsh, ZG, ZH, ZJ] at r1 r17 r18 k15
 clear hs0 hW1 hRr ha hR hE hK
 have HEN := hide hen
 clear hen
 go_upto_region 5 with (fail)
 go_cut [5] (fun s5 wx => (∃ c, s5 = .bool c) ∧ RdSt w wx b base k vL vA vR vP R ⟨kind, rt, rsp, rsize, ⟨osp, onum, osize, oel, ofl, opr, oect⟩, delay, ra, rn, rc, marked, e0, e1, e2, ea, en, ec, 0, smooth⟩ es rs)
 case first =>
  by_cases h1 : en = 1
  ·subst h1
   obtain ⟨e, he⟩ : ∃ e, es[0]? = some e := ⟨_, List.getElem?_eq_getElem (by rw [HEN.out]; exact Nat.zero_lt_one)⟩
   obtain ⟨g, o, hea, hg, hz⟩ := HS.out.ev.at he
   simp only at hea
   rw [hea] at r17
   have z0 := hz 0 _ (by omega) rfl
   have z3 := hz 3 _ (by omega) rfl
   simp only [Nat.zero_mul, Nat.add_zero] at z0 z3
   obtain ⟨ek, hek⟩ : ∃ y, e.kind = y := ⟨_, rfl⟩
   obtain ⟨n3, hn3⟩ : ∃ y, e.n = y := ⟨_, rfl⟩
   rw [hek] at z0
   rw [hn3] at z3
   clear hz hek hn3 hea he
   cases h6 : (ek == 6) with
   | true =>
    have h6d : decide (ek = 6) = true := by simpa using h6
    cases h0 : (n3 == 0) with
    | true =>
     have h0d : decide (n3 = 0) = true := by simpa using h0
     go_quiet (fail)
     go_wp2_with fail
     go_meet
     exact ⟨⟨_, rfl⟩, HS.out.drewN _⟩
    | false =>
     have h0d : decide (n3 = 0) = false := by simpa using h0
     go_quiet (fail)
     go_wp2_with fail
     go_meet
     exact ⟨⟨_, rfl⟩, HS.out.drewN _⟩
   | false =>
    have h6d : decide (ek = 6) = false := by simpa using h6
    go_quiet (fail)
    go_wp2_with fail
    go_meet
    exact ⟨⟨_, rfl⟩, HS.out.drewN _⟩
  ·have h1i : ¬ (en : Int) = 1 := by omega
   have h1b : ((en : Int) == 1) = false := by simpa using h1i
   have h1d : decide ((en : Int) = 1) = false := decide_eq_false h1i
   clear h1
   go_quiet (fail)
   go_wp2_with fail
   go_meet
   exact ⟨⟨_, rfl⟩, HS.out.drewN _⟩
 case rest =>
  obtain ⟨⟨c, rfl⟩, hs⟩ := hcut
  have r1 := hs.row.cell 1
  have r17 := hs.row.cell 17
  have r18 := hs.row.cell 18
  simp only [rwC, ZG, ZH, ZJ] at r1 r17 r18
  have HS5 := hide hs
  clear hs HS k15
  go_wp2_with fail
  have hc : Hid ((es.drop 0).any closesP = false) := by rw [List.drop_zero]; exact HC.out
  go_loopg [6] en (fun kx s6 wr => wc = wr ∧ ∃ i : Nat, s6 = ZI ZQ i ∧ i ≤ en ∧ en - i ≤ kx ∧ Hid ((es.drop i).any closesP = false))
  case atStart => exact ⟨rfl, 0, rfl, by omega, by omega, hc⟩
  case round =>
   obtain ⟨rfl, i, rfl, hi, hkx, hany⟩ := hrel
   by_cases hlt : i < en
   ·have hir : i < es.length := by rw [HEN.out]; exact hlt
    obtain ⟨e, he⟩ : ∃ e, es[i]? = some e := ⟨_, List.getElem?_eq_getElem hir⟩
    obtain ⟨g, o, hea, hg, hz⟩ := HS5.out.ev.at he
    simp only at hea
    rw [hea] at r17
    have z0 := hz 0 _ (by omega) rfl
    simp only [Nat.add_zero] at z0
    have HA : Hid ((es.drop i).any closesP = (closesP e || (es.drop (i + 1)).any closesP)) := any_drop7 he
    have hin : (i : Int) < (en : Int) := by omega
    obtain ⟨ek, hek⟩ : ∃ y, e.kind = y := ⟨_, rfl⟩
    have HCL : Hid (closesP e = (ek == 6)) := by show _ = _; unfold closesP; rw [hek]
    rw [hek] at z0
    have HANY := hide hany.out
    clear hany hir he hz hek hea
    cases h6 : (ek == 6) with
    | true =>
     have h6p : ek = 6 := by simpa using h6
     subst h6p
     exact absurd HANY.out (by rw [HA.out, HCL.out]; simp)
    | false =>
     have h6p : ¬ ek = 6 := by simpa using h6
     have HC2 : Hid ((ek == 6) = false) := h6
     go_wp2_with fail
     go_roundg (en - (i + 1))
     case rel => exact ⟨rfl, i + 1, by go_num, by omega, by omega, by show _ = _; have := HANY.out; rw [HA.out, HCL.out, HC2.out] at this; simpa using this⟩
     case measure => omega
   ·obtain rfl : en = i := by omega
    have hin : ¬ (en : Int) < (en : Int) := by omega
    have HIS := hide (fun W => ris_any rt W)
    rw [hn] at HIS
    clear hany hn
    go_upto_region 16 with (fail)
    go_quiet ((go_at_call 65; with_reducible exact quiet24 (HIS.out _)))
    go_wp2_with fail
    go_ret
    exact RefPost.err rfl (HS5.out.bl.later (below_drewN (Below.refl _ _) _) HS5.out.room)
set_option maxRecDepth 100000 in
set_option maxHeartbeats 8000000 in
theorem rrow_late (b base : Nat) (k : KN) (vL vA vR vP : Value) (r : RW) (rs : List RGJ) (es : List EVJ) (w : World) (hK : KrAt w b base k vL vA vR vP) (hR : LieAt rgL 2 w base r.ra rs) (hE : LieAt evL 4 w base r.ea es) (hen : es.length = r.en) (henl : r.en ≤ 2000) (hsh : k.shut = false) (he0 : r.err = 0) (hc : es.any closesP = false) (hn : isN r.t = true) (hl : r.t < k.t) :
  Calls Try.prog 35 #[.pointer (some ⟨b, 0, none⟩), .agg (rwC r)] w (RefPost b base w (.error 3)) := by
 obtain ⟨kind, rt, rsp, rsize, ⟨osp, onum, osize, oel, ofl, opr, oect⟩, delay, ra, rn, rc, marked, e0, e1, e2, ea, en, ec, err, smooth⟩ := r
 simp only at hR hE hen henl he0 hn hl ⊢
 subst he0
 have HC := hide hc
 clear hc
 have hbb : base ≤ w.heap.size := Nat.le_of_lt (Nat.lt_of_le_of_lt hK.ge hK.blk.lt)
 have ha : Below w.heap.size w (w.alloc (.cells #[ZI ZQ kind, ZI ZQ rt, ZI ZQ rsp, ZI ZQ rsize, ZI ZQ osp, ZI ZQ onum, ZI ZQ osize, .bool oel, .bool ofl, .bool opr, .bool oect, ZI ZQ delay, .slice ra rn rc, .bool marked, ZI ZQ e0, ZI ZQ e1, ZI ZQ e2, .slice ea en ec, ZI ZQ 0, ZI ZQ smooth] 93)) := (Below.refl _ _).alloc (Nat.le_refl _) _
 have hs0 : RdSt w (w.alloc (.cells #[ZI ZQ kind, ZI ZQ rt, ZI ZQ rsp, ZI ZQ rsize, ZI ZQ osp, ZI ZQ onum, ZI ZQ osize, .bool oel, .bool ofl, .bool opr, .bool oect, ZI ZQ delay, .slice ra rn rc, .bool marked, ZI ZQ e0, ZI ZQ e1, ZI ZQ e2, .slice ea en ec, ZI ZQ 0, ZI ZQ smooth] 93)) b base k vL vA vR vP w.heap.size ⟨kind, rt, rsp, rsize, ⟨osp, onum, osize, oel, ofl, opr, oect⟩, delay, ra, rn, rc, marked, e0, e1, e2, ea, en, ec, 0, smooth⟩ es rs := ⟨hK.later ha, Blk.new _ _ _, hE, hR, FarR.of_below ha hbb⟩
 unfold rwC
 obtain ⟨W1, hW1⟩ : ∃ x, w.alloc (.cells #[ZI ZQ kind, ZI ZQ rt, ZI ZQ rsp, ZI ZQ rsize, ZI ZQ osp, ZI ZQ onum, ZI ZQ osize, .bool oel, .bool ofl, .bool opr, .bool oect, ZI ZQ delay, .slice ra rn rc, .bool marked, ZI ZQ e0, ZI ZQ e1, ZI ZQ e2, .slice ea en ec, ZI ZQ 0, ZI ZQ smooth] 93) = x := ⟨_, rfl⟩
 obtain ⟨R, hRr⟩ : ∃ x, w.heap.size = x := ⟨_, rfl⟩
 go_enter Try.func35, Try.ntmps35
 go_upto_region 1 with (fail)
 rw [hW1, hRr] at hs0
 try rw [hW1]
 try rw [hRr]
 have HS := hide hs0
 have r1 := hs0.row.cell 1
 have r17 := hs0.row.cell 17
 have r18 := hs0.row.cell 18
 have k15 := hs0.kn.blk.cell 15
 simp only [rwC, krC, hsh, ZG, ZH, ZJ] at r1 r17 r18 k15
 clear hs0 hW1 hRr ha hR hE hK
 have HEN := hide hen
 clear hen
 go_upto_region 5 with (fail)
 go_cut [5] (fun s5 wx => (∃ c, s5 = .bool c) ∧ RdSt w wx b base k vL vA vR vP R ⟨kind, rt, rsp, rsize, ⟨osp, onum, osize, oel, ofl, opr, oect⟩, delay, ra, rn, rc, marked, e0, e1, e2, ea, en, ec, 0, smooth⟩ es rs)
 case first =>
  by_cases h1 : en = 1
  ·subst h1
   obtain ⟨e, he⟩ : ∃ e, es[0]? = some e := ⟨_, List.getElem?_eq_getElem (by rw [HEN.out]; exact Nat.zero_lt_one)⟩
   obtain ⟨g, o, hea, hg, hz⟩ := HS.out.ev.at he
   simp only at hea
   rw [hea] at r17
   have z0 := hz 0 _ (by omega) rfl
   have z3 := hz 3 _ (by omega) rfl
   simp only [Nat.zero_mul, Nat.add_zero] at z0 z3
   obtain ⟨ek, hek⟩ : ∃ y, e.kind = y := ⟨_, rfl⟩
   obtain ⟨n3, hn3⟩ : ∃ y, e.n = y := ⟨_, rfl⟩
   rw [hek] at z0
   rw [hn3] at z3
   clear hz hek hn3 hea he
   cases h6 : (ek == 6) with
   | true =>
    have h6d : decide (ek = 6) = true := by simpa using h6
    cases h0 : (n3 == 0) with
    | true =>
     have h0d : decide (n3 = 0) = true := by simpa using h0
     go_quiet (fail)
     go_wp2_with fail
     go_meet
     exact ⟨⟨_, rfl⟩, HS.out.drewN _⟩
    | false =>
     have h0d : decide (n3 = 0) = false := by simpa using h0
     go_quiet (fail)
     go_wp2_with fail
     go_meet
     exact ⟨⟨_, rfl⟩, HS.out.drewN _⟩
   | false =>
    have h6d : decide (ek = 6) = false := by simpa using h6
    go_quiet (fail)
    go_wp2_with fail
    go_meet
    exact ⟨⟨_, rfl⟩, HS.out.drewN _⟩
  ·have h1i : ¬ (en : Int) = 1 := by omega
   have h1b : ((en : Int) == 1) = false := by simpa using h1i
   have h1d : decide ((en : Int) = 1) = false := decide_eq_false h1i
   clear h1
   go_quiet (fail)
   go_wp2_with fail
   go_meet
   exact ⟨⟨_, rfl⟩, HS.out.drewN _⟩
 case rest =>
  obtain ⟨⟨c, rfl⟩, hs⟩ := hcut
  have r1 := hs.row.cell 1
  have r17 := hs.row.cell 17
  have r18 := hs.row.cell 18
  simp only [rwC, ZG, ZH, ZJ] at r1 r17 r18
  have HS5 := hide hs
  clear hs HS k15
  go_wp2_with fail
  have hc : Hid ((es.drop 0).any closesP = false) := by rw [List.drop_zero]; exact HC.out
  go_loopg [6] en (fun kx s6 wr => wc = wr ∧ ∃ i : Nat, s6 = ZI ZQ i ∧ i ≤ en ∧ en - i ≤ kx ∧ Hid ((es.drop i).any closesP = false))
  case atStart => exact ⟨rfl, 0, rfl, by omega, by omega, hc⟩
  case round =>
   obtain ⟨rfl, i, rfl, hi, hkx, hany⟩ := hrel
   by_cases hlt : i < en
   ·have hir : i < es.length := by rw [HEN.out]; exact hlt
    obtain ⟨e, he⟩ : ∃ e, es[i]? = some e := ⟨_, List.getElem?_eq_getElem hir⟩
    obtain ⟨g, o, hea, hg, hz⟩ := HS5.out.ev.at he
    simp only at hea
    rw [hea] at r17
    have z0 := hz 0 _ (by omega) rfl
    simp only [Nat.add_zero] at z0
    have HA : Hid ((es.drop i).any closesP = (closesP e || (es.drop (i + 1)).any closesP)) := any_drop7 he
    have hin : (i : Int) < (en : Int) := by omega
    obtain ⟨ek, hek⟩ : ∃ y, e.kind = y := ⟨_, rfl⟩
    have HCL : Hid (closesP e = (ek == 6)) := by show _ = _; unfold closesP; rw [hek]
    rw [hek] at z0
    have HANY := hide hany.out
    clear hany hir he hz hek hea
    cases h6 : (ek == 6) with
    | true =>
     have h6p : ek = 6 := by simpa using h6
     subst h6p
     exact absurd HANY.out (by rw [HA.out, HCL.out]; simp)
    | false =>
     have h6p : ¬ ek = 6 := by simpa using h6
     have HC2 : Hid ((ek == 6) = false) := h6
     go_wp2_with fail
     go_roundg (en - (i + 1))
     case rel => exact ⟨rfl, i + 1, by go_num, by omega, by omega, by show _ = _; have := HANY.out; rw [HA.out, HCL.out, HC2.out] at this; simpa using this⟩
     case measure => omega
   ·obtain rfl : en = i := by omega
    have hin : ¬ (en : Int) < (en : Int) := by omega
    have HIS := hide (fun W => ris_any rt W)
    rw [hn] at HIS
    have k10 := HS5.out.kn.blk.cell 10
    simp only [krC, ZG, ZH, ZJ] at k10
    have hld : decide (rt < k.t) = true := decide_eq_true hl
    clear hany hn hl
    go_upto_region 16 with (fail)
    go_quiet ((go_at_call 65; with_reducible exact quiet24 (HIS.out _)))
    go_wp2_with fail
    go_ret
    exact RefPost.err rfl (HS5.out.bl.later (below_drewN (Below.refl _ _) _) HS5.out.room)
end Go.Proofs.Ytidfngcclbhoaaa

namespace Go.Proofs.Ytidfngcclbhoaaa
open List renaming getElem?_toArray → ZG, getElem?_cons_zero → ZH, getElem?_cons_succ → ZJ
open Go.Value renaming int → ZI
open Go.IntKind renaming i64 → ZQ
set_option linter.unusedSimpArgs false
set_option linter.unusedVariables false
open Go.RowKit Go.Shelf
theorem any_drop8 {es : List EVJ} {i : Nat} {e : EVJ} (h : es[i]? = some e) : (es.drop i).any closesP = (closesP e || (es.drop (i + 1)).any closesP) := by
 have hi : i < es.length := (List.getElem?_eq_some_iff.1 h).1
 rw [List.drop_eq_getElem_cons hi]
 rw [List.getElem?_eq_getElem hi] at h
 rw [Option.some.inj h]
 rfl
set_option maxRecDepth 100000 in
set_option maxHeartbeats 8000000 in
theorem rrow_goes (b base : Nat) (k : KN) (vL vA vR vP : Value) (r : RW) (rs : List RGJ) (es : List EVJ) (w : World) (hK : KrAt w b base k vL vA vR vP) (hR : LieAt rgL 2 w base r.ra rs) (hE : LieAt evL 4 w base r.ea es) (hen : es.length = r.en) (henl : r.en ≤ 2000) (hsh : k.shut = false) (he0 : r.err = 0) (hc : es.any closesP = false) (hn : isN r.t = true) (hl : ¬ r.t < k.t) (res : Except Int KN) (hD : ∀ W, KrAt W b base { k with t := r.t } vL vA vR vP → LieAt rgL 2 W base r.ra rs → LieAt evL 4 W base r.ea es → Calls Try.prog 66 #[.pointer (some ⟨b, 0, none⟩), .agg (rwC r)] W (RefPost b base W res)) :
  Calls Try.prog 35 #[.pointer (some ⟨b, 0, none⟩), .agg (rwC r)] w (RefPost b base w res) := by
 obtain ⟨kind, rt, rsp, rsize, ⟨osp, onum, osize, oel, ofl, opr, oect⟩, delay, ra, rn, rc, marked, e0, e1, e2, ea, en, ec, err, smooth⟩ := r
 simp only at hR hE hen henl he0 hn hl hD ⊢
 subst he0
 have HC := hide hc
 clear hc
 have hbb : base ≤ w.heap.size := Nat.le_of_lt (Nat.lt_of_le_of_lt hK.ge hK.blk.lt)
 have ha : Below w.heap.size w (w.alloc (.cells #[ZI ZQ kind, ZI ZQ rt, ZI ZQ rsp, ZI ZQ rsize, ZI ZQ osp, ZI ZQ onum, ZI ZQ osize, .bool oel, .bool ofl, .bool opr, .bool oect, ZI ZQ delay, .slice ra rn rc, .bool marked, ZI ZQ e0, ZI ZQ e1, ZI ZQ e2, .slice ea en ec, ZI ZQ 0, ZI ZQ smooth] 93)) := (Below.refl _ _).alloc (Nat.le_refl _) _
 have hs0 : RdSt w (w.alloc (.cells #[ZI ZQ kind, ZI ZQ rt, ZI ZQ rsp, ZI ZQ rsize, ZI ZQ osp, ZI ZQ onum, ZI ZQ osize, .bool oel, .bool ofl, .bool opr, .bool oect, ZI ZQ delay, .slice ra rn rc, .bool marked, ZI ZQ e0, ZI ZQ e1, ZI ZQ e2, .slice ea en ec, ZI ZQ 0, ZI ZQ smooth] 93)) b base k vL vA vR vP w.heap.size ⟨kind, rt, rsp, rsize, ⟨osp, onum, osize, oel, ofl, opr, oect⟩, delay, ra, rn, rc, marked, e0, e1, e2, ea, en, ec, 0, smooth⟩ es rs := ⟨hK.later ha, Blk.new _ _ _, hE, hR, FarR.of_below ha hbb⟩
 unfold rwC
 obtain ⟨W1, hW1⟩ : ∃ x, w.alloc (.cells #[ZI ZQ kind, ZI ZQ rt, ZI ZQ rsp, ZI ZQ rsize, ZI ZQ osp, ZI ZQ onum, ZI ZQ osize, .bool oel, .bool ofl, .bool opr, .bool oect, ZI ZQ delay, .slice ra rn rc, .bool marked, ZI ZQ e0, ZI ZQ e1, ZI ZQ e2, .slice ea en ec, ZI ZQ 0, ZI ZQ smooth] 93) = x := ⟨_, rfl⟩
 obtain ⟨R, hRr⟩ : ∃ x, w.heap.size = x := ⟨_, rfl⟩
 go_enter Try.func35, Try.ntmps35
 go_upto_region 1 with (fail)
 rw [hW1, hRr] at hs0
 try rw [hW1]
 try rw [hRr]
 have HS := hide hs0
 have r1 := hs0.row.cell 1
 have r17 := hs0.row.cell 17
 have r18 := hs0.row.cell 18
 have k15 := hs0.kn.blk.cell 15
 simp only [rwC, krC, hsh, ZG, ZH, ZJ] at r1 r17 r18 k15
 clear hs0 hW1 hRr ha hR hE hK
 have HEN := hide hen
 clear hen
 go_upto_region 5 with (fail)
 go_cut [5] (fun s5 wx => (∃ c, s5 = .bool c) ∧ RdSt w wx b base k vL vA vR vP R ⟨kind, rt, rsp, rsize, ⟨osp, onum, osize, oel, ofl, opr, oect⟩, delay, ra, rn, rc, marked, e0, e1, e2, ea, en, ec, 0, smooth⟩ es rs)
 case first =>
  by_cases h1 : en = 1
  ·subst h1
   obtain ⟨e, he⟩ : ∃ e, es[0]? = some e := ⟨_, List.getElem?_eq_getElem (by rw [HEN.out]; exact Nat.zero_lt_one)⟩
   obtain ⟨g, o, hea, hg, hz⟩ := HS.out.ev.at he
   simp only at hea
   rw [hea] at r17
   have z0 := hz 0 _ (by omega) rfl
   have z3 := hz 3 _ (by omega) rfl
   simp only [Nat.zero_mul, Nat.add_zero] at z0 z3
   obtain ⟨ek, hek⟩ : ∃ y, e.kind = y := ⟨_, rfl⟩
   obtain ⟨n3, hn3⟩ : ∃ y, e.n = y := ⟨_, rfl⟩
   rw [hek] at z0
   rw [hn3] at z3
   clear hz hek hn3 hea he
   cases h6 : (ek == 6) with
   | true =>
    have h6d : decide (ek = 6) = true := by simpa using h6
    cases h0 : (n3 == 0) with
    | true =>
     have h0d : decide (n3 = 0) = true := by simpa using h0
     go_quiet (fail)
     go_wp2_with fail
     go_meet
     exact ⟨⟨_, rfl⟩, HS.out.drewN _⟩
    | false =>
     have h0d : decide (n3 = 0) = false := by simpa using h0
     go_quiet (fail)
     go_wp2_with fail
     go_meet
     exact ⟨⟨_, rfl⟩, HS.out.drewN _⟩
   | false =>
    have h6d : decide (ek = 6) = false := by simpa using h6
    go_quiet (fail)
    go_wp2_with fail
    go_meet
    exact ⟨⟨_, rfl⟩, HS.out.drewN _⟩
  ·have h1i : ¬ (en : Int) = 1 := by omega
   have h1b : ((en : Int) == 1) = false := by simpa using h1i
   have h1d : decide ((en : Int) = 1) = false := decide_eq_false h1i
   clear h1
   go_quiet (fail)
   go_wp2_with fail
   go_meet
   exact ⟨⟨_, rfl⟩, HS.out.drewN _⟩
 case rest =>
  obtain ⟨⟨c, rfl⟩, hs⟩ := hcut
  have r1 := hs.row.cell 1
  have r17 := hs.row.cell 17
  have r18 := hs.row.cell 18
  simp only [rwC, ZG, ZH, ZJ] at r1 r17 r18
  have HS5 := hide hs
  clear hs HS k15
  go_wp2_with fail
  have hc : Hid ((es.drop 0).any closesP = false) := by rw [List.drop_zero]; exact HC.out
  go_loopg [6] en (fun kx s6 wr => wc = wr ∧ ∃ i : Nat, s6 = ZI ZQ i ∧ i ≤ en ∧ en - i ≤ kx ∧ Hid ((es.drop i).any closesP = false))
  case atStart => exact ⟨rfl, 0, rfl, by omega, by omega, hc⟩
  case round =>
   obtain ⟨rfl, i, rfl, hi, hkx, hany⟩ := hrel
   by_cases hlt : i < en
   ·have hir : i < es.length := by rw [HEN.out]; exact hlt
    obtain ⟨e, he⟩ : ∃ e, es[i]? = some e := ⟨_, List.getElem?_eq_getElem hir⟩
    obtain ⟨g, o, hea, hg, hz⟩ := HS5.out.ev.at he
    simp only at hea
    rw [hea] at r17
    have z0 := hz 0 _ (by omega) rfl
    simp only [Nat.add_zero] at z0
    have HA : Hid ((es.drop i).any closesP = (closesP e || (es.drop (i + 1)).any closesP)) := any_drop8 he
    have hin : (i : Int) < (en : Int) := by omega
    obtain ⟨ek, hek⟩ : ∃ y, e.kind = y := ⟨_, rfl⟩
    have HCL : Hid (closesP e = (ek == 6)) := by show _ = _; unfold closesP; rw [hek]
    rw [hek] at z0
    have HANY := hide hany.out
    clear hany hir he hz hek hea
    cases h6 : (ek == 6) with
    | true =>
     have h6p : ek = 6 := by simpa using h6
     subst h6p
     exact absurd HANY.out (by rw [HA.out, HCL.out]; simp)
    | false =>
     have h6p : ¬ ek = 6 := by simpa using h6
     have HC2 : Hid ((ek == 6) = false) := h6
     go_wp2_with fail
     go_roundg (en - (i + 1))
     case rel => exact ⟨rfl, i + 1, by go_num, by omega, by omega, by show _ = _; have := HANY.out; rw [HA.out, HCL.out, HC2.out] at this; simpa using this⟩
     case measure => omega
   ·obtain rfl : en = i := by omega
    have hin : ¬ (en : Int) < (en : Int) := by omega
    have HIS := hide (fun W => ris_any rt W)
    rw [hn] at HIS
    have k10 := HS5.out.kn.blk.cell 10
    simp only [krC, ZG, ZH, ZJ] at k10
    have hld : decide (rt < k.t) = false := decide_eq_false (by omega)
    have HD := hide hD
    clear hany hn hl hD
    go_upto_region 16 with (fail)
    go_quiet ((go_at_call 65; with_reducible exact quiet24 (HIS.out _)))
    have HS6 := hide (HS5.out.drewN nq)
    have r1 := HS6.out.row.cell 1
    have k10 := HS6.out.kn.blk.cell 10
    have f10 := HS6.out.kn.blk.frozen 10
    simp only [rwC, krC, ZG, ZH, ZJ] at r1 k10
    obtain ⟨W6, hW6⟩ : ∃ x, wc.drewN nq = x := ⟨_, rfl⟩
    rw [hW6] at HS6 r1 k10 f10
    rw [hW6]
    have HS7 := hide (HS6.out.put 10 (ZI ZQ rt) { k with t := rt } rfl rfl rfl rfl)
    clear hW6 hld r17 r18 HIS
    go_wp2_with (refine wpList_load_row rfl 93 (.tmp 3) rfl R rfl 93 (rwC ⟨kind, rt, rsp, rsize, ⟨osp, onum, osize, oel, ofl, opr, oect⟩, delay, ra, rn, rc, marked, e0, e1, e2, ea, en, ec, 0, smooth⟩) (0, 0) _ HS7.out.row Try.underlying93 rfl rrow_size ?_)
    with_reducible refine (HD.out _ HS7.out.kn HS7.out.rg HS7.out.ev).mono ?_
    intro e9 W9 h9
    cases res with
    | error n =>
     obtain ⟨rfl, hf⟩ := h9
     go_wp2_with fail
     go_ret
     exact RefPost.err rfl (HS7.out.bl.trans hf)
    | ok k3 =>
     obtain ⟨rfl, vL3, vA3, vR3, vP3, hk3, hf⟩ := h9
     go_wp2_with fail
     go_ret
     exact RefPost.ok rfl hk3 (HS7.out.bl.trans hf)
end Go.Proofs.Ytidfngcclbhoaaa
