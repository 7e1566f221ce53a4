/-
 Layer 24 (judge): what the rates let through: its walk.
-/
import Derived.Test.YtidfngcclbhoaaaJgRep
import Derived.Deep.RegionHeld3
namespace Go.Proofs.Ytidfngcclbhoaaa
open List renaming getElem?_toArray → ZG, getElem?_cons_zero → ZH, getElem?_cons_succ → ZJ
open Go.Value renaming int → ZI
open Go.IntKind renaming i64 → ZQ
set_option linter.unusedSimpArgs false
set_option linter.unusedVariables false
open Go.RowKit Go.Shelf
/-- Where a piece ends. -/
def endP (ps : List PIE) (tz : Int) : Int := match ps with
 | [] => tz
 | q :: _ => min tz q.t
/-- What one piece lets through. -/
def onceP (window smooth d : Int) : Int := addI (upI (5 * window).toNat d.toNat (max 1 (numI (4 * smooth))).toNat) 1
def throughP : List PIE → Int → Int → Int → Int
 | [], _, _, n => n
 | p :: ps, from_, tz, n => throughP ps from_ tz (if max p.t from_ < endP ps tz then addI n (onceP p.window p.smooth (endP ps tz - max p.t from_)) else n)
def okPie (p : PIE) : Prop := (0 ≤ p.t ∧ p.t ≤ 68719476736) ∧ (0 ≤ p.window ∧ p.window ≤ 16777216) ∧ (0 ≤ p.smooth ∧ p.smooth ≤ 9007199254740991)
theorem jmul_int (a b : Int) (ha : 0 ≤ a ∧ a ≤ 9007199254740991) (hb : 0 ≤ b ∧ b ≤ 9007199254740991) (hab : a * b < 18446744073709551616) (w : World) :
  Calls Try.prog 56 #[ZI ZQ a, ZI ZQ b] w fun e w' => e = .returned (ZI ZQ (numI (a * b))) ∧ Below w.heap.size w w' := by
 obtain ⟨x, rfl⟩ : ∃ x : Nat, a = x := ⟨a.toNat, by omega⟩
 obtain ⟨y, rfl⟩ : ∃ x : Nat, b = x := ⟨b.toNat, by omega⟩
 have := jmul_any x y (by omega) (by omega) (Int.ofNat_lt.1 (by rw [Int.natCast_mul]; exact hab)) w
 rw [Int.natCast_mul] at this
 exact this
theorem mulup_int (a b c : Int) (ha : 0 ≤ a ∧ a ≤ 9007199254740991) (hb : 0 ≤ b ∧ b ≤ 9007199254740991) (hc : 1 ≤ c ∧ c ≤ 9007199254740991) (hab : a.toNat * b.toNat < 18446744073709551616) (w : World) :
  Calls Try.prog 84 #[ZI ZQ a, ZI ZQ b, ZI ZQ c] w fun e w' => e = .returned (ZI ZQ (upI a.toNat b.toNat c.toNat)) ∧ Below w.heap.size w w' := by
 obtain ⟨x, rfl⟩ : ∃ x : Nat, a = x := ⟨a.toNat, by omega⟩
 obtain ⟨y, rfl⟩ : ∃ x : Nat, b = x := ⟨b.toNat, by omega⟩
 obtain ⟨z, rfl⟩ : ∃ x : Nat, c = x := ⟨c.toNat, by omega⟩
 simp only [Int.toNat_natCast] at hab ⊢
 exact mulup_any x y z (by omega) (by omega) (by omega) (by omega) hab w
/-- What a round keeps. -/
structure ThSt (w W : World) (X : Nat) (cs : Array Value) : Prop where
 bl : Below w.heap.size w W
 bk : Blk W X 53 cs
theorem ThSt.later {w W W' : World} {X : Nat} {cs : Array Value} (h : ThSt w W X cs) (hb : Below W.heap.size W W') : ThSt w W' X cs := ⟨below2' h.bl hb, (hb.block _ h.bk.lt).trans h.bk⟩
theorem ThSt.drew {w W : World} {X : Nat} {cs : Array Value} (h : ThSt w W X cs) : ThSt w W.drew X cs := h.later (below_drewN (Below.refl _ _) 1)
theorem ThCells {w W : World} {X : Nat} {a b c : Value} (h : ThSt w W X #[a, b, c]) : W.cell? ⟨X, 1, none⟩ = some b ∧ W.cell? ⟨X, 2, none⟩ = some c := ⟨h.bk.cell 1, h.bk.cell 2⟩
set_option maxRecDepth 100000 in
set_option maxHeartbeats 8000000 in
theorem through_any (b base : Nat) (k : KN) (vf vp vd : Value) (from_ tz : Int) (w : World) (hK : KnAt w b base k vf vp vd) (hs : ∀ p ∈ k.pieces, okPie p) (hl : k.pieces.length ≤ 2000) (hf : 0 ≤ from_ ∧ from_ ≤ 68719476736) (ht : 0 ≤ tz ∧ tz ≤ 68719476736) :
  Calls Try.prog 71 #[.pointer (some ⟨b, 0, none⟩), ZI ZQ from_, ZI ZQ tz] w fun e w' => e = .returned (ZI ZQ (throughP k.pieces from_ tz 0)) ∧ Below w.heap.size w w' := by
 have HS := hide hs
 have q27 := hK.blk.cell 27
 have HFL := hide hK.pc
 have hbl := hK.blk.lt
 obtain ⟨A, c, rfl⟩ := own_sl hK.pc
 obtain ⟨l, hfl⟩ : ∃ l, k.pieces = l := ⟨_, rfl⟩
 rw [hfl] at hl HS HFL q27 ⊢
 simp only [knC, hfl, ZG, ZH, ZJ] at q27
 obtain ⟨N, hN⟩ : ∃ N, l.length = N := ⟨_, rfl⟩
 have HN := hide hN
 rw [hN] at hl q27 HFL
 have HFL2 := hide HFL.out
 have HQ := hide q27
 clear hK hs hfl hN HFL q27
 obtain ⟨res, hres⟩ : ∃ r, throughP l from_ tz 0 = r := ⟨_, rfl⟩
 have HR := hide hres
 rw [hres]
 clear hres
 have q27 := HQ.out
 go_enter Try.func71, Try.ntmps71
 go_wp2_with fail
 clear q27
 go_loopg [6, 16] N (fun kx s6 s16 wr => ∃ (i : Nat) (n : Int), s16 = ZI ZQ i ∧ s6 = ZI ZQ n ∧ i ≤ N ∧ N - i ≤ kx ∧ Hid (throughP (l.drop i) from_ tz n = res) ∧ Below w.heap.size w wr)
 case atStart => exact ⟨0, 0, rfl, rfl, by omega, by omega, HR.out, Below.refl _ _⟩
 case round =>
  obtain ⟨i, n, rfl, rfl, hi, hkx, hth, hB⟩ := hrel
  have HB := hide hB
  have HFR := hide (own_below HFL2.out hB)
  have q27 := (hB.cell (p := ⟨b, 27, none⟩) hbl).trans HQ.out
  have hbl2 := Nat.lt_of_lt_of_le hbl hB.size
  clear hB
  by_cases hlt : i < N
  ·have hlti : (i : Int) < (N : Int) := by omega
   have hi0 : (0 : Int) ≤ (i : Int) := by omega
   obtain ⟨p, hp⟩ : ∃ p, l[i]? = some p := ⟨_, List.getElem?_eq_getElem (by rw [HN.out]; exact hlt)⟩
   obtain ⟨g, rfl, hg, hz⟩ := pie_cells HFR.out HN.out hp
   have z0 := hz 0 _ (by omega) rfl
   have z1 := hz 1 _ (by omega) rfl
   have z2 := hz 2 _ (by omega) rfl
   simp only [Nat.add_zero] at z0
   have hpo := HS.out p (List.mem_of_getElem? hp)
   unfold okPie at hpo
   have hdr : l.drop i = p :: l.drop (i + 1) := by
    obtain ⟨h1, h2⟩ := List.getElem?_eq_some_iff.1 hp
    rw [List.drop_eq_getElem_cons h1, h2]
   have hth2 := hth.out
   rw [hdr, throughP] at hth2
   obtain ⟨pt, win, smo⟩ := p
   simp only [] at z0 z1 z2 hpo hth2
   obtain ⟨⟨t0, t1⟩, ⟨n0, n1⟩, ⟨m0, m1⟩⟩ := hpo
   obtain ⟨a, hma⟩ : ∃ a, max pt from_ = a := ⟨_, rfl⟩
   have ha0 : 0 ≤ a ∧ a ≤ 68719476736 := by omega
   -- where the piece ends
   obtain ⟨e, he, he0⟩ : ∃ e, endP (l.drop (i + 1)) tz = e ∧ (-9223372036854775808 ≤ e ∧ e ≤ tz) := by
    refine ⟨_, rfl, ?_⟩
    unfold endP
    split
    ·omega
    ·rename_i q r hq
     have hqm : q ∈ l := List.mem_of_mem_drop (by rw [hq]; simp)
     have := HS.out q hqm
     unfold okPie at this
     omega
   rw [hma, he] at hth2
   have HTH := hide hth2
   have HE := hide he
   have HBA := hide (below2' HB.out ((Below.refl wr.heap.size wr).alloc (Nat.le_refl _) (.cells #[ZI ZQ pt, ZI ZQ win, ZI ZQ smo] 53)))
   have hX := Blk.new wr 53 #[ZI ZQ pt, ZI ZQ win, ZI ZQ smo]
   have hx0 : ThSt w (wr.alloc (.cells #[ZI ZQ pt, ZI ZQ win, ZI ZQ smo] 53)) wr.heap.size #[ZI ZQ pt, ZI ZQ win, ZI ZQ smo] := ⟨HBA.out, hX⟩
   have HX0 := hide hx0
   clear hz hth hth2 hdr he hX hx0 HBA
   by_cases hlast : i + 1 < N
   ·obtain ⟨q, hq⟩ : ∃ q, l[i + 1]? = some q := ⟨_, List.getElem?_eq_getElem (by rw [HN.out]; exact hlast)⟩
    obtain ⟨g', hg', _, hz'⟩ := pie_cells HFR.out HN.out hq
    cases hg'
    have y0 := hz' 0 _ (by omega) rfl
    simp only [Nat.add_zero] at y0
    have heq : min tz q.t = e := by
     rw [← HE.out]
     obtain ⟨h1, h2⟩ := List.getElem?_eq_some_iff.1 hq
     rw [List.drop_eq_getElem_cons h1, h2]
     rfl
    obtain ⟨qt, qw, qs⟩ := q
    simp only [pieL] at y0 heq
    have hlasti : (i : Int) + 1 < (N : Int) := by omega
    clear hz' hq hp HFR
    by_cases hae : a < e
    ·have hth3 := HTH.out
     rw [if_pos hae] at hth3
     have HMU := hide (fun W => jmul_int 4 smo ⟨by omega, by omega⟩ ⟨m0, m1⟩ (by omega) W)
     have hm4 := numI_bd (4 * smo)
     unfold onceP at hth3
     obtain ⟨m4, hm⟩ : ∃ x, numI (4 * smo) = x := ⟨_, rfl⟩
     rw [hm] at HMU hm4 hth3
     obtain ⟨mx, hmx⟩ : ∃ x, max 1 m4 = x := ⟨_, rfl⟩
     rw [hmx] at hth3
     have hmx0 : 1 ≤ mx ∧ mx ≤ 9007199254740991 := by omega
     have hprod : (5 * win).toNat * (e - a).toNat < 18446744073709551616 := by
      have h1 : (5 * win).toNat ≤ 83886080 := by omega
      have h2 : (e - a).toNat ≤ 68719476736 := by omega
      exact Nat.lt_of_le_of_lt (Nat.mul_le_mul h1 h2) (by decide)
     have HUP := hide (fun W => mulup_int (5 * win) (e - a) mx ⟨by omega, by omega⟩ ⟨by omega, by omega⟩ hmx0 hprod W)
     obtain ⟨u, hu⟩ : ∃ x, upI (5 * win).toNat (e - a).toNat mx.toNat = x := ⟨_, rfl⟩
     rw [hu] at HUP hth3
     have HA1 := hide (fun W => jadd_any u 1 W)
     obtain ⟨v, hv⟩ : ∃ x, addI u 1 = x := ⟨_, rfl⟩
     rw [hv] at HA1 hth3
     have HA2 := hide (fun W => jadd_any n v W)
     obtain ⟨z, hzz⟩ : ∃ x, addI n v = x := ⟨_, rfl⟩
     rw [hzz] at HA2 hth3
     have HT3 := hide hth3
     have hw1 : IntKind.i64.wrap (5 * win) = 5 * win := IntWalk.i64_in _ ⟨by omega, by omega⟩
     have hw2 : IntKind.i64.wrap (e - a) = e - a := IntWalk.i64_in _ ⟨by omega, by omega⟩
     clear hth3 hm hu hv hzz hprod HTH HE
     go_wp2_with fail
     have hs := HX0.out
     obtain ⟨W1, hW1⟩ : ∃ x, wr.alloc (.cells #[ZI ZQ pt, ZI ZQ win, ZI ZQ smo] 53) = x := ⟨_, rfl⟩
     obtain ⟨X, hXX⟩ : ∃ x, wr.heap.size = x := ⟨_, rfl⟩
     rw [hW1, hXX] at hs
     rw [hW1, hXX]
     clear hW1 hXX HX0
     have hx := ThCells hs
     go_region_held3 (fun w' => w'.cell? ⟨X, 1, none⟩ = some (ZI ZQ win) ∧ w'.cell? ⟨X, 2, none⟩ = some (ZI ZQ smo)) (first | with_reducible exact ThCells hs | with_reducible exact ThCells hs.drew)
      (first
       | (go_at_call 56; with_reducible refine (HMU.out _).mono ?_; rintro y1 u1 ⟨rfl, hB1⟩; have hs := ThSt.later (by first | with_reducible exact hs | with_reducible exact hs.drew) hB1)
       | (go_at_call 84; with_reducible refine (HUP.out _).mono ?_; rintro y1 u1 ⟨rfl, hB1⟩; have hs := ThSt.later (by first | with_reducible exact hs | with_reducible exact hs.drew) hB1)
       | (go_at_call 55; with_reducible refine (HA1.out _).mono ?_; rintro y1 u1 ⟨rfl, rfl⟩)
       | (go_at_call 55; with_reducible refine (HA2.out _).mono ?_; rintro y1 u1 ⟨rfl, rfl⟩))
     go_wp2_with fail
     go_roundg (N - (i + 1))
     case rel => exact ⟨i + 1, z, by go_num, rfl, by omega, by omega, HT3.out, hs.bl⟩
     case measure => omega
    ·have hth3 := HTH.out
     rw [if_neg hae] at hth3
     have HT3 := hide hth3
     clear hth3 HTH HE
     go_wp2_with fail
     go_roundg (N - (i + 1))
     case rel => exact ⟨i + 1, n, by go_num, rfl, by omega, by omega, HT3.out, HX0.out.bl⟩
     case measure => omega
   ·have hl2 : l.drop (i + 1) = [] := List.drop_eq_nil_of_le (by rw [HN.out]; omega)
    have heq : e = tz := by rw [← HE.out, hl2]; rfl
    subst heq
    have hlasti : ¬ (i : Int) + 1 < (N : Int) := by omega
    clear hl2 hp HFR
    by_cases hae : a < e
    ·have hth3 := HTH.out
     rw [if_pos hae] at hth3
     have HMU := hide (fun W => jmul_int 4 smo ⟨by omega, by omega⟩ ⟨m0, m1⟩ (by omega) W)
     have hm4 := numI_bd (4 * smo)
     unfold onceP at hth3
     obtain ⟨m4, hm⟩ : ∃ x, numI (4 * smo) = x := ⟨_, rfl⟩
     rw [hm] at HMU hm4 hth3
     obtain ⟨mx, hmx⟩ : ∃ x, max 1 m4 = x := ⟨_, rfl⟩
     rw [hmx] at hth3
     have hmx0 : 1 ≤ mx ∧ mx ≤ 9007199254740991 := by omega
     have hprod : (5 * win).toNat * (e - a).toNat < 18446744073709551616 := by
      have h1 : (5 * win).toNat ≤ 83886080 := by omega
      have h2 : (e - a).toNat ≤ 68719476736 := by omega
      exact Nat.lt_of_le_of_lt (Nat.mul_le_mul h1 h2) (by decide)
     have HUP := hide (fun W => mulup_int (5 * win) (e - a) mx ⟨by omega, by omega⟩ ⟨by omega, by omega⟩ hmx0 hprod W)
     obtain ⟨u, hu⟩ : ∃ x, upI (5 * win).toNat (e - a).toNat mx.toNat = x := ⟨_, rfl⟩
     rw [hu] at HUP hth3
     have HA1 := hide (fun W => jadd_any u 1 W)
     obtain ⟨v, hv⟩ : ∃ x, addI u 1 = x := ⟨_, rfl⟩
     rw [hv] at HA1 hth3
     have HA2 := hide (fun W => jadd_any n v W)
     obtain ⟨z, hzz⟩ : ∃ x, addI n v = x := ⟨_, rfl⟩
     rw [hzz] at HA2 hth3
     have HT3 := hide hth3
     have hw1 : IntKind.i64.wrap (5 * win) = 5 * win := IntWalk.i64_in _ ⟨by omega, by omega⟩
     have hw2 : IntKind.i64.wrap (e - a) = e - a := IntWalk.i64_in _ ⟨by omega, by omega⟩
     clear hth3 hm hu hv hzz hprod HTH HE
     go_wp2_with fail
     have hs := HX0.out
     obtain ⟨W1, hW1⟩ : ∃ x, wr.alloc (.cells #[ZI ZQ pt, ZI ZQ win, ZI ZQ smo] 53) = x := ⟨_, rfl⟩
     obtain ⟨X, hXX⟩ : ∃ x, wr.heap.size = x := ⟨_, rfl⟩
     rw [hW1, hXX] at hs
     rw [hW1, hXX]
     clear hW1 hXX HX0
     have hx := ThCells hs
     go_region_held3 (fun w' => w'.cell? ⟨X, 1, none⟩ = some (ZI ZQ win) ∧ w'.cell? ⟨X, 2, none⟩ = some (ZI ZQ smo)) (first | with_reducible exact ThCells hs | with_reducible exact ThCells hs.drew)
      (first
       | (go_at_call 56; with_reducible refine (HMU.out _).mono ?_; rintro y1 u1 ⟨rfl, hB1⟩; have hs := ThSt.later (by first | with_reducible exact hs | with_reducible exact hs.drew) hB1)
       | (go_at_call 84; with_reducible refine (HUP.out _).mono ?_; rintro y1 u1 ⟨rfl, hB1⟩; have hs := ThSt.later (by first | with_reducible exact hs | with_reducible exact hs.drew) hB1)
       | (go_at_call 55; with_reducible refine (HA1.out _).mono ?_; rintro y1 u1 ⟨rfl, rfl⟩)
       | (go_at_call 55; with_reducible refine (HA2.out _).mono ?_; rintro y1 u1 ⟨rfl, rfl⟩))
     go_wp2_with fail
     go_roundg (N - (i + 1))
     case rel => exact ⟨i + 1, z, by go_num, rfl, by omega, by omega, HT3.out, hs.bl⟩
     case measure => omega
    ·have hth3 := HTH.out
     rw [if_neg hae] at hth3
     have HT3 := hide hth3
     clear hth3 HTH HE
     go_wp2_with fail
     go_roundg (N - (i + 1))
     case rel => exact ⟨i + 1, n, by go_num, rfl, by omega, by omega, HT3.out, HX0.out.bl⟩
     case measure => omega
  ·obtain rfl : i = N := by omega
   have hd : l.drop i = [] := List.drop_eq_nil_of_le (by rw [HN.out]; exact Nat.le_refl _)
   have hr := hth.out
   rw [hd, throughP] at hr
   subst hr
   clear hd q27 HR hth
   go_wp2_with fail
   exact bodyPost_ret (v := ZI ZQ n) (by simp [results, Try.results71, go_sem]) rfl ⟨rfl, HB.out⟩
end Go.Proofs.Ytidfngcclbhoaaa
