/-
  The law EventSpoilt: its walk.
-/
import Derived.Test.YtbpeienllhbffaaDoorEvPartsLaw
namespace Go.Proofs.YtbpeienllhbffaaDoor
set_option linter.unusedSimpArgs false
set_option linter.unusedVariables false
open Go.RowKit Go.Shelf
/-- The lines that are none. -/
def oddL : List (List UInt8) := [[], [32], [97, 99, 107, 101, 100], [97, 99, 107, 101, 100, 32, 48], [97, 99, 107, 101, 100, 32, 48, 32, 48], [97, 99, 107, 101, 100, 32, 48, 32, 48, 32, 49, 32, 49], [97, 99, 107, 101, 100, 32, 51, 32, 49, 32, 49], [97, 99, 107, 101, 100, 32, 32, 48, 32, 49, 32, 49], [97, 99, 107, 101, 100, 32, 48, 32, 49, 32, 48], [108, 111, 115, 116, 32, 48, 32, 49, 32, 54, 53, 53, 51, 54], [108, 111, 115, 116, 32, 48, 32, 48, 49, 32, 49], [108, 111, 115, 116, 32, 48, 32, 45, 49, 32, 49], [112, 114, 111, 98, 101, 32, 48, 32, 48], [112, 114, 111, 98, 101, 32, 48, 32, 51], [119, 105, 110, 100, 111, 119, 32, 50, 51, 57, 57], [119, 105, 110, 100, 111, 119, 32, 49, 48, 57, 57, 53, 49, 49, 54, 50, 55, 55, 55, 55], [119, 105, 110, 100, 111, 119], [99, 111, 108, 108, 97, 112, 115, 101], [99, 111, 108, 108, 97, 112, 115, 101, 32], [32, 99, 111, 108, 108, 97, 112, 115, 101, 32, 48], [99, 111, 108, 108, 97, 112, 115, 101, 32, 51], [99, 108, 111, 115, 101, 100, 32, 48], [99, 108, 111, 115, 101, 100, 32, 49, 48, 48, 48], [67, 108, 111, 115, 101, 100, 32, 49], [99, 108, 111, 115, 101, 100, 32, 49, 13], [108, 111, 115, 116, 32, 48, 32, 57, 48, 48, 55, 49, 57, 57, 50, 53, 52, 55, 52, 48, 57, 57, 50, 32, 49], [108, 111, 115, 116, 32, 48, 32, 49, 50, 51, 52, 53, 54, 55, 56, 57, 48, 49, 50, 51, 52, 53, 54, 55, 32, 49]]
theorem odd_none : ∀ x ∈ oddL, readE (mkB x) = none ∧ 10 ∉ x ∧ x.length ≤ 30 := by decide +kernel
def oddA : Array Value := (oddL.map fun x => Value.string (mkB x)).toArray
/-- The lines that are none, in memory. -/
def OddAt (w : World) (b : Nat) : Prop := b < w.heap.size ∧ ∀ (j : Nat) x, oddL[j]? = some x → w.cell? ⟨b, j, none⟩ = some (.string (mkB x))
theorem odd_new (w : World) : OddAt (w.alloc (.cells oddA 9)) w.heap.size := by
  have hB := Blk.new w 9 oddA
  refine ⟨hB.lt, fun j x hx => ?_⟩
  rw [hB.cell]
  unfold oddA
  rw [List.getElem?_toArray, List.getElem?_map, hx]
  rfl
theorem OddAt.later {w w' : World} {b : Nat} (h : OddAt w b) (hb : Below w.heap.size w w') : OddAt w' b := ⟨Nat.lt_of_lt_of_le h.1 hb.size, fun j x hx => (hb.cell (p := ⟨b, j, none⟩) h.1).trans (h.2 j x hx)⟩
theorem EvsAt.take {w : World} {a : Option Addr} {es : List EV} (h : EvsAt w a es) (k : Nat) : EvsAt w a (es.take k) := by
  rcases h with rfl | ⟨xb, xo, rfl, hl, hc⟩
  · exact .inl (by simp)
  · refine .inr ⟨xb, xo, rfl, hl, fun i e hi => ?_⟩
    rw [List.getElem?_take] at hi
    split at hi
    · exact hc i e hi
    · cases hi
theorem EvsAt.drop {w : World} {xb xo : Nat} {es : List EV} (h : EvsAt w (some ⟨xb, xo, none⟩) es) (k : Nat) : EvsAt w (some ⟨xb, xo + k * 4, none⟩) (es.drop k) := by
  rcases h with rfl | ⟨yb, yo, hy, hl, hc⟩
  · exact .inl (by simp)
  · cases hy
    refine .inr ⟨xb, xo + k * 4, rfl, hl, fun i e hi => ?_⟩
    rw [List.getElem?_drop] at hi
    have := hc (k + i) e hi
    rw [show xo + (k + i) * 4 = xo + k * 4 + i * 4 by omega] at this
    exact this
theorem made_own (a : Option Addr) (len cap : Nat) (rs : List RE) (w : World) (hz : ResAt w a rs) (hlen : rs.length = len) (h300 : len ≤ 300) :
    Calls Tryd.prog 18 #[.slice a len cap] w fun e w' => ∃ A c, e = .returned (.slice A len c) ∧ EvsAt w' A (madeE rs) ∧ len ≤ c ∧ ((A = none ∧ c = 0 ∧ len = 0) ∨ ∃ g, A = some ⟨g, 0, none⟩) ∧ c ≤ maxLen ∧ Below w.heap.size w w' := by
  refine (evmade_any a len cap rs w hz hlen (by omega)).mono ?_
  rintro e w' ⟨v, rfl, hown, hb⟩
  rw [List.take_of_length_le (by omega)] at hown
  have hl : (madeE rs).length = len := by rw [madeE_length]; exact hlen
  rw [hl] at hown
  obtain ⟨A, c, rfl⟩ := own_slice6 hown
  refine ⟨A, c, rfl, own_evs hl hown, ?_⟩
  rcases own_split hown with ⟨h0, h00, _⟩ | ⟨k, cp, cur, e, _, hk, hcc, hm, _⟩
  · injection h0 with h1 h2 h3
    exact ⟨by omega, .inl ⟨h1, h3, h00⟩, by rw [h3]; exact Nat.zero_le _, hb⟩
  · cases e
    exact ⟨hcc, .inr ⟨k, rfl⟩, hm, hb⟩
set_option maxRecDepth 100000 in
set_option maxHeartbeats 8000000 in
theorem spoilt_law (a : Option Addr) (la ca : Nat) (ra : List RE) (at_ which : Int) (w : World) (hE : Env w) (hza : ResAt w a ra) (hla : ra.length = la) (hma : la ≤ 9223372036854775807) (hca : la ≤ ca) (hna : a = none → ca = 0)
    (ha0 : -9223372036854775808 ≤ at_) (ha1 : at_ ≤ 9223372036854775807) (hw0 : -9223372036854775808 ≤ which) (hw1 : which ≤ 9223372036854775807) :
    Calls Tryd.prog 6 #[.slice a la ca, .int .i64 at_, .int .i64 which] w fun x w' => x = .returned (.bool true) ∧ Below w.heap.size w w' := by
  have HE := hide hE
  obtain ⟨N, hNi, hN0, hN1⟩ : ∃ L : Nat, (if (60 : Int) < (la : Int) then (60 : Int) else (la : Int)) = (L : Int) ∧ L ≤ la ∧ L ≤ 60 := ⟨min la 60, by split <;> omega, by omega, by omega⟩
  have hNm : min (la : Int) 60 = (N : Int) := by rw [← hNi]; split <;> omega
  have hNt : (min (la : Int) 60).toNat = N := by rw [hNm]; rfl
  have HZA := hide (hza.take N)
  have hra : (ra.take N).length = N := by rw [List.length_take, hla]; omega
  obtain ⟨rs, hrs⟩ : ∃ x, ra.take N = x := ⟨_, rfl⟩
  rw [hrs] at hra HZA
  have HMA := hide (fun W hW => made_own a N ca rs W hW hra (by omega))
  have hes1 := made_all rs
  have hes2 : (madeE rs).length = N := by rw [madeE_length]; exact hra
  have hes3 := made_small rs
  obtain ⟨es, hes⟩ : ∃ x, madeE rs = x := ⟨_, rfl⟩
  rw [hes] at HMA hes1 hes2 hes3
  have HK := hide (fun W => bring_any at_ ((N : Int) + 1) W (by omega) (by omega) ha0 ha1)
  have hk2 := Int.emod_nonneg at_ (show ((N : Int) + 1) ≠ 0 by omega)
  have hk3 := Int.emod_lt_of_pos at_ (show (0 : Int) < (N : Int) + 1 by omega)
  obtain ⟨k, hk⟩ : ∃ k : Nat, at_ % ((N : Int) + 1) = (k : Int) := ⟨(at_ % ((N : Int) + 1)).toNat, by omega⟩
  rw [hk] at HK hk2 hk3
  have hkN : k ≤ N := by omega
  have HJ := hide (fun W => bring_any which 27 W (by omega) (by omega) hw0 hw1)
  have hj2 := Int.emod_nonneg which (show (27 : Int) ≠ 0 by omega)
  have hj3 := Int.emod_lt_of_pos which (show (0 : Int) < 27 by omega)
  obtain ⟨j, hj⟩ : ∃ k : Nat, which % 27 = (k : Int) := ⟨(which % 27).toNat, by omega⟩
  rw [hj] at HJ hj2 hj3
  have hj27 : j < 27 := by omega
  obtain ⟨o, ho⟩ : ∃ o, oddL[j]? = some o := ⟨_, List.getElem?_eq_getElem (show j < oddL.length from hj27)⟩
  obtain ⟨ho1, ho2, ho3⟩ := odd_none o (List.mem_of_getElem? ho)
  have ht1 : (es.take k).all okEV = true := by rw [List.all_eq_true] at hes1 ⊢; exact fun x hx => hes1 x (List.mem_of_mem_take hx)
  have ht2 : (es.take k).length = k := by rw [List.length_take, hes2]; omega
  have ht3 : ∀ e ∈ es.take k, e.small := fun e he => hes3 e (List.mem_of_mem_take he)
  have hd1 : (es.drop k).all okEV = true := by rw [List.all_eq_true] at hes1 ⊢; exact fun x hx => hes1 x (List.mem_of_mem_drop hx)
  have hd2 : (es.drop k).length = N - k := by rw [List.length_drop, hes2]
  have hd3 : ∀ e ∈ es.drop k, e.small := fun e he => hes3 e (List.mem_of_mem_drop he)
  have hta := text_of ht1 (by omega)
  have htb := text_of hd1 (by omega)
  have hz1 : (mkB (textE (es.take k))).size ≤ 4800 := by rw [Lib.size_eq, mkB_data]; have := text_len _ ht3; omega
  have hz2 : (mkB (textE (es.drop k))).size ≤ 4800 := by rw [Lib.size_eq, mkB_data]; have := text_len _ hd3; omega
  have hz3 : (mkB o).size ≤ 30 := by rw [Lib.size_eq, mkB_data]; exact ho3
  have hp := parse_spoilt ht1 (by omega) ho1 ho2 (textE (es.drop k)) (by
    rw [Lib.size_eq, mkB_data] at hz1 hz2
    rw [List.length_append, List.length_append, List.length_cons]
    omega)
  have hcat : ((mkB (textE (es.take k)) ++ mkB o) ++ (⟨#[10]⟩ : ByteArray)) ++ mkB (textE (es.drop k)) = mkB (textE (es.take k) ++ (o ++ 10 :: textE (es.drop k))) := ba_eq (by
    rw [ba_app, ba_app, ba_app, mkB_data, mkB_data, mkB_data, mkB_data]
    simp)
  rw [← hcat, ht2] at hp
  obtain ⟨xs, hxs⟩ : ∃ x, es.take k = x := ⟨_, rfl⟩
  obtain ⟨ys, hys⟩ : ∃ x, es.drop k = x := ⟨_, rfl⟩
  rw [hxs] at hta ht2 ht3 hz1 hp
  rw [hys] at htb hd2 hd3 hz2 hp
  obtain ⟨s, hs⟩ : ∃ x, mkB (textE xs) = x := ⟨_, rfl⟩
  obtain ⟨t, ht⟩ : ∃ x, mkB (textE ys) = x := ⟨_, rfl⟩
  obtain ⟨O, hO⟩ : ∃ x, mkB o = x := ⟨_, rfl⟩
  rw [hs] at hta hz1 hp
  rw [ht] at htb hz2 hp
  rw [hO] at hz3 hp
  have HTA := hide (fun A c W hW hA => evtext_any A c xs W hW hA ht3 (by omega))
  have HTB := hide (fun A c W hW hA => evtext_any A c ys W hW hA hd3 (by omega))
  rw [hta, ht2] at HTA
  rw [htb, hd2] at HTB
  have hq1 : (s ++ O).size ≤ 4830 := by rw [ByteArray.size_append]; omega
  obtain ⟨y1, hy1⟩ : ∃ x, s ++ O = x := ⟨_, rfl⟩
  rw [hy1] at hp hq1
  have hq2 : (y1 ++ (⟨#[10]⟩ : ByteArray)).size ≤ 4831 := by rw [ByteArray.size_append]; have : (⟨#[10]⟩ : ByteArray).size = 1 := rfl; omega
  obtain ⟨y2, hy2⟩ : ∃ x, y1 ++ (⟨#[10]⟩ : ByteArray) = x := ⟨_, rfl⟩
  rw [hy2] at hp hq2
  have hq3 : (y2 ++ t).size ≤ 9631 := by rw [ByteArray.size_append]; omega
  obtain ⟨y3, hy3⟩ : ∃ x, y2 ++ t = x := ⟨_, rfl⟩
  rw [hy3] at hp hq3
  have HP := hide (fun W hW => parse_any y3 W hW)
  rw [hp] at HP
  simp only [List.length_nil] at HP
  have HO := hide ho
  have HOO := hide hO
  have HXS := hide hxs
  have HYS := hide hys
  have hkk : (k : Int) ≤ (N : Int) := by omega
  have hk0 : (0 : Int) ≤ (k : Int) := by omega
  have hj0 : (0 : Int) ≤ (j : Int) := by omega
  have hji : (j : Int) < 27 := by omega
  have hNk : ((N : Int) - (k : Int)).toNat = N - k := by omega
  clear hE hza hla hra hrs hes1 hes2 hes3 hes hk2 hk3 hk hj2 hj3 hj ho ho1 ho2 ho3 ht1 ht2 ht3 hd1 hd3 hta htb hp hcat hxs hys hs ht hO ha0 ha1 hw0 hw1
  go_enter Tryd.func6, Tryd.ntmps6
  go_wp2_with fail
  refine (HMA.out _ HZA.out).mono ?_
  rintro x1 w1 ⟨A, c, rfl, hA, hc, hform, hcm, hb1⟩
  have HE1 := hide (HE.out.later hb1)
  have HA1 := hide hA
  have HW1 := hide hb1
  have HF := hide hform
  clear hA hb1 HMA HZA HE hform
  go_wp2_with fail
  refine (HK.out _).mono ?_
  rintro x2 w2 ⟨rfl, rfl⟩
  clear HK
  have hal : Below w1.heap.size w1 (w1.alloc (.cells oddA 9)) := (Below.refl _ _).alloc (Nat.le_refl _) _
  have HE2 := hide (HE1.out.later hal)
  have HA2 := hide (HA1.out.later hal)
  have HO2 := hide (odd_new w1)
  have HW2 := hide (below2 HW1.out hal)
  clear hal HE1 HA1
  go_wp2_with fail
  change Calls _ _ _ (w1.alloc (.cells oddA 9)) _
  obtain ⟨OB, hOB⟩ : ∃ x, w1.heap.size = x := ⟨_, rfl⟩
  obtain ⟨W2, hW2⟩ : ∃ x, w1.alloc (.cells oddA 9) = x := ⟨_, rfl⟩
  rw [hOB, hW2] at HO2
  rw [hW2] at HE2 HA2 HW2
  rw [hOB, hW2]
  clear hOB hW2 HW1
  have hAx : EvsAt W2 A xs := by rw [← HXS.out]; exact HA2.out.take k
  refine (HTA.out A c W2 HE2.out hAx).mono ?_
  rintro x3 w3 ⟨rfl, hb3⟩
  have HE3 := hide (HE2.out.later hb3)
  have HA3 := hide (HA2.out.later hb3)
  have HO3 := hide (HO2.out.later hb3)
  have HW3 := hide (below2 HW2.out hb3)
  clear hAx hb3 HTA HE2 HA2 HO2 HW2
  go_upto_region 5 with (fail)
  go_cut [12, 13] (fun s12 s13 wx => s12 = .string t ∧ s13 = .int .i64 0 ∧ Env wx ∧ OddAt wx OB ∧ Below w.heap.size w wx)
  case first =>
    rcases HF.out with ⟨rfl, rfl, rfl⟩ | ⟨g, rfl⟩
    · obtain rfl : k = 0 := by omega
      rw [Nat.sub_zero] at HTB
      have hyn : EvsAt w3 none ys := .inl (List.eq_nil_of_length_eq_zero (by omega))
      go_wp2_with fail
      refine (HTB.out none 0 w3 HE3.out hyn).mono ?_
      rintro x4 w4 ⟨rfl, hb4⟩
      go_wp2_with fail
      go_meet
      exact ⟨rfl, rfl, HE3.out.later hb4, HO3.out.later hb4, below2 HW3.out hb4⟩
    · have hyn : EvsAt w3 (some ⟨g, k * 4, none⟩) ys := by have := HA3.out.drop k; rw [Nat.zero_add, HYS.out] at this; exact this
      have hyn2 : c = k → EvsAt w3 (some ⟨g, 0, none⟩) ys := fun h => .inl (List.eq_nil_of_length_eq_zero (by omega))
      by_cases hck : c = k
      · have hy3 := hyn2 hck
        obtain rfl : N = k := by omega
        subst hck
        rw [Nat.sub_self] at HTB
        go_wp2_with fail
        refine (HTB.out _ _ w3 HE3.out hy3).mono ?_
        rintro x4 w4 ⟨rfl, hb4⟩
        go_wp2_with fail
        go_meet
        exact ⟨rfl, rfl, HE3.out.later hb4, HO3.out.later hb4, below2 HW3.out hb4⟩
      · have hck2 : ¬ (c : Int) = (k : Int) := by omega
        go_wp2_with fail
        refine (HTB.out _ _ w3 HE3.out hyn).mono ?_
        rintro x4 w4 ⟨rfl, hb4⟩
        go_wp2_with fail
        go_meet
        exact ⟨rfl, rfl, HE3.out.later hb4, HO3.out.later hb4, below2 HW3.out hb4⟩
  case rest =>
    obtain ⟨rfl, rfl, hE4, hO4, hW4⟩ := hcut
    have HE4 := hide hE4
    have HW4 := hide hW4
    have hx0 := hO4.2 j o HO.out
    rw [HOO.out] at hx0
    have hx1 := hO4.1
    clear hE4 hO4 hW4 HTB HE3 HA3 HO3 HW3 HF
    go_wp2_with fail
    refine (HJ.out _).mono ?_
    rintro x5 w5 ⟨rfl, rfl⟩
    clear HJ
    go_wp2_with fail
    refine (HP.out _ HE4.out).mono ?_
    rintro x6 w6 ⟨a6, c6, rfl, _, hb6⟩
    have HE6 := hide (HE4.out.later hb6)
    have HW6 := hide (below2 HW4.out hb6)
    clear hb6 HP HE4 HW4
    go_wp2_with fail
    refine (evworks_any _ HE6.out).mono ?_
    rintro x7 w7 ⟨rfl, hb7⟩
    have HW7 := hide (below2 HW6.out hb7)
    clear hb7 HW6
    go_wp2_with fail
    exact bodyPost_ret (v := .bool true) (by simp [results, Tryd.results6, go_sem]) rfl ⟨rfl, HW7.out⟩
end Go.Proofs.YtbpeienllhbffaaDoor
