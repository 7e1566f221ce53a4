/-
  The law EventParts: its walk.
-/
import Derived.Test.YtbpeienllhbffaaDoorEvBackLaw
import Derived.Deep.RegionWith
namespace Go.Proofs.YtbpeienllhbffaaDoor
set_option linter.unusedSimpArgs false
set_option linter.unusedVariables false
open Go.RowKit Go.Shelf
theorem made_few (a : Option Addr) (len cap : Nat) (rs : List RE) (w : World) (hz : ResAt w a rs) (hlen : rs.length = len) (h300 : len ≤ 300) :
    Calls Tryd.prog 18 #[.slice a len cap] w fun e w' => ∃ A c, e = .returned (.slice A len c) ∧ EvsAt w' A (madeE rs) ∧ len ≤ c ∧ (A = none → c = 0) ∧ Below w.heap.size w w' := by
  refine (evmade_any a len cap rs w hz hlen (by omega)).mono ?_
  rintro e w' ⟨v, rfl, hown, hb⟩
  rw [List.take_of_length_le (by omega)] at hown
  have hl : (madeE rs).length = len := by rw [madeE_length]; exact hlen
  rw [hl] at hown
  obtain ⟨A, c, rfl⟩ := own_slice6 hown
  refine ⟨A, c, rfl, own_evs hl hown, ?_, ?_, hb⟩
  · rcases own_split hown with ⟨h0, h00, _⟩ | ⟨k, cp, cur, e, _, hk, hcc, _⟩
    · omega
    · cases e
      exact hcc
  · rcases own_split hown with ⟨h0, h00, _⟩ | ⟨k, cp, cur, e, _, hk, hcc, _⟩
    · intro _
      injection h0 with h1 h2 h3
    · cases e
      intro h
      cases h
theorem ResAt.drew {w : World} {a : Option Addr} {rs : List RE} (h : ResAt w a rs) : ResAt w.drew a rs := h
theorem evs_reads {w : World} {a : Option Addr} {es : List EV} (h : EvsAt w a es) : Reads w w.heap.size 4 a es.length (evsC es) := by
  refine ⟨by unfold evsC; rw [flat_length (fun e : EV => (evC e).toList) 4 evc_length], fun hn => ?_⟩
  rcases h with rfl | ⟨xb, xo, rfl, hl, hc⟩
  · simp at hn
  · refine ⟨_, rfl, hl, fun j u hu => ?_⟩
    have hj : j < es.length * 4 := by
      have := (List.getElem?_eq_some_iff.1 hu).1
      unfold evsC at this
      rw [flat_length (fun e : EV => (evC e).toList) 4 evc_length] at this
      exact this
    obtain ⟨i, r, hr, rfl⟩ : ∃ i r, r < 4 ∧ j = i * 4 + r := ⟨j / 4, j % 4, by omega, by omega⟩
    obtain ⟨e, he⟩ : ∃ e, es[i]? = some e := ⟨_, List.getElem?_eq_getElem (by omega)⟩
    unfold evsC at hu
    rw [flat_cell (fun e : EV => (evC e).toList) 4 evc_length es i r hr, he] at hu
    obtain ⟨z0, z1, z2, z3⟩ := hc i e he
    have hadd : ∀ k, (⟨xb, xo, none⟩ : Addr).add k = ⟨xb, xo + k, none⟩ := fun k => by
      unfold Addr.add
      split
      · rename_i h; rw [h]; rfl
      · rfl
    rw [hadd]
    obtain ⟨e0, e1, e2, e3⟩ := e
    have : r = 0 ∨ r = 1 ∨ r = 2 ∨ r = 3 := by omega
    rcases this with rfl | rfl | rfl | rfl <;> (simp [evC] at hu; subst hu; first | exact z0 | exact z1 | exact z2 | exact z3)
theorem evsC_one (es : List EV) : ∀ u ∈ evsC es, u.oneCell' = true := by
  intro u hu
  obtain ⟨e, _, he⟩ := List.mem_flatMap.1 hu
  simp [evC] at he
  rcases he with rfl | rfl | rfl | rfl <;> rfl
theorem cntE_app (a b : List EV) (k : Int) : cntE (a ++ b) k = cntE a k + cntE b k := by
  unfold cntE
  rw [List.filter_append, List.length_append]
theorem evsC_app (a b : List EV) : evsC (a ++ b) = evsC a ++ evsC b := by unfold evsC; rw [List.flatMap_append]
theorem text_of {es : List EV} (h : es.all okEV = true) (hl : es.length ≤ 4000) : textRes es = .tuple #[.string (mkB (textE es)), .int .i64 0] := by
  unfold textRes
  rw [if_neg (by omega), if_pos h]
set_option maxRecDepth 100000 in
set_option maxHeartbeats 8000000 in
theorem parts_law (a b : Option Addr) (la ca lb cb : Nat) (ra rb : List RE) (kind : Int) (w : World) (hE : Env w) (hza : ResAt w a ra) (hla : ra.length = la) (hma : la ≤ 9223372036854775807) (hca : la ≤ ca) (hna : a = none → ca = 0)
    (hzb : ResAt w b rb) (hlb : rb.length = lb) (hmb : lb ≤ 9223372036854775807) (hcb : lb ≤ cb) (hnb : b = none → cb = 0) (hk0 : -9223372036854775808 ≤ kind) (hk1 : kind ≤ 9223372036854775807) :
    Calls Tryd.prog 8 #[.slice a la ca, .slice b lb cb, .int .i64 kind] w fun x w' => x = .returned (.bool true) ∧ Below w.heap.size w w' := by
  have HE := hide hE
  obtain ⟨N, hNi, hN0, hN1⟩ : ∃ L : Nat, (if (100 : Int) < (la : Int) then (100 : Int) else (la : Int)) = (L : Int) ∧ L ≤ la ∧ L ≤ 100 := ⟨min la 100, by split <;> omega, by omega, by omega⟩
  obtain ⟨M, hMi, hM0, hM1⟩ : ∃ L : Nat, (if (100 : Int) < (lb : Int) then (100 : Int) else (lb : Int)) = (L : Int) ∧ L ≤ lb ∧ L ≤ 100 := ⟨min lb 100, by split <;> omega, by omega, by omega⟩
  have hNm : min (la : Int) 100 = (N : Int) := by rw [← hNi]; split <;> omega
  have hMm : min (lb : Int) 100 = (M : Int) := by rw [← hMi]; split <;> omega
  have hNt : (min (la : Int) 100).toNat = N := by rw [hNm]; rfl
  have hMt : (min (lb : Int) 100).toNat = M := by rw [hMm]; rfl
  have HZA := hide (hza.take N)
  have HZB := hide (hzb.take M)
  have hra : (ra.take N).length = N := by rw [List.length_take, hla]; omega
  have hrb : (rb.take M).length = M := by rw [List.length_take, hlb]; omega
  obtain ⟨rs, hrs⟩ : ∃ x, ra.take N = x := ⟨_, rfl⟩
  obtain ⟨ss, hss⟩ : ∃ x, rb.take M = x := ⟨_, rfl⟩
  rw [hrs] at hra HZA
  rw [hss] at hrb HZB
  have HMA := hide (fun W hW => made_few a N ca rs W hW hra (by omega))
  have HMB := hide (fun W hW => made_few b M cb ss W hW hrb (by omega))
  have ha1 := made_all rs
  have hb1 := made_all ss
  have ha2 : (madeE rs).length = N := by rw [madeE_length]; exact hra
  have hb2 : (madeE ss).length = M := by rw [madeE_length]; exact hrb
  have hsa := made_small rs
  have hsb := made_small ss
  obtain ⟨es, hes⟩ : ∃ x, madeE rs = x := ⟨_, rfl⟩
  obtain ⟨fs, hfs⟩ : ∃ x, madeE ss = x := ⟨_, rfl⟩
  rw [hes] at HMA ha1 ha2 hsa
  rw [hfs] at HMB hb1 hb2 hsb
  have hta := text_of ha1 (by omega)
  have htb := text_of hb1 (by omega)
  have hab : (es ++ fs).all okEV = true := by rw [List.all_append, ha1, hb1]; rfl
  have hll : (es ++ fs).length = N + M := by rw [List.length_append, ha2, hb2]
  have htab := text_of hab (by omega)
  have hsab : ∀ e ∈ es ++ fs, e.small := fun e he => by
    rcases List.mem_append.1 he with h | h
    · exact hsa e h
    · exact hsb e h
  have hst : mkB (textE es) ++ mkB (textE fs) = mkB (textE (es ++ fs)) := ba_eq (by rw [ba_app, mkB_data, mkB_data, mkB_data, textE_app])
  have hz1 : (mkB (textE es)).size ≤ 8000 := by rw [Lib.size_eq, mkB_data]; have := text_len es hsa; omega
  have hz2 : (mkB (textE fs)).size ≤ 8000 := by rw [Lib.size_eq, mkB_data]; have := text_len fs hsb; omega
  obtain ⟨s, hs⟩ : ∃ x, mkB (textE es) = x := ⟨_, rfl⟩
  obtain ⟨t, ht⟩ : ∃ x, mkB (textE fs) = x := ⟨_, rfl⟩
  obtain ⟨u, hu⟩ : ∃ x, mkB (textE (es ++ fs)) = x := ⟨_, rfl⟩
  rw [hs] at hta hst hz1
  rw [ht] at htb hst hz2
  rw [hu] at htab hst
  have HTA := hide (fun A c W hW hA => evtext_any A c es W hW hA hsa (by omega))
  have HTB := hide (fun A c W hW hA => evtext_any A c fs W hW hA hsb (by omega))
  have HTC := hide (fun A c W hW hA => evtext_any A c (es ++ fs) W hW hA hsab (by omega))
  rw [hta, ha2] at HTA
  rw [htb, hb2] at HTB
  rw [htab, hll] at HTC
  have HK := hide (fun W => bring_any kind 8 W (by omega) (by omega) hk0 hk1)
  obtain ⟨K8, hK8⟩ : ∃ x, kind % 8 = x := ⟨_, rfl⟩
  rw [hK8] at HK
  have HCA := hide (fun A c W hA => count_any A c es K8 W hA (by omega))
  have HCB := hide (fun A c W hA => count_any A c fs K8 W hA (by omega))
  have HCC := hide (fun A c W hA => count_any A c (es ++ fs) K8 W hA (by omega))
  have hcc := cntE_app es fs K8
  have hc1 := cntE_le es K8
  have hc2 := cntE_le fs K8
  obtain ⟨p, hp⟩ : ∃ x, cntE es K8 = x := ⟨_, rfl⟩
  obtain ⟨q, hq⟩ : ∃ x, cntE fs K8 = x := ⟨_, rfl⟩
  rw [hp, ha2] at HCA
  rw [hq, hb2] at HCB
  rw [hcc, hp, hq, hll] at HCC
  rw [hp, ha2] at hc1
  rw [hq, hb2] at hc2
  obtain ⟨i0, hi0, hz0, hz1', hz2'⟩ := info_parts ev_info
  have HA2 := hide ha2
  have HB2 := hide hb2
  clear hE hza hzb hla hlb hra hrb hrs hss ha1 hb1 hsa hsb hes hfs hta htb hab hll htab hsab hs ht hu hK8 hcc hp hq ha2 hb2 hk0 hk1
  go_enter Tryd.func8, Tryd.ntmps8
  go_upto_region 1 with (fail)
  go_cut [7, 8] (fun s7 s8 wx => ∃ A cA B cB, s7 = .slice A N cA ∧ s8 = .slice B M cB ∧ EvsAt wx A es ∧ EvsAt wx B fs ∧ Below w.heap.size w wx)
  case first =>
    go_region_with (first
      | (go_at_call 18; with_reducible refine (HMA.out _ HZA.out.drew).mono ?_; rintro e1 w1 ⟨A, cA, rfl, hA, hcA, hnA, hbA⟩)
      | (go_at_call 18; with_reducible refine (HMB.out _ (HZB.out.drew.later hbA)).mono ?_; rintro e2 w2 ⟨B, cB, rfl, hB, hcB, hnB, hbB⟩))
    all_goals go_wp2_with fail
    all_goals go_meet
    all_goals exact ⟨A, cA, B, cB, rfl, rfl, hA.later hbB, hB, Below.trans (⟨hbA.os, hbA.tape, hbA.output, hbA.size, hbA.block⟩ : Below w.heap.size w w1) (hbB.mono hbA.size)⟩
  obtain ⟨A, cA, B, cB, rfl, rfl, hA, hB, hb02⟩ := hcut
  have HA0 := hide hA
  have HB0 := hide hB
  have HE2 := hide (HE.out.later hb02)
  have HW2 := hide hb02
  clear hA hB hb02 HMA HMB HZA HZB HE hNi hMi hNm hMm hNt hMt hma hmb hca hcb hna hnb
  go_wp2_with fail
  refine (HTA.out A cA wc HE2.out HA0.out).mono ?_
  rintro x3 w3 ⟨rfl, hb3⟩
  have HE3 := hide (HE2.out.later hb3)
  have HA3 := hide (HA0.out.later hb3)
  have HB3 := hide (HB0.out.later hb3)
  have HW3 := hide (below2 HW2.out hb3)
  clear hb3 HTA HE2 HA0 HB0 HW2
  go_wp2_with fail
  refine (HTB.out B cB w3 HE3.out HB3.out).mono ?_
  rintro x4 w4 ⟨rfl, hb4⟩
  have HE4 := hide (HE3.out.later hb4)
  have HA4 := hide (HA3.out.later hb4)
  have HB4 := hide (HB3.out.later hb4)
  have HW4 := hide (below2 HW3.out hb4)
  clear hb4 HTB HE3 HA3 HB3 HW3
  have hra4 := evs_reads HA4.out
  have hrb4 := evs_reads HB4.out
  rw [HA2.out] at hra4
  rw [HB2.out] at hrb4
  have hown0 : (w4.alloc (.cells #[] 36)).ownsRow w4.heap.size 36 4 (.slice (some ⟨w4.heap.size, 0, none⟩) 0 0) 0 [] :=
    ⟨rfl, .inr ⟨w4.heap.size, 0, #[], rfl, Nat.le_refl _, heap_alloc_new w4 _, Nat.le_refl _, Nat.zero_le _, rfl, rfl⟩⟩
  have hal : Below w4.heap.size w4 (w4.alloc (.cells #[] 36)) := (Below.refl _ _).alloc (Nat.le_refl _) _
  go_wp2_with (first
    | (at_builtin; refine wpList_append_any _ rfl (.tmp 38) (.tmp 39) _ rfl w4.heap.size 36 i0 _ 4 32 Tryd.underlying22 hi0 hz0 hz1' hz2' rfl (by decide) (.slice (some ⟨w4.heap.size, 0, none⟩) 0 0) 0 [] rfl (by exact hown0) w4.heap.size A N cA (evsC es) rfl (by exact hra4.alloc (Nat.le_refl _) _) (evsC_one es) (by unfold maxLen; omega) (by omega) (by simp) ?_; intro v5 w5 hown5 hg5 hat5; have hb5 := Below.grown hal hg5 hal.size (fun x hx => by simp [Value.ownBlock] at hx; omega))
    | (at_builtin; refine wpList_append_any _ rfl (.tmp 40) (.tmp 41) _ rfl w4.heap.size 36 i0 _ 4 32 Tryd.underlying22 hi0 hz0 hz1' hz2' rfl (by decide) v5 (0 + N) ([] ++ evsC es) rfl (by exact hown5) w4.heap.size B M cB (evsC fs) rfl (by exact hrb4.below hb5) (evsC_one fs) (by unfold maxLen; omega) (by omega) hb5.size ?_; intro v6 w6 hown6 hg6 hat6; have hb6 := Below.grown hb5 hg6 hb5.size (fun x hx => (hown5.lt x hx).1); rw [Nat.zero_add, List.nil_append, ← evsC_app] at hown6; obtain ⟨C, cC, hv6⟩ := own_slice6 hown6; subst hv6))
  have hC : EvsAt w6 C (es ++ fs) := own_evs (by rw [List.length_append, HA2.out, HB2.out]) hown6
  have HE6 := hide (HE4.out.later hb6)
  have HA6 := hide (HA4.out.later hb6)
  have HB6 := hide (HB4.out.later hb6)
  have HC6 := hide hC
  have HW6 := hide (below2 HW4.out hb6)
  clear hra4 hrb4 hown0 hal hown5 hg5 hat5 hb5 hown6 hg6 hat6 hb6 hC HE4 HA4 HB4 HW4

  refine (HTC.out C cC w6 HE6.out HC6.out).mono ?_
  rintro x7 w7 ⟨rfl, hb7⟩
  have HE7 := hide (HE6.out.later hb7)
  have HA7 := hide (HA6.out.later hb7)
  have HB7 := hide (HB6.out.later hb7)
  have HC7 := hide (HC6.out.later hb7)
  have HW7 := hide (below2 HW6.out hb7)
  clear hb7 HTC HE6 HA6 HB6 HC6 HW6
  go_wp2_with fail
  refine (HK.out _).mono ?_
  rintro x8 w8 ⟨rfl, rfl⟩
  clear HK
  go_wp2_with fail
  refine (HCC.out C cC _ HC7.out).mono ?_
  rintro x9 w9 ⟨rfl, hb9⟩
  have HE9 := hide (HE7.out.later hb9)
  have HA9 := hide (HA7.out.later hb9)
  have HB9 := hide (HB7.out.later hb9)
  have HW9 := hide (below2 HW7.out hb9)
  clear hb9 HCC HE7 HA7 HB7 HC7 HW7
  go_wp2_with fail
  refine (HCA.out A cA _ HA9.out).mono ?_
  rintro x10 w10 ⟨rfl, hb10⟩
  have HE10 := hide (HE9.out.later hb10)
  have HB10 := hide (HB9.out.later hb10)
  have HW10 := hide (below2 HW9.out hb10)
  clear hb10 HCA HE9 HA9 HB9 HW9
  go_wp2_with fail
  refine (HCB.out B cB _ HB10.out).mono ?_
  rintro x11 w11 ⟨rfl, hb11⟩
  have HE11 := hide (HE10.out.later hb11)
  have HW11 := hide (below2 HW10.out hb11)
  clear hb11 HCB HE10 HB10 HW10
  go_wp2_with fail
  refine (evworks_any _ HE11.out).mono ?_
  rintro x12 w12 ⟨rfl, hb12⟩
  have HW12 := hide (below2 HW11.out hb12)
  clear hb12 HE11 HW11
  go_wp2_with fail
  exact bodyPost_ret (v := .bool true) (by simp [results, Tryd.results8, go_sem]) rfl ⟨rfl, HW12.out⟩
end Go.Proofs.YtbpeienllhbffaaDoor
