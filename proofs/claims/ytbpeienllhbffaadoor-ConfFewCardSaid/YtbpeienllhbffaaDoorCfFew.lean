/-
  The statement ConfFew: its walk.
-/
import Derived.Test.YtbpeienllhbffaaDoorCfBack
namespace Go.Proofs.YtbpeienllhbffaaDoor
set_option linter.unusedSimpArgs false
set_option linter.unusedVariables false
open Go.RowKit Go.Shelf

/-- A bit of a number. -/
def bitB (f k : Nat) : Bool := Go.bits .and .i64 ((f : Int) / 2 ^ k) 1 == 1
set_option maxRecDepth 100000 in
set_option maxHeartbeats 4000000 in
theorem cfew_any (l : L9) (sv : Bool) (bits : Int) (w : World) (hE : Env w) (hl : l.Fits) (hw : i64 bits) : Calls Tryd.prog 11 #[.agg l.arr, .bool sv, .int .i64 bits] w fun e w' => e = .returned (.bool true) ∧ Below w.heap.size w w' := by
  have HE := hide hE
  have HM := hide (fun W => made_any l sv W hl)
  have hok := made_ok l sv
  have HB := hide (fun W => bring_any bits 1024 W (by omega) (by omega) hw.1 hw.2)
  have hf := em_bd bits 1024 (by omega)
  obtain ⟨f, hff⟩ : ∃ f : Nat, bits % 1024 = f := ⟨(bits % 1024).toNat, by omega⟩
  rw [hff] at HB hf
  have hf10 : f < 1024 := by omega
  obtain ⟨c, hc⟩ : ∃ c, madeC l sv = c := ⟨_, rfl⟩
  rw [hc] at HM hok
  have HOK := hide hok
  have HCW := hide (fun W E => cworks_any W E)
  have HT := hide (fun W E => text_ok c W E hok)
  have HT2 := hide (fun W E => text_ok (defaultCF false) W E (ex_ok false))
  have HS := hide (fun W E => split_text hok W E)
  have HS2 := hide (fun W E => split_text (ex_ok false) W E)
  obtain ⟨t, ht⟩ : ∃ t, mkB (textL c 10) = t := ⟨_, rfl⟩
  rw [ht] at HT HS
  obtain ⟨u, hu⟩ : ∃ t, mkB (textL (defaultCF false) 10) = t := ⟨_, rfl⟩
  rw [hu] at HT2 HS2
  obtain ⟨arr, harr⟩ : ∃ a, l.arr = a := ⟨_, rfl⟩
  have ha9 : ∃ x0 x1 x2 x3 x4 x5 x6 x7 x8, arr = #[.int .i64 x0, .int .i64 x1, .int .i64 x2, .int .i64 x3, .int .i64 x4, .int .i64 x5, .int .i64 x6, .int .i64 x7, .int .i64 x8] := ⟨_, _, _, _, _, _, _, _, _, harr.symm⟩
  rw [harr] at HM ⊢
  obtain ⟨x0, x1, x2, x3, x4, x5, x6, x7, x8, rfl⟩ := ha9
  obtain ⟨carr, hcarr⟩ : ∃ a, confC c = a := ⟨_, rfl⟩
  have ha10 : ∃ sv d first most rtt delay ex burst room backs, carr = #[.bool sv, .int .i64 d, .int .i64 first, .int .i64 most, .int .i64 rtt, .int .i64 delay, .int .i64 ex, .int .i64 burst, .int .i64 room, .int .i64 backs] := ⟨_, _, _, _, _, _, _, _, _, _, hcarr.symm⟩
  rw [hcarr] at HM HT
  obtain ⟨sv1, d, first, most, rtt, delay, ex, burst, room, backs, rfl⟩ := ha10
  have HDF := hide (fun W => default_any false W)
  clear hE hok hw hff hc harr hcarr ht hu
  go_enter Tryd.func11, Tryd.ntmps11
  go_wp2_with fail
  refine (HM.out _).mono ?_
  rintro e2 w2 ⟨rfl, hb2⟩
  have hb2 := below2 ((Below.refl w.heap.size w).alloc (Nat.le_refl _) (.cells #[.int .i64 x0, .int .i64 x1, .int .i64 x2, .int .i64 x3, .int .i64 x4, .int .i64 x5, .int .i64 x6, .int .i64 x7, .int .i64 x8] 53)) hb2
  have HB2 := hide (below2 hb2 ((Below.refl w2.heap.size w2).alloc (Nat.le_refl _) (.cells #[.bool sv1, .int .i64 d, .int .i64 first, .int .i64 most, .int .i64 rtt, .int .i64 delay, .int .i64 ex, .int .i64 burst, .int .i64 room, .int .i64 backs] 46)))
  clear hb2 HM
  go_wp2_with fail
  refine (HT.out _ (HE.out.later HB2.out)).mono ?_
  rintro e3 w3 ⟨rfl, hb3⟩
  have HB3 := hide (below2 HB2.out hb3)
  clear hb3 HB2 HT
  go_wp2_with fail
  refine (HDF.out _).mono ?_
  rintro e4 w4 ⟨rfl, hb4⟩
  have HB4 := hide (below2 HB3.out hb4)
  clear hb4 HB3 HDF
  go_wp2_with fail
  refine (HT2.out _ (HE.out.later HB4.out)).mono ?_
  rintro e5 w5 ⟨rfl, hb5⟩
  have HB5 := hide (below2 HB4.out hb5)
  clear hb5 HB4 HT2
  go_wp2_with fail
  refine (HS.out _ (HE.out.later HB5.out)).mono ?_
  rintro e6 w6 ⟨rfl, hR6, hb6⟩
  obtain ⟨A, hA⟩ : ∃ A, w5.heap.size = A := ⟨_, rfl⟩
  rw [hA] at hR6 ⊢
  have HR6 := hide hR6
  have HB6 := hide (below2 HB5.out hb6)
  clear hb6 HB5 HS hA hR6
  go_wp2_with fail
  refine (HS2.out _ (HE.out.later HB6.out)).mono ?_
  rintro e7 w7 ⟨rfl, hQ7, hb7⟩
  obtain ⟨A2, hA2⟩ : ∃ A, w6.heap.size = A := ⟨_, rfl⟩
  rw [hA2] at hQ7 ⊢
  have HQ7 := hide hQ7
  have HR7 := hide (HR6.out.below hb7)
  have HB7 := hide (below2 HB6.out hb7)
  clear hb7 HB6 HR6 HS2 hA2 hQ7
  go_wp2_with fail
  go_loopg [14, 15, 16] 10 (fun kx s14 s15 s16 wr => ∃ k : Nat, s16 = .int .i64 k ∧ s14 = .string (mkB (closed (fewL c (bitB f) k))) ∧ s15 = .string (mkB (closed (mixL c (defaultCF false) (bitB f) k))) ∧ k ≤ 10 ∧ 10 - k ≤ kx ∧ wr = w7)
  case atStart => exact ⟨0, rfl, rfl, rfl, by omega, by omega, rfl⟩
  case round =>
    obtain ⟨k, rfl, rfl, rfl, hk, hkx, rfl⟩ := hrel
    by_cases hlt : k < 10
    · have hlti : (k : Int) < 10 := by omega
      have zk := HR7.out.2 k hlt
      have qk := HQ7.out.2 k hlt
      have hc1 := row_size HOK.out hlt
      have hc2 := row_size (ex_ok false) hlt
      have hz1 := few_size HOK.out (bitB f) k (by omega)
      have hz2 := mix_size HOK.out (ex_ok false) (bitB f) k (by omega)
      obtain ⟨tk, htk⟩ : ∃ z, mkB (closed (fewL c (bitB f) k)) = z := ⟨_, rfl⟩
      obtain ⟨uk, huk⟩ : ∃ z, mkB (closed (mixL c (defaultCF false) (bitB f) k)) = z := ⟨_, rfl⟩
      obtain ⟨r1, hr1⟩ : ∃ z, mkB (rowL k (valF c k)) = z := ⟨_, rfl⟩
      obtain ⟨r2, hr2⟩ : ∃ z, mkB (rowL k (valF (defaultCF false) k)) = z := ⟨_, rfl⟩
      have htkz : tk.size ≤ 310 := by rw [← htk, Lib.size_eq, mkB_data]; omega
      have hukz : uk.size ≤ 310 := by rw [← huk, Lib.size_eq, mkB_data]; omega
      have hr1z : r1.size ≤ 30 := by rw [← hr1, Lib.size_eq, mkB_data]; omega
      have hr2z : r2.size ≤ 30 := by rw [← hr2, Lib.size_eq, mkB_data]; omega
      have HTK := hide htk
      have HUK := hide huk
      have HR1 := hide hr1
      have HR2 := hide hr2
      rw [htk, huk]
      rw [hr1] at zk
      rw [hr2] at qk
      clear htk huk hr1 hr2 hz1 hz2 hc1 hc2
      cases hb : bitB f k with
      | true =>
        have hbb : (Go.bits .and .i64 ((f : Int) / 2 ^ k) 1 == 1) = true := hb
        have h1 : tk ++ r1 ++ (⟨#[10]⟩ : ByteArray) = mkB (closed (fewL c (bitB f) (k + 1))) := by
          apply ba_eq
          rw [few_yes c hb, ← HTK.out, ← HR1.out]
          simp [mkB_data]
        have h2 : uk ++ r1 ++ (⟨#[10]⟩ : ByteArray) = mkB (closed (mixL c (defaultCF false) (bitB f) (k + 1))) := by
          apply ba_eq
          rw [mix_succ, ← HUK.out, ← HR1.out]
          unfold mixF
          rw [hb]
          simp [mkB_data]
        have H1 := hide h1
        have H2 := hide h2
        clear h1 h2 hb
        go_wp2_with fail
        refine (HB.out _).mono ?_
        rintro e6 w6 ⟨rfl, rfl⟩
        go_wp2_with fail
        go_roundg (10 - (k + 1))
        case rel => exact ⟨k + 1, by go_num, by rw [H1.out], by rw [H2.out], by omega, by omega, rfl⟩
        case measure => omega
      | false =>
        have hbb : (Go.bits .and .i64 ((f : Int) / 2 ^ k) 1 == 1) = false := hb
        have h1 : tk = mkB (closed (fewL c (bitB f) (k + 1))) := by
          rw [few_no c hb, ← HTK.out]
        have h2 : uk ++ r2 ++ (⟨#[10]⟩ : ByteArray) = mkB (closed (mixL c (defaultCF false) (bitB f) (k + 1))) := by
          apply ba_eq
          rw [mix_succ, ← HUK.out, ← HR2.out]
          unfold mixF
          rw [hb]
          simp [mkB_data]
        have H1 := hide h1
        have H2 := hide h2
        clear h1 h2 hb
        go_wp2_with fail
        refine (HB.out _).mono ?_
        rintro e6 w6 ⟨rfl, rfl⟩
        go_wp2_with fail
        go_roundg (10 - (k + 1))
        case rel => exact ⟨k + 1, by go_num, by rw [H1.out], by rw [H2.out], by omega, by omega, rfl⟩
        case measure => omega
    · have hk10 : k = 10 := by omega
      subst hk10
      obtain ⟨r, er, her, p1, p2⟩ := parse_few HOK.out (bitB f)
      have hz1 := few_size HOK.out (bitB f) 10 (by omega)
      have hz2 := mix_size HOK.out (ex_ok false) (bitB f) 10 (by omega)
      have HP1 := hide (fun W E => parse_any (mkB (closed (fewL c (bitB f) 10))) (by rw [Lib.size_eq, mkB_data]; omega) W E)
      have HP2 := hide (fun W E => parse_any (mkB (closed (mixL c (defaultCF false) (bitB f) 10))) (by rw [Lib.size_eq, mkB_data]; omega) W E)
      rw [p1] at HP1
      rw [p2] at HP2
      obtain ⟨tk, htk⟩ : ∃ z, mkB (closed (fewL c (bitB f) 10)) = z := ⟨_, rfl⟩
      obtain ⟨uk, huk⟩ : ∃ z, mkB (closed (mixL c (defaultCF false) (bitB f) 10)) = z := ⟨_, rfl⟩
      rw [htk] at HP1 ⊢
      rw [huk] at HP2 ⊢
      clear hz1 hz2 htk huk p1 p2 hlt hk hkx HR7 HQ7
      obtain ⟨sv2, d2, first2, most2, rtt2, delay2, ex2, burst2, room2, backs2⟩ := r
      simp only [parseE, confC] at HP1 HP2
      rcases her with rfl | rfl
      · go_wp2_with fail
        refine (HP1.out _ (HE.out.later HB7.out)).mono ?_
        rintro e8 w8 ⟨rfl, hb8⟩
        have ha8 := hb8.trans (((Below.refl w8.heap.size w8).alloc (Nat.le_refl _) (.cells #[.bool sv2, .int .i64 d2, .int .i64 first2, .int .i64 most2, .int .i64 rtt2, .int .i64 delay2, .int .i64 ex2, .int .i64 burst2, .int .i64 room2, .int .i64 backs2] 46)).mono hb8.size)
        have HN8 := hide (Blk.new w8 46 #[.bool sv2, .int .i64 d2, .int .i64 first2, .int .i64 most2, .int .i64 rtt2, .int .i64 delay2, .int .i64 ex2, .int .i64 burst2, .int .i64 room2, .int .i64 backs2])
        have HB8 := hide (below2 HB7.out ha8)
        clear hb8 ha8 HB7 HP1
        obtain ⟨nb, hnb⟩ : ∃ b, w8.heap.size = b := ⟨_, rfl⟩
        rw [hnb] at HN8
        go_wp2_with fail
        refine (HP2.out _ (HE.out.later HB8.out)).mono ?_
        rintro e9 w9 ⟨rfl, hb9⟩
        have ha9 := hb9.trans (((Below.refl w9.heap.size w9).alloc (Nat.le_refl _) (.cells #[.bool sv2, .int .i64 d2, .int .i64 first2, .int .i64 most2, .int .i64 rtt2, .int .i64 delay2, .int .i64 ex2, .int .i64 burst2, .int .i64 room2, .int .i64 backs2] 46)).mono hb9.size)
        have HN9 := hide ((ha9.block _ (Blk.lt HN8.out)).trans HN8.out : Blk _ nb 46 #[.bool sv2, .int .i64 d2, .int .i64 first2, .int .i64 most2, .int .i64 rtt2, .int .i64 delay2, .int .i64 ex2, .int .i64 burst2, .int .i64 room2, .int .i64 backs2])
        have HB9 := hide (below2 HB8.out ha9)
        have HE9 := hide (HE.out.later HB9.out)
        clear hb9 ha9 HB8 HN8 HP2 hnb
        obtain ⟨g0, g1, g2, g3, g4, g5, g6, g7, g8, g9, _⟩ := conf_facts (c := ⟨sv2, d2, first2, most2, rtt2, delay2, ex2, burst2, room2, backs2⟩) HN9.out
        go_wp2_with fail
        refine (HCW.out _ HE9.out).mono ?_
        rintro e10 w10 ⟨rfl, hb10⟩
        have HB10 := hide (below2 HB9.out hb10)
        clear hb10 HB9 HE9 g0 g1 g2 g3 g4 g5 g6 g7 g8 g9
        go_wp2_with fail
        go_ret
        exact ⟨rfl, HB10.out⟩
      · go_wp2_with fail
        refine (HP1.out _ (HE.out.later HB7.out)).mono ?_
        rintro e8 w8 ⟨rfl, hb8⟩
        have ha8 := hb8.trans (((Below.refl w8.heap.size w8).alloc (Nat.le_refl _) (.cells #[.bool sv2, .int .i64 d2, .int .i64 first2, .int .i64 most2, .int .i64 rtt2, .int .i64 delay2, .int .i64 ex2, .int .i64 burst2, .int .i64 room2, .int .i64 backs2] 46)).mono hb8.size)
        have HN8 := hide (Blk.new w8 46 #[.bool sv2, .int .i64 d2, .int .i64 first2, .int .i64 most2, .int .i64 rtt2, .int .i64 delay2, .int .i64 ex2, .int .i64 burst2, .int .i64 room2, .int .i64 backs2])
        have HB8 := hide (below2 HB7.out ha8)
        clear hb8 ha8 HB7 HP1
        obtain ⟨nb, hnb⟩ : ∃ b, w8.heap.size = b := ⟨_, rfl⟩
        rw [hnb] at HN8
        go_wp2_with fail
        refine (HP2.out _ (HE.out.later HB8.out)).mono ?_
        rintro e9 w9 ⟨rfl, hb9⟩
        have ha9 := hb9.trans (((Below.refl w9.heap.size w9).alloc (Nat.le_refl _) (.cells #[.bool sv2, .int .i64 d2, .int .i64 first2, .int .i64 most2, .int .i64 rtt2, .int .i64 delay2, .int .i64 ex2, .int .i64 burst2, .int .i64 room2, .int .i64 backs2] 46)).mono hb9.size)
        have HN9 := hide ((ha9.block _ (Blk.lt HN8.out)).trans HN8.out : Blk _ nb 46 #[.bool sv2, .int .i64 d2, .int .i64 first2, .int .i64 most2, .int .i64 rtt2, .int .i64 delay2, .int .i64 ex2, .int .i64 burst2, .int .i64 room2, .int .i64 backs2])
        have HB9 := hide (below2 HB8.out ha9)
        have HE9 := hide (HE.out.later HB9.out)
        clear hb9 ha9 HB8 HN8 HP2 hnb
        obtain ⟨g0, g1, g2, g3, g4, g5, g6, g7, g8, g9, _⟩ := conf_facts (c := ⟨sv2, d2, first2, most2, rtt2, delay2, ex2, burst2, room2, backs2⟩) HN9.out
        go_wp2_with fail
        refine (HCW.out _ HE9.out).mono ?_
        rintro e10 w10 ⟨rfl, hb10⟩
        have HB10 := hide (below2 HB9.out hb10)
        clear hb10 HB9 HE9 g0 g1 g2 g3 g4 g5 g6 g7 g8 g9
        go_wp2_with fail
        go_ret
        exact ⟨rfl, HB10.out⟩
end Go.Proofs.YtbpeienllhbffaaDoor
