/-
  The law EventText: its walk.
-/
import Derived.Test.YtbpeienllhbffaaDoorEvTextPlain
import Derived.Test.YtbpeienllhbffaaDoorEvWorks
namespace Go.Proofs.YtbpeienllhbffaaDoor
set_option linter.unusedSimpArgs false
set_option linter.unusedVariables false
open Go.RowKit Go.Shelf
set_option maxRecDepth 100000 in
set_option maxHeartbeats 8000000 in
theorem text_law (s : ByteArray) (w : World) (hE : Env w) : Calls Tryd.prog 5 #[.string s] w fun x w' => x = .returned (.bool true) ∧ Below w.heap.size w w' := by
  have HE := hide hE
  clear hE
  obtain ⟨t, ht⟩ : ∃ t, s.extract 0 (min (s.size : Int) 3000).toNat = t := ⟨_, rfl⟩
  have hts : t.size ≤ 3000 := by
    rw [← ht, ByteArray.size_extract]
    omega
  have HP := hide (parse_any t w HE.out)
  rcases parse_law t hts with ⟨fs, h1, h2, h3⟩ | ⟨n, h1, hn1, hn2⟩
  · rw [h1] at HP
    have hlen : fs.length ≤ 4000 := by
      have hk := Lib.size_eq t
      have : fs.length ≤ (textE fs).length := by
        clear HP h1 h2
        induction fs with
        | nil => simp
        | cons e fs ih =>
          have e1 : textE (e :: fs) = lineE e ++ textE fs := by unfold textE; rw [List.flatMap_cons]
          rw [List.all_cons, Bool.and_eq_true] at h3
          have := ih h3.2
          have hl : 1 ≤ (lineE e).length := by
            have hok := h3.1
            unfold okEV at hok
            unfold lineE
            cases hk : kindOf e.kind with
            | none => rw [hk] at hok; cases hok
            | some k =>
              simp only [List.length_append, List.length_singleton]
              omega
          rw [e1, List.length_append, List.length_cons]
          omega
      rw [h2] at this
      omega
    have htx : textRes fs = .tuple #[.string t, .int .i64 0] := by
      unfold textRes
      rw [if_neg (by omega), if_pos h3, h2]
      rfl
    have HT := hide (fun a c W hW ha => evtext_any a c fs W hW ha (fun e he => okEV_small (List.all_eq_true.1 h3 e he)) (by omega))
    rw [htx] at HT
    obtain ⟨N, hN⟩ : ∃ N, fs.length = N := ⟨_, rfl⟩
    simp only [hN] at HP HT
    clear h1 h2 h3 htx hlen hN
    go_enter Tryd.func5, Tryd.ntmps5
    go_wp2_with fail
    refine HP.out.mono ?_
    rintro x1 w1 ⟨a1, c1, rfl, hk1, hb1⟩
    have HE1 := hide (HE.out.later hb1)
    have HK1 := hide hk1
    have HB1 := hide hb1
    clear hk1 hb1 HP
    go_wp2_with fail
    refine (HT.out a1 c1 w1 HE1.out HK1.out).mono ?_
    rintro x2 w2 ⟨rfl, hb2⟩
    have HE2 := hide (HE1.out.later hb2)
    have HB2 := hide (below2 HB1.out hb2)
    clear hb2 HT
    go_wp2_with fail
    refine (evworks_any w2 HE2.out).mono ?_
    rintro x3 w3 ⟨rfl, hb3⟩
    have HB3 := hide (below2 HB2.out hb3)
    clear hb3
    go_wp2_with fail
    exact bodyPost_ret (v := .bool true) (by simp [results, Tryd.results5, go_sem]) rfl ⟨rfl, HB3.out⟩
  · rw [h1] at HP
    have hci : n ≤ 1 + (Lib.countB t ⟨#[10]⟩ : Int) := by
      have : Lib.countB t ⟨#[10]⟩ = t.data.toList.count 10 := Lib.count_one 10 _
      rw [this]
      exact hn2
    obtain ⟨C, hC⟩ : ∃ C, Lib.countB t ⟨#[10]⟩ = C := ⟨_, rfl⟩
    have hcl : C ≤ t.size := hC ▸ Lib.countB_le ⟨#[10]⟩ (by decide) t.size t (Nat.le_refl _)
    have HC := hide (fun W m hm => Tryd.strings_Count_any t ⟨#[10]⟩ m W (by omega) hm (by decide))
    rw [hC] at HC hci
    simp only [List.length_nil] at HP
    clear h1 hn2 hC
    go_enter Tryd.func5, Tryd.ntmps5
    go_wp2_with fail
    refine HP.out.mono ?_
    rintro x1 w1 ⟨a1, c1, rfl, hk1, hb1⟩
    have HE1 := hide (HE.out.later hb1)
    have HB1 := hide hb1
    clear hk1 hb1 HP
    obtain ⟨m, hm⟩ := HE1.out.max
    have HC1 := hide (HC.out w1 m hm)
    clear HC hm
    go_wp2_with fail
    refine HC1.out.mono ?_
    rintro x2 w2 ⟨rfl, rfl⟩
    go_wp2_with fail
    refine (evworks_any _ HE1.out).mono ?_
    rintro x3 w3 ⟨rfl, hb3⟩
    have HB3 := hide (below2 HB1.out hb3)
    clear hb3
    go_wp2_with fail
    exact bodyPost_ret (v := .bool true) (by simp [results, Tryd.results5, go_sem]) rfl ⟨rfl, HB3.out⟩
end Go.Proofs.YtbpeienllhbffaaDoor
