/-
  The law EventReads: its walk.
-/
import Derived.Test.YtbpeienllhbffaaDoorEvRefParse
import Derived.Test.YtbpeienllhbffaaDoorEvWorks
namespace Go.Proofs.YtbpeienllhbffaaDoor
set_option linter.unusedSimpArgs false
set_option linter.unusedVariables false
open Go.RowKit Go.Shelf
set_option maxRecDepth 100000 in
set_option maxHeartbeats 8000000 in
theorem reads_law (s : ByteArray) (w : World) (hE : Env w) : Calls Tryd.prog 3 #[.string s] w fun x w' => x = .returned (.bool true) ∧ Below w.heap.size w w' := by
  have HE := hide hE
  clear hE
  obtain ⟨t, ht⟩ : ∃ t, s.extract 0 (min (s.size : Int) 3000).toNat = t := ⟨_, rfl⟩
  have hts : t.size ≤ 3000 := by
    rw [← ht, ByteArray.size_extract]
    omega
  have HP := hide (fun W hW => parse_any t W hW)
  have HR := hide (fun W => rparse_any t hts W)
  have hlen : (parseE t).1.length ≤ 4611686018427387904 := by
    rcases parse_law t hts with ⟨fs, h1, h2, h3⟩ | ⟨n, h1, _⟩
    · rw [h1]
      have hk := Lib.size_eq t
      have : fs.length ≤ (textE fs).length := by
        clear h1 h2
        induction fs with
        | nil => simp
        | cons e fs ih =>
          rw [List.all_cons, Bool.and_eq_true] at h3
          have := ih h3.2
          obtain ⟨r, h4, _⟩ := line_form h3.1
          rw [textE_cons, h4, List.length_append, List.length_append, List.length_cons, List.length_singleton]
          omega
      rw [h2] at this
      simp only
      omega
    · rw [h1]
      simp
  have HQ := hide (fun A B c d W hA hB => evequal_any A B c d (parseE t).1 (parseE t).1 W hA hB hlen hlen)
  simp only [decide_true] at HQ
  obtain ⟨fs, l, e, hr⟩ : ∃ fs l e, parseE t = (fs, l, e) := ⟨_, _, _, rfl⟩
  rw [hr] at HP HR HQ
  obtain ⟨N, hN⟩ : ∃ N, fs.length = N := ⟨_, rfl⟩
  simp only [hN] at HP HR HQ
  clear hr hN hlen hts
  go_enter Tryd.func3, Tryd.ntmps3
  go_wp2_with fail
  refine (HP.out _ HE.out).mono ?_
  rintro x1 w1 ⟨a1, c1, rfl, hk1, hb1⟩
  have HE1 := hide (HE.out.later hb1)
  have HK1 := hide hk1
  have HB1 := hide hb1
  clear hk1 hb1 HP
  go_wp2_with fail
  refine (HR.out _).mono ?_
  rintro x2 w2 ⟨a2, c2, rfl, hk2, hb2⟩
  have HE2 := hide (HE1.out.later hb2)
  have HK2 := hide (HK1.out.later hb2)
  have HL2 := hide hk2
  have HB2 := hide (below2 HB1.out hb2)
  clear hk2 hb2 HR HK1
  go_wp2_with fail
  refine (HQ.out _ _ _ _ _ HK2.out HL2.out).mono ?_
  rintro x3 w3 ⟨rfl, hb3⟩
  have HE3 := hide (HE2.out.later hb3)
  have HB3 := hide (below2 HB2.out hb3)
  clear hb3 HQ HK2 HL2
  go_wp2_with fail
  refine (evworks_any _ HE3.out).mono ?_
  rintro x4 w4 ⟨rfl, hb4⟩
  have HB4 := hide (below2 HB3.out hb4)
  clear hb4
  go_wp2_with fail
  exact bodyPost_ret (v := .bool true) (by simp [results, Tryd.results3, go_sem]) rfl ⟨rfl, HB4.out⟩
end Go.Proofs.YtbpeienllhbffaaDoor
