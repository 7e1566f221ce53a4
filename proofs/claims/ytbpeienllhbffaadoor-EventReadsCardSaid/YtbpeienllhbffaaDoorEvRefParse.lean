/-
  The document's answer for layer 22: Parse: its walk.
-/
import Derived.Test.YtbpeienllhbffaaDoorEvRefRead
namespace Go.Proofs.YtbpeienllhbffaaDoor
set_option linter.unusedSimpArgs false
set_option linter.unusedVariables false
open Go.RowKit Go.Shelf
theorem cut_none (x : List UInt8) (h : 10 ∉ x) : (Lib.cut x [10]).2.2 = false := by
  have hi := index_not 10 x h
  unfold Lib.cut
  rw [if_neg (by omega)]
theorem drop_seg {L : List UInt8} {f i : Nat} (hf : f ≤ i) : L.drop f = (L.drop f).take (i - f) ++ L.drop i := by
  have h := (List.take_append_drop (i - f) (L.drop f)).symm
  rw [List.drop_drop, show f + (i - f) = i by omega] at h
  exact h
theorem parseL_line {k : Nat} {L : List UInt8} {f i : Nat} {es : List EV} (hf : f ≤ i) (h10 : 10 ∉ (L.drop f).take (i - f)) (hb : L[i]? = some 10) (hl : es.length < 4000) :
    parseL (k + 1) (L.drop f) es = match readE (mkB ((L.drop f).take (i - f))) with
      | none => ([], (es.length : Int) + 1, 4)
      | some e => parseL k (L.drop (i + 1)) (es ++ [e]) := by
  obtain ⟨hi, hb2⟩ := List.getElem?_eq_some_iff.1 hb
  have h1 : L.drop i = 10 :: L.drop (i + 1) := by rw [List.drop_eq_getElem_cons hi, hb2]
  have h2 := drop_seg (L := L) hf
  rw [h1] at h2
  obtain ⟨g, hg⟩ : ∃ x, (L.drop f).take (i - f) = x := ⟨_, rfl⟩
  rw [hg] at h2 h10 ⊢
  rw [h2, parseL, if_neg (by simp), if_neg (by omega), cut_at g _ h10]
  simp only [Bool.true_eq_false, if_false]
  cases readE (mkB g) <;> rfl
theorem parseL_tail {k : Nat} {x : List UInt8} {es : List EV} (hx : x ≠ []) (h10 : 10 ∉ x) (hl : es.length < 4000) : parseL (k + 1) x es = ([], (es.length : Int) + 1, 4) := by
  rw [parseL, if_neg hx, if_neg (by omega), if_pos (cut_none x h10)]
set_option maxRecDepth 100000 in
set_option maxHeartbeats 8000000 in
theorem rparse_any (s : ByteArray) (hs : s.size ≤ 3000) (w : World) : Calls Tryd.prog 15 #[.string s] w fun x w' => ∃ a c, x = .returned (.tuple #[.slice a (parseE s).1.length c, .int .i64 (parseE s).2.1, .int .i64 (parseE s).2.2]) ∧ EvsAt w' a (parseE s).1 ∧ Below w.heap.size w w' := by
  have hp : parseE s = parseL s.size s.data.toList [] := by unfold parseE; rw [if_neg (by omega)]
  obtain ⟨res, hres⟩ : ∃ x, parseE s = x := ⟨_, rfl⟩
  rw [hres] at hp ⊢
  have HP := hide hp
  have hl : s.data.toList.length = s.size := (Lib.size_eq s).symm
  have HL := hide hl
  obtain ⟨N, hN⟩ : ∃ x, s.size = x := ⟨_, rfl⟩
  obtain ⟨i0, hi0, hz0, hz1, hz2⟩ := info_parts ev_info
  have hNi : ¬ (1048576 : Int) < (N : Int) := by omega
  clear hp hres hl
  go_enter Tryd.func15, Tryd.ntmps15
  go_wp2_with fail
  go_loopg [5, 6, 7] N (fun kx s5 s6 s7 wr => ∃ (f i : Nat) (es : List EV), s6 = .int .i64 f ∧ s7 = .int .i64 i ∧ f ≤ i ∧ i ≤ N ∧ N - i ≤ kx ∧ es.length ≤ f ∧ Hid (10 ∉ (s.data.toList.drop f).take (i - f)) ∧ Hid (∃ k, N - f ≤ k ∧ parseL k (s.data.toList.drop f) es = res) ∧ wr.ownsRow w.heap.size 36 4 s5 es.length (evsC es) ∧ Below w.heap.size w wr)
  case atStart => exact ⟨0, 0, [], rfl, rfl, by omega, by omega, by omega, by simp, (by simp : 10 ∉ (s.data.toList.drop 0).take 0), ⟨s.size, by omega, HP.out.symm⟩, ⟨rfl, .inl ⟨rfl, rfl⟩⟩, Below.refl _ _⟩
  case round =>
    obtain ⟨f, i, es, rfl, rfl, hfi, hi, hkx, hel, h10, hk, hown, hB⟩ := hrel
    obtain ⟨A8, c8, rfl⟩ := own_slice6 hown
    have HEV := hide (own_evs rfl hown)
    obtain ⟨M, hM⟩ : ∃ x, es.length = x := ⟨_, rfl⟩
    have HM := hide hM
    rw [hM] at hel hown ⊢
    obtain ⟨xs, hxs⟩ : ∃ x, evsC es = x := ⟨_, rfl⟩
    have HXS := hide hxs
    rw [hxs] at hown
    have hszw := hB.size
    have hM4 : ¬ (M : Int) = 4000 := by omega
    clear hM hxs
    by_cases hlt : i < N
    · have hlti : (i : Int) < (N : Int) := by omega
      have hi0' : (0 : Int) ≤ (i : Int) := by omega
      have hsz : i < s.size := by omega
      have hf0 : (0 : Int) ≤ (f : Int) := by omega
      have hff : (f : Int) ≤ (i : Int) := by omega
      have hff1 : (f : Int) ≤ (i : Int) + 1 := by omega
      have hi1 : (i : Int) + 1 ≤ (N : Int) := by omega
      have hbt := byte_at s i hsz
      by_cases hb : (s[i].toNat : Int) = 10
      · have hb2 : s[i] = 10 := UInt8.toNat_inj.1 (by have : (10 : UInt8).toNat = 10 := rfl; omega)
        rw [hb2] at hbt
        obtain ⟨k, hk1, hk2⟩ := hk.out
        obtain ⟨k, rfl⟩ : ∃ j, k = j + 1 := ⟨k - 1, by omega⟩
        rw [parseL_line hfi h10.out hbt (by rw [HM.out]; omega), readE_R] at hk2
        have hseg := seg_bytes s f i hfi
        have hseg1 := seg_bytes s f (i + 1) (by omega)
        rw [seg_snoc hfi hbt] at hseg1
        obtain ⟨g, hg⟩ : ∃ x, (s.data.toList.drop f).take (i - f) = x := ⟨_, rfl⟩
        have hgl : g.length ≤ 3000 := by rw [← hg, List.length_take, List.length_drop, HL.out]; omega
        rw [hg] at hk2 hseg hseg1
        have HR := hide (fun W => rread_any (mkB g) (by rw [Lib.size_eq, mkB_data]; omega) W)
        have HLN := hide (fun W => rline_any (readR g) W)
        rw [mkB_data] at HR
        obtain ⟨x, hx⟩ : ∃ x, readR g = x := ⟨_, rfl⟩
        rw [hx] at hk2 HR HLN
        obtain ⟨G, hG⟩ : ∃ x, mkB g = x := ⟨_, rfl⟩
        obtain ⟨G1, hG1⟩ : ∃ x, mkB (g ++ [10]) = x := ⟨_, rfl⟩
        rw [hG] at hseg HR
        rw [hG1] at hseg1
        have HG1 := hide hG1
        have HK2 := hide hk2
        have HK1 := hide hk1
        obtain ⟨x0, x1, x2, x3⟩ := x
        simp only [evC] at HR HLN
        clear hk hk1 hk2 h10 hgl hg hx hG hG1 hbt hb2
        go_wp2_with fail
        refine (HR.out _).mono ?_
        rintro y1 w1 ⟨rfl, hb1⟩
        have HB1 := hide (below2 hB hb1)
        have HO1 := hide (own_later hown hb1)
        clear hb1 hown hB HR
        go_wp2_with fail
        have hal : Below w1.heap.size w1 (w1.alloc (.cells #[.int .i64 x0, .int .i64 x1, .int .i64 x2, .int .i64 x3] 36)) := (Below.refl _ _).alloc (Nat.le_refl _) _
        have hblk := Blk.new w1 36 #[.int .i64 x0, .int .i64 x1, .int .i64 x2, .int .i64 x3]
        have HB2 := hide (below2 HB1.out hal)
        have HO2 := hide (own_later HO1.out hal)
        have HBK := hide hblk
        obtain ⟨XB, hXB⟩ : ∃ x, w1.heap.size = x := ⟨_, rfl⟩
        obtain ⟨W2, hW2⟩ : ∃ x, w1.alloc (.cells #[.int .i64 x0, .int .i64 x1, .int .i64 x2, .int .i64 x3] 36) = x := ⟨_, rfl⟩
        rw [hW2] at HB2 HO2 HBK
        rw [hXB] at HBK
        rw [hW2, hXB]
        clear hal hblk hXB hW2 HB1 HO1
        by_cases hok : okEV ⟨x0, x1, x2, x3⟩ = true
        · have hlr : lineRes ⟨x0, x1, x2, x3⟩ = .tuple #[.string (mkB (lineE ⟨x0, x1, x2, x3⟩)), .int .i64 0] := by unfold lineRes; rw [if_pos hok]
          rw [hlr] at HLN
          by_cases hT : lineE ⟨x0, x1, x2, x3⟩ = g ++ [10]
          · have hTG : mkB (lineE ⟨x0, x1, x2, x3⟩) = G1 := by rw [hT, HG1.out]
            rw [hTG] at HLN
            have hr : parseL k (s.data.toList.drop (i + 1)) (es ++ [⟨x0, x1, x2, x3⟩]) = res := by
              have := HK2.out
              rw [if_pos ⟨hok, hT⟩] at this
              exact this
            have HRR := hide hr
            clear hlr hTG hT hok hr HK2
            refine (HLN.out _).mono ?_
            rintro y2 w2 ⟨rfl, hb2⟩
            have hbk := (hb2.block _ HBK.out.lt).trans HBK.out
            have hbk2 : Blk w2 XB 36 #[.int .i64 x0, .int .i64 x1, .int .i64 x2, .int .i64 x3] := hbk
            have d0 := hbk2.cell 0
            have d1 := hbk2.cell 1
            have d2 := hbk2.cell 2
            have d3 := hbk2.cell 3
            simp only [List.getElem?_toArray, List.getElem?_cons_zero, List.getElem?_cons_succ] at d0 d1 d2 d3
            have HB3 := hide (below2 HB2.out hb2)
            have ho3 := own_later HO2.out hb2
            have hsz3 := HB3.out.size
            clear hb2 hbk hbk2 HBK HO2 HB2 HLN
            go_wp2_with (at_builtin; refine wpList_append_any _ rfl (.tmp 51) (.tmp 53) _ rfl w.heap.size 36 i0 _ 4 32 Tryd.underlying22 hi0 hz0 hz1 hz2 rfl (by decide) (.slice A8 M c8) M xs rfl (by exact ho3.alloc _) (w2.heap.size + 1) (some ⟨w2.heap.size, 0, none⟩) 1 1 [.int .i64 x0, .int .i64 x1, .int .i64 x2, .int .i64 x3] rfl (by exact reads_lit (blk_new_at (by simp)) (by simp) rfl) (by simp [Value.oneCell']) (by unfold maxLen; omega) (by omega) (by simp; omega) ?_; intro v5 w5 hown5 hg5 hat5)
            go_roundg (N - (i + 1))
            case rel =>
              refine ⟨i + 1, i + 1, es ++ [⟨x0, x1, x2, x3⟩], by go_num, by go_num, by omega, by omega, by omega, by rw [List.length_append, HM.out]; simp; omega, ?_, ⟨k, by have := HK1.out; omega, HRR.out⟩, ?_, ?_⟩
              · show 10 ∉ _
                rw [Nat.sub_self, List.take_zero]
                exact List.not_mem_nil
              · rw [List.length_append, HM.out, evsC_snoc, HXS.out]
                exact hown5
              · exact Below.grown (HB3.out.alloc hsz3 _) hg5 (by simp; omega) (fun x hx => (ho3.lt x hx).1)
            case measure => omega
          · obtain ⟨T, hTT⟩ : ∃ x, mkB (lineE ⟨x0, x1, x2, x3⟩) = x := ⟨_, rfl⟩
            have hTG : T ≠ G1 := by
              intro e
              rw [← hTT, ← HG1.out] at e
              exact hT (congrArg (fun x => x.data.toList) e)
            have hTB : (T.toList == G1.toList) = false := str_ne hTG
            rw [hTT] at HLN
            have hr : ([], (M : Int) + 1, 4) = res := by
              have := HK2.out
              rw [if_neg (fun h => hT h.2), HM.out] at this
              exact this
            subst hr
            clear hlr hTG hT hok HK2 hTT
            refine (HLN.out _).mono ?_
            rintro y2 w2 ⟨rfl, hb2⟩
            have HB3 := hide (below2 HB2.out hb2)
            clear hb2 HBK HO2 HB2 HLN
            go_wp2_with fail
            exact bodyPost_ret (v := .tuple #[.slice none 0 0, .int .i64 ((M : Int) + 1), .int .i64 4]) (by simp [results, Tryd.results15, go_sem]) rfl ⟨none, ⟨0, rfl⟩, .inl rfl, HB3.out⟩
        · have hlr : lineRes ⟨x0, x1, x2, x3⟩ = .tuple #[.string ⟨#[]⟩, .int .i64 2] := by unfold lineRes; rw [if_neg hok]
          rw [hlr] at HLN
          have hr : ([], (M : Int) + 1, 4) = res := by
            have := HK2.out
            rw [if_neg (fun h => hok h.1), HM.out] at this
            exact this
          subst hr
          clear hlr hok HK2
          refine (HLN.out _).mono ?_
          rintro y2 w2 ⟨rfl, hb2⟩
          have HB3 := hide (below2 HB2.out hb2)
          clear hb2 HBK HO2 HB2 HLN
          go_wp2_with fail
          exact bodyPost_ret (v := .tuple #[.slice none 0 0, .int .i64 ((M : Int) + 1), .int .i64 4]) (by simp [results, Tryd.results15, go_sem]) rfl ⟨none, ⟨0, rfl⟩, .inl rfl, HB3.out⟩
      · have hb' : ((s[i].toNat : Int) == 10) = false := by rw [beq_eq_false_iff_ne]; exact hb
        have hnx : 10 ∉ (s.data.toList.drop f).take (i + 1 - f) := by
          rw [seg_snoc hfi hbt]
          intro h
          rcases List.mem_append.1 h with h | h
          · exact h10.out h
          · simp at h
            rw [← h] at hb
            exact hb rfl
        have HNX := hide hnx
        have HO := hide hown
        clear hbt hnx h10 hown
        go_wp2_with fail
        go_roundg (N - (i + 1))
        case rel => exact ⟨f, i + 1, es, rfl, by go_num, by omega, by omega, by omega, by rw [HM.out]; exact hel, HNX.out, hk, by rw [HM.out, HXS.out]; exact HO.out, hB⟩
        case measure => omega
    · obtain rfl : i = N := by omega
      obtain ⟨k, hk1, hk2⟩ := hk.out
      by_cases hfN : f = i
      · subst hfN
        rw [List.drop_eq_nil_of_le (by rw [HL.out]; omega), parse_nil] at hk2
        subst hk2
        clear h10 hk hown HXS
        go_wp2_with fail
        exact bodyPost_ret (v := .tuple #[.slice A8 M c8, .int .i64 0, .int .i64 0]) (by simp [results, Tryd.results15, go_sem]) rfl ⟨A8, ⟨c8, by rw [← HM.out]⟩, HEV.out, hB⟩
      · have hfl : (f : Int) < (i : Int) := by omega
        obtain ⟨k, rfl⟩ : ∃ j, k = j + 1 := ⟨k - 1, by omega⟩
        have hd := h10.out
        rw [List.take_of_length_le (by rw [List.length_drop, HL.out]; omega)] at hd
        rw [parseL_tail (by intro h; have := congrArg List.length h; rw [List.length_drop, HL.out] at this; simp at this; omega) hd (by rw [HM.out]; omega), HM.out] at hk2
        subst hk2
        clear h10 hk hown HXS hd
        go_wp2_with fail
        exact bodyPost_ret (v := .tuple #[.slice none 0 0, .int .i64 ((M : Int) + 1), .int .i64 4]) (by simp [results, Tryd.results15, go_sem]) rfl ⟨none, ⟨0, rfl⟩, .inl rfl, hB⟩
end Go.Proofs.YtbpeienllhbffaaDoor
