/-
  The document's answer for layer 22: words, number: their walks.
-/
import Derived.Test.YtbpeienllhbffaaDoorEvRefPlain
import Derived.Test.YtbpeienllhbffaaDoorEvRefLine
import Derived.Test.YtbpeienllhbffaaDoorCfWords
namespace Go.Proofs.YtbpeienllhbffaaDoor
set_option linter.unusedSimpArgs false
set_option linter.unusedVariables false
open Go.RowKit Go.Shelf
theorem str_info : (Tryd.prog.info? 9).map (fun i => (i.zero, i.size, i.bytes)) = some (some (.string ⟨#[]⟩), 1, 16) := by kernel_rfl
theorem byte_at (s : ByteArray) (i : Nat) (h : i < s.size) : s.data.toList[i]? = some s[i] := by
  have hl : i < s.data.toList.length := by rw [← Lib.size_eq]; exact h
  exact List.getElem?_eq_getElem hl
set_option maxRecDepth 100000 in
set_option maxHeartbeats 2000000 in
theorem rnumber_any (s : ByteArray) (hs : s.size ≤ 4096) (w : World) : Calls Tryd.prog 70 #[.string s] w fun e w' => e = .returned (.int .i64 (numR s.data.toList)) ∧ w = w' := by
  obtain ⟨res, hres⟩ : ∃ x, numR s.data.toList = x := ⟨_, rfl⟩
  rw [hres]
  have hl : s.data.toList.length = s.size := (Lib.size_eq s).symm
  obtain ⟨N, hN⟩ : ∃ x, s.size = x := ⟨_, rfl⟩
  have HN := hide hN
  by_cases h16 : 16 < N
  · obtain rfl : -1 = res := by rw [← hres]; unfold numR; rw [if_pos (.inr (by omega))]
    have hi : ¬ (N : Int) ≤ 16 := by omega
    clear hres
    go_enter Tryd.func70, Tryd.ntmps70
    go_wp2_with fail
    go_loopg [3, 4] 0 (fun kx s3 s4 wr => s4 = .int .i64 0 ∧ wr = w)
    case atStart => exact ⟨rfl, rfl⟩
    case round =>
      obtain ⟨rfl, rfl⟩ := hrel
      go_wp2_with fail
      go_ret
      exact ⟨rfl, rfl⟩
  · have hi : (N : Int) ≤ 16 := by omega
    have hr : (if N = 0 then -1 else goN 0 s.data.toList) = res := by
      rw [← hres]
      unfold numR
      by_cases h0 : N = 0
      · rw [if_pos h0, if_pos (.inl (by omega))]
      · rw [if_neg h0, if_neg (by omega)]
    have HR := hide hr
    clear hres hr
    go_enter Tryd.func70, Tryd.ntmps70
    go_wp2_with fail
    go_loopg [3, 4] N (fun kx s3 s4 wr => ∃ (i : Nat) (n : Int), s4 = .int .i64 i ∧ s3 = .int .i64 n ∧ i ≤ N ∧ N - i ≤ kx ∧ 0 ≤ n ∧ n < ((10 ^ i : Nat) : Int) ∧ Hid (goN n (s.data.toList.drop i) = goN 0 s.data.toList) ∧ wr = w)
    case atStart => exact ⟨0, 0, rfl, rfl, by omega, by omega, by omega, by decide, rfl, rfl⟩
    case round =>
      obtain ⟨i, n, rfl, rfl, hk, hkx, hn0, hn1, hg, rfl⟩ := hrel
      by_cases hlt : i < N
      · have hlti : (i : Int) < (N : Int) := by omega
        have hi0 : (0 : Int) ≤ (i : Int) := by omega
        have hsz : i < s.size := by omega
        have hp : (10 ^ i : Nat) ≤ 1000000000000000 := by have := Nat.pow_le_pow_right (show 0 < 10 by omega) (show i ≤ 15 by omega); simpa using this
        have hp2 : (10 ^ (i + 1) : Nat) = 10 * 10 ^ i := by rw [Nat.pow_succ]; omega
        have hlt2 : i < s.data.toList.length := by omega
        have hdr : s.data.toList.drop i = s[i] :: s.data.toList.drop (i + 1) := List.drop_eq_getElem_cons hlt2
        rw [hdr, goN] at hg
        have HG := hide hg
        clear hg hdr hl
        by_cases h48 : (s[i].toNat : Int) < 48
        · go_wp2_with fail
          go_ret
          refine ⟨?_, rfl⟩
          have h1 := HG.out
          have h2 := HR.out
          rw [if_pos (by omega)] at h1
          rw [if_neg (by omega)] at h2
          exact ret_int (h1.trans h2)
        by_cases h57 : 57 < (s[i].toNat : Int)
        · go_wp2_with fail
          go_ret
          refine ⟨?_, rfl⟩
          have h1 := HG.out
          have h2 := HR.out
          rw [if_pos (by omega)] at h1
          rw [if_neg (by omega)] at h2
          exact ret_int (h1.trans h2)
        go_wp2_with fail
        go_roundg (N - (i + 1))
        case rel =>
          refine ⟨i + 1, _, by go_num, rfl, by omega, by omega, by omega, by omega, ?_, rfl⟩
          have := HG.out
          rw [if_neg (by omega)] at this
          exact this
        case measure => omega
      · obtain rfl : i = N := by omega
        have hd : s.data.toList.drop i = [] := List.drop_eq_nil_of_le (by omega)
        have h1 := hg.out
        rw [hd, goN] at h1
        by_cases h0 : i = 0
        · have h0i : (i : Int) = 0 := by omega
          go_wp2_with fail
          go_ret
          have h2 := HR.out
          rw [if_pos h0] at h2
          exact ⟨ret_int h2, rfl⟩
        · have h0i : ((i : Int) == 0) = false := by rw [beq_eq_false_iff_ne]; omega
          go_wp2_with fail
          go_ret
          have h2 := HR.out
          rw [if_neg h0] at h2
          exact ⟨ret_int (h1.trans h2), rfl⟩
/-- What the loop of words holds. -/
def WInv (L : List UInt8) (n f i : Nat) (ws W : List (List UInt8)) : Prop := (i ≤ n ∧ f ≤ i ∧ ws ++ splitR ((L.drop f).take (i - f)) (L.drop i) = W) ∨ (i = n + 1 ∧ ws = W)
def strsV (ws : List (List UInt8)) : List Value := ws.map fun x => .string (mkB x)
theorem seg_bytes (s : ByteArray) (f i : Nat) (h : f ≤ i) : s.extract f i = mkB ((s.data.toList.drop f).take (i - f)) := ba_eq (by
  rw [ByteArray.data_extract, Array.toList_extract, mkB_data])
theorem seg_snoc {L : List UInt8} {f i : Nat} {b : UInt8} (hf : f ≤ i) (h : L[i]? = some b) : (L.drop f).take (i + 1 - f) = (L.drop f).take (i - f) ++ [b] := by
  rw [show i + 1 - f = (i - f) + 1 by omega, List.take_add_one, List.getElem?_drop, show f + (i - f) = i by omega, h]
  rfl
set_option maxRecDepth 100000 in
set_option maxHeartbeats 4000000 in
theorem rwords_any (s : ByteArray) (hs : s.size ≤ 4096) (w : World) : Calls Tryd.prog 69 #[.string s] w fun e w' => ∃ v, e = .returned v ∧ w'.ownsRow w.heap.size 9 1 v (splitR [] s.data.toList).length (strsV (splitR [] s.data.toList)) ∧ Below w.heap.size w w' := by
  obtain ⟨W, hW⟩ : ∃ x, splitR [] s.data.toList = x := ⟨_, rfl⟩
  have hWl : W.length ≤ s.size + 1 := by rw [← hW, Lib.size_eq]; exact splitR_len _ _
  have HW := hide hW
  rw [hW]
  obtain ⟨i0, hi0, hz0, hz1, hz2⟩ := info_parts str_info
  have hl : s.data.toList.length = s.size := (Lib.size_eq s).symm
  obtain ⟨N, hN⟩ : ∃ x, s.size = x := ⟨_, rfl⟩
  have HN := hide hN
  clear hW
  go_enter Tryd.func69, Tryd.ntmps69
  go_wp2_with fail
  go_loopg [3, 4, 5] (N + 1) (fun kx s3 s4 s5 wr => ∃ (f i : Nat) (ws : List (List UInt8)), s4 = .int .i64 f ∧ s5 = .int .i64 i ∧ i ≤ N + 1 ∧ f ≤ N + 1 ∧ N + 1 - i ≤ kx ∧ ws.length ≤ i ∧ Hid (WInv s.data.toList N f i ws W) ∧ wr.ownsRow w.heap.size 9 1 s3 ws.length (strsV ws) ∧ Below w.heap.size w wr)
  case atStart => exact ⟨0, 0, [], rfl, rfl, by omega, by omega, by omega, by simp, .inl ⟨by omega, by omega, by simpa using HW.out⟩, ⟨rfl, .inl ⟨rfl, rfl⟩⟩, Below.refl _ _⟩
  case round =>
    obtain ⟨f, i, ws, rfl, rfl, hi, hf, hkx, hwl, hinv, hown, hB⟩ := hrel
    obtain ⟨A8, c8, rfl⟩ := own_slice6 hown
    by_cases hle : i ≤ N
    · have hlei : (i : Int) ≤ (N : Int) := by omega
      have hi0' : (0 : Int) ≤ (i : Int) := by omega
      obtain ⟨_, hfi, hsp⟩ : i ≤ N ∧ f ≤ i ∧ ws ++ splitR ((s.data.toList.drop f).take (i - f)) (s.data.toList.drop i) = W := by
        rcases hinv.out with h | ⟨h, _⟩
        · exact h
        · omega
      have hfi' : (f : Int) ≤ (i : Int) := by omega
      have hf0 : (0 : Int) ≤ (f : Int) := by omega
      have hseg := seg_bytes s f i hfi
      have hszw := hB.size
      have ho1 := hown
      obtain ⟨g, hg⟩ : ∃ x, (s.data.toList.drop f).take (i - f) = x := ⟨_, rfl⟩
      rw [hg] at hseg hsp
      have HSP := hide hsp
      have HG := hide hg
      have HL := hide hl
      have hwn : ws.length ≤ 4097 := by omega
      obtain ⟨M, hM⟩ : ∃ x, ws.length = x := ⟨_, rfl⟩
      have HM := hide hM
      rw [hM] at ho1 hwn hwl ⊢
      obtain ⟨xs, hxs⟩ : ∃ x, strsV ws = x := ⟨_, rfl⟩
      rw [hxs] at ho1
      have HXS := hide hxs
      clear hinv hsp hg hl hown hM hxs
      by_cases hend : i = N
      · subst hend
        go_wp2_with (at_builtin; refine wpList_append_any _ rfl (.tmp 22) (.tmp 27) _ rfl w.heap.size 9 i0 _ 1 16 Tryd.underlying39 hi0 hz0 hz1 hz2 rfl (by decide) (.slice A8 M c8) M xs rfl (by exact ho1.alloc _) (wr.heap.size + 1) (some ⟨wr.heap.size, 0, none⟩) 1 1 [.string (mkB g)] rfl (by exact reads_lit (blk_new_at (by simp)) (by simp) rfl) (by simp [Value.oneCell']) (by unfold maxLen; omega) (by omega) (by simp; omega) ?_; intro v5 w5 hown5 hg5 hat5)
        go_roundg (i + 1 - (i + 1))
        case rel =>
          refine ⟨i + 1, i + 1, ws ++ [g], by go_num, by go_num, by omega, by omega, by omega, by rw [List.length_append, HM.out]; simp; omega, .inr ⟨by omega, ?_⟩, ?_, ?_⟩
          · have := HSP.out
            rw [List.drop_eq_nil_of_le (by rw [HL.out]; omega), splitR] at this
            exact this
          · rw [List.length_append, HM.out]
            have : strsV (ws ++ [g]) = xs ++ [.string (mkB g)] := by rw [← HXS.out]; unfold strsV; rw [List.map_append]; rfl
            rw [this]
            exact hown5
          · exact Below.grown (hB.alloc hszw _) hg5 (by simp; omega) (fun x hx => (ho1.lt x hx).1)
        case measure => omega
      · have hendi : ((i : Int) == (N : Int)) = false := by rw [beq_eq_false_iff_ne]; omega
        have hlti : (i : Int) < (N : Int) := by omega
        have hsz : i < s.size := by omega
        have hlt2 : i < s.data.toList.length := by rw [HL.out]; exact hsz
        have hdr : s.data.toList.drop i = s[i] :: s.data.toList.drop (i + 1) := List.drop_eq_getElem_cons hlt2
        have hsp := HSP.out
        rw [hdr, splitR] at hsp
        have HSQ := hide hsp
        have hsn : (s.data.toList.drop f).take (i + 1 - f) = g ++ [s[i]] := by rw [seg_snoc hfi (byte_at s i hsz), HG.out]
        have HSN := hide hsn
        have h8 : (s[i].toNat : Int) = 32 ↔ s[i] = 32 := by
          constructor
          · intro h
            exact UInt8.toNat_inj.1 (by have : (32 : UInt8).toNat = 32 := rfl; omega)
          · intro h
            rw [h]
            rfl
        have H8 := hide h8
        clear hdr hsp hsn h8 HSP
        by_cases h32 : (s[i].toNat : Int) = 32
        · go_wp2_with (at_builtin; refine wpList_append_any _ rfl (.tmp 22) (.tmp 27) _ rfl w.heap.size 9 i0 _ 1 16 Tryd.underlying39 hi0 hz0 hz1 hz2 rfl (by decide) (.slice A8 M c8) M xs rfl (by exact ho1.alloc _) (wr.heap.size + 1) (some ⟨wr.heap.size, 0, none⟩) 1 1 [.string (mkB g)] rfl (by exact reads_lit (blk_new_at (by simp)) (by simp) rfl) (by simp [Value.oneCell']) (by unfold maxLen; omega) (by omega) (by simp; omega) ?_; intro v5 w5 hown5 hg5 hat5)
          go_roundg (N + 1 - (i + 1))
          case rel =>
            refine ⟨i + 1, i + 1, ws ++ [g], by go_num, by go_num, by omega, by omega, by omega, by rw [List.length_append, HM.out]; simp; omega, .inl ⟨by omega, by omega, ?_⟩, ?_, ?_⟩
            · have := HSQ.out
              rw [if_pos (H8.out.1 h32)] at this
              rw [Nat.sub_self, List.take_zero, List.append_assoc, List.singleton_append]
              exact this
            · rw [List.length_append, HM.out]
              have : strsV (ws ++ [g]) = xs ++ [.string (mkB g)] := by rw [← HXS.out]; unfold strsV; rw [List.map_append]; rfl
              rw [this]
              exact hown5
            · exact Below.grown (hB.alloc hszw _) hg5 (by simp; omega) (fun x hx => (ho1.lt x hx).1)
          case measure => omega
        · have h33 : ((s[i].toNat : Int) == 32) = false := by rw [beq_eq_false_iff_ne]; exact h32
          go_wp2_with fail
          go_roundg (N + 1 - (i + 1))
          case rel =>
            refine ⟨f, i + 1, ws, rfl, by go_num, by omega, by omega, by omega, by rw [HM.out]; omega, .inl ⟨by omega, by omega, ?_⟩, ?_, hB⟩
            · have := HSQ.out
              rw [if_neg (fun h => h32 (H8.out.2 h))] at this
              rw [HSN.out]
              exact this
            · rw [HM.out, HXS.out]
              exact ho1
          case measure => omega
    · obtain rfl : i = N + 1 := by omega
      have hwW : ws = W := by
        rcases hinv.out with ⟨h, _⟩ | ⟨_, h⟩
        · omega
        · exact h
      subst hwW
      have HOW := hide hown
      clear hown hinv
      go_wp2_with fail
      go_ret
      exact ⟨_, rfl, HOW.out, hB⟩
end Go.Proofs.YtbpeienllhbffaaDoor
