/-
  The statements of layer 17: take, of acknowledged packets, and of lost ones. Printed by wip/gentk.py.
-/
import Derived.Test.YtgicljeedegncaaGreatSpRun
namespace Go.Proofs.YtgicljeedegncaaGreat
set_option linter.unusedSimpArgs false
set_option linter.unusedVariables false
open Go.RowKit

theorem pair_lt {qs : List PK} {i j : Nat} {p q : PK} (hs : (qs.map PK.n).Pairwise (· < ·)) (hi : qs[i]? = some p) (hj : qs[j]? = some q) (hij : i < j) : p.n < q.n := by
  obtain ⟨h1, h2⟩ := List.getElem?_eq_some_iff.1 hi
  obtain ⟨h3, h4⟩ := List.getElem?_eq_some_iff.1 hj
  have := List.pairwise_iff_getElem.1 hs i j (by simpa using h1) (by simpa using h3) hij
  simpa [h2, h4] using this
theorem not_before {qs : List PK} {i : Nat} {q : PK} (hs : (qs.map PK.n).Pairwise (· < ·)) (hq : qs[i]? = some q) : q.n ∉ (qs.take i).map PK.n := by
  intro hm
  obtain ⟨p, hp, he⟩ := List.mem_map.1 hm
  obtain ⟨j, hj⟩ := List.mem_iff_getElem?.1 hp
  have hji : j < i := by
    have := (List.getElem?_eq_some_iff.1 hj).1
    rw [List.length_take] at this
    omega
  rw [List.getElem?_take, if_pos hji] at hj
  have := pair_lt hs hj hq hji
  omega
theorem intVs_snoc (l : List Int) (x : Int) : intVs (l ++ [x]) = intVs l ++ [.int .i64 x] := by simp [intVs]
/-- Behind an append to one of the run's rows: the packets lie as they lay. -/
theorem pks_push {wr w8 : World} {k o r g8 cap8 m M : Nat} {row : Value} {qs : List PK} {x : Value} (hP : PksAt wr (some ⟨k, o, none⟩) qs) (hk : k < wr.heap.size) (h1 : k ≠ r) (h2 : row.ownBlock ≠ some k) (hg : (wr.alloc (.cells #[x] 3)).grownBy w8 row.ownBlock)
    (hat : (Value.slice (some ⟨g8, 0, none⟩) M cap8).ownBlock = row.ownBlock ∨ (Value.slice (some ⟨g8, 0, none⟩) M cap8).ownBlock = some (wr.alloc (.cells #[x] 3)).heap.size) :
    PksAt (w8.setCell ⟨r, m, none⟩ (.slice (some ⟨g8, 0, none⟩) M cap8)) (some ⟨k, o, none⟩) qs ∧ ∀ k' o', some (⟨k, o, none⟩ : Addr) = some ⟨k', o', none⟩ → k' ≠ r ∧ ∀ n c, (Value.slice (some ⟨g8, 0, none⟩) n c).ownBlock ≠ some k' := by
  have ho : Only (r :: row.ownBlock.toList) wr (w8.setCell ⟨r, m, none⟩ (.slice (some ⟨g8, 0, none⟩) M cap8)) := (((Only.refl _ _).alloc _).grown hg (fun j hj => .inl (by simp [hj]))).setCell (.inl (by simp)) _
  refine ⟨hP.only ho (fun k' o' e hm => ?_), fun k' o' e => ?_⟩
  · injection e with e
    injection e with e1 e2
    subst e1
    simp only [List.mem_cons, Option.mem_toList] at hm
    rcases hm with hm | hm
    · exact h1 hm
    · exact h2 hm
  · injection e with e
    injection e with e1 e2
    subst e1
    refine ⟨h1, fun n c he => ?_⟩
    rcases hat with h | h
    · exact h2 (h.symm.trans he)
    · have : some k = some (wr.alloc (.cells #[x] 3)).heap.size := he.symm.trans h
      injection this with this
      simp at this
      omega
set_option maxRecDepth 100000 in
set_option maxHeartbeats 4000000 in
theorem take17_ack [Kept] {w W : World} {f : Ft} {s : SpSt} {r : Nat} {vs va vl : Value} {sent acked lost : List Int} {now : Int} (a : Option Addr) (n c : Nat) (qs : List PK) (h : RunAt w W f s r vs va vl sent acked lost now) (hn : qs.length = n) (hl : n ≤ 256) (hP : PksAt W a qs)
    (hna : ∀ k o, a = some ⟨k, o, none⟩ → k ≠ r ∧ va.ownBlock ≠ some k) (hq : ∀ q ∈ qs, q.n ∈ sent ∧ q.n ∉ acked ∧ q.n ∉ lost) (hsrt : (qs.map PK.n).Pairwise (· < ·)) (h1 : sent.length ≤ 300) (h2 : acked.length ≤ 300) (h3 : lost.length ≤ 300) :
    Calls Tryz.prog 46 #[.pointer (some ⟨r, 0, none⟩), .slice a n c, .bool true] W fun e W' => e = .returned (.bool true) ∧ ∃ v', RunAt w W' f s r vs v' vl sent (acked ++ qs.map PK.n) lost now := by
  have HN := hide hn
  have HQ := hide hq
  have HS := hide hsrt
  have H0 := hide h
  have HP := hide hP
  have HNA := hide hna
  obtain ⟨i0, hi0, hz0, hz1, hz2⟩ := info_parts int_info17
  clear h hn hq hsrt hP hna
  go_enter Tryz.func46, Tryz.ntmps46
  go_wp2_with fail
  go_loopg [7] n (fun kx s7 wr => ∃ (i : Nat) (v : Value), s7 = .int .i64 i ∧ i ≤ n ∧ n - i ≤ kx ∧ RunAt w wr f s r vs v vl sent (acked ++ (qs.take i).map PK.n) lost now ∧ PksAt wr a qs ∧ (∀ k o, a = some ⟨k, o, none⟩ → k ≠ r ∧ v.ownBlock ≠ some k))
  case atStart => exact ⟨0, va, rfl, by omega, by omega, by simpa using H0.out, HP.out, HNA.out⟩
  case round =>
    clear H0 HP HNA
    obtain ⟨i, v, rfl, hi, hkx, hR, hP, hna⟩ := hrel
    by_cases hlt : i < n
    · obtain ⟨q, hqi⟩ : ∃ q, qs[i]? = some q := ⟨_, List.getElem?_eq_getElem (by rw [HN.out]; exact hlt)⟩
      obtain ⟨q1, q2, q3⟩ := HQ.out q (List.mem_of_getElem? hqi)
      have hnb := not_before HS.out hqi
      obtain ⟨k, o, rfl, hk, z0, z1, z2, z3, z4, z5⟩ := hP.cells hqi
      have hin : (i : Int) < (n : Int) := by omega
      have hi0' : (0 : Int) ≤ (i : Int) := by omega
      obtain ⟨c0, c1, c2, c3, c5, fz⟩ := hR.four
      obtain ⟨⟨as_, cs_, rfl, hns⟩, ⟨aa, ca, hva, hnaa⟩, ⟨al, cl, hvl, hnal⟩⟩ := hR.forms
      subst hva
      subst hvl
      have HTK : Hid ((qs.take (i + 1)).map PK.n = (qs.take i).map PK.n ++ [q.n]) := by show _ = _; rw [List.take_add_one, hqi, List.map_append]; rfl
      have hlen : (acked ++ (qs.take i).map PK.n).length = acked.length + i := by rw [List.length_append, List.length_map, List.length_take, HN.out]; omega
      have HLEN := hide hlen
      have hHs := hide (has17_any as_ sent.length cs_ sent q.n wr rfl (by omega) hns)
      have hHa := hide (has17_any aa (acked ++ (qs.take i).map PK.n).length ca (acked ++ (qs.take i).map PK.n) q.n wr rfl (by rw [hlen]; omega) hnaa)
      have hHl := hide (has17_any al lost.length cl lost q.n wr rfl (by omega) hnal)
      rw [decide_eq_true q1] at hHs
      rw [decide_eq_false (by simp only [List.mem_append]; rintro (h | h); exact q2 h; exact hnb h)] at hHa
      rw [decide_eq_false (by exact q3)] at hHl
      obtain ⟨M, hM⟩ : ∃ M, (acked ++ (qs.take i).map PK.n).length = M := ⟨_, rfl⟩
      obtain ⟨xs, hxs⟩ : ∃ xs, intVs (acked ++ (qs.take i).map PK.n) = xs := ⟨_, rfl⟩
      have hown := hR.oa
      rw [hM, hxs] at hown
      have hrl := hR.blk.lt
      have hMb : M ≤ 600 := by rw [← hM, hlen]; omega
      have HOW := hide hown
      have HXS := hide hxs
      have HM := hide hM
      have HR := hide hR
      have HPP := hide hP
      have f2 := fz 2
      have HNA := hide hna
      rw [hM] at c2 hHa
      obtain ⟨qn, qt, qz, qe, qf, qc⟩ := q
      dsimp only at z0 hHs hHa hHl HTK
      clear hown hxs hM hR hP hna hlen hns hnaa hnal fz z1 z2 z3 z4 z5 q1 q2 q3 hnb
      cases i with
      | zero =>
        simp only [Int.natCast_zero] at *
        simp only [Nat.zero_mul, Nat.add_zero] at z0
        go_wp2_with fail
        refine hHs.out.mono ?_
        rintro e1 w1 ⟨rfl, rfl⟩
        go_wp2_with fail
        refine hHa.out.mono ?_
        rintro e1 w1 ⟨rfl, rfl⟩
        go_wp2_with fail
        refine hHl.out.mono ?_
        rintro e1 w1 ⟨rfl, rfl⟩
        have HB : Hid (∀ w8, (wr.alloc (.cells #[.int .i64 qn] 3)).grownBy w8 (Value.slice aa M ca).ownBlock → w8.cell? ⟨r, 2, none⟩ = some (.slice aa (acked ++ (qs.take (0)).map PK.n).length ca) ∧ w8.frozen? ⟨r, 2, none⟩ = false) := by
          intro w8 hg8
          have hb8 := HR.out.later ((Below.refl _ _).alloc (Nat.le_refl _) (.cells #[.int .i64 qn] 3))
          have hblk8 := blk_grown hb8.blk hg8 (fun e => by (have := (HOW.out.lt _ e.symm).1; omega))
          exact ⟨Blk.cell hblk8 2, Blk.frozen hblk8 2⟩
        go_upto_region 8 with (fail)
        go_wp2_with (at_builtin; refine wpList_append_any _ rfl (.tmp 62) (.tmp 64) _ rfl (r + 1) 3 i0 _ 1 8 Tryz.underlying29 hi0 hz0 hz1 hz2 rfl (by decide) (.slice aa M ca) M xs rfl (by exact HOW.out.alloc _) (wr.heap.size + 1) (some ⟨wr.heap.size, 0, none⟩) 1 1 [.int .i64 qn] rfl (by exact reads_lit (blk_new_at (by simp)) (by simp) rfl) (by simp [Value.oneCell']) (by unfold maxLen; omega) (by omega) (by simp; omega) ?_; intro v8 w8 hown8 hg8 hat8; obtain ⟨g8, cap8, rfl⟩ := own_form hown8; obtain ⟨dx, ex⟩ := HB.out _ hg8)
        all_goals
          go_roundg (n - (0 + 1))
          case rel =>
            have hk0 := HNA.out k o rfl
            have hpp := pks_push (m := 2) HPP.out hk hk0.1 (by have h := hk0.2; rw [HM.out] at h; exact h) hg8 hat8
            refine ⟨0 + 1, .slice (some ⟨g8, 0, none⟩) (M + 1) cap8, by go_num, by omega, by omega, ?_, hpp.1, fun k' o' e => ⟨(hpp.2 k' o' e).1, (hpp.2 k' o' e).2 _ _⟩⟩
            have h5 := HR.out
            rw [HM.out] at h5
            have e1 : (acked ++ (qs.take (0 + 1)).map PK.n).length = M + 1 := by rw [HTK.out, ← List.append_assoc, List.length_append, HM.out]; rfl
            have e2 : intVs (acked ++ (qs.take (0 + 1)).map PK.n) = xs ++ [.int .i64 qn] := by rw [HTK.out, ← List.append_assoc, intVs_snoc, HXS.out]
            exact h5.pushA ((Below.refl _ _).alloc (Nat.le_refl _) _) hg8 hat8 (by rw [e1, e2]; exact hown8)
          case measure => omega
      | succ m =>
        obtain ⟨p, hp⟩ : ∃ p, qs[m]? = some p := ⟨_, List.getElem?_eq_getElem (by rw [HN.out]; omega)⟩
        have hlt2 := pair_lt HS.out hp hqi (Nat.lt_succ_self m)
        obtain ⟨k', o', hko, _, y0, _⟩ := HPP.out.cells hp
        obtain ⟨rfl, rfl⟩ : k = k' ∧ o = o' := by injection hko with e1; injection e1 with e1 e2 e3; exact ⟨e1, e2⟩
        dsimp only at hlt2
        have hgt : ¬ qn ≤ p.n := by omega
        simp only [Int.natCast_add, Int.natCast_one] at *
        go_wp2_with fail
        refine hHs.out.mono ?_
        rintro e1 w1 ⟨rfl, rfl⟩
        go_wp2_with fail
        refine hHa.out.mono ?_
        rintro e1 w1 ⟨rfl, rfl⟩
        go_wp2_with fail
        refine hHl.out.mono ?_
        rintro e1 w1 ⟨rfl, rfl⟩
        have HB : Hid (∀ w8, (wr.alloc (.cells #[.int .i64 qn] 3)).grownBy w8 (Value.slice aa M ca).ownBlock → w8.cell? ⟨r, 2, none⟩ = some (.slice aa (acked ++ (qs.take (m + 1)).map PK.n).length ca) ∧ w8.frozen? ⟨r, 2, none⟩ = false) := by
          intro w8 hg8
          have hb8 := HR.out.later ((Below.refl _ _).alloc (Nat.le_refl _) (.cells #[.int .i64 qn] 3))
          have hblk8 := blk_grown hb8.blk hg8 (fun e => by (have := (HOW.out.lt _ e.symm).1; omega))
          exact ⟨Blk.cell hblk8 2, Blk.frozen hblk8 2⟩
        go_upto_region 8 with (fail)
        go_wp2_with (at_builtin; refine wpList_append_any _ rfl (.tmp 62) (.tmp 64) _ rfl (r + 1) 3 i0 _ 1 8 Tryz.underlying29 hi0 hz0 hz1 hz2 rfl (by decide) (.slice aa M ca) M xs rfl (by exact HOW.out.alloc _) (wr.heap.size + 1) (some ⟨wr.heap.size, 0, none⟩) 1 1 [.int .i64 qn] rfl (by exact reads_lit (blk_new_at (by simp)) (by simp) rfl) (by simp [Value.oneCell']) (by unfold maxLen; omega) (by omega) (by simp; omega) ?_; intro v8 w8 hown8 hg8 hat8; obtain ⟨g8, cap8, rfl⟩ := own_form hown8; obtain ⟨dx, ex⟩ := HB.out _ hg8)
        all_goals
          go_roundg (n - (m + 1 + 1))
          case rel =>
            have hk0 := HNA.out k o rfl
            have hpp := pks_push (m := 2) HPP.out hk hk0.1 (by have h := hk0.2; rw [HM.out] at h; exact h) hg8 hat8
            refine ⟨m + 1 + 1, .slice (some ⟨g8, 0, none⟩) (M + 1) cap8, by go_num, by omega, by omega, ?_, hpp.1, fun k' o' e => ⟨(hpp.2 k' o' e).1, (hpp.2 k' o' e).2 _ _⟩⟩
            have h5 := HR.out
            rw [HM.out] at h5
            have e1 : (acked ++ (qs.take (m + 1 + 1)).map PK.n).length = M + 1 := by rw [HTK.out, ← List.append_assoc, List.length_append, HM.out]; rfl
            have e2 : intVs (acked ++ (qs.take (m + 1 + 1)).map PK.n) = xs ++ [.int .i64 qn] := by rw [HTK.out, ← List.append_assoc, intVs_snoc, HXS.out]
            exact h5.pushA ((Below.refl _ _).alloc (Nat.le_refl _) _) hg8 hat8 (by rw [e1, e2]; exact hown8)
          case measure => omega
    · obtain rfl : i = n := by omega
      have hin : ¬ (i : Int) < (i : Int) := by omega
      rw [List.take_of_length_le (by rw [HN.out]; exact Nat.le_refl _)] at hR
      go_wp2_with fail
      go_ret
      exact ⟨rfl, v, hR⟩
set_option maxRecDepth 100000 in
set_option maxHeartbeats 4000000 in
theorem take17_lost [Kept] {w W : World} {f : Ft} {s : SpSt} {r : Nat} {vs va vl : Value} {sent acked lost : List Int} {now : Int} (a : Option Addr) (n c : Nat) (qs : List PK) (h : RunAt w W f s r vs va vl sent acked lost now) (hn : qs.length = n) (hl : n ≤ 256) (hP : PksAt W a qs)
    (hna : ∀ k o, a = some ⟨k, o, none⟩ → k ≠ r ∧ vl.ownBlock ≠ some k) (hq : ∀ q ∈ qs, q.n ∈ sent ∧ q.n ∉ acked ∧ q.n ∉ lost) (hsrt : (qs.map PK.n).Pairwise (· < ·)) (h1 : sent.length ≤ 300) (h2 : acked.length ≤ 300) (h3 : lost.length ≤ 300) :
    Calls Tryz.prog 46 #[.pointer (some ⟨r, 0, none⟩), .slice a n c, .bool false] W fun e W' => e = .returned (.bool true) ∧ ∃ v', RunAt w W' f s r vs va v' sent acked (lost ++ qs.map PK.n) now := by
  have HN := hide hn
  have HQ := hide hq
  have HS := hide hsrt
  have H0 := hide h
  have HP := hide hP
  have HNA := hide hna
  obtain ⟨i0, hi0, hz0, hz1, hz2⟩ := info_parts int_info17
  clear h hn hq hsrt hP hna
  go_enter Tryz.func46, Tryz.ntmps46
  go_wp2_with fail
  go_loopg [7] n (fun kx s7 wr => ∃ (i : Nat) (v : Value), s7 = .int .i64 i ∧ i ≤ n ∧ n - i ≤ kx ∧ RunAt w wr f s r vs va v sent acked (lost ++ (qs.take i).map PK.n) now ∧ PksAt wr a qs ∧ (∀ k o, a = some ⟨k, o, none⟩ → k ≠ r ∧ v.ownBlock ≠ some k))
  case atStart => exact ⟨0, vl, rfl, by omega, by omega, by simpa using H0.out, HP.out, HNA.out⟩
  case round =>
    clear H0 HP HNA
    obtain ⟨i, v, rfl, hi, hkx, hR, hP, hna⟩ := hrel
    by_cases hlt : i < n
    · obtain ⟨q, hqi⟩ : ∃ q, qs[i]? = some q := ⟨_, List.getElem?_eq_getElem (by rw [HN.out]; exact hlt)⟩
      obtain ⟨q1, q2, q3⟩ := HQ.out q (List.mem_of_getElem? hqi)
      have hnb := not_before HS.out hqi
      obtain ⟨k, o, rfl, hk, z0, z1, z2, z3, z4, z5⟩ := hP.cells hqi
      have hin : (i : Int) < (n : Int) := by omega
      have hi0' : (0 : Int) ≤ (i : Int) := by omega
      obtain ⟨c0, c1, c2, c3, c5, fz⟩ := hR.four
      obtain ⟨⟨as_, cs_, rfl, hns⟩, ⟨aa, ca, hva, hnaa⟩, ⟨al, cl, hvl, hnal⟩⟩ := hR.forms
      subst hva
      subst hvl
      have HTK : Hid ((qs.take (i + 1)).map PK.n = (qs.take i).map PK.n ++ [q.n]) := by show _ = _; rw [List.take_add_one, hqi, List.map_append]; rfl
      have hlen : (lost ++ (qs.take i).map PK.n).length = lost.length + i := by rw [List.length_append, List.length_map, List.length_take, HN.out]; omega
      have HLEN := hide hlen
      have hHs := hide (has17_any as_ sent.length cs_ sent q.n wr rfl (by omega) hns)
      have hHa := hide (has17_any aa acked.length ca acked q.n wr rfl (by omega) hnaa)
      have hHl := hide (has17_any al (lost ++ (qs.take i).map PK.n).length cl (lost ++ (qs.take i).map PK.n) q.n wr rfl (by rw [hlen]; omega) hnal)
      rw [decide_eq_true q1] at hHs
      rw [decide_eq_false (by exact q2)] at hHa
      rw [decide_eq_false (by simp only [List.mem_append]; rintro (h | h); exact q3 h; exact hnb h)] at hHl
      obtain ⟨M, hM⟩ : ∃ M, (lost ++ (qs.take i).map PK.n).length = M := ⟨_, rfl⟩
      obtain ⟨xs, hxs⟩ : ∃ xs, intVs (lost ++ (qs.take i).map PK.n) = xs := ⟨_, rfl⟩
      have hown := hR.ol
      rw [hM, hxs] at hown
      have hrl := hR.blk.lt
      have hMb : M ≤ 600 := by rw [← hM, hlen]; omega
      have HOW := hide hown
      have HXS := hide hxs
      have HM := hide hM
      have HR := hide hR
      have HPP := hide hP
      have f3 := fz 3
      have HNA := hide hna
      rw [hM] at c3 hHl
      obtain ⟨qn, qt, qz, qe, qf, qc⟩ := q
      dsimp only at z0 hHs hHa hHl HTK
      clear hown hxs hM hR hP hna hlen hns hnaa hnal fz z1 z2 z3 z4 z5 q1 q2 q3 hnb
      cases i with
      | zero =>
        simp only [Int.natCast_zero] at *
        simp only [Nat.zero_mul, Nat.add_zero] at z0
        go_wp2_with fail
        refine hHs.out.mono ?_
        rintro e1 w1 ⟨rfl, rfl⟩
        go_wp2_with fail
        refine hHa.out.mono ?_
        rintro e1 w1 ⟨rfl, rfl⟩
        go_wp2_with fail
        refine hHl.out.mono ?_
        rintro e1 w1 ⟨rfl, rfl⟩
        have HB : Hid (∀ w8, (wr.alloc (.cells #[.int .i64 qn] 3)).grownBy w8 (Value.slice al M cl).ownBlock → w8.cell? ⟨r, 3, none⟩ = some (.slice al (lost ++ (qs.take (0)).map PK.n).length cl) ∧ w8.frozen? ⟨r, 3, none⟩ = false) := by
          intro w8 hg8
          have hb8 := HR.out.later ((Below.refl _ _).alloc (Nat.le_refl _) (.cells #[.int .i64 qn] 3))
          have hblk8 := blk_grown hb8.blk hg8 (fun e => by (have := (HOW.out.lt _ e.symm).1; omega))
          exact ⟨Blk.cell hblk8 3, Blk.frozen hblk8 3⟩
        go_upto_region 9 with (fail)
        go_wp2_with (at_builtin; refine wpList_append_any _ rfl (.tmp 72) (.tmp 74) _ rfl (r + 1) 3 i0 _ 1 8 Tryz.underlying29 hi0 hz0 hz1 hz2 rfl (by decide) (.slice al M cl) M xs rfl (by exact HOW.out.alloc _) (wr.heap.size + 1) (some ⟨wr.heap.size, 0, none⟩) 1 1 [.int .i64 qn] rfl (by exact reads_lit (blk_new_at (by simp)) (by simp) rfl) (by simp [Value.oneCell']) (by unfold maxLen; omega) (by omega) (by simp; omega) ?_; intro v8 w8 hown8 hg8 hat8; obtain ⟨g8, cap8, rfl⟩ := own_form hown8; obtain ⟨dx, ex⟩ := HB.out _ hg8)
        all_goals
          go_roundg (n - (0 + 1))
          case rel =>
            have hk0 := HNA.out k o rfl
            have hpp := pks_push (m := 3) HPP.out hk hk0.1 (by have h := hk0.2; rw [HM.out] at h; exact h) hg8 hat8
            refine ⟨0 + 1, .slice (some ⟨g8, 0, none⟩) (M + 1) cap8, by go_num, by omega, by omega, ?_, hpp.1, fun k' o' e => ⟨(hpp.2 k' o' e).1, (hpp.2 k' o' e).2 _ _⟩⟩
            have h5 := HR.out
            rw [HM.out] at h5
            have e1 : (lost ++ (qs.take (0 + 1)).map PK.n).length = M + 1 := by rw [HTK.out, ← List.append_assoc, List.length_append, HM.out]; rfl
            have e2 : intVs (lost ++ (qs.take (0 + 1)).map PK.n) = xs ++ [.int .i64 qn] := by rw [HTK.out, ← List.append_assoc, intVs_snoc, HXS.out]
            exact h5.pushL ((Below.refl _ _).alloc (Nat.le_refl _) _) hg8 hat8 (by rw [e1, e2]; exact hown8)
          case measure => omega
      | succ m =>
        obtain ⟨p, hp⟩ : ∃ p, qs[m]? = some p := ⟨_, List.getElem?_eq_getElem (by rw [HN.out]; omega)⟩
        have hlt2 := pair_lt HS.out hp hqi (Nat.lt_succ_self m)
        obtain ⟨k', o', hko, _, y0, _⟩ := HPP.out.cells hp
        obtain ⟨rfl, rfl⟩ : k = k' ∧ o = o' := by injection hko with e1; injection e1 with e1 e2 e3; exact ⟨e1, e2⟩
        dsimp only at hlt2
        have hgt : ¬ qn ≤ p.n := by omega
        simp only [Int.natCast_add, Int.natCast_one] at *
        go_wp2_with fail
        refine hHs.out.mono ?_
        rintro e1 w1 ⟨rfl, rfl⟩
        go_wp2_with fail
        refine hHa.out.mono ?_
        rintro e1 w1 ⟨rfl, rfl⟩
        go_wp2_with fail
        refine hHl.out.mono ?_
        rintro e1 w1 ⟨rfl, rfl⟩
        have HB : Hid (∀ w8, (wr.alloc (.cells #[.int .i64 qn] 3)).grownBy w8 (Value.slice al M cl).ownBlock → w8.cell? ⟨r, 3, none⟩ = some (.slice al (lost ++ (qs.take (m + 1)).map PK.n).length cl) ∧ w8.frozen? ⟨r, 3, none⟩ = false) := by
          intro w8 hg8
          have hb8 := HR.out.later ((Below.refl _ _).alloc (Nat.le_refl _) (.cells #[.int .i64 qn] 3))
          have hblk8 := blk_grown hb8.blk hg8 (fun e => by (have := (HOW.out.lt _ e.symm).1; omega))
          exact ⟨Blk.cell hblk8 3, Blk.frozen hblk8 3⟩
        go_upto_region 9 with (fail)
        go_wp2_with (at_builtin; refine wpList_append_any _ rfl (.tmp 72) (.tmp 74) _ rfl (r + 1) 3 i0 _ 1 8 Tryz.underlying29 hi0 hz0 hz1 hz2 rfl (by decide) (.slice al M cl) M xs rfl (by exact HOW.out.alloc _) (wr.heap.size + 1) (some ⟨wr.heap.size, 0, none⟩) 1 1 [.int .i64 qn] rfl (by exact reads_lit (blk_new_at (by simp)) (by simp) rfl) (by simp [Value.oneCell']) (by unfold maxLen; omega) (by omega) (by simp; omega) ?_; intro v8 w8 hown8 hg8 hat8; obtain ⟨g8, cap8, rfl⟩ := own_form hown8; obtain ⟨dx, ex⟩ := HB.out _ hg8)
        all_goals
          go_roundg (n - (m + 1 + 1))
          case rel =>
            have hk0 := HNA.out k o rfl
            have hpp := pks_push (m := 3) HPP.out hk hk0.1 (by have h := hk0.2; rw [HM.out] at h; exact h) hg8 hat8
            refine ⟨m + 1 + 1, .slice (some ⟨g8, 0, none⟩) (M + 1) cap8, by go_num, by omega, by omega, ?_, hpp.1, fun k' o' e => ⟨(hpp.2 k' o' e).1, (hpp.2 k' o' e).2 _ _⟩⟩
            have h5 := HR.out
            rw [HM.out] at h5
            have e1 : (lost ++ (qs.take (m + 1 + 1)).map PK.n).length = M + 1 := by rw [HTK.out, ← List.append_assoc, List.length_append, HM.out]; rfl
            have e2 : intVs (lost ++ (qs.take (m + 1 + 1)).map PK.n) = xs ++ [.int .i64 qn] := by rw [HTK.out, ← List.append_assoc, intVs_snoc, HXS.out]
            exact h5.pushL ((Below.refl _ _).alloc (Nat.le_refl _) _) hg8 hat8 (by rw [e1, e2]; exact hown8)
          case measure => omega
    · obtain rfl : i = n := by omega
      have hin : ¬ (i : Int) < (i : Int) := by omega
      rw [List.take_of_length_le (by rw [HN.out]; exact Nat.le_refl _)] at hR
      go_wp2_with fail
      go_ret
      exact ⟨rfl, v, hR⟩
end Go.Proofs.YtgicljeedegncaaGreat
