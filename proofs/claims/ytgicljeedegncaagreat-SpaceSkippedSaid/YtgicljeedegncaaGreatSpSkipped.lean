/-
  The statements of layer 17: SpaceSkipped.
-/
import Derived.Test.YtgicljeedegncaaGreatSpSkipLaw
import Derived.Test.YtgicljeedegncaaGreatMgBase
namespace Go.Proofs.YtgicljeedegncaaGreat
set_option linter.unusedSimpArgs false
set_option linter.unusedVariables false
open Go.RowKit

/-- A space of the law's own, and a row of integers. -/
structure SkAt (w W : World) (f : Ft) (s : SpSt) (v : Value) (sk : List Int) : Prop where
  sp : SpL w W f s
  own : W.ownsRow w.heap.size 3 1 v sk.length (intVs sk)
  off : ∀ k, v.ownBlock = some k → k ∉ f.all
section
variable {w W W' : World} {f f' : Ft} {s s' : SpSt} {v v' : Value} {sk sk' : List Int}
theorem SkAt.later (h : SkAt w W f s v sk) (hb : Below W.heap.size W W') : SkAt w W' f s v sk := ⟨h.sp.later hb, own_only2 (S := []) h.own (only_of_below hb) (by simp), h.off⟩
theorem SkAt.alloc (h : SkAt w W f s v sk) (o : Obj) : SkAt w (W.alloc o) f s v sk := h.later ((Below.refl _ _).alloc (Nat.le_refl _) o)
theorem SkAt.step (h : SkAt w W f s v sk) (hp : SpPost W f s' f' W') : SkAt w W' f' s' v sk := ⟨h.sp.step hp, own_only2 h.own hp.only (fun k hk hm => h.off k hk hm), fun k hk => hp.off (h.own.lt k hk).2 (h.off k hk)⟩
theorem SkAt.push (h : SkAt w W f s v sk) (hg : W.grownBy W' v.ownBlock) (hat : v'.ownBlock = v.ownBlock ∨ v'.ownBlock = some W.heap.size) (hown : W'.ownsRow w.heap.size 3 1 v' sk'.length (intVs sk')) : SkAt w W' f s v' sk' := by
  have ho := only_row hg
  refine ⟨⟨h.sp.sp.only ho (fun x hx hm => by simp only [Option.mem_toList] at hm; exact h.off x hm hx), h.sp.nb, h.sp.below.trans (ho.below (fun x hx => by simp only [Option.mem_toList] at hx; exact (h.own.lt x hx).1) h.sp.below.size)⟩, hown, fun k hk hm => ?_⟩
  rcases hat with e | e
  · rw [e] at hk; exact h.off k hk hm
  · rw [e] at hk
    cases hk
    have := h.sp.sp.lt _ hm
    omega
end
/-- The skipped numbers. -/
structure SkInv (s : SpSt) (M sk : List Int) (n : Int) : Prop where
  b : Sk s M n
  gap : ∀ k ∈ sk, k ∉ M ∧ k - 1 ∈ M ∧ k < n
  srt : sk.Pairwise (· < ·)
theorem SkInv.next {s : SpSt} {M sk : List Int} {n : Int} (h : SkInv s M sk n) (hg : GoodR s.K) : SkInv (sentSt s (p17 n n)) (M ++ [n]) sk (n + 1) :=
  ⟨h.b.next hg, fun k hk => by
    obtain ⟨h1, h2, h3⟩ := h.gap k hk
    refine ⟨fun hm => ?_, by simp [h2], by omega⟩
    simp at hm
    rcases hm with hm | hm
    · exact h1 hm
    · omega, h.srt⟩
theorem SkInv.skip {s : SpSt} {M sk : List Int} {n : Int} (h : SkInv s M sk n) (hn : n - 1 ∈ M) : SkInv s M (sk ++ [n]) (n + 1) :=
  ⟨h.b.skip, fun k hk => by
    simp at hk
    rcases hk with hk | rfl
    · obtain ⟨h1, h2, h3⟩ := h.gap k hk
      exact ⟨h1, h2, by omega⟩
    · exact ⟨fun hm => by have := h.b.lt k hm; omega, hn, by omega⟩, by
    rw [List.pairwise_append]
    exact ⟨h.srt, by simp, fun a ha b hb => by simp at hb; subst hb; exact (h.gap a ha).2.2⟩⟩
theorem gone_not {sk : List Int} {j : Nat} {k : Int} (hs : sk.Pairwise (· < ·)) (hk : sk[j]? = some k) : k - 1 ∉ (sk.take j).map (fun x => x - 1) := by
  intro hm
  obtain ⟨x, hx, he⟩ := List.mem_map.1 hm
  obtain ⟨i, hi⟩ := List.mem_iff_getElem?.1 hx
  have hij : i < j := by
    have := (List.getElem?_eq_some_iff.1 hi).1
    rw [List.length_take] at this
    omega
  rw [List.getElem?_take, if_pos hij] at hi
  obtain ⟨h1, h2⟩ := List.getElem?_eq_some_iff.1 hi
  obtain ⟨h3, h4⟩ := List.getElem?_eq_some_iff.1 hk
  have := List.pairwise_iff_getElem.1 hs i j h1 h3 hij
  omega

set_option maxRecDepth 100000 in
set_option maxHeartbeats 8000000 in
theorem skipped_any (a : Option Addr) (len cap : Nat) (zs : List Int) (w : World) (hz : IntsAt w a len cap zs) :
    Calls Tryz.prog 5 #[.slice a len cap] w fun e w' => e = .returned (.bool true) ∧ Below w.heap.size w w' := by
  have HZ := hide hz
  clear hz
  obtain ⟨i0, hi0, hz0, hz1, hz2⟩ := info_parts int_info17
  go_enter Tryz.func5, Tryz.ntmps5
  go_wp2_with fail
  refine (spnew_ok 256 _ (by omega) (by omega)).mono ?_
  rintro e1 w1 ⟨f1, rfl, hs1, hn1, hb1⟩
  have H1 := hide (SkAt.mk (v := .slice none 0 0) (sk := []) (SpL.mk hs1 hn1 hb1) ⟨rfl, .inl ⟨rfl, rfl⟩⟩ (fun k hk => by simp [Value.ownBlock] at hk))
  have I1 : Hid (SkInv ⟨256, -1, [], [], [], -1, -1, -1⟩ [] [] 0) := ⟨⟨rfl, rfl, by decide, by decide, fun m hm => by simp at hm, .nil, fun x => by simp [memR_nil], by simp⟩, fun k hk => by simp at hk, .nil⟩
  clear hs1 hn1 hb1
  go_wp2_with fail
  go_loopg [5, 6, 7] 30 (fun kx s5 s6 s7 wr => ∃ (i : Nat) (f : Ft) (s : SpSt) (M sk : List Int) (n : Int), s5 = .int .i64 n ∧ s7 = .int .i64 i ∧ i ≤ 30 ∧ 30 - i ≤ kx ∧ f.b = f1.b ∧ 0 ≤ n ∧ n ≤ 5 * i ∧ M.length ≤ 4 * i ∧ sk.length = i ∧ SkAt w wr f s s6 sk ∧ Hid (SkInv s M sk n))
  case atStart => exact ⟨0, f1, _, [], [], 0, rfl, rfl, by omega, by omega, rfl, by omega, by omega, by simp, rfl, H1.out, I1⟩
  case round =>
    clear H1 I1
    obtain ⟨i, f, s, M, sk, n, rfl, rfl, hi, hkx, hfb, hn0, hn5, hM4, hskl, hA, hI⟩ := hrel
    by_cases hlt : i < len ∧ i < 30
    · obtain ⟨hlt, hi30⟩ := hlt
      obtain ⟨x, z, rfl, hz, hxl, z0, z1, hlm⟩ := intsAt_get HZ.out hlt
      have hz' := (hA.sp.below.cell (p := x.add i) (by rw [block_of_add]; exact hxl)).trans hz
      have hin : (i : Int) < (len : Int) := by omega
      have hi3 : (i : Int) < 30 := by omega
      have hii : (0 : Int) ≤ (i : Int) := by omega
      have HA := hide hA
      have b0 := Int.emod_nonneg z (show (4 : Int) ≠ 0 by decide)
      have b1 := Int.emod_lt_of_pos z (show (0 : Int) < 4 by decide)
      clear hA hz
      go_wp2_with fail
      refine (bring_any z 4 _ (by decide) (by decide) z0 z1).mono ?_
      rintro e2 w2 ⟨rfl, rfl⟩
      obtain ⟨k0, hk0⟩ : ∃ k0, z % 4 = k0 := ⟨_, rfl⟩
      rw [hk0] at b0 b1 ⊢
      clear hk0 hz'
      go_wp2_with fail
      go_loopg [5, 8] 4 (fun ky s5 s8 wi => ∃ (j : Nat) (f : Ft) (s : SpSt) (M : List Int) (n : Int), s5 = .int .i64 n ∧ s8 = .int .i64 (k0 - j) ∧ (j : Int) ≤ k0 + 1 ∧ 4 - j ≤ ky ∧ f.b = f1.b ∧ 0 ≤ n ∧ n ≤ 5 * i + j ∧ M.length ≤ 4 * i + j ∧ (j = 0 ∨ n - 1 ∈ M) ∧ SkAt w wi f s u6 sk ∧ Hid (SkInv s M sk n))
      case atStart => exact ⟨0, f, s, M, n, rfl, by simp, by omega, by omega, hfb, hn0, by omega, by omega, .inl rfl, HA.out, hI⟩
      case round =>
        clear HA hI hfb hn0 hn5 hM4
        obtain ⟨j, f, s, M, n, rfl, rfl, hj, hky, hfb, hn0, hn5, hM4, hj0, hA, hI⟩ := hrel
        by_cases hjk : 0 ≤ k0 - (j : Int)
        · have HA := hide hA
          clear hA
          go_wp2_with fail
          refine (packet17_any _ _ _).mono ?_
          rintro e3 w3 ⟨rfl, hb3⟩
          have HA3 := hide (HA.out.later hb3)
          obtain ⟨q1, q2, q3, q4⟩ := hI.b.can HA3.out.sp.sp.kn.good (by omega) (by omega)
          have HC := hide (spsent_ok f s (p17 n n) w3 HA3.out.sp.sp q1 q2 q3 q4)
          rw [hfb] at HC
          have HI2 := hide (hI.next HA3.out.sp.sp.kn.good)
          clear hb3 HA q1 q2 q3 q4
          go_wp2_with fail
          refine HC.out.mono ?_
          rintro e4 w4 ⟨rfl, f4, hp4⟩
          have hA4 := HA3.out.step hp4
          have hfb4 := hp4.b.trans hfb
          go_wp2_with fail
          go_roundg (4 - (j + 1))
          case rel => exact ⟨j + 1, f4, _, M ++ [n], n + 1, by go_num, by go_num, by omega, by omega, hfb4, by omega, by omega, by simp; omega, .inr (by simp), hA4, HI2.out⟩
          case measure => omega
        · have hM1 : n - 1 ∈ M := by
            rcases hj0 with h | h
            · omega
            · exact h
          obtain ⟨A8, c8, hv8⟩ := own_slice' hA.own
          subst hv8
          obtain ⟨xs, hxs⟩ : ∃ xs, intVs sk = xs := ⟨_, rfl⟩
          have hown := hA.own
          rw [hskl, hxs] at hown
          have HOW := hide hown
          have HXS := hide hxs
          have HA := hide hA
          have HI2 := hide (SkInv.skip hI hM1)
          have hsz := hA.sp.below.size
          rw [hskl]
          clear hA hown hxs hM1
          go_wp2_with (at_builtin; refine wpList_append_any _ rfl (.tmp 52) (.tmp 54) _ rfl w.heap.size 3 i0 _ 1 8 Tryz.underlying29 hi0 hz0 hz1 hz2 rfl (by decide) (.slice A8 i c8) i xs rfl (by exact HOW.out.alloc _) (wr.heap.size + 1) (some ⟨wr.heap.size, 0, none⟩) 1 1 [.int .i64 n] rfl (by exact reads_lit (blk_new_at (by simp)) (by simp) rfl) (by simp [Value.oneCell']) (by unfold maxLen; omega) (by omega) (by simp; omega) ?_; intro v8 w8 hown8 hg8 hat8)
          go_roundg (30 - (i + 1))
          case rel =>
            have ha := HA.out.alloc (.cells #[.int .i64 n] 3)
            rw [hskl] at ha
            exact ⟨i + 1, f, s, M, sk ++ [n], n + 1, by go_num, by go_num, by omega, by omega, hfb, by omega, by omega, by omega, by simp [hskl], ha.push hg8 hat8 (by
              rw [show (sk ++ [n]).length = i + 1 by simp [hskl]]
              unfold intVs at *
              rw [List.map_append, HXS.out]
              exact hown8), HI2.out⟩
          case measure => omega
    · have hc : (¬ (i : Int) < (len : Int)) ∨ ((i : Int) < (len : Int) ∧ ¬ (i : Int) < 30) := by omega
      have hii : (0 : Int) ≤ (i : Int) := by omega
      have hA0 := hA
      obtain ⟨A8, c8, hv8⟩ := own_slice' hA.own
      subst hv8
      have HA := hide hA
      clear hA hA0 hlt hkx
      rcases hc with hin | ⟨hin, hi3⟩
      all_goals
        go_wp2_with fail
        go_loopg [9] i (fun kx s9 wr => ∃ j : Nat, s9 = .int .i64 j ∧ j ≤ i ∧ i - j ≤ kx ∧ SkAt w wr f s (.slice A8 sk.length c8) sk)
        case atStart => exact ⟨0, rfl, by omega, by omega, HA.out⟩
        case round =>
          clear HA
          obtain ⟨j, rfl, hj, hkx, hA⟩ := hrel
          by_cases hji : j < i
          · obtain ⟨k, hk⟩ : ∃ k, sk[j]? = some k := ⟨_, List.getElem?_eq_getElem (by rw [hskl]; exact hji)⟩
            obtain ⟨k1, k2, k3⟩ := hI.gap k (List.mem_of_getElem? hk)
            have k4 := hI.b.lt _ k2
            obtain ⟨bk, rfl, hbl, z0⟩ := (own_ints17 rfl hA.own).1 j k hk
            have hjn : (j : Int) < (i : Int) := by omega
            have hj0 : (0 : Int) ≤ (j : Int) := by omega
            have HA := hide hA
            clear hA hk
            go_wp2_with fail
            refine (ack1_17 k k _ HA.out.sp rfl).mono ?_
            rintro e3 w3 ⟨a3, c3, rfl, hr3, hna3, hS3, hb3⟩
            have HA3 := hide (HA.out.later hb3)
            have HC := hide (spack_any f s a3 c3 [⟨k, k⟩] ⟨k, k⟩ _ w3 hS3.sp (ackOk1 (by omega) (by omega) (by omega)) rfl hr3 hna3 rfl)
            rw [hfb] at HC
            have hun := hI.b.unsent (lo := k) k1 (by omega)
            clear hr3 hna3 hS3 hb3 HA
            unfold ackC at *
            go_wp2_with fail
            refine HC.out.mono ?_
            rintro e4 w4 (⟨hall, _⟩ | ⟨_, rfl, hb4⟩)
            · exact absurd hall hun
            have HA4 := hide (HA3.out.later hb4)
            clear hb4 HA3 HC hun
            go_wp2_with fail
            refine (ack1_17 (k - 1) k _ HA4.out.sp rfl).mono ?_
            rintro e5 w5 ⟨a5, c5, rfl, hr5, hna5, hS5, hb5⟩
            have HA5 := hide (HA4.out.later hb5)
            have HC := hide (spack_any f s a5 c5 [⟨k - 1, k⟩] ⟨k - 1, k⟩ _ w5 hS5.sp (ackOk1 (by omega) (by omega) (by omega)) rfl hr5 hna5 rfl)
            rw [hfb] at HC
            have hun := hI.b.unsent (lo := k - 1) k1 (by omega)
            clear hr5 hna5 hS5 hb5 HA4
            unfold ackC at *
            go_wp2_with fail
            refine HC.out.mono ?_
            rintro e6 w6 (⟨hall, _⟩ | ⟨_, rfl, hb6⟩)
            · exact absurd hall hun
            have hA6 := HA5.out.later hb6
            clear hb6 HA5 HC hun
            go_wp2_with fail
            go_roundg (i - (j + 1))
            case rel => exact ⟨j + 1, by go_num, by omega, by omega, hA6⟩
            case measure => omega
          · obtain rfl : j = i := by omega
            have hjn : ¬ (j : Int) < (j : Int) := by omega
            clear hji hkx
            go_wp2_with fail
            go_loopg [15] j (fun kx s15 wr => ∃ (l : Nat) (f : Ft) (s : SpSt), s15 = .int .i64 l ∧ l ≤ j ∧ j - l ≤ kx ∧ f.b = f1.b ∧ s.ps = pks17 (leftM M ((sk.take l).map fun x => x - 1)) ∧ (∀ x, memR x s.K ↔ x ∈ M) ∧ SkAt w wr f s (.slice A8 sk.length c8) sk)
            case atStart => exact ⟨0, f, s, rfl, by omega, by omega, hfb, by rw [hI.b.ps]; simp [leftM_nil], hI.b.mem, hA⟩
            case round =>
              clear hA hfb
              obtain ⟨l, f, s, rfl, hl, hkx, hfb, hps, hmem, hA⟩ := hrel
              by_cases hlj : l < j
              · obtain ⟨k, hk⟩ : ∃ k, sk[l]? = some k := ⟨_, List.getElem?_eq_getElem (by rw [hskl]; exact hlj)⟩
                obtain ⟨k1, k2, k3⟩ := hI.gap k (List.mem_of_getElem? hk)
                have k4 := hI.b.lt _ k2
                have hgone := gone_not hI.srt hk
                obtain ⟨bk, rfl, hbl, z0⟩ := (own_ints17 rfl hA.own).1 l k hk
                have hjn : (l : Int) < (j : Int) := by omega
                have hj0 : (0 : Int) ≤ (l : Int) := by omega
                have HTK : Hid ((sk.take (l + 1)).map (fun x => x - 1) = (sk.take l).map (fun x => x - 1) ++ [k - 1]) := by show _ = _; rw [List.take_add_one, hk, List.map_append]; rfl
                have HA := hide hA
                have HT := hide (told_one hI.b.srt k2 hgone)
                have HL := hide (left_step hI.b.srt k2 hgone)
                clear hA hk hgone
                go_wp2_with fail
                refine (ack1_17 (k - 1) (k - 1) _ HA.out.sp rfl).mono ?_
                rintro e3 w3 ⟨a3, c3, rfl, hr3, hna3, hS3, hb3⟩
                have HA3 := hide (HA.out.later hb3)
                have HC := hide (spack_any f s a3 c3 [⟨k - 1, k - 1⟩] ⟨k - 1, k - 1⟩ _ w3 hS3.sp (ackOk1 (by omega) (by omega) (by omega)) rfl hr3 hna3 rfl)
                rw [hfb] at HC
                have hyes : s.K.any (inP ⟨k - 1, k - 1⟩) = true := any_one ((hmem _).2 k2)
                clear hr3 hna3 hS3 hb3 HA
                unfold ackC at *
                go_wp2_with fail
                refine HC.out.mono ?_
                rintro e4 w4 (⟨_, R4, a4, c4, f4, rfl, hp4, hc4, hk4, hq4⟩ | ⟨⟨r, hr, hf⟩, _⟩)
                rotate_left
                · simp at hr
                  subst hr
                  rw [hyes] at hf
                  cases hf
                rw [hps, HT.out] at hp4 ⊢
                have hA4 := HA3.out.step hq4
                have hfb4 := hq4.b.trans hfb
                have hps4 : dropL (ackP [⟨k - 1, k - 1⟩]) (s.ps.map toPK) s.ps = pks17 (leftM M ((sk.take (l + 1)).map fun x => x - 1)) := by
                  rw [hps, HTK.out]
                  exact HL.out
                have HA4 := hide hA4
                have HP4 := hide hp4
                have HS4 := hide hps4
                clear HC HA3 hp4 hc4 hk4 hq4 hA4 hps4 hyes
                go_wp2_with fail
                refine (numbers17_any a4 1 c4 [toPK (p17 (k - 1) (k - 1))] _ rfl (by decide) HP4.out).mono ?_
                rintro e5 w5 ⟨a5, c5, rfl, hi5, _, _, hb5⟩
                have HA5 := hide (HA4.out.later hb5)
                have HI5 := hide hi5
                clear hb5 HA4 HP4 hi5
                go_wp2_with fail
                refine (eqints_any a5 (some ⟨w5.heap.size, 0, none⟩) 1 1 c5 1 [k - 1] [k - 1] _ rfl rfl (by decide) (NumsAt.below HI5.out ((Below.refl _ _).alloc (Nat.le_refl _) _)) (numsAt_new (Blk.new _ _ _) rfl)).mono ?_
                rintro e6 w6 ⟨rfl, hb6⟩
                rw [show decide ([k - 1] = [k - 1]) = true from decide_eq_true rfl]
                have hA6 := (HA5.out.alloc _).later hb6
                clear HA5 HI5 hb6
                go_wp2_with fail
                go_roundg (j - (l + 1))
                case rel => exact ⟨l + 1, f4, { s with R := R4, great := (if s.great < k - 1 then k - 1 else s.great), ps := dropL (ackP [⟨k - 1, k - 1⟩]) (s.ps.map toPK) s.ps }, by go_num, by omega, by omega, hfb4, HS4.out, hmem, hA6⟩
                case measure => omega
              · obtain rfl : l = j := by omega
                have hjn : ¬ (l : Int) < (l : Int) := by omega
                have HA := hide hA
                clear hA
                go_wp2_with fail
                refine (works17_any _).mono ?_
                rintro e3 w3 ⟨rfl, hb3⟩
                go_wp2_with fail
                go_ret
                exact ⟨rfl, bw_below' HA.out.sp.below hb3⟩
end Go.Proofs.YtgicljeedegncaaGreat
