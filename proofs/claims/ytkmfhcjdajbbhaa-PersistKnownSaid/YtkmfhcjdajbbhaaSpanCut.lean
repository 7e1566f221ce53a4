/-
  Sets of ranges (package span): Cut.
-/
import Derived.Test.YtkmfhcjdajbbhaaSpanDelete
import Derived.Test.YtkmfhcjdajbbhaaRegionStore
namespace Go.Proofs.Ytkmfhcjdajbbhaa
set_option linter.unusedVariables false
set_option linter.unusedSimpArgs false
open Go.RowKit

set_option maxHeartbeats 1000000 in
theorem cut_arg (b : Nat) (g : Option Nat) (room : Nat) (n : Int) (rs : List Rg) (w : World) (hS : IsSet w b g room rs) (h : n < 0 ∨ 9007199254740991 < n) :
    Calls Try.prog 24 #[.pointer (some ⟨b, 0, none⟩), .int .i64 n] w fun e w' => e = .returned (.int .i64 2) ∧ w' = w := by
  obtain ⟨hlen, hr1, hroom⟩ := hS.len
  obtain ⟨a, c, c0, c1, _, _, _, hat⟩ := hS.cells
  have HNO := hide (snone_no b room w c0 hr1)
  have H1 := hide h
  clear h hat c0 c1 hS
  go_enter Try.func24, Try.ntmps24
  go_wp2_with (first | (go_at_call 41; refine HNO.out.mono ?_; rintro e1 w1 ⟨rfl, rfl⟩) | (go_at_call 42; refine (sis_no n _ H1.out).mono ?_; rintro e2 w2 ⟨rfl, rfl⟩))
  go_ret
  exact ⟨rfl, rfl⟩

theorem good_drop {rs : List Rg} (h : GoodR rs) (k : Nat) : GoodR (rs.drop k) :=
  ⟨h.sorted.sublist (List.drop_sublist _ _), fun x hx => h.le x (List.mem_of_mem_drop hx), fun x hx => h.lo x (List.mem_of_mem_drop hx), fun x hx => h.hi x (List.mem_of_mem_drop hx)⟩
/-- The least number of the first range is another. -/
theorem IsSet.setLo {w : World} {b k room : Nat} {r : Rg} {t : List Rg} {J : Int} (h : IsSet w b (some k) room (r :: t)) (hg : GoodR (⟨J, r.hi⟩ :: t)) : IsSet (w.setCell ⟨k, 0, none⟩ (.int .i64 J)) b (some k) room (⟨J, r.hi⟩ :: t) := by
  obtain ⟨_, hkb⟩ := h.lt
  have hne := (hkb k rfl).2
  obtain ⟨h1, h2, h3, h4, v, hv, hB, hr⟩ := h
  refine ⟨h1, h2, h3, hg, v, hv, hB.far (fun e => hne e.symm) _, ?_⟩
  rcases own_split hr with ⟨rfl, h0, hx⟩ | ⟨g, cap, cur, rfl, hgb, hk, hc, hm, hcl, ht⟩
  · cases hv
  · cases hv
    have hk2 := hk.set 0 (.int .i64 J)
    rw [List.setIfInBounds_toArray] at hk2
    have hfo := own_mk (e := 62) (size := 2) (n := (r :: t).length) (cap := cap) hgb hk2 hc hm (by rw [List.length_set]; exact hcl)
    rw [List.take_set, ht] at hfo
    exact hfo

set_option maxRecDepth 100000 in
set_option maxHeartbeats 4000000 in
theorem cut_ok (b : Nat) (g : Option Nat) (room : Nat) (n : Int) (rs : List Rg) (w : World) (hS : IsSet w b g room rs) (l0 : 0 ≤ n) (l1 : n ≤ 9007199254740991) :
    Calls Try.prog 24 #[.pointer (some ⟨b, 0, none⟩), .int .i64 n] w (SAddPost w b g room (cutR n rs)) := by
  obtain ⟨hlen, hr1, hroom⟩ := hS.len
  have hgood := hS.good
  have hb := hS.lt.1
  obtain ⟨ac, kc, q0, q1, hv, hB, hown, _⟩ := hS.cells
  have HNO := hide (snone_no b room w q0 hr1)
  have HV := hide hv
  have hgl := hide (fun k (e : g = some k) => hS.lt.2 k e)
  have hbg := hide (show b ∉ g.toList from fun hm => absurd rfl ((hgl.out b (by simpa using hm)).2))
  obtain ⟨f, hf⟩ : ∃ f, fstHi n rs = f := ⟨_, rfl⟩
  obtain ⟨ys, hys⟩ : ∃ ys, rs.drop f = ys := ⟨_, rfl⟩
  have hfn : f ≤ rs.length := by rw [← hf]; exact fstLe_hi _ _
  have hcut := cutR_eq n rs
  rw [hf, hys] at hcut
  have hyl : ys.length ≤ room := by rw [← hys, List.length_drop]; omega
  have hyg : GoodR ys := by rw [← hys]; exact good_drop hgood f
  have hcg : GoodR (cutR n rs) := cutR_good hgood
  rw [hcut] at hcg ⊢
  have HF := hide hf
  have HY := hide hys
  clear hv hf hys hcut
  have HFI : Hid (∀ W, Below w.heap.size w W → Calls Try.prog 43 #[.pointer (some ⟨b, 0, none⟩), .int .i64 n] W fun e w' => e = .returned (.int .i64 f) ∧ Below w.heap.size w w' ∧ w'.cell? ⟨b, 1, none⟩ = some (.slice ac rs.length kc) ∧ b < w'.heap.size) := fun W hW => (first_any b g room n rs W (hS.below hW)).mono fun e w' ⟨h1, h2⟩ => by
    have h3 := bw_below' hW h2
    refine ⟨by rw [h1, HF.out], h3, ?_, Nat.lt_of_lt_of_le hb h3.size⟩
    rw [((only_of_below (S := []) h3).blk hB (by simp)).cell 1]
    rfl
  have HDE : Hid (∀ W, Below w.heap.size w W → Calls Try.prog 51 #[.slice ac rs.length kc, .int .i64 0, .int .i64 f] W fun e w' => ∃ a5 c5, e = .returned (.slice a5 ys.length c5) ∧ w'.ownsRow 0 62 2 (.slice a5 ys.length c5) ys.length (rgsCells ys) ∧ Only g.toList W w' ∧ (∀ k, (Value.slice a5 ys.length c5).ownBlock = some k → g = some k ∨ W.heap.size ≤ k) ∧ Blk w' b 74 #[.int .i64 room, .slice ac rs.length kc] ∧ SAddPost w b g room ys (.returned (.int .i64 0)) (w'.setCell ⟨b, 1, none⟩ (.slice a5 ys.length c5))) := fun W hW => by
    have hown' := own_only2 (S := []) hown (only_of_below hW) (by simp)
    refine (delete_any 0 rs.length f (.slice ac rs.length kc) rs W rfl hown' (by omega) hfn).mono ?_
    rintro e w' ⟨v5, rfl, h1, h2, h3⟩
    rw [HY.out] at h1
    obtain ⟨a5, c5, rfl⟩ := own_slice' h1
    rw [HV.out] at h2 h3
    have hbb := h2.blk ((only_of_below (S := []) hW).blk hB (by simp)) hbg.out
    exact ⟨a5, c5, rfl, h1, h2, h3, hbb, add_done hr1 hroom hyl hyg hbb h1 h2 h3 hW hb hgl.out (Nat.le_refl _)⟩
  clear hS hB hown
  cases ys with
  | nil =>
    go_enter Try.func24, Try.ntmps24
    go_wp2_with (first | (go_at_call 41; refine HNO.out.mono ?_; rintro e1 w1 ⟨rfl, rfl⟩) | (go_at_call 42; refine (sis_yes n _ l0 l1).mono ?_; rintro e2 w2 ⟨rfl, rfl⟩))
    refine wp_region_S (fun w' => w'.cell? ⟨b, 1, none⟩ = some (.slice ac rs.length kc)) 11 (by kernel_rfl) (by exact q1) (fun hHeld => ?_)
    refine wpAnyS_take (i := 0) (v := ?v1) rfl (by kernel_rfl) (by kernel_rfl) (by kernel_rfl) (by kernel_rfl) (fun _ _ _ h => h) (Or.inl ⟨by rfl, ?hy1⟩) (by assumption) ?rest1
    case hy1 => intro w hSw; (try dsimp only at hSw); go_simp; try with_reducible rfl
    try simp only [Act.put, List.setIfInBounds_toArray, List.set_cons_zero, List.set_cons_succ]
    refine wpAnyS_take (i := 1) (v := ?v2) rfl (by kernel_rfl) (by kernel_rfl) (by kernel_rfl) (by kernel_rfl) (fun _ _ _ h => h) (Or.inl ⟨by rfl, ?hy2⟩) (by assumption) ?rest2
    case hy2 => intro w hSw; (try dsimp only at hSw); go_simp; try with_reducible rfl
    try simp only [Act.put, List.setIfInBounds_toArray, List.set_cons_zero, List.set_cons_succ]
    refine wpAnyS_take (i := 2) (v := ?v3) rfl (by kernel_rfl) (by kernel_rfl) (by kernel_rfl) (by kernel_rfl) (fun _ _ _ h => h) (Or.inl ⟨by rfl, ?hy3⟩) (by assumption) ?rest3
    case hy3 => intro w hSw; (try dsimp only at hSw); go_simp; try with_reducible rfl
    try simp only [Act.put, List.setIfInBounds_toArray, List.set_cons_zero, List.set_cons_succ]
    refine wpAnyS_take (i := 3) (v := ?v4) rfl (by kernel_rfl) (by kernel_rfl) (by kernel_rfl) (by kernel_rfl) (fun _ _ _ h => h) (Or.inl ⟨by rfl, ?hy4⟩) (by assumption) ?rest4
    case hy4 => intro w hSw; (try dsimp only at hSw); go_simp; try with_reducible rfl
    try simp only [Act.put, List.setIfInBounds_toArray, List.set_cons_zero, List.set_cons_succ]
    refine wpAnyS_take (i := 4) (v := ?v5) rfl (by kernel_rfl) (by kernel_rfl) (by kernel_rfl) (by kernel_rfl) (fun _ _ _ h => h) (Or.inl ⟨by rfl, ?hy5⟩) (by assumption) ?rest5
    case hy5 => intro w hSw; (try dsimp only at hSw); go_simp; try with_reducible rfl
    try simp only [Act.put, List.setIfInBounds_toArray, List.set_cons_zero, List.set_cons_succ]
    refine wpAnyS_take (i := 5) (v := ?v6) rfl (by kernel_rfl) (by kernel_rfl) (by kernel_rfl) (by kernel_rfl) (fun _ _ _ h => h) (Or.inl ⟨by rfl, ?hy6⟩) (by assumption) ?rest6
    case hy6 => intro w hSw; (try dsimp only at hSw); go_simp; try with_reducible rfl
    try simp only [Act.put, List.setIfInBounds_toArray, List.set_cons_zero, List.set_cons_succ]
    refine wpAnyS_take (i := 6) (v := ?v7) rfl (by kernel_rfl) (by kernel_rfl) (by kernel_rfl) (by kernel_rfl) (fun _ _ _ h => h) (Or.inl ⟨by rfl, ?hy7⟩) (by assumption) ?rest7
    case hy7 => intro w hSw; (try dsimp only at hSw); go_simp; try with_reducible rfl
    try simp only [Act.put, List.setIfInBounds_toArray, List.set_cons_zero, List.set_cons_succ]
    refine wpAnyS_one (i := 7) rfl (by kernel_rfl) (fun K hK => ?_)
    go_simp; go_at_call 43; refine (HFI.out _ (by first | exact Below.refl _ _ | exact below_drewN (Below.refl _ _) _)).mono ?_; rintro e3 w3 ⟨rfl, hb3, z1, zb⟩
    refine hK.out _ _ (fun _ => z1) (fun hH => ?_)
    have hHeld := hH rfl
    clear hK K hH
    try simp only [Act.put, List.setIfInBounds_toArray, List.set_cons_zero, List.set_cons_succ]
    refine wpAnyS_one (i := 8) rfl (by kernel_rfl) (fun K hK => ?_)
    go_simp; go_at_call 51; refine (HDE.out _ (by first | exact hb3 | exact below_drewN hb3 _)).mono ?_; rintro e5 w5 ⟨a5, c5, rfl, hown5, hO5, hB5, hbb, hdone⟩; have z0 := hbb.cell 1; have z2 := hbb.frozen 1
    refine hK.out _ _ (fun _ => z0) (fun hH => ?_)
    have hHeld := hH rfl
    clear hK K hH
    try simp only [Act.put, List.setIfInBounds_toArray, List.set_cons_zero, List.set_cons_succ]
    refine wpAnyS_one (i := 9) rfl (by kernel_rfl) (fun K hK => ?_)
    go_simp
    refine hK.out _ _ (fun _ => z0) (fun hH => ?_)
    have hHeld := hH rfl
    clear hK K hH
    try simp only [Act.put, List.setIfInBounds_toArray, List.set_cons_zero, List.set_cons_succ]
    refine wpAnyS_one (i := 10) rfl (by kernel_rfl) (fun K hK => ?_)
    go_simp
    refine hK.out _ _ (fun _ => z0) (fun hH => ?_)
    have hHeld := hH rfl
    clear hK K hH
    try simp only [Act.put, List.setIfInBounds_toArray, List.set_cons_zero, List.set_cons_succ]
    refine wpAnyS_one (i := 11) rfl (by kernel_rfl) (fun K hK => ?_)
    go_simp
    refine hK.out _ _ (fun h => absurd h (by decide)) (fun _ => ?_)
    clear hK K
    try simp only [Act.put, List.setIfInBounds_toArray, List.set_cons_zero, List.set_cons_succ]
    refine wpAnyS_done (by kernel_rfl) ?_ _
    all_goals
      have HD := hide hdone
      clear hdone
      go_wp2_with fail
      go_ret
      exact HD.out
  | cons r t =>
    have hpos : (0 : Int) < (t.length : Int) + 1 := by omega
    obtain ⟨J, hJ⟩ : ∃ J, max r.lo n = J := ⟨_, rfl⟩
    have hP : (if r.lo < n then n else r.lo) = J := by rw [← hJ]; split <;> omega
    dsimp only at hcg ⊢
    rw [hJ] at hcg ⊢
    clear hJ
    go_enter Try.func24, Try.ntmps24
    go_wp2_with (first | (go_at_call 41; refine HNO.out.mono ?_; rintro e1 w1 ⟨rfl, rfl⟩) | (go_at_call 42; refine (sis_yes n _ l0 l1).mono ?_; rintro e2 w2 ⟨rfl, rfl⟩))
    refine wp_region_S (fun w' => w'.cell? ⟨b, 1, none⟩ = some (.slice ac rs.length kc)) 11 (by kernel_rfl) (by exact q1) (fun hHeld => ?_)
    refine wpAnyS_take (i := 0) (v := ?v8) rfl (by kernel_rfl) (by kernel_rfl) (by kernel_rfl) (by kernel_rfl) (fun _ _ _ h => h) (Or.inl ⟨by rfl, ?hy8⟩) (by assumption) ?rest8
    case hy8 => intro w hSw; (try dsimp only at hSw); go_simp; try with_reducible rfl
    try simp only [Act.put, List.setIfInBounds_toArray, List.set_cons_zero, List.set_cons_succ]
    refine wpAnyS_take (i := 1) (v := ?v9) rfl (by kernel_rfl) (by kernel_rfl) (by kernel_rfl) (by kernel_rfl) (fun _ _ _ h => h) (Or.inl ⟨by rfl, ?hy9⟩) (by assumption) ?rest9
    case hy9 => intro w hSw; (try dsimp only at hSw); go_simp; try with_reducible rfl
    try simp only [Act.put, List.setIfInBounds_toArray, List.set_cons_zero, List.set_cons_succ]
    refine wpAnyS_take (i := 2) (v := ?v10) rfl (by kernel_rfl) (by kernel_rfl) (by kernel_rfl) (by kernel_rfl) (fun _ _ _ h => h) (Or.inl ⟨by rfl, ?hy10⟩) (by assumption) ?rest10
    case hy10 => intro w hSw; (try dsimp only at hSw); go_simp; try with_reducible rfl
    try simp only [Act.put, List.setIfInBounds_toArray, List.set_cons_zero, List.set_cons_succ]
    refine wpAnyS_take (i := 3) (v := ?v11) rfl (by kernel_rfl) (by kernel_rfl) (by kernel_rfl) (by kernel_rfl) (fun _ _ _ h => h) (Or.inl ⟨by rfl, ?hy11⟩) (by assumption) ?rest11
    case hy11 => intro w hSw; (try dsimp only at hSw); go_simp; try with_reducible rfl
    try simp only [Act.put, List.setIfInBounds_toArray, List.set_cons_zero, List.set_cons_succ]
    refine wpAnyS_take (i := 4) (v := ?v12) rfl (by kernel_rfl) (by kernel_rfl) (by kernel_rfl) (by kernel_rfl) (fun _ _ _ h => h) (Or.inl ⟨by rfl, ?hy12⟩) (by assumption) ?rest12
    case hy12 => intro w hSw; (try dsimp only at hSw); go_simp; try with_reducible rfl
    try simp only [Act.put, List.setIfInBounds_toArray, List.set_cons_zero, List.set_cons_succ]
    refine wpAnyS_take (i := 5) (v := ?v13) rfl (by kernel_rfl) (by kernel_rfl) (by kernel_rfl) (by kernel_rfl) (fun _ _ _ h => h) (Or.inl ⟨by rfl, ?hy13⟩) (by assumption) ?rest13
    case hy13 => intro w hSw; (try dsimp only at hSw); go_simp; try with_reducible rfl
    try simp only [Act.put, List.setIfInBounds_toArray, List.set_cons_zero, List.set_cons_succ]
    refine wpAnyS_take (i := 6) (v := ?v14) rfl (by kernel_rfl) (by kernel_rfl) (by kernel_rfl) (by kernel_rfl) (fun _ _ _ h => h) (Or.inl ⟨by rfl, ?hy14⟩) (by assumption) ?rest14
    case hy14 => intro w hSw; (try dsimp only at hSw); go_simp; try with_reducible rfl
    try simp only [Act.put, List.setIfInBounds_toArray, List.set_cons_zero, List.set_cons_succ]
    refine wpAnyS_one (i := 7) rfl (by kernel_rfl) (fun K hK => ?_)
    go_simp; go_at_call 43; refine (HFI.out _ (by first | exact Below.refl _ _ | exact below_drewN (Below.refl _ _) _)).mono ?_; rintro e3 w3 ⟨rfl, hb3, z1, zb⟩
    refine hK.out _ _ (fun _ => z1) (fun hH => ?_)
    have hHeld := hH rfl
    clear hK K hH
    try simp only [Act.put, List.setIfInBounds_toArray, List.set_cons_zero, List.set_cons_succ]
    refine wpAnyS_one (i := 8) rfl (by kernel_rfl) (fun K hK => ?_)
    go_simp; go_at_call 51; refine (HDE.out _ (by first | exact hb3 | exact below_drewN hb3 _)).mono ?_; rintro e5 w5 ⟨a5, c5, rfl, hown5, hO5, hB5, hbb, hdone⟩; have z0 := hbb.cell 1; have z2 := hbb.frozen 1
    refine hK.out _ _ (fun _ => z0) (fun hH => ?_)
    have hHeld := hH rfl
    clear hK K hH
    try simp only [Act.put, List.setIfInBounds_toArray, List.set_cons_zero, List.set_cons_succ]
    refine wpAnyS_one (i := 9) rfl (by kernel_rfl) (fun K hK => ?_)
    go_simp
    refine hK.out _ _ (fun _ => z0) (fun hH => ?_)
    have hHeld := hH rfl
    clear hK K hH
    try simp only [Act.put, List.setIfInBounds_toArray, List.set_cons_zero, List.set_cons_succ]
    refine wpAnyS_one (i := 10) rfl (by kernel_rfl) (fun K hK => ?_)
    go_simp
    refine hK.out _ _ (fun _ => z0) (fun hH => ?_)
    have hHeld := hH rfl
    clear hK K hH
    try simp only [Act.put, List.setIfInBounds_toArray, List.set_cons_zero, List.set_cons_succ]
    refine wpAnyS_one (i := 11) rfl (by kernel_rfl) (fun K hK => ?_)
    go_simp
    refine hK.out _ _ (fun h => absurd h (by decide)) (fun _ => ?_)
    clear hK K
    try simp only [Act.put, List.setIfInBounds_toArray, List.set_cons_zero, List.set_cons_succ]
    refine wpAnyS_done (by kernel_rfl) ?_ _
    all_goals
      obtain ⟨_, g5, HS5, hg5, hO5w⟩ := hdone
      have HSS := hide HS5
      have HOO := hide hO5w
      have HGG := hide hg5
      clear HS5 hO5w hg5
      go_wp2_with fail
      refine name_world (fun W => IsSet W b g5 room (r :: t) ∧ Only (b :: g.toList) w W) ⟨by first | exact HSS.out | exact HSS.out.drewN _, by first | exact HOO.out | exact HOO.out.drewN _⟩ ?_
      clear HSS HOO z0 z2 hbb hown5 hO5 hB5
      have hg7 := HGG.out
      clear HGG
      rintro W ⟨HS5, hOW⟩
      obtain ⟨a7, c7, _, q7, hv7, _, hown7, hat7⟩ := HS5.cells
      obtain ⟨k, rfl, hkl, zk, _⟩ := hat7 0 r rfl
      have hk5 : g5 = some k := hv7.symm
      subst hk5
      have hkb := (HS5.lt.2 k rfl).2
      have zf : W.frozen? ⟨k, 0, none⟩ = false := by
        rcases own_split hown7 with ⟨e, _, _⟩ | ⟨g, cap, cur, e, _, hk, _⟩
        · cases e
        · cases e
          exact hk.frozen 0
      have HS7 := hide HS5
      have HO7 := hide hOW
      have HKB := hide hkb
      clear HS5 hOW hat7 hown7 hv7 hkb
      rw [List.length_cons] at q7
      rw [Nat.zero_mul] at zk
      refine wp_region_S (fun w' => w'.cell? ⟨b, 1, none⟩ = some (.slice (some ⟨k, 0, none⟩) (t.length + 1) c7) ∧ w'.cell? ⟨k, 0, none⟩ = some (.int .i64 r.lo)) 15 (by kernel_rfl) (by exact ⟨q7, zk⟩) (fun hHeld => ?_)
      refine wpAnyS_take (i := 0) (v := ?v15) rfl (by kernel_rfl) (by kernel_rfl) (by kernel_rfl) (by kernel_rfl) (fun _ _ _ h => h) (Or.inl ⟨by rfl, ?hy15⟩) (by assumption) ?rest15
      case hy15 => intro w hSw; (try dsimp only at hSw); go_simp; try with_reducible rfl
      try simp only [Act.put, List.setIfInBounds_toArray, List.set_cons_zero, List.set_cons_succ]
      refine wpAnyS_take (i := 1) (v := ?v16) rfl (by kernel_rfl) (by kernel_rfl) (by kernel_rfl) (by kernel_rfl) (fun _ _ _ h => h) (Or.inl ⟨by rfl, ?hy16⟩) (by assumption) ?rest16
      case hy16 => intro w hSw; (try dsimp only at hSw); go_simp; try with_reducible rfl
      try simp only [Act.put, List.setIfInBounds_toArray, List.set_cons_zero, List.set_cons_succ]
      refine wpAnyS_take (i := 2) (v := ?v17) rfl (by kernel_rfl) (by kernel_rfl) (by kernel_rfl) (by kernel_rfl) (fun _ _ _ h => h) (Or.inl ⟨by rfl, ?hy17⟩) (by assumption) ?rest17
      case hy17 => intro w hSw; (try dsimp only at hSw); go_simp; try with_reducible rfl
      try simp only [Act.put, List.setIfInBounds_toArray, List.set_cons_zero, List.set_cons_succ]
      refine wpAnyS_take (i := 3) (v := ?v18) rfl (by kernel_rfl) (by kernel_rfl) (by kernel_rfl) (by kernel_rfl) (fun _ _ _ h => h) (Or.inl ⟨by rfl, ?hy18⟩) (by assumption) ?rest18
      case hy18 => intro w hSw; (try dsimp only at hSw); go_simp; try with_reducible rfl
      try simp only [Act.put, List.setIfInBounds_toArray, List.set_cons_zero, List.set_cons_succ]
      refine wpAnyS_take (i := 4) (v := ?v19) rfl (by kernel_rfl) (by kernel_rfl) (by kernel_rfl) (by kernel_rfl) (fun _ _ _ h => h) (Or.inl ⟨by rfl, ?hy19⟩) (by assumption) ?rest19
      case hy19 => intro w hSw; (try dsimp only at hSw); go_simp; try with_reducible rfl
      try simp only [Act.put, List.setIfInBounds_toArray, List.set_cons_zero, List.set_cons_succ]
      refine wpAnyS_take (i := 5) (v := ?v20) rfl (by kernel_rfl) (by kernel_rfl) (by kernel_rfl) (by kernel_rfl) (fun _ _ _ h => h) (Or.inl ⟨by rfl, ?hy20⟩) (by assumption) ?rest20
      case hy20 => intro w hSw; (try dsimp only at hSw); go_simp; try with_reducible rfl
      try simp only [Act.put, List.setIfInBounds_toArray, List.set_cons_zero, List.set_cons_succ]
      refine wpAnyS_take (i := 6) (v := ?v21) rfl (by kernel_rfl) (by kernel_rfl) (by kernel_rfl) (by kernel_rfl) (fun _ _ _ h => h) (Or.inl ⟨by rfl, ?hy21⟩) (by assumption) ?rest21
      case hy21 => intro w hSw; (try dsimp only at hSw); go_simp; try with_reducible rfl
      try simp only [Act.put, List.setIfInBounds_toArray, List.set_cons_zero, List.set_cons_succ]
      refine wpAnyS_take (i := 7) (v := ?v22) rfl (by kernel_rfl) (by kernel_rfl) (by kernel_rfl) (by kernel_rfl) (fun _ _ _ h => h) (Or.inl ⟨by rfl, ?hy22⟩) (by assumption) ?rest22
      case hy22 => intro w hSw; (try dsimp only at hSw); go_simp; try with_reducible rfl
      try simp only [Act.put, List.setIfInBounds_toArray, List.set_cons_zero, List.set_cons_succ]
      refine wpAnyS_take (i := 8) (v := ?v23) rfl (by kernel_rfl) (by kernel_rfl) (by kernel_rfl) (by kernel_rfl) (fun _ _ _ h => h) (Or.inl ⟨by rfl, ?hy23⟩) (by assumption) ?rest23
      case hy23 => intro w hSw; (try dsimp only at hSw); go_simp; try with_reducible rfl
      try simp only [Act.put, List.setIfInBounds_toArray, List.set_cons_zero, List.set_cons_succ]
      refine wpAnyS_take (i := 9) (v := ?v24) rfl (by kernel_rfl) (by kernel_rfl) (by kernel_rfl) (by kernel_rfl) (fun _ _ _ h => h) (Or.inl ⟨by rfl, ?hy24⟩) (by assumption) ?rest24
      case hy24 => intro w hSw; (try dsimp only at hSw); go_simp; try with_reducible rfl
      try simp only [Act.put, List.setIfInBounds_toArray, List.set_cons_zero, List.set_cons_succ]
      refine wpAnyS_take (i := 10) (v := ?v25) rfl (by kernel_rfl) (by kernel_rfl) (by kernel_rfl) (by kernel_rfl) (fun _ _ _ h => h) (Or.inl ⟨by rfl, ?hy25⟩) (by assumption) ?rest25
      case hy25 => intro w hSw; (try dsimp only at hSw); go_simp; try with_reducible rfl
      try simp only [Act.put, List.setIfInBounds_toArray, List.set_cons_zero, List.set_cons_succ]
      refine wpAnyS_take (i := 11) (v := ?v26) rfl (by kernel_rfl) (by kernel_rfl) (by kernel_rfl) (by kernel_rfl) (fun _ _ _ h => h) (Or.inl ⟨by rfl, ?hy26⟩) (by assumption) ?rest26
      case hy26 => intro w hSw; (try dsimp only at hSw); go_simp; try with_reducible rfl
      try simp only [Act.put, List.setIfInBounds_toArray, List.set_cons_zero, List.set_cons_succ]
      refine wpAnyS_take (i := 12) (v := ?v27) rfl (by kernel_rfl) (by kernel_rfl) (by kernel_rfl) (by kernel_rfl) (fun _ _ _ h => h) (Or.inl ⟨by rfl, ?hy27⟩) (by assumption) ?rest27
      case hy27 => intro w hSw; (try dsimp only at hSw); go_simp; try with_reducible rfl
      try simp only [Act.put, List.setIfInBounds_toArray, List.set_cons_zero, List.set_cons_succ]
      refine wpAnyS_one (i := 13) rfl (by kernel_rfl) (fun K hK => ?_)
      go_simp
      refine hK.out _ _ (fun _ => hHeld) (fun hH => ?_)
      have hHeld := hH rfl
      clear hK K hH
      try simp only [Act.put, List.setIfInBounds_toArray, List.set_cons_zero, List.set_cons_succ]
      refine wpAnyS_one (i := 14) rfl (by kernel_rfl) (fun K hK => ?_)
      go_simp
      refine hK.out _ _ (fun _ => hHeld) (fun hH => ?_)
      have hHeld := hH rfl
      clear hK K hH
      try simp only [Act.put, List.setIfInBounds_toArray, List.set_cons_zero, List.set_cons_succ]
      refine wpAnyS_one (i := 15) rfl (by kernel_rfl) (fun K hK => ?_)
      go_simp
      refine hK.out _ _ (fun h => absurd h (by decide)) (fun _ => ?_)
      clear hK K
      try simp only [Act.put, List.setIfInBounds_toArray, List.set_cons_zero, List.set_cons_succ]
      refine wpAnyS_done (by kernel_rfl) ?_ _
      all_goals
        go_wp2_with fail
        go_ret
        refine ⟨rfl, some k, ?_, hg7, ?_⟩
        · first | exact (HS7.out.setLo hcg).drew | exact HS7.out.setLo hcg | exact (HS7.out.setLo hcg).drewN _
        · have hkm : k ∈ b :: g.toList ∨ w.heap.size ≤ k := by
            rcases hg7 k rfl with h | h
            · exact .inl (by rw [h]; simp)
            · exact .inr h
          first | exact (HO7.out.setCell hkm _).drew | exact HO7.out.setCell hkm _ | exact (HO7.out.setCell hkm _).drewN _
end Go.Proofs.Ytkmfhcjdajbbhaa
