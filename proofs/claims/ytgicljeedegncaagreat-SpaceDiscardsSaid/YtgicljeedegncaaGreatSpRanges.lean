/-
  The statements of layer 17: ranges of numbers that were sent.
-/
import Derived.Test.YtgicljeedegncaaGreatSpTake
import Derived.Test.YtgicljeedegncaaGreatMgBase
import Derived.BigQuiet
import Derived.Deep.QuietTactic
import Derived.Deep.DeepCutAuto
namespace Go.Proofs.YtgicljeedegncaaGreat
set_option linter.unusedSimpArgs false
set_option linter.unusedVariables false
open Go.RowKit

def RgsInv (sent : List Int) (rs : List Rg) (k : Int) : Prop :=
  (∀ r ∈ rs, (0 ≤ r.lo ∧ r.lo ≤ r.hi ∧ r.hi ≤ 9007199254740991) ∧ ∀ x, r.lo ≤ x → x ≤ r.hi → x ∈ sent) ∧
  (∀ i p q, rs[i]? = some p → rs[i + 1]? = some q → q.hi + 2 ≤ p.lo) ∧
  (∀ r ∈ rs, ∀ (j : Nat) y, (j : Int) ≤ k → sent[j]? = some y → y + 2 ≤ r.lo)
theorem rise_at {l : List Int} {i j : Nat} {x y : Int} (hs : l.Pairwise (· < ·)) (hi : l[i]? = some x) (hj : l[j]? = some y) (hij : i < j) : x < y := by
  obtain ⟨h1, h2⟩ := List.getElem?_eq_some_iff.1 hi
  obtain ⟨h3, h4⟩ := List.getElem?_eq_some_iff.1 hj
  have := List.pairwise_iff_getElem.1 hs i j h1 h3 hij
  rwa [h2, h4] at this
theorem RgsInv.push {sent : List Int} {rs : List Rg} {lo kk : Nat} {a b k' : Int} (h : RgsInv sent rs kk) (hs : sent.Pairwise (· < ·)) (hb : ∀ x ∈ sent, 0 ≤ x ∧ x ≤ 9007199254740991) (hlk : lo ≤ kk) (ha : sent[lo]? = some a) (hk : sent[kk]? = some b)
    (hrun : ∀ (j : Nat) y, lo ≤ j → j ≤ kk → sent[j]? = some y → y = b - ((kk : Int) - j)) (hk' : k' ≤ (lo : Int) - 2) : RgsInv sent (rs ++ [⟨a, b⟩]) k' := by
  have hab := hrun lo a (Nat.le_refl _) hlk ha
  have hkl : kk < sent.length := (List.getElem?_eq_some_iff.1 hk).1
  refine ⟨fun r hr => ?_, fun i p q hp hq => ?_, fun r hr j y hj hy => ?_⟩
  · rcases List.mem_append.1 hr with hr | hr
    · exact h.1 r hr
    · simp at hr
      subst hr
      refine ⟨⟨(hb a (List.mem_of_getElem? ha)).1, by show a ≤ b; omega, (hb b (List.mem_of_getElem? hk)).2⟩, fun x h1 h2 => ?_⟩
      replace h1 : a ≤ x := h1
      replace h2 : x ≤ b := h2
      obtain ⟨j, hj⟩ : ∃ j : Nat, (j : Int) = (kk : Int) - (b - x) := ⟨((kk : Int) - (b - x)).toNat, by omega⟩
      have hjl : j < sent.length := by omega
      have hy := List.getElem?_eq_getElem hjl
      have := hrun j _ (by omega) (by omega) hy
      rw [show x = sent[j] by omega]
      exact List.getElem_mem _
  · by_cases hi : i + 1 < rs.length
    · rw [List.getElem?_append_left (by omega)] at hp
      rw [List.getElem?_append_left hi] at hq
      exact h.2.1 i p q hp hq
    · have hq2 := (List.getElem?_eq_some_iff.1 hq).1
      simp at hq2
      rw [List.getElem?_append_left (by omega)] at hp
      rw [List.getElem?_append_right (by omega), show i + 1 - rs.length = 0 by omega] at hq
      simp at hq
      subst hq
      exact h.2.2 p (List.mem_of_getElem? hp) kk b (Int.le_refl _) hk
  · rcases List.mem_append.1 hr with hr | hr
    · exact h.2.2 r hr j y (by omega) hy
    · simp at hr
      subst hr
      show y + 2 ≤ a
      obtain ⟨z, hz⟩ : ∃ z, sent[lo - 1]? = some z := ⟨_, List.getElem?_eq_getElem (by omega)⟩
      have h1 := rise_at hs hy hz (by omega)
      have h2 := rise_at hs hz ha (by omega)
      omega
theorem RgsInv.ok {sent : List Int} {rs : List Rg} {k : Int} (h : RgsInv sent rs k) (h1 : 1 ≤ rs.length) (h2 : rs.length ≤ 2) : AckOk rs ∧ ∀ r ∈ rs, ∀ x, r.lo ≤ x → x ≤ r.hi → x ∈ sent :=
  ⟨⟨by omega, h1, fun r hr => (h.1 r hr).1, h.2.1⟩, fun r hr => (h.1 r hr).2⟩
structure RgL (w W : World) (x0 x1 x2 : Int) (v : Value) (i : Nat) (xs : List Value) : Prop where
  box : Blk W w.heap.size 33 #[.int .i64 x0, .int .i64 x1, .int .i64 x2]
  own : W.ownsRow (w.heap.size + 1) 54 2 v i xs
  below : Below w.heap.size w W
section
variable {w W Wa W' : World} {x0 x1 x2 : Int} {v v' : Value} {i : Nat} {xs xs' : List Value}
theorem RgL.later (h : RgL w W x0 x1 x2 v i xs) (hb : Below W.heap.size W W') : RgL w W' x0 x1 x2 v i xs := ⟨(hb.block _ h.box.lt).trans h.box, own_only2 (S := []) h.own (only_of_below hb) (by simp), bw_below' h.below hb⟩
theorem RgL.drewN (h : RgL w W x0 x1 x2 v i xs) (n : Nat) : RgL w (W.drewN n) x0 x1 x2 v i xs := h.later (below_drewN (Below.refl _ _) n)
theorem RgL.push (h : RgL w W x0 x1 x2 v i xs) (hW : Below W.heap.size W Wa) (hg : Wa.grownBy W' v.ownBlock) (hown : W'.ownsRow (w.heap.size + 1) 54 2 v' (i + 1) xs') : RgL w W' x0 x1 x2 v' (i + 1) xs' := by
  have hlt : ∀ k, v.ownBlock = some k → w.heap.size + 1 ≤ k := fun k hk => (h.own.lt k hk).1
  have h1 := blk_grown (show Blk Wa _ _ _ from (hW.block _ h.box.lt).trans h.box) hg (fun e => by have := hlt _ e.symm; omega)
  have hz := h.below.size
  have hz2 := hW.size
  exact ⟨h1, hown, Below.grown (bw_below' h.below hW) hg (by omega) (fun k hk => by have := hlt k hk; omega)⟩
end
theorem quiet17 {P : Program} {f : FuncId} {args : Array Value} {w : World} {n : Nat} {v : Value}
    (h : Calls P f args (w.drewN n) fun e w' => e = .returned v ∧ w.drewN n = w') : Calls P f args (w.drewN n) fun e w'' => e = .returned v ∧ ∃ m, w'' = w.drewN m :=
  h.mono fun _ _ ⟨he, hm⟩ => ⟨he, n, hm.symm⟩
theorem own_arr17a {w : World} {base n c : Nat} {a : Option Addr} {rs : List Rg} (hn : rs.length = n) (h : w.ownsRow base 54 2 (.slice a n c) n (rgsCells rs)) : RgAt w a rs := by
  rcases own_split h with ⟨_, h0, _⟩ | ⟨k, cap, cur, e, _, hk, hc, hm, hcl, ht⟩
  · have : rs = [] := List.eq_nil_of_length_eq_zero (by omega)
    subst this
    intro i r hi
    simp at hi
  · cases e
    refine fun i r hi => ⟨k, rfl, hk.lt, ?_, ?_⟩
    all_goals
      have hil : i < rs.length := (List.getElem?_eq_some_iff.1 hi).1
      have hlt : ∀ j, j < 2 → cur[i * 2 + j]? = (rgCells r)[j]? := fun j hj => by
        have e : (cur.take (n * 2))[i * 2 + j]? = (rgsCells rs)[i * 2 + j]? := by rw [ht]
        rw [List.getElem?_take, if_pos (by omega)] at e
        rw [e]
        unfold rgsCells
        rw [flat_cell rgCells 2 rgCells_length rs i j hj, hi]
        rfl
    · rw [hk.cell, List.getElem?_toArray]; exact hlt 0 (by omega)
    · rw [hk.cell, List.getElem?_toArray]; exact hlt 1 (by omega)

theorem own_arr17 {w : World} {base n c : Nat} {a : Option Addr} {rs : List Rg} (hn : rs.length = n) (h : w.ownsRow base 54 2 (.slice a n c) n (rgsCells rs)) : RgAt w a rs ∧ ∀ k o, a = some ⟨k, o, none⟩ → base ≤ k := ⟨own_arr17a hn h, fun k o e => by subst e; exact (h.lt k rfl).1⟩
theorem arr_info17 : (Tryz.prog.info? 54).map (fun i => (i.zero, i.size, i.bytes)) = some (some (.agg #[.int .i64 0, .int .i64 0]), 2, 16) := by kernel_rfl
set_option maxRecDepth 100000 in
set_option maxHeartbeats 8000000 in
theorem ranges17_any (r n cs : Nat) (as_ : Option Addr) (p va vl z nw : Value) (sent : List Int) (x0 x1 x2 : Int) (w : World) (hB : Blk w r 31 #[p, .slice as_ n cs, va, vl, z, nw]) (hA : NumsAt w as_ sent) (hn : sent.length = n) (h1 : 1 ≤ n) (h2 : n ≤ 1000)
    (hs : sent.Pairwise (· < ·)) (hb : ∀ x ∈ sent, 0 ≤ x ∧ x ≤ 9007199254740991) (a0 : -9223372036854775808 ≤ x0) (a1 : x0 ≤ 9223372036854775807) (b0 : -9223372036854775808 ≤ x1) (b1 : x1 ≤ 9223372036854775807) (c0 : -9223372036854775808 ≤ x2) (c1 : x2 ≤ 9223372036854775807) :
    Calls Tryz.prog 45 #[.pointer (some ⟨r, 0, none⟩), .agg #[.int .i64 x0, .int .i64 x1, .int .i64 x2]] w fun e w' => ∃ a c rs, e = .returned (.slice a rs.length c) ∧ RgAt w' a rs ∧ (AckOk rs ∧ ∀ q ∈ rs, ∀ x, q.lo ≤ x → x ≤ q.hi → x ∈ sent) ∧ rs.length ≤ 2 ∧ Below w.heap.size w w' ∧ ∀ k o, a = some ⟨k, o, none⟩ → w.heap.size ≤ k := by
  have HN := hide hn
  have HB := hide hB
  have HA := hide hA
  have HS := hide hs
  have HBD := hide hb
  have B0 := hide (fun W => bring_any x0 (n : Int) W (by omega) (by omega) a0 a1)
  have B1 := hide (fun W => bring_any x1 5 W (by omega) (by omega) b0 b1)
  have B2 := hide (fun W => bring_any x2 4 W (by omega) (by omega) c0 c1)
  obtain ⟨i0, hi0, hz0, hz1, hz2⟩ := info_parts arr_info17
  obtain ⟨kk0, hkk0⟩ : ∃ kk : Nat, x0 % (n : Int) = kk := ⟨(x0 % (n : Int)).toNat, by have := Int.emod_nonneg x0 (show (n : Int) ≠ 0 by omega); omega⟩
  obtain ⟨y1, hy1⟩ : ∃ y, x1 % 5 = y := ⟨_, rfl⟩
  obtain ⟨y2, hy2⟩ : ∃ y, x2 % 4 = y := ⟨_, rfl⟩
  have hk0n : kk0 < n := by have := Int.emod_lt_of_pos x0 (show (0 : Int) < n by omega); omega
  have hy10 : 0 ≤ y1 ∧ y1 < 5 := by have h1 := Int.emod_nonneg x1 (show (5 : Int) ≠ 0 by omega); have h2 := Int.emod_lt_of_pos x1 (show (0 : Int) < 5 by omega); omega
  have hy20 : 0 ≤ y2 ∧ y2 < 4 := by have h1 := Int.emod_nonneg x2 (show (4 : Int) ≠ 0 by omega); have h2 := Int.emod_lt_of_pos x2 (show (0 : Int) < 4 by omega); omega
  rw [hkk0] at B0
  rw [hy1] at B1
  rw [hy2] at B2
  have hR0 : RgL w (w.alloc (.cells #[.int .i64 x0, .int .i64 x1, .int .i64 x2] 33)) x0 x1 x2 (.slice none 0 0) 0 (rgsCells []) := ⟨Blk.new _ _ _, ⟨rfl, .inl ⟨rfl, rfl⟩⟩, (Below.refl _ _).alloc (Nat.le_refl _) _⟩
  have HR0 := hide hR0
  have e0 : (w.alloc (.cells #[.int .i64 x0, .int .i64 x1, .int .i64 x2] 33)).cell? ⟨w.heap.size, 0, none⟩ = some (.int .i64 x0) := hR0.box.cell 0
  have e1 : (w.alloc (.cells #[.int .i64 x0, .int .i64 x1, .int .i64 x2] 33)).cell? ⟨r, 1, none⟩ = some (.slice as_ n cs) := (hB.alloc _).cell 1
  clear hn hB hA hs hb hkk0 hy1 hy2 hR0
  go_enter Tryz.func45, Tryz.ntmps45
  go_wp2_with fail
  go_quiet ((go_at_call 11; with_reducible exact quiet17 (B0.out _)))
  go_wp2_with fail
  clear e0 e1
  go_loopg [5, 6, 7] 2 (fun kx s5 s6 s7 wr => ∃ (i : Nat) (k : Int) (v : Value) (rs : List Rg), s5 = v ∧ s6 = .int .i64 k ∧ s7 = .int .i64 i ∧ i ≤ 2 ∧ 2 - i ≤ kx ∧ rs.length = i ∧ -10000 ≤ k ∧ k < n ∧ (i = 0 → 0 ≤ k) ∧ RgsInv sent rs k ∧ RgL w wr x0 x1 x2 v i (rgsCells rs))
  case atStart => exact ⟨0, kk0, _, [], rfl, rfl, rfl, by omega, by omega, rfl, by omega, by omega, by omega, ⟨by simp, by simp, by simp⟩, HR0.out.drewN _⟩
  case round =>
    clear HR0
    obtain ⟨i, k, v, rs, rfl, rfl, rfl, hi, hkx, hrl, hk1, hk2, hk3, hinv, hL⟩ := hrel
    by_cases hlt : i < 2
    · have hin : (i : Int) < 2 := by omega
      by_cases hk : 0 ≤ k
      · obtain ⟨kk, rfl⟩ : ∃ kk : Nat, k = kk := ⟨k.toNat, by omega⟩
        have hk0 : (0 : Int) ≤ (kk : Int) := by omega
        have hkn : kk < n := by omega
        obtain ⟨b, hb⟩ : ∃ b, sent[kk]? = some b := ⟨_, List.getElem?_eq_getElem (by rw [HN.out]; exact hkn)⟩
        have HINV := hide hinv
        have HBK := hide hb
        have HRL := hide hrl
        obtain ⟨A8, c8, hv8⟩ := own_slice' hL.own
        subst hv8
        have HL := hide hL
        clear hinv hb hL hk3 hrl
        go_wp2_with fail
        go_loopg [8] kk (fun kx2 s8 wi => ∃ lo : Nat, s8 = .int .i64 lo ∧ lo ≤ kx2 ∧ lo ≤ kk ∧ Hid (∀ (j : Nat) y, lo ≤ j → j ≤ kk → sent[j]? = some y → y = b - ((kk : Int) - j)) ∧ RgL w wi x0 x1 x2 (.slice A8 i c8) i (rgsCells rs))
        case atStart =>
          refine ⟨kk, rfl, by omega, by omega, ?_, HL.out⟩
          show ∀ (j : Nat) y, _ → _ → _ → _
          intro j y h1 h2 h3
          obtain rfl : j = kk := by omega
          rw [HBK.out] at h3
          cases h3
          omega
        case round =>
          clear HL
          obtain ⟨lo, rfl, hlx, hlk, hrun, hL⟩ := hrel
          have HRUN := hide (show ∀ (j : Nat) y, lo ≤ j → j ≤ kk → sent[j]? = some y → y = b - ((kk : Int) - j) from hrun)
          clear hrun
          go_upto_region 7 with (fail)
          go_cut [55] (fun s55 wx => ∃ t : Bool, s55 = .bool t ∧ (t = true → 0 < lo ∧ Hid (∀ (j : Nat) y, lo - 1 ≤ j → j ≤ kk → sent[j]? = some y → y = b - ((kk : Int) - j))) ∧ RgL w wx x0 x1 x2 (.slice A8 i c8) i (rgsCells rs))
          case first =>
            by_cases hl0 : lo = 0
            · subst hl0
              simp only [Int.natCast_zero] at *
              have HL := hide hL
              clear hL
              go_quiet (fail)
              go_wp2_with fail
              go_meet
              exact ⟨_, rfl, by simp, HL.out.drewN _⟩
            · obtain ⟨m, rfl⟩ : ∃ m, lo = m + 1 := ⟨lo - 1, by omega⟩
              obtain ⟨y, hy⟩ : ∃ y, sent[m]? = some y := ⟨_, List.getElem?_eq_getElem (by rw [HN.out]; omega)⟩
              obtain ⟨z', hz⟩ : ∃ z', sent[m + 1]? = some z' := ⟨_, List.getElem?_eq_getElem (by rw [HN.out]; omega)⟩
              obtain ⟨g, hg, hgl, d0⟩ := HA.out m y hy
              obtain ⟨g', hg', _, d1⟩ := HA.out (m + 1) z' hz
              obtain rfl : g = g' := by rw [hg] at hg'; injection hg' with e; injection e
              subst hg
              have d0 : wr.cell? ⟨g, m, none⟩ = some (.int .i64 y) := (hL.below.cell (p := ⟨g, m, none⟩) hgl).trans d0
              have d1 : wr.cell? ⟨g, m + 1, none⟩ = some (.int .i64 z') := (hL.below.cell (p := ⟨g, m + 1, none⟩) hgl).trans d1
              have d2 : wr.cell? ⟨r, 1, none⟩ = some (.slice (some ⟨g, 0, none⟩) n cs) := (hL.below.cell (p := ⟨r, 1, none⟩) HB.out.lt).trans (HB.out.cell 1)
              have d3 : wr.cell? ⟨w.heap.size, 1, none⟩ = some (.int .i64 x1) := hL.box.cell 1
              have hy0 := HBD.out y (List.mem_of_getElem? hy)
              have hz0' := HBD.out z' (List.mem_of_getElem? hz)
              have HY := hide hy
              have HZ := hide hz
              have HL := hide hL
              simp only [Int.natCast_add, Int.natCast_one] at *
              have g1 : (0 : Int) < (m : Int) + 1 := by omega
              have g2 : (0 : Int) ≤ (m : Int) := by omega
              have g3 : (m : Int) < (n : Int) := by omega
              have g4 : (m : Int) + 1 < (n : Int) := by omega
              have g5 : (0 : Int) ≤ (m : Int) + 1 := by omega
              clear hy hz hL
              by_cases hq : y = z' - 1
              · have hbq : (y == z' - 1) = true := by rw [beq_iff_eq]; exact hq
                have HQ := hide hq
                clear hq
                go_quiet ((go_at_call 11; with_reducible exact quiet17 (B1.out _)))
                go_wp2_with fail
                go_meet
                refine ⟨_, rfl, fun _ => ⟨by omega, ?_⟩, HL.out.drewN _⟩
                show ∀ (j : Nat) u, _ → _ → _ → _
                intro j u h1 h2 h3
                have hz2 := HRUN.out (m + 1) z' (Nat.le_refl _) hlk HZ.out
                have := HQ.out
                by_cases hj : j = m
                · subst hj
                  rw [HY.out] at h3
                  cases h3
                  omega
                · exact HRUN.out j u (by omega) h2 h3
              · have hbq : (y == z' - 1) = false := by rw [beq_eq_false_iff_ne]; exact hq
                go_quiet (fail)
                go_wp2_with fail
                go_meet
                exact ⟨_, rfl, by simp, HL.out.drewN _⟩
          case rest =>
            clear hL
            obtain ⟨t, rfl, ht, hL⟩ := hcut
            have HL := hide hL
            clear hL
            cases t with
            | true =>
              obtain ⟨hl0, hrun⟩ := ht rfl
              obtain ⟨m, rfl⟩ : ∃ m, lo = m + 1 := ⟨lo - 1, by omega⟩
              simp only [Int.natCast_add, Int.natCast_one, Nat.add_sub_cancel] at *
              go_wp2_with fail
              go_roundg m
              case rel => exact ⟨m, by go_num, Nat.le_refl _, by omega, hrun, HL.out⟩
              case measure => omega
            | false =>
              clear ht
              obtain ⟨a, ha⟩ : ∃ a, sent[lo]? = some a := ⟨_, List.getElem?_eq_getElem (by rw [HN.out]; omega)⟩
              obtain ⟨g, hg, hgl, d0⟩ := HA.out lo a ha
              obtain ⟨g', hg', _, d1⟩ := HA.out kk b HBK.out
              obtain rfl : g = g' := by rw [hg] at hg'; injection hg' with e; injection e
              subst hg
              have HAL := hide ha
              have hb9 := HL.out.below
              have hsz := HL.out.box.lt
              have d0 : wc.cell? ⟨g, lo, none⟩ = some (.int .i64 a) := (hb9.cell (p := ⟨g, lo, none⟩) hgl).trans d0
              have d1 : wc.cell? ⟨g, kk, none⟩ = some (.int .i64 b) := (hb9.cell (p := ⟨g, kk, none⟩) hgl).trans d1
              have d2 : wc.cell? ⟨r, 1, none⟩ = some (.slice (some ⟨g, 0, none⟩) n cs) := (hb9.cell (p := ⟨r, 1, none⟩) HB.out.lt).trans (HB.out.cell 1)
              have g1 : (0 : Int) ≤ (lo : Int) := by omega
              have g2 : (lo : Int) < (n : Int) := by omega
              have g3 : (kk : Int) < (n : Int) := by omega
              clear ha hb9
              obtain ⟨xs, hxs⟩ : ∃ xs, rgsCells rs = xs := ⟨_, rfl⟩
              have hown := HL.out.own
              rw [hxs] at hown
              have HOW := hide hown
              have HXS := hide hxs
              clear hown hxs
              go_wp2_with fail
              go_region_law (refine step_append_any _ rfl (.tmp 58) (.tmp 74) _ rfl (w.heap.size + 1) 54 i0 _ 2 16 Tryz.underlying83 hi0 hz0 hz1 hz2 rfl (by decide) (.slice A8 i c8) i xs rfl (by first | exact HOW.out.alloc _ | exact (own_only2 (S := []) HOW.out (by repeat (first | exact Only.refl _ _ | with_reducible refine Only.alloc ?_ _ | with_reducible refine Only.drewN ?_ _ | with_reducible refine Only.drew ?_)) (by simp))) (wc.heap.size + 1) (some ⟨wc.heap.size, 0, none⟩) 1 1 [.int .i64 a, .int .i64 b] rfl (by exact reads_lit (blk_new_at (by simp)) (by simp) rfl) (by simp [Value.oneCell']) (by unfold maxLen; omega) (by omega) (by simp; omega) ?_; intro v8 w8 hown8 hg8 hat8)
              all_goals
                have hpush := HL.out.push (v' := v8) (xs' := rgsCells (rs ++ [⟨a, b⟩])) (by repeat (first | exact Below.refl _ _ | with_reducible refine Below.alloc ?_ (Nat.le_refl _) _ | with_reducible refine Below.drew ?_)) hg8 (by
                  have e1 : rgsCells (rs ++ [⟨a, b⟩]) = xs ++ [.int .i64 a, .int .i64 b] := by
                    rw [← HXS.out]
                    unfold rgsCells
                    rw [List.flatMap_append]
                    rfl
                  rw [e1]
                  exact hown8)
                have d8 : w8.cell? ⟨w.heap.size, 2, none⟩ = some (.int .i64 x2) := hpush.box.cell 2
                have HP := hide hpush
                clear hpush hown8 hg8 hat8
                go_wp2_with fail
                refine (B2.out _).mono ?_
                rintro e9 w9 ⟨rfl, rfl⟩
                go_wp2_with fail
                go_roundg (2 - (i + 1))
                case rel => exact ⟨i + 1, (lo : Int) - 2 - y2, v8, rs ++ [⟨a, b⟩], rfl, by go_num, by go_num, by omega, by omega, by rw [List.length_append, HRL.out]; rfl, by omega, by omega, by omega, HINV.out.push HS.out HBD.out hlk HAL.out HBK.out HRUN.out (by omega), HP.out⟩
                case measure => omega
      · have HL := hide hL
        have HI := hide hinv
        have HRL := hide hrl
        have hi1 : 1 ≤ i := by omega
        obtain ⟨A8, c8, hv8⟩ := own_slice' hL.own
        subst hv8
        have hk' : k < 0 := by omega
        clear hL hinv hrl
        go_wp2_with fail
        go_ret
        obtain ⟨q1, q2⟩ := own_arr17 HRL.out HL.out.own
        exact ⟨A8, c8, rs, by rw [HRL.out]; rfl, q1, HI.out.ok (by rw [HRL.out]; exact hi1) (by rw [HRL.out]; omega), by rw [HRL.out]; omega, HL.out.below, fun k o e => by have := q2 k o e; omega⟩
    · obtain rfl : i = 2 := by omega
      have HL := hide hL
      have HI := hide hinv
      have HRL := hide hrl
      obtain ⟨A8, c8, hv8⟩ := own_slice' hL.own
      subst hv8
      clear hL hinv hrl
      go_wp2_with fail
      go_ret
      obtain ⟨q1, q2⟩ := own_arr17 HRL.out HL.out.own
      exact ⟨A8, c8, rs, by rw [HRL.out]; rfl, q1, HI.out.ok (by rw [HRL.out]; omega) (by rw [HRL.out]; omega), by rw [HRL.out]; omega, HL.out.below, fun k o e => by have := q2 k o e; omega⟩
end Go.Proofs.YtgicljeedegncaaGreat
