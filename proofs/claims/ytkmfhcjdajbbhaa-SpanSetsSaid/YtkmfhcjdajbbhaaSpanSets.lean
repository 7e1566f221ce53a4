/-
  The statement SpanSets: its walk.
-/
import Derived.Test.YtkmfhcjdajbbhaaSpanIs
namespace Go.Proofs.Ytkmfhcjdajbbhaa
set_option linter.unusedSimpArgs false
set_option linter.unusedVariables false
open Go.RowKit

theorem add_again {rs : List Rg} {a b : Int} (h : GoodR rs) (h0 : 0 ≤ a) (hab : a ≤ b) (hb : b ≤ 9007199254740991) (hm : ∀ n, a ≤ n → n ≤ b → memR n rs) : addR a b rs = rs := by
  refine ext_R (addR_good h hab h0 hb).1 h fun n => ?_
  rw [memR_addR n h hab]
  exact ⟨fun k => k.elim id fun k => hm n k.1 k.2, .inl⟩
theorem PairsAt.cut {w : World} {a : Option Addr} {len L : Nat} {X Y : Nat → Int} (h : PairsAt w a len X Y) (hL : L ≤ len) : PairsAt w a L X Y := ⟨Nat.le_trans hL h.1, fun i hi => h.2 i (by omega)⟩
def SetsAt (w W : World) (b : Nat) (g : Option Nat) (c : Nat) (gc : Option Nat) (rs ss : List Rg) : Prop := AllS w W [⟨b, g, 256, rs⟩, ⟨c, gc, 256, ss⟩]
theorem SetsAt.later {w W w' : World} {b c : Nat} {g gc : Option Nat} {rs ss : List Rg} (h : SetsAt w W b g c gc rs ss) (hb : Below W.heap.size W w') : SetsAt w w' b g c gc rs ss := AllS.later h hb
theorem SetsAt.one {w W : World} {b c : Nat} {g gc : Option Nat} {rs ss : List Rg} (h : SetsAt w W b g c gc rs ss) : IsSet W b g 256 rs := (AllS.head h).set
theorem SetsAt.two {w W : World} {b c : Nat} {g gc : Option Nat} {rs ss : List Rg} (h : SetsAt w W b g c gc rs ss) : IsSet W c gc 256 ss := (AllS.head (AllS.swap h)).set
theorem SetsAt.below {w W : World} {b c : Nat} {g gc : Option Nat} {rs ss : List Rg} (h : SetsAt w W b g c gc rs ss) : Below w.heap.size w W := (AllS.head h).below
theorem SetsAt.step1 {w W w' : World} {b c : Nat} {g gc : Option Nat} {rs ss ys : List Rg} {x : Ending} (h : SetsAt w W b g c gc rs ss) (hp : SAddPost W b g 256 ys x w') : x = .returned (.int .i64 0) ∧ ∃ g', SetsAt w w' b g' c gc ys ss := AllS.step h hp
theorem SetsAt.step2 {w W w' : World} {b c : Nat} {g gc : Option Nat} {rs ss ys : List Rg} {x : Ending} (h : SetsAt w W b g c gc rs ss) (hp : SAddPost W c gc 256 ys x w') : x = .returned (.int .i64 0) ∧ ∃ g', SetsAt w w' b g c g' rs ys := by
  obtain ⟨h1, g', h2⟩ := AllS.step (AllS.swap h) hp
  exact ⟨h1, g', AllS.swap h2⟩

set_option maxRecDepth 100000 in
set_option maxHeartbeats 4000000 in
theorem ssets_any (a : Option Addr) (len cap : Nat) (below from_ : Int) (X Y : Nat → Int) (w : World) (hz : PairsAt w a len X Y) (hlc : len ≤ cap) (ha0 : a = none → cap = 0)
    (hb0 : -9223372036854775808 ≤ below) (hb1 : below ≤ 9223372036854775807) (hf0 : -9223372036854775808 ≤ from_) (hf1 : from_ ≤ 9223372036854775807) :
    Calls Try.prog 4 #[.slice a len cap, .int .i64 below, .int .i64 from_] w fun e w' => e = .returned (.bool true) ∧ Below w.heap.size w w' := by
  obtain ⟨L, hL, hL0, hL1⟩ : ∃ L : Nat, (if (40 : Int) < (len : Int) then (40 : Int) else (len : Int)) = (L : Int) ∧ L ≤ len ∧ L ≤ 40 := ⟨min len 40, by split <;> omega, by omega, by omega⟩
  have HZ := hide (hz.cut hL0)
  have hlen := hz.1
  clear hz
  have hbr1 := hide (fun W => bring_any below 101 W (by omega) (by omega) hb0 hb1)
  have hbr2 := hide (fun W => bring_any from_ ((L : Int) + 1) W (by omega) (by omega) hf0 hf1)
  have m0 := Int.emod_nonneg below (show (101 : Int) ≠ 0 by omega)
  have m1 := Int.emod_lt_of_pos below (show (0 : Int) < 101 by omega)
  have m2 := Int.emod_nonneg from_ (show ((L : Int) + 1) ≠ 0 by omega)
  have m3 := Int.emod_lt_of_pos from_ (show (0 : Int) < (L : Int) + 1 by omega)
  obtain ⟨B, hB⟩ : ∃ B, below % 101 = B := ⟨_, rfl⟩
  obtain ⟨k, hk⟩ : ∃ k : Nat, from_ % ((L : Int) + 1) = (k : Int) := ⟨(from_ % ((L : Int) + 1)).toNat, by omega⟩
  rw [hB] at hbr1 m0 m1
  rw [hk] at hbr2 m3
  clear hB hk m2 hb0 hb1 hf0 hf1
  go_enter Try.func4, Try.ntmps4
  go_wp2_with fail
  refine (sworks_any _).mono ?_
  rintro e0 w0 ⟨rfl, hw0⟩
  go_wp2_with fail
  refine (hbr1.out _).mono ?_
  rintro e1 w1 ⟨rfl, rfl⟩
  clear hbr1
  go_wp2_with fail
  refine (snew_ok 256 _ (by omega) (by omega)).mono ?_
  intro e2 w2 hp
  obtain ⟨b, rfl, h1⟩ := AllS.nil.fresh (w := w) hp hw0
  clear hp hw0
  go_wp2_with fail
  refine (snew_ok 256 _ (by omega) (by omega)).mono ?_
  intro e3 w3 hp
  obtain ⟨c, rfl, h2⟩ := h1.fresh hp h1.head.below
  have h : SetsAt w w3 b none c none [] [] := h2.swap
  clear hp h1 h2
  go_wp2_with fail
  refine (hbr2.out _).mono ?_
  rintro e4 w4 ⟨rfl, rfl⟩
  clear hbr2 hL
  go_wp2_with fail
  go_loopg [12] 40 (fun kx s12 wr => ∃ (i : Nat) (g gc : Option Nat), s12 = .int .i64 i ∧ i ≤ L ∧ 40 - i ≤ kx ∧ SetsAt w wr b g c gc (rowsR X Y i) (rowsR (fun j => X ((j + k) % L)) (fun j => Y ((j + k) % L)) i))
  case atStart => exact ⟨0, none, none, rfl, by omega, by omega, h⟩
  case round =>
    obtain ⟨i, g, gc, rfl, hi, hkx, hs⟩ := hrel
    clear h
    by_cases hlt : i < L
    · obtain ⟨xb, xo, ha, hc, hd, hx0, hx1, hy0, hy1⟩ := HZ.out.at hs.below hlt
      obtain ⟨j, hj, hjL⟩ : ∃ j, (i + k) % L = j ∧ j < L := ⟨_, rfl, Nat.mod_lt _ (by omega)⟩
      subst ha
      have HR := hide (fun W => row_any (X i) (Y i) W hx0 hx1 hy0 hy1)
      obtain ⟨q0, q1, q2⟩ := rowB (X i) (Y i)
      have hln := rowsR_len X Y (i + 1)
      have hln2 := rowsR_len (fun j => X ((j + k) % L)) (fun j => Y ((j + k) % L)) (i + 1)
      have hgd2 := rowsR_good X Y (i + 1)
      have hnx : addR (rowLo (X i)) (rowHi (X i) (Y i)) (rowsR X Y i) = rowsR X Y (i + 1) := rfl
      have hag : addR (rowLo (X i)) (rowLo (X i)) (rowsR X Y (i + 1)) = rowsR X Y (i + 1) := add_again hgd2 q0 (Int.le_refl _) (by omega) (fun n h1 h2 => (rowsR_mem X Y n (i + 1)).2 ⟨i, by omega, by omega, by omega⟩)
      have hnx2 : addR (rowLo (X j)) (rowHi (X j) (Y j)) (rowsR (fun j => X ((j + k) % L)) (fun j => Y ((j + k) % L)) i) = rowsR (fun j => X ((j + k) % L)) (fun j => Y ((j + k) % L)) (i + 1) := by rw [← hj]; rfl
      obtain ⟨ss, hss⟩ : ∃ ss, rowsR X Y (i + 1) = ss := ⟨_, rfl⟩
      obtain ⟨ts, hts⟩ : ∃ ts, rowsR (fun j => X ((j + k) % L)) (fun j => Y ((j + k) % L)) (i + 1) = ts := ⟨_, rfl⟩
      rw [hss] at hnx hag hln
      rw [hts] at hnx2 hln2
      obtain ⟨rs, hrs⟩ : ∃ rs, rowsR X Y i = rs := ⟨_, rfl⟩
      obtain ⟨us, hus⟩ : ∃ us, rowsR (fun j => X ((j + k) % L)) (fun j => Y ((j + k) % L)) i = us := ⟨_, rfl⟩
      rw [hrs] at hnx hs
      rw [hus] at hnx2 hs
      obtain ⟨lo, hlo⟩ : ∃ lo, rowLo (X i) = lo := ⟨_, rfl⟩
      obtain ⟨hi', hhi⟩ : ∃ hi', rowHi (X i) (Y i) = hi' := ⟨_, rfl⟩
      rw [hlo, hhi] at HR q1 hnx
      rw [hlo] at q0 hag
      rw [hhi] at q2
      have HNX := hide hnx
      have HAG := hide hag
      have HNX2 := hide hnx2
      have HSS := hide hss
      have HTS := hide hts
      have HJ := hide hj
      have HS := hide hs
      clear hlo hhi hx0 hx1 hy0 hy1 hnx hag hnx2 hrs hus hss hts hj hs hgd2
      have hd2 : wr.cell? ⟨xb, xo + i * 2 + 1, none⟩ = some (.int .i64 (Y i)) := hd
      have hin : (i : Int) < (L : Int) := by omega
      go_wp2_with fail
      refine (HR.out _).mono ?_
      rintro e2 w5 ⟨rfl, hb2⟩
      have h2 := HS.out.later hb2
      clear HS hb2 hc hd hd2 HR
      go_wp2_with fail
      refine (add_ok b _ 256 lo hi' rs _ h2.one q0 q1 (by omega) (by rw [HNX.out]; omega)).mono ?_
      rw [HNX.out]
      intro e5 w6 hp
      obtain ⟨rfl, g5, h5⟩ := h2.step1 hp
      clear h2 hp
      go_wp2_with fail
      refine (add_ok b _ 256 lo lo ss _ h5.one q0 (Int.le_refl _) (by omega) (by rw [HAG.out]; omega)).mono ?_
      rw [HAG.out]
      intro e6 w7 hp
      obtain ⟨rfl, g6, h6⟩ := h5.step1 hp
      clear h5 hp
      obtain ⟨xb', xo', ha, hc, hd, hx0, hx1, hy0, hy1⟩ := HZ.out.at h6.below hjL
      cases ha
      have HR := hide (fun W => row_any (X j) (Y j) W hx0 hx1 hy0 hy1)
      obtain ⟨q0, q1, q2⟩ := rowB (X j) (Y j)
      obtain ⟨lo2, hlo⟩ : ∃ lo, rowLo (X j) = lo := ⟨_, rfl⟩
      obtain ⟨hi2, hhi⟩ : ∃ hi', rowHi (X j) (Y j) = hi' := ⟨_, rfl⟩
      rw [hlo, hhi] at HR q1 HNX2
      rw [hlo] at q0
      rw [hhi] at q2
      clear hlo hhi hx0 hx1 hy0 hy1
      have hd2 : w7.cell? ⟨xb, xo + j * 2 + 1, none⟩ = some (.int .i64 (Y j)) := hd
      have hjn : (j : Int) < (L : Int) := by omega
      have hL00 : ((L : Int) == 0) = false := by rw [beq_eq_false_iff_ne]; omega
      have hrem : ((i : Int) + (k : Int)).tmod (L : Int) = (j : Int) := by
        rw [← HJ.out, Int.tmod_eq_emod_of_nonneg (by omega), Int.natCast_emod, Int.natCast_add]
      have hrem2 : ((i : Int) + (k : Int)) % (L : Int) = (j : Int) := by
        rw [← HJ.out, Int.natCast_emod, Int.natCast_add]
      go_wp2_with fail
      refine (HR.out _).mono ?_
      rintro e8 w8 ⟨rfl, hb8⟩
      have h8 := h6.later hb8
      clear h6 hb8 hc hd hd2 HR hrem hrem2
      go_wp2_with fail
      refine (add_ok c _ 256 lo2 hi2 us _ h8.two q0 q1 (by omega) (by rw [HNX2.out]; omega)).mono ?_
      rw [HNX2.out]
      intro e9 w9 hp
      obtain ⟨rfl, g9, h9⟩ := h8.step2 hp
      clear h8 hp
      go_wp2_with fail
      go_roundg (40 - (i + 1))
      case rel => exact ⟨i + 1, g6, g9, by go_num, by omega, by omega, by rw [HSS.out, HTS.out]; exact h9⟩
      case measure => omega
    · obtain rfl : i = L := by omega
      have hln := rowsR_len X Y i
      rw [rowsR_turn] at hs
      have hgd := cutR_good (b := B) (rowsR_good X Y i)
      have HHI := hide (cutR_hi (rowsR_hi X Y i) B)
      have HBITS := hide (fun W (hb : Below w.heap.size w W) => bits_any a i cap B X Y W (by
        have hz := HZ.out
        exact ⟨hz.1, fun j hj => by
          obtain ⟨xb, xo, e, hl, h1, h2, hx⟩ := hz.2 j hj
          exact ⟨xb, xo, e, Nat.lt_of_lt_of_le hl hb.size, (hb.cell (p := ⟨xb, _, none⟩) hl).trans h1, (hb.cell (p := ⟨xb, _, none⟩) hl).trans h2, hx⟩⟩) m0 (by omega))
      have hsum := tS_cnt hgd (fun r hr => by have := HHI.out r hr; omega)
      have HBD := hide (tS_bound (cutR B (rowsR X Y i)))
      obtain ⟨rs, hrs⟩ : ∃ rs, rowsR X Y i = rs := ⟨_, rfl⟩
      rw [hrs] at hs hln hgd HHI HBITS hsum HBD
      obtain ⟨ss, hss⟩ : ∃ ss, cutR B rs = ss := ⟨_, rfl⟩
      rw [hss] at hgd HHI HBITS hsum HBD
      have HSS := hide hss
      have HSUM := hide hsum
      have hin : ¬ (i : Int) < (i : Int) := by omega
      clear hlt hi hkx hrs hss hsum
      go_wp2_with fail
      refine (ssame_any b c _ _ 256 256 rs rs _ hs.one hs.two).mono ?_
      rintro e2 w5 ⟨rfl, hb5⟩
      rw [show (decide (256 = 256) && decide (rs = rs)) = true by simp]
      have h5 := hs.later hb5
      clear hs hb5
      go_wp2_with fail
      refine (cut_ok b _ 256 B rs _ h5.one m0 (by omega)).mono ?_
      rw [HSS.out]
      intro e6 w6 hp
      obtain ⟨rfl, g6, h6⟩ := h5.step1 hp
      clear h5 hp
      go_wp2_with fail
      refine (cut_ok c _ 256 B rs _ h6.two m0 (by omega)).mono ?_
      rw [HSS.out]
      intro e7 w7 hp
      obtain ⟨rfl, g7, h7⟩ := h6.step2 hp
      clear h6 hp
      go_wp2_with fail
      refine (HBITS.out _ h7.below).mono ?_
      rintro e8 w8 ⟨rfl, hb8⟩
      have h8 := h7.later hb8
      clear h7 hb8 HBITS
      have hz40 := (zero_of_info zero40).1
      have hst := run_storeCells_new (P := Try.prog) w8 40 (bitC fun _ => 0) (bitC (bitR ss)) (bitC_info _) (by rw [bitC_size, bitC_size]) (bitC_one _)
      go_wp2_with fail
      clear hst hz40
      have h9 : SetsAt w (w8.alloc (.cells (bitC (bitR ss)) 40)) b g6 c g7 ss ss := h8.later ((Below.refl _ _).alloc (Nat.le_refl _) _)
      have hB9 : Blk (w8.alloc (.cells (bitC (bitR ss)) 40)) w8.heap.size 40 (bitC (bitR ss)) := Blk.new w8 _ _
      obtain ⟨X9, hX9⟩ : ∃ X9, w8.heap.size = X9 := ⟨_, rfl⟩
      rw [hX9] at hB9 ⊢
      obtain ⟨W9, hW9⟩ : ∃ W9, w8.alloc (.cells (bitC (bitR ss)) 40) = W9 := ⟨_, rfl⟩
      rw [hW9] at hB9 h9 ⊢
      clear h8 hX9 hW9
      obtain ⟨T, hT⟩ : ∃ T, cntR ss = T := ⟨_, rfl⟩
      rw [hT] at HSUM
      have HT := hide hT
      clear hT
      go_loopg [15, 17] 101 (fun kx s15 s17 wr => ∃ n : Nat, s17 = .int .i64 n ∧ s15 = .int .i64 (T - tS (bitR ss) (101 - n)) ∧ n ≤ 101 ∧ 101 - n ≤ kx ∧ SetsAt w wr b g6 c g7 ss ss ∧ Blk wr X9 40 (bitC (bitR ss)))
      case atStart => exact ⟨0, rfl, by rw [show T - tS (bitR ss) (101 - 0) = 0 by have := HSUM.out; rw [show 101 - 0 = 101 from rfl]; omega], by omega, by omega, h9, hB9⟩
      case round =>
        clear h9 hB9
        obtain ⟨n, rfl, rfl, hn, hkx, hs, hB⟩ := hrel
        by_cases hlt : n < 101
        · have hst := tS_step (bitR ss) hlt
          have hbd := HBD.out (101 - n)
          have hbd2 := HBD.out (101 - (n + 1))
          have hbd3 := HBD.out 101
          rw [HSUM.out] at hbd3
          have hbit := (hB.cell n).trans (bitC_get _ hlt)
          have hn1 : (n : Int) < 101 := by omega
          obtain ⟨x, hx⟩ : ∃ x, bitR ss n = x := ⟨_, rfl⟩
          have hx01 : x = 0 ∨ x = 1 := by rw [← hx]; unfold bitR; split <;> simp
          rw [hx] at hst hbit
          obtain ⟨A, hA⟩ : ∃ A, T - tS (bitR ss) (101 - n) = A := ⟨_, rfl⟩
          have hw1 : wrap64 (A + x) = T - tS (bitR ss) (101 - (n + 1)) := by unfold wrap64; omega
          have HW1 := hide hw1
          obtain ⟨A2, hA2⟩ : ∃ A2, wrap64 (A + x) = A2 := ⟨_, rfl⟩
          rw [hA2] at HW1
          rw [hA]
          clear hA hw1 hst hbd hbd2 hbd3 hx hx01
          go_wp2_with fail
          go_roundg (101 - (n + 1))
          case rel => exact ⟨n + 1, by go_num, by first | rw [HW1.out] | rw [hA2, HW1.out], by omega, by omega, hs, hB⟩
          case measure => omega
        · obtain rfl : n = 101 := by omega
          rw [show T - tS (bitR ss) (101 - 101) = T by show T - 0 = T; omega]
          clear hlt hn hkx
          go_wp2_with fail
          refine wp_load_mid (P := Try.prog) 40 (.tmp 16) rfl X9 0 rfl (bitC (bitR ss)).toList (.array 101 3) (fun j v hj => ?_) (by kernel_rfl) rfl (by rw [Array.length_toList]; exact bitC_info _) ?_
          · rw [Nat.zero_add, hB.cell]; rw [← hj]; simp
          rw [Array.toArray_toList]
          go_wp2_with fail
          refine (is_any b _ 256 ss _ hs.one HHI.out).mono ?_
          rintro e10 w10 ⟨rfl, hb10⟩
          have h10 := hs.later hb10
          clear hs hb10
          go_wp2_with fail
          refine (ssame_any b c _ _ 256 256 ss ss _ h10.one h10.two).mono ?_
          rintro e11 w11 ⟨rfl, hb11⟩
          rw [show (decide (256 = 256) && decide (ss = ss)) = true by simp]
          have h11 := h10.later hb11
          clear h10 hb11
          go_wp2_with fail
          refine (count_any b _ 256 ss _ h11.one).mono ?_
          rintro e12 w12 ⟨rfl, hb12⟩
          rw [HT.out]
          have h12 := h11.later hb12
          clear h11 hb12
          go_wp2_with fail
          go_ret
          exact ⟨rfl, h12.below⟩
end Go.Proofs.Ytkmfhcjdajbbhaa
