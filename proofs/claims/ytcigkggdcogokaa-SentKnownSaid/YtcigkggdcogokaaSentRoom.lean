/-
  The statement SentRoom: its walk.
-/
import Derived.Test.YtcigkggdcogokaaSentOnce
namespace Go.Proofs.Ytcigkggdcogokaa
open Go.RowKit

/-- Packets of 100 bytes, under way. -/
def All100 (ps : List Pk) : Prop := ∀ p ∈ ps, p.fl = true ∧ p.size = 100
theorem flight100 : ∀ {ps : List Pk}, All100 ps → flightOf ps = 100 * (ps.length : Int)
  | [], _ => rfl
  | p :: ps, h => by
    obtain ⟨h1, h2⟩ := h p (by simp)
    have ih := flight100 (ps := ps) (fun x hx => h x (by simp [hx]))
    simp only [flightOf, h1, if_true, h2, ih, List.length_cons]
    omega
theorem all100_push {ps : List Pk} (h : All100 ps) (n : Int) : All100 (ps ++ [Pk.mk n 0 100 true true false]) := by
  intro p hp
  rcases List.mem_append.1 hp with h1 | h1
  · exact h p h1
  · simp at h1; subst h1; exact ⟨rfl, rfl⟩
theorem all100_without {ps : List Pk} (h : All100 ps) (n : Int) : All100 (without n ps) := fun p hp => h p (List.mem_filter.1 hp).1
theorem find_self {p : Pk} : ∀ {ps : List Pk}, (ps.Pairwise fun a b => a.num < b.num) → p ∈ ps → ps.find? (fun q => q.num == p.num) = some p
  | [], _, h => by simp at h
  | x :: ps, hs, h => by
    obtain ⟨h1, h2⟩ := List.pairwise_cons.1 hs
    rcases List.mem_cons.1 h with rfl | h
    · simp
    · have := h1 p h
      rw [List.find?_cons, show (x.num == p.num) = false by simp; omega]
      exact find_self h2 h

theorem new_okI (r : Int) (w : World) (h1 : 1 ≤ r) (h2 : r ≤ 256) : Calls Try.prog 9 #[.int .i64 r] w (NewPost w r.toNat) := by
  obtain ⟨n, rfl⟩ := Int.eq_ofNat_of_zero_le (show 0 ≤ r by omega)
  exact new_ok n w (by omega) (by omega)

/-- The cells of a row of packets. -/
theorem pk_cells {w : World} {g t k : Nat} {ps : List Pk} {rest : List Value} {p : Pk} (h : Blk w g t (ps.flatMap Pk.cells ++ rest).toArray) (hs : ps[k]? = some p) :
    w.cell? ⟨g, k * 6, none⟩ = some (.int .i64 p.num) ∧ w.cell? ⟨g, k * 6 + 1, none⟩ = some (.int .i64 p.time) ∧ w.cell? ⟨g, k * 6 + 2, none⟩ = some (.int .i64 p.size) ∧
    w.cell? ⟨g, k * 6 + 3, none⟩ = some (.bool p.el) ∧ w.cell? ⟨g, k * 6 + 4, none⟩ = some (.bool p.fl) ∧ w.cell? ⟨g, k * 6 + 5, none⟩ = some (.bool p.ect) := by
  have hk : k < ps.length := (List.getElem?_eq_some_iff.1 hs).1
  have hl := flat_length Pk.cells 6 pkCells_length ps
  have H : ∀ j, j < 6 → w.cell? ⟨g, k * 6 + j, none⟩ = (p.cells)[j]? := fun j hj => by
    rw [h.cell, List.getElem?_toArray, List.getElem?_append_left (by rw [hl]; omega), flat_cell Pk.cells 6 pkCells_length ps k j hj, hs]; rfl
  exact ⟨H 0 (by omega), H 1 (by omega), H 2 (by omega), H 3 (by omega), H 4 (by omega), H 5 (by omega)⟩

set_option maxRecDepth 100000 in
set_option maxHeartbeats 8000000 in
theorem sentroom_any (room : Int) (a : Option Addr) (len cap : Nat) (zs : List Int) (w : World) (hr1 : -9223372036854775808 ≤ room) (hr2 : room ≤ 9223372036854775807) (hz : IntsAt w a len cap zs) :
    Calls Try.prog 6 #[.int .i64 room, .slice a len cap] w fun e w' => e = .returned (.bool true) ∧ Below w.heap.size w w' := by
  have HZ := hide hz
  clear hz
  have hm0 : 0 ≤ room % 20 ∧ room % 20 ≤ 19 := by omega
  have hbr := fun W => bring_any room 20 W (by omega) (by omega) hr1 hr2
  obtain ⟨m, hm⟩ : ∃ m, room % 20 = m := ⟨_, rfl⟩
  rw [hm] at hm0 hbr
  obtain ⟨hm1, hm2⟩ := hm0
  have HBR := hide hbr
  have HM := hide hm
  clear hbr hm
  go_enter Try.func6, Try.ntmps6
  go_wp2_with fail
  refine (HBR.out _).mono ?_
  rintro e0 w0 ⟨rfl, rfl⟩
  go_wp2_with fail
  refine (new_okI (1 + m) _ (by omega) (by omega)).mono ?_
  rintro e1 w1 ⟨b, rb1, rfl, hL1, hb, hrb1, hW1⟩
  obtain ⟨R, hR⟩ : ∃ R : Nat, (1 + m).toNat = R := ⟨_, rfl⟩
  rw [hR] at hL1
  have hRm : (R : Int) ≤ 1 + m := by omega
  have hRm2 : 1 + m ≤ (R : Int) := by omega
  have HR := hide hR
  clear hR
  go_wp2_with fail
  go_loopw [7] (fun s7 wr => ∃ (k rb : Nat) (ps : List Pk), s7 = .int .i64 k ∧ k ≤ R ∧ IsLog wr b rb R ((k : Int) - 1) ps ∧ Hid (ps.length = k) ∧ Hid (All100 ps) ∧ w.heap.size ≤ rb ∧ Below w.heap.size w wr)
    (fun i _ => R - (intOf i).toNat)
  case atStart => exact ⟨0, rb1, [], rfl, by omega, hL1, rfl, (by intro p hp; cases hp), hrb1, hW1⟩
  case round =>
    obtain ⟨k, rb, ps, rfl, hk, hL, HPS, HA, hrb, hW⟩ := hrel
    by_cases hkR : k < R
    · have hd : (k : Int) < 1 + m := by omega
      have hmay : (Pk.mk k 0 100 true true false).may := pk1_may (by omega) (by omega)
      go_wp2_with fail
      refine (one_any _ _).mono ?_
      rintro e3 w3 ⟨rfl, hB3⟩
      have hL3 := hL.below hB3
      have hW3 := bw_below hW hB3
      clear hL hW hB3
      go_wp2_with fail
      refine (put_ok b rb R ((k : Int) - 1) k 0 100 true true false ps _ hL3 hmay (by omega) (by rw [HPS.out]; exact hkR)).mono ?_
      rintro e4 w4 ⟨rfl, rb4, hL4, hrb4, hO4⟩
      have hrb5 := rb_le hrb4 hrb hW3.size
      have hW4 := bw_only hW3 hO4 (by simp; omega)
      clear hL3 hW3 hO4 hrb4
      go_wp2_with fail
      go_roundw
      case rel => exact ⟨k + 1, rb4, _, by go_num, by omega, (by rw [show ((k + 1 : Nat) : Int) - 1 = (k : Int) by omega]; exact hL4), (by have := HPS.out; show List.length _ = _; simp; omega), all100_push HA.out k, hrb5, hW4⟩
      case measure => simp [intOf]; omega
    · have hd : ¬ (k : Int) < 1 + m := by omega
      obtain rfl : k = R := by omega
      have hd2 : decide ((k : Int) < 1 + m) = false := by simp; omega
      clear hd
      go_wp2_with fail
      clear HBR
      go_loopw [7, 8] (fun s7 s8 wx => ∃ (i n rb : Nat) (ps : List Pk), s8 = .int .i64 i ∧ s7 = .int .i64 n ∧ i ≤ 100 ∧ n ≤ 20 + i ∧ IsLog wx b rb k ((n : Int) - 1) ps ∧ Hid (ps.length = k) ∧ Hid (All100 ps) ∧ w.heap.size ≤ rb ∧ Below w.heap.size w wx)
        (fun _ i _ => 100 - (intOf i).toNat)
      case atStart => exact ⟨0, k, rb, ps, rfl, rfl, by omega, by omega, hL, HPS, HA, hrb, hW⟩
      case round =>
        clear hL HPS HA hrb hW ps rb
        obtain ⟨i, n, rb, ps, rfl, rfl, hi, hn, hL, HPS, HA, hrb, hW⟩ := hrel
        by_cases hlt : i < len ∧ i < 100
        · obtain ⟨hlt, hlt2⟩ := hlt
          obtain ⟨x, z, ha, hc, hxl, hz1, hz2, hlen⟩ := intsAt_get HZ.out hlt
          have hR1 : 1 ≤ k := by omega
          have hj1 : 0 ≤ z % (1 + m) := Int.emod_nonneg _ (by omega)
          have hj2 : z % (1 + m) < 1 + m := Int.emod_lt_of_pos _ (by omega)
          have hbr := fun W => bring_any z (1 + m) W (by omega) (by omega) hz1 hz2
          obtain ⟨jz, hjz⟩ : ∃ jz : Nat, z % (1 + m) = jz := ⟨(z % (1 + m)).toNat, by omega⟩
          rw [hjz] at hj2 hbr
          have hjk : jz < k := by omega
          have hps : ps[jz]? = some (ps[jz]'(by have := HPS.out; omega)) := List.getElem?_eq_getElem _
          obtain ⟨p, hp⟩ : ∃ p, ps[jz]'(by have := HPS.out; omega) = p := ⟨_, rfl⟩
          rw [hp] at hps
          have hpm : p ∈ ps := List.mem_of_getElem? hps
          have hfd := find_self hL.sorted hpm
          have hpa := HA.out p hpm
          have hwl := length_without (n := p.num) hL.sorted hpm rfl
          have hmay : (Pk.mk n 0 100 true true false).may := pk1_may (by omega) (by omega)
          have hla : ∀ q ∈ ps, q.num ≤ (n : Int) - 1 := hL.le_last
          have HBR := hide hbr
          have HJ := hide hjz
          have HP := hide hps
          have HQ := hide hp
          have HFD := hide hfd
          have HPA := hide hpa
          have HWL := hide hwl
          have HLA := hide hla
          have HPM := hide hpm
          have HC := hide hc
          subst ha
          clear hbr hjz hps hp hfd hpa hwl hla hpm hc hd2
          go_wp2_with fail
          refine (all_any b rb k _ ps _ hL).mono ?_
          rintro e2 w2 ⟨v, rfl, hv, hB2⟩
          rw [HPS.out] at hv
          obtain ⟨g, gcap, grest, rfl, hgs, hgc, hg2⟩ := own_blk hv hR1
          have hL2 := hL.below hB2
          have hW2 := bw_below hW hB2
          have hgb : b ≠ g := by have := hL.lt; omega
          have hgr : rb ≠ g := by have := hL.lt; omega
          have hk1 : ((k : Int) != 1 + m) = false := by simp; omega
          clear hv hL hW hB2
          go_wp2_with fail
          refine (one_any _ _).mono ?_
          rintro e3 w3 ⟨rfl, hB3⟩
          have hL3 := hL2.below hB3
          have hg3 := (only_of_below hB3 (S := [])).blk hg2 (by simp)
          have hW3 := bw_below hW2 hB3
          clear hL2 hg2 hW2 hB3
          go_wp2_with fail
          refine (put_full b rb k ((n : Int) - 1) n 0 100 true true false ps _ hL3 hmay (by omega) HPS.out).mono ?_
          rintro e4 w4 ⟨rfl, hB4⟩
          have hL4 := hL3.below hB4
          have hg4 := (only_of_below hB4 (S := [])).blk hg3 (by simp)
          have hW4 := bw_below hW3 hB4
          clear hL3 hg3 hW3 hB4
          go_wp2_with fail
          refine (last_any b rb k ((n : Int) - 1) ps _ hL4).mono ?_
          rintro e5 w5 ⟨rfl, rfl⟩
          have hcw : w4.cell? (x.add i) = some (.int .i64 z) := by rw [hW4.cell (by rw [block_of_add]; exact hxl)]; exact HC.out
          obtain ⟨q0, q1, q2, q3, q4, q5⟩ := pk_cells hg4 HP.out
          go_wp2_with fail
          refine (HBR.out _).mono ?_
          rintro e6 w6 ⟨rfl, rfl⟩
          go_wp2_with fail
          refine (drop_is b rb k ((n : Int) - 1) p.num p ps _ hL4 HFD.out).mono ?_
          rintro e7 w7 ⟨rfl, hL7, hO7⟩
          have hW7 := bw_only hW4 hO7 (by simp; omega)
          rw [HPA.out.1]
          clear hL4 hg4 hW4 hO7 q0 q1 q2 q3 q4 q5 hcw
          go_wp2_with fail
          refine (one_any _ _).mono ?_
          rintro e8 w8 ⟨rfl, hB8⟩
          have hL8 := (hL7.alloc _).below hB8
          have hW8 := bw_below (bw_alloc hW7 _) hB8
          clear hL7 hW7 hB8
          go_wp2_with fail
          refine (put_ok b rb k ((n : Int) - 1) n 0 100 true true false (without p.num ps) _ hL8 hmay (by omega) (by have h1 := HWL.out; have h2 := HPS.out; omega)).mono ?_
          rintro e9 w9 ⟨rfl, rb9, hL9, hrb9, hO9⟩
          have hrb10 := rb_le hrb9 hrb hW8.size
          have hW9 := bw_only hW8 hO9 (by simp; omega)
          have hl9 : (without p.num ps ++ [Pk.mk n 0 100 true true false]).length = k := by have h1 := HWL.out; have h2 := HPS.out; simp; omega
          have ha9 := all100_push (all100_without HA.out p.num) n
          have hf9 := flight100 ha9
          rw [hl9] at hf9
          clear hL8 hW8 hO9 hrb9
          have hlen9 := len_any b rb9 k n _ w9 hL9
          rw [hl9] at hlen9
          have HF9 := hide hf9
          have HL9 := hide hl9
          have HLEN := hide hlen9
          have HA9 := hide ha9
          clear hf9 hl9 hlen9 ha9
          go_wp2_with fail
          refine HLEN.out.mono ?_
          rintro e10 w10 ⟨rfl, hB10⟩
          have hL10 := hL9.below hB10
          have hW10 := bw_below hW9 hB10
          clear HLEN hL9 hW9 hB10
          have hfl10 := flight_any b rb9 k n _ w10 hL10
          rw [HF9.out] at hfl10
          have HFL := hide hfl10
          clear hfl10
          go_wp2_with fail
          refine HFL.out.mono ?_
          rintro e11 w11 ⟨rfl, hB11⟩
          have hL11 := hL10.below hB11
          have hW11 := bw_below hW10 hB11
          have hk2 : ((100 : Int) * (k : Int) != 100 * (1 + m)) = false := by simp; omega
          clear HFL hL10 hW10 hB11
          go_wp2_with fail
          go_roundw
          case rel => exact ⟨i + 1, n + 1, rb9, _, by go_num, by go_num, by omega, by omega, (by rw [show ((n + 1 : Nat) : Int) - 1 = (n : Int) by omega]; exact hL11), HL9.out, HA9.out, hrb10, hW11⟩
          case measure => simp [intOf]; omega
        · by_cases hl : i < len
          · have hkd : decide ((i : Int) < 100) = false := by simp; omega
            clear HPS HA
            go_wp2_with fail
            refine (works_any _).mono ?_
            rintro e2 w2 ⟨rfl, hB2⟩
            go_wp2_with fail
            go_ret
            exact ⟨rfl, bw_below hW hB2⟩
          · have hkd : decide (i < len) = false := by simp; omega
            clear HPS HA
            go_wp2_with fail
            refine (works_any _).mono ?_
            rintro e2 w2 ⟨rfl, hB2⟩
            go_wp2_with fail
            go_ret
            exact ⟨rfl, bw_below hW hB2⟩
end Go.Proofs.Ytcigkggdcogokaa
