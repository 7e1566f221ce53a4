/-
  The statement SentOnce: its walk.
-/
import Derived.Test.YtcigkggdcogokaaSentLawW
import Derived.OpenShut
namespace Go.Proofs.Ytcigkggdcogokaa
open Go.RowKit

/-- What the walk is told of a slice of integers that came in. -/
def IntsAt (w : World) (a : Option Addr) (len cap : Nat) (zs : List Int) : Prop :=
  (a = none ∧ len = 0 ∧ cap = 0 ∧ zs = []) ∨
  ∃ x, a = some x ∧ len ≤ cap ∧ cap ≤ maxLen ∧ zs.length = cap ∧ (∀ i, i < zs.length → w.cell? (x.add i) = some (.int .i64 (zs.getD i 0))) ∧ ∀ n ∈ zs, (Lit.int .i64 n).wf = true

theorem intsAt_get {w : World} {a : Option Addr} {len cap k : Nat} {zs : List Int} (h : IntsAt w a len cap zs) (hk : k < len) :
    ∃ x z, a = some x ∧ w.cell? (x.add k) = some (.int .i64 z) ∧ x.block < w.heap.size ∧ -9223372036854775808 ≤ z ∧ z ≤ 9223372036854775807 ∧ len ≤ 9223372036854775807 := by
  rcases h with ⟨_, rfl, _⟩ | ⟨x, rfl, hl, hm, hz, hc, hw⟩
  · omega
  · have hkz : k < zs.length := by omega
    have hz2 := hc k hkz
    have hmem : zs.getD k 0 ∈ zs := by
      rw [List.getD_eq_getElem?_getD, List.getElem?_eq_getElem hkz]; exact List.getElem_mem hkz
    have hwf := hw _ hmem
    have hb := bounds_i64 hwf
    have hlt := World.block_lt_of_cell? _ _ hz2
    rw [block_of_add] at hlt
    unfold maxLen at hm
    exact ⟨x, _, rfl, hz2, hlt, hb.1, hb.2, by omega⟩

theorem without_len (n : Int) (ps : List Pk) : (without n ps).length ≤ ps.length := List.length_filter_le _ _
theorem mod40 (z : Int) : 0 ≤ z % 40 ∧ z % 40 ≤ 39 := by omega

set_option maxRecDepth 100000 in
set_option maxHeartbeats 8000000 in
theorem sentonce_any (a : Option Addr) (len cap : Nat) (zs : List Int) (w : World) (hz : IntsAt w a len cap zs) :
    Calls Try.prog 3 #[.slice a len cap] w fun e w' => e = .returned (.bool true) ∧ Below w.heap.size w w' := by
  have HZ := hide hz
  clear hz
  go_enter Try.func3, Try.ntmps3
  go_wp2_with fail
  refine (new_ok 256 _ (by omega) (by omega)).mono ?_
  rintro e1 w1 ⟨b, rb1, rfl, hL1, hb, hrb1, hW1⟩
  go_wp2_with fail
  go_loopw [5, 6] (fun s5 s6 wr => ∃ (k rb : Nat) (last : Int) (ps : List Pk), s6 = .int .i64 k ∧ s5 = .int .i64 last ∧ k ≤ 60 ∧ IsLog wr b rb 256 last ps ∧ ps.length ≤ k ∧ w.heap.size ≤ rb ∧ Below w.heap.size w wr)
    (fun _ i _ => 60 - (intOf i).toNat)
  case atStart => exact ⟨0, rb1, -1, [], rfl, rfl, by omega, hL1, by simp, hrb1, hW1⟩
  case round =>
    obtain ⟨k, rb, last, ps, rfl, rfl, hk, hL, hps, hrb, hW⟩ := hrel
    by_cases hlt : k < len ∧ k < 60
    · obtain ⟨hlt, hlt2⟩ := hlt
      obtain ⟨x, z, ha, hc, hxl, hz1, hz2, hlen⟩ := intsAt_get HZ.out hlt
      obtain ⟨hm1, hm2⟩ := mod40 z
      obtain ⟨n, hn⟩ : ∃ n, z % 40 = n := ⟨_, rfl⟩
      rw [hn] at hm1 hm2
      have hbr := fun W => bring_any z 40 W (by omega) (by omega) hz1 hz2
      rw [hn] at hbr
      have hcw : wr.cell? (x.add k) = some (.int .i64 z) := by rw [hW.cell (by rw [block_of_add]; exact hxl)]; exact hc
      have hmay : (Pk.mk n 0 100 true true false).may := pk1_may (by omega) (by omega)
      have hroom : ps.length < 256 := by omega
      have hla := hL.last
      have HBR := hide hbr
      have HN := hide hn
      subst ha
      clear hbr hn hc
      go_wp2_with fail
      refine (HBR.out _).mono ?_
      rintro e2 w2 ⟨rfl, rfl⟩
      go_wp2_with fail
      refine (one_any _ _).mono ?_
      rintro e3 w3 ⟨rfl, hB3⟩
      have hL3 := hL.below hB3
      have hW3 := bw_below hW hB3
      clear hL hW hB3
      go_wp2_with fail
      by_cases hnl : last < n
      · refine (put_ok b rb 256 last n 0 100 true true false ps _ hL3 hmay hnl hroom).mono ?_
        rintro e4 w4 ⟨rfl, rb4, hL4, hrb4, hO4⟩
        have hrb5 := rb_le hrb4 hrb hW3.size
        have hW4 := bw_only hW3 hO4 (by simp; omega)
        clear hL3 hW3 hO4 hrb4
        by_cases hev : n % 2 = 0
        · have hev' : (n % 2 == 0) = true := by simp [hev]
          clear hev
          go_wp2_with fail
          cases hfd : (ps ++ [Pk.mk n 0 100 true true false]).find? (fun p => p.num == n) with
          | none =>
            refine (drop_none b rb4 256 n n (ps ++ [Pk.mk n 0 100 true true false]) _ hL4 hfd).mono ?_
            rintro e5 w5 ⟨rfl, hB5⟩
            have hL6 := hL4.below hB5
            have hW6 := bw_below hW4 hB5
            have HFD := hide hfd
            clear hfd hB5 hL4 hW4
            by_cases hk11 : (k : Int) % 11 = 10
            · have hk12 : ((k : Int) % 11 == 10) = true := by simp [hk11]
              clear hk11
              go_wp2_with fail
              refine (clear_any b rb4 256 n (ps ++ [Pk.mk n 0 100 true true false]) _ hL6).mono ?_
              rintro e8 w8 ⟨rfl, hL7, hO7⟩
              have hW7 := bw_only hW6 hO7 (by simp; omega)
              go_wp2_with fail
              refine (last_any b rb4 256 n [] _ hL7).mono ?_
              rintro e9 w9 ⟨rfl, rfl⟩
              go_wp2_with fail
              go_roundw
              case rel => exact ⟨k + 1, rb4, n, [], by go_num, rfl, by omega, hL7, by simp, hrb5, hW7⟩
              case measure => simp [intOf]; omega
            · have hk12 : ((k : Int) % 11 == 10) = false := by simp [hk11]
              clear hk11
              go_wp2_with fail
              refine (last_any b rb4 256 n (ps ++ [Pk.mk n 0 100 true true false]) _ hL6).mono ?_
              rintro e9 w9 ⟨rfl, rfl⟩
              go_wp2_with fail
              go_roundw
              case rel => exact ⟨k + 1, rb4, n, (ps ++ [Pk.mk n 0 100 true true false]), by go_num, rfl, by omega, hL6, by simp; omega, hrb5, hW6⟩
              case measure => simp [intOf]; omega
          | some p =>
            refine (drop_is b rb4 256 n n p (ps ++ [Pk.mk n 0 100 true true false]) _ hL4 hfd).mono ?_
            rintro e5 w5 ⟨rfl, hL6, hO5⟩
            have hW6 := bw_only hW4 hO5 (by simp; omega)
            have HFD := hide hfd
            have hwl := without_len n (ps ++ [Pk.mk n 0 100 true true false])
            clear hfd hO5 hL4 hW4
            by_cases hk11 : (k : Int) % 11 = 10
            · have hk12 : ((k : Int) % 11 == 10) = true := by simp [hk11]
              clear hk11
              go_wp2_with fail
              refine (clear_any b rb4 256 n (without n (ps ++ [Pk.mk n 0 100 true true false])) _ hL6).mono ?_
              rintro e8 w8 ⟨rfl, hL7, hO7⟩
              have hW7 := bw_only hW6 hO7 (by simp; omega)
              go_wp2_with fail
              refine (last_any b rb4 256 n [] _ hL7).mono ?_
              rintro e9 w9 ⟨rfl, rfl⟩
              go_wp2_with fail
              go_roundw
              case rel => exact ⟨k + 1, rb4, n, [], by go_num, rfl, by omega, hL7, by simp, hrb5, hW7⟩
              case measure => simp [intOf]; omega
            · have hk12 : ((k : Int) % 11 == 10) = false := by simp [hk11]
              clear hk11
              go_wp2_with fail
              refine (last_any b rb4 256 n (without n (ps ++ [Pk.mk n 0 100 true true false])) _ hL6).mono ?_
              rintro e9 w9 ⟨rfl, rfl⟩
              go_wp2_with fail
              go_roundw
              case rel => exact ⟨k + 1, rb4, n, (without n (ps ++ [Pk.mk n 0 100 true true false])), by go_num, rfl, by omega, hL6, by first | omega | (simp at hwl; omega), hrb5, hW6⟩
              case measure => simp [intOf]; omega
        · have hev' : (n % 2 == 0) = false := by simp [hev]
          clear hev
          by_cases hk11 : (k : Int) % 11 = 10
          · have hk12 : ((k : Int) % 11 == 10) = true := by simp [hk11]
            clear hk11
            go_wp2_with fail
            refine (clear_any b rb4 256 n (ps ++ [Pk.mk n 0 100 true true false]) _ hL4).mono ?_
            rintro e8 w8 ⟨rfl, hL7, hO7⟩
            have hW7 := bw_only hW4 hO7 (by simp; omega)
            go_wp2_with fail
            refine (last_any b rb4 256 n [] _ hL7).mono ?_
            rintro e9 w9 ⟨rfl, rfl⟩
            go_wp2_with fail
            go_roundw
            case rel => exact ⟨k + 1, rb4, n, [], by go_num, rfl, by omega, hL7, by simp, hrb5, hW7⟩
            case measure => simp [intOf]; omega
          · have hk12 : ((k : Int) % 11 == 10) = false := by simp [hk11]
            clear hk11
            go_wp2_with fail
            refine (last_any b rb4 256 n (ps ++ [Pk.mk n 0 100 true true false]) _ hL4).mono ?_
            rintro e9 w9 ⟨rfl, rfl⟩
            go_wp2_with fail
            go_roundw
            case rel => exact ⟨k + 1, rb4, n, (ps ++ [Pk.mk n 0 100 true true false]), by go_num, rfl, by omega, hL4, by simp; omega, hrb5, hW4⟩
            case measure => simp [intOf]; omega
      · have hnl' : n ≤ last := by omega
        refine (put_low b rb 256 last n 0 100 true true false ps _ hL3 hmay hnl').mono ?_
        rintro e4 w4 ⟨rfl, hB4⟩
        have hL4 := hL3.below hB4
        have hW4 := bw_below hW3 hB4
        have hrb5 := hrb
        clear hL3 hW3 hB4 hnl
        by_cases hev : n % 2 = 0
        · have hev' : (n % 2 == 0) = true := by simp [hev]
          clear hev
          go_wp2_with fail
          cases hfd : (ps).find? (fun p => p.num == n) with
          | none =>
            refine (drop_none b rb 256 last n (ps) _ hL4 hfd).mono ?_
            rintro e5 w5 ⟨rfl, hB5⟩
            have hL6 := hL4.below hB5
            have hW6 := bw_below hW4 hB5
            have HFD := hide hfd
            clear hfd hB5 hL4 hW4
            by_cases hk11 : (k : Int) % 11 = 10
            · have hk12 : ((k : Int) % 11 == 10) = true := by simp [hk11]
              clear hk11
              go_wp2_with fail
              refine (clear_any b rb 256 last (ps) _ hL6).mono ?_
              rintro e8 w8 ⟨rfl, hL7, hO7⟩
              have hW7 := bw_only hW6 hO7 (by simp; omega)
              go_wp2_with fail
              refine (last_any b rb 256 last [] _ hL7).mono ?_
              rintro e9 w9 ⟨rfl, rfl⟩
              go_wp2_with fail
              go_roundw
              case rel => exact ⟨k + 1, rb, last, [], by go_num, rfl, by omega, hL7, by simp, hrb5, hW7⟩
              case measure => simp [intOf]; omega
            · have hk12 : ((k : Int) % 11 == 10) = false := by simp [hk11]
              clear hk11
              go_wp2_with fail
              refine (last_any b rb 256 last (ps) _ hL6).mono ?_
              rintro e9 w9 ⟨rfl, rfl⟩
              go_wp2_with fail
              go_roundw
              case rel => exact ⟨k + 1, rb, last, (ps), by go_num, rfl, by omega, hL6, by omega, hrb5, hW6⟩
              case measure => simp [intOf]; omega
          | some p =>
            refine (drop_is b rb 256 last n p (ps) _ hL4 hfd).mono ?_
            rintro e5 w5 ⟨rfl, hL6, hO5⟩
            have hW6 := bw_only hW4 hO5 (by simp; omega)
            have HFD := hide hfd
            have hwl := without_len n (ps)
            clear hfd hO5 hL4 hW4
            by_cases hk11 : (k : Int) % 11 = 10
            · have hk12 : ((k : Int) % 11 == 10) = true := by simp [hk11]
              clear hk11
              go_wp2_with fail
              refine (clear_any b rb 256 last (without n (ps)) _ hL6).mono ?_
              rintro e8 w8 ⟨rfl, hL7, hO7⟩
              have hW7 := bw_only hW6 hO7 (by simp; omega)
              go_wp2_with fail
              refine (last_any b rb 256 last [] _ hL7).mono ?_
              rintro e9 w9 ⟨rfl, rfl⟩
              go_wp2_with fail
              go_roundw
              case rel => exact ⟨k + 1, rb, last, [], by go_num, rfl, by omega, hL7, by simp, hrb5, hW7⟩
              case measure => simp [intOf]; omega
            · have hk12 : ((k : Int) % 11 == 10) = false := by simp [hk11]
              clear hk11
              go_wp2_with fail
              refine (last_any b rb 256 last (without n (ps)) _ hL6).mono ?_
              rintro e9 w9 ⟨rfl, rfl⟩
              go_wp2_with fail
              go_roundw
              case rel => exact ⟨k + 1, rb, last, (without n (ps)), by go_num, rfl, by omega, hL6, by first | omega | (simp at hwl; omega), hrb5, hW6⟩
              case measure => simp [intOf]; omega
        · have hev' : (n % 2 == 0) = false := by simp [hev]
          clear hev
          by_cases hk11 : (k : Int) % 11 = 10
          · have hk12 : ((k : Int) % 11 == 10) = true := by simp [hk11]
            clear hk11
            go_wp2_with fail
            refine (clear_any b rb 256 last (ps) _ hL4).mono ?_
            rintro e8 w8 ⟨rfl, hL7, hO7⟩
            have hW7 := bw_only hW4 hO7 (by simp; omega)
            go_wp2_with fail
            refine (last_any b rb 256 last [] _ hL7).mono ?_
            rintro e9 w9 ⟨rfl, rfl⟩
            go_wp2_with fail
            go_roundw
            case rel => exact ⟨k + 1, rb, last, [], by go_num, rfl, by omega, hL7, by simp, hrb5, hW7⟩
            case measure => simp [intOf]; omega
          · have hk12 : ((k : Int) % 11 == 10) = false := by simp [hk11]
            clear hk11
            go_wp2_with fail
            refine (last_any b rb 256 last (ps) _ hL4).mono ?_
            rintro e9 w9 ⟨rfl, rfl⟩
            go_wp2_with fail
            go_roundw
            case rel => exact ⟨k + 1, rb, last, (ps), by go_num, rfl, by omega, hL4, by omega, hrb5, hW4⟩
            case measure => simp [intOf]; omega
    · by_cases hl : k < len
      · have hk60 : ¬ ((k : Int) < 60) := by omega
        have hkd : decide ((k : Int) < 60) = false := by simp; omega
        go_wp2_with fail
        refine (works_any _).mono ?_
        rintro e2 w2 ⟨rfl, hB2⟩
        go_wp2_with fail
        go_ret
        exact ⟨rfl, bw_below hW hB2⟩
      · have hkd : decide (k < len) = false := by simp; omega
        go_wp2_with fail
        refine (works_any _).mono ?_
        rintro e2 w2 ⟨rfl, hB2⟩
        go_wp2_with fail
        go_ret
        exact ⟨rfl, bw_below hW hB2⟩
end Go.Proofs.Ytcigkggdcogokaa
