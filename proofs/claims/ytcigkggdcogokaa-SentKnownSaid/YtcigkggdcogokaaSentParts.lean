/-
  The statement SentParts: its walk.
-/
import Derived.Test.YtcigkggdcogokaaSentEq
import Derived.Test.YtcigkggdcogokaaFrames
namespace Go.Proofs.Ytcigkggdcogokaa
open Go.RowKit

theorem between_cons (lo hi : Int) (p : Pk) (ps : List Pk) : between lo hi (p :: ps) = if lo ≤ p.num ∧ p.num ≤ hi then p :: between lo hi ps else between lo hi ps := by
  unfold between
  rw [List.filter_cons]
  by_cases h1 : lo ≤ p.num <;> by_cases h2 : p.num ≤ hi <;> simp [h1, h2]
theorem between_nil {lo hi : Int} {ps : List Pk} (h : ∀ p ∈ ps, hi < p.num) : between lo hi ps = [] := by
  unfold between
  rw [List.filter_eq_nil_iff]
  intro p hp
  have := h p hp
  simp; omega
theorem between_join {a b c : Int} : ∀ {ps : List Pk}, (ps.Pairwise fun x y => x.num < y.num) → a ≤ b + 1 → b ≤ c → between a b ps ++ between (b + 1) c ps = between a c ps
  | [], _, _, _ => rfl
  | p :: ps, hs, h1, h2 => by
    obtain ⟨hp, hs'⟩ := List.pairwise_cons.1 hs
    have ih := between_join hs' h1 h2
    rw [between_cons, between_cons, between_cons]
    by_cases c1 : p.num ≤ b
    · have n2 : ¬ (b + 1 ≤ p.num ∧ p.num ≤ c) := by omega
      rw [if_neg n2]
      by_cases c2 : a ≤ p.num
      · rw [if_pos ⟨c2, c1⟩, if_pos ⟨c2, by omega⟩, List.cons_append, ih]
      · rw [if_neg (by omega), if_neg (by omega), ih]
    · have e : between a b ps = [] := between_nil fun q hq => by have := hp q hq; omega
      rw [if_neg (show ¬ (a ≤ p.num ∧ p.num ≤ b) by omega), e, List.nil_append]
      rw [e, List.nil_append] at ih
      rw [ih]
      by_cases c3 : p.num ≤ c
      · rw [if_pos (by omega), if_pos (by omega)]
      · rw [if_neg (by omega), if_neg (by omega)]
theorem between_self {a b : Int} {ps : List Pk} (h : ∀ p ∈ ps, a ≤ p.num ∧ p.num ≤ b) : between a b ps = ps := by
  unfold between
  rw [List.filter_eq_self]
  intro p hp
  have := h p hp
  simp; omega
theorem between_mem {a b : Int} {ps : List Pk} {p : Pk} (h : p ∈ between a b ps) : a ≤ p.num ∧ p.num ≤ b := by
  have := (List.mem_filter.1 h).2
  simp at this; omega
theorem between_len (a b : Int) (ps : List Pk) : (between a b ps).length ≤ ps.length := List.length_filter_le _ _
theorem between_empty (a : Int) (ps : List Pk) : between (a + 1) a ps = [] := by
  unfold between
  rw [List.filter_eq_nil_iff]
  intro p _
  simp; omega
theorem quiet_left {P : Program} {f : FuncId} {args : Array Value} {w : World} {n : Nat} {v : Value}
    (h : Calls P f args (w.drewN n) fun e w' => e = .returned v ∧ w.drewN n = w') : Calls P f args (w.drewN n) fun e w'' => e = .returned v ∧ ∃ m, w'' = w.drewN m :=
  h.mono fun _ _ ⟨he, hm⟩ => ⟨he, n, hm.symm⟩

theorem own_below {w w' : World} {base e size n : Nat} {v : Value} {xs : List Value} (h : w.ownsRow base e size v n xs) (hb : Below w.heap.size w w') : w'.ownsRow base e size v n xs := by
  refine ⟨h.1, ?_⟩
  rcases h.2 with h0 | ⟨g, cap, cur, hv, hg, hh, r⟩
  · exact .inl h0
  · exact .inr ⟨g, cap, cur, hv, hg, (hb.block g (Array.getElem?_eq_some_iff.1 hh).1).trans hh, r⟩
theorem own_only {S : List Nat} {w w' : World} {base e size n : Nat} {v : Value} {xs : List Value} (h : w.ownsRow base e size v n xs) (hb : Only S w w') (hS : ∀ x ∈ S, x < base) : w'.ownsRow base e size v n xs := by
  refine ⟨h.1, ?_⟩
  rcases h.2 with h0 | ⟨g, cap, cur, hv, hg, hh, r⟩
  · exact .inl h0
  · exact .inr ⟨g, cap, cur, hv, hg, (hb.block g (Array.getElem?_eq_some_iff.1 hh).1 (fun hm => by have := hS g hm; omega)).trans hh, r⟩
theorem block_after {n m w4 : Nat} {v v1 : Value} (h : v.ownBlock = v1.ownBlock ∨ v.ownBlock = some w4) (h1 : ∀ x ∈ v1.ownBlock.toList, n ≤ x ∧ x < m) : ∀ x ∈ v.ownBlock.toList, (n ≤ x ∧ x < m) ∨ x = w4 := by
  intro x hx
  rcases h with h | h
  · rw [h] at hx; exact .inl (h1 x hx)
  · rw [h] at hx; simp at hx; exact .inr hx
theorem own_three {w : World} {base : Nat} {v : Value} {xs ys zs : List Pk} (h : w.ownsRow base 30 6 v (xs.length + ys.length + zs.length) (xs.flatMap Pk.cells ++ ys.flatMap Pk.cells ++ zs.flatMap Pk.cells)) :
    w.ownsRow base 30 6 v (xs ++ (ys ++ zs)).length ((xs ++ (ys ++ zs)).flatMap Pk.cells) := by
  rw [List.length_append, List.length_append, List.flatMap_append, List.flatMap_append, ← List.append_assoc, ← Nat.add_assoc]
  exact h
theorem own_slice {w : World} {base e size n : Nat} {v : Value} {xs : List Value} (h : w.ownsRow base e size v n xs) : ∃ A c, v = .slice A n c := by
  rcases h.2 with ⟨h0, h1⟩ | ⟨g, cap, cur, hv, _⟩
  · exact ⟨none, 0, by rw [h0, h1]⟩
  · exact ⟨_, _, hv⟩
theorem only_grown {w w' : World} {row : Option Nat} (hg : w.grownBy w' row) : Only row.toList w w' :=
  ⟨hg.os, hg.tape, hg.output, hg.size, fun i hi hn => hg.block i hi (fun e => hn (by rw [← e]; simp))⟩
theorem pk_one {ps : List Pk} : ∀ u ∈ ps.flatMap Pk.cells, u.oneCell' = true := by
  intro u hu
  obtain ⟨s, _, hs⟩ := List.mem_flatMap.1 hu
  simp [Pk.cells] at hs
  rcases hs with h | h | h | h | h | h <;> subst h <;> rfl
theorem own_toList {w : World} {base e size n : Nat} {v : Value} {xs : List Value} (h : w.ownsRow base e size v n xs) : ∀ x ∈ v.ownBlock.toList, base ≤ x ∧ x < w.heap.size := by
  intro x hx
  cases hv : v.ownBlock with
  | none => rw [hv] at hx; simp at hx
  | some k =>
    rw [hv] at hx
    simp at hx
    subst hx
    exact h.lt _ hv

set_option maxRecDepth 100000 in
set_option maxHeartbeats 8000000 in
theorem sentparts_any (a : Option Addr) (len cap : Nat) (p0 p1 : Int) (w : World) (hz : RecsAt w a len 4) (hp0 : -9223372036854775808 ≤ p0) (hp0' : p0 ≤ 9223372036854775807) (hp1 : -9223372036854775808 ≤ p1) (hp1' : p1 ≤ 9223372036854775807) :
    Calls Try.prog 5 #[.slice a len cap, .agg #[.int .i64 p0, .int .i64 p1]] w fun e w' => e = .returned (.bool true) ∧ Below w.heap.size w w' := by
  have hlen := hz.1
  have HZ := hide hz.2
  obtain ⟨i0, hi0, hz0, hz1, hz2⟩ := info_parts pk_info
  clear hz
  go_enter Try.func5, Try.ntmps5
  go_wp2_with fail
  refine (new_ok 256 _ (by omega) (by omega)).mono ?_
  rintro e1 w1 ⟨b, rb1, rfl, hL1, hb, hrb1, hW0⟩
  have hx1 := (only_of_below hW0 (S := [])).blk (Blk.new w _ _) (by simp)
  have hW1 := ((Below.refl _ w).alloc (Nat.le_refl _) _).trans (hW0.mono (by simp))
  simp only [World.size_alloc] at hb hrb1
  have hbx : b ≠ w.heap.size := by omega
  clear hW0
  go_wp2_with fail
  go_loopw [7, 8] (fun s7 s8 wr => ∃ (k rb : Nat) (last : Int) (ps : List Pk), s8 = .int .i64 k ∧ s7 = .int .i64 last ∧ k ≤ 60 ∧ last ≤ 5 * k ∧ IsLog wr b rb 256 last ps ∧ ps.length ≤ k ∧ w.heap.size + 1 ≤ rb ∧ Blk wr w.heap.size 44 #[.int .i64 p0, .int .i64 p1] ∧ Below w.heap.size w wr)
    (fun _ i _ => 60 - (intOf i).toNat)
  case atStart => exact ⟨0, rb1, -1, [], rfl, rfl, by omega, by omega, hL1, by simp, hrb1, hx1, hW1⟩
  case round =>
    obtain ⟨k, rb, last, ps, rfl, rfl, hk, hlast, hL, hps, hrb, hX, hW⟩ := hrel
    have hla := hL.last
    by_cases hlt : k < len ∧ k < 60
    · obtain ⟨hlt, hlt2⟩ := hlt
      obtain ⟨xb, xo, ha, hxl, hf⟩ := HZ.out (by omega)
      obtain ⟨kz, q0, k1, k2⟩ := hf k 0 hlt (by omega)
      obtain ⟨nz, q1, n1, n2⟩ := hf k 1 hlt (by omega)
      obtain ⟨sz, q2, s1, s2⟩ := hf k 2 hlt (by omega)
      have hxw : ∀ o, wr.cell? ⟨xb, o, none⟩ = w.cell? ⟨xb, o, none⟩ := fun o => hW.cell (p := ⟨xb, o, none⟩) hxl
      rw [← hxw, Nat.add_zero] at q0
      rw [← hxw, ← Nat.add_assoc] at q1 q2
      have hm1 : 0 ≤ nz % 5 ∧ nz % 5 ≤ 4 := by omega
      have hm2 : 0 ≤ kz % 4 ∧ kz % 4 ≤ 3 := by omega
      have hm3 : 0 ≤ sz % 9 ∧ sz % 9 ≤ 8 := by omega
      have hb1 := fun W => bring_any nz 5 W (by omega) (by omega) n1 n2
      have hb2 := fun W => bring_any kz 4 W (by omega) (by omega) k1 k2
      have hb3 := fun W => bring_any sz 9 W (by omega) (by omega) s1 s2
      obtain ⟨n, hn⟩ : ∃ n, nz % 5 = n := ⟨_, rfl⟩
      obtain ⟨m, hmm⟩ : ∃ m, kz % 4 = m := ⟨_, rfl⟩
      obtain ⟨sm, hsm⟩ : ∃ sm, sz % 9 = sm := ⟨_, rfl⟩
      rw [hn] at hm1 hb1
      rw [hmm] at hm2 hb2
      rw [hsm] at hm3 hb3
      have hmay : (Pk.mk (last + 1 + n) 0 100 true true false).may := pk1_may (by omega) (by omega)
      have hroom : ps.length < 256 := by omega
      have HB1 := hide hb1
      have HB2 := hide hb2
      have HB3 := hide hb3
      have HN := hide hn
      have HMM := hide hmm
      have HSM := hide hsm
      subst ha
      clear hb1 hb2 hb3 hn hmm hsm hf hxw
      go_wp2_with fail
      refine (HB1.out _).mono ?_
      rintro e2 w2 ⟨rfl, rfl⟩
      go_wp2_with fail
      refine (one_any _ _).mono ?_
      rintro e3 w3 ⟨rfl, hB3⟩
      have hL3 := hL.below hB3
      have hX3 := (only_of_below hB3 (S := [])).blk hX (by simp)
      have hW3 := bw_below hW hB3
      have hQ3 : ∀ o, w3.cell? ⟨xb, o, none⟩ = wr.cell? ⟨xb, o, none⟩ := fun o => hB3.cell (p := ⟨xb, o, none⟩) (Nat.lt_of_lt_of_le hxl hW.size)
      rw [← hQ3] at q0 q1 q2
      clear hL hX hW hB3 hQ3
      go_wp2_with fail
      refine (put_ok b rb 256 last (last + 1 + n) 0 100 true true false ps _ hL3 hmay (by omega) hroom).mono ?_
      rintro e4 w4 ⟨rfl, rb4, hL4, hrb4, hO4⟩
      have hxb1 : xb ≠ b := by omega
      have hxb2 : xb ≠ rb := by omega
      have hX4 := hO4.blk hX3 (by simp; omega)
      have hQ4 : ∀ o, w4.cell? ⟨xb, o, none⟩ = w3.cell? ⟨xb, o, none⟩ := fun o => hO4.cell (p := ⟨xb, o, none⟩) (Nat.lt_of_lt_of_le hxl hW3.size) (by simp; omega)
      rw [← hQ4] at q0 q1 q2
      have hrb6 := rb_le hrb4 hrb (by have := hX3.lt; omega)
      have hW4 := bw_only hW3 hO4 (by simp; omega)
      clear hL3 hX3 hW3 hO4 hrb4 hQ4
      go_wp2_with fail
      refine (HB2.out _).mono ?_
      rintro e5 w5 ⟨rfl, rfl⟩
      by_cases hk3 : kz % 4 = 3
      · have hk4 : (m == 3) = true := by rw [← HMM.out]; simp [hk3]
        go_wp2_with fail
        refine (HB3.out _).mono ?_
        rintro e6 w6 ⟨rfl, rfl⟩
        cases hfd : (ps ++ [Pk.mk (last + 1 + n) 0 100 true true false]).find? (fun p => p.num == last + 1 + n - sm) with
        | none =>
          go_wp2_with fail
          refine (drop_none b rb4 256 (last + 1 + n) (last + 1 + n - sm) (ps ++ [Pk.mk (last + 1 + n) 0 100 true true false]) _ hL4 hfd).mono ?_
          rintro e7 w7 ⟨rfl, hB7⟩
          have hL5 := hL4.below hB7
          have hX5 := (only_of_below hB7 (S := [])).blk hX4 (by simp)
          have hW5 := bw_below hW4 hB7
          have HFD := hide hfd
          clear hfd hB7 hL4 hX4 hW4 q0 q1 q2
          go_wp2_with fail
          go_roundw
          case rel => exact ⟨k + 1, rb4, last + 1 + n, _, by go_num, rfl, by omega, by omega, hL5, by simp; omega, hrb6, hX5, hW5⟩
          case measure => simp [intOf]; omega
        | some p =>
          go_wp2_with fail
          refine (drop_is b rb4 256 (last + 1 + n) (last + 1 + n - sm) p (ps ++ [Pk.mk (last + 1 + n) 0 100 true true false]) _ hL4 hfd).mono ?_
          rintro e7 w7 ⟨rfl, hL5, hO7⟩
          have hX5 := hO7.blk hX4 (by simp; omega)
          have hW5 := bw_only hW4 hO7 (by simp; omega)
          have hwl := without_len (last + 1 + n - sm) (ps ++ [Pk.mk (last + 1 + n) 0 100 true true false])
          simp only [List.length_append, List.length_cons, List.length_nil] at hwl
          have HFD := hide hfd
          clear hfd hO7 hL4 hX4 hW4 q0 q1 q2
          go_wp2_with fail
          go_roundw
          case rel => exact ⟨k + 1, rb4, last + 1 + n, _, by go_num, rfl, by omega, by omega, hL5, by omega, hrb6, hX5, hW5⟩
          case measure => simp [intOf]; omega
      · have hk4 : (m == 3) = false := by rw [← HMM.out]; simp [hk3]
        clear q0 q1 q2
        go_wp2_with fail
        go_roundw
        case rel => exact ⟨k + 1, rb4, last + 1 + n, _, by go_num, rfl, by omega, by omega, hL4, by simp; omega, hrb6, hX4, hW4⟩
        case measure => simp [intOf]; omega
    · have hkd : (decide (k < len) && decide ((k : Int) < 60)) = false := by simp; omega
      have hA0 := fun W => bring_any p0 (last + 3) W (by omega) (by omega) hp0 hp0'
      have hA1 := fun W => bring_any p1 (last + 3) W (by omega) (by omega) hp1 hp1'
      have hr0 : 0 ≤ p0 % (last + 3) ∧ p0 % (last + 3) < last + 3 := ⟨Int.emod_nonneg _ (by omega), Int.emod_lt_of_pos _ (by omega)⟩
      have hr1 : 0 ≤ p1 % (last + 3) ∧ p1 % (last + 3) < last + 3 := ⟨Int.emod_nonneg _ (by omega), Int.emod_lt_of_pos _ (by omega)⟩
      obtain ⟨r0, hrr0⟩ : ∃ r, p0 % (last + 3) = r := ⟨_, rfl⟩
      obtain ⟨r1, hrr1⟩ : ∃ r, p1 % (last + 3) = r := ⟨_, rfl⟩
      rw [hrr0] at hA0 hr0
      rw [hrr1] at hA1 hr1
      obtain ⟨hr0a, hr0b⟩ := hr0
      obtain ⟨hr1a, hr1b⟩ := hr1
      have HA0 := hide hA0
      have HA1 := hide hA1
      have HR0 := hide hrr0
      have HR1 := hide hrr1
      have y0 : wr.cell? ⟨w.heap.size, 0, none⟩ = some (.int .i64 p0) := hX.cell 0
      have y1 : wr.cell? ⟨w.heap.size, 1, none⟩ = some (.int .i64 p1) := hX.cell 1
      clear hA0 hA1 hrr0 hrr1
      by_cases hl : k < len
      · have hkd : decide ((k : Int) < 60) = false := by simp; omega
        go_wp2_with fail
        go_quiet ((go_at_call 10; first | with_reducible exact quiet_left (HA0.out _) | with_reducible exact quiet_left (HA1.out _)))
        have hLq := hL.drewN nq
        have hWq := below_drewN hW nq
        obtain ⟨W, hWW⟩ : ∃ W, wr.drewN nq = W := ⟨_, rfl⟩
        rw [hWW] at hLq hWq
        have hwn := hide hWW
        rcases Int.lt_trichotomy r0 r1 with hab | rfl | hab
        · go_wp2_with fail
          refine (between_any b rb 256 last (-5) (r0 - 1) ps _ hLq).mono ?_
          rintro e2 w2 ⟨v1, rfl, hv1, hB2⟩
          have hL2 := hLq.below hB2
          have hW2 := bw_below hWq hB2
          have hlt2 := hLq.lt
          have hb1 := own_toList hv1
          go_wp2_with fail
          refine (between_any b rb 256 last r0 (r1 - 1) ps _ hL2).mono ?_
          rintro e3 w3 ⟨v2, rfl, hv2, hB3⟩
          have hL3 := hL2.below hB3
          have hW3 := bw_below hW2 hB3
          have hv1b := own_below hv1 hB3
          clear hv1
          have hs2 := hB2.size
          go_wp2_with fail
          refine (between_any b rb 256 last r1 (last + 9) ps _ hL3).mono ?_
          rintro e4 w4 ⟨v3, rfl, hv3, hB4⟩
          have hL4 := hL3.below hB4
          have hW4 := bw_below hW3 hB4
          have hv1c := own_below hv1b hB4
          have hv2c := own_below hv2 hB4
          clear hv1b hv2
          have hs3 := hB3.size
          have hs4 := hB4.size
          have hl1 := between_len (-5) (r0 - 1) ps
          have hl2 := between_len r0 (r1 - 1) ps
          have hl3 := between_len r1 (last + 9) ps
          have hmem : ∀ p ∈ between r0 (r1 - 1) ps, r0 ≤ p.num ∧ p.num ≤ r1 - 1 := fun p hp => between_mem hp
          have hjoin : between (-5) (r0 - 1) ps ++ (between r0 (r1 - 1) ps ++ between r1 (last + 9) ps) = ps := by
            have j1 := between_join (a := r0) (b := r1 - 1) (c := last + 9) hL4.sorted (by omega) (by omega)
            rw [show r1 - 1 + 1 = r1 by omega] at j1
            have j2 := between_join (a := -5) (b := r0 - 1) (c := last + 9) hL4.sorted (by omega) (by omega)
            rw [show r0 - 1 + 1 = r0 by omega] at j2
            rw [j1, j2]
            exact between_self fun p hp => by have h1 := hL4.le_last p hp; have h2 := hL4.may p hp; unfold Pk.may at h2; omega
          have hempty := between_any b rb 256 last r1 (r1 - 1) ps
          rw [show between r1 (r1 - 1) ps = [] by have := between_empty (r1 - 1) ps; rwa [show r1 - 1 + 1 = r1 by omega] at this] at hempty
          obtain ⟨xs1, hx1⟩ : ∃ x, between (-5) (r0 - 1) ps = x := ⟨_, rfl⟩
          obtain ⟨xs2, hx2⟩ : ∃ x, between r0 (r1 - 1) ps = x := ⟨_, rfl⟩
          obtain ⟨xs3, hx3⟩ : ∃ x, between r1 (last + 9) ps = x := ⟨_, rfl⟩
          rw [hx1] at hv1c hl1 hjoin
          rw [hx2] at hv2c hl2 hjoin hmem
          rw [hx3] at hv3 hl3 hjoin
          rw [← hjoin] at hempty
          subst hjoin
          obtain ⟨a1, c1, rfl⟩ := own_slice hv1c
          obtain ⟨a2, c2, rfl⟩ := own_slice hv2c
          obtain ⟨a3, c3, rfl⟩ := own_slice hv3
          have hpk2 := own_pkrow hv2c
          obtain ⟨n2, hn2⟩ : ∃ n, xs2.length = n := ⟨_, rfl⟩
          have HPK2 := hide hpk2
          have HMEM := hide hmem
          have HEMP := hide hempty
          have HX1 := hide hx1
          have HX2 := hide hx2
          have HX3 := hide hx3
          have HV1 := hide hv1c
          have HV2 := hide hv2c
          have HV3 := hide hv3
          have HN2 := hide hn2
          clear hpk2 hmem hempty hx1 hx2 hx3 hv1c hv2c hv3 hn2
          go_wp2_with fail
          go_loop [16] (fun s16 => ∃ j : Nat, s16 = .int .i64 j ∧ j ≤ xs2.length) (fun i => xs2.length - (intOf i).toNat)
          case atStart => exact ⟨0, rfl, Nat.zero_le _⟩
          case round =>
            obtain ⟨j, rfl, hj⟩ := hrel
            by_cases hjl : j < xs2.length
            · obtain ⟨g, rfl, p, hp, a0, a1', a2', a3', a4, a5⟩ := HPK2.out.at_ hjl
              obtain ⟨m1, m2⟩ := HMEM.out p (List.mem_of_getElem? hp)
              have hd1 : decide (p.num ≤ r0 - 1) = false := by simp; omega
              have hd2 : decide (r1 - 1 < p.num) = false := by simp; omega
              have HP := hide hp
              clear hp
              go_wp2
              go_round
              case rel => exact ⟨j + 1, by go_num, by omega⟩
              case measure => simp [intOf]; omega
            · obtain rfl : j = xs2.length := by omega
              clear HPK2 HMEM
              go_wp2_with (first
                | (at_builtin; refine wpList_append_any _ rfl (.tmp 118) (.tmp 119) _ rfl W.heap.size 30 i0 _ 6 32 Try.underlying38 hi0 hz0 hz1 hz2 rfl (by decide) (.slice a1 xs1.length c1) xs1.length (xs1.flatMap Pk.cells) rfl HV1.out w4.heap.size a2 xs2.length c2 (xs2.flatMap Pk.cells) rfl (Reads.of_own HV2.out) pk_one (by unfold maxLen; omega) (by omega) (by omega) ?_; intro v5 w5 hown5 hg5 hat5; have hv3' := own_only HV3.out (only_grown hg5) (fun x hx => by have := (hb1 x hx).2; omega); have hL5 := hL4.only (only_grown hg5) (fun hm => by have := (hb1 _ hm).1; omega) (fun hm => by have := (hb1 _ hm).1; omega); have hW5 := bw_only hW4 (only_grown hg5) (fun x hx => by have := (hb1 x hx).1; omega); have hb5 := block_after hat5 hb1; have hs5 := hg5.size)
                | (at_builtin; refine wpList_append_any _ rfl (.tmp 120) (.tmp 121) _ rfl W.heap.size 30 i0 _ 6 32 Try.underlying38 hi0 hz0 hz1 hz2 rfl (by decide) v5 (xs1.length + xs2.length) (xs1.flatMap Pk.cells ++ xs2.flatMap Pk.cells) rfl hown5 w5.heap.size a3 xs3.length c3 (xs3.flatMap Pk.cells) rfl (Reads.of_own hv3') pk_one (by unfold maxLen; omega) (by omega) (by omega) ?_; intro v6 w6 hown6 hg6 hat6; have hL6 := hL5.only (only_grown hg6) (fun hm => by rcases hb5 _ hm with h | h <;> omega) (fun hm => by rcases hb5 _ hm with h | h <;> omega); have hW6 := bw_only hW5 (only_grown hg6) (fun x hx => by rcases hb5 x hx with h | h <;> omega))
                | (go_at_call 21; refine (all_any b rb 256 last _ _ hL6).mono ?_; rintro e7 w7 ⟨v7, rfl, hv7, hB7⟩; have hL7 := hL6.below hB7; have hW7 := bw_below hW6 hB7; have hpk6 := own_pkrow (own_below (own_three hown6) hB7); have hpk7 := own_pkrow hv7)
                | (go_at_call 23; refine (equal_same v6 v7 _ _ hpk6 hpk7 (by omega)).mono ?_; rintro e8 w8 ⟨rfl, nq8, rfl⟩)
                | (go_at_call 22; refine (HEMP.out _ (hL7.drewN _)).mono ?_; rintro e9 w9 ⟨v9, rfl, hv9, hB9⟩; obtain ⟨a9, c9, rfl⟩ := own_slice hv9; have hW9 := bw_below (below_drewN hW7 _) hB9)
                | (go_at_call 16; refine (works_any _).mono ?_; rintro e10 w10 ⟨rfl, hB10⟩))
              go_ret
              exact ⟨rfl, bw_below hW9 hB10⟩
        · go_wp2_with fail
          refine (between_any b rb 256 last (-5) (r0 - 1) ps _ hLq).mono ?_
          rintro e2 w2 ⟨v1, rfl, hv1, hB2⟩
          have hL2 := hLq.below hB2
          have hW2 := bw_below hWq hB2
          have hlt2 := hLq.lt
          have hb1 := own_toList hv1
          go_wp2_with fail
          refine (between_any b rb 256 last r0 (r0 - 1) ps _ hL2).mono ?_
          rintro e3 w3 ⟨v2, rfl, hv2, hB3⟩
          have hL3 := hL2.below hB3
          have hW3 := bw_below hW2 hB3
          have hv1b := own_below hv1 hB3
          clear hv1
          have hs2 := hB2.size
          go_wp2_with fail
          refine (between_any b rb 256 last r0 (last + 9) ps _ hL3).mono ?_
          rintro e4 w4 ⟨v3, rfl, hv3, hB4⟩
          have hL4 := hL3.below hB4
          have hW4 := bw_below hW3 hB4
          have hv1c := own_below hv1b hB4
          have hv2c := own_below hv2 hB4
          clear hv1b hv2
          have hs3 := hB3.size
          have hs4 := hB4.size
          have hl1 := between_len (-5) (r0 - 1) ps
          have hl2 := between_len r0 (r0 - 1) ps
          have hl3 := between_len r0 (last + 9) ps
          have hmem : ∀ p ∈ between r0 (r0 - 1) ps, r0 ≤ p.num ∧ p.num ≤ r0 - 1 := fun p hp => between_mem hp
          have hjoin : between (-5) (r0 - 1) ps ++ (between r0 (r0 - 1) ps ++ between r0 (last + 9) ps) = ps := by
            have j1 := between_join (a := r0) (b := r0 - 1) (c := last + 9) hL4.sorted (by omega) (by omega)
            rw [show r0 - 1 + 1 = r0 by omega] at j1
            have j2 := between_join (a := -5) (b := r0 - 1) (c := last + 9) hL4.sorted (by omega) (by omega)
            rw [show r0 - 1 + 1 = r0 by omega] at j2
            rw [j1, j2]
            exact between_self fun p hp => by have h1 := hL4.le_last p hp; have h2 := hL4.may p hp; unfold Pk.may at h2; omega
          have hempty := between_any b rb 256 last r0 (r0 - 1) ps
          rw [show between r0 (r0 - 1) ps = [] by have := between_empty (r0 - 1) ps; rwa [show r0 - 1 + 1 = r0 by omega] at this] at hempty
          obtain ⟨xs1, hx1⟩ : ∃ x, between (-5) (r0 - 1) ps = x := ⟨_, rfl⟩
          obtain ⟨xs2, hx2⟩ : ∃ x, between r0 (r0 - 1) ps = x := ⟨_, rfl⟩
          obtain ⟨xs3, hx3⟩ : ∃ x, between r0 (last + 9) ps = x := ⟨_, rfl⟩
          rw [hx1] at hv1c hl1 hjoin
          rw [hx2] at hv2c hl2 hjoin hmem
          rw [hx3] at hv3 hl3 hjoin
          rw [← hjoin] at hempty
          subst hjoin
          obtain ⟨a1, c1, rfl⟩ := own_slice hv1c
          obtain ⟨a2, c2, rfl⟩ := own_slice hv2c
          obtain ⟨a3, c3, rfl⟩ := own_slice hv3
          have hpk2 := own_pkrow hv2c
          obtain ⟨n2, hn2⟩ : ∃ n, xs2.length = n := ⟨_, rfl⟩
          have HPK2 := hide hpk2
          have HMEM := hide hmem
          have HEMP := hide hempty
          have HX1 := hide hx1
          have HX2 := hide hx2
          have HX3 := hide hx3
          have HV1 := hide hv1c
          have HV2 := hide hv2c
          have HV3 := hide hv3
          have HN2 := hide hn2
          clear hpk2 hmem hempty hx1 hx2 hx3 hv1c hv2c hv3 hn2
          go_wp2_with fail
          go_loop [16] (fun s16 => ∃ j : Nat, s16 = .int .i64 j ∧ j ≤ xs2.length) (fun i => xs2.length - (intOf i).toNat)
          case atStart => exact ⟨0, rfl, Nat.zero_le _⟩
          case round =>
            obtain ⟨j, rfl, hj⟩ := hrel
            by_cases hjl : j < xs2.length
            · obtain ⟨g, rfl, p, hp, a0, a1', a2', a3', a4, a5⟩ := HPK2.out.at_ hjl
              obtain ⟨m1, m2⟩ := HMEM.out p (List.mem_of_getElem? hp)
              exfalso
              omega
            · obtain rfl : j = xs2.length := by omega
              clear HPK2 HMEM
              go_wp2_with (first
                | (at_builtin; refine wpList_append_any _ rfl (.tmp 118) (.tmp 119) _ rfl W.heap.size 30 i0 _ 6 32 Try.underlying38 hi0 hz0 hz1 hz2 rfl (by decide) (.slice a1 xs1.length c1) xs1.length (xs1.flatMap Pk.cells) rfl HV1.out w4.heap.size a2 xs2.length c2 (xs2.flatMap Pk.cells) rfl (Reads.of_own HV2.out) pk_one (by unfold maxLen; omega) (by omega) (by omega) ?_; intro v5 w5 hown5 hg5 hat5; have hv3' := own_only HV3.out (only_grown hg5) (fun x hx => by have := (hb1 x hx).2; omega); have hL5 := hL4.only (only_grown hg5) (fun hm => by have := (hb1 _ hm).1; omega) (fun hm => by have := (hb1 _ hm).1; omega); have hW5 := bw_only hW4 (only_grown hg5) (fun x hx => by have := (hb1 x hx).1; omega); have hb5 := block_after hat5 hb1; have hs5 := hg5.size)
                | (at_builtin; refine wpList_append_any _ rfl (.tmp 120) (.tmp 121) _ rfl W.heap.size 30 i0 _ 6 32 Try.underlying38 hi0 hz0 hz1 hz2 rfl (by decide) v5 (xs1.length + xs2.length) (xs1.flatMap Pk.cells ++ xs2.flatMap Pk.cells) rfl hown5 w5.heap.size a3 xs3.length c3 (xs3.flatMap Pk.cells) rfl (Reads.of_own hv3') pk_one (by unfold maxLen; omega) (by omega) (by omega) ?_; intro v6 w6 hown6 hg6 hat6; have hL6 := hL5.only (only_grown hg6) (fun hm => by rcases hb5 _ hm with h | h <;> omega) (fun hm => by rcases hb5 _ hm with h | h <;> omega); have hW6 := bw_only hW5 (only_grown hg6) (fun x hx => by rcases hb5 x hx with h | h <;> omega))
                | (go_at_call 21; refine (all_any b rb 256 last _ _ hL6).mono ?_; rintro e7 w7 ⟨v7, rfl, hv7, hB7⟩; have hL7 := hL6.below hB7; have hW7 := bw_below hW6 hB7; have hpk6 := own_pkrow (own_below (own_three hown6) hB7); have hpk7 := own_pkrow hv7)
                | (go_at_call 23; refine (equal_same v6 v7 _ _ hpk6 hpk7 (by omega)).mono ?_; rintro e8 w8 ⟨rfl, nq8, rfl⟩)
                | (go_at_call 22; refine (HEMP.out _ (hL7.drewN _)).mono ?_; rintro e9 w9 ⟨v9, rfl, hv9, hB9⟩; obtain ⟨a9, c9, rfl⟩ := own_slice hv9; have hW9 := bw_below (below_drewN hW7 _) hB9)
                | (go_at_call 16; refine (works_any _).mono ?_; rintro e10 w10 ⟨rfl, hB10⟩))
              go_ret
              exact ⟨rfl, bw_below hW9 hB10⟩
        · go_wp2_with fail
          refine (between_any b rb 256 last (-5) (r1 - 1) ps _ hLq).mono ?_
          rintro e2 w2 ⟨v1, rfl, hv1, hB2⟩
          have hL2 := hLq.below hB2
          have hW2 := bw_below hWq hB2
          have hlt2 := hLq.lt
          have hb1 := own_toList hv1
          go_wp2_with fail
          refine (between_any b rb 256 last r1 (r0 - 1) ps _ hL2).mono ?_
          rintro e3 w3 ⟨v2, rfl, hv2, hB3⟩
          have hL3 := hL2.below hB3
          have hW3 := bw_below hW2 hB3
          have hv1b := own_below hv1 hB3
          clear hv1
          have hs2 := hB2.size
          go_wp2_with fail
          refine (between_any b rb 256 last r0 (last + 9) ps _ hL3).mono ?_
          rintro e4 w4 ⟨v3, rfl, hv3, hB4⟩
          have hL4 := hL3.below hB4
          have hW4 := bw_below hW3 hB4
          have hv1c := own_below hv1b hB4
          have hv2c := own_below hv2 hB4
          clear hv1b hv2
          have hs3 := hB3.size
          have hs4 := hB4.size
          have hl1 := between_len (-5) (r1 - 1) ps
          have hl2 := between_len r1 (r0 - 1) ps
          have hl3 := between_len r0 (last + 9) ps
          have hmem : ∀ p ∈ between r1 (r0 - 1) ps, r1 ≤ p.num ∧ p.num ≤ r0 - 1 := fun p hp => between_mem hp
          have hjoin : between (-5) (r1 - 1) ps ++ (between r1 (r0 - 1) ps ++ between r0 (last + 9) ps) = ps := by
            have j1 := between_join (a := r1) (b := r0 - 1) (c := last + 9) hL4.sorted (by omega) (by omega)
            rw [show r0 - 1 + 1 = r0 by omega] at j1
            have j2 := between_join (a := -5) (b := r1 - 1) (c := last + 9) hL4.sorted (by omega) (by omega)
            rw [show r1 - 1 + 1 = r1 by omega] at j2
            rw [j1, j2]
            exact between_self fun p hp => by have h1 := hL4.le_last p hp; have h2 := hL4.may p hp; unfold Pk.may at h2; omega
          have hempty := between_any b rb 256 last r0 (r0 - 1) ps
          rw [show between r0 (r0 - 1) ps = [] by have := between_empty (r0 - 1) ps; rwa [show r0 - 1 + 1 = r0 by omega] at this] at hempty
          obtain ⟨xs1, hx1⟩ : ∃ x, between (-5) (r1 - 1) ps = x := ⟨_, rfl⟩
          obtain ⟨xs2, hx2⟩ : ∃ x, between r1 (r0 - 1) ps = x := ⟨_, rfl⟩
          obtain ⟨xs3, hx3⟩ : ∃ x, between r0 (last + 9) ps = x := ⟨_, rfl⟩
          rw [hx1] at hv1c hl1 hjoin
          rw [hx2] at hv2c hl2 hjoin hmem
          rw [hx3] at hv3 hl3 hjoin
          rw [← hjoin] at hempty
          subst hjoin
          obtain ⟨a1, c1, rfl⟩ := own_slice hv1c
          obtain ⟨a2, c2, rfl⟩ := own_slice hv2c
          obtain ⟨a3, c3, rfl⟩ := own_slice hv3
          have hpk2 := own_pkrow hv2c
          obtain ⟨n2, hn2⟩ : ∃ n, xs2.length = n := ⟨_, rfl⟩
          have HPK2 := hide hpk2
          have HMEM := hide hmem
          have HEMP := hide hempty
          have HX1 := hide hx1
          have HX2 := hide hx2
          have HX3 := hide hx3
          have HV1 := hide hv1c
          have HV2 := hide hv2c
          have HV3 := hide hv3
          have HN2 := hide hn2
          clear hpk2 hmem hempty hx1 hx2 hx3 hv1c hv2c hv3 hn2
          go_wp2_with fail
          go_loop [16] (fun s16 => ∃ j : Nat, s16 = .int .i64 j ∧ j ≤ xs2.length) (fun i => xs2.length - (intOf i).toNat)
          case atStart => exact ⟨0, rfl, Nat.zero_le _⟩
          case round =>
            obtain ⟨j, rfl, hj⟩ := hrel
            by_cases hjl : j < xs2.length
            · obtain ⟨g, rfl, p, hp, a0, a1', a2', a3', a4, a5⟩ := HPK2.out.at_ hjl
              obtain ⟨m1, m2⟩ := HMEM.out p (List.mem_of_getElem? hp)
              have hd1 : decide (p.num ≤ r1 - 1) = false := by simp; omega
              have hd2 : decide (r0 - 1 < p.num) = false := by simp; omega
              have HP := hide hp
              clear hp
              go_wp2
              go_round
              case rel => exact ⟨j + 1, by go_num, by omega⟩
              case measure => simp [intOf]; omega
            · obtain rfl : j = xs2.length := by omega
              clear HPK2 HMEM
              go_wp2_with (first
                | (at_builtin; refine wpList_append_any _ rfl (.tmp 118) (.tmp 119) _ rfl W.heap.size 30 i0 _ 6 32 Try.underlying38 hi0 hz0 hz1 hz2 rfl (by decide) (.slice a1 xs1.length c1) xs1.length (xs1.flatMap Pk.cells) rfl HV1.out w4.heap.size a2 xs2.length c2 (xs2.flatMap Pk.cells) rfl (Reads.of_own HV2.out) pk_one (by unfold maxLen; omega) (by omega) (by omega) ?_; intro v5 w5 hown5 hg5 hat5; have hv3' := own_only HV3.out (only_grown hg5) (fun x hx => by have := (hb1 x hx).2; omega); have hL5 := hL4.only (only_grown hg5) (fun hm => by have := (hb1 _ hm).1; omega) (fun hm => by have := (hb1 _ hm).1; omega); have hW5 := bw_only hW4 (only_grown hg5) (fun x hx => by have := (hb1 x hx).1; omega); have hb5 := block_after hat5 hb1; have hs5 := hg5.size)
                | (at_builtin; refine wpList_append_any _ rfl (.tmp 120) (.tmp 121) _ rfl W.heap.size 30 i0 _ 6 32 Try.underlying38 hi0 hz0 hz1 hz2 rfl (by decide) v5 (xs1.length + xs2.length) (xs1.flatMap Pk.cells ++ xs2.flatMap Pk.cells) rfl hown5 w5.heap.size a3 xs3.length c3 (xs3.flatMap Pk.cells) rfl (Reads.of_own hv3') pk_one (by unfold maxLen; omega) (by omega) (by omega) ?_; intro v6 w6 hown6 hg6 hat6; have hL6 := hL5.only (only_grown hg6) (fun hm => by rcases hb5 _ hm with h | h <;> omega) (fun hm => by rcases hb5 _ hm with h | h <;> omega); have hW6 := bw_only hW5 (only_grown hg6) (fun x hx => by rcases hb5 x hx with h | h <;> omega))
                | (go_at_call 21; refine (all_any b rb 256 last _ _ hL6).mono ?_; rintro e7 w7 ⟨v7, rfl, hv7, hB7⟩; have hL7 := hL6.below hB7; have hW7 := bw_below hW6 hB7; have hpk6 := own_pkrow (own_below (own_three hown6) hB7); have hpk7 := own_pkrow hv7)
                | (go_at_call 23; refine (equal_same v6 v7 _ _ hpk6 hpk7 (by omega)).mono ?_; rintro e8 w8 ⟨rfl, nq8, rfl⟩)
                | (go_at_call 22; refine (HEMP.out _ (hL7.drewN _)).mono ?_; rintro e9 w9 ⟨v9, rfl, hv9, hB9⟩; obtain ⟨a9, c9, rfl⟩ := own_slice hv9; have hW9 := bw_below (below_drewN hW7 _) hB9)
                | (go_at_call 16; refine (works_any _).mono ?_; rintro e10 w10 ⟨rfl, hB10⟩))
              go_ret
              exact ⟨rfl, bw_below hW9 hB10⟩
      · have hkd : decide (k < len) = false := by simp; omega
        go_wp2_with fail
        go_quiet ((go_at_call 10; first | with_reducible exact quiet_left (HA0.out _) | with_reducible exact quiet_left (HA1.out _)))
        have hLq := hL.drewN nq
        have hWq := below_drewN hW nq
        obtain ⟨W, hWW⟩ : ∃ W, wr.drewN nq = W := ⟨_, rfl⟩
        rw [hWW] at hLq hWq
        have hwn := hide hWW
        rcases Int.lt_trichotomy r0 r1 with hab | rfl | hab
        · go_wp2_with fail
          refine (between_any b rb 256 last (-5) (r0 - 1) ps _ hLq).mono ?_
          rintro e2 w2 ⟨v1, rfl, hv1, hB2⟩
          have hL2 := hLq.below hB2
          have hW2 := bw_below hWq hB2
          have hlt2 := hLq.lt
          have hb1 := own_toList hv1
          go_wp2_with fail
          refine (between_any b rb 256 last r0 (r1 - 1) ps _ hL2).mono ?_
          rintro e3 w3 ⟨v2, rfl, hv2, hB3⟩
          have hL3 := hL2.below hB3
          have hW3 := bw_below hW2 hB3
          have hv1b := own_below hv1 hB3
          clear hv1
          have hs2 := hB2.size
          go_wp2_with fail
          refine (between_any b rb 256 last r1 (last + 9) ps _ hL3).mono ?_
          rintro e4 w4 ⟨v3, rfl, hv3, hB4⟩
          have hL4 := hL3.below hB4
          have hW4 := bw_below hW3 hB4
          have hv1c := own_below hv1b hB4
          have hv2c := own_below hv2 hB4
          clear hv1b hv2
          have hs3 := hB3.size
          have hs4 := hB4.size
          have hl1 := between_len (-5) (r0 - 1) ps
          have hl2 := between_len r0 (r1 - 1) ps
          have hl3 := between_len r1 (last + 9) ps
          have hmem : ∀ p ∈ between r0 (r1 - 1) ps, r0 ≤ p.num ∧ p.num ≤ r1 - 1 := fun p hp => between_mem hp
          have hjoin : between (-5) (r0 - 1) ps ++ (between r0 (r1 - 1) ps ++ between r1 (last + 9) ps) = ps := by
            have j1 := between_join (a := r0) (b := r1 - 1) (c := last + 9) hL4.sorted (by omega) (by omega)
            rw [show r1 - 1 + 1 = r1 by omega] at j1
            have j2 := between_join (a := -5) (b := r0 - 1) (c := last + 9) hL4.sorted (by omega) (by omega)
            rw [show r0 - 1 + 1 = r0 by omega] at j2
            rw [j1, j2]
            exact between_self fun p hp => by have h1 := hL4.le_last p hp; have h2 := hL4.may p hp; unfold Pk.may at h2; omega
          have hempty := between_any b rb 256 last r1 (r1 - 1) ps
          rw [show between r1 (r1 - 1) ps = [] by have := between_empty (r1 - 1) ps; rwa [show r1 - 1 + 1 = r1 by omega] at this] at hempty
          obtain ⟨xs1, hx1⟩ : ∃ x, between (-5) (r0 - 1) ps = x := ⟨_, rfl⟩
          obtain ⟨xs2, hx2⟩ : ∃ x, between r0 (r1 - 1) ps = x := ⟨_, rfl⟩
          obtain ⟨xs3, hx3⟩ : ∃ x, between r1 (last + 9) ps = x := ⟨_, rfl⟩
          rw [hx1] at hv1c hl1 hjoin
          rw [hx2] at hv2c hl2 hjoin hmem
          rw [hx3] at hv3 hl3 hjoin
          rw [← hjoin] at hempty
          subst hjoin
          obtain ⟨a1, c1, rfl⟩ := own_slice hv1c
          obtain ⟨a2, c2, rfl⟩ := own_slice hv2c
          obtain ⟨a3, c3, rfl⟩ := own_slice hv3
          have hpk2 := own_pkrow hv2c
          obtain ⟨n2, hn2⟩ : ∃ n, xs2.length = n := ⟨_, rfl⟩
          have HPK2 := hide hpk2
          have HMEM := hide hmem
          have HEMP := hide hempty
          have HX1 := hide hx1
          have HX2 := hide hx2
          have HX3 := hide hx3
          have HV1 := hide hv1c
          have HV2 := hide hv2c
          have HV3 := hide hv3
          have HN2 := hide hn2
          clear hpk2 hmem hempty hx1 hx2 hx3 hv1c hv2c hv3 hn2
          go_wp2_with fail
          go_loop [16] (fun s16 => ∃ j : Nat, s16 = .int .i64 j ∧ j ≤ xs2.length) (fun i => xs2.length - (intOf i).toNat)
          case atStart => exact ⟨0, rfl, Nat.zero_le _⟩
          case round =>
            obtain ⟨j, rfl, hj⟩ := hrel
            by_cases hjl : j < xs2.length
            · obtain ⟨g, rfl, p, hp, a0, a1', a2', a3', a4, a5⟩ := HPK2.out.at_ hjl
              obtain ⟨m1, m2⟩ := HMEM.out p (List.mem_of_getElem? hp)
              have hd1 : decide (p.num ≤ r0 - 1) = false := by simp; omega
              have hd2 : decide (r1 - 1 < p.num) = false := by simp; omega
              have HP := hide hp
              clear hp
              go_wp2
              go_round
              case rel => exact ⟨j + 1, by go_num, by omega⟩
              case measure => simp [intOf]; omega
            · obtain rfl : j = xs2.length := by omega
              clear HPK2 HMEM
              go_wp2_with (first
                | (at_builtin; refine wpList_append_any _ rfl (.tmp 118) (.tmp 119) _ rfl W.heap.size 30 i0 _ 6 32 Try.underlying38 hi0 hz0 hz1 hz2 rfl (by decide) (.slice a1 xs1.length c1) xs1.length (xs1.flatMap Pk.cells) rfl HV1.out w4.heap.size a2 xs2.length c2 (xs2.flatMap Pk.cells) rfl (Reads.of_own HV2.out) pk_one (by unfold maxLen; omega) (by omega) (by omega) ?_; intro v5 w5 hown5 hg5 hat5; have hv3' := own_only HV3.out (only_grown hg5) (fun x hx => by have := (hb1 x hx).2; omega); have hL5 := hL4.only (only_grown hg5) (fun hm => by have := (hb1 _ hm).1; omega) (fun hm => by have := (hb1 _ hm).1; omega); have hW5 := bw_only hW4 (only_grown hg5) (fun x hx => by have := (hb1 x hx).1; omega); have hb5 := block_after hat5 hb1; have hs5 := hg5.size)
                | (at_builtin; refine wpList_append_any _ rfl (.tmp 120) (.tmp 121) _ rfl W.heap.size 30 i0 _ 6 32 Try.underlying38 hi0 hz0 hz1 hz2 rfl (by decide) v5 (xs1.length + xs2.length) (xs1.flatMap Pk.cells ++ xs2.flatMap Pk.cells) rfl hown5 w5.heap.size a3 xs3.length c3 (xs3.flatMap Pk.cells) rfl (Reads.of_own hv3') pk_one (by unfold maxLen; omega) (by omega) (by omega) ?_; intro v6 w6 hown6 hg6 hat6; have hL6 := hL5.only (only_grown hg6) (fun hm => by rcases hb5 _ hm with h | h <;> omega) (fun hm => by rcases hb5 _ hm with h | h <;> omega); have hW6 := bw_only hW5 (only_grown hg6) (fun x hx => by rcases hb5 x hx with h | h <;> omega))
                | (go_at_call 21; refine (all_any b rb 256 last _ _ hL6).mono ?_; rintro e7 w7 ⟨v7, rfl, hv7, hB7⟩; have hL7 := hL6.below hB7; have hW7 := bw_below hW6 hB7; have hpk6 := own_pkrow (own_below (own_three hown6) hB7); have hpk7 := own_pkrow hv7)
                | (go_at_call 23; refine (equal_same v6 v7 _ _ hpk6 hpk7 (by omega)).mono ?_; rintro e8 w8 ⟨rfl, nq8, rfl⟩)
                | (go_at_call 22; refine (HEMP.out _ (hL7.drewN _)).mono ?_; rintro e9 w9 ⟨v9, rfl, hv9, hB9⟩; obtain ⟨a9, c9, rfl⟩ := own_slice hv9; have hW9 := bw_below (below_drewN hW7 _) hB9)
                | (go_at_call 16; refine (works_any _).mono ?_; rintro e10 w10 ⟨rfl, hB10⟩))
              go_ret
              exact ⟨rfl, bw_below hW9 hB10⟩
        · go_wp2_with fail
          refine (between_any b rb 256 last (-5) (r0 - 1) ps _ hLq).mono ?_
          rintro e2 w2 ⟨v1, rfl, hv1, hB2⟩
          have hL2 := hLq.below hB2
          have hW2 := bw_below hWq hB2
          have hlt2 := hLq.lt
          have hb1 := own_toList hv1
          go_wp2_with fail
          refine (between_any b rb 256 last r0 (r0 - 1) ps _ hL2).mono ?_
          rintro e3 w3 ⟨v2, rfl, hv2, hB3⟩
          have hL3 := hL2.below hB3
          have hW3 := bw_below hW2 hB3
          have hv1b := own_below hv1 hB3
          clear hv1
          have hs2 := hB2.size
          go_wp2_with fail
          refine (between_any b rb 256 last r0 (last + 9) ps _ hL3).mono ?_
          rintro e4 w4 ⟨v3, rfl, hv3, hB4⟩
          have hL4 := hL3.below hB4
          have hW4 := bw_below hW3 hB4
          have hv1c := own_below hv1b hB4
          have hv2c := own_below hv2 hB4
          clear hv1b hv2
          have hs3 := hB3.size
          have hs4 := hB4.size
          have hl1 := between_len (-5) (r0 - 1) ps
          have hl2 := between_len r0 (r0 - 1) ps
          have hl3 := between_len r0 (last + 9) ps
          have hmem : ∀ p ∈ between r0 (r0 - 1) ps, r0 ≤ p.num ∧ p.num ≤ r0 - 1 := fun p hp => between_mem hp
          have hjoin : between (-5) (r0 - 1) ps ++ (between r0 (r0 - 1) ps ++ between r0 (last + 9) ps) = ps := by
            have j1 := between_join (a := r0) (b := r0 - 1) (c := last + 9) hL4.sorted (by omega) (by omega)
            rw [show r0 - 1 + 1 = r0 by omega] at j1
            have j2 := between_join (a := -5) (b := r0 - 1) (c := last + 9) hL4.sorted (by omega) (by omega)
            rw [show r0 - 1 + 1 = r0 by omega] at j2
            rw [j1, j2]
            exact between_self fun p hp => by have h1 := hL4.le_last p hp; have h2 := hL4.may p hp; unfold Pk.may at h2; omega
          have hempty := between_any b rb 256 last r0 (r0 - 1) ps
          rw [show between r0 (r0 - 1) ps = [] by have := between_empty (r0 - 1) ps; rwa [show r0 - 1 + 1 = r0 by omega] at this] at hempty
          obtain ⟨xs1, hx1⟩ : ∃ x, between (-5) (r0 - 1) ps = x := ⟨_, rfl⟩
          obtain ⟨xs2, hx2⟩ : ∃ x, between r0 (r0 - 1) ps = x := ⟨_, rfl⟩
          obtain ⟨xs3, hx3⟩ : ∃ x, between r0 (last + 9) ps = x := ⟨_, rfl⟩
          rw [hx1] at hv1c hl1 hjoin
          rw [hx2] at hv2c hl2 hjoin hmem
          rw [hx3] at hv3 hl3 hjoin
          rw [← hjoin] at hempty
          subst hjoin
          obtain ⟨a1, c1, rfl⟩ := own_slice hv1c
          obtain ⟨a2, c2, rfl⟩ := own_slice hv2c
          obtain ⟨a3, c3, rfl⟩ := own_slice hv3
          have hpk2 := own_pkrow hv2c
          obtain ⟨n2, hn2⟩ : ∃ n, xs2.length = n := ⟨_, rfl⟩
          have HPK2 := hide hpk2
          have HMEM := hide hmem
          have HEMP := hide hempty
          have HX1 := hide hx1
          have HX2 := hide hx2
          have HX3 := hide hx3
          have HV1 := hide hv1c
          have HV2 := hide hv2c
          have HV3 := hide hv3
          have HN2 := hide hn2
          clear hpk2 hmem hempty hx1 hx2 hx3 hv1c hv2c hv3 hn2
          go_wp2_with fail
          go_loop [16] (fun s16 => ∃ j : Nat, s16 = .int .i64 j ∧ j ≤ xs2.length) (fun i => xs2.length - (intOf i).toNat)
          case atStart => exact ⟨0, rfl, Nat.zero_le _⟩
          case round =>
            obtain ⟨j, rfl, hj⟩ := hrel
            by_cases hjl : j < xs2.length
            · obtain ⟨g, rfl, p, hp, a0, a1', a2', a3', a4, a5⟩ := HPK2.out.at_ hjl
              obtain ⟨m1, m2⟩ := HMEM.out p (List.mem_of_getElem? hp)
              exfalso
              omega
            · obtain rfl : j = xs2.length := by omega
              clear HPK2 HMEM
              go_wp2_with (first
                | (at_builtin; refine wpList_append_any _ rfl (.tmp 118) (.tmp 119) _ rfl W.heap.size 30 i0 _ 6 32 Try.underlying38 hi0 hz0 hz1 hz2 rfl (by decide) (.slice a1 xs1.length c1) xs1.length (xs1.flatMap Pk.cells) rfl HV1.out w4.heap.size a2 xs2.length c2 (xs2.flatMap Pk.cells) rfl (Reads.of_own HV2.out) pk_one (by unfold maxLen; omega) (by omega) (by omega) ?_; intro v5 w5 hown5 hg5 hat5; have hv3' := own_only HV3.out (only_grown hg5) (fun x hx => by have := (hb1 x hx).2; omega); have hL5 := hL4.only (only_grown hg5) (fun hm => by have := (hb1 _ hm).1; omega) (fun hm => by have := (hb1 _ hm).1; omega); have hW5 := bw_only hW4 (only_grown hg5) (fun x hx => by have := (hb1 x hx).1; omega); have hb5 := block_after hat5 hb1; have hs5 := hg5.size)
                | (at_builtin; refine wpList_append_any _ rfl (.tmp 120) (.tmp 121) _ rfl W.heap.size 30 i0 _ 6 32 Try.underlying38 hi0 hz0 hz1 hz2 rfl (by decide) v5 (xs1.length + xs2.length) (xs1.flatMap Pk.cells ++ xs2.flatMap Pk.cells) rfl hown5 w5.heap.size a3 xs3.length c3 (xs3.flatMap Pk.cells) rfl (Reads.of_own hv3') pk_one (by unfold maxLen; omega) (by omega) (by omega) ?_; intro v6 w6 hown6 hg6 hat6; have hL6 := hL5.only (only_grown hg6) (fun hm => by rcases hb5 _ hm with h | h <;> omega) (fun hm => by rcases hb5 _ hm with h | h <;> omega); have hW6 := bw_only hW5 (only_grown hg6) (fun x hx => by rcases hb5 x hx with h | h <;> omega))
                | (go_at_call 21; refine (all_any b rb 256 last _ _ hL6).mono ?_; rintro e7 w7 ⟨v7, rfl, hv7, hB7⟩; have hL7 := hL6.below hB7; have hW7 := bw_below hW6 hB7; have hpk6 := own_pkrow (own_below (own_three hown6) hB7); have hpk7 := own_pkrow hv7)
                | (go_at_call 23; refine (equal_same v6 v7 _ _ hpk6 hpk7 (by omega)).mono ?_; rintro e8 w8 ⟨rfl, nq8, rfl⟩)
                | (go_at_call 22; refine (HEMP.out _ (hL7.drewN _)).mono ?_; rintro e9 w9 ⟨v9, rfl, hv9, hB9⟩; obtain ⟨a9, c9, rfl⟩ := own_slice hv9; have hW9 := bw_below (below_drewN hW7 _) hB9)
                | (go_at_call 16; refine (works_any _).mono ?_; rintro e10 w10 ⟨rfl, hB10⟩))
              go_ret
              exact ⟨rfl, bw_below hW9 hB10⟩
        · go_wp2_with fail
          refine (between_any b rb 256 last (-5) (r1 - 1) ps _ hLq).mono ?_
          rintro e2 w2 ⟨v1, rfl, hv1, hB2⟩
          have hL2 := hLq.below hB2
          have hW2 := bw_below hWq hB2
          have hlt2 := hLq.lt
          have hb1 := own_toList hv1
          go_wp2_with fail
          refine (between_any b rb 256 last r1 (r0 - 1) ps _ hL2).mono ?_
          rintro e3 w3 ⟨v2, rfl, hv2, hB3⟩
          have hL3 := hL2.below hB3
          have hW3 := bw_below hW2 hB3
          have hv1b := own_below hv1 hB3
          clear hv1
          have hs2 := hB2.size
          go_wp2_with fail
          refine (between_any b rb 256 last r0 (last + 9) ps _ hL3).mono ?_
          rintro e4 w4 ⟨v3, rfl, hv3, hB4⟩
          have hL4 := hL3.below hB4
          have hW4 := bw_below hW3 hB4
          have hv1c := own_below hv1b hB4
          have hv2c := own_below hv2 hB4
          clear hv1b hv2
          have hs3 := hB3.size
          have hs4 := hB4.size
          have hl1 := between_len (-5) (r1 - 1) ps
          have hl2 := between_len r1 (r0 - 1) ps
          have hl3 := between_len r0 (last + 9) ps
          have hmem : ∀ p ∈ between r1 (r0 - 1) ps, r1 ≤ p.num ∧ p.num ≤ r0 - 1 := fun p hp => between_mem hp
          have hjoin : between (-5) (r1 - 1) ps ++ (between r1 (r0 - 1) ps ++ between r0 (last + 9) ps) = ps := by
            have j1 := between_join (a := r1) (b := r0 - 1) (c := last + 9) hL4.sorted (by omega) (by omega)
            rw [show r0 - 1 + 1 = r0 by omega] at j1
            have j2 := between_join (a := -5) (b := r1 - 1) (c := last + 9) hL4.sorted (by omega) (by omega)
            rw [show r1 - 1 + 1 = r1 by omega] at j2
            rw [j1, j2]
            exact between_self fun p hp => by have h1 := hL4.le_last p hp; have h2 := hL4.may p hp; unfold Pk.may at h2; omega
          have hempty := between_any b rb 256 last r0 (r0 - 1) ps
          rw [show between r0 (r0 - 1) ps = [] by have := between_empty (r0 - 1) ps; rwa [show r0 - 1 + 1 = r0 by omega] at this] at hempty
          obtain ⟨xs1, hx1⟩ : ∃ x, between (-5) (r1 - 1) ps = x := ⟨_, rfl⟩
          obtain ⟨xs2, hx2⟩ : ∃ x, between r1 (r0 - 1) ps = x := ⟨_, rfl⟩
          obtain ⟨xs3, hx3⟩ : ∃ x, between r0 (last + 9) ps = x := ⟨_, rfl⟩
          rw [hx1] at hv1c hl1 hjoin
          rw [hx2] at hv2c hl2 hjoin hmem
          rw [hx3] at hv3 hl3 hjoin
          rw [← hjoin] at hempty
          subst hjoin
          obtain ⟨a1, c1, rfl⟩ := own_slice hv1c
          obtain ⟨a2, c2, rfl⟩ := own_slice hv2c
          obtain ⟨a3, c3, rfl⟩ := own_slice hv3
          have hpk2 := own_pkrow hv2c
          obtain ⟨n2, hn2⟩ : ∃ n, xs2.length = n := ⟨_, rfl⟩
          have HPK2 := hide hpk2
          have HMEM := hide hmem
          have HEMP := hide hempty
          have HX1 := hide hx1
          have HX2 := hide hx2
          have HX3 := hide hx3
          have HV1 := hide hv1c
          have HV2 := hide hv2c
          have HV3 := hide hv3
          have HN2 := hide hn2
          clear hpk2 hmem hempty hx1 hx2 hx3 hv1c hv2c hv3 hn2
          go_wp2_with fail
          go_loop [16] (fun s16 => ∃ j : Nat, s16 = .int .i64 j ∧ j ≤ xs2.length) (fun i => xs2.length - (intOf i).toNat)
          case atStart => exact ⟨0, rfl, Nat.zero_le _⟩
          case round =>
            obtain ⟨j, rfl, hj⟩ := hrel
            by_cases hjl : j < xs2.length
            · obtain ⟨g, rfl, p, hp, a0, a1', a2', a3', a4, a5⟩ := HPK2.out.at_ hjl
              obtain ⟨m1, m2⟩ := HMEM.out p (List.mem_of_getElem? hp)
              have hd1 : decide (p.num ≤ r1 - 1) = false := by simp; omega
              have hd2 : decide (r0 - 1 < p.num) = false := by simp; omega
              have HP := hide hp
              clear hp
              go_wp2
              go_round
              case rel => exact ⟨j + 1, by go_num, by omega⟩
              case measure => simp [intOf]; omega
            · obtain rfl : j = xs2.length := by omega
              clear HPK2 HMEM
              go_wp2_with (first
                | (at_builtin; refine wpList_append_any _ rfl (.tmp 118) (.tmp 119) _ rfl W.heap.size 30 i0 _ 6 32 Try.underlying38 hi0 hz0 hz1 hz2 rfl (by decide) (.slice a1 xs1.length c1) xs1.length (xs1.flatMap Pk.cells) rfl HV1.out w4.heap.size a2 xs2.length c2 (xs2.flatMap Pk.cells) rfl (Reads.of_own HV2.out) pk_one (by unfold maxLen; omega) (by omega) (by omega) ?_; intro v5 w5 hown5 hg5 hat5; have hv3' := own_only HV3.out (only_grown hg5) (fun x hx => by have := (hb1 x hx).2; omega); have hL5 := hL4.only (only_grown hg5) (fun hm => by have := (hb1 _ hm).1; omega) (fun hm => by have := (hb1 _ hm).1; omega); have hW5 := bw_only hW4 (only_grown hg5) (fun x hx => by have := (hb1 x hx).1; omega); have hb5 := block_after hat5 hb1; have hs5 := hg5.size)
                | (at_builtin; refine wpList_append_any _ rfl (.tmp 120) (.tmp 121) _ rfl W.heap.size 30 i0 _ 6 32 Try.underlying38 hi0 hz0 hz1 hz2 rfl (by decide) v5 (xs1.length + xs2.length) (xs1.flatMap Pk.cells ++ xs2.flatMap Pk.cells) rfl hown5 w5.heap.size a3 xs3.length c3 (xs3.flatMap Pk.cells) rfl (Reads.of_own hv3') pk_one (by unfold maxLen; omega) (by omega) (by omega) ?_; intro v6 w6 hown6 hg6 hat6; have hL6 := hL5.only (only_grown hg6) (fun hm => by rcases hb5 _ hm with h | h <;> omega) (fun hm => by rcases hb5 _ hm with h | h <;> omega); have hW6 := bw_only hW5 (only_grown hg6) (fun x hx => by rcases hb5 x hx with h | h <;> omega))
                | (go_at_call 21; refine (all_any b rb 256 last _ _ hL6).mono ?_; rintro e7 w7 ⟨v7, rfl, hv7, hB7⟩; have hL7 := hL6.below hB7; have hW7 := bw_below hW6 hB7; have hpk6 := own_pkrow (own_below (own_three hown6) hB7); have hpk7 := own_pkrow hv7)
                | (go_at_call 23; refine (equal_same v6 v7 _ _ hpk6 hpk7 (by omega)).mono ?_; rintro e8 w8 ⟨rfl, nq8, rfl⟩)
                | (go_at_call 22; refine (HEMP.out _ (hL7.drewN _)).mono ?_; rintro e9 w9 ⟨v9, rfl, hv9, hB9⟩; obtain ⟨a9, c9, rfl⟩ := own_slice hv9; have hW9 := bw_below (below_drewN hW7 _) hB9)
                | (go_at_call 16; refine (works_any _).mono ?_; rintro e10 w10 ⟨rfl, hB10⟩))
              go_ret
              exact ⟨rfl, bw_below hW9 hB10⟩
end Go.Proofs.Ytcigkggdcogokaa
