/-
  The packets' log: walks of the search, of the totals, of 'may'.
-/
import Derived.Test.YtcigkggdcogokaaSentW1
namespace Go.Proofs.Ytcigkggdcogokaa
open Go.RowKit

set_option maxHeartbeats 1000000 in
/-- sort.Search over the log's closure: the boundary of a predicate that does not fall back. -/
theorem search_any (a1 a2 : Addr) (n k : Nat) (p : Nat → Bool) (w : World) (hsz : n ≤ 4611686018427387904)
    (hf : ∀ (q i : Nat), i < n → Calls Try.prog 57 #[.int .i64 i, .pointer (some a1), .pointer (some a2)] (w.drewN q) fun e w' => e = .returned (.bool (p i)) ∧ ∃ q', w' = (w.drewN q).drewN q')
    (hk : k ≤ n) (h1 : ∀ i, i < k → p i = false) (h2 : ∀ i, k ≤ i → i < n → p i = true) :
    Calls Try.prog 56 #[.int .i64 n, .func (.func 57) #[] #[.pointer (some a1), .pointer (some a2)]] w fun e w' => e = .returned (.int .i64 k) ∧ ∃ q, w' = w.drewN q := by
  have HF := hide hf
  have M1 := hide h1
  have M2 := hide h2
  clear hf h1 h2
  go_enter Try.func56, Try.ntmps56
  go_wp2
  go_loopg [5, 6] n (fun kx s5 s6 wr => ∃ (lo hi q : Nat), s5 = .int .i64 lo ∧ s6 = .int .i64 hi ∧ lo ≤ k ∧ k ≤ hi ∧ hi ≤ n ∧ hi - lo ≤ kx ∧ wr = w.drewN q)
  case atStart => exact ⟨0, n, 0, rfl, rfl, Nat.zero_le _, hk, Nat.le_refl _, by omega, rfl⟩
  case round =>
    obtain ⟨lo, hi, q, rfl, rfl, hlk, hkh, hin, hg, rfl⟩ := hrel
    by_cases hlt : lo < hi
    · have hc := HF.out q ((lo + hi) / 2) (by omega)
      rw [show (((lo + hi) / 2 : Nat) : Int) = ((lo : Int) + (hi : Int)) / 2 by omega] at hc
      cases hp : p ((lo + hi) / 2) <;> rw [hp] at hc
      · have hlo : (lo + hi) / 2 < k := by
          rcases Nat.lt_or_ge ((lo + hi) / 2) k with h | h
          · exact h
          · have := M2.out _ h (by omega); rw [hp] at this; cases this
        have HP := hide hp
        clear hp
        go_wp2_with (go_at_call 57; refine hc.mono ?_; rintro e w' ⟨rfl, nq, rfl⟩)
        go_roundg (hi - ((lo + hi) / 2 + 1))
        case measure => omega
        case rel => exact ⟨(lo + hi) / 2 + 1, hi, q + nq, by rw [show ((lo : Int) + (hi : Int)) / 2 + 1 = (((lo + hi) / 2 + 1 : Nat) : Int) by omega], rfl, by omega, hkh, hin, Nat.le_refl _, by simp⟩
      · have hhi : k ≤ (lo + hi) / 2 := by
          rcases Nat.lt_or_ge ((lo + hi) / 2) k with h | h
          · have := M1.out _ h; rw [hp] at this; cases this
          · exact h
        have HP := hide hp
        clear hp
        go_wp2_with (go_at_call 57; refine hc.mono ?_; rintro e w' ⟨rfl, nq, rfl⟩)
        go_roundg ((lo + hi) / 2 - lo)
        case measure => omega
        case rel => exact ⟨lo, (lo + hi) / 2, q + nq, rfl, by rw [show ((lo : Int) + (hi : Int)) / 2 = (((lo + hi) / 2 : Nat) : Int) by omega], by omega, by omega, by omega, Nat.le_refl _, by simp⟩
    · obtain rfl : hi = k := by omega
      obtain rfl : lo = hi := by omega
      go_wp2
      go_ret
      exact ⟨rfl, q, rfl⟩

/-- The places' numbers rise: where the first one of number n, or more, lies. -/
theorem firstAt_lt {n : Int} : ∀ {q : List Sl} {i : Nat} {s : Sl}, i < firstAt n q → q[i]? = some s → s.1.num < n
  | [], i, s, _, h => by simp at h
  | x :: q, i, s, hi, h => by
    unfold firstAt at hi
    rw [List.takeWhile_cons] at hi
    split at hi
    · rename_i hx
      cases i with
      | zero => simp at h; subst h; simpa using hx
      | succ i => exact firstAt_lt (q := q) (i := i) (by unfold firstAt; simpa using hi) (by simpa using h)
    · simp at hi
theorem firstAt_ge {n : Int} : ∀ {q : List Sl} {i : Nat} {s : Sl}, (q.Pairwise fun a b => a.1.num < b.1.num) → firstAt n q ≤ i → q[i]? = some s → n ≤ s.1.num
  | [], i, s, _, _, h => by simp at h
  | x :: q, i, s, hp, hi, h => by
    have hp' := List.pairwise_cons.1 hp
    unfold firstAt at hi
    rw [List.takeWhile_cons] at hi
    split at hi
    · cases i with
      | zero => simp at hi
      | succ i => exact firstAt_ge (q := q) (i := i) hp'.2 (by unfold firstAt; simpa using hi) (by simpa using h)
    · rename_i hx
      have hx' : n ≤ x.1.num := by simpa using hx
      cases i with
      | zero => simp at h; subst h; exact hx'
      | succ i =>
        have hm : s ∈ q := List.mem_of_getElem? (i := i) (by simpa using h)
        have := hp'.1 s hm
        omega

set_option maxHeartbeats 400000 in
theorem find_any {w : World} {b rb m room : Nat} {last : Int} {fr many : Nat} {fl el : Int} {ring q : List Sl} (n : Int) (h : LogC w b rb m room last fr q.length many fl el ring) (hr : Ring m fr ring q)
    (hs : q.Pairwise fun a b => a.1.num < b.1.num) :
    Calls Try.prog 55 #[.pointer (some ⟨b, 0, none⟩), .int .i64 n] w fun e w' => e = .returned (.int .i64 (firstAt n q)) ∧ Below w.heap.size w w' := by
  have h4 : w.cell? ⟨b, 4, none⟩ = some (.int .i64 q.length) := h.cell 4
  have hb := h.blk.lt
  have hrb := h.rng.lt
  have hm := h.m2
  have hr1 := h.r1
  have hr2 := h.r2
  have hq := hr.long
  have hf := hr.frm
  have HS : ∀ (d : Nat) (i : Nat), i < q.length → Calls Try.prog 57 #[.int .i64 i, .pointer (some ⟨w.heap.size, 0, none⟩), .pointer (some ⟨w.heap.size + 1, 0, none⟩)]
      (((w.alloc (.cells #[.pointer (some ⟨b, 0, none⟩)] 23)).alloc (.cells #[.int .i64 n] 3)).drewN d) fun e w' => e = .returned (.bool (decide (n ≤ ((q[i]?).map (·.1.num)).getD 0))) ∧ ∃ d', w' = (((w.alloc (.cells #[.pointer (some ⟨b, 0, none⟩)] 23)).alloc (.cells #[.int .i64 n] 3)).drewN d).drewN d' := by
    intro d i hi
    have hat := hr.at_ i hi
    have hs : q[i]? = some q[i] := List.getElem?_eq_getElem hi
    rw [hs] at hat
    obtain ⟨s0, _⟩ := h.slot hat
    have H2 : w.cell? ⟨b, 2, none⟩ = some (.slice (some ⟨rb, 0, none⟩) m h.cap) := h.cell 2
    have H3 : w.cell? ⟨b, 3, none⟩ = some (.int .i64 fr) := h.cell 3
    rw [hs]
    refine find1_any (cap := h.cap) _ _ b rb m fr i n _ _ ?_ ?_ ?_ ?_ (by omega) (by omega) (by omega) (by omega) ?_
    · rw [World.cell?_drewN, World.cell?_alloc_lt _ _ _ (by simp), World.cell?_alloc_new]; rfl
    · rw [World.cell?_drewN, World.cell?_alloc_at _ _ _ _ (by simp)]; rfl
    · rw [World.cell?_drewN, World.cell?_alloc_lt _ _ _ (by simp; omega), World.cell?_alloc_lt _ _ _ hb]; exact H2
    · rw [World.cell?_drewN, World.cell?_alloc_lt _ _ _ (by simp; omega), World.cell?_alloc_lt _ _ _ hb]; exact H3
    · rw [World.cell?_drewN, World.cell?_alloc_lt _ _ _ (by simp; omega), World.cell?_alloc_lt _ _ _ hrb]; exact s0
  have hc := search_any ⟨w.heap.size, 0, none⟩ ⟨w.heap.size + 1, 0, none⟩ q.length (firstAt n q) (fun i => decide (n ≤ ((q[i]?).map (·.1.num)).getD 0)) _ (by omega) HS (firstAt_le n q)
    (fun i hi => by
      have hl : i < q.length := Nat.lt_of_lt_of_le hi (firstAt_le n q)
      have := firstAt_lt hi (List.getElem?_eq_getElem hl)
      simp [List.getElem?_eq_getElem hl]; omega)
    (fun i hi hl => by
      have := firstAt_ge hs hi (List.getElem?_eq_getElem hl)
      simp [List.getElem?_eq_getElem hl]; omega)
  have HC := hide hc
  clear hc HS
  go_enter Try.func55, Try.ntmps55
  go_wp2_with (go_at_call 56; refine HC.out.mono ?_; rintro e w' ⟨rfl, nq, rfl⟩)
  go_ret
  exact ⟨rfl, below_drewN ((((Below.refl _ _).alloc (Nat.le_refl _) _)).alloc (by simp) _) _⟩
end Go.Proofs.Ytcigkggdcogokaa
