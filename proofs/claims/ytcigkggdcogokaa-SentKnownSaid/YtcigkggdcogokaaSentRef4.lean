/-
  The document's log (sounderref06): the contract of Between; 'same' of the statements, where both logs stand alike.
-/
import Derived.Test.YtcigkggdcogokaaSentRef3
import Derived.Test.YtcigkggdcogokaaSentCopy
namespace Go.Proofs.Ytcigkggdcogokaa
open Go.RowKit

theorem between_take {lo hi : Int} {ps : List Pk} {k : Nat} {p : Pk} (h : ps[k]? = some p) : between lo hi (ps.take (k + 1)) = if lo ≤ p.num ∧ p.num ≤ hi then between lo hi (ps.take k) ++ [p] else between lo hi (ps.take k) := by
  obtain ⟨hl, he⟩ := List.getElem?_eq_some_iff.1 h
  rw [List.take_succ_eq_append_getElem hl, he]
  unfold between
  rw [List.filter_append, List.filter_cons]
  by_cases h1 : lo ≤ p.num <;> by_cases h2 : p.num ≤ hi <;> simp [h1, h2]

set_option maxHeartbeats 4000000 in
theorem rbetween_any (m room : Nat) (top lo hi : Int) (ps : List Pk) (w : World) (hR : IsRef w m room top ps) :
    Calls Try.prog 31 #[.pointer (some ⟨m, 0, none⟩), .int .i64 lo, .int .i64 hi] w (PksPost w (between lo hi ps)) := by
  obtain ⟨hr, hl, v, hB, hv⟩ := hR
  obtain ⟨a, c, rfl⟩ := hv.slice
  obtain ⟨i0, hi0, hz0, hz1, hz2⟩ := info_parts pk_info
  have hm := hB.lt
  obtain ⟨N, hN⟩ : ∃ N, ps.length = N := ⟨_, rfl⟩
  rw [hN] at hv hB hl
  have HV := hide hv
  have HBm := hide hB
  have HN := hide hN
  clear hv hN hB
  go_enter Try.func31, Try.ntmps31
  go_wp2_with fail
  go_loopg [7, 8] N (fun kx s7 s8 wr => ∃ (k : Nat), s8 = .int .i64 k ∧ k ≤ N ∧ N - k ≤ kx ∧ wr.ownsRow w.heap.size 30 6 s7 (between lo hi (ps.take k)).length ((between lo hi (ps.take k)).flatMap Pk.cells) ∧ Below w.heap.size w wr)
  case atStart => exact ⟨0, rfl, Nat.zero_le _, Nat.le_refl _, ⟨by simp [between], .inl ⟨rfl, by simp [between]⟩⟩, Below.refl _ _⟩
  case round =>
    obtain ⟨k, rfl, hk, hkx, hown, hW⟩ := hrel
    have hBr := (only_of_below hW (S := [])).blk HBm.out (by simp)
    have hmr := hBr.lt
    have c2 : wr.cell? ⟨m, 2, none⟩ = some (.slice a N c) := hBr.cell 2
    have hvr := HV.out.below hW
    by_cases hlt : k < N
    · have hkp : k < ps.length := by rw [HN.out]; exact hlt
      obtain ⟨g, rfl, q, hq, a0, a1, a2, a3, a4, a5⟩ := hvr.at_ hkp
      have hgl := hvr.lt
      have hwt := between_take (lo := lo) (hi := hi) hq
      have hwl := between_len lo hi (ps.take k)
      have hwl2 : (ps.take k).length ≤ k := List.length_take_le _ _
      by_cases he : lo ≤ q.num ∧ q.num ≤ hi
      · rw [if_pos he] at hwt
        obtain ⟨he1, he2⟩ := he
        have HT := hide hwt
        clear hwt hq
        obtain ⟨M, hM⟩ : ∃ M, (between lo hi (ps.take k)).length = M := ⟨_, rfl⟩
        obtain ⟨xs, hxs⟩ : ∃ xs, (between lo hi (ps.take k)).flatMap Pk.cells = xs := ⟨_, rfl⟩
        rw [hM, hxs] at hown
        rw [hM] at hwl
        have HM := hide hM
        have HXS := hide hxs
        clear hM hxs
        obtain ⟨A8, c8, rfl⟩ := own_slice hown
        go_wp2_with (at_builtin; refine wpList_append_any _ rfl (.tmp 40) (.tmp 48) _ rfl w.heap.size 30 i0 _ 6 32 Try.underlying38 hi0 hz0 hz1 hz2 rfl (by decide) (.slice A8 M c8) M xs rfl (by exact hown.alloc _) (wr.heap.size + 1) (some ⟨wr.heap.size, 0, none⟩) 1 1 q.cells rfl (by exact reads_lit (blk_new_at (by simp)) (by simp) rfl) (by simp [Pk.cells, Value.oneCell']) (by unfold maxLen; omega) (by omega) (by simp; have := hW.size; omega) ?_; intro v5 w5 hown5 hg5 hat5)
        go_roundg (N - (k + 1))
        case rel =>
          refine ⟨k + 1, by go_num, by omega, Nat.le_refl _, ?_, ?_⟩
          · rw [HT.out, List.length_append, List.flatMap_append, HM.out, HXS.out]
            simpa using hown5
          · exact Below.grown (hW.alloc hW.size _) hg5 (by simp; have := hW.size; omega) (fun x hx => (hown.lt x hx).1)
        case measure => omega
      · rw [if_neg he] at hwt
        have HT := hide hwt
        have HO := hide hown
        clear hwt hq hown
        by_cases he1 : lo ≤ q.num
        · have he2 : ¬ q.num ≤ hi := fun h => he ⟨he1, h⟩
          clear he
          go_wp2_with fail
          go_roundg (N - (k + 1))
          case rel => exact ⟨k + 1, by go_num, by omega, Nat.le_refl _, by rw [HT.out]; exact HO.out, hW⟩
          case measure => omega
        · clear he
          go_wp2_with fail
          go_roundg (N - (k + 1))
          case rel => exact ⟨k + 1, by go_num, by omega, Nat.le_refl _, by rw [HT.out]; exact HO.out, hW⟩
          case measure => omega
    · obtain rfl : k = N := by omega
      rw [List.take_of_length_le (by rw [HN.out]; exact Nat.le_refl _)] at hown
      clear hlt hkx
      go_wp2_with fail
      go_ret
      exact ⟨_, rfl, hown, hW⟩

/-- Both logs stand alike. -/
structure Alike2 (w : World) (b rb m room : Nat) (last : Int) (ps : List Pk) : Prop where
  log : IsLog w b rb room last ps
  ref : IsRef w m room last ps
theorem Alike2.below {w w' : World} {b rb m room : Nat} {last : Int} {ps : List Pk} (h : Alike2 w b rb m room last ps) (hb : Below w.heap.size w w') : Alike2 w' b rb m room last ps := ⟨h.log.below hb, h.ref.below hb⟩
theorem getOf_some {n : Int} {ps : List Pk} {p : Pk} (h : ps.find? (fun p => p.num == n) = some p) : getOf n ps = (p, true) := by unfold getOf; rw [h]
theorem getOf_none {n : Int} {ps : List Pk} (h : ps.find? (fun p => p.num == n) = none) : getOf n ps = (Pk.zero, false) := by unfold getOf; rw [h]

/-- Get, as the program answers. -/
theorem get_any (b rb room : Nat) (last n : Int) (ps : List Pk) (p : Pk) (t : Bool) (w : World) (hL : IsLog w b rb room last ps) (hg : getOf n ps = (p, t)) :
    Calls Try.prog 17 #[.pointer (some ⟨b, 0, none⟩), .int .i64 n] w fun e w' => e = .returned (.tuple #[.agg #[.int .i64 p.num, .int .i64 p.time, .int .i64 p.size, .bool p.el, .bool p.fl, .bool p.ect], .bool t]) ∧ Below w.heap.size w w' := by
  cases hf : ps.find? (fun p => p.num == n) with
  | some q =>
    rw [getOf_some hf] at hg
    cases hg
    exact get_is b rb room last n _ ps w hL hf
  | none =>
    rw [getOf_none hf] at hg
    cases hg
    exact get_none b rb room last n ps w hL hf
/-- What Oldest answers. -/
def headOf : List Pk → Pk × Bool
  | [] => (Pk.zero, false)
  | p :: _ => (p, true)
theorem oldest_any (b rb room : Nat) (last : Int) (ps : List Pk) (p : Pk) (t : Bool) (w : World) (hL : IsLog w b rb room last ps) (hg : headOf ps = (p, t)) :
    Calls Try.prog 32 #[.pointer (some ⟨b, 0, none⟩)] w fun e w' => e = .returned (.tuple #[.agg #[.int .i64 p.num, .int .i64 p.time, .int .i64 p.size, .bool p.el, .bool p.fl, .bool p.ect], .bool t]) ∧ Below w.heap.size w w' := by
  cases ps with
  | nil => cases hg; exact oldest_none b rb room last w hL
  | cons q ps => cases hg; exact oldest_is b rb room last _ ps w hL
theorem roldest_any (m room : Nat) (top : Int) (ps : List Pk) (p : Pk) (t : Bool) (w : World) (hR : IsRef w m room top ps) (hg : headOf ps = (p, t)) :
    Calls Try.prog 50 #[.pointer (some ⟨m, 0, none⟩)] w fun e w' => e = .returned (.tuple #[.agg #[.int .i64 p.num, .int .i64 p.time, .int .i64 p.size, .bool p.el, .bool p.fl, .bool p.ect], .bool t]) ∧ Below w.heap.size w w' := by
  cases ps with
  | nil => cases hg; exact roldest_none m room top w hR
  | cons q ps => cases hg; exact roldest_is m room top _ ps w hR
end Go.Proofs.Ytcigkggdcogokaa
