/-
  The statements of the packets' log: 'equal', of two rows of packets that are the same.
-/
import Derived.Test.YtcigkggdcogokaaSentRoom
namespace Go.Proofs.Ytcigkggdcogokaa
open Go.RowKit

/-- A slice value that reads as packets. -/
def PkRow (w : World) (v : Value) (ps : List Pk) : Prop :=
  (v = .slice none 0 0 ∧ ps = []) ∨ ∃ g cap rest, v = .slice (some ⟨g, 0, none⟩) ps.length cap ∧ Blk w g 30 (ps.flatMap Pk.cells ++ rest).toArray
theorem own_pkrow {w : World} {base : Nat} {v : Value} {ps : List Pk} (h : w.ownsRow base 30 6 v ps.length (ps.flatMap Pk.cells)) : PkRow w v ps := by
  rcases h.2 with ⟨h0, h1⟩ | ⟨g, cap, cur, hv, hg, hh, hc, _, _, ht⟩
  · exact .inl ⟨h0, List.length_eq_zero_iff.1 h1⟩
  · refine .inr ⟨g, cap, cur.toList.drop (ps.length * 6), hv, ?_⟩
    rw [← ht, List.take_append_drop]
    exact hh
theorem PkRow.only {w w' : World} {S : List Nat} {v : Value} {ps : List Pk} (h : PkRow w v ps) (ho : Only S w w') (hn : ∀ g, v.ownBlock = some g → g ∉ S) : PkRow w' v ps := by
  rcases h with h | ⟨g, cap, rest, hv, hb⟩
  · exact .inl h
  · exact .inr ⟨g, cap, rest, hv, ho.blk hb (hn g (by rw [hv]; rfl))⟩
theorem PkRow.below {w w' : World} {v : Value} {ps : List Pk} (h : PkRow w v ps) (ho : Below w.heap.size w w') : PkRow w' v ps := h.only (S := []) (only_of_below ho) (by simp)
theorem PkRow.slice {w : World} {v : Value} {ps : List Pk} (h : PkRow w v ps) : ∃ a c, v = .slice a ps.length c := by
  rcases h with ⟨rfl, rfl⟩ | ⟨g, cap, rest, hv, hb⟩
  · exact ⟨_, _, rfl⟩
  · exact ⟨_, _, hv⟩

theorem PkRow.at_ {w : World} {a : Option Addr} {n c : Nat} {ps : List Pk} (h : PkRow w (.slice a n c) ps) {k : Nat} (hk : k < ps.length) : ∃ g, a = some ⟨g, 0, none⟩ ∧ ∃ p, ps[k]? = some p ∧
    w.cell? ⟨g, k * 6, none⟩ = some (.int .i64 p.num) ∧ w.cell? ⟨g, k * 6 + 1, none⟩ = some (.int .i64 p.time) ∧ w.cell? ⟨g, k * 6 + 2, none⟩ = some (.int .i64 p.size) ∧
    w.cell? ⟨g, k * 6 + 3, none⟩ = some (.bool p.el) ∧ w.cell? ⟨g, k * 6 + 4, none⟩ = some (.bool p.fl) ∧ w.cell? ⟨g, k * 6 + 5, none⟩ = some (.bool p.ect) := by
  rcases h with ⟨_, rfl⟩ | ⟨g, cap, rest, hv, hb⟩
  · simp at hk
  · injection hv with hv
    exact ⟨g, hv, _, List.getElem?_eq_getElem hk, pk_cells hb (List.getElem?_eq_getElem hk)⟩

set_option maxHeartbeats 1000000 in
theorem equal_same (v u : Value) (ps : List Pk) (w : World) (hv : PkRow w v ps) (hu : PkRow w u ps) (hl : ps.length ≤ 1000000) :
    Calls Try.prog 23 #[v, u] w fun e w' => e = .returned (.bool true) ∧ ∃ n, w' = w.drewN n := by
  obtain ⟨va, vc, rfl⟩ := hv.slice
  obtain ⟨ua, uc, rfl⟩ := hu.slice
  obtain ⟨n, hn⟩ : ∃ n, ps.length = n := ⟨_, rfl⟩
  rw [hn] at hv hu hl ⊢
  have HV := hide hv
  have HU := hide hu
  have HN := hide hn
  clear hv hu hn
  go_enter Try.func23, Try.ntmps23
  go_wp2
  go_loopw [5] (fun s5 wr => ∃ k m : Nat, s5 = .int .i64 k ∧ k ≤ n ∧ wr = w.drewN m) (fun i _ => n - (intOf i).toNat)
  case atStart => exact ⟨0, 0, rfl, Nat.zero_le _, rfl⟩
  case round =>
    obtain ⟨k, m, rfl, hk, rfl⟩ := hrel
    by_cases hlt : k < n
    · have hkp : k < ps.length := by rw [HN.out]; exact hlt
      obtain ⟨g, rfl, p, hp, a0, a1, a2, a3, a4, a5⟩ := HV.out.at_ hkp
      obtain ⟨g2, rfl, p2, hp2, b0, b1, b2, b3, b4, b5⟩ := HU.out.at_ hkp
      obtain rfl : p2 = p := by rw [hp] at hp2; exact (Option.some.inj hp2).symm
      have HP := hide hp
      clear hp hp2
      have hki : (k : Int) < (n : Int) := by omega
      go_wp2
      go_quiet (fail)
      go_wp2
      go_roundw
      case rel => exact ⟨k + 1, _, by go_num, by omega, rfl⟩
      case measure => simp [intOf]; omega
    · obtain rfl : k = n := by omega
      go_wp2
      go_ret
      exact ⟨rfl, m, rfl⟩
end Go.Proofs.Ytcigkggdcogokaa
