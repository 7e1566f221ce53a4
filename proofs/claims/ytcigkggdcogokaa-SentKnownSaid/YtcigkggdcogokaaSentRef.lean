/-
  The document's log (sounderref06): contracts of its functions.
-/
import Derived.Test.YtcigkggdcogokaaSentParts
import Derived.Handy
namespace Go.Proofs.Ytcigkggdcogokaa
open Go.RowKit

/-- The document's log: block m, its room, the last number, its packets. -/
def IsRef (w : World) (m room : Nat) (top : Int) (ps : List Pk) : Prop :=
  room ≤ 256 ∧ ps.length ≤ room ∧ ∃ v, Blk w m 73 #[.int .i64 room, .int .i64 top, v] ∧ PkRow w v ps
theorem blk_type_ne {w : World} {g t t' : Nat} {cs cs' : Array Value} (h : Blk w g t cs) (h' : Blk w g t' cs') : t = t' := by
  unfold Blk at h h'
  rw [h] at h'
  injection h' with h'
  injection h'
theorem PkRow.reads {w : World} {a : Option Addr} {n c : Nat} {ps : List Pk} (h : PkRow w (.slice a n c) ps) : Reads w w.heap.size 6 a ps.length (ps.flatMap Pk.cells) := by
  rcases h with ⟨_, rfl⟩ | ⟨g, cap, rest, hv, hb⟩
  · exact Reads.none_
  · injection hv with hv
    subst hv
    have hfl := flat_length Pk.cells 6 pkCells_length ps
    exact ⟨hfl, fun _ => ⟨_, rfl, hb.lt, fun j u hu => by
      rw [add_at, hb.cell, List.getElem?_toArray, List.getElem?_append_left (List.getElem?_eq_some_iff.1 hu).1]; exact hu⟩⟩
theorem PkRow.far {w w' : World} {S : List Nat} {v : Value} {ps : List Pk} (h : PkRow w v ps) (ho : Only S w w') (hS : ∀ x ∈ S, ∃ t cs, Blk w x t cs ∧ t ≠ 30) : PkRow w' v ps := by
  rcases h with h | ⟨g, cap, rest, hv, hb⟩
  · exact .inl h
  · exact .inr ⟨g, cap, rest, hv, ho.blk hb (fun hm => by obtain ⟨t, cs, h1, h2⟩ := hS g hm; exact h2 (blk_type_ne h1 hb))⟩
theorem IsRef.only {S : List Nat} {w w' : World} {m room : Nat} {top : Int} {ps : List Pk} (h : IsRef w m room top ps) (ho : Only S w w') (hS : ∀ x ∈ S, ∃ t cs, Blk w x t cs ∧ t ≠ 30 ∧ t ≠ 73) : IsRef w' m room top ps := by
  obtain ⟨h1, h2, v, hB, hv⟩ := h
  exact ⟨h1, h2, v, ho.blk hB (fun hm => by obtain ⟨t, cs, k1, _, k2⟩ := hS m hm; exact k2 (blk_type_ne k1 hB)), hv.far ho (fun x hx => by obtain ⟨t, cs, k1, k2, _⟩ := hS x hx; exact ⟨t, cs, k1, k2⟩)⟩
theorem IsRef.below {w w' : World} {m room : Nat} {top : Int} {ps : List Pk} (h : IsRef w m room top ps) (ho : Below w.heap.size w w') : IsRef w' m room top ps := h.only (S := []) (only_of_below ho) (by simp)
theorem IsRef.alloc {w : World} {m room : Nat} {top : Int} {ps : List Pk} (h : IsRef w m room top ps) (o : Obj) : IsRef (w.alloc o) m room top ps := h.below ((Below.refl _ _).alloc (Nat.le_refl _) o)
theorem IsRef.drewN {w : World} {m room : Nat} {top : Int} {ps : List Pk} (h : IsRef w m room top ps) (n : Nat) : IsRef (w.drewN n) m room top ps := h
theorem IsRef.lt {w : World} {m room : Nat} {top : Int} {ps : List Pk} (h : IsRef w m room top ps) : m < w.heap.size := by obtain ⟨_, _, _, hB, _⟩ := h; exact hB.lt
theorem IsRef.blk {w : World} {m room : Nat} {top : Int} {ps : List Pk} (h : IsRef w m room top ps) : ∃ cs, Blk w m 73 cs := by obtain ⟨_, _, _, hB, _⟩ := h; exact ⟨_, hB⟩

/-- What Get answers. -/
def getOf (n : Int) (ps : List Pk) : Pk × Bool := match ps.find? (fun p => p.num == n) with
  | some p => (p, true)
  | none => (Pk.zero, false)
theorem getOf_cons (n : Int) (p : Pk) (ps : List Pk) : getOf n (p :: ps) = if p.num = n then (p, true) else getOf n ps := by
  unfold getOf
  rw [List.find?_cons]
  by_cases h : p.num = n
  · have : (p.num == n) = true := by simpa using h
    rw [this, if_pos h]
  · have : (p.num == n) = false := by simpa using h
    rw [this, if_neg h]
theorem drop_cons {α : Type} {l : List α} {k : Nat} {x : α} (h : l[k]? = some x) : l.drop k = x :: l.drop (k + 1) := by
  obtain ⟨hl, he⟩ := List.getElem?_eq_some_iff.1 h
  rw [List.drop_eq_getElem_cons hl, he]

set_option maxHeartbeats 1000000 in
theorem rget_any (m room : Nat) (top n : Int) (ps : List Pk) (p : Pk) (b : Bool) (w : World) (hR : IsRef w m room top ps) (hg : getOf n ps = (p, b)) :
    Calls Try.prog 48 #[.pointer (some ⟨m, 0, none⟩), .int .i64 n] w fun e w' => e = .returned (.tuple #[.agg #[.int .i64 p.num, .int .i64 p.time, .int .i64 p.size, .bool p.el, .bool p.fl, .bool p.ect], .bool b]) ∧ Below w.heap.size w w' := by
  obtain ⟨hr, hl, v, hB, hv⟩ := hR
  obtain ⟨a, c, rfl⟩ := hv.slice
  have hm := hB.lt
  have c2 : w.cell? ⟨m, 2, none⟩ = some (.slice a ps.length c) := hB.cell 2
  obtain ⟨N, hN⟩ : ∃ N, ps.length = N := ⟨_, rfl⟩
  rw [hN] at hv c2 hl
  have HV := hide hv
  have HN := hide hN
  have HG := hide hg
  clear hv hN hg
  go_enter Try.func48, Try.ntmps48
  go_wp2
  go_loop [6] (fun s6 => ∃ k : Nat, s6 = .int .i64 k ∧ k ≤ N ∧ getOf n (ps.drop k) = (p, b)) (fun i => N - (intOf i).toNat)
  case atStart => exact ⟨0, rfl, Nat.zero_le _, HG.out⟩
  case round =>
    obtain ⟨k, rfl, hk, hg⟩ := hrel
    by_cases hlt : k < N
    · have hkp : k < ps.length := by rw [HN.out]; exact hlt
      obtain ⟨g, rfl, x, hx, a0, a1, a2, a3, a4, a5⟩ := HV.out.at_ hkp
      have hgl : g < w.heap.size := by
        rcases HV.out with ⟨h0, _⟩ | ⟨g', _, _, h0, h1⟩
        · cases h0
        · cases h0; exact h1.lt
      rw [drop_cons hx, getOf_cons] at hg
      by_cases he : x.num = n
      · rw [if_pos he] at hg
        cases hg
        have HE := hide he
        have HX := hide hx
        have hbe : (p.num == n) = true := by simpa using he
        clear he hx
        go_wp2
        refine bodyPost_ret (v := .tuple #[.agg #[.int .i64 p.num, .int .i64 p.time, .int .i64 p.size, .bool p.el, .bool p.fl, .bool p.ect], .bool true]) (by simp [results, Try.results48, go_sem]) rfl ⟨rfl, ?_⟩
        go_grown
      · rw [if_neg he] at hg
        have HG2 := hide hg
        have HX := hide hx
        have hbe : (x.num == n) = false := by simpa using he
        clear he hx hg
        go_wp2
        go_round
        case rel => exact ⟨k + 1, by go_num, by omega, HG2.out⟩
        case measure => simp [intOf]; omega
    · obtain rfl : k = N := by omega
      rw [List.drop_eq_nil_of_le (by rw [HN.out]; exact Nat.le_refl _)] at hg
      cases hg
      clear hlt
      go_wp2
      refine bodyPost_ret (v := .tuple #[.agg #[.int .i64 0, .int .i64 0, .int .i64 0, .bool false, .bool false, .bool false], .bool false]) (by simp [results, Try.results48, go_sem]) rfl ⟨rfl, ?_⟩
      go_grown
end Go.Proofs.Ytcigkggdcogokaa
