/-
 2 texts in one (SentRef, SentRef2).
-/
import Derived.Test.YtgicljeedegncaaGreatSqSentParts
import Derived.Handy
namespace Go.Proofs.YtgicljeedegncaaGreat
open List renaming getElem?_toArray → ZG
open Go.Value renaming int → ZI
open Go.IntKind renaming i64 → ZQ
open Go.RowKit

/-- The document's log: block m, its room, the last number, its packets. -/
def IsRef (w : World) (m room : Nat) (top : Int) (ps : List Pk) : Prop :=
 room ≤ 256 ∧ ps.length ≤ room ∧ ∃ v, Blk w m 115 #[ZI ZQ room, ZI ZQ top, v] ∧ PkRow w v ps
theorem blk_type_ne {w : World} {g t t' : Nat} {cs cs' : Array Value} (h : Blk w g t cs) (h' : Blk w g t' cs') : t = t' := by
 unfold Blk at h h'
 rw [h] at h'
 injection h' with h'
 injection h'
theorem PkRow.reads {w : World} {a : Option Addr} {n c : Nat} {ps : List Pk} (h : PkRow w (.slice a n c) ps) : Reads w w.heap.size 6 a ps.length (ps.flatMap Pk.cells) := by
 rcases h with ⟨_, rfl⟩ | ⟨g, cap, rest, hv, hb⟩
 ·exact Reads.none_
 ·injection hv with hv
  subst hv
  have hfl := flat_length Pk.cells 6 pkCells_length ps
  exact ⟨hfl, fun _ => ⟨_, rfl, hb.lt, fun j u hu => by
   rw [add_at, hb.cell, ZG, List.getElem?_append_left (List.getElem?_eq_some_iff.1 hu).1]; exact hu⟩⟩
theorem PkRow.far {w w' : World} {S : List Nat} {v : Value} {ps : List Pk} (h : PkRow w v ps) (ho : Only S w w') (hS : ∀ x ∈ S, ∃ t cs, Blk w x t cs ∧ t ≠ 40) : PkRow w' v ps := by
 rcases h with h | ⟨g, cap, rest, hv, hb⟩
 ·exact .inl h
 ·exact .inr ⟨g, cap, rest, hv, ho.blk hb (fun hm => by obtain ⟨t, cs, h1, h2⟩ := hS g hm; exact h2 (blk_type_ne h1 hb))⟩
theorem IsRef.only {S : List Nat} {w w' : World} {m room : Nat} {top : Int} {ps : List Pk} (h : IsRef w m room top ps) (ho : Only S w w') (hS : ∀ x ∈ S, ∃ t cs, Blk w x t cs ∧ t ≠ 40 ∧ t ≠ 115) : IsRef w' m room top ps := by
 obtain ⟨h1, h2, v, hB, hv⟩ := h
 exact ⟨h1, h2, v, ho.blk hB (fun hm => by obtain ⟨t, cs, k1, _, k2⟩ := hS m hm; exact k2 (blk_type_ne k1 hB)), hv.far ho (fun x hx => by obtain ⟨t, cs, k1, k2, _⟩ := hS x hx; exact ⟨t, cs, k1, k2⟩)⟩
theorem IsRef.below {w w' : World} {m room : Nat} {top : Int} {ps : List Pk} (h : IsRef w m room top ps) (ho : Below w.heap.size w w') : IsRef w' m room top ps := h.only (S := []) (only_of_below ho) (by simp)
theorem IsRef.alloc {w : World} {m room : Nat} {top : Int} {ps : List Pk} (h : IsRef w m room top ps) (o : Obj) : IsRef (w.alloc o) m room top ps := h.below ((Below.refl _ _).alloc (Nat.le_refl _) o)
theorem IsRef.drewN {w : World} {m room : Nat} {top : Int} {ps : List Pk} (h : IsRef w m room top ps) (n : Nat) : IsRef (w.drewN n) m room top ps := h
theorem IsRef.lt {w : World} {m room : Nat} {top : Int} {ps : List Pk} (h : IsRef w m room top ps) : m < w.heap.size := by obtain ⟨_, _, _, hB, _⟩ := h; exact hB.lt
theorem IsRef.blk {w : World} {m room : Nat} {top : Int} {ps : List Pk} (h : IsRef w m room top ps) : ∃ cs, Blk w m 115 cs := by obtain ⟨_, _, _, hB, _⟩ := h; exact ⟨_, hB⟩

/-- What Get answers. -/
def getOf (n : Int) (ps : List Pk) : Pk × Bool := match ps.find? (fun p => p.num == n) with
 | some p => (p, true)
 | none => (Pk.zero, false)
theorem getOf_cons (n : Int) (p : Pk) (ps : List Pk) : getOf n (p :: ps) = if p.num = n then (p, true) else getOf n ps := by
 unfold getOf
 rw [List.find?_cons]
 by_cases h : p.num = n
 ·have : (p.num == n) = true := by simpa using h
  rw [this, if_pos h]
 ·have : (p.num == n) = false := by simpa using h
  rw [this, if_neg h]
theorem drop_cons {α : Type} {l : List α} {k : Nat} {x : α} (h : l[k]? = some x) : l.drop k = x :: l.drop (k + 1) := by
 obtain ⟨hl, he⟩ := List.getElem?_eq_some_iff.1 h
 rw [List.drop_eq_getElem_cons hl, he]

set_option maxHeartbeats 1000000 in
theorem rget_any (m room : Nat) (top n : Int) (ps : List Pk) (p : Pk) (b : Bool) (w : World) (hR : IsRef w m room top ps) (hg : getOf n ps = (p, b)) :
  Calls Tryz.prog 126 #[.pointer (some ⟨m, 0, none⟩), ZI ZQ n] w fun e w' => e = .returned (.tuple #[.agg #[ZI ZQ p.num, ZI ZQ p.time, ZI ZQ p.size, .bool p.el, .bool p.fl, .bool p.ect], .bool b]) ∧ Below w.heap.size w w' := by
 obtain ⟨hr, hl, v, hB, hv⟩ := hR
 obtain ⟨a, c, rfl⟩ := hv.slice
 have hm := hB.lt
 have c2 : w.cell? ⟨m, 2, none⟩ = some (.slice a ps.length c) := hB.cell 2
 obtain ⟨N, hN⟩ : ∃ N, ps.length = N := ⟨_, rfl⟩
 rw [hN] at hv c2 hl
 have HV := hide hv
 have HN := hide hN
 have HG := hide hg
 clear hv hN hg
 go_enter Tryz.func126, Tryz.ntmps126
 go_wp2
 go_loop [6] (fun s6 => ∃ k : Nat, s6 = ZI ZQ k ∧ k ≤ N ∧ getOf n (ps.drop k) = (p, b)) (fun i => N - (intOf i).toNat)
 case atStart => exact ⟨0, rfl, Nat.zero_le _, HG.out⟩
 case round =>
  obtain ⟨k, rfl, hk, hg⟩ := hrel
  by_cases hlt : k < N
  ·have hkp : k < ps.length := by rw [HN.out]; exact hlt
   obtain ⟨g, rfl, x, hx, a0, a1, a2, a3, a4, a5⟩ := HV.out.at_ hkp
   have hgl : g < w.heap.size := by
    rcases HV.out with ⟨h0, _⟩ | ⟨g', _, _, h0, h1⟩
    ·cases h0
    ·cases h0; exact h1.lt
   rw [drop_cons hx, getOf_cons] at hg
   by_cases he : x.num = n
   ·rw [if_pos he] at hg
    cases hg
    have HE := hide he
    have HX := hide hx
    have hbe : (p.num == n) = true := by simpa using he
    clear he hx
    go_wp2
    refine bodyPost_ret (v := .tuple #[.agg #[ZI ZQ p.num, ZI ZQ p.time, ZI ZQ p.size, .bool p.el, .bool p.fl, .bool p.ect], .bool true]) (by simp [results, Tryz.results126, go_sem]) rfl ⟨rfl, ?_⟩
    go_grown
   ·rw [if_neg he] at hg
    have HG2 := hide hg
    have HX := hide hx
    have hbe : (x.num == n) = false := by simpa using he
    clear he hx hg
    go_wp2
    go_round
    case rel => exact ⟨k + 1, by go_num, by omega, HG2.out⟩
    case measure => simp [intOf]; omega
  ·obtain rfl : k = N := by omega
   rw [List.drop_eq_nil_of_le (by rw [HN.out]; exact Nat.le_refl _)] at hg
   cases hg
   clear hlt
   go_wp2
   refine bodyPost_ret (v := .tuple #[.agg #[ZI ZQ 0, ZI ZQ 0, ZI ZQ 0, .bool false, .bool false, .bool false], .bool false]) (by simp [results, Tryz.results126, go_sem]) rfl ⟨rfl, ?_⟩
   go_grown
end Go.Proofs.YtgicljeedegncaaGreat

namespace Go.Proofs.YtgicljeedegncaaGreat
open List renaming getElem?_toArray → ZG
open Go.Value renaming int → ZI
open Go.IntKind renaming i64 → ZQ
open Go.RowKit

/-- What New leaves. -/
def RNewPost (w : World) (room : Nat) (e : Ending) (w' : World) : Prop :=
 ∃ m, e = .returned (.tuple #[.pointer (some ⟨m, 0, none⟩), ZI ZQ 0]) ∧ IsRef w' m room (-1) [] ∧ w.heap.size ≤ m ∧ Below w.heap.size w w'
set_option maxHeartbeats 1000000 in
theorem rnew_ok (room : Nat) (w : World) (h1 : 1 ≤ room) (h2 : room ≤ 256) : Calls Tryz.prog 70 #[ZI ZQ room] w (RNewPost w room) := by
 go_enter Tryz.func70, Tryz.ntmps70
 go_wp2
 go_ret2
 exact ⟨w.heap.size, rfl, ⟨h2, by simp, _, Blk.new _ _ _, .inl ⟨rfl, rfl⟩⟩, Nat.le_refl _, (Below.refl _ _).alloc (Nat.le_refl _) _⟩
set_option maxHeartbeats 1000000 in
theorem rnew_no (room : Int) (w : World) (h : room < 1 ∨ 256 < room) :
  Calls Tryz.prog 70 #[ZI ZQ room] w fun e w' => e = .returned (.tuple #[.pointer none, ZI ZQ 2]) ∧ w = w' := by
 by_cases h1 : room < 1
 ·go_enter Tryz.func70, Tryz.ntmps70
  go_wp2
  go_ret2
  exact ⟨rfl, rfl⟩
 ·have h2 : 256 < room := by omega
  have h3 : 1 ≤ room := by omega
  clear h
  go_enter Tryz.func70, Tryz.ntmps70
  go_wp2
  go_ret2
  exact ⟨rfl, rfl⟩

set_option maxHeartbeats 1000000 in
theorem rmay_yes (n t s : Int) (e f c : Bool) (w : World) (h : (Pk.mk n t s e f c).may) :
  Calls Tryz.prog 122 #[.agg #[ZI ZQ n, ZI ZQ t, ZI ZQ s, .bool e, .bool f, .bool c]] w fun e' w' => e' = .returned (.bool true) ∧ Below w.heap.size w w' := by
 obtain ⟨h1, h2, h3, h4, h5, h6⟩ := h
 simp only at h1 h2 h3 h4 h5 h6
 go_enter Tryz.func122, Tryz.ntmps122
 go_wp2
 go_ret
 exact ⟨rfl, (Below.refl _ _).alloc (Nat.le_refl _) _⟩
set_option maxHeartbeats 4000000 in
theorem rmay_no (n t s : Int) (e f c : Bool) (w : World) (h : ¬ (Pk.mk n t s e f c).may) :
  Calls Tryz.prog 122 #[.agg #[ZI ZQ n, ZI ZQ t, ZI ZQ s, .bool e, .bool f, .bool c]] w fun e' w' => e' = .returned (.bool false) ∧ Below w.heap.size w w' := by
 have H := hide h
 clear h
 by_cases h1 : 0 ≤ n
 ·by_cases h2 : n ≤ 9007199254740991
  ·by_cases h3 : 0 ≤ t
   ·by_cases h4 : t ≤ 9007199254740991
    ·by_cases h5 : 1 ≤ s
     ·have h6 : ¬ s ≤ 65535 := fun h6 => H.out ⟨h1, h2, h3, h4, h5, h6⟩
      go_enter Tryz.func122, Tryz.ntmps122
      go_wp2
      go_ret
      exact ⟨rfl, (Below.refl _ _).alloc (Nat.le_refl _) _⟩
     ·go_enter Tryz.func122, Tryz.ntmps122
      go_wp2
      go_ret
      exact ⟨rfl, (Below.refl _ _).alloc (Nat.le_refl _) _⟩
    ·go_enter Tryz.func122, Tryz.ntmps122
     go_wp2
     go_ret
     exact ⟨rfl, (Below.refl _ _).alloc (Nat.le_refl _) _⟩
   ·go_enter Tryz.func122, Tryz.ntmps122
    go_wp2
    go_ret
    exact ⟨rfl, (Below.refl _ _).alloc (Nat.le_refl _) _⟩
  ·go_enter Tryz.func122, Tryz.ntmps122
   go_wp2
   go_ret
   exact ⟨rfl, (Below.refl _ _).alloc (Nat.le_refl _) _⟩
 ·go_enter Tryz.func122, Tryz.ntmps122
  go_wp2
  go_ret
  exact ⟨rfl, (Below.refl _ _).alloc (Nat.le_refl _) _⟩

set_option maxHeartbeats 1000000 in
theorem rall_any (m room : Nat) (top : Int) (ps : List Pk) (w : World) (hR : IsRef w m room top ps) :
  Calls Tryz.prog 80 #[.pointer (some ⟨m, 0, none⟩)] w (PksPost w ps) := by
 obtain ⟨hr, hl, v, hB, hv⟩ := hR
 obtain ⟨a, c, rfl⟩ := hv.slice
 have hm := hB.lt
 have c2 : w.cell? ⟨m, 2, none⟩ = some (.slice a ps.length c) := hB.cell 2
 obtain ⟨i0, hi, hz0, hz1, hz2⟩ := info_parts pk_info
 go_enter Tryz.func80, Tryz.ntmps80
 go_wp2_with (at_builtin; refine wpList_append_any _ rfl (.tmp 4) (.tmp 8) _ rfl w.heap.size 40 i0 _ 6 32 Tryz.underlying37 hi hz0 hz1 hz2 rfl (by decide) (.slice none 0 0) 0 [] rfl (by exact ⟨by simp, .inl ⟨rfl, rfl⟩⟩) w.heap.size a ps.length c (ps.flatMap Pk.cells) rfl (by exact hv.reads) pk_one (by unfold maxLen; omega) (by omega) (Nat.le_refl _) ?_; intro v' w1 hown1 hg1 hat1)
 go_ret
 rw [Nat.zero_add, List.nil_append] at hown1
 exact ⟨v', rfl, hown1, Below.grown (Below.refl _ _) hg1 (Nat.le_refl _) (fun k hk => by simp [Value.ownBlock] at hk)⟩

theorem own_push {w : World} {base : Nat} {v : Value} {ps : List Pk} {p : Pk} (h : w.ownsRow base 40 6 v (ps.length + 1) (ps.flatMap Pk.cells ++ p.cells)) : w.ownsRow base 40 6 v (ps ++ [p]).length ((ps ++ [p]).flatMap Pk.cells) := by
 have e1 : (ps ++ [p]).length = ps.length + 1 := by simp
 have e2 : (ps ++ [p]).flatMap Pk.cells = ps.flatMap Pk.cells ++ p.cells := by simp
 rw [e1, e2]
 exact h
/-- What Put leaves where it takes the packet. -/
def RPutPost (w : World) (m room : Nat) (p : Pk) (ps : List Pk) (e : Ending) (w' : World) : Prop :=
 e = .returned (ZI ZQ 0) ∧ IsRef w' m room p.num (ps ++ [p]) ∧ Only [m] w w'

set_option maxHeartbeats 2000000 in
theorem rput_no (m room : Nat) (top n t s : Int) (e f c : Bool) (ps : List Pk) (w : World) (_ : IsRef w m room top ps) (h : ¬ (Pk.mk n t s e f c).may) :
  Calls Tryz.prog 74 #[.pointer (some ⟨m, 0, none⟩), .agg #[ZI ZQ n, ZI ZQ t, ZI ZQ s, .bool e, .bool f, .bool c]] w fun e' w' => e' = .returned (ZI ZQ 2) ∧ Below w.heap.size w w' := by
 have HN := hide h
 clear h
 go_enter Tryz.func74, Tryz.ntmps74
 go_wp2_with (go_at_call 122; refine (rmay_no _ _ _ _ _ _ _ HN.out).mono ?_; rintro e1 w1 ⟨rfl, hb1⟩)
 go_ret
 exact ⟨rfl, ((Below.refl _ _).alloc (Nat.le_refl _) _).trans (hb1.mono (by simp))⟩

set_option maxHeartbeats 2000000 in
theorem rput_low (m room : Nat) (top n t s : Int) (e f c : Bool) (ps : List Pk) (w : World) (hR : IsRef w m room top ps) (h : (Pk.mk n t s e f c).may) (hn : n ≤ top) :
  Calls Tryz.prog 74 #[.pointer (some ⟨m, 0, none⟩), .agg #[ZI ZQ n, ZI ZQ t, ZI ZQ s, .bool e, .bool f, .bool c]] w fun e' w' => e' = .returned (ZI ZQ 60) ∧ Below w.heap.size w w' := by
 obtain ⟨hr, hl, v, hB, hv⟩ := hR
 have hm := hB.lt
 have c1 : w.cell? ⟨m, 1, none⟩ = some (ZI ZQ top) := hB.cell 1
 have HN := hide h
 clear h
 go_enter Tryz.func74, Tryz.ntmps74
 go_wp2_with (go_at_call 122; refine (rmay_yes _ _ _ _ _ _ _ HN.out).mono ?_; rintro e1 w1 ⟨rfl, hb1⟩; obtain ⟨hc1, hf1⟩ := bcell hb1)
 go_quiet (fail)
 go_wp2
 go_ret
 exact ⟨rfl, below_drewN (((Below.refl _ _).alloc (Nat.le_refl _) _).trans (hb1.mono (by simp))) _⟩

set_option maxHeartbeats 2000000 in
theorem rput_full (m room : Nat) (top n t s : Int) (e f c : Bool) (ps : List Pk) (w : World) (hR : IsRef w m room top ps) (h : (Pk.mk n t s e f c).may) (hn : top < n) (hfull : ps.length = room) :
  Calls Tryz.prog 74 #[.pointer (some ⟨m, 0, none⟩), .agg #[ZI ZQ n, ZI ZQ t, ZI ZQ s, .bool e, .bool f, .bool c]] w fun e' w' => e' = .returned (ZI ZQ 5) ∧ Below w.heap.size w w' := by
 obtain ⟨hr, hl, v, hB, hv⟩ := hR
 obtain ⟨a, c', rfl⟩ := hv.slice
 have hm := hB.lt
 have c0 : w.cell? ⟨m, 0, none⟩ = some (ZI ZQ room) := hB.cell 0
 have c1 : w.cell? ⟨m, 1, none⟩ = some (ZI ZQ top) := hB.cell 1
 have c2 : w.cell? ⟨m, 2, none⟩ = some (.slice a ps.length c') := hB.cell 2
 rw [hfull] at c2
 have HN := hide h
 have HF := hide hfull
 clear h hfull
 go_enter Tryz.func74, Tryz.ntmps74
 go_wp2_with (go_at_call 122; refine (rmay_yes _ _ _ _ _ _ _ HN.out).mono ?_; rintro e1 w1 ⟨rfl, hb1⟩; obtain ⟨hc1, hf1⟩ := bcell hb1)
 go_quiet (fail)
 go_wp2
 go_quiet (fail)
 go_wp2
 go_ret
 exact ⟨rfl, below_drewN (below_drewN (((Below.refl _ _).alloc (Nat.le_refl _) _).trans (hb1.mono (by simp))) _) _⟩

set_option maxRecDepth 100000 in
set_option maxHeartbeats 4000000 in
theorem rput_ok (m room : Nat) (top n t s : Int) (e f c : Bool) (ps : List Pk) (w : World) (hR : IsRef w m room top ps) (h : (Pk.mk n t s e f c).may) (hn : top < n) (hfull : ps.length < room) :
  Calls Tryz.prog 74 #[.pointer (some ⟨m, 0, none⟩), .agg #[ZI ZQ n, ZI ZQ t, ZI ZQ s, .bool e, .bool f, .bool c]] w (RPutPost w m room (Pk.mk n t s e f c) ps) := by
 have hR0 := hR
 obtain ⟨hr, hl, v, hB, hv⟩ := hR
 obtain ⟨a, c', rfl⟩ := hv.slice
 obtain ⟨i0, hi, hz0, hz1, hz2⟩ := info_parts pk_info
 have hm := hB.lt
 have hfb := hB.frozen
 have c0 : w.cell? ⟨m, 0, none⟩ = some (ZI ZQ room) := hB.cell 0
 have c1 : w.cell? ⟨m, 1, none⟩ = some (ZI ZQ top) := hB.cell 1
 have c2 : w.cell? ⟨m, 2, none⟩ = some (.slice a ps.length c') := hB.cell 2
 have e5 : ((ps.length : Int) == (room : Int)) = false := by rw [beq_eq_false_iff_ne]; omega
 have HN := hide h
 clear h
 go_enter Tryz.func74, Tryz.ntmps74
 go_wp2_with (go_at_call 122; refine (rmay_yes _ _ _ _ _ _ _ HN.out).mono ?_; rintro e1 w1 ⟨rfl, hb1⟩; have hbx := (only_of_below hb1 (S := [])).blk (Blk.new w _ _) (by simp); have hs1 := hb1.size; have hb2 := ((Below.refl w.heap.size w).alloc (Nat.le_refl _) (.cells #[ZI ZQ n, ZI ZQ t, ZI ZQ s, .bool e, .bool f, .bool c] 40)).trans (hb1.mono (by simp)); obtain ⟨hc1, hf1⟩ := bcell hb1)
 go_quiet (fail)
 go_wp2
 go_quiet (fail)
 go_wp2
 simp only [World.size_alloc] at hs1
 obtain ⟨X, hX⟩ : ∃ X, w.heap.size = X := ⟨_, rfl⟩
 rw [hX] at hbx hs1 ⊢
 have hXm : X ≠ m := by omega
 have hO1 := ((Only.refl [m] w).alloc (.cells #[ZI ZQ n, ZI ZQ t, ZI ZQ s, .bool e, .bool f, .bool c] 40)).trans (only_of_below hb1 (S := [])) (by simp)
 have hB1 := (only_of_below hb1 (S := [])).blk (hB.alloc _) (by simp)
 have hv1 := (hv.below ((Below.refl _ _).alloc (Nat.le_refl _) (.cells #[ZI ZQ n, ZI ZQ t, ZI ZQ s, .bool e, .bool f, .bool c] 40))).below hb1
 refine name_world (fun W => Blk W m 115 #[ZI ZQ room, ZI ZQ n, .slice a ps.length c'] ∧ PkRow W (.slice a ps.length c') ps ∧ Blk W X 40 #[ZI ZQ n, ZI ZQ t, ZI ZQ s, .bool e, .bool f, .bool c] ∧ Only [m] w W)
  ⟨((hB1.drewN _).set 1 _).eq (by simp), hv1.far (S := [m]) (((Only.refl _ _).drewN _).setCell (.inl (by simp)) _) (fun x hx => by simp at hx; subst hx; exact ⟨_, _, hB1, by decide⟩), (hbx.drewN _).far hXm _, (hO1.drewN _).setCell (.inl (by simp)) _⟩ ?_
 clear hB hv hB1 hv1 hbx hO1 hb1 hb2 hc1 hf1 hR0
 rintro W ⟨hB, hv, hbx, hO⟩
 have hXl := hbx.lt
 have hmW := hB.lt
 have x0 : W.cell? ⟨X, 0, none⟩ = some (ZI ZQ n) := hbx.cell 0
 have x1 : W.cell? ⟨X, 1, none⟩ = some (ZI ZQ t) := hbx.cell 1
 have x2 : W.cell? ⟨X, 2, none⟩ = some (ZI ZQ s) := hbx.cell 2
 have x3 : W.cell? ⟨X, 3, none⟩ = some (.bool e) := hbx.cell 3
 have x4 : W.cell? ⟨X, 4, none⟩ = some (.bool f) := hbx.cell 4
 have x5 : W.cell? ⟨X, 5, none⟩ = some (.bool c) := hbx.cell 5
 have hRW : IsRef W m room n ps := ⟨hr, hl, _, hB, hv⟩
 have hHX := hide hX
 clear hX
 go_region_law (first
  | (refine step_append_any _ rfl (.tmp 32) (.tmp 34) _ rfl W.heap.size 40 i0 _ 6 32 Tryz.underlying37 hi hz0 hz1 hz2 rfl (by decide) (.slice a3 ps.length c3) ps.length (ps.flatMap Pk.cells) rfl (by exact hv3.alloc _) (w3.heap.size + 1) (some ⟨w3.heap.size, 0, none⟩) 1 1 (Pk.mk n t s e f c).cells rfl (by exact reads_lit (blk_new_at (by simp)) (by simp) rfl) (by simp [Pk.cells, Value.oneCell']) (by unfold maxLen; omega) (by omega) (by simp; omega) ?_; intro v5 w5 hown5 hg5 hat5; obtain ⟨g5, c5, rfl⟩ := own_form hown5; have hB5 := blk_grown (by exact hB3.alloc _) hg5 (own_ne hv3 hB3 (by decide)); have y2 : w5.cell? ⟨m, 2, none⟩ = some (.slice a ps.length c') := hB5.cell 2; have yf := hB5.frozen; have yl := hB5.lt; have hO5 := (((hO.drew).trans (only_of_below hb3 (S := [])) (by simp)).alloc _).grown hg5 (fun k hk => .inr (Nat.le_trans hO.size (hv3.lt k hk).1)))
  | (refine step_append_any _ rfl (.tmp 32) (.tmp 34) _ rfl _ 40 i0 _ 6 32 Tryz.underlying37 hi hz0 hz1 hz2 rfl (by decide) (.slice a3 ps.length c3) ps.length (ps.flatMap Pk.cells) rfl hv3 w3.heap.size (some ⟨W.heap.size, 0, none⟩) 1 1 (Pk.mk n t s e f c).cells rfl (by exact reads_lit hsrc hsrc.lt rfl) (by simp [Pk.cells, Value.oneCell']) (by unfold maxLen; omega) (by omega) hb3.size ?_; intro v5 w5 hown5 hg5 hat5; obtain ⟨g5, c5, rfl⟩ := own_form hown5; have hB5 := blk_grown (by exact hB3) hg5 (own_ne hv3 hB3 (by decide)); have y2 : w5.cell? ⟨m, 2, none⟩ = some (.slice a ps.length c') := hB5.cell 2; have yf := hB5.frozen; have yl := hB5.lt; have hO5 := (((hO.alloc _).drew).trans (only_of_below hb3 (S := [])) (by simp)).grown hg5 (fun k hk => .inr (Nat.le_trans (hO.alloc _).size (hv3.lt k hk).1)))
  | (go_simp; go_at_call 80; refine (rall_any m room n ps _ ?_).mono ?_; (first | exact hRW.drewN 1 | exact (hRW.alloc _).drewN 1); rintro e3 w3 ⟨v3, rfl, hv3, hb3⟩; obtain ⟨a3, c3, rfl⟩ := own_slice hv3; have hs3 := hb3.size; simp at hs3; have hbx3 := (only_of_below hb3 (S := [])).blk (g := X) (t := 40) (by first | exact hbx.drewN 1 | exact (hbx.alloc _).drewN 1) (by simp); have z0 : w3.cell? ⟨X, 0, none⟩ = some (ZI ZQ n) := hbx3.cell 0; have z1 : w3.cell? ⟨X, 1, none⟩ = some (ZI ZQ t) := hbx3.cell 1; have z2 : w3.cell? ⟨X, 2, none⟩ = some (ZI ZQ s) := hbx3.cell 2; have z3 : w3.cell? ⟨X, 3, none⟩ = some (.bool e) := hbx3.cell 3; have z4 : w3.cell? ⟨X, 4, none⟩ = some (.bool f) := hbx3.cell 4; have z5 : w3.cell? ⟨X, 5, none⟩ = some (.bool c) := hbx3.cell 5; have hB3 := (only_of_below hb3 (S := [])).blk (g := m) (t := 115) (by first | exact hB.drewN 1 | exact (hB.alloc _).drewN 1) (by simp); try have hsrc := (only_of_below hb3 (S := [])).blk ((Blk.new W 40 #[ZI ZQ n, ZI ZQ t, ZI ZQ s, .bool e, .bool f, .bool c]).drewN 1) (by simp)))
 all_goals go_wp2
 all_goals go_ret
 all_goals
  exact ⟨rfl, ⟨hr, by simp; omega, .slice (some ⟨g5, 0, none⟩) (ps.length + 1) c5, (hB5.set 2 _).eq (by simp), own_pkrow (own_push (own_far hown5 (own_ne hown5 hB5 (by decide)) _))⟩, hO5.setCell (.inl (by simp)) _⟩
end Go.Proofs.YtgicljeedegncaaGreat
