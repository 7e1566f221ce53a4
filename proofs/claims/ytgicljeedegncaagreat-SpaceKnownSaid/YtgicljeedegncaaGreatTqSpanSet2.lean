/-
 3 texts in one (SpanReplaceA, SpanSet, SpanSet2).
-/
import Derived.Test.YtgicljeedegncaaGreatTqSpanReplace
import Derived.Deep.LoopGhost
import Derived.Handy
namespace Go.Proofs.YtgicljeedegncaaGreat
open List renaming getElem?_toArray → ZG
open Go.Value renaming int → ZI
open Go.IntKind renaming i64 → ZQ
set_option linter.unusedSimpArgs false
set_option linter.unusedVariables false
open Go.RowKit

set_option maxRecDepth 100000 in
set_option maxHeartbeats 400000 in
/-- slices.Replace by one range, wherever. -/
theorem replace_any (base n c xb f t : Nat) (v : Value) (rs : List Rg) (x : Rg) (w : World) (hn : rs.length = n) (hown : w.ownsRow base 93 2 v n (rgsCells rs)) (hx : Blk w xb 93 #[ZI ZQ x.lo, ZI ZQ x.hi]) (hne : v.ownBlock ≠ some xb) (hl : n ≤ 1000) (hb : base ≤ w.heap.size) (hf : f ≤ t) (ht : t ≤ n) :
  Calls Tryz.prog 117 #[v, ZI ZQ f, ZI ZQ t, .slice (some ⟨xb, 0, none⟩) 1 c] w (RgPost w base v (rs.take f ++ x :: rs.drop t)) := by
 rcases Nat.lt_or_ge f t with hlt | hge
 ·rcases own_split hown with ⟨_, h0, _⟩ | ⟨g, cap, cur, rfl, hg, hB, hc, hm, hcl, htk⟩
  ·omega
  ·rcases Nat.lt_or_ge t n with h1 | h1
   ·obtain ⟨d, rfl⟩ : ∃ d, n = t + d := ⟨n - t, by omega⟩
    exact replace_mid base (t + d) c xb f t d g cap cur rs x w hn hg hB hc hm hcl htk hx hl hlt rfl (by omega)
   ·obtain rfl : t = n := by omega
    exact replace_end base t c xb f g cap cur rs x w hn hg hB hc hm hcl htk hx hl hlt
 ·obtain rfl : f = t := by omega
  have HI := hide (insert_any base n c xb f v rs x w hn hown hx hne hl hb ht)
  rcases own_split hown with ⟨rfl, h0, _⟩ | ⟨g, cap, cur, rfl, hg, hB, hc, hm, hcl, htk⟩
  ·have hf0 : (0 : Int) ≤ (f : Int) := by omega
   have hf1 : (f : Int) ≤ 0 := by omega
   clear hn hown h0
   go_enter Tryz.func117, Tryz.ntmps117
   go_wp2_with fail
   refine HI.out.mono ?_
   rintro e w1 ⟨v1, rfl, h1, h2, h3⟩
   go_wp2_with fail
   go_ret
   exact ⟨v1, rfl, h1, h2, h3⟩
  ·unfold maxLen at hm
   have hf0 : (0 : Int) ≤ (f : Int) := by omega
   have hf1 : (f : Int) ≤ (n : Int) := by omega
   clear hn hown hB hcl htk
   rcases Nat.lt_or_ge f cap with hfc | hfc
   ·have hcf : ¬ (cap = f) := by omega
    go_enter Tryz.func117, Tryz.ntmps117
    go_wp2_with fail
    refine HI.out.mono ?_
    rintro e w1 ⟨v1, rfl, h1, h2, h3⟩
    go_wp2_with fail
    go_ret
    exact ⟨v1, rfl, h1, h2, h3⟩
   ·obtain rfl : cap = f := by omega
    go_enter Tryz.func117, Tryz.ntmps117
    go_wp2_with fail
    refine HI.out.mono ?_
    rintro e w1 ⟨v1, rfl, h1, h2, h3⟩
    go_wp2_with fail
    go_ret
    exact ⟨v1, rfl, h1, h2, h3⟩
end Go.Proofs.YtgicljeedegncaaGreat

namespace Go.Proofs.YtgicljeedegncaaGreat
open List renaming getElem?_toArray → ZG
open Go.Value renaming int → ZI
open Go.IntKind renaming i64 → ZQ
set_option linter.unusedSimpArgs false
set_option linter.unusedVariables false
open Go.RowKit

/-- A set: its block b, the block g of its row. -/
def IsSet (w : World) (b : Nat) (g : Option Nat) (room : Nat) (rs : List Rg) : Prop :=
 1 ≤ room ∧ room ≤ 256 ∧ rs.length ≤ room ∧ GoodR rs ∧ ∃ v, v.ownBlock = g ∧ Blk w b 121 #[ZI ZQ room, v] ∧ w.ownsRow 0 93 2 v rs.length (rgsCells rs)
theorem own_only2 {w w' : World} {S : List Nat} {base e size n : Nat} {v : Value} {xs : List Value} (h : w.ownsRow base e size v n xs) (hb : Only S w w') (hS : ∀ k, v.ownBlock = some k → k ∉ S) : w'.ownsRow base e size v n xs := by
 refine ⟨h.1, ?_⟩
 rcases h.2 with h0 | ⟨g, cap, cur, hv, hg, hh, r⟩
 ·exact .inl h0
 ·exact .inr ⟨g, cap, cur, hv, hg, (hb.block g (Array.getElem?_eq_some_iff.1 hh).1 (hS g (by rw [hv]; rfl))).trans hh, r⟩
section
variable {w w' : World} {b room : Nat} {g : Option Nat} {rs : List Rg}
theorem IsSet.only {S : List Nat} (h : IsSet w b g room rs) (ho : Only S w w') (hb : b ∉ S) (hg : ∀ k, g = some k → k ∉ S) : IsSet w' b g room rs := by
 obtain ⟨h1, h2, h3, h4, v, hv, hB, hr⟩ := h
 exact ⟨h1, h2, h3, h4, v, hv, ho.blk hB hb, own_only2 hr ho (by rw [hv]; exact hg)⟩
theorem IsSet.below (h : IsSet w b g room rs) (hb : Below w.heap.size w w') : IsSet w' b g room rs := h.only (S := []) (only_of_below hb) (by simp) (by simp)
theorem IsSet.alloc (h : IsSet w b g room rs) (o : Obj) : IsSet (w.alloc o) b g room rs := h.below ((Below.refl _ _).alloc (Nat.le_refl _) o)
theorem IsSet.drewN (h : IsSet w b g room rs) (n : Nat) : IsSet (w.drewN n) b g room rs := h.below (below_drewN (Below.refl _ _) n)
theorem IsSet.drew (h : IsSet w b g room rs) : IsSet w.drew b g room rs := h.drewN 1
theorem IsSet.lt (h : IsSet w b g room rs) : b < w.heap.size ∧ ∀ k, g = some k → k < w.heap.size ∧ k ≠ b := by
 obtain ⟨h1, h2, h3, h4, v, hv, hB, hr⟩ := h
 refine ⟨hB.lt, fun k hk => ⟨(hr.lt k (hv.trans hk)).2, fun e => ?_⟩⟩
 have := own_ne hr hB (by decide)
 rw [hv, hk, e] at this
 exact this rfl
theorem IsSet.good (h : IsSet w b g room rs) : GoodR rs := h.2.2.2.1
theorem IsSet.len (h : IsSet w b g room rs) : rs.length ≤ room ∧ 1 ≤ room ∧ room ≤ 256 := ⟨h.2.2.1, h.1, h.2.1⟩
/-- What a walk reads: the room, the slice, the ranges. -/
theorem IsSet.cells (h : IsSet w b g room rs) : ∃ a c, w.cell? ⟨b, 0, none⟩ = some (ZI ZQ room) ∧ w.cell? ⟨b, 1, none⟩ = some (.slice a rs.length c) ∧ (Value.slice a rs.length c).ownBlock = g ∧
  Blk w b 121 #[ZI ZQ room, .slice a rs.length c] ∧ w.ownsRow 0 93 2 (.slice a rs.length c) rs.length (rgsCells rs) ∧
  (∀ (i : Nat) (r : Rg), rs[i]? = some r → ∃ k, a = some ⟨k, 0, none⟩ ∧ k < w.heap.size ∧ w.cell? ⟨k, i * 2, none⟩ = some (ZI ZQ r.lo) ∧ w.cell? ⟨k, i * 2 + 1, none⟩ = some (ZI ZQ r.hi)) := by
 obtain ⟨h1, h2, h3, h4, v, hv, hB, hr⟩ := h
 have hr0 := hr
 rcases own_split hr with ⟨rfl, h0, hx⟩ | ⟨k, cap, cur, rfl, _, hk, hc, hm, hcl, ht⟩
 ·have hrs : rs = [] := List.eq_nil_of_length_eq_zero h0
  subst hrs
  exact ⟨none, 0, hB.cell 0, hB.cell 1, hv, hB, hr0, by intro i r hr; simp at hr⟩
 ·refine ⟨_, cap, hB.cell 0, hB.cell 1, hv, hB, hr0, fun i r hi => ⟨k, rfl, hk.lt, ?_, ?_⟩⟩
  all_goals
   have hil : i < rs.length := (List.getElem?_eq_some_iff.1 hi).1
   have hlt : ∀ j, j < 2 → cur[i * 2 + j]? = (rgCells r)[j]? := fun j hj => by
    have e : (cur.take (rs.length * 2))[i * 2 + j]? = (rgsCells rs)[i * 2 + j]? := by rw [ht]
    rw [List.getElem?_take, if_pos (by omega)] at e
    rw [e]
    unfold rgsCells
    rw [flat_cell rgCells 2 rgCells_length rs i j hj, hi]
    rfl
  ·rw [hk.cell, ZG]; exact hlt 0 (by omega)
  ·rw [hk.cell, ZG]; exact hlt 1 (by omega)
end

theorem snone_no (b room : Nat) (w : World) (h : w.cell? ⟨b, 0, none⟩ = some (ZI ZQ room)) (h1 : 1 ≤ room) :
  Calls Tryz.prog 112 #[.pointer (some ⟨b, 0, none⟩)] w fun e w' => e = .returned (.bool false) ∧ w = w' := by
 have h2 : ((room : Int) == 0) = false := by rw [beq_eq_false_iff_ne]; omega
 go_enter Tryz.func112, Tryz.ntmps112
 go_wp2
 go_ret
 exact ⟨rfl, rfl⟩
theorem sis_yes (n : Int) (w : World) (h1 : 0 ≤ n) (h2 : n ≤ 9007199254740991) : Calls Tryz.prog 113 #[ZI ZQ n] w fun e w' => e = .returned (.bool true) ∧ w = w' := by
 go_enter Tryz.func113, Tryz.ntmps113
 go_wp2
 go_ret
 exact ⟨rfl, rfl⟩
/-- What New leaves. -/
def SNewPost (w : World) (room : Nat) (e : Ending) (w' : World) : Prop :=
 ∃ b, e = .returned (.tuple #[.pointer (some ⟨b, 0, none⟩), ZI ZQ 0]) ∧ IsSet w' b none room [] ∧ w.heap.size ≤ b ∧ Below w.heap.size w w'
set_option maxHeartbeats 1000000 in
theorem snew_ok (room : Nat) (w : World) (h1 : 1 ≤ room) (h2 : room ≤ 256) : Calls Tryz.prog 44 #[ZI ZQ room] w (SNewPost w room) := by
 go_enter Tryz.func44, Tryz.ntmps44
 go_wp2
 go_ret2
 exact ⟨w.heap.size, rfl, ⟨h1, h2, by simp, GoodR.nil, .slice none 0 0, rfl, Blk.new _ _ _, ⟨by simp [rgsCells], .inl ⟨rfl, rfl⟩⟩⟩, Nat.le_refl _, (Below.refl _ _).alloc (Nat.le_refl _) _⟩

set_option maxHeartbeats 1000000 in
/-- sort.Search over first's closure. -/
theorem search_first (a1 a2 : Addr) (n k : Nat) (p : Nat → Bool) (w : World) (hsz : n ≤ 4611686018427387904)
  (hf : ∀ (q i : Nat), i < n → Calls Tryz.prog 156 #[ZI ZQ i, .pointer (some a1), .pointer (some a2)] (w.drewN q) fun e w' => e = .returned (.bool (p i)) ∧ ∃ q', w' = (w.drewN q).drewN q')
  (hk : k ≤ n) (h1 : ∀ i, i < k → p i = false) (h2 : ∀ i, k ≤ i → i < n → p i = true) :
  Calls Tryz.prog 115 #[ZI ZQ n, .func (.func 156) #[] #[.pointer (some a1), .pointer (some a2)]] w fun e w' => e = .returned (ZI ZQ k) ∧ ∃ q, w' = w.drewN q := by
 have HF := hide hf
 have M1 := hide h1
 have M2 := hide h2
 clear hf h1 h2
 go_enter Tryz.func115, Tryz.ntmps115
 go_wp2
 go_loopg [5, 6] n (fun kx s5 s6 wr => ∃ (lo hi q : Nat), s5 = ZI ZQ lo ∧ s6 = ZI ZQ hi ∧ lo ≤ k ∧ k ≤ hi ∧ hi ≤ n ∧ hi - lo ≤ kx ∧ wr = w.drewN q)
 case atStart => exact ⟨0, n, 0, rfl, rfl, Nat.zero_le _, hk, Nat.le_refl _, by omega, rfl⟩
 case round =>
  obtain ⟨lo, hi, q, rfl, rfl, hlk, hkh, hin, hg, rfl⟩ := hrel
  by_cases hlt : lo < hi
  ·have hc := HF.out q ((lo + hi) / 2) (by omega)
   rw [show (((lo + hi) / 2 : Nat) : Int) = ((lo : Int) + (hi : Int)) / 2 by omega] at hc
   cases hp : p ((lo + hi) / 2) <;> rw [hp] at hc
   ·have hlo : (lo + hi) / 2 < k := by
     rcases Nat.lt_or_ge ((lo + hi) / 2) k with h | h
     ·exact h
     ·have := M2.out _ h (by omega); rw [hp] at this; cases this
    have HP := hide hp
    clear hp
    go_wp2_with (go_at_call 156; refine hc.mono ?_; rintro e w' ⟨rfl, nq, rfl⟩)
    go_roundg (hi - ((lo + hi) / 2 + 1))
    case measure => omega
    case rel => exact ⟨(lo + hi) / 2 + 1, hi, q + nq, by rw [show ((lo : Int) + (hi : Int)) / 2 + 1 = (((lo + hi) / 2 + 1 : Nat) : Int) by omega], rfl, by omega, hkh, hin, Nat.le_refl _, by simp⟩
   ·have hhi : k ≤ (lo + hi) / 2 := by
     rcases Nat.lt_or_ge ((lo + hi) / 2) k with h | h
     ·have := M1.out _ h; rw [hp] at this; cases this
     ·exact h
    have HP := hide hp
    clear hp
    go_wp2_with (go_at_call 156; refine hc.mono ?_; rintro e w' ⟨rfl, nq, rfl⟩)
    go_roundg ((lo + hi) / 2 - lo)
    case measure => omega
    case rel => exact ⟨lo, (lo + hi) / 2, q + nq, rfl, by rw [show ((lo : Int) + (hi : Int)) / 2 = (((lo + hi) / 2 : Nat) : Int) by omega], by omega, by omega, by omega, Nat.le_refl _, by simp⟩
  ·obtain rfl : hi = k := by omega
   obtain rfl : lo = hi := by omega
   go_wp2
   go_ret
   exact ⟨rfl, q, rfl⟩

set_option maxHeartbeats 1000000 in
/-- sort.Search over Add's closure. -/
theorem search_add (a1 a2 : Addr) (n k : Nat) (p : Nat → Bool) (w : World) (hsz : n ≤ 4611686018427387904)
  (hf : ∀ (q i : Nat), i < n → Calls Tryz.prog 116 #[ZI ZQ i, .pointer (some a1), .pointer (some a2)] (w.drewN q) fun e w' => e = .returned (.bool (p i)) ∧ ∃ q', w' = (w.drewN q).drewN q')
  (hk : k ≤ n) (h1 : ∀ i, i < k → p i = false) (h2 : ∀ i, k ≤ i → i < n → p i = true) :
  Calls Tryz.prog 115 #[ZI ZQ n, .func (.func 116) #[] #[.pointer (some a1), .pointer (some a2)]] w fun e w' => e = .returned (ZI ZQ k) ∧ ∃ q, w' = w.drewN q := by
 have HF := hide hf
 have M1 := hide h1
 have M2 := hide h2
 clear hf h1 h2
 go_enter Tryz.func115, Tryz.ntmps115
 go_wp2
 go_loopg [5, 6] n (fun kx s5 s6 wr => ∃ (lo hi q : Nat), s5 = ZI ZQ lo ∧ s6 = ZI ZQ hi ∧ lo ≤ k ∧ k ≤ hi ∧ hi ≤ n ∧ hi - lo ≤ kx ∧ wr = w.drewN q)
 case atStart => exact ⟨0, n, 0, rfl, rfl, Nat.zero_le _, hk, Nat.le_refl _, by omega, rfl⟩
 case round =>
  obtain ⟨lo, hi, q, rfl, rfl, hlk, hkh, hin, hg, rfl⟩ := hrel
  by_cases hlt : lo < hi
  ·have hc := HF.out q ((lo + hi) / 2) (by omega)
   rw [show (((lo + hi) / 2 : Nat) : Int) = ((lo : Int) + (hi : Int)) / 2 by omega] at hc
   cases hp : p ((lo + hi) / 2) <;> rw [hp] at hc
   ·have hlo : (lo + hi) / 2 < k := by
     rcases Nat.lt_or_ge ((lo + hi) / 2) k with h | h
     ·exact h
     ·have := M2.out _ h (by omega); rw [hp] at this; cases this
    have HP := hide hp
    clear hp
    go_wp2_with (go_at_call 116; refine hc.mono ?_; rintro e w' ⟨rfl, nq, rfl⟩)
    go_roundg (hi - ((lo + hi) / 2 + 1))
    case measure => omega
    case rel => exact ⟨(lo + hi) / 2 + 1, hi, q + nq, by rw [show ((lo : Int) + (hi : Int)) / 2 + 1 = (((lo + hi) / 2 + 1 : Nat) : Int) by omega], rfl, by omega, hkh, hin, Nat.le_refl _, by simp⟩
   ·have hhi : k ≤ (lo + hi) / 2 := by
     rcases Nat.lt_or_ge ((lo + hi) / 2) k with h | h
     ·have := M1.out _ h; rw [hp] at this; cases this
     ·exact h
    have HP := hide hp
    clear hp
    go_wp2_with (go_at_call 116; refine hc.mono ?_; rintro e w' ⟨rfl, nq, rfl⟩)
    go_roundg ((lo + hi) / 2 - lo)
    case measure => omega
    case rel => exact ⟨lo, (lo + hi) / 2, q + nq, rfl, by rw [show ((lo : Int) + (hi : Int)) / 2 = (((lo + hi) / 2 : Nat) : Int) by omega], by omega, by omega, by omega, Nat.le_refl _, by simp⟩
  ·obtain rfl : hi = k := by omega
   obtain rfl : lo = hi := by omega
   go_wp2
   go_ret
   exact ⟨rfl, q, rfl⟩


theorem first1_any (a1 a2 : Addr) (b k i len cap : Nat) (n hi : Int) (w : World) (h1 : w.cell? a1 = some (.pointer (some ⟨b, 0, none⟩))) (h2 : w.cell? a2 = some (ZI ZQ n)) (h3 : w.cell? ⟨b, 1, none⟩ = some (.slice (some ⟨k, 0, none⟩) len cap))
  (h4 : w.cell? ⟨k, i * 2 + 1, none⟩ = some (ZI ZQ hi)) (hi0 : (0 : Int) ≤ (i : Int)) (hil : (i : Int) < (len : Int)) :
  Calls Tryz.prog 156 #[ZI ZQ i, .pointer (some a1), .pointer (some a2)] w fun e w' => e = .returned (.bool (decide (n ≤ hi))) ∧ ∃ q, w' = w.drewN q := by
 go_enter Tryz.func156, Tryz.ntmps156
 go_wp2
 go_quiet (fail)
 go_wp2
 go_ret
 exact ⟨rfl, _, rfl⟩
theorem add1_any (a1 a2 : Addr) (b k i len cap : Nat) (n lo : Int) (w : World) (h1 : w.cell? a1 = some (.pointer (some ⟨b, 0, none⟩))) (h2 : w.cell? a2 = some (ZI ZQ n)) (h3 : w.cell? ⟨b, 1, none⟩ = some (.slice (some ⟨k, 0, none⟩) len cap))
  (h4 : w.cell? ⟨k, i * 2, none⟩ = some (ZI ZQ lo)) (hi0 : (0 : Int) ≤ (i : Int)) (hil : (i : Int) < (len : Int)) (hn0 : 0 ≤ n) (hn1 : n ≤ 9007199254740991) :
  Calls Tryz.prog 116 #[ZI ZQ i, .pointer (some a1), .pointer (some a2)] w fun e w' => e = .returned (.bool (decide (n + 1 < lo))) ∧ ∃ q, w' = w.drewN q := by
 have hw1 : IntKind.i64.wrap (n + 1) = n + 1 := by rw [IntKind.wrap_i64]; omega
 go_enter Tryz.func116, Tryz.ntmps116
 go_wp2
 go_quiet (fail)
 go_wp2
 go_ret
 exact ⟨rfl, _, rfl⟩

set_option maxHeartbeats 1000000 in
theorem first_any (b : Nat) (g : Option Nat) (room : Nat) (n : Int) (rs : List Rg) (w : World) (hS : IsSet w b g room rs) :
  Calls Tryz.prog 114 #[.pointer (some ⟨b, 0, none⟩), ZI ZQ n] w fun e w' => e = .returned (ZI ZQ (fstHi n rs)) ∧ Below w.heap.size w w' := by
 obtain ⟨hlen, _, hroom⟩ := hS.len
 have hb := hS.lt.1
 have hgood := hS.good
 obtain ⟨a, c, c0, c1, _, _, _, hat⟩ := hS.cells
 have HS : ∀ (d : Nat) (i : Nat), i < rs.length → Calls Tryz.prog 156 #[ZI ZQ i, .pointer (some ⟨w.heap.size, 0, none⟩), .pointer (some ⟨w.heap.size + 1, 0, none⟩)]
   (((w.alloc (.cells #[.pointer (some ⟨b, 0, none⟩)] 76)).alloc (.cells #[ZI ZQ n] 3)).drewN d) fun e w' => e = .returned (.bool (decide (n ≤ (atR rs i).hi))) ∧ ∃ d', w' = (((w.alloc (.cells #[.pointer (some ⟨b, 0, none⟩)] 76)).alloc (.cells #[ZI ZQ n] 3)).drewN d).drewN d' := by
  intro d i hi
  obtain ⟨r, hr⟩ : ∃ r, rs[i]? = some r := ⟨_, List.getElem?_eq_getElem hi⟩
  obtain ⟨k, rfl, hk, z0, z1⟩ := hat i r hr
  rw [atR_some hr]
  refine first1_any _ _ b k i rs.length c n r.hi _ ?_ ?_ ?_ ?_ (by omega) (by omega)
  ·rw [World.cell?_drewN, World.cell?_alloc_lt _ _ _ (by simp), World.cell?_alloc_new]; rfl
  ·rw [World.cell?_drewN, World.cell?_alloc_at _ _ _ _ (by simp)]; rfl
  ·rw [World.cell?_drewN, World.cell?_alloc_lt _ _ _ (by simp; omega), World.cell?_alloc_lt _ _ _ hb]; exact c1
  ·rw [World.cell?_drewN, World.cell?_alloc_lt _ _ _ (by simp; omega), World.cell?_alloc_lt _ _ _ hk]; exact z1
 have hc := search_first ⟨w.heap.size, 0, none⟩ ⟨w.heap.size + 1, 0, none⟩ rs.length (fstHi n rs) (fun i => decide (n ≤ (atR rs i).hi)) _ (by omega) HS (fstLe_hi n rs)
  (fun i hi => by
   have hl : i < rs.length := Nat.lt_of_lt_of_le hi (fstLe_hi n rs)
   have := fstHi_lt hi (List.getElem?_eq_getElem hl)
   rw [atR_some (List.getElem?_eq_getElem hl)]
   simp; omega)
  (fun i hi hl => by
   have := fstHi_ge hgood hi (List.getElem?_eq_getElem hl)
   rw [atR_some (List.getElem?_eq_getElem hl)]
   simp; omega)
 have HC := hide hc
 clear hc HS hat
 go_enter Tryz.func114, Tryz.ntmps114
 go_wp2_with (go_at_call 115; refine HC.out.mono ?_; rintro e w' ⟨rfl, nq, rfl⟩)
 go_ret
 exact ⟨rfl, below_drewN ((((Below.refl _ _).alloc (Nat.le_refl _) _)).alloc (by simp) _) _⟩
end Go.Proofs.YtgicljeedegncaaGreat

namespace Go.Proofs.YtgicljeedegncaaGreat
open List renaming getElem?_toArray → ZG
open Go.Value renaming int → ZI
open Go.IntKind renaming i64 → ZQ
set_option linter.unusedSimpArgs false
set_option linter.unusedVariables false
open Go.RowKit

/-- The range that has n. -/
def rngOf (n : Int) (rs : List Rg) : Rg × Bool := match rs[fstHi n rs]? with
 | some r => if r.lo ≤ n then (r, true) else (⟨0, 0⟩, false)
 | none => (⟨0, 0⟩, false)

/-- What Next answers. -/
def nextOf (n : Int) (rs : List Rg) : Int := if 0 ≤ n ∧ n ≤ 9007199254740991 then (if (rngOf n rs).2 = true then (if (rngOf n rs).1.hi = 9007199254740991 then -1 else (rngOf n rs).1.hi + 1) else n) else -1
/-- The ends. -/
def maxOf (rs : List Rg) : Int := if rs.length = 0 then -1 else (atR rs (rs.length - 1)).hi
def minOf (rs : List Rg) : Int := if rs.length = 0 then -1 else (atR rs 0).lo
end Go.Proofs.YtgicljeedegncaaGreat
