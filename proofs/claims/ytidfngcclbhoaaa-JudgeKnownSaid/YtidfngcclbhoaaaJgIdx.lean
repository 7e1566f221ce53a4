/-
 Layer 24 (judge): rows in memory; the closures; slices.IndexFunc, slices.ContainsFunc. Printed by wip/genjidx.py.
-/
import Derived.Test.YtidfngcclbhoaaaJgDelete
namespace Go.Proofs.Ytidfngcclbhoaaa
open Go.Value renaming int → ZI
open Go.IntKind renaming i64 → ZQ
set_option linter.unusedSimpArgs false
set_option linter.unusedVariables false
open Go.RowKit Go.Shelf
theorem jcell_lt {w : World} {p : Addr} {v : Value} (h : w.cell? p = some v) : p.block < w.heap.size := by
 unfold World.cell? at h
 cases hb : w.heap[p.block]? with
 | none => rw [hb] at h; simp at h
 | some o => exact (Array.getElem?_eq_some_iff.1 hb).1
structure EVJ where
 kind : Int
 sp : Int
 num : Int
 n : Int
deriving DecidableEq
def evL (e : EVJ) : List Value := [ZI ZQ e.kind, ZI ZQ e.sp, ZI ZQ e.num, ZI ZQ e.n]
structure RGJ where
 lo : Int
 hi : Int
deriving DecidableEq
def rgL (r : RGJ) : List Value := [ZI ZQ r.lo, ZI ZQ r.hi]
/-- A list of records that lies below a block. -/
def LieAt {α : Type} (f : α → List Value) (k : Nat) (W : World) (B : Nat) (A : Option Addr) (l : List α) : Prop :=
 l = [] ∨ ∃ g o, A = some ⟨g, o, none⟩ ∧ g < B ∧ ∀ i x, l[i]? = some x → ∀ j u, j < k → (f x)[j]? = some u → W.cell? ⟨g, o + i * k + j, none⟩ = some u
theorem LieAt.later {α : Type} {f : α → List Value} {k : Nat} {W W' : World} {B : Nat} {A : Option Addr} {l : List α} (h : LieAt f k W B A l) (hb : Below B W W') : LieAt f k W' B A l := by
 rcases h with h | ⟨g, o, hA, hg, hc⟩
 ·exact .inl h
 ·exact .inr ⟨g, o, hA, hg, fun i x hx j u hj hu => (hb.cell (p := ⟨g, o + i * k + j, none⟩) hg).trans (hc i x hx j u hj hu)⟩
theorem LieAt.up {α : Type} {f : α → List Value} {k : Nat} {W : World} {B B' : Nat} {A : Option Addr} {l : List α} (h : LieAt f k W B A l) (hb : B ≤ B') : LieAt f k W B' A l := by
 rcases h with h | ⟨g, o, hA, hg, hc⟩
 ·exact .inl h
 ·exact .inr ⟨g, o, hA, Nat.lt_of_lt_of_le hg hb, hc⟩
theorem LieAt.at {α : Type} {f : α → List Value} {k : Nat} {W : World} {B : Nat} {A : Option Addr} {l : List α} {i : Nat} {x : α} (h : LieAt f k W B A l) (hi : l[i]? = some x) :
  ∃ g o, A = some ⟨g, o, none⟩ ∧ g < B ∧ ∀ j u, j < k → (f x)[j]? = some u → W.cell? ⟨g, o + i * k + j, none⟩ = some u := by
 rcases h with rfl | ⟨g, o, hA, hg, hc⟩
 ·simp at hi
 ·exact ⟨g, o, hA, hg, hc i x hi⟩
theorem lie_own {α : Type} {f : α → List Value} {k : Nat} {w : World} {base e n c : Nat} {A : Option Addr} {l : List α} (hf : ∀ x, (f x).length = k) (h : w.ownsRow base e k (.slice A n c) n (l.flatMap f)) (hn : l.length = n) : LieAt f k w w.heap.size A l := by
 rcases Nat.eq_zero_or_pos n with h0 | h0
 ·exact .inl (List.eq_nil_of_length_eq_zero (by omega))
 ·obtain ⟨g, c', hv, hg, hc⟩ := own_row h h0
  cases hv
  refine .inr ⟨g, 0, rfl, hg, fun i x hx j u hj hu => ?_⟩
  have := hc (i * k + j) u (by rw [flat_cell f k hf l i j hj, hx]; exact hu)
  simpa using this
/-- The place of the first that is so; below 0: there is none. -/
def idxF {α : Type} (P : α → Bool) : List α → Nat → Int
 | [], _ => -1
 | x :: l, i => if P x then (i : Int) else idxF P l (i + 1)
theorem idxF_any {α : Type} (P : α → Bool) : ∀ (l : List α) (i : Nat), (l.any P = true → 0 ≤ idxF P l i) ∧ (l.any P = false → idxF P l i = -1)
 | [], i => by simp [idxF]
 | x :: l, i => by
  have h := idxF_any P l (i + 1)
  rw [idxF, List.any_cons]
  cases hp : P x
  ·simpa using h
  ·simp
theorem idxF_at {α : Type} (P : α → Bool) : ∀ (l : List α) (i : Nat), 0 ≤ idxF P l i → ∃ j x, idxF P l i = ((i + j : Nat) : Int) ∧ l[j]? = some x ∧ P x = true ∧ ∀ m y, m < j → l[m]? = some y → P y = false
 | [], i, h => by simp [idxF] at h
 | x :: l, i, h => by
  rw [idxF] at h ⊢
  cases hp : P x
  ·rw [hp] at h
   obtain ⟨j, y, e, hy, hP, hm⟩ := idxF_at P l (i + 1) (by simpa using h)
   refine ⟨j + 1, y, by rw [if_neg (by simp), e]; congr 1; omega, by simpa using hy, hP, ?_⟩
   intro m z hmj hz
   cases m with
   | zero => simp at hz; rw [← hz]; exact hp
   | succ m => exact hm m z (by omega) (by simpa using hz)
  ·exact ⟨0, x, by simp, by simp, hp, fun m y hm => by omega⟩
def atP (e : EVJ) (p : PKT) : Bool := (p.o.sp == e.sp && p.o.num == e.num && p.o.size == e.n)
set_option maxRecDepth 100000 in
set_option maxHeartbeats 2000000 in
theorem place1_any (e : EVJ) (p : PKT) (X : Nat) (w : World) (h1 : w.cell? ⟨X, 1, none⟩ = some (ZI ZQ e.sp)) (h2 : w.cell? ⟨X, 2, none⟩ = some (ZI ZQ e.num)) (h3 : w.cell? ⟨X, 3, none⟩ = some (ZI ZQ e.n)) :
  Calls Try.prog 73 #[.agg #[ZI ZQ p.o.sp, ZI ZQ p.o.num, ZI ZQ p.o.size, .bool p.o.el, .bool p.o.fl, .bool p.o.pr, .bool p.o.ect, ZI ZQ p.t], .pointer (some ⟨X, 0, none⟩)] w fun e' w' => e' = .returned (.bool (atP e p)) ∧ Below w.heap.size w w' := by
 have hX := jcell_lt h1
 have c1 := (World.cell?_alloc_lt w (.cells #[ZI ZQ p.o.sp, ZI ZQ p.o.num, ZI ZQ p.o.size, .bool p.o.el, .bool p.o.fl, .bool p.o.pr, .bool p.o.ect, ZI ZQ p.t] 106) ⟨X, 1, none⟩ hX).trans h1
 have c2 := (World.cell?_alloc_lt w (.cells #[ZI ZQ p.o.sp, ZI ZQ p.o.num, ZI ZQ p.o.size, .bool p.o.el, .bool p.o.fl, .bool p.o.pr, .bool p.o.ect, ZI ZQ p.t] 106) ⟨X, 2, none⟩ hX).trans h2
 have c3 := (World.cell?_alloc_lt w (.cells #[ZI ZQ p.o.sp, ZI ZQ p.o.num, ZI ZQ p.o.size, .bool p.o.el, .bool p.o.fl, .bool p.o.pr, .bool p.o.ect, ZI ZQ p.t] 106) ⟨X, 3, none⟩ hX).trans h3
 obtain ⟨⟨a, b, c, el, fl, pr, ect⟩, t⟩ := p
 simp only at c1 c2 c3 ⊢
 clear h1 h2 h3
 cases ha : (a == e.sp) with
 | false =>
  go_enter Try.func73, Try.ntmps73
  go_wp2_with fail
  go_ret
  exact ⟨by simp [atP, ha], (Below.refl _ _).alloc (Nat.le_refl _) _⟩
 | true =>
  cases hb : (b == e.num) with
  | false =>
   go_enter Try.func73, Try.ntmps73
   go_wp2_with fail
   go_ret
   exact ⟨by simp [atP, ha, hb], (Below.refl _ _).alloc (Nat.le_refl _) _⟩
  | true =>
   cases hc : (c == e.n) with
   | false =>
    go_enter Try.func73, Try.ntmps73
    go_wp2_with fail
    go_ret
    exact ⟨by simp [atP, ha, hb, hc], (Below.refl _ _).alloc (Nat.le_refl _) _⟩
   | true =>
    go_enter Try.func73, Try.ntmps73
    go_wp2_with fail
    go_ret
    exact ⟨by simp [atP, ha, hb, hc], (Below.refl _ _).alloc (Nat.le_refl _) _⟩
def inR (n : Int) (r : RGJ) : Bool := decide (r.lo ≤ n) && decide (n ≤ r.hi)
theorem event1_any (r : RGJ) (n : Int) (X : Nat) (w : World) (h0 : w.cell? ⟨X, 2, none⟩ = some (ZI ZQ n)) : Calls Try.prog 61 #[.agg #[ZI ZQ r.lo, ZI ZQ r.hi], .pointer (some ⟨X, 0, none⟩)] w fun e w' => e = .returned (.bool (inR n r)) ∧ Below w.heap.size w w' := by
 have hX := jcell_lt h0
 have hc := (World.cell?_alloc_lt w (.cells #[ZI ZQ r.lo, ZI ZQ r.hi] 61) ⟨X, 2, none⟩ hX).trans h0
 by_cases h1 : r.lo ≤ n
 ·by_cases h2 : n ≤ r.hi
  all_goals
   go_enter Try.func61, Try.ntmps61
   go_wp2
   go_ret
   exact ⟨by simp [inR, h1]; omega, (Below.refl _ _).alloc (Nat.le_refl _) _⟩
 ·go_enter Try.func61, Try.ntmps61
  go_wp2
  go_ret
  exact ⟨by simp [inR]; omega, (Below.refl _ _).alloc (Nat.le_refl _) _⟩
def closesP (e : EVJ) : Bool := e.kind == 6
theorem row2_any (x : EVJ) (w : World) : Calls Try.prog 22 #[.agg #[ZI ZQ x.kind, ZI ZQ x.sp, ZI ZQ x.num, ZI ZQ x.n]] w fun e w' => e = .returned (.bool (closesP x)) ∧ Below w.heap.size w w' := by
 cases h : (x.kind == 6)
 all_goals
  go_enter Try.func22, Try.ntmps22
  go_wp2_with fail
  go_ret
  exact ⟨by simp [closesP, h], (Below.refl _ _).alloc (Nat.le_refl _) _⟩
set_option maxRecDepth 100000 in
set_option maxHeartbeats 2000000 in
theorem idx_pkt (ev : EVJ) (X : Nat) (a : Option Addr) (len cap : Nat) (l : List PKT) (w : World) (hlen : l.length = len) (hl : len ≤ 2000) (hR : LieAt pktL 8 w w.heap.size a l) (h1 : w.cell? ⟨X, 1, none⟩ = some (ZI ZQ ev.sp)) (h2 : w.cell? ⟨X, 2, none⟩ = some (ZI ZQ ev.num)) (h3 : w.cell? ⟨X, 3, none⟩ = some (ZI ZQ ev.n)) :
  Calls Try.prog 72 #[.slice a len cap, .func (.func 73) #[] #[.pointer (some ⟨X, 0, none⟩)]] w fun e w' => e = .returned (ZI ZQ (idxF (atP ev) l 0)) ∧ Below w.heap.size w w' := by
 have HR := hide hR
 have HL := hide hlen
 have HC := hide (show ∀ W, Below w.heap.size w W → ∀ x : PKT, Calls Try.prog 73 #[.agg #[ZI ZQ x.o.sp, ZI ZQ x.o.num, ZI ZQ x.o.size, .bool x.o.el, .bool x.o.fl, .bool x.o.pr, .bool x.o.ect, ZI ZQ x.t], .pointer (some ⟨X, 0, none⟩)] W fun e w' => e = .returned (.bool ((atP ev) x)) ∧ Below W.heap.size W w' from by
  intro W hb x
  exact place1_any ev x X W ((hb.cell (p := ⟨X, 1, none⟩) (jcell_lt h1)).trans h1) ((hb.cell (p := ⟨X, 2, none⟩) (jcell_lt h2)).trans h2) ((hb.cell (p := ⟨X, 3, none⟩) (jcell_lt h3)).trans h3))
 clear hR hlen h1 h2 h3
 go_enter Try.func72, Try.ntmps72
 go_wp2_with fail
 go_loopg [8] len (fun kx s8 wr => ∃ i : Nat, s8 = ZI ZQ i ∧ i ≤ len ∧ len - i ≤ kx ∧ Hid (idxF (atP ev) l 0 = idxF (atP ev) (l.drop i) i) ∧ Below w.heap.size w wr)
 case atStart => exact ⟨0, rfl, by omega, by omega, rfl, Below.refl _ _⟩
 case round =>
  obtain ⟨i, rfl, hi, hkx, hany, hB⟩ := hrel
  by_cases hlt : i < len
  ·have hir : i < l.length := by rw [HL.out]; exact hlt
   obtain ⟨x, hx⟩ : ∃ x, l[i]? = some x := ⟨_, List.getElem?_eq_getElem hir⟩
   have hd : l.drop i = x :: l.drop (i + 1) := by
    rw [List.drop_eq_getElem_cons hir]
    congr 1
    rw [List.getElem?_eq_getElem hir] at hx
    exact Option.some.inj hx
   obtain ⟨g, o, rfl, hg, hz⟩ := (HR.out.later hB).at hx
   have z0 := hz 0 _ (by omega) rfl
   have z1 := hz 1 _ (by omega) rfl
   have z2 := hz 2 _ (by omega) rfl
   have z3 := hz 3 _ (by omega) rfl
   have z4 := hz 4 _ (by omega) rfl
   have z5 := hz 5 _ (by omega) rfl
   have z6 := hz 6 _ (by omega) rfl
   have z7 := hz 7 _ (by omega) rfl
   simp only [Nat.add_zero] at z0
   have HA : Hid (idxF (atP ev) l 0 = if (atP ev) x then (i : Int) else idxF (atP ev) (l.drop (i + 1)) (i + 1)) := by show _ = _; rw [hany, hd]; rfl
   have HW := hide (HC.out wr hB x)
   have hin : (i : Int) < (len : Int) := by omega
   have HB := hide hB
   clear hany hd hx hir hB hz
   cases hq : (atP ev) x with
   | true =>
    rw [hq] at HW HA
    go_wp2_with fail
    with_reducible refine HW.out.mono ?_
    rintro e1 w1 ⟨rfl, hb⟩
    go_wp2_with fail
    go_ret
    exact ⟨by rw [HA.out]; rfl, HB.out.trans (hb.mono HB.out.size)⟩
   | false =>
    rw [hq] at HW HA
    go_wp2_with fail
    with_reducible refine HW.out.mono ?_
    rintro e1 w1 ⟨rfl, hb⟩
    go_wp2_with fail
    go_roundg (len - (i + 1))
    case rel => exact ⟨i + 1, by go_num, by omega, by omega, (by show _ = _; rw [HA.out]; rfl), HB.out.trans (hb.mono HB.out.size)⟩
    case measure => omega
  ·obtain rfl : i = len := by omega
   have hin : ¬ (i : Int) < (i : Int) := by omega
   have HA : Hid (idxF (atP ev) l 0 = -1) := by show _ = _; rw [hany, List.drop_of_length_le (by rw [HL.out]; exact Nat.le_refl _)]; rfl
   clear hany
   go_wp2_with fail
   go_ret
   exact ⟨by rw [HA.out]; rfl, hB⟩
set_option maxRecDepth 100000 in
set_option maxHeartbeats 2000000 in
theorem idx_ev  (a : Option Addr) (len cap : Nat) (l : List EVJ) (w : World) (hlen : l.length = len) (hl : len ≤ 2000) (hR : LieAt evL 4 w w.heap.size a l)  :
  Calls Try.prog 51 #[.slice a len cap, .func (.func 22) #[] #[]] w fun e w' => e = .returned (ZI ZQ (idxF closesP l 0)) ∧ Below w.heap.size w w' := by
 have HR := hide hR
 have HL := hide hlen
 have HC := hide (show ∀ W, Below w.heap.size w W → ∀ x : EVJ, Calls Try.prog 22 #[.agg #[ZI ZQ x.kind, ZI ZQ x.sp, ZI ZQ x.num, ZI ZQ x.n]] W fun e w' => e = .returned (.bool (closesP x)) ∧ Below W.heap.size W w' from by
  intro W hb x
  exact row2_any x W)
 clear hR hlen
 go_enter Try.func51, Try.ntmps51
 go_wp2_with fail
 go_loopg [8] len (fun kx s8 wr => ∃ i : Nat, s8 = ZI ZQ i ∧ i ≤ len ∧ len - i ≤ kx ∧ Hid (idxF closesP l 0 = idxF closesP (l.drop i) i) ∧ Below w.heap.size w wr)
 case atStart => exact ⟨0, rfl, by omega, by omega, rfl, Below.refl _ _⟩
 case round =>
  obtain ⟨i, rfl, hi, hkx, hany, hB⟩ := hrel
  by_cases hlt : i < len
  ·have hir : i < l.length := by rw [HL.out]; exact hlt
   obtain ⟨x, hx⟩ : ∃ x, l[i]? = some x := ⟨_, List.getElem?_eq_getElem hir⟩
   have hd : l.drop i = x :: l.drop (i + 1) := by
    rw [List.drop_eq_getElem_cons hir]
    congr 1
    rw [List.getElem?_eq_getElem hir] at hx
    exact Option.some.inj hx
   obtain ⟨g, o, rfl, hg, hz⟩ := (HR.out.later hB).at hx
   have z0 := hz 0 _ (by omega) rfl
   have z1 := hz 1 _ (by omega) rfl
   have z2 := hz 2 _ (by omega) rfl
   have z3 := hz 3 _ (by omega) rfl
   simp only [Nat.add_zero] at z0
   have HA : Hid (idxF closesP l 0 = if closesP x then (i : Int) else idxF closesP (l.drop (i + 1)) (i + 1)) := by show _ = _; rw [hany, hd]; rfl
   have HW := hide (HC.out wr hB x)
   have hin : (i : Int) < (len : Int) := by omega
   have HB := hide hB
   clear hany hd hx hir hB hz
   cases hq : closesP x with
   | true =>
    rw [hq] at HW HA
    go_wp2_with fail
    with_reducible refine HW.out.mono ?_
    rintro e1 w1 ⟨rfl, hb⟩
    go_wp2_with fail
    go_ret
    exact ⟨by rw [HA.out]; rfl, HB.out.trans (hb.mono HB.out.size)⟩
   | false =>
    rw [hq] at HW HA
    go_wp2_with fail
    with_reducible refine HW.out.mono ?_
    rintro e1 w1 ⟨rfl, hb⟩
    go_wp2_with fail
    go_roundg (len - (i + 1))
    case rel => exact ⟨i + 1, by go_num, by omega, by omega, (by show _ = _; rw [HA.out]; rfl), HB.out.trans (hb.mono HB.out.size)⟩
    case measure => omega
  ·obtain rfl : i = len := by omega
   have hin : ¬ (i : Int) < (i : Int) := by omega
   have HA : Hid (idxF closesP l 0 = -1) := by show _ = _; rw [hany, List.drop_of_length_le (by rw [HL.out]; exact Nat.le_refl _)]; rfl
   clear hany
   go_wp2_with fail
   go_ret
   exact ⟨by rw [HA.out]; rfl, hB⟩
set_option maxHeartbeats 1000000 in
theorem con_ev  (a : Option Addr) (len cap : Nat) (l : List EVJ) (w : World) (hlen : l.length = len) (hl : len ≤ 2000) (hR : LieAt evL 4 w w.heap.size a l)  :
  Calls Try.prog 24 #[.slice a len cap, .func (.func 22) #[] #[]] w fun e w' => e = .returned (.bool (l.any closesP)) ∧ Below w.heap.size w w' := by
 have H := hide (idx_ev a len cap l w hlen hl hR)
 have h2 := idxF_any closesP l 0
 obtain ⟨n, hn⟩ : ∃ n, idxF closesP l 0 = n := ⟨_, rfl⟩
 rw [hn] at H h2
 clear hR hn
 cases ht : l.any closesP with
 | true =>
  have h0 := h2.1 ht
  clear h2 ht
  go_enter Try.func24, Try.ntmps24
  go_wp2_with fail
  with_reducible refine H.out.mono ?_
  rintro e1 w1 ⟨rfl, hb⟩
  go_wp2_with fail
  go_ret
  exact ⟨rfl, hb⟩
 | false =>
  obtain rfl := h2.2 ht
  clear h2 ht
  go_enter Try.func24, Try.ntmps24
  go_wp2_with fail
  with_reducible refine H.out.mono ?_
  rintro e1 w1 ⟨rfl, hb⟩
  go_wp2_with fail
  go_ret
  exact ⟨rfl, hb⟩
set_option maxRecDepth 100000 in
set_option maxHeartbeats 2000000 in
theorem idx_rg (num : Int) (X : Nat) (a : Option Addr) (len cap : Nat) (l : List RGJ) (w : World) (hlen : l.length = len) (hl : len ≤ 2000) (hR : LieAt rgL 2 w w.heap.size a l) (h2 : w.cell? ⟨X, 2, none⟩ = some (ZI ZQ num)) :
  Calls Try.prog 74 #[.slice a len cap, .func (.func 61) #[] #[.pointer (some ⟨X, 0, none⟩)]] w fun e w' => e = .returned (ZI ZQ (idxF (inR num) l 0)) ∧ Below w.heap.size w w' := by
 have HR := hide hR
 have HL := hide hlen
 have HC := hide (show ∀ W, Below w.heap.size w W → ∀ x : RGJ, Calls Try.prog 61 #[.agg #[ZI ZQ x.lo, ZI ZQ x.hi], .pointer (some ⟨X, 0, none⟩)] W fun e w' => e = .returned (.bool ((inR num) x)) ∧ Below W.heap.size W w' from by
  intro W hb x
  exact event1_any x num X W ((hb.cell (p := ⟨X, 2, none⟩) (jcell_lt h2)).trans h2))
 clear hR hlen h2
 go_enter Try.func74, Try.ntmps74
 go_wp2_with fail
 go_loopg [8] len (fun kx s8 wr => ∃ i : Nat, s8 = ZI ZQ i ∧ i ≤ len ∧ len - i ≤ kx ∧ Hid (idxF (inR num) l 0 = idxF (inR num) (l.drop i) i) ∧ Below w.heap.size w wr)
 case atStart => exact ⟨0, rfl, by omega, by omega, rfl, Below.refl _ _⟩
 case round =>
  obtain ⟨i, rfl, hi, hkx, hany, hB⟩ := hrel
  by_cases hlt : i < len
  ·have hir : i < l.length := by rw [HL.out]; exact hlt
   obtain ⟨x, hx⟩ : ∃ x, l[i]? = some x := ⟨_, List.getElem?_eq_getElem hir⟩
   have hd : l.drop i = x :: l.drop (i + 1) := by
    rw [List.drop_eq_getElem_cons hir]
    congr 1
    rw [List.getElem?_eq_getElem hir] at hx
    exact Option.some.inj hx
   obtain ⟨g, o, rfl, hg, hz⟩ := (HR.out.later hB).at hx
   have z0 := hz 0 _ (by omega) rfl
   have z1 := hz 1 _ (by omega) rfl
   simp only [Nat.add_zero] at z0
   have HA : Hid (idxF (inR num) l 0 = if (inR num) x then (i : Int) else idxF (inR num) (l.drop (i + 1)) (i + 1)) := by show _ = _; rw [hany, hd]; rfl
   have HW := hide (HC.out wr hB x)
   have hin : (i : Int) < (len : Int) := by omega
   have HB := hide hB
   clear hany hd hx hir hB hz
   cases hq : (inR num) x with
   | true =>
    rw [hq] at HW HA
    go_wp2_with fail
    with_reducible refine HW.out.mono ?_
    rintro e1 w1 ⟨rfl, hb⟩
    go_wp2_with fail
    go_ret
    exact ⟨by rw [HA.out]; rfl, HB.out.trans (hb.mono HB.out.size)⟩
   | false =>
    rw [hq] at HW HA
    go_wp2_with fail
    with_reducible refine HW.out.mono ?_
    rintro e1 w1 ⟨rfl, hb⟩
    go_wp2_with fail
    go_roundg (len - (i + 1))
    case rel => exact ⟨i + 1, by go_num, by omega, by omega, (by show _ = _; rw [HA.out]; rfl), HB.out.trans (hb.mono HB.out.size)⟩
    case measure => omega
  ·obtain rfl : i = len := by omega
   have hin : ¬ (i : Int) < (i : Int) := by omega
   have HA : Hid (idxF (inR num) l 0 = -1) := by show _ = _; rw [hany, List.drop_of_length_le (by rw [HL.out]; exact Nat.le_refl _)]; rfl
   clear hany
   go_wp2_with fail
   go_ret
   exact ⟨by rw [HA.out]; rfl, hB⟩
set_option maxHeartbeats 1000000 in
theorem con_rg (num : Int) (X : Nat) (a : Option Addr) (len cap : Nat) (l : List RGJ) (w : World) (hlen : l.length = len) (hl : len ≤ 2000) (hR : LieAt rgL 2 w w.heap.size a l) (h2 : w.cell? ⟨X, 2, none⟩ = some (ZI ZQ num)) :
  Calls Try.prog 62 #[.slice a len cap, .func (.func 61) #[] #[.pointer (some ⟨X, 0, none⟩)]] w fun e w' => e = .returned (.bool (l.any (inR num))) ∧ Below w.heap.size w w' := by
 have H := hide (idx_rg num X a len cap l w hlen hl hR h2)
 have h2x := idxF_any (inR num) l 0
 obtain ⟨n, hn⟩ : ∃ n, idxF (inR num) l 0 = n := ⟨_, rfl⟩
 rw [hn] at H h2x
 clear hR hn h2
 cases ht : l.any (inR num) with
 | true =>
  have h0 := h2x.1 ht
  clear h2x ht
  go_enter Try.func62, Try.ntmps62
  go_wp2_with fail
  with_reducible refine H.out.mono ?_
  rintro e1 w1 ⟨rfl, hb⟩
  go_wp2_with fail
  go_ret
  exact ⟨rfl, hb⟩
 | false =>
  obtain rfl := h2x.2 ht
  clear h2x ht
  go_enter Try.func62, Try.ntmps62
  go_wp2_with fail
  with_reducible refine H.out.mono ?_
  rintro e1 w1 ⟨rfl, hb⟩
  go_wp2_with fail
  go_ret
  exact ⟨rfl, hb⟩
end Go.Proofs.Ytidfngcclbhoaaa
