/-
  Layer 10 (package persist): what of it is plain. Packets; which may be; which pairs count; the period.
-/
import Derived.Test.YtkmfhcjdajbbhaaSpanPlain
namespace Go.Proofs.Ytkmfhcjdajbbhaa
set_option linter.unusedSimpArgs false
set_option linter.unusedVariables false

/-- A packet. -/
structure PK where
  n : Int
  t : Int
  s : Int
  e : Bool
  f : Bool
  c : Bool
  deriving DecidableEq
def pkC (p : PK) : Array Value := #[.int .i64 p.n, .int .i64 p.t, .int .i64 p.s, .bool p.e, .bool p.f, .bool p.c]
def pkV (p : PK) : Value := .agg (pkC p)
/-- Its numbers are ints. -/
def PK.small (p : PK) : Prop := (-9223372036854775808 ≤ p.n ∧ p.n ≤ 9223372036854775807) ∧ (-9223372036854775808 ≤ p.t ∧ p.t ≤ 9223372036854775807) ∧ (-9223372036854775808 ≤ p.s ∧ p.s ≤ 9223372036854775807)
/-- May it be, behind a number? -/
def okPk (last : Int) (p : PK) : Bool := decide (last < p.n) && decide (p.n ≤ 9007199254740991) && (decide (0 ≤ p.t) && decide (p.t ≤ 9007199254740991)) && decide (1 ≤ p.s) && decide (p.s ≤ 65535)
def okPks : Int → List PK → Bool
  | _, [] => true
  | last, p :: ps => okPk last p && okPks p.n ps
theorem okPk_iff {last : Int} {p : PK} : okPk last p = true ↔ last < p.n ∧ p.n ≤ 9007199254740991 ∧ 0 ≤ p.t ∧ p.t ≤ 9007199254740991 ∧ 1 ≤ p.s ∧ p.s ≤ 65535 := by
  unfold okPk
  simp only [Bool.and_eq_true, decide_eq_true_eq]
  constructor
  · rintro ⟨⟨⟨⟨h1, h2⟩, h3, h4⟩, h5⟩, h6⟩; exact ⟨h1, h2, h3, h4, h5, h6⟩
  · rintro ⟨h1, h2, h3, h4, h5, h6⟩; exact ⟨⟨⟨⟨h1, h2⟩, h3, h4⟩, h5⟩, h6⟩
theorem okPks_mem : ∀ {ps : List PK} {last : Int}, okPks last ps = true → ∀ p ∈ ps, last < p.n ∧ p.n ≤ 9007199254740991 ∧ 0 ≤ p.t ∧ p.t ≤ 9007199254740991 ∧ 1 ≤ p.s ∧ p.s ≤ 65535
  | [], _, _, p, hp => by simp at hp
  | q :: ps, last, h, p, hp => by
    simp only [okPks, Bool.and_eq_true] at h
    obtain ⟨h1, h2⟩ := h
    have h3 := okPk_iff.1 h1
    rcases List.mem_cons.1 hp with rfl | hp
    · exact h3
    · have := okPks_mem h2 p hp
      omega
/-- Does it count? -/
def counts (first : Int) (p : PK) : Bool := p.e && decide (first < p.t)
/-- Was nothing between them acknowledged? -/
def freeR (rs : List Rg) (a b : PK) : Bool := !(rs.reverse.any fun x => decide ((if a.n + 1 < x.lo then x.lo else a.n + 1) ≤ (if b.n - 1 < x.hi then b.n - 1 else x.hi)))
theorem freeR_iff {rs : List Rg} {a b : PK} (h : ∀ r ∈ rs, r.lo ≤ r.hi) : freeR rs a b = true ↔ ∀ m : Int, a.n < m → m < b.n → ¬ memR m rs := by
  unfold freeR
  rw [Bool.not_eq_true', List.any_eq_false]
  simp only [decide_eq_true_eq, List.mem_reverse]
  constructor
  · rintro k m h1 h2 ⟨x, hx, h3, h4⟩
    have hl := h x hx
    have hk := k x hx
    split at hk <;> split at hk <;> omega
  · rintro k x hx hc
    have := h x hx
    refine k (if a.n + 1 < x.lo then x.lo else a.n + 1) (by split <;> omega) ?_ ⟨x, hx, by split <;> omega, ?_⟩
    · split at hc <;> split at hc <;> split <;> omega
    · split at hc <;> split at hc <;> split <;> omega
def pairOk (rs : List Rg) (first : Int) (a b : PK) : Bool := counts first a && counts first b && decide (a.t ≤ b.t) && freeR rs a b
def pairsL (rs : List Rg) (first : Int) : List PK → List (PK × PK)
  | [] => []
  | a :: ps => ((ps.filter fun b => pairOk rs first a b).map fun b => (a, b)) ++ pairsL rs first ps
/-- What is kept of a pair. -/
structure Per where
  d : Int
  lo : Int
  hi : Int
  some : Bool
  deriving DecidableEq
def Per.none : Per := ⟨0, 0, 0, false⟩
def keepP (st : Per) (x : PK × PK) : Per := if !st.some || decide (st.d < x.2.t - x.1.t) then ⟨x.2.t - x.1.t, x.1.n, x.2.n, true⟩ else st
/-- The period. -/
def periodR (rs : List Rg) (first : Int) (ps : List PK) : Per := (pairsL rs first ps).foldl keepP Per.none
theorem pairsL_mem {rs : List Rg} {first : Int} : ∀ {ps : List PK} {x : PK × PK}, x ∈ pairsL rs first ps → x.1 ∈ ps ∧ x.2 ∈ ps ∧ pairOk rs first x.1 x.2 = true
  | [], x, h => by simp [pairsL] at h
  | a :: ps, x, h => by
    rcases List.mem_append.1 h with h | h
    · obtain ⟨b, hb, rfl⟩ := List.mem_map.1 h
      obtain ⟨h1, h2⟩ := List.mem_filter.1 hb
      exact ⟨by simp, by simp [h1], h2⟩
    · obtain ⟨h1, h2, h3⟩ := pairsL_mem h
      exact ⟨by simp [h1], by simp [h2], h3⟩
end Go.Proofs.Ytkmfhcjdajbbhaa
