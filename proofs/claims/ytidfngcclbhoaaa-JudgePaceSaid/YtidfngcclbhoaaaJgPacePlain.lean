/-
  sounderlaw24: JudgePace, its plain law: of packets that go one behind the other, which one is found.
-/
import Derived.Test.YtidfngcclbhoaaaJgWorksB
namespace Go.Proofs.Ytidfngcclbhoaaa
set_option linter.unusedSimpArgs false
set_option linter.unusedVariables false
open Go.RowKit Go.Shelf
def pC : CF := ⟨false, 1200, 1048576, 16777216, 333000000, 25000000, 3, 12000, 256, 6⟩
def pRow (s i t : Int) : RW := ⟨1, t, 0, 0, ⟨0, i, s, false, true, false, false⟩, 0, none, 0, 0, false, 0, 0, 0, none, 0, 0, 0, 333000000⟩
def pX (s i t : Int) : RR := ⟨pRow s i t, [], []⟩
def tmJ (n1 : Nat) (t : Int) (j : Nat) : Int := if j < n1 then 0 else t
def rowsP (s t : Int) (n1 N : Nat) : List RR := (List.range N).map fun (j : Nat) => pX s (j : Int) (tmJ n1 t j)
def pcdsP (s t : Int) (n1 N : Nat) : List PCD := (List.range N).map fun (j : Nat) => (⟨tmJ n1 t j, s⟩ : PCD)
def pPie : List PIE := [⟨0, 1048576, 333000000⟩]
def okJ (s t : Int) (n1 j : Nat) : Bool := fitsP 12000 pPie (tmJ n1 t j) 0 (pcdsP s t n1 (j + 1)).reverse
theorem pcds_succ (s t : Int) (n1 N : Nat) : pcdsP s t n1 (N + 1) = pcdsP s t n1 N ++ [⟨tmJ n1 t N, s⟩] := by
  unfold pcdsP
  rw [List.range_succ, List.map_append]
  rfl
theorem rows_succ (s t : Int) (n1 N : Nat) : rowsP s t n1 (N + 1) = rowsP s t n1 N ++ [pX s (N : Int) (tmJ n1 t N)] := by
  unfold rowsP
  rw [List.range_succ, List.map_append]
  rfl
theorem rows_length (s t : Int) (n1 N : Nat) : (rowsP s t n1 N).length = N := by unfold rowsP; simp
theorem rows_at {s t : Int} {n1 N j : Nat} {x : RR} (h : (rowsP s t n1 N)[j]? = some x) : j < N ∧ x = pX s (j : Int) (tmJ n1 t j) := by
  have hj : j < N := by have := (List.getElem?_eq_some_iff.1 h).1; rwa [rows_length] at this
  refine ⟨hj, ?_⟩
  unfold rowsP at h
  rw [List.getElem?_map, List.getElem?_range hj] at h
  exact (Option.some.inj h).symm
/-- What is known when j packets have gone. -/
structure PcSt (s t : Int) (n1 j : Nat) (k : KN) : Prop where
  c : k.c = pC
  tt : k.t = if j ≤ n1 then 0 else t
  win : k.window = 1048576
  valid : k.valid = true
  shut : k.shut = false
  told : k.told = true
  pi : k.pieces = pPie
  pd : k.paced = pcdsP s t n1 j
  fl : flightP k.flying = j * s
  fln : k.flying.length = j
  flo : ∀ p ∈ k.flying, okP p
  last : k.last 0 = (j : Int) - 1
theorem pc_start (s t : Int) (n1 : Nat) : PcSt s t n1 0 (K0 pC 3) := by
  refine ⟨rfl, by rw [if_pos (Nat.zero_le _)]; rfl, rfl, rfl, rfl, rfl, rfl, rfl, by simp [K0, flightP], rfl, by simp [K0], by simp [K0]⟩
theorem tmJ_bd {n1 j : Nat} {t : Int} (h0 : 0 ≤ t) (h1 : t < 1048576) : 0 ≤ tmJ n1 t j ∧ tmJ n1 t j < 1048576 := by
  unfold tmJ
  split <;> omega
theorem tell_same {k : KN} {x : RR} (hk : k.told = true) (hx : x.r.smooth = 333000000) : tellK k x = k := by
  unfold tellK
  rw [hk, hx]
  obtain ⟨_, _, _, _, _, _, _, _, _, _, _, told, _, _⟩ := k
  simp only at hk
  subst hk
  rfl
theorem pc_step {s t : Int} {n1 j : Nat} {k : KN} (hs : 100 ≤ s ∧ s ≤ 1200) (ht : 0 ≤ t ∧ t < 1048576) (h : PcSt s t n1 j k) :
    (okJ s t n1 j = true → ∃ k', rowQ (tellK k (pX s j (tmJ n1 t j))) (pX s j (tmJ n1 t j)) = .ok k' ∧ PcSt s t n1 (j + 1) k') ∧ (okJ s t n1 j = false → rowQ (tellK k (pX s j (tmJ n1 t j))) (pX s j (tmJ n1 t j)) = .error 8) := by
  rw [tell_same h.told rfl]
  have hb := tmJ_bd (n1 := n1) (j := j) ht.1 ht.2
  have hlate : ¬ (tmJ n1 t j < k.t) := by
    rw [h.tt]
    unfold tmJ
    split <;> split <;> omega
  have hlast : ¬ ((j : Int) ≤ k.last 0) := by rw [h.last]; omega
  have hpo : plainOk { k with t := tmJ n1 t j } ⟨0, j, s, false, true, false, false⟩ (tmJ n1 t j) = okJ s t n1 j := by
    unfold plainOk okJ
    show (!k.told || fitsP k.c.burst k.pieces (tmJ n1 t j) 0 (k.paced ++ [(⟨tmJ n1 t j, s⟩ : PCD)]).reverse) = _
    rw [h.told, h.c, h.pi, h.pd, pcds_succ]
    rfl
  have hrow : rowQ k (pX s j (tmJ n1 t j)) = goesP (pRow s j (tmJ n1 t j)) [] [] (if okJ s t n1 j then .ok (sentK { k with t := tmJ n1 t j } ⟨0, j, s, false, true, false, false⟩ (tmJ n1 t j)) else .error 8) := by
    unfold rowQ
    rw [if_neg (show ¬ (pX s j (tmJ n1 t j)).r.t < k.t from hlate), if_pos (show (pX s j (tmJ n1 t j)).r.kind = 1 from rfl)]
    unfold sendsQ
    rw [if_neg (show ¬ (pX s j (tmJ n1 t j)).r.o.num ≤ KN.last _ 0 from hlast)]
    show goesP _ _ _ (if plainOk { k with t := tmJ n1 t j } ⟨0, j, s, false, true, false, false⟩ (tmJ n1 t j) = true then _ else _) = _
    rw [hpo]
    rfl
  rw [hrow]
  refine ⟨fun hok => ?_, fun hno => by rw [hno]; rfl⟩
  rw [hok]
  refine ⟨_, rfl, ?_⟩
  refine ⟨h.c, ?_, h.win, h.valid, h.shut, h.told, h.pi, ?_, ?_, ?_, ?_, ?_⟩
  · show tmJ n1 t j = _
    unfold tmJ
    by_cases hj : j < n1
    · rw [if_pos hj, if_pos (by omega)]
    · rw [if_neg hj, if_neg (by omega)]
  · show k.paced ++ [_] = _
    rw [h.pd, pcds_succ]
  · show flightP (k.flying ++ [_]) = _
    rw [flightP_snoc, h.fl]
    simp only [if_true]
    rw [Int.natCast_add, Int.add_mul]
    omega
  · show (k.flying ++ [_]).length = _
    rw [List.length_append, h.fln]
    rfl
  · intro p hp
    rcases List.mem_append.1 (show p ∈ k.flying ++ [(⟨⟨0, j, s, false, true, false, false⟩, tmJ n1 t j⟩ : PKT)] from hp) with hp | hp
    · exact h.flo p hp
    · rw [List.mem_singleton] at hp
      subst hp
      exact ⟨by show (1 : Int) ≤ s; omega, by show s ≤ 65535; omega⟩
  · show (j : Int) = ((j + 1 : Nat) : Int) - 1
    omega
theorem pc_ok {s t : Int} {n1 j : Nat} {k : KN} (hs : 100 ≤ s ∧ s ≤ 1200) (ht : 0 ≤ t ∧ t < 1048576) (hj : j ≤ 400) (h : PcSt s t n1 j k) : KnOk (tellK k (pX s j (tmJ n1 t j))) ∧ RowOk (tellK k (pX s j (tmJ n1 t j))) (pX s j (tmJ n1 t j)) := by
  rw [tell_same h.told rfl]
  have hb := tmJ_bd (n1 := n1) (j := j) ht.1 ht.2
  refine ⟨⟨h.shut, h.valid, h.flo, by rw [h.fln]; omega, ?_, ?_, ?_, by rw [h.pi]; decide, by rw [h.c]; decide, by rw [h.win]; decide⟩, ⟨rfl, rfl, by show (0 : Nat) ≤ 2000; omega, rfl, by show (0 : Nat) ≤ 2000; omega, rfl, ⟨hb.1, by show tmJ n1 t j ≤ _; omega⟩, .inl ⟨rfl, rfl, rfl, ⟨by show (0 : Int) ≤ j; omega, by show (j : Int) ≤ _; omega⟩, ⟨by show (1 : Int) ≤ s; omega, by rw [h.c]; show s ≤ 1200; omega⟩, rfl, rfl, ?_⟩⟩⟩
  · rw [h.pd]
    intro p hp
    unfold pcdsP at hp
    obtain ⟨i, _, rfl⟩ := List.mem_map.1 hp
    have := tmJ_bd (n1 := n1) (j := i) ht.1 ht.2
    exact ⟨⟨this.1, by show tmJ n1 t i ≤ _; omega⟩, by show (1 : Int) ≤ s; omega, by show s ≤ 65535; omega⟩
  · rw [h.pd]
    unfold pcdsP
    simp
    omega
  · rw [h.pi]
    intro p hp
    simp [pPie] at hp
    subst hp
    simp [okPie]
  · intro _
    rw [h.fl, h.win]
    show (j : Int) * s + s ≤ 1048576
    have : (j : Int) * s ≤ 400 * 1200 := Int.mul_le_mul (by omega) hs.2 (by omega) (by omega)
    omega
theorem look_fits {s t : Int} {n1 N : Nat} (hs : 100 ≤ s ∧ s ≤ 1200) (ht : 0 ≤ t ∧ t < 1048576) : ∀ (d j : Nat) (k : KN), j + d = N → PcSt s t n1 j k → (∀ i, j ≤ i → i < N → okJ s t n1 i = true) → lookP rowQ k ((rowsP s t n1 N).drop j) j = (-1, 0)
  | 0, j, k, hd, _, _ => by
    rw [List.drop_of_length_le (by rw [rows_length]; omega)]
    rfl
  | d + 1, j, k, hd, h, hok => by
    have hj : j < (rowsP s t n1 N).length := by rw [rows_length]; omega
    rw [List.drop_eq_getElem_cons hj, (rows_at (List.getElem?_eq_getElem hj)).2]
    obtain ⟨k', h1, h2⟩ := (pc_step hs ht h).1 (hok j (Nat.le_refl _) (by omega))
    unfold lookP
    rw [h1]
    exact look_fits hs ht d (j + 1) k' (by omega) h2 (fun i hi => hok i (by omega))
theorem look_finds {s t : Int} {n1 N : Nat} (hs : 100 ≤ s ∧ s ≤ 1200) (ht : 0 ≤ t ∧ t < 1048576) (hno : okJ s t n1 N = false) : ∀ (d j : Nat) (k : KN), j + d = N → PcSt s t n1 j k → (∀ i, j ≤ i → i < N → okJ s t n1 i = true) → lookP rowQ k ((rowsP s t n1 (N + 1)).drop j) j = ((N : Int), 8)
  | 0, j, k, hd, h, _ => by
    obtain rfl : j = N := by omega
    have hj : j < (rowsP s t n1 (j + 1)).length := by rw [rows_length]; omega
    rw [List.drop_eq_getElem_cons hj, (rows_at (List.getElem?_eq_getElem hj)).2]
    unfold lookP
    rw [(pc_step hs ht h).2 hno]
  | d + 1, j, k, hd, h, hok => by
    have hj : j < (rowsP s t n1 (N + 1)).length := by rw [rows_length]; omega
    rw [List.drop_eq_getElem_cons hj, (rows_at (List.getElem?_eq_getElem hj)).2]
    obtain ⟨k', h1, h2⟩ := (pc_step hs ht h).1 (hok j (Nat.le_refl _) (by omega))
    unfold lookP
    rw [h1]
    exact look_finds hs ht hno d (j + 1) k' (by omega) h2 (fun i hi => hok i (by omega))
theorem fits_rep (burst : Int) (ps : List PIE) (now tm s : Int) (hs : 0 ≤ s) : ∀ (m : Nat) (S : Int) (l : List PCD), fitsP burst ps now S (List.replicate m (⟨tm, s⟩ : PCD) ++ l) = ((m == 0 || decide (S + m * s ≤ addI burst (throughP ps tm now 0))) && fitsP burst ps now (S + m * s) l)
  | 0, S, l => by simp
  | m + 1, S, l => by
    rw [List.replicate_succ, List.cons_append, fitsP]
    have e : S + ((m + 1 : Nat) : Int) * s = S + s + (m : Int) * s := by rw [Int.natCast_add, Int.add_mul]; omega
    have hm : 0 ≤ (m : Int) * s := Int.mul_nonneg (by omega) hs
    rw [e]
    show (if addI burst (throughP ps tm now 0) < S + s then false else fitsP burst ps now (S + s) (List.replicate m ⟨tm, s⟩ ++ l)) = _
    obtain ⟨B, hB⟩ : ∃ B, addI burst (throughP ps tm now 0) = B := ⟨_, rfl⟩
    have ih := fits_rep burst ps now tm s hs m (S + s) l
    rw [hB] at ih ⊢
    by_cases h : B < S + s
    · rw [if_pos h, decide_eq_false (by omega)]
      rfl
    · rw [if_neg h, ih]
      by_cases h0 : m = 0
      · subst h0
        simp
        omega
      · rw [show (m == 0) = false by simpa using h0, show (m + 1 == 0) = false from rfl]
theorem pcds_rep (s t : Int) (n1 : Nat) : ∀ N, pcdsP s t n1 N = List.replicate (min N n1) (⟨0, s⟩ : PCD) ++ List.replicate (N - n1) (⟨t, s⟩ : PCD)
  | 0 => by simp [pcdsP]
  | N + 1 => by
    rw [pcds_succ, pcds_rep s t n1 N]
    unfold tmJ
    by_cases h : N < n1
    · rw [if_pos h, show N - n1 = 0 by omega, show N + 1 - n1 = 0 by omega, show min N n1 = N by omega, show min (N + 1) n1 = N + 1 by omega, List.replicate_succ']
      simp
    · rw [if_neg h, show min N n1 = n1 by omega, show min (N + 1) n1 = n1 by omega, show N + 1 - n1 = N - n1 + 1 by omega, List.replicate_succ', List.append_assoc]
theorem thr_same (tm : Int) (h : 0 ≤ tm) : addI 12000 (throughP pPie tm tm 0) = 12000 := by
  unfold pPie throughP throughP endP
  simp only
  rw [if_neg (by omega)]
  exact addI_in (by omega) (by omega) (by omega)
def mayP (t : Int) : Int := if 0 < t then 12000 + (5242880 * t + 1332000000 - 1) / 1332000000 + 1 else 12000
theorem thr_may (t : Int) (h : 0 ≤ t) (h1 : t < 1048576) : addI 12000 (throughP pPie 0 t 0) = mayP t := by
  unfold mayP
  by_cases h0 : 0 < t
  · rw [if_pos h0]
    unfold pPie throughP throughP endP onceP
    simp only
    rw [if_pos (by omega)]
    have e1 : (max 1 (numI (4 * 333000000))).toNat = 1332000000 := by rfl
    have e2 : ((5 : Int) * 1048576).toNat = 5242880 := by rfl
    have e3 : (t - max 0 0).toNat = t.toNat := by omega
    rw [e1, e2, e3]
    obtain ⟨T, rfl⟩ : ∃ T : Nat, t = T := ⟨t.toNat, by omega⟩
    rw [Int.toNat_natCast]
    have hup : upI 5242880 T 1332000000 = (5242880 * (T : Int) + 1332000000 - 1) / 1332000000 := by
      unfold upI divI
      have hq : ((5242880 * T / 1332000000 : Nat) : Int) ≤ 5000 := by omega
      split
      · rw [numI_in (by omega) (by omega)]
        omega
      · rw [numI_in (n := ((5242880 * T / 1332000000 : Nat) : Int)) (by omega) (by omega), numI_in (by omega) (by omega)]
        omega
    rw [hup]
    rw [addI_in (a := (5242880 * (T : Int) + 1332000000 - 1) / 1332000000) (by omega) (by omega) (by omega), addI_in (a := 0) (by omega) (by omega) (by omega), addI_in (by omega) (by omega) (by omega)]
    omega
  · rw [if_neg h0]
    obtain rfl : t = 0 := by omega
    exact thr_same 0 (by omega)
theorem okJ_first {s t : Int} {n1 j : Nat} (hs : 0 ≤ s) (hj : j < n1) (h : ((j + 1 : Nat) : Int) * s ≤ 12000) : okJ s t n1 j = true := by
  unfold okJ
  rw [pcds_rep, show min (j + 1) n1 = j + 1 by omega, show j + 1 - n1 = 0 by omega, List.replicate_zero, List.append_nil, List.reverse_replicate]
  have := fits_rep 12000 pPie (tmJ n1 t j) 0 s hs (j + 1) 0 []
  rw [List.append_nil] at this
  rw [this]
  rw [show tmJ n1 t j = 0 from if_pos hj, thr_same 0 (Int.le_refl _), decide_eq_true (by omega)]
  simp [fitsP]
theorem okJ_later {s t : Int} {n1 j : Nat} (hs : 0 ≤ s) (ht : 0 ≤ t ∧ t < 1048576) (h1 : 1 ≤ n1) (hj : n1 ≤ j) : okJ s t n1 j = (decide (((j + 1 - n1 : Nat) : Int) * s ≤ 12000) && decide (((j + 1 : Nat) : Int) * s ≤ mayP t)) := by
  unfold okJ
  rw [pcds_rep, show min (j + 1) n1 = n1 by omega, List.reverse_append, List.reverse_replicate, List.reverse_replicate, fits_rep _ _ _ _ _ hs]
  have h2 := fits_rep 12000 pPie (tmJ n1 t j) 0 s hs n1 (0 + ((j + 1 - n1 : Nat) : Int) * s) []
  rw [List.append_nil] at h2
  rw [h2, show tmJ n1 t j = t from if_neg (by omega), thr_same t ht.1, thr_may t ht.1 ht.2]
  rw [show (j + 1 - n1 == 0) = false by simp; omega, show (n1 == 0) = false by simp; omega]
  have e : 0 + ((j + 1 - n1 : Nat) : Int) * s + (n1 : Int) * s = ((j + 1 : Nat) : Int) * s := by
    rw [Int.zero_add, ← Int.add_mul, ← Int.natCast_add, show j + 1 - n1 + n1 = j + 1 by omega]
  rw [e, Int.zero_add]
  simp [fitsP]
end Go.Proofs.Ytidfngcclbhoaaa
