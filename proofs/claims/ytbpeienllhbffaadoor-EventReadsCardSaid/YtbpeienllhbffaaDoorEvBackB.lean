/-
  event: a line that is read is written as it stands there.
-/
import Derived.Test.YtbpeienllhbffaaDoorEvBackPlain
namespace Go.Proofs.YtbpeienllhbffaaDoor
set_option linter.unusedSimpArgs false
set_option linter.unusedVariables false
open Go
theorem back_kind (k : Nat) (x : EV) (ws : List ByteArray) (hk : 1 ≤ k ∧ k ≤ 6) (hw : wordF k = partAt ws 0) (hl : ws.length = (fieldsF k).length + 1) (hx : evOf ws k = some x) : lineE x = glue ws ++ [10] := by
  have : k = 1 ∨ k = 2 ∨ k = 3 ∨ k = 4 ∨ k = 5 ∨ k = 6 := by omega
  rcases this with rfl | rfl | rfl | rfl | rfl | rfl
  · rcases ws with _ | ⟨a, _ | ⟨b, _ | ⟨c, _ | ⟨d, _ | ⟨g, ws⟩⟩⟩⟩⟩ <;> simp [fieldsF] at hl
    simp only [partAt, List.getD_cons_zero] at hw
    simp only [evOf, fieldsF, List.length_cons, List.length_nil, evN, partAt, List.getD_cons_succ, List.getD_cons_zero] at hx
    cases hb : numZ b with
    | none => simp [hb] at hx
    | some vb =>
    skip
    cases hc : numZ c with
    | none => simp [hb, hc] at hx
    | some vc =>
    skip
    cases hd : numZ d with
    | none => simp [hb, hc, hd] at hx
    | some vd =>
    skip
    simp [hb, hc, hd, EV.set, fSp, fNum, fSize, zeroEV] at hx
    subst hx
    simp [lineE, kindOf, numsL, fieldsF, fSp, fNum, fSize, EV.get, glue, hw, num_text hb, num_text hc, num_text hd]
  · rcases ws with _ | ⟨a, _ | ⟨b, _ | ⟨c, _ | ⟨d, _ | ⟨g, ws⟩⟩⟩⟩⟩ <;> simp [fieldsF] at hl
    simp only [partAt, List.getD_cons_zero] at hw
    simp only [evOf, fieldsF, List.length_cons, List.length_nil, evN, partAt, List.getD_cons_succ, List.getD_cons_zero] at hx
    cases hb : numZ b with
    | none => simp [hb] at hx
    | some vb =>
    skip
    cases hc : numZ c with
    | none => simp [hb, hc] at hx
    | some vc =>
    skip
    cases hd : numZ d with
    | none => simp [hb, hc, hd] at hx
    | some vd =>
    skip
    simp [hb, hc, hd, EV.set, fSp, fNum, fSize, zeroEV] at hx
    subst hx
    simp [lineE, kindOf, numsL, fieldsF, fSp, fNum, fSize, EV.get, glue, hw, num_text hb, num_text hc, num_text hd]
  · rcases ws with _ | ⟨a, _ | ⟨b, _ | ⟨c, _ | ⟨d, _ | ⟨g, ws⟩⟩⟩⟩⟩ <;> simp [fieldsF] at hl
    simp only [partAt, List.getD_cons_zero] at hw
    simp only [evOf, fieldsF, List.length_cons, List.length_nil, evN, partAt, List.getD_cons_succ, List.getD_cons_zero] at hx
    cases hb : numZ b with
    | none => simp [hb] at hx
    | some vb =>
    skip
    cases hc : numZ c with
    | none => simp [hb, hc] at hx
    | some vc =>
    skip
    simp [hb, hc, EV.set, fSp, fNum, fSize, zeroEV] at hx
    subst hx
    simp [lineE, kindOf, numsL, fieldsF, fSp, fNum, fSize, EV.get, glue, hw, num_text hb, num_text hc]
  · rcases ws with _ | ⟨a, _ | ⟨b, _ | ⟨c, _ | ⟨d, _ | ⟨g, ws⟩⟩⟩⟩⟩ <;> simp [fieldsF] at hl
    simp only [partAt, List.getD_cons_zero] at hw
    simp only [evOf, fieldsF, List.length_cons, List.length_nil, evN, partAt, List.getD_cons_succ, List.getD_cons_zero] at hx
    cases hb : numZ b with
    | none => simp [hb] at hx
    | some vb =>
    skip
    simp [hb, EV.set, fSp, fNum, fSize, zeroEV] at hx
    subst hx
    simp [lineE, kindOf, numsL, fieldsF, fSp, fNum, fSize, EV.get, glue, hw, num_text hb]
  · rcases ws with _ | ⟨a, _ | ⟨b, _ | ⟨c, _ | ⟨d, _ | ⟨g, ws⟩⟩⟩⟩⟩ <;> simp [fieldsF] at hl
    simp only [partAt, List.getD_cons_zero] at hw
    simp only [evOf, fieldsF, List.length_cons, List.length_nil, evN, partAt, List.getD_cons_succ, List.getD_cons_zero] at hx
    cases hb : numZ b with
    | none => simp [hb] at hx
    | some vb =>
    skip
    simp [hb, EV.set, fSp, fNum, fSize, zeroEV] at hx
    subst hx
    simp [lineE, kindOf, numsL, fieldsF, fSp, fNum, fSize, EV.get, glue, hw, num_text hb]
  · rcases ws with _ | ⟨a, _ | ⟨b, _ | ⟨c, _ | ⟨d, _ | ⟨g, ws⟩⟩⟩⟩⟩ <;> simp [fieldsF] at hl
    simp only [partAt, List.getD_cons_zero] at hw
    simp only [evOf, fieldsF, List.length_cons, List.length_nil, evN, partAt, List.getD_cons_succ, List.getD_cons_zero] at hx
    cases hb : numZ b with
    | none => simp [hb] at hx
    | some vb =>
    skip
    simp [hb, EV.set, fSp, fNum, fSize, zeroEV] at hx
    subst hx
    simp [lineE, kindOf, numsL, fieldsF, fSp, fNum, fSize, EV.get, glue, hw, num_text hb]
theorem read_back (s : ByteArray) (e : EV) (h : readE s = some e) : okEV e = true ∧ lineE e = s.data.toList ++ [10] := by
  have hg : glue (partsB s) = s.data.toList := glue_split _ s
  unfold readE at h
  rw [← hg]
  generalize partsB s = ws at h
  unfold readW at h
  split at h
  · cases h
  rename_i k hk
  split at h
  · cases h
  rename_i x hx
  split at h
  · rename_i hok
    injection h with h
    subst h
    refine ⟨hok, ?_⟩
    clear hok hg
    obtain ⟨⟨h1, h6⟩, hf⟩ := kindW_some.1 hk
    clear hk
    unfold fitsK at hf
    simp only [Bool.and_eq_true, decide_eq_true_eq] at hf
    obtain ⟨hw, hl⟩ := hf
    exact back_kind k x ws ⟨h1, h6⟩ hw hl hx
  · cases h
end Go.Proofs.YtbpeienllhbffaaDoor
