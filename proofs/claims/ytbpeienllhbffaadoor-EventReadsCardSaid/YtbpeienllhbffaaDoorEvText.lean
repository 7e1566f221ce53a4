/-
  event.Text, event.Count: their walks.
-/
import Derived.Test.YtbpeienllhbffaaDoorEvLine
import Derived.Test.YtbpeienllhbffaaDoorCfText
namespace Go.Proofs.YtbpeienllhbffaaDoor
set_option linter.unusedSimpArgs false
set_option linter.unusedVariables false
open Go.RowKit Go.Shelf

/-- A row of events, in memory. -/
def EvsAt (w : World) (a : Option Addr) (es : List EV) : Prop := es = [] ∨ ∃ xb xo, a = some ⟨xb, xo, none⟩ ∧ xb < w.heap.size ∧ ∀ (i : Nat) (e : EV), es[i]? = some e → w.cell? ⟨xb, xo + i * 4, none⟩ = some (.int .i64 e.kind) ∧ w.cell? ⟨xb, xo + i * 4 + 1, none⟩ = some (.int .i64 e.sp) ∧ w.cell? ⟨xb, xo + i * 4 + 2, none⟩ = some (.int .i64 e.num) ∧ w.cell? ⟨xb, xo + i * 4 + 3, none⟩ = some (.int .i64 e.n)
theorem EvsAt.below {w w' : World} {a : Option Addr} {es : List EV} {b : Nat} (h : EvsAt w a es) (hb : Below b w w') (hx : ∀ xb xo, a = some ⟨xb, xo, none⟩ → es ≠ [] → xb < b) : EvsAt w' a es := by
  rcases h with rfl | ⟨xb, xo, rfl, hl, hc⟩
  · exact .inl rfl
  · by_cases hn : es = []
    · exact .inl hn
    · have hxb := hx xb xo rfl hn
      have key : ∀ o, w'.cell? ⟨xb, o, none⟩ = w.cell? ⟨xb, o, none⟩ := fun o => hb.cell (p := ⟨xb, o, none⟩) hxb
      refine .inr ⟨xb, xo, rfl, Nat.lt_of_lt_of_le hl hb.size, fun i e hi => ?_⟩
      rw [key, key, key, key]
      exact hc i e hi
theorem EvsAt.later {w w' : World} {a : Option Addr} {es : List EV} (h : EvsAt w a es) (hb : Below w.heap.size w w') : EvsAt w' a es := by
  rcases h with rfl | ⟨xb, xo, rfl, hl, hc⟩
  · exact .inl rfl
  · exact EvsAt.below (.inr ⟨xb, xo, rfl, hl, hc⟩) hb (fun _ _ e _ => by cases e; exact hl)
theorem EvsAt.lt {w : World} {a : Option Addr} {es : List EV} (h : EvsAt w a es) : ∀ xb xo, a = some ⟨xb, xo, none⟩ → es ≠ [] → xb < w.heap.size := by
  intro xb xo ha hn
  rcases h with h | ⟨yb, yo, rfl, hl, _⟩
  · exact absurd h hn
  · cases ha
    exact hl
def textE (es : List EV) : List UInt8 := es.flatMap lineE
theorem textE_snoc (es : List EV) (e : EV) : textE (es ++ [e]) = textE es ++ lineE e := by unfold textE; rw [List.flatMap_append]; simp
def textRes (es : List EV) : Value := if 4000 < es.length then .tuple #[.string ⟨#[]⟩, .int .i64 5] else if es.all okEV then .tuple #[.string (mkB (textE es)), .int .i64 0] else .tuple #[.string ⟨#[]⟩, .int .i64 2]
theorem line_len {e : EV} (he : e.small) : (lineE e).length ≤ 80 := by
  unfold lineE
  split
  · simp
  · rename_i k hk
    have h1 := word_len k
    have h2 := nums_len he (fieldsF k)
    have h3 : (fieldsF k).length ≤ 3 := by unfold fieldsF; split <;> simp
    rw [List.length_append, List.length_append, ← Lib.size_eq]
    simp only [List.length_cons, List.length_nil]
    omega
theorem text_len : ∀ (es : List EV), (∀ e ∈ es, e.small) → (textE es).length ≤ 80 * es.length
  | [], _ => by simp [textE]
  | e :: es, h => by
    have h1 := text_len es (fun x hx => h x (List.mem_cons_of_mem _ hx))
    have h2 := line_len (h e (by simp))
    have e1 : textE (e :: es) = lineE e ++ textE es := by unfold textE; rw [List.flatMap_cons]
    rw [e1, List.length_append, List.length_cons]
    omega
/-- What a round of Text leaves. -/
structure TeAt (w W : World) (b : Nat) (a : Option Addr) (es : List EV) (l : List UInt8) : Prop where
  env : Env W
  ev : EvsAt W a es
  bd : Lib.IsBuilderF 72 5 b b (Lib.byteCells l) W
  bl : Below w.heap.size w W
  ge : w.heap.size ≤ b
  six : 6 ≤ w.heap.size
  lt : b < W.heap.size
  xa : ∀ xb xo, a = some ⟨xb, xo, none⟩ → es ≠ [] → xb < b
theorem TeAt.below {w W W' : World} {b : Nat} {a : Option Addr} {es : List EV} {l : List UInt8} (h : TeAt w W b a es l) (hb : Below W.heap.size W W') : TeAt w W' b a es l := ⟨h.env.later hb, h.ev.later hb, bldF_below h.bd hb, below2 h.bl hb, h.ge, h.six, Nat.lt_of_lt_of_le h.lt hb.size, h.xa⟩
theorem TeAt.write {w W W' : World} {b : Nat} {a : Option Addr} {es : List EV} {l l' : List UInt8} (h : TeAt w W b a es l) (hbd : Lib.IsBuilderF 72 5 b b (Lib.byteCells l') W') (hb : Below b W W') : TeAt w W' b a es l' :=
  ⟨h.env.below hb (Nat.le_trans h.six h.ge), h.ev.below hb h.xa, hbd, h.bl.trans (hb.mono h.ge), h.ge, h.six, Nat.lt_of_lt_of_le h.lt hb.size, h.xa⟩
set_option maxRecDepth 100000 in
set_option maxHeartbeats 4000000 in
theorem evtext_any (a : Option Addr) (cap : Nat) (es : List EV) (w : World) (hE : Env w) (he : EvsAt w a es) (hs : ∀ e ∈ es, e.small) (hn : es.length ≤ 4611686018427387904) : Calls Tryd.prog 19 #[.slice a es.length cap] w fun x w' => x = .returned (textRes es) ∧ Below w.heap.size w w' := by
  have HE := hide hE
  have HEV := hide he
  have HS := hide hs
  obtain ⟨N, hN⟩ : ∃ N, es.length = N := ⟨_, rfl⟩
  obtain ⟨res, hres⟩ : ∃ r, textRes es = r := ⟨_, rfl⟩
  have HRES := hide hres
  have HN := hide hN
  rw [hN] at hn ⊢
  rw [hres]
  clear hE he hs hres hN
  by_cases hbig : 4000 < N
  · have hbi : (4000 : Int) < (N : Int) := by omega
    have hr : res = .tuple #[.string ⟨#[]⟩, .int .i64 5] := by
      rw [← HRES.out]
      unfold textRes
      rw [if_pos (by rw [HN.out]; exact hbig)]
    subst hr
    go_enter Tryd.func19, Tryd.ntmps19
    go_wp2_with fail
    exact bodyPost_ret (v := .tuple #[.string ⟨#[]⟩, .int .i64 5]) (by simp [results, Tryd.results19, go_sem]) rfl ⟨rfl, Below.refl _ _⟩
  · have hbi : ¬ (4000 : Int) < (N : Int) := by omega
    have hr : res = if es.all okEV then .tuple #[.string (mkB (textE es)), .int .i64 0] else .tuple #[.string ⟨#[]⟩, .int .i64 2] := by
      rw [← HRES.out]
      unfold textRes
      rw [if_neg (by rw [HN.out]; exact hbig)]
    have HR := hide hr
    have h0 : TeAt w (w.alloc (.cells #[.pointer none, .slice none 0 0] 72)) w.heap.size a es [] := by
      have ha : Below w.heap.size w (w.alloc (.cells #[.pointer none, .slice none 0 0] 72)) := (Below.refl _ _).alloc (Nat.le_refl _) _
      exact ⟨HE.out.later ha, HEV.out.later ha, Lib.IsBuilderF.of (Lib.fresh_isBuilder 72 5 w), ha, Nat.le_refl _, HE.out.size, by simp, HEV.out.lt⟩
    have H0 := hide h0
    clear HRES hr h0
    go_enter Tryd.func19, Tryd.ntmps19
    go_wp2_with fail
    go_loopg [14] N (fun kx s14 wr => ∃ k : Nat, s14 = .int .i64 k ∧ k ≤ N ∧ N - k ≤ kx ∧ Hid ((es.take k).all okEV = true) ∧ TeAt w wr w.heap.size a es (textE (es.take k)))
    case atStart => exact ⟨0, rfl, by omega, by omega, rfl, H0.out⟩
    case round =>
      obtain ⟨k, rfl, hk, hkx, hall, hT⟩ := hrel
      have HT := hide hT
      clear hT
      by_cases hlt : k < N
      · have hlti : (k : Int) < (N : Int) := by omega
        have hk0 : (0 : Int) ≤ (k : Int) := by omega
        obtain ⟨e, hek⟩ : ∃ e, es[k]? = some e := ⟨_, List.getElem?_eq_getElem (by rw [HN.out]; exact hlt)⟩
        have hmem := List.mem_of_getElem? hek
        have hes := HS.out e hmem
        have hne : es ≠ [] := by intro h; rw [h] at hek; simp at hek
        obtain ⟨xb, xo, rfl, hxl, z0, z1, z2, z3⟩ : ∃ xb xo, a = some ⟨xb, xo, none⟩ ∧ xb < wr.heap.size ∧ wr.cell? ⟨xb, xo + k * 4, none⟩ = some (.int .i64 e.kind) ∧ wr.cell? ⟨xb, xo + k * 4 + 1, none⟩ = some (.int .i64 e.sp) ∧ wr.cell? ⟨xb, xo + k * 4 + 2, none⟩ = some (.int .i64 e.num) ∧ wr.cell? ⟨xb, xo + k * 4 + 3, none⟩ = some (.int .i64 e.n) := by
          rcases HT.out.ev with h | ⟨xb, xo, ha, hl, hc⟩
          · exact absurd h hne
          · exact ⟨xb, xo, ha, hl, hc k e hek⟩
        have htk : es.take (k + 1) = es.take k ++ [e] := by rw [List.take_add_one, hek]; rfl
        have hll := line_len hes
        have htl := text_len (es.take k) (fun x hx => HS.out x (List.mem_of_mem_take hx))
        have htn : (es.take k).length ≤ 4000 := by rw [List.length_take]; omega
        have HLN := hide (fun W E => line_any e W E hes)
        have hax : Below wr.heap.size wr (wr.alloc (.cells (evC e) 36)) := (Below.refl _ _).alloc (Nat.le_refl _) _
        have HT1 := hide (HT.out.below hax)
        have hra : errEV e = 2 → es.all okEV = false := fun h => by
          rw [Bool.eq_false_iff]
          intro h2
          rw [List.all_eq_true] at h2
          have := h2 e hmem
          unfold errEV at h
          rw [this] at h
          simp at h
        have hoe : errEV e = 0 → okEV e = true := fun h => by
          unfold errEV at h
          by_cases hx : okEV e = true
          · exact hx
          · rw [if_neg hx] at h
            omega
        obtain ⟨kind, sp, num, n⟩ := e
        simp only [evC] at HT1 HLN
        simp only [] at z0 z1 z2 z3
        clear hes hek hmem hne hax HT
        rcases errEV_two ⟨kind, sp, num, n⟩ with her | her
        · rw [her, if_pos rfl] at HLN
          have hok := hoe her
          have hall2 : (es.take (k + 1)).all okEV = true := by
            rw [htk, List.all_append, hall.out]
            simp [hok]
          have HA2 := hide hall2
          have htx : textE (es.take (k + 1)) = textE (es.take k) ++ lineE ⟨kind, sp, num, n⟩ := by rw [htk, textE_snoc]
          have HTX := hide htx
          have hsz : (mkB (lineE ⟨kind, sp, num, n⟩)).size ≤ 80 := by rw [Lib.size_eq, mkB_data]; exact hll
          have hsd : (mkB (lineE ⟨kind, sp, num, n⟩)).data.toList = lineE ⟨kind, sp, num, n⟩ := rfl
          obtain ⟨ln, hln⟩ : ∃ z, mkB (lineE ⟨kind, sp, num, n⟩) = z := ⟨_, rfl⟩
          rw [hln] at HLN hsz hsd
          have HSD := hide hsd
          clear her hra hoe hok hall2 htx hll hln hsd htk
          go_wp2_with fail
          refine (HLN.out _ HT1.out.env).mono ?_
          rintro e1 w1 ⟨rfl, hb1⟩
          have HT2 := hide (HT1.out.below hb1)
          clear hb1 HT1 HLN z0 z1 z2 z3
          go_wp2_with fail
          refine (Tryd.Builder_WriteString_k w.heap.size w.heap.size (Lib.byteCells (textE (es.take k))) ln w1 HT2.out.bd (by rw [Lib.byteCells_length]; omega) (Nat.le_of_lt HT2.out.lt)).mono ?_
          rintro e7 w7 ⟨rfl, hbd7, hb7, ho7⟩
          have HT7 := hide (HT2.out.write (l' := textE (es.take (k + 1))) (by rw [HTX.out, Lib.byteCells_append, ← HSD.out]; exact .inr hbd7) hb7)
          clear hbd7 hb7 ho7 HT2
          go_wp2_with fail
          go_roundg (N - (k + 1))
          case rel => exact ⟨k + 1, by go_num, by omega, by omega, HA2.out, HT7.out⟩
          case measure => omega
        · rw [her, if_neg (by omega)] at HLN
          have hr : res = .tuple #[.string ⟨#[]⟩, .int .i64 2] := by
            rw [HR.out, hra her]
            rfl
          subst hr
          clear her hra hoe htk hll
          go_wp2_with fail
          refine (HLN.out _ HT1.out.env).mono ?_
          rintro e1 w1 ⟨rfl, hb1⟩
          have HT2 := hide (HT1.out.below hb1)
          clear hb1 HT1 HLN z0 z1 z2 z3
          go_wp2_with fail
          exact bodyPost_ret (v := .tuple #[.string ⟨#[]⟩, .int .i64 2]) (by simp [results, Tryd.results19, go_sem]) rfl ⟨rfl, HT2.out.bl⟩
      · have hkN : k = N := by omega
        subst hkN
        have htk : es.take k = es := List.take_of_length_le (by rw [HN.out]; exact Nat.le_refl _)
        have ha := hall.out
        rw [htk] at ha
        have hr : res = .tuple #[.string (mkB (textE es)), .int .i64 0] := by
          rw [HR.out, ha]
          rfl
        have HST := hide (Any.Builder_String_any_k Tryd.lays169 Tryd.Builder_Extra_169 w.heap.size w.heap.size (textE (es.take k)) wr HT.out.bd (Nat.le_of_lt HT.out.lt))
        rw [htk] at HST HT
        obtain ⟨tx, htx⟩ : ∃ z, mkB (textE es) = z := ⟨_, rfl⟩
        have htx2 : (⟨(textE es).toArray⟩ : ByteArray) = tx := htx
        rw [htx] at hr
        rw [htx2] at HST
        subst hr
        clear htk ha htx htx2 hall
        go_wp2_with fail
        refine HST.out.mono ?_
        rintro e4 w4 ⟨rfl, _, hb4, _⟩
        have HB4 := hide (HT.out.bl.trans (hb4.mono HT.out.ge))
        clear hb4 HST
        go_wp2_with fail
        exact bodyPost_ret (v := .tuple #[.string tx, .int .i64 0]) (by simp [results, Tryd.results19, go_sem]) rfl ⟨rfl, HB4.out⟩
end Go.Proofs.YtbpeienllhbffaaDoor
