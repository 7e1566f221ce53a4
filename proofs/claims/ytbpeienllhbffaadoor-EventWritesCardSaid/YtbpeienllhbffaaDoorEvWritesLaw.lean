/-
  The law EventWrites: its walk.
-/
import Derived.Test.YtbpeienllhbffaaDoorEvRefText
import Derived.Test.YtbpeienllhbffaaDoorEvPartsLaw
namespace Go.Proofs.YtbpeienllhbffaaDoor
set_option linter.unusedSimpArgs false
set_option linter.unusedVariables false
open Go.RowKit Go.Shelf
theorem evs_of_rows {w : World} {a : Option Addr} {len : Nat} (h : RowsK w a len [some .i64, some .i64, some .i64, some .i64]) : ∃ es : List EV, es.length = len ∧ EvsAt w a es ∧ ∀ e ∈ es, e.small := by
  obtain ⟨h1, h2⟩ := h
  by_cases h0 : len = 0
  · exact ⟨[], by simp [h0], .inl rfl, by simp⟩
  · obtain ⟨xb, xo, ha, hb, hc⟩ := h2 (by omega)
    have key : ∀ i, ∃ e : EV, i < len → e.small ∧ w.cell? ⟨xb, xo + i * 4, none⟩ = some (.int .i64 e.kind) ∧ w.cell? ⟨xb, xo + i * 4 + 1, none⟩ = some (.int .i64 e.sp) ∧ w.cell? ⟨xb, xo + i * 4 + 2, none⟩ = some (.int .i64 e.num) ∧ w.cell? ⟨xb, xo + i * 4 + 3, none⟩ = some (.int .i64 e.n) := by
      intro i
      by_cases hi : i < len
      · obtain ⟨x, hx, x0, x1⟩ := (hc i hi 0 _ rfl).i64
        obtain ⟨y, hy, y0, y1⟩ := (hc i hi 1 _ rfl).i64
        obtain ⟨z, hz, z0, z1⟩ := (hc i hi 2 _ rfl).i64
        obtain ⟨u, hu, u0, u1⟩ := (hc i hi 3 _ rfl).i64
        exact ⟨⟨x, y, z, u⟩, fun _ => ⟨fun j => by rcases j with _ | _ | _ | j <;> simp only [EV.get] <;> omega, hx, hy, hz, hu⟩⟩
      · exact ⟨⟨0, 0, 0, 0⟩, fun h => absurd h hi⟩
    have hget : ∀ (i : Nat) (e : EV), ((List.range len).map fun i => Classical.choose (key i))[i]? = some e → i < len ∧ e = Classical.choose (key i) := fun i e hi => by
      rw [List.getElem?_map] at hi
      have hl : i < len := by
        rcases Nat.lt_or_ge i len with h | h
        · exact h
        · rw [List.getElem?_eq_none (by simpa using h)] at hi
          simp at hi
      rw [List.getElem?_range hl] at hi
      simp only [Option.map_some, Option.some.injEq] at hi
      exact ⟨hl, hi.symm⟩
    refine ⟨(List.range len).map fun i => Classical.choose (key i), by simp, .inr ⟨xb, xo, ha, hb, fun i e hi => ?_⟩, fun e he => ?_⟩
    · obtain ⟨hl, rfl⟩ := hget i e hi
      exact (Classical.choose_spec (key i) hl).2
    · obtain ⟨i, hi⟩ := List.getElem?_of_mem he
      obtain ⟨hl, rfl⟩ := hget i e hi
      exact (Classical.choose_spec (key i) hl).1
theorem EvsAt.cutTo {w : World} {a : Option Addr} {es : List EV} (h : EvsAt w a es) (k : Nat) : EvsAt w a (es.take k) := by
  rcases h with rfl | ⟨xb, xo, rfl, hl, hc⟩
  · exact .inl (by simp)
  · refine .inr ⟨xb, xo, rfl, hl, fun i e hi => ?_⟩
    rw [List.getElem?_take] at hi
    split at hi
    · exact hc i e hi
    · cases hi
/-- What the law keeps. -/
structure WrSt (w W : World) (a b : Option Addr) (es : List EV) : Prop where
  env : Env W
  ea : EvsAt W a es
  eb : EvsAt W b es
  bl : Below w.heap.size w W
theorem WrSt.later {w W W' : World} {a b : Option Addr} {es : List EV} (h : WrSt w W a b es) (hb : Below W.heap.size W W') : WrSt w W' a b es := ⟨h.env.later hb, h.ea.later hb, h.eb.later hb, below2 h.bl hb⟩
theorem WrSt.drew {w W : World} {a b : Option Addr} {es : List EV} (h : WrSt w W a b es) : WrSt w W.drew a b es := h.later (below_drewN (Below.refl _ _) 1)
theorem WrCells {w W : World} {xb xo : Nat} {b : Option Addr} {es : List EV} {k : Nat} {e0 e1 e2 e3 : Int} (h : WrSt w W (some ⟨xb, xo, none⟩) b es) (hk : es[k]? = some ⟨e0, e1, e2, e3⟩) :
    W.cell? ⟨xb, xo + k * 4, none⟩ = some (.int .i64 e0) ∧ W.cell? ⟨xb, xo + k * 4 + 1, none⟩ = some (.int .i64 e1) ∧ W.cell? ⟨xb, xo + k * 4 + 2, none⟩ = some (.int .i64 e2) ∧ W.cell? ⟨xb, xo + k * 4 + 3, none⟩ = some (.int .i64 e3) := by
  obtain ⟨yb, yo, hy, _, z0, z1, z2, z3⟩ := h.ea.at hk
  cases hy
  exact ⟨z0, z1, z2, z3⟩
set_option maxRecDepth 100000 in
set_option maxHeartbeats 8000000 in
theorem writes_law (a : Option Addr) (la ca : Nat) (ls : List EV) (kind : Int) (w : World) (hE : Env w) (hla : ls.length = la) (hev : EvsAt w a ls) (hsm : ∀ e ∈ ls, e.small) (hma : la ≤ 9223372036854775807) (hca : la ≤ ca) (hna : a = none → ca = 0) :
    Calls Tryd.prog 7 #[.slice a la ca, .int .i64 kind] w fun x w' => x = .returned (.bool true) ∧ Below w.heap.size w w' := by
  have HE := hide hE
  obtain ⟨N, hNi, hN0, hN1⟩ : ∃ L : Nat, (if (200 : Int) < (la : Int) then (200 : Int) else (la : Int)) = (L : Int) ∧ L ≤ la ∧ L ≤ 200 := ⟨min la 200, by split <;> omega, by omega, by omega⟩
  have hNm : min (la : Int) 200 = (N : Int) := by rw [← hNi]; split <;> omega
  have hNt : (min (la : Int) 200).toNat = N := by rw [hNm]; rfl
  have hea := hev.cutTo N
  have hlen : (ls.take N).length = N := by rw [List.length_take, hla]; omega
  have hsm2 : ∀ e ∈ ls.take N, e.small := fun e he => hsm e (List.mem_of_mem_take he)
  obtain ⟨es, hes⟩ : ∃ x, ls.take N = x := ⟨_, rfl⟩
  rw [hes] at hea hlen hsm2
  have HEA := hide hea
  have HS := hide hsm2
  have HN := hide hlen
  have hra := evs_reads hea
  rw [hlen] at hra
  have HT := hide (fun A c W hW hA => evtext_any A c es W hW hA hsm2 (by omega))
  have HR := hide (fun A c W hA => rtext_any A c es W hA hsm2 (by omega))
  have HQ := hide (fun A B c d W hA hB => evequal_any A B c d es es W hA hB (by omega) (by omega))
  simp only [decide_true] at HQ
  have HC := hide (fun A c W hA => count_any A c es kind W hA (by omega))
  have HD := hide (fun A c W hA => rcount_any A c es kind W hA (by omega))
  have hcl := cntE_le es kind
  obtain ⟨p, hp⟩ : ∃ x, cntE es kind = x := ⟨_, rfl⟩
  have hres : ∃ t er, textRes es = .tuple #[.string t, .int .i64 er] := by
    unfold textRes
    split
    · exact ⟨_, _, rfl⟩
    · split
      · exact ⟨_, _, rfl⟩
      · exact ⟨_, _, rfl⟩
  obtain ⟨t, er, htr⟩ := hres
  rw [htr, hlen] at HT HR
  rw [hlen] at HQ
  rw [hp, hlen] at HC HD
  rw [hp, hlen] at hcl
  obtain ⟨i0, hi0, hz0, hz1, hz2⟩ := info_parts ev_info
  clear hE hla hev hsm hea hlen hsm2 hes hp htr
  go_enter Tryd.func7, Tryd.ntmps7
  go_wp2_with (at_builtin; refine wpList_append_any _ rfl (.tmp 20) (.tmp 21) _ rfl w.heap.size 36 i0 _ 4 32 Tryd.underlying22 hi0 hz0 hz1 hz2 rfl (by decide) (.slice none 0 0) 0 [] rfl ⟨rfl, .inl ⟨rfl, rfl⟩⟩ w.heap.size a N ca (evsC es) rfl (by exact hra) (evsC_one es) (by unfold maxLen; omega) (by omega) (Nat.le_refl _) ?_; intro v5 w5 hown5 hg5 hat5)
  have hb5 := Below.grown (Below.refl w.heap.size w) hg5 (Nat.le_refl _) (fun x hx => by simp [Value.ownBlock] at hx)
  rw [Nat.zero_add, List.nil_append] at hown5
  obtain ⟨B, cB, rfl⟩ := own_slice6 hown5
  have hst : WrSt w w5 a B es := ⟨HE.out.later hb5, HEA.out.later hb5, own_evs HN.out hown5, hb5⟩
  have HST := hide hst
  clear hra hown5 hg5 hat5 hb5 hst HE HEA hNi hNm hNt
  go_loopg [6] N (fun kx s6 wr => ∃ k : Nat, s6 = .int .i64 k ∧ k ≤ N ∧ N - k ≤ kx ∧ WrSt w wr a B es)
  case atStart => exact ⟨0, rfl, by omega, by omega, HST.out⟩
  case round =>
    obtain ⟨k, rfl, hk, hkx, hs⟩ := hrel
    by_cases hlt : k < N
    · have hlti : (k : Int) < (N : Int) := by omega
      have hk0 : (0 : Int) ≤ (k : Int) := by omega
      obtain ⟨e, hek⟩ : ∃ e, es[k]? = some e := ⟨_, List.getElem?_eq_getElem (by rw [HN.out]; exact hlt)⟩
      have hsmall := HS.out e (List.mem_of_getElem? hek)
      obtain ⟨xb, xo, rfl, hxl, z0, z1, z2, z3⟩ := hs.ea.at hek
      have HL := hide (fun W hW => line_any e W hW hsmall)
      have HM := hide (fun W => rline_any e W)
      have HC1 := hide (fun W => evcheck_any e W)
      have HC2 := hide (fun W => rcheck_any e W)
      have hl : ∃ q r, (if errEV e = 0 then Value.tuple #[.string (mkB (lineE e)), .int .i64 0] else .tuple #[.string ⟨#[]⟩, .int .i64 2]) = .tuple #[.string q, .int .i64 r] ∧ lineRes e = .tuple #[.string q, .int .i64 r] := by
        unfold lineRes
        by_cases hok : okEV e = true
        · rw [errEV_yes hok, if_pos rfl, if_pos hok]
          exact ⟨_, _, rfl, rfl⟩
        · rw [errEV_no (by simpa using hok), if_neg (by omega), if_neg hok]
          exact ⟨_, _, rfl, rfl⟩
      obtain ⟨q, r, hl1, hl2⟩ := hl
      rw [hl1] at HL
      rw [hl2] at HM
      obtain ⟨er1, her⟩ : ∃ x, errEV e = x := ⟨_, rfl⟩
      rw [her] at HC1 HC2
      obtain ⟨e0, e1, e2, e3⟩ := e
      simp only [evC] at HL HM HC1 HC2
      simp only [] at z0 z1 z2 z3
      have HEK := hide hek
      clear hek hsmall hl1 hl2 her HST
      go_wp2_with fail
      refine (HL.out _ hs.env).mono ?_
      rintro x1 w1 ⟨rfl, hb1⟩
      have hs1 := hs.later hb1
      obtain ⟨z0, z1, z2, z3⟩ := WrCells hs1 HEK.out
      have hxl1 := Nat.lt_of_lt_of_le hxl hb1.size
      clear hb1 hs hxl HL
      go_wp2_with fail
      refine (HM.out _).mono ?_
      rintro x2 w2 ⟨rfl, hb2⟩
      have hs := hs1.later hb2
      have hw := WrCells hs HEK.out
      clear hb2 hs1 hxl1 HM z0 z1 z2 z3
      obtain ⟨z0, z1, z2, z3⟩ := hw
      go_upto_region 9 with (fail)
      go_cut [65] (fun s65 wx => s65 = .bool false ∧ WrSt w wx (some ⟨xb, xo, none⟩) B es)
      case first =>
        go_region_held3 (fun w' => w'.cell? ⟨xb, xo + k * 4, none⟩ = some (.int .i64 e0) ∧ w'.cell? ⟨xb, xo + k * 4 + 1, none⟩ = some (.int .i64 e1) ∧ w'.cell? ⟨xb, xo + k * 4 + 2, none⟩ = some (.int .i64 e2) ∧ w'.cell? ⟨xb, xo + k * 4 + 3, none⟩ = some (.int .i64 e3)) (first | with_reducible exact WrCells hs HEK.out | with_reducible exact WrCells hs.drew HEK.out)
          (first
            | (go_at_call 21; with_reducible refine (HC1.out _).mono ?_; rintro y1 u1 ⟨rfl, hB1⟩; have hs := WrSt.later (by first | with_reducible exact hs | with_reducible exact hs.drew) hB1)
            | (go_at_call 25; with_reducible refine (HC2.out _).mono ?_; rintro y2 u2 ⟨rfl, hB2⟩; have hs := WrSt.later (by first | with_reducible exact hs | with_reducible exact hs.drew) hB2))
        all_goals go_wp2_with fail
        all_goals go_meet
        all_goals exact ⟨rfl, hs⟩
      case rest =>
        obtain ⟨rfl, hs⟩ := hcut
        clear z0 z1 z2 z3 HC1 HC2
        go_wp2_with fail
        go_roundg (N - (k + 1))
        case rel => exact ⟨k + 1, by go_num, by omega, by omega, hs⟩
        case measure => omega
    · obtain rfl : k = N := by omega
      clear HST
      go_wp2_with fail
      refine (HT.out B cB _ hs.env hs.eb).mono ?_
      rintro x1 w1 ⟨rfl, hb1⟩
      have hs1 := hs.later hb1
      clear hb1 hs HT
      go_wp2_with fail
      refine (HR.out a ca _ hs1.ea).mono ?_
      rintro x2 w2 ⟨rfl, hb2⟩
      have hs2 := hs1.later hb2
      clear hb2 hs1 HR
      go_wp2_with fail
      refine (HQ.out B a cB ca _ hs2.eb hs2.ea).mono ?_
      rintro x3 w3 ⟨rfl, hb3⟩
      have hs3 := hs2.later hb3
      clear hb3 hs2 HQ
      go_wp2_with fail
      refine (HC.out a ca _ hs3.ea).mono ?_
      rintro x4 w4 ⟨rfl, hb4⟩
      have hs4 := hs3.later hb4
      clear hb4 hs3 HC
      go_wp2_with fail
      refine (HD.out a ca _ hs4.ea).mono ?_
      rintro x5 w5 ⟨rfl, hb5⟩
      have hs5 := hs4.later hb5
      clear hb5 hs4 HD
      go_wp2_with fail
      refine (evworks_any _ hs5.env).mono ?_
      rintro x6 w6 ⟨rfl, hb6⟩
      have hs6 := hs5.later hb6
      clear hb6 hs5
      go_wp2_with fail
      exact bodyPost_ret (v := .bool true) (by simp [results, Tryd.results7, go_sem]) rfl ⟨rfl, hs6.bl⟩
end Go.Proofs.YtbpeienllhbffaaDoor
