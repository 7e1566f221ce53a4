/-
  The statement SentPlays: its walk.
-/
import Derived.Test.YtcigkggdcogokaaSentPl
import Derived.Deep.CutBlock
namespace Go.Proofs.Ytcigkggdcogokaa
open Go.RowKit

def doKinds : List FK := [some .i64, some .i64, some .i64, some .i64, some .i64, some .i64, none, none, none]

theorem PlCells {w0 w : World} {b rb m room : Nat} {l1 l2 : Int} {ps1 ps2 : List Pk} {X : Nat} {z0 z1 z2 z3 z4 z5 : Int} {z6 z7 z8 : Bool} (hs : Pl2 w0 w b rb m room l1 ps1 l2 ps2 X #[.int .i64 z0, .int .i64 z1, .int .i64 z2, .int .i64 z3, .int .i64 z4, .int .i64 z5, .bool z6, .bool z7, .bool z8]) : w.cell? ⟨X, 0, none⟩ = some (.int .i64 z0) ∧ w.cell? ⟨X, 1, none⟩ = some (.int .i64 z1) ∧ w.cell? ⟨X, 2, none⟩ = some (.int .i64 z2) ∧ w.cell? ⟨X, 3, none⟩ = some (.int .i64 z3) ∧ w.cell? ⟨X, 4, none⟩ = some (.int .i64 z4) ∧ w.cell? ⟨X, 5, none⟩ = some (.int .i64 z5) ∧ w.cell? ⟨X, 6, none⟩ = some (.bool z6) ∧ w.cell? ⟨X, 7, none⟩ = some (.bool z7) ∧ w.cell? ⟨X, 8, none⟩ = some (.bool z8) := ⟨hs.bx.cell 0, hs.bx.cell 1, hs.bx.cell 2, hs.bx.cell 3, hs.bx.cell 4, hs.bx.cell 5, hs.bx.cell 6, hs.bx.cell 7, hs.bx.cell 8⟩

set_option maxRecDepth 100000 in
set_option maxHeartbeats 8000000 in
theorem sentplays_ok (room : Nat) (a : Option Addr) (len cap : Nat) (w : World) (hz : RowsK w a len doKinds) (h1 : 1 ≤ room) (h2 : room ≤ 256) :
    Calls Try.prog 7 #[.int .i64 room, .slice a len cap] w fun e w' => e = .returned (.bool true) ∧ Below w.heap.size w w' := by
  have hlen := hz.1
  have HZ := hide hz.2
  clear hz
  go_enter Try.func7, Try.ntmps7
  go_wp2_with fail
  refine (new_ok room _ h1 h2).mono ?_
  rintro e1 w1 ⟨b, rb1, rfl, hL1, hb, hrb1, hW1⟩
  go_wp2_with fail
  refine (rnew_ok room _ h1 h2).mono ?_
  rintro e2 w2 ⟨m, rfl, hR2, hm, hB2⟩
  have hL2 := hL1.below hB2
  have hW2 := bw_below hW1 hB2
  have hm2 : w.heap.size ≤ m := Nat.le_trans hW1.size hm
  clear hL1 hW1 hB2 hm
  go_wp2_with fail
  go_loopg [5, 9] 100 (fun kx s5 s9 wr => ∃ (k b rb : Nat) (last : Int) (ps : List Pk), s5 = .pointer (some ⟨b, 0, none⟩) ∧ s9 = .int .i64 k ∧ 100 - k ≤ kx ∧ k ≤ 100 ∧ Alike2 wr b rb m room last ps ∧ w.heap.size ≤ b ∧ w.heap.size ≤ rb ∧ Below w.heap.size w wr)
  case atStart => exact ⟨0, b, rb1, -1, [], rfl, rfl, by omega, by omega, ⟨hL2, hR2⟩, hb, hrb1, hW2⟩
  case round =>
    clear hL2 hR2 hW2 hb hrb1
    obtain ⟨k, b, rb, last, ps, rfl, rfl, hkx, hk, hA, hb, hrb, hW⟩ := hrel
    by_cases hlt : k < len ∧ k < 100
    · obtain ⟨hlt, hlt2⟩ := hlt
      obtain ⟨xb, xo, ha, hxl, hf⟩ := HZ.out (by omega)
      have hf := hf k hlt
      obtain ⟨z0, q0, a0, a0'⟩ := (hf 0 _ rfl).i64
      obtain ⟨z1, q1, a1, a1'⟩ := (hf 1 _ rfl).i64
      obtain ⟨z2, q2, a2, a2'⟩ := (hf 2 _ rfl).i64
      obtain ⟨z3, q3, a3, a3'⟩ := (hf 3 _ rfl).i64
      obtain ⟨z4, q4, a4, a4'⟩ := (hf 4 _ rfl).i64
      obtain ⟨z5, q5, a5, a5'⟩ := (hf 5 _ rfl).i64
      obtain ⟨z6, q6⟩ := (hf 6 _ rfl).bool
      obtain ⟨z7, q7⟩ := (hf 7 _ rfl).bool
      obtain ⟨z8, q8⟩ := (hf 8 _ rfl).bool
      have hxw : ∀ o, wr.cell? ⟨xb, o, none⟩ = w.cell? ⟨xb, o, none⟩ := fun o => hW.cell (p := ⟨xb, o, none⟩) hxl
      simp only [show doKinds.length = 9 from rfl] at q0 q1 q2 q3 q4 q5 q6 q7 q8
      rw [← hxw, Nat.add_zero] at q0
      rw [← hxw, ← Nat.add_assoc] at q1 q2 q3 q4 q5 q6 q7 q8
      have HA := hide (fun W => bring_any z0 16 W (by omega) (by omega) a0 a0')
      have hm0 : 0 ≤ z0 % 16 ∧ z0 % 16 ≤ 15 := by omega
      obtain ⟨r0, e0⟩ : ∃ n, z0 % 16 = n := ⟨_, rfl⟩
      rw [e0] at hm0 HA
      clear e0 hf hxw
      subst ha
      go_upto_block 2 with (refine (HA.out _).mono ?_; rintro e3 w3 ⟨rfl, rfl⟩)
      go_cut [5] (fun s5 wc => ∃ (b' rb' : Nat) (last' : Int) (ps' : List Pk), s5 = .pointer (some ⟨b', 0, none⟩) ∧ Pl2 w wc b' rb' m room last' ps' last' ps' wr.heap.size #[.int .i64 z0, .int .i64 z1, .int .i64 z2, .int .i64 z3, .int .i64 z4, .int .i64 z5, .bool z6, .bool z7, .bool z8])
      case first =>
        have hx9 := Blk.new wr 54 #[.int .i64 z0, .int .i64 z1, .int .i64 z2, .int .i64 z3, .int .i64 z4, .int .i64 z5, .bool z6, .bool z7, .bool z8]
        have hs9 : Pl2 w (wr.alloc (.cells #[.int .i64 z0, .int .i64 z1, .int .i64 z2, .int .i64 z3, .int .i64 z4, .int .i64 z5, .bool z6, .bool z7, .bool z8] 54)) b rb m room last ps last ps wr.heap.size #[.int .i64 z0, .int .i64 z1, .int .i64 z2, .int .i64 z3, .int .i64 z4, .int .i64 z5, .bool z6, .bool z7, .bool z8] := ⟨hA.log.alloc _, hA.ref.alloc _, hx9, hb, hrb, hm2, bw_alloc hW _⟩
        clear hA hx9 hW q0 q1 q2 q3 q4 q5 q6 q7 q8
        refine name_world (fun W => Pl2 w W b rb m room last ps last ps wr.heap.size #[.int .i64 z0, .int .i64 z1, .int .i64 z2, .int .i64 z3, .int .i64 z4, .int .i64 z5, .bool z6, .bool z7, .bool z8]) hs9 ?_
        clear hs9
        rintro W hs
        by_cases hG : (0 ≤ r0 ∧ r0 ≤ 3) ∨ (8 ≤ r0 ∧ r0 ≤ 11)
        · go_upto_if 62 with fail
          go_cut [62] (fun s62 wc => s62 = .bool true ∧ W = wc)
          case first =>
            have hr : r0 = 0 ∨ r0 = 1 ∨ r0 = 2 ∨ r0 = 3 ∨ r0 = 8 ∨ r0 = 9 ∨ r0 = 10 ∨ r0 = 11 := by omega
            clear hG HA hm0
            as_aux_lemma =>
            rcases hr with rfl | rfl | rfl | rfl | rfl | rfl | rfl | rfl <;> (go_wp2_with fail; go_meet; exact ⟨rfl, rfl⟩)
          case rest =>
            obtain ⟨rfl, hw⟩ := hcut
            subst hw
            clear hG HA hm0
            by_cases hmay : (Pk.mk z3 z4 z5 z6 z7 z8).may
            · have HN := hide hmay
              clear hmay
              by_cases hn : z3 ≤ last
              · as_aux_lemma =>
                go_wp2_with fail
                go_region_held3 (fun w' => w'.cell? ⟨wr.heap.size, 0, none⟩ = some (.int .i64 z0) ∧ w'.cell? ⟨wr.heap.size, 1, none⟩ = some (.int .i64 z1) ∧ w'.cell? ⟨wr.heap.size, 2, none⟩ = some (.int .i64 z2) ∧ w'.cell? ⟨wr.heap.size, 3, none⟩ = some (.int .i64 z3) ∧ w'.cell? ⟨wr.heap.size, 4, none⟩ = some (.int .i64 z4) ∧ w'.cell? ⟨wr.heap.size, 5, none⟩ = some (.int .i64 z5) ∧ w'.cell? ⟨wr.heap.size, 6, none⟩ = some (.bool z6) ∧ w'.cell? ⟨wr.heap.size, 7, none⟩ = some (.bool z7) ∧ w'.cell? ⟨wr.heap.size, 8, none⟩ = some (.bool z8)) (first | with_reducible exact PlCells hs | with_reducible exact PlCells hs.drew)
                  (first
                    | (go_at_call 11; refine (put_low b rb room last z3 z4 z5 z6 z7 z8 ps _ (Pl2.log (by first | with_reducible exact hs | with_reducible exact hs.drew)) HN.out hn).mono ?_; rintro e w1 ⟨rfl, hB⟩; have hs := Pl2.below (by first | with_reducible exact hs | with_reducible exact hs.drew) hB)
                    | (go_at_call 25; refine (rput_low m room last z3 z4 z5 z6 z7 z8 ps _ (Pl2.ref (by first | with_reducible exact hs | with_reducible exact hs.drew)) HN.out hn).mono ?_; rintro e w1 ⟨rfl, hB⟩; have hs := Pl2.below (by first | with_reducible exact hs | with_reducible exact hs.drew) hB))
                all_goals (go_wp2_with fail; go_meet; exact ⟨b, rb, last, ps, rfl, hs⟩)
              · have hn : last < z3 := by omega
                by_cases hroom : ps.length < room
                · as_aux_lemma =>
                  go_wp2_with fail
                  go_region_held3 (fun w' => w'.cell? ⟨wr.heap.size, 0, none⟩ = some (.int .i64 z0) ∧ w'.cell? ⟨wr.heap.size, 1, none⟩ = some (.int .i64 z1) ∧ w'.cell? ⟨wr.heap.size, 2, none⟩ = some (.int .i64 z2) ∧ w'.cell? ⟨wr.heap.size, 3, none⟩ = some (.int .i64 z3) ∧ w'.cell? ⟨wr.heap.size, 4, none⟩ = some (.int .i64 z4) ∧ w'.cell? ⟨wr.heap.size, 5, none⟩ = some (.int .i64 z5) ∧ w'.cell? ⟨wr.heap.size, 6, none⟩ = some (.bool z6) ∧ w'.cell? ⟨wr.heap.size, 7, none⟩ = some (.bool z7) ∧ w'.cell? ⟨wr.heap.size, 8, none⟩ = some (.bool z8)) (first | with_reducible exact PlCells hs | with_reducible exact PlCells hs.drew)
                    (first
                      | (go_at_call 11; refine (put_ok b rb room last z3 z4 z5 z6 z7 z8 ps _ (Pl2.log (by first | with_reducible exact hs | with_reducible exact hs.drew)) HN.out hn hroom).mono ?_; rintro e w1 ⟨rfl, rb1, hL, hrb1, hO⟩; have hs := Pl2.putL (by first | with_reducible exact hs | with_reducible exact hs.drew) hL hrb1 hO)
                      | (go_at_call 25; refine (rput_ok m room last z3 z4 z5 z6 z7 z8 ps _ (Pl2.ref (by first | with_reducible exact hs | with_reducible exact hs.drew)) HN.out hn hroom).mono ?_; rintro e w1 ⟨rfl, hR, hO⟩; have hs := Pl2.putR (by first | with_reducible exact hs | with_reducible exact hs.drew) hR hO))
                  all_goals (go_wp2_with fail; go_meet; exact ⟨b, rb1, z3, _, rfl, hs⟩)
                · have hfull : ps.length = room := by have := hs.log.room; omega
                  have HF := hide hfull
                  clear hfull hroom
                  as_aux_lemma =>
                  go_wp2_with fail
                  go_region_held3 (fun w' => w'.cell? ⟨wr.heap.size, 0, none⟩ = some (.int .i64 z0) ∧ w'.cell? ⟨wr.heap.size, 1, none⟩ = some (.int .i64 z1) ∧ w'.cell? ⟨wr.heap.size, 2, none⟩ = some (.int .i64 z2) ∧ w'.cell? ⟨wr.heap.size, 3, none⟩ = some (.int .i64 z3) ∧ w'.cell? ⟨wr.heap.size, 4, none⟩ = some (.int .i64 z4) ∧ w'.cell? ⟨wr.heap.size, 5, none⟩ = some (.int .i64 z5) ∧ w'.cell? ⟨wr.heap.size, 6, none⟩ = some (.bool z6) ∧ w'.cell? ⟨wr.heap.size, 7, none⟩ = some (.bool z7) ∧ w'.cell? ⟨wr.heap.size, 8, none⟩ = some (.bool z8)) (first | with_reducible exact PlCells hs | with_reducible exact PlCells hs.drew)
                    (first
                      | (go_at_call 11; refine (put_full b rb room last z3 z4 z5 z6 z7 z8 ps _ (Pl2.log (by first | with_reducible exact hs | with_reducible exact hs.drew)) HN.out hn HF.out).mono ?_; rintro e w1 ⟨rfl, hB⟩; have hs := Pl2.below (by first | with_reducible exact hs | with_reducible exact hs.drew) hB)
                      | (go_at_call 25; refine (rput_full m room last z3 z4 z5 z6 z7 z8 ps _ (Pl2.ref (by first | with_reducible exact hs | with_reducible exact hs.drew)) HN.out hn HF.out).mono ?_; rintro e w1 ⟨rfl, hB⟩; have hs := Pl2.below (by first | with_reducible exact hs | with_reducible exact hs.drew) hB))
                  all_goals (go_wp2_with fail; go_meet; exact ⟨b, rb, last, ps, rfl, hs⟩)
            · have HN := hide hmay
              clear hmay
              as_aux_lemma =>
              go_wp2_with fail
              go_region_held3 (fun w' => w'.cell? ⟨wr.heap.size, 0, none⟩ = some (.int .i64 z0) ∧ w'.cell? ⟨wr.heap.size, 1, none⟩ = some (.int .i64 z1) ∧ w'.cell? ⟨wr.heap.size, 2, none⟩ = some (.int .i64 z2) ∧ w'.cell? ⟨wr.heap.size, 3, none⟩ = some (.int .i64 z3) ∧ w'.cell? ⟨wr.heap.size, 4, none⟩ = some (.int .i64 z4) ∧ w'.cell? ⟨wr.heap.size, 5, none⟩ = some (.int .i64 z5) ∧ w'.cell? ⟨wr.heap.size, 6, none⟩ = some (.bool z6) ∧ w'.cell? ⟨wr.heap.size, 7, none⟩ = some (.bool z7) ∧ w'.cell? ⟨wr.heap.size, 8, none⟩ = some (.bool z8)) (first | with_reducible exact PlCells hs | with_reducible exact PlCells hs.drew)
                (first
                  | (go_at_call 11; refine (put_no b rb room last z3 z4 z5 z6 z7 z8 ps _ (Pl2.log (by first | with_reducible exact hs | with_reducible exact hs.drew)) HN.out).mono ?_; rintro e w1 ⟨rfl, hB⟩; have hs := Pl2.below (by first | with_reducible exact hs | with_reducible exact hs.drew) hB)
                  | (go_at_call 25; refine (rput_no m room last z3 z4 z5 z6 z7 z8 ps _ (Pl2.ref (by first | with_reducible exact hs | with_reducible exact hs.drew)) HN.out).mono ?_; rintro e w1 ⟨rfl, hB⟩; have hs := Pl2.below (by first | with_reducible exact hs | with_reducible exact hs.drew) hB))
              all_goals (go_wp2_with fail; go_meet; exact ⟨b, rb, last, ps, rfl, hs⟩)
        · go_upto_if 62 with fail
          go_cut [62] (fun s62 wc => s62 = .bool false ∧ W = wc)
          case first =>
            have hr : r0 = 4 ∨ r0 = 5 ∨ r0 = 6 ∨ r0 = 7 ∨ r0 = 12 ∨ r0 = 13 ∨ r0 = 14 ∨ r0 = 15 := by omega
            clear hG HA hm0
            as_aux_lemma =>
            rcases hr with rfl | rfl | rfl | rfl | rfl | rfl | rfl | rfl <;> (go_wp2_with fail; go_meet; exact ⟨rfl, rfl⟩)
          case rest =>
            obtain ⟨rfl, hw⟩ := hcut
            subst hw
            by_cases hG2 : r0 = 4 ∨ r0 = 5 ∨ r0 = 12 ∨ r0 = 13
            · go_upto_if 80 with fail
              go_cut [80] (fun s80 wc => s80 = .bool true ∧ W = wc)
              case first =>
                have hr : r0 = 4 ∨ r0 = 5 ∨ r0 = 12 ∨ r0 = 13 := by omega
                clear hG HA hm0
                as_aux_lemma =>
                rcases hr with rfl | rfl | rfl | rfl <;> (go_wp2_with fail; go_meet; exact ⟨rfl, rfl⟩)
              case rest =>
                obtain ⟨rfl, hw⟩ := hcut
                subst hw
                clear hG hG2 HA hm0
                as_aux_lemma =>
                obtain ⟨p, t, hg⟩ : ∃ p t, getOf z1 ps = (p, t) := ⟨_, _, rfl⟩
                have HG := hide hg
                clear hg
                have c1 : W.cell? ⟨wr.heap.size, 1, none⟩ = some (.int .i64 z1) := hs.bx.cell 1
                go_wp2_with fail
                refine (drop_any b rb room last z1 ps p t _ hs.log HG.out).mono ?_
                rintro e4 w4 ⟨rfl, hL4, hO4⟩
                have hs4 := (hs.putL hL4 (.inl rfl) hO4).alloc (.cells #[.int .i64 p.num, .int .i64 p.time, .int .i64 p.size, .bool p.el, .bool p.fl, .bool p.ect] 30)
                have hx4 := Blk.new w4 30 #[.int .i64 p.num, .int .i64 p.time, .int .i64 p.size, .bool p.el, .bool p.fl, .bool p.ect]
                have hmx : w4.heap.size ≠ m := by have h1 := hs.ref.lt; have h2 := hO4.size; omega
                clear c1
                have c1 : (w4.alloc (.cells #[.int .i64 p.num, .int .i64 p.time, .int .i64 p.size, .bool p.el, .bool p.fl, .bool p.ect] 30)).cell? ⟨wr.heap.size, 1, none⟩ = some (.int .i64 z1) := hs4.bx.cell 1
                go_wp2_with fail
                refine (rdrop_any m room last z1 ps p t _ hs4.ref HG.out).mono ?_
                rintro e5 w5 ⟨rfl, hR5, hO5⟩
                have hs5 := hs4.putR hR5 hO5
                have hx5 := hO5.blk hx4 (by simpa using hmx)
                have hxl := hx5.lt
                clear hs hL4 hO4 hs4 hR5 hO5 hx4 c1 hmx
                have x0 : w5.cell? ⟨w4.heap.size, 0, none⟩ = some (.int .i64 p.num) := hx5.cell 0
                have x1 : w5.cell? ⟨w4.heap.size, 1, none⟩ = some (.int .i64 p.time) := hx5.cell 1
                have x2 : w5.cell? ⟨w4.heap.size, 2, none⟩ = some (.int .i64 p.size) := hx5.cell 2
                have x3 : w5.cell? ⟨w4.heap.size, 3, none⟩ = some (.bool p.el) := hx5.cell 3
                have x4 : w5.cell? ⟨w4.heap.size, 4, none⟩ = some (.bool p.fl) := hx5.cell 4
                have x5 : w5.cell? ⟨w4.heap.size, 5, none⟩ = some (.bool p.ect) := hx5.cell 5
                go_wp2_with fail
                go_meet
                exact ⟨b, rb, last, _, rfl, hs5.alloc _⟩
            · go_upto_if 80 with fail
              go_cut [80] (fun s80 wc => s80 = .bool false ∧ W = wc)
              case first =>
                have hr : r0 = 6 ∨ r0 = 7 ∨ r0 = 14 ∨ r0 = 15 := by omega
                clear hG HA hm0
                as_aux_lemma =>
                rcases hr with rfl | rfl | rfl | rfl <;> (go_wp2_with fail; go_meet; exact ⟨rfl, rfl⟩)
              case rest =>
                obtain ⟨rfl, hw⟩ := hcut
                subst hw
                by_cases hG3 : r0 = 6 ∨ r0 = 14
                · go_upto_if 107 with fail
                  go_cut [107] (fun s107 wc => s107 = .bool true ∧ W = wc)
                  case first =>
                    have hr : r0 = 6 ∨ r0 = 14 := by omega
                    clear hG hG2 HA hm0
                    as_aux_lemma =>
                    rcases hr with rfl | rfl <;> (go_wp2_with fail; go_meet; exact ⟨rfl, rfl⟩)
                  case rest =>
                    obtain ⟨rfl, hw⟩ := hcut
                    subst hw
                    clear hG hG2 hG3 HA hm0
                    as_aux_lemma =>
                    go_wp2_with fail
                    refine (rcopy_any m room last ps _ hs.ref).mono ?_
                    rintro e4 w4 ⟨m2, rfl, hR4, hm4, hB4⟩
                    have hs4 := hs.below hB4
                    have hmm : m ≠ m2 := by have := hs.ref.lt; omega
                    have hm20 : w.heap.size ≤ m2 := Nat.le_trans hs.bw.size hm4
                    go_wp2_with fail
                    refine (copy_any b rb room last ps _ hs4.log).mono ?_
                    rintro e5 w5 ⟨b2, rb2, rfl, hL5, hb5, hrb5, hB5⟩
                    have hs5 := hs4.below hB5
                    have hR5 := hR4.below hB5
                    have h4 : Pl4 w w5 b rb m2 room last ps last ps wr.heap.size #[.int .i64 z0, .int .i64 z1, .int .i64 z2, .int .i64 z3, .int .i64 z4, .int .i64 z5, .bool z6, .bool z7, .bool z8] b2 rb2 m last ps := ⟨⟨hs5.log, hR5, hs5.bx, hs5.b0, hs5.r0, hm20, hs5.bw⟩, hL5, hs5.ref, by have := hs4.log.lt; omega, by have := hs4.bw.size; have := hs5.m0; omega⟩
                    clear hs hs4 hs5 hR4 hR5 hL5 hB4 hB5 hm4 hb5 hrb5 hmm hm20
                    go_wp2_with fail
                    refine (clear_any b rb room last ps _ h4.o.log).mono ?_
                    rintro e6 w6 ⟨rfl, hL6, hO6⟩
                    have h6 := h4.putL hL6 (.inl rfl) (hO6.mono (by simp))
                    go_wp2_with fail
                    refine (rclear_any m2 room last ps _ h6.o.ref).mono ?_
                    rintro e7 w7 ⟨rfl, hR7, hO7⟩
                    have hs := h6.putR hR7 hO7
                    clear h4 h6 hL6 hO6 hR7 hO7
                    have hroom : ([] : List Pk).length < room := by simp; omega
                    go_wp2_with fail
                    by_cases hmay : (Pk.mk z3 z4 z5 z6 z7 z8).may
                    · have HN := hide hmay
                      clear hmay
                      by_cases hn : z3 ≤ last
                      · as_aux_lemma =>
                        go_region_held3 (fun w' => w'.cell? ⟨wr.heap.size, 0, none⟩ = some (.int .i64 z0) ∧ w'.cell? ⟨wr.heap.size, 1, none⟩ = some (.int .i64 z1) ∧ w'.cell? ⟨wr.heap.size, 2, none⟩ = some (.int .i64 z2) ∧ w'.cell? ⟨wr.heap.size, 3, none⟩ = some (.int .i64 z3) ∧ w'.cell? ⟨wr.heap.size, 4, none⟩ = some (.int .i64 z4) ∧ w'.cell? ⟨wr.heap.size, 5, none⟩ = some (.int .i64 z5) ∧ w'.cell? ⟨wr.heap.size, 6, none⟩ = some (.bool z6) ∧ w'.cell? ⟨wr.heap.size, 7, none⟩ = some (.bool z7) ∧ w'.cell? ⟨wr.heap.size, 8, none⟩ = some (.bool z8)) (first | with_reducible exact PlCells hs.o | with_reducible exact PlCells hs.drew.o)
                          (first
                            | (go_at_call 30; refine (same_any b rb m2 room last z1 [] _ ⟨(Pl4.o (by first | with_reducible exact hs | with_reducible exact hs.drew)).log, (Pl4.o (by first | with_reducible exact hs | with_reducible exact hs.drew)).ref⟩).mono ?_; rintro e w1 ⟨rfl, hB⟩; have hs := Pl4.below (by first | with_reducible exact hs | with_reducible exact hs.drew) hB)
                            | (go_at_call 11; refine (put_low b rb room last z3 z4 z5 z6 z7 z8 [] _ (Pl4.o (by first | with_reducible exact hs | with_reducible exact hs.drew)).log HN.out hn).mono ?_; rintro e w1 ⟨rfl, hB⟩; have hs := Pl4.below (by first | with_reducible exact hs | with_reducible exact hs.drew) hB)
                            | (go_at_call 25; refine (rput_low m2 room last z3 z4 z5 z6 z7 z8 [] _ (Pl4.o (by first | with_reducible exact hs | with_reducible exact hs.drew)).ref HN.out hn).mono ?_; rintro e w1 ⟨rfl, hB⟩; have hs := Pl4.below (by first | with_reducible exact hs | with_reducible exact hs.drew) hB))
                        all_goals (go_wp2_with fail; go_meet; exact ⟨b2, rb2, last, ps, rfl, hs.new⟩)
                      · have hn : last < z3 := by omega
                        as_aux_lemma =>
                        go_region_held3 (fun w' => w'.cell? ⟨wr.heap.size, 0, none⟩ = some (.int .i64 z0) ∧ w'.cell? ⟨wr.heap.size, 1, none⟩ = some (.int .i64 z1) ∧ w'.cell? ⟨wr.heap.size, 2, none⟩ = some (.int .i64 z2) ∧ w'.cell? ⟨wr.heap.size, 3, none⟩ = some (.int .i64 z3) ∧ w'.cell? ⟨wr.heap.size, 4, none⟩ = some (.int .i64 z4) ∧ w'.cell? ⟨wr.heap.size, 5, none⟩ = some (.int .i64 z5) ∧ w'.cell? ⟨wr.heap.size, 6, none⟩ = some (.bool z6) ∧ w'.cell? ⟨wr.heap.size, 7, none⟩ = some (.bool z7) ∧ w'.cell? ⟨wr.heap.size, 8, none⟩ = some (.bool z8)) (first | with_reducible exact PlCells hs.o | with_reducible exact PlCells hs.drew.o)
                          (first
                            | (go_at_call 30; refine (same_any b rb m2 room last z1 [] _ ⟨(Pl4.o (by first | with_reducible exact hs | with_reducible exact hs.drew)).log, (Pl4.o (by first | with_reducible exact hs | with_reducible exact hs.drew)).ref⟩).mono ?_; rintro e w1 ⟨rfl, hB⟩; have hs := Pl4.below (by first | with_reducible exact hs | with_reducible exact hs.drew) hB)
                            | (go_at_call 11; refine (put_ok b rb room last z3 z4 z5 z6 z7 z8 [] _ (Pl4.o (by first | with_reducible exact hs | with_reducible exact hs.drew)).log HN.out hn hroom).mono ?_; rintro e w1 ⟨rfl, rb1, hL, hrb1, hO⟩; have hs := Pl4.putL (by first | with_reducible exact hs | with_reducible exact hs.drew) hL hrb1 hO)
                            | (go_at_call 25; refine (rput_ok m2 room last z3 z4 z5 z6 z7 z8 [] _ (Pl4.o (by first | with_reducible exact hs | with_reducible exact hs.drew)).ref HN.out hn hroom).mono ?_; rintro e w1 ⟨rfl, hR, hO⟩; have hs := Pl4.putR (by first | with_reducible exact hs | with_reducible exact hs.drew) hR hO))
                        all_goals (go_wp2_with fail; go_meet; exact ⟨b2, rb2, last, ps, rfl, hs.new⟩)
                    · have HN := hide hmay
                      clear hmay
                      as_aux_lemma =>
                      go_region_held3 (fun w' => w'.cell? ⟨wr.heap.size, 0, none⟩ = some (.int .i64 z0) ∧ w'.cell? ⟨wr.heap.size, 1, none⟩ = some (.int .i64 z1) ∧ w'.cell? ⟨wr.heap.size, 2, none⟩ = some (.int .i64 z2) ∧ w'.cell? ⟨wr.heap.size, 3, none⟩ = some (.int .i64 z3) ∧ w'.cell? ⟨wr.heap.size, 4, none⟩ = some (.int .i64 z4) ∧ w'.cell? ⟨wr.heap.size, 5, none⟩ = some (.int .i64 z5) ∧ w'.cell? ⟨wr.heap.size, 6, none⟩ = some (.bool z6) ∧ w'.cell? ⟨wr.heap.size, 7, none⟩ = some (.bool z7) ∧ w'.cell? ⟨wr.heap.size, 8, none⟩ = some (.bool z8)) (first | with_reducible exact PlCells hs.o | with_reducible exact PlCells hs.drew.o)
                        (first
                          | (go_at_call 30; refine (same_any b rb m2 room last z1 [] _ ⟨(Pl4.o (by first | with_reducible exact hs | with_reducible exact hs.drew)).log, (Pl4.o (by first | with_reducible exact hs | with_reducible exact hs.drew)).ref⟩).mono ?_; rintro e w1 ⟨rfl, hB⟩; have hs := Pl4.below (by first | with_reducible exact hs | with_reducible exact hs.drew) hB)
                          | (go_at_call 11; refine (put_no b rb room last z3 z4 z5 z6 z7 z8 [] _ (Pl4.o (by first | with_reducible exact hs | with_reducible exact hs.drew)).log HN.out).mono ?_; rintro e w1 ⟨rfl, hB⟩; have hs := Pl4.below (by first | with_reducible exact hs | with_reducible exact hs.drew) hB)
                          | (go_at_call 25; refine (rput_no m2 room last z3 z4 z5 z6 z7 z8 [] _ (Pl4.o (by first | with_reducible exact hs | with_reducible exact hs.drew)).ref HN.out).mono ?_; rintro e w1 ⟨rfl, hB⟩; have hs := Pl4.below (by first | with_reducible exact hs | with_reducible exact hs.drew) hB))
                      all_goals (go_wp2_with fail; go_meet; exact ⟨b2, rb2, last, ps, rfl, hs.new⟩)
                · go_upto_if 107 with fail
                  go_cut [107] (fun s107 wc => s107 = .bool false ∧ W = wc)
                  case first =>
                    have hr : r0 = 7 ∨ r0 = 15 := by omega
                    clear hG hG2 HA hm0
                    as_aux_lemma =>
                    rcases hr with rfl | rfl <;> (go_wp2_with fail; go_meet; exact ⟨rfl, rfl⟩)
                  case rest =>
                    obtain ⟨rfl, hw⟩ := hcut
                    subst hw
                    by_cases hG4 : r0 = 7
                    · subst hG4
                      clear hG hG2 hG3 HA hm0
                      as_aux_lemma =>
                      go_wp2_with fail
                      go_region_held3 (fun w' => w'.cell? ⟨wr.heap.size, 0, none⟩ = some (.int .i64 z0) ∧ w'.cell? ⟨wr.heap.size, 1, none⟩ = some (.int .i64 z1) ∧ w'.cell? ⟨wr.heap.size, 2, none⟩ = some (.int .i64 z2) ∧ w'.cell? ⟨wr.heap.size, 3, none⟩ = some (.int .i64 z3) ∧ w'.cell? ⟨wr.heap.size, 4, none⟩ = some (.int .i64 z4) ∧ w'.cell? ⟨wr.heap.size, 5, none⟩ = some (.int .i64 z5) ∧ w'.cell? ⟨wr.heap.size, 6, none⟩ = some (.bool z6) ∧ w'.cell? ⟨wr.heap.size, 7, none⟩ = some (.bool z7) ∧ w'.cell? ⟨wr.heap.size, 8, none⟩ = some (.bool z8)) (first | with_reducible exact PlCells hs | with_reducible exact PlCells hs.drew)
                        (first
                          | (go_at_call 22; refine (between_any b rb room last z1 z2 ps _ (Pl2.log (by first | with_reducible exact hs | with_reducible exact hs.drew))).mono ?_; rintro e w1 ⟨v1, rfl, hv1, hB⟩; have hk1 := own_pkrow hv1; have hs := Pl2.below (by first | with_reducible exact hs | with_reducible exact hs.drew) hB; (try have hk2 := PkRow.below hk2 hB))
                          | (go_at_call 31; refine (rbetween_any m room last z1 z2 ps _ (Pl2.ref (by first | with_reducible exact hs | with_reducible exact hs.drew))).mono ?_; rintro e w1 ⟨v2, rfl, hv2, hB⟩; have hk2 := own_pkrow hv2; have hs := Pl2.below (by first | with_reducible exact hs | with_reducible exact hs.drew) hB; (try have hk1 := PkRow.below hk1 hB))
                          | (go_at_call 23; refine (equal_same v1 v2 (between z1 z2 ps) _ hk1 hk2 (by have h1 := between_len z1 z2 ps; have h2 := hs.log.room; omega)).mono ?_; rintro e w1 ⟨rfl, nq, rfl⟩; have hs := hs.drewN nq))
                      all_goals (go_wp2_with fail; go_meet; exact ⟨b, rb, last, ps, rfl, hs⟩)
                    · have hG5 : r0 = 15 := by omega
                      subst hG5
                      clear hG hG2 hG3 hG4 HA hm0
                      as_aux_lemma =>
                      go_wp2_with fail
                      refine (clear_any b rb room last ps _ hs.log).mono ?_
                      rintro e6 w6 ⟨rfl, hL6, hO6⟩
                      have h6 := hs.putL hL6 (.inl rfl) (hO6.mono (by simp))
                      go_wp2_with fail
                      refine (rclear_any m room last ps _ h6.ref).mono ?_
                      rintro e7 w7 ⟨rfl, hR7, hO7⟩
                      have hs7 := h6.putR hR7 hO7
                      go_wp2_with fail
                      go_meet
                      exact ⟨b, rb, last, [], rfl, hs7⟩
      case rest =>
        obtain ⟨b', rb', last', ps', rfl, hs⟩ := hcut
        clear hA hW q0 q1 q2 q3 q4 q5 q6 q7 q8 HA hm0
        as_aux_lemma =>
        have c1 : wc.cell? ⟨wr.heap.size, 1, none⟩ = some (.int .i64 z1) := hs.bx.cell 1
        go_wp2_with fail
        refine (same_any b' rb' m room last' z1 ps' _ ⟨hs.log, hs.ref⟩).mono ?_
        rintro e9 w9 ⟨rfl, hB9⟩
        have hs9 := hs.below hB9
        go_wp2_with fail
        go_roundg (100 - (k + 1))
        case rel => exact ⟨k + 1, b', rb', last', ps', rfl, by go_num, by omega, by omega, ⟨hs9.log, hs9.ref⟩, hs9.b0, hs9.r0, hs9.bw⟩
        case measure => omega
    · clear hA
      by_cases hl : k < len
      · have hkd : decide ((k : Int) < 100) = false := by simp; omega
        go_wp2_with fail
        refine (works_any _).mono ?_
        rintro e3 w3 ⟨rfl, hB3⟩
        go_wp2_with fail
        go_ret
        exact ⟨rfl, bw_below hW hB3⟩
      · go_wp2_with fail
        refine (works_any _).mono ?_
        rintro e3 w3 ⟨rfl, hB3⟩
        go_wp2_with fail
        go_ret
        exact ⟨rfl, bw_below hW hB3⟩
end Go.Proofs.Ytcigkggdcogokaa
