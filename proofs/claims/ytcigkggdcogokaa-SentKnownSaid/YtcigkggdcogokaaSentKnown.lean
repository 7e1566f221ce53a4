/-
  The statement SentKnown: its walk.
-/
import Derived.Test.YtcigkggdcogokaaSentPlaysAll
import Derived.Test.YtcigkggdcogokaaSentNone
namespace Go.Proofs.Ytcigkggdcogokaa
open Go.RowKit

/-- The numbers at the ends. -/
def endsArr : Array Value := #[.int .i64 (-9223372036854775808), .int .i64 (-1), .int .i64 0, .int .i64 1, .int .i64 255, .int .i64 256, .int .i64 257, .int .i64 65535, .int .i64 65536, .int .i64 9007199254740991, .int .i64 9007199254740992, .int .i64 9223372036854775807]
theorem ends_at : ∀ i, i < 12 → ∃ z, endsArr[i]? = some (.int .i64 z) ∧ -9223372036854775808 ≤ z ∧ z ≤ 9223372036854775807 := by
  intro i hi
  have h : i = 0 ∨ i = 1 ∨ i = 2 ∨ i = 3 ∨ i = 4 ∨ i = 5 ∨ i = 6 ∨ i = 7 ∨ i = 8 ∨ i = 9 ∨ i = 10 ∨ i = 11 := by omega
  rcases h with rfl | rfl | rfl | rfl | rfl | rfl | rfl | rfl | rfl | rfl | rfl | rfl <;> exact ⟨_, rfl, by omega, by omega⟩

/-- A row of cells, each of its kind. -/
def Fits : List FK → List Value → Prop
  | [], _ => True
  | k :: ks, v :: cs => FGood k (some v) ∧ Fits ks cs
  | _ :: _, [] => False
theorem Fits.at_ : ∀ {ks : List FK} {cs : List Value}, Fits ks cs → ∀ (j : Nat) (k : FK), ks[j]? = some k → FGood k cs[j]?
  | [], _, _, j, k, h => by simp at h
  | a :: ks, v :: cs, hf, 0, k, h => by simp at h; subst h; exact hf.1
  | a :: ks, v :: cs, hf, j + 1, k, h => by simp at h ⊢; exact hf.2.at_ j k h
  | a :: ks, [], hf, j, k, h => hf.elim
theorem fits_rep {ks : List FK} {n i j : Nat} {k : FK} (hi : i < n) (hj : ks[j]? = some k) : ((List.replicate n ks).flatten)[i * ks.length + j]? = some k := by
  induction n generalizing i with
  | zero => omega
  | succ n ih =>
    have hjl : j < ks.length := (List.getElem?_eq_some_iff.1 hj).1
    rw [List.replicate_succ, List.flatten_cons]
    cases i with
    | zero => rw [Nat.zero_mul, Nat.zero_add, List.getElem?_append_left hjl]; exact hj
    | succ i =>
      rw [List.getElem?_append_right (by rw [Nat.add_mul]; omega)]
      have e : (i + 1) * ks.length + j - ks.length = i * ks.length + j := by rw [Nat.add_mul]; omega
      rw [e]
      exact ih (by omega)
theorem fgood_i {z : Int} (h1 : -9223372036854775808 ≤ z) (h2 : z ≤ 9223372036854775807) : FGood (some .i64) (some (.int .i64 z)) := ⟨z, rfl, WalkArith.wf_i64 (by omega)⟩
theorem fgood_b {b : Bool} : FGood none (some (.bool b)) := ⟨b, rfl⟩
theorem rowsk_of_blk {w : World} {g t n : Nat} {cs : List Value} {ks : List FK} (h : Blk w g t cs.toArray) (hn : n ≤ 1000000) (hf : Fits (List.replicate n ks).flatten cs) : RowsK w (some ⟨g, 0, none⟩) n ks :=
  ⟨by omega, fun _ => ⟨g, 0, rfl, h.lt, fun i hi j k hj => by
    rw [Nat.zero_add, h.cell, List.getElem?_toArray]
    exact hf.at_ _ _ (fits_rep hi hj)⟩⟩
theorem rowsk_new (w : World) (t n : Nat) (cs : List Value) (ks : List FK) (hn : n ≤ 1000000) (hf : Fits (List.replicate n ks).flatten cs) : RowsK (w.alloc (.cells cs.toArray t)) (some ⟨w.heap.size, 0, none⟩) n ks := rowsk_of_blk (Blk.new w t cs.toArray) hn hf

/-- What stands while the examples are asked. -/
structure KnSt (w0 w : World) (E i k X4 X5 : Nat) (zi zk : Int) : Prop where
  e : Blk w E 3 endsArr
  x4 : Blk w X4 30 #[.int .i64 zi, .int .i64 5, .int .i64 zk, .bool false, .bool true, .bool false]
  x5 : Blk w X5 30 #[.int .i64 4503599627370496, .int .i64 zk, .int .i64 7, .bool true, .bool false, .bool false]
  ei : w.cell? ⟨E, i, none⟩ = some (.int .i64 zi)
  ek : w.cell? ⟨E, k, none⟩ = some (.int .i64 zk)
  bw : Below w0.heap.size w0 w
section
variable {w0 w w' : World} {E i k X4 X5 : Nat} {zi zk : Int}
theorem KnSt.below (h : KnSt w0 w E i k X4 X5 zi zk) (hb : Below w.heap.size w w') : KnSt w0 w' E i k X4 X5 zi zk :=
  ⟨(only_of_below hb (S := [])).blk h.e (by simp), (only_of_below hb (S := [])).blk h.x4 (by simp), (only_of_below hb (S := [])).blk h.x5 (by simp), (hb.cell (p := ⟨E, i, none⟩) h.e.lt).trans h.ei, (hb.cell (p := ⟨E, k, none⟩) h.e.lt).trans h.ek, bw_below h.bw hb⟩
theorem KnSt.drewN (h : KnSt w0 w E i k X4 X5 zi zk) (n : Nat) : KnSt w0 (w.drewN n) E i k X4 X5 zi zk := h.below (below_drewN (Below.refl _ _) n)
theorem KnSt.drew (h : KnSt w0 w E i k X4 X5 zi zk) : KnSt w0 w.drew E i k X4 X5 zi zk := h.drewN 1
theorem KnSt.alloc (h : KnSt w0 w E i k X4 X5 zi zk) (o : Obj) : KnSt w0 (w.alloc o) E i k X4 X5 zi zk := h.below ((Below.refl _ _).alloc (Nat.le_refl _) o)
theorem KnSt.cells (h : KnSt w0 w E i k X4 X5 zi zk) : w.cell? ⟨X4, 0, none⟩ = some (.int .i64 zi) ∧ w.cell? ⟨X4, 1, none⟩ = some (.int .i64 5) ∧ w.cell? ⟨X4, 2, none⟩ = some (.int .i64 zk) ∧ w.cell? ⟨X4, 3, none⟩ = some (.bool false) ∧ w.cell? ⟨X4, 4, none⟩ = some (.bool true) ∧ w.cell? ⟨X4, 5, none⟩ = some (.bool false) ∧ w.cell? ⟨X5, 0, none⟩ = some (.int .i64 4503599627370496) ∧ w.cell? ⟨X5, 1, none⟩ = some (.int .i64 zk) ∧ w.cell? ⟨X5, 2, none⟩ = some (.int .i64 7) ∧ w.cell? ⟨X5, 3, none⟩ = some (.bool true) ∧ w.cell? ⟨X5, 4, none⟩ = some (.bool false) ∧ w.cell? ⟨X5, 5, none⟩ = some (.bool false) ∧ w.cell? ⟨E, i, none⟩ = some (.int .i64 zi) ∧ w.cell? ⟨E, k, none⟩ = some (.int .i64 zk) := ⟨h.x4.cell 0, h.x4.cell 1, h.x4.cell 2, h.x4.cell 3, h.x4.cell 4, h.x4.cell 5, h.x5.cell 0, h.x5.cell 1, h.x5.cell 2, h.x5.cell 3, h.x5.cell 4, h.x5.cell 5, h.ei, h.ek⟩
end

set_option maxRecDepth 100000 in
set_option maxHeartbeats 8000000 in
theorem sentknown_any (w : World) : Calls Try.prog 8 #[] w fun e w' => e = .returned (.bool true) ∧ Below w.heap.size w w' := by
  go_enter Try.func8, Try.ntmps8
  go_wp2_with fail
  go_loopg [2] 12 (fun kx s2 wr => ∃ i : Nat, s2 = .int .i64 i ∧ i ≤ 12 ∧ 12 - i ≤ kx ∧ Blk wr w.heap.size 3 endsArr ∧ Below w.heap.size w wr)
  case atStart => exact ⟨0, rfl, by omega, by omega, Blk.new _ _ _, (Below.refl _ _).alloc (Nat.le_refl _) _⟩
  case round =>
    obtain ⟨i, rfl, hi, hkx, hE, hW⟩ := hrel
    by_cases hlt : i < 12
    · have hi0 : (0 : Int) ≤ (i : Int) := by omega
      have hi12 : (i : Int) < 12 := by omega
      obtain ⟨wo, hwo⟩ : ∃ wo : World, wo = wr := ⟨_, rfl⟩
      subst hwo
      go_wp2_with fail
      go_loopg [3] 12 (fun ky s3 wi => ∃ k : Nat, s3 = .int .i64 k ∧ k ≤ 12 ∧ 12 - k ≤ ky ∧ Blk wi w.heap.size 3 endsArr ∧ Below w.heap.size w wi)
      case atStart => exact ⟨0, rfl, by omega, by omega, hE, hW⟩
      case round =>
        clear hE hW
        obtain ⟨k, rfl, hk, hky, hE, hW⟩ := hrel
        by_cases hlt2 : k < 12
        · obtain ⟨zi, hzi, i1, i2⟩ := ends_at i hlt
          obtain ⟨zk, hzk, k1, k2⟩ := ends_at k hlt2
          have ei := (hE.cell i).trans hzi
          have ek := (hE.cell k).trans hzk
          have hEl := hE.lt
          have hk0 : (0 : Int) ≤ (k : Int) := by omega
          have hk12 : (k : Int) < 12 := by omega
          clear hzi hzk
          go_wp2_with fail
          go_region_held3 (fun w' => w'.cell? ⟨w.heap.size, i, none⟩ = some (.int .i64 zi) ∧ w'.cell? ⟨w.heap.size, k, none⟩ = some (.int .i64 zk)) (first | exact ⟨ei, ek⟩ | exact ⟨(World.cell?_alloc_lt _ _ _ hEl).trans ei, (World.cell?_alloc_lt _ _ _ hEl).trans ek⟩) (fail)
          go_wp2_with fail
          have hs : KnSt w ((wr.alloc (.cells #[.int .i64 zi, .int .i64 5, .int .i64 zk, .bool false, .bool true, .bool false] 30)).alloc (.cells #[.int .i64 4503599627370496, .int .i64 zk, .int .i64 7, .bool true, .bool false, .bool false] 30)).drew w.heap.size i k wr.heap.size (wr.alloc (.cells #[.int .i64 zi, .int .i64 5, .int .i64 zk, .bool false, .bool true, .bool false] 30)).heap.size zi zk :=
            ⟨((hE.alloc _).alloc _).drew, ((Blk.new wr _ _).alloc _).drew, (Blk.new (wr.alloc (.cells #[.int .i64 zi, .int .i64 5, .int .i64 zk, .bool false, .bool true, .bool false] 30)) _ _).drew, (((hE.alloc _).alloc _).cell i).trans ((hE.cell i).symm.trans ei), (((hE.alloc _).alloc _).cell k).trans ((hE.cell k).symm.trans ek), (bw_alloc (bw_alloc hW _) _).drew⟩
          simp only [World.size_alloc] at hs
          refine name_world (fun W => KnSt w W w.heap.size i k wr.heap.size (wr.heap.size + 1) zi zk) hs ?_
          clear hs hE hW ei ek
          rintro W hs
          obtain ⟨X4, hX4⟩ : ∃ X, wr.heap.size = X := ⟨_, rfl⟩
          obtain ⟨X5, hX5⟩ : ∃ X, X4 + 1 = X := ⟨_, rfl⟩
          rw [hX4, hX5] at hs
          simp only [hX4, hX5]
          clear hX4 hX5
          go_region_held3 (fun w' => w'.cell? ⟨X4, 0, none⟩ = some (.int .i64 zi) ∧ w'.cell? ⟨X4, 1, none⟩ = some (.int .i64 5) ∧ w'.cell? ⟨X4, 2, none⟩ = some (.int .i64 zk) ∧ w'.cell? ⟨X4, 3, none⟩ = some (.bool false) ∧ w'.cell? ⟨X4, 4, none⟩ = some (.bool true) ∧ w'.cell? ⟨X4, 5, none⟩ = some (.bool false) ∧ w'.cell? ⟨X5, 0, none⟩ = some (.int .i64 4503599627370496) ∧ w'.cell? ⟨X5, 1, none⟩ = some (.int .i64 zk) ∧ w'.cell? ⟨X5, 2, none⟩ = some (.int .i64 7) ∧ w'.cell? ⟨X5, 3, none⟩ = some (.bool true) ∧ w'.cell? ⟨X5, 4, none⟩ = some (.bool false) ∧ w'.cell? ⟨X5, 5, none⟩ = some (.bool false) ∧ w'.cell? ⟨w.heap.size, i, none⟩ = some (.int .i64 zi) ∧ w'.cell? ⟨w.heap.size, k, none⟩ = some (.int .i64 zk)) (first | with_reducible exact hs.cells | with_reducible exact hs.drew.cells | with_reducible exact (hs.alloc _).cells | with_reducible exact (hs.alloc _).drew.cells)
            (first
              | (go_at_call 12; refine (one_any _ _).mono ?_; rintro e1 w1 ⟨rfl, hB⟩; have hs := KnSt.below (by first | with_reducible exact hs | with_reducible exact hs.drew) hB)
              | (go_at_call 7; refine (sentplays_any _ _ _ _ _ (rowsk_new _ _ _ _ _ (by omega) (by repeat (first | exact trivial | refine ⟨by first | exact fgood_b | exact fgood_i i1 i2 | exact fgood_i k1 k2 | exact fgood_i (by decide) (by decide), ?_⟩)))).mono ?_; rintro e2 w2 ⟨rfl, hB⟩; have hs := KnSt.below (by first | with_reducible exact hs.alloc _ | with_reducible exact (hs.alloc _).drew) hB))
          go_wp2_with fail
          go_roundg (12 - (k + 1))
          case rel => exact ⟨k + 1, by go_num, by omega, by omega, hs.e, hs.bw⟩
          case measure => omega
        · have hk12 : ¬ (k : Int) < 12 := by omega
          clear hlt2 hky
          go_wp2_with fail
          go_roundg (12 - (i + 1))
          case rel => exact ⟨i + 1, by go_num, by omega, by omega, hE, hW⟩
          case measure => omega
    · have hi12 : ¬ (i : Int) < 12 := by omega
      clear hkx hE
      go_wp2_with fail
      go_loopg [6, 7] 2 (fun kx s6 s7 wr => ∃ (j : Nat) (v : Value), v = s6 ∧ s7 = .int .i64 j ∧ j ≤ 2 ∧ 2 - j ≤ kx ∧ NoLog wr v ∧ Below w.heap.size w wr)
      case atStart => exact ⟨0, _, rfl, rfl, by omega, by omega, .inl rfl, hW⟩
      case round =>
        clear hW
        obtain ⟨j, v, hv, rfl, hj, hkx, hN, hW⟩ := hrel
        subst hv
        by_cases hlt : j < 2
        · go_wp2_with (first
            | (go_at_call 17; refine (get_v _ _ _ hN).mono ?_; rintro e1 w1 ⟨rfl, hB⟩; have hW := bw_below hW hB; have hN := NoLog.below hN hB)
            | (go_at_call 13; refine (drop_v _ _ _ (hN.alloc _)).mono ?_; rintro e1 w1 ⟨rfl, hB⟩; have hW := bw_below (bw_alloc hW _) hB; have hN := NoLog.below (hN.alloc _) hB)
            | (go_at_call 32; refine (oldest_v _ _ (hN.alloc _)).mono ?_; rintro e1 w1 ⟨rfl, hB⟩; have hW := bw_below (bw_alloc hW _) hB; have hN := NoLog.below (hN.alloc _) hB)
            | (go_at_call 14; refine (clear_v _ _ (hN.alloc _)).mono ?_; rintro e1 w1 ⟨rfl, rfl⟩)
            | (go_at_call 12; refine (one_any _ _).mono ?_; rintro e1 w1 ⟨rfl, hB⟩; have hW := bw_below (bw_alloc hW _) hB; have hN := NoLog.below (hN.alloc _) hB)
            | (go_at_call 11; refine (put_v _ _ _ _ _ _ _ _ hN).mono ?_; rintro e1 w1 ⟨rfl, hB⟩; have hW := bw_below hW hB; have hN := NoLog.below hN hB)
            | (go_at_call 15; refine (last_v _ _ hN).mono ?_; rintro e1 w1 ⟨rfl, rfl⟩)
            | (go_at_call 20; refine (len_v _ _ hN).mono ?_; rintro e1 w1 ⟨rfl, hB⟩; have hW := bw_below hW hB; have hN := NoLog.below hN hB)
            | (go_at_call 18; refine (flight_v _ _ hN).mono ?_; rintro e1 w1 ⟨rfl, hB⟩; have hW := bw_below hW hB; have hN := NoLog.below hN hB)
            | (go_at_call 19; refine (elic_v _ _ hN).mono ?_; rintro e1 w1 ⟨rfl, hB⟩; have hW := bw_below hW hB; have hN := NoLog.below hN hB)
            | (go_at_call 21; refine (all_v _ _ hN).mono ?_; rintro e1 w1 ⟨rfl, hB⟩; have hW := bw_below hW hB; have hN := NoLog.below hN hB)
            | (go_at_call 22; refine (between_v _ _ _ _ hN).mono ?_; rintro e1 w1 ⟨rfl, hB⟩; have hW := bw_below hW hB; have hN := NoLog.below hN hB)
            | (go_at_call 28; refine (copy_v _ _ hN).mono ?_; rintro e1 w1 ⟨rfl, rfl⟩))
          go_roundg (2 - (j + 1))
          case rel => exact ⟨j + 1, _, rfl, by go_num, by omega, by omega, .inr ⟨_, rfl, Blk.new _ _ _⟩, bw_alloc hW _⟩
          case measure => omega
        · go_wp2_with (first
            | (go_at_call 16; refine (works_any _).mono ?_; rintro e1 w1 ⟨rfl, hB⟩))
          go_ret
          exact ⟨rfl, bw_below hW hB⟩
end Go.Proofs.Ytcigkggdcogokaa
