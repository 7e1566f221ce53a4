/-
  The statements of the sets of ranges: bits, a set of numbers below 100 told one by one.
-/
import Derived.Test.YtkmfhcjdajbbhaaPairs
import Derived.Deep.MidRow
import Derived.Deep.WholeRow
import Derived.Laws.CopyOwn
namespace Go.Proofs.Ytkmfhcjdajbbhaa
set_option linter.unusedSimpArgs false
set_option linter.unusedVariables false
open Go.RowKit

instance (n : Int) (rs : List Rg) : Decidable (memR n rs) := by unfold memR; infer_instance
/-- A row of 101 numbers. -/
def bitC (f : Nat → Int) : Array Value := ((List.range 101).map fun n => Value.int .i64 (f n)).toArray
theorem bitC_size (f : Nat → Int) : (bitC f).size = 101 := by simp [bitC]
theorem bitC_get (f : Nat → Int) {n : Nat} (h : n < 101) : (bitC f)[n]? = some (.int .i64 (f n)) := by
  unfold bitC
  rw [List.getElem?_toArray, List.getElem?_map, List.getElem?_range h]
  rfl
theorem bitC_ext {f g : Nat → Int} (h : ∀ n, n < 101 → f n = g n) : bitC f = bitC g := by
  unfold bitC
  congr 1
  exact List.map_congr_left fun n hn => by rw [h n (List.mem_range.1 hn)]
theorem bitC_set (f : Nat → Int) {n : Nat} (h : n < 101) (x : Int) : (bitC f).setIfInBounds n (.int .i64 x) = bitC (fun m => if m = n then x else f m) := by
  apply Array.ext_getElem?
  intro i
  rw [Array.getElem?_setIfInBounds, bitC_size]
  rcases Nat.lt_or_ge i 101 with hi | hi
  · rw [bitC_get _ hi, bitC_get _ hi]
    by_cases e : n = i
    · subst e; rw [if_pos rfl, if_pos h]; simp
    · rw [if_neg e, if_neg (fun h => e h.symm)]
  · rw [Array.getElem?_eq_none (by rw [bitC_size]; omega), Array.getElem?_eq_none (by rw [bitC_size]; omega)]
    split
    · rename_i e; subst e; omega
    · rfl
/-- The set that the first rows make. -/
def rowsR (X Y : Nat → Int) : Nat → List Rg
  | 0 => []
  | k + 1 => addR (rowLo (X k)) (rowHi (X k) (Y k)) (rowsR X Y k)
theorem rowsR_good (X Y : Nat → Int) : ∀ k, GoodR (rowsR X Y k)
  | 0 => GoodR.nil
  | k + 1 => by obtain ⟨a, b, c⟩ := rowB (X k) (Y k); exact (addR_good (rowsR_good X Y k) b a (by omega)).1
theorem rowsR_mem (X Y : Nat → Int) (n : Int) : ∀ k, memR n (rowsR X Y k) ↔ ∃ i, i < k ∧ rowLo (X i) ≤ n ∧ n ≤ rowHi (X i) (Y i)
  | 0 => ⟨fun h => absurd h (memR_nil n), fun ⟨i, h, _⟩ => absurd h (by omega)⟩
  | k + 1 => by
    obtain ⟨a, b, c⟩ := rowB (X k) (Y k)
    show memR n (addR _ _ _) ↔ _
    rw [memR_addR n (rowsR_good X Y k) b, rowsR_mem X Y n k]
    constructor
    · rintro (⟨i, h1, h2⟩ | h)
      · exact ⟨i, by omega, h2⟩
      · exact ⟨k, by omega, h⟩
    · rintro ⟨i, h1, h2⟩
      rcases Nat.lt_or_ge i k with h | h
      · exact .inl ⟨i, h, h2⟩
      · obtain rfl : i = k := by omega
        exact .inr h2
/-- One where a set has a number. -/
def bitR (rs : List Rg) (n : Nat) : Int := if memR n rs then 1 else 0
/-- The same, of a set and a run of numbers behind lo. -/
def bitRun (rs : List Rg) (lo n : Int) (m : Nat) : Int := if memR m rs ∨ (lo ≤ m ∧ (m : Int) < n) then 1 else 0
/-- A set less what lies below. -/
def bitCut (rs : List Rg) (n : Int) (m : Nat) : Int := if (m : Int) < n then 0 else bitR rs m
theorem bitRun_start (rs : List Rg) (lo : Int) : bitC (bitRun rs lo lo) = bitC (bitR rs) := bitC_ext fun n _ => by
  unfold bitRun bitR
  by_cases h : memR n rs
  · simp [h]
  · rw [if_neg (by rintro (k | k); exact h k; omega), if_neg h]
theorem bitRun_next (rs : List Rg) (lo : Int) {n : Nat} (h : lo ≤ n) (hn : n < 101) : (bitC (bitRun rs lo n)).setIfInBounds n (.int .i64 1) = bitC (bitRun rs lo (n + 1)) := by
  rw [bitC_set _ hn]
  refine bitC_ext fun m _ => ?_
  unfold bitRun
  by_cases e : m = n
  · subst e
    rw [if_pos rfl, if_pos (.inr (by omega))]
  · rw [if_neg e]
    have : (memR m rs ∨ lo ≤ (m : Int) ∧ (m : Int) < n) ↔ (memR m rs ∨ lo ≤ (m : Int) ∧ (m : Int) < n + 1) := or_congr Iff.rfl (by omega)
    simp only [this]
theorem bitRun_done {rs : List Rg} (hg : GoodR rs) {lo hi : Int} (h : lo ≤ hi) : bitC (bitRun rs lo (hi + 1)) = bitC (bitR (addR lo hi rs)) := bitC_ext fun m _ => by
  unfold bitRun bitR
  have := memR_addR m hg h
  have : (memR m rs ∨ lo ≤ (m : Int) ∧ (m : Int) < hi + 1) ↔ memR m (addR lo hi rs) := by
    rw [this]
    exact or_congr Iff.rfl (by omega)
  simp only [this]
theorem bitCut_start (rs : List Rg) : bitC (bitCut rs 0) = bitC (bitR rs) := bitC_ext fun m _ => by
  unfold bitCut
  rw [if_neg (by omega)]
theorem bitCut_next (rs : List Rg) {n : Nat} (hn : n < 101) : (bitC (bitCut rs n)).setIfInBounds n (.int .i64 0) = bitC (bitCut rs (n + 1)) := by
  rw [bitC_set _ hn]
  refine bitC_ext fun m _ => ?_
  unfold bitCut
  by_cases e : m = n
  · subst e
    rw [if_pos rfl, if_pos (by omega)]
  · rw [if_neg e]
    have : ((m : Int) < n) ↔ ((m : Int) < n + 1) := by omega
    simp only [this]
theorem bitCut_done {rs : List Rg} (hg : GoodR rs) (n : Int) : bitC (bitCut rs n) = bitC (bitR (cutR n rs)) := bitC_ext fun m _ => by
  unfold bitCut bitR
  have h := memR_cutR m hg (b := n)
  by_cases c : (m : Int) < n
  · rw [if_pos c, if_neg (fun k => by have := (h.1 k).2; omega)]
  · rw [if_neg c]
    have : memR m rs ↔ memR m (cutR n rs) := by rw [h]; exact ⟨fun k => ⟨k, by omega⟩, fun k => k.1⟩
    simp only [this]
theorem zero40 : (Try.prog.info? 40).map (fun i => (i.zero, i.size)) = some (some (.agg (bitC fun _ => 0)), 101) := by kernel_rfl
theorem bitR_nil : bitC (bitR []) = bitC fun _ => 0 := bitC_ext fun n _ => by unfold bitR; rw [if_neg (memR_nil _)]
/-- The two rows of bits. -/
structure BitsAt (w W : World) (f : Nat → Int) : Prop where
  res : Blk W w.heap.size 40 (bitC fun _ => 0)
  out : Blk W (w.heap.size + 1) 40 (bitC f)
  below : Below w.heap.size w W
theorem BitsAt.later {w W w' : World} {f : Nat → Int} (h : BitsAt w W f) (hb : Below W.heap.size W w') : BitsAt w w' f :=
  ⟨(hb.block _ h.res.lt).trans h.res, (hb.block _ h.out.lt).trans h.out, bw_below' h.below hb⟩
theorem BitsAt.eq {w W : World} {f g : Nat → Int} (h : BitsAt w W f) (e : bitC f = bitC g) : BitsAt w W g := ⟨h.res, e ▸ h.out, h.below⟩
theorem BitsAt.store {w W : World} {f : Nat → Int} (h : BitsAt w W f) (n : Nat) (x : Int) (g : Nat → Int) (e : (bitC f).setIfInBounds n (.int .i64 x) = bitC g) : BitsAt w (W.setCell ⟨w.heap.size + 1, n, none⟩ (.int .i64 x)) g :=
  ⟨h.res.far (by simp) _, e ▸ h.out.set n _, h.below.setCell (by simp) _⟩

theorem run_storeCells_row {P : Program} (w : World) (k ty : Nat) (cs cells : Array Value) (hB : Blk w k ty cs)
    (hi : (P.info? ty).map (·.size) = some cells.size) (hsz : cs.size = cells.size) (h1 : cells.all (·.oneCell') = true) :
    (storeCells ⟨k, 0, none⟩ cells.toList 0).run P w = .ok () (w.setRow k cells) := by
  have := run_storeVar_row (P := P) w k ty ty cs cells hB hi hsz h1
  cases hq : P.info? ty with
  | none => simp [hq] at hi
  | some i =>
    have hs : cells.size = i.size := by simp [hq] at hi; omega
    simpa [storeVar, sizeOf, typeInfo, hq, Value.cells, hs] using this
theorem bitC_one (f : Nat → Int) : (bitC f).all (·.oneCell') = true := by simp [bitC, Value.oneCell']
theorem bitC_info (f : Nat → Int) : (Try.prog.info? 40).map (·.size) = some (bitC f).size := by rw [bitC_size]; kernel_rfl

set_option maxRecDepth 100000 in
set_option maxHeartbeats 4000000 in
theorem bits_any (a : Option Addr) (len cap : Nat) (below : Int) (X Y : Nat → Int) (w : World) (hz : PairsAt w a len X Y) (hb0 : 0 ≤ below) (hb1 : below ≤ 101) :
    Calls Try.prog 25 #[.slice a len cap, .int .i64 below] w fun e w' => e = .returned (.agg (bitC (bitR (cutR below (rowsR X Y len))))) ∧ Below w.heap.size w w' := by
  have HZ := hide hz
  have hlen := hz.1
  clear hz
  have hz40 := (zero_of_info zero40).1
  go_enter Try.func25, Try.ntmps25
  go_wp2_with fail
  clear hz40
  have hS0 : BitsAt w ((w.alloc (.cells (bitC fun _ => 0) 40)).alloc (.cells (bitC fun _ => 0) 40)) (bitR []) := by
    refine ⟨(Blk.new _ _ _).alloc _, ?_, ((Below.refl _ _).alloc (Nat.le_refl _) _).alloc (by simp) _⟩
    rw [bitR_nil]
    have := Blk.new (w.alloc (.cells (bitC fun _ => 0) 40)) 40 (bitC fun _ => 0)
    rw [World.size_alloc] at this
    exact this
  go_loopg [6] len (fun kx s6 wr => ∃ k : Nat, s6 = .int .i64 k ∧ k ≤ len ∧ len - k ≤ kx ∧ BitsAt w wr (bitR (rowsR X Y k)))
  case atStart => exact ⟨0, rfl, by omega, by omega, hS0⟩
  case round =>
    obtain ⟨k, rfl, hk, hkx, hs⟩ := hrel
    clear hS0
    by_cases hlt : k < len
    · obtain ⟨xb, xo, ha, hc, hd, hx0, hx1, hy0, hy1⟩ := HZ.out.at hs.below hlt
      subst ha
      have HR := hide (fun W => row_any (X k) (Y k) W hx0 hx1 hy0 hy1)
      obtain ⟨q0, q1, q2⟩ := rowB (X k) (Y k)
      have hnx : rowsR X Y (k + 1) = addR (rowLo (X k)) (rowHi (X k) (Y k)) (rowsR X Y k) := rfl
      have hgd := rowsR_good X Y k
      obtain ⟨rs, hrs⟩ : ∃ rs, rowsR X Y k = rs := ⟨_, rfl⟩
      obtain ⟨lo, hlo⟩ : ∃ lo : Nat, rowLo (X k) = (lo : Int) := ⟨(rowLo (X k)).toNat, by omega⟩
      obtain ⟨hi, hhi⟩ : ∃ hi : Nat, rowHi (X k) (Y k) = (hi : Int) := ⟨(rowHi (X k) (Y k)).toNat, by omega⟩
      rw [hlo, hhi] at HR q1 hnx
      rw [hlo] at q0
      rw [hhi] at q2
      rw [hrs] at hs hgd hnx
      have HNX := hide hnx
      clear hlo hhi hx0 hx1 hy0 hy1 hnx hrs
      have hkn : (k : Int) < (len : Int) := by omega
      have hd2 : wr.cell? ⟨xb, xo + k * 2 + 1, none⟩ = some (.int .i64 (Y k)) := hd
      go_wp2_with fail
      refine (HR.out _).mono ?_
      rintro e2 w2 ⟨rfl, hb2⟩
      have h2 := hs.later hb2
      clear hb2 hs hc hd hd2
      go_wp2_with fail
      have h2 := h2.eq (bitRun_start rs lo).symm
      go_loopg [9] (100 - lo) (fun ky s9 wi => ∃ n : Nat, s9 = .int .i64 n ∧ lo ≤ n ∧ n ≤ hi + 1 ∧ hi + 1 - n ≤ ky ∧ BitsAt w wi (bitRun rs lo n))
      case atStart => exact ⟨lo, rfl, by omega, by omega, by omega, h2⟩
      case round =>
        clear h2
        obtain ⟨n, rfl, hn, hn2, hky, hs⟩ := hrel
        have hsz : (bitC (bitRun rs lo n)).size = 101 := bitC_size _
        have hcn := (hs.out.cell n).trans (bitC_get _ (n := n) (by omega))
        have hfr := hs.out.frozen n
        by_cases hlt2 : n ≤ hi
        · have hni : (n : Int) ≤ (hi : Int) := by omega
          have hn0 : (n : Int) < 101 := by omega
          have h3 := hs.store n 1 (bitRun rs lo (n + 1)) (bitRun_next rs lo (by omega) (by omega))
          go_wp2_with fail
          go_roundg (hi + 1 - (n + 1))
          case rel => exact ⟨n + 1, by go_num, by omega, by omega, by omega, h3⟩
          case measure => omega
        · have hni : ¬ (n : Int) ≤ (hi : Int) := by omega
          obtain rfl : n = hi + 1 := by omega
          have h3 := hs.eq (g := bitR (rowsR X Y (k + 1))) (by
            rw [HNX.out]
            exact bitRun_done (hi := (hi : Int)) hgd (by omega))
          clear hs hcn hfr hsz hlt2 hn hn2 hky
          go_wp2_with fail
          go_roundg (len - (k + 1))
          case rel => exact ⟨k + 1, by go_num, by omega, by omega, h3⟩
          case measure => omega
    · obtain rfl : k = len := by omega
      have hkn : ¬ (k : Int) < (k : Int) := by omega
      have hgd := rowsR_good X Y k
      obtain ⟨B, hB⟩ : ∃ B : Nat, below = (B : Int) := ⟨below.toNat, by omega⟩
      subst hB
      obtain ⟨rs, hrs⟩ : ∃ rs, rowsR X Y k = rs := ⟨_, rfl⟩
      rw [hrs] at hs hgd
      have HRS := hide hrs
      clear hrs
      have h2 := hs.eq (bitCut_start rs).symm
      clear hs
      go_wp2_with fail
      go_loopg [10] B (fun ky s10 wi => ∃ n : Nat, s10 = .int .i64 n ∧ n ≤ B ∧ B - n ≤ ky ∧ BitsAt w wi (bitCut rs n))
      case atStart => exact ⟨0, rfl, by omega, by omega, h2⟩
      case round =>
        clear h2
        obtain ⟨n, rfl, hn2, hky, hs⟩ := hrel
        have hsz : (bitC (bitCut rs n)).size = 101 := bitC_size _
        by_cases hlt2 : n < B
        · have hcn := (hs.out.cell n).trans (bitC_get _ (n := n) (by omega))
          have hfr := hs.out.frozen n
          have hni : (n : Int) < (B : Int) := by omega
          have hn0 : (n : Int) < 101 := by omega
          have h3 := hs.store n 0 (bitCut rs (n + 1)) (bitCut_next rs (by omega))
          go_wp2_with fail
          go_roundg (B - (n + 1))
          case rel => exact ⟨n + 1, by go_num, by omega, by omega, h3⟩
          case measure => omega
        · have hni : ¬ (n : Int) < (B : Int) := by omega
          obtain rfl : n = B := by omega
          have h3 := hs.eq (bitCut_done hgd n)
          clear hs
          go_wp2_with fail
          refine wp_load_mid (P := Try.prog) 40 (.tmp 5) rfl (w.heap.size + 1) 0 rfl (bitC (bitR (cutR n rs))).toList (.array 101 3) (fun j v hj => ?_) (by kernel_rfl) rfl (by rw [Array.length_toList]; exact bitC_info _) ?_
          · rw [Nat.zero_add, h3.out.cell]; rw [← hj]; simp
          rw [Array.toArray_toList]
          have hst := run_storeCells_row (P := Try.prog) wr w.heap.size 40 _ (bitC (bitR (cutR n rs))) h3.res (bitC_info _) (by rw [bitC_size, bitC_size]) (bitC_one _)
          have hfin : (loadVar 40 ⟨w.heap.size, 0, none⟩).run Try.prog (wr.setRow w.heap.size (bitC (bitR (cutR n rs)))) = .ok (.agg (bitC (bitR (cutR n rs)))) (wr.setRow w.heap.size (bitC (bitR (cutR n rs)))) :=
            run_loadVar_row _ _ 40 40 _ (0, 0) (.array 101 3) (setRow_heap wr w.heap.size _ _ _ _ h3.res) (by kernel_rfl) rfl (bitC_info _)
          have hbw := below_setRow (B := w.heap.size) h3.below (Nat.le_refl _) (bitC (bitR (cutR n rs)))
          go_wp2_with fail
          exact bodyPost_ret (v := .agg (bitC (bitR (cutR n rs)))) (by simp [results, Try.results25, Act.eval, Sem.run_bind, Sem.run_pure, Instr.sureAddr, asAddr, hfin]) rfl ⟨by rw [HRS.out], hbw⟩
end Go.Proofs.Ytkmfhcjdajbbhaa
