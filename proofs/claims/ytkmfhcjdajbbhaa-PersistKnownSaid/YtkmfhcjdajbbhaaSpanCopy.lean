/-
  Sets of ranges (package span): slices.Clone at ranges, Copy.
-/
import Derived.Test.YtkmfhcjdajbbhaaSpanAdd
import Derived.Lib.SliceRun
import Derived.Lib.BufferMore
namespace Go.Proofs.Ytkmfhcjdajbbhaa
set_option linter.unusedSimpArgs false
set_option linter.unusedVariables false
open Go.RowKit Go.Lib

def RgClonePost (w : World) (n : Nat) (xs : List Value) (e : Ending) (w' : World) : Prop := ∃ v, e = .returned v ∧ w'.ownsRow w.heap.size 62 2 v n xs ∧ Below w.heap.size w w'

set_option maxRecDepth 100000 in
set_option maxHeartbeats 1000000 in
theorem rclone_any (n : Nat) (v : Value) (rs : List Rg) (w : World) (hn : rs.length = n) (hown : w.ownsRow 0 62 2 v n (rgsCells rs)) (hm : n ≤ 512) :
    Calls Try.prog 61 #[v] w (RgClonePost w n (rgsCells rs)) := by
  obtain ⟨i0, hi, hz0, hz1, hz2⟩ := info_parts rg_info
  rcases own_split hown with ⟨rfl, h0, hx⟩ | ⟨g, cap, cur, rfl, hg, hB, hc, hm2, hcl, htk⟩
  · subst h0
    have hrs : rs = [] := List.eq_nil_of_length_eq_zero hn
    subst hrs
    have hnil0 := fun (W : World) => run_eql_slice_nil_nil (P := Try.prog) W (t := 63) (e := 62) 0 0 Try.underlying63
    go_enter Try.func61, Try.ntmps61
    go_wp2_with fail
    go_ret
    exact ⟨_, rfl, ⟨by simp [rgsCells], .inl ⟨rfl, rfl⟩⟩, Below.refl _ _⟩
  · have hrb := hB.lt
    have hl := rgs_length rs
    have hR : Reads w w.heap.size 2 (some ⟨g, 0, none⟩) n (rgsCells rs) := ⟨by rw [hl, hn], fun _ => ⟨_, rfl, hrb, fun j u hu => by
      obtain ⟨rest, hrest⟩ := cur_split htk n
      have : rs.take n = rs := by rw [← hn]; exact List.take_length
      rw [this] at hrest
      rw [add_at, hB.cell, List.getElem?_toArray, hrest, List.getElem?_append_left (List.getElem?_eq_some_iff.1 hu).1]; exact hu⟩⟩
    have HR := hide hR
    clear hR hl htk hcl hc hm2 hB hg hown hn
    have hnil := fun (W : World) => Lib.run_eql_slice_nil (P := Try.prog) W 63 62 (some ⟨g, 0, none⟩) n cap 0 0 Try.underlying63
    go_enter Try.func61, Try.ntmps61
    go_wp2_with (at_builtin; refine wpList_append_any _ rfl (.tmp 5) (.tmp 6) _ rfl w.heap.size 62 i0 _ 2 16 Try.underlying63 hi hz0 hz1 hz2 rfl (by decide) (.slice (some ⟨w.heap.size, 0, none⟩) 0 0) 0 [] rfl (by exact World.ownsRow_lit w #[] 0 (Nat.le_refl _) (by decide) rfl) w.heap.size (some ⟨g, 0, none⟩) n cap (rgsCells rs) rfl (by exact HR.out.alloc (Nat.le_refl _) _) rgs_one (by unfold maxLen; omega) (by omega) (by simp) ?_; intro v' w1 hown1 hg1 hat1)
    go_ret
    refine ⟨v', rfl, by simpa using hown1, ((Below.refl _ _).alloc (Nat.le_refl _) _).trans (Below.grown (Below.refl _ _) hg1 (by simp) (fun k hk => by simp [Value.ownBlock] at hk; omega))⟩


theorem own_zero {w : World} {base e size n : Nat} {v : Value} {xs : List Value} (h : w.ownsRow base e size v n xs) : w.ownsRow 0 e size v n xs := by
  refine ⟨h.1, ?_⟩
  rcases h.2 with h0 | ⟨g, cap, cur, hv, hg, r⟩
  · exact .inl h0
  · exact .inr ⟨g, cap, cur, hv, Nat.zero_le _, r⟩
def SCopyPost (w : World) (room : Nat) (rs : List Rg) (e : Ending) (w' : World) : Prop :=
  ∃ b' g', e = .returned (.pointer (some ⟨b', 0, none⟩)) ∧ IsSet w' b' g' room rs ∧ w.heap.size ≤ b' ∧ (∀ k, g' = some k → w.heap.size ≤ k) ∧ Below w.heap.size w w'

set_option maxRecDepth 100000 in
set_option maxHeartbeats 1000000 in
theorem scopy_any (b : Nat) (g : Option Nat) (room : Nat) (rs : List Rg) (w : World) (hS : IsSet w b g room rs) :
    Calls Try.prog 38 #[.pointer (some ⟨b, 0, none⟩)] w (SCopyPost w room rs) := by
  obtain ⟨hlen, hr1, hroom⟩ := hS.len
  have hgood := hS.good
  have hb := hS.lt.1
  obtain ⟨a, c, c0, c1, hv, hB, hown, hat⟩ := hS.cells
  have HNO := hide (snone_no b room w c0 hr1)
  have HV := hide hv
  clear hat hv hS
  go_enter Try.func38, Try.ntmps38
  go_wp2_with (go_at_call 41; refine HNO.out.mono ?_; rintro e1 w1 ⟨rfl, rfl⟩)
  go_region_held3 (fun w' => w'.cell? ⟨b, 0, none⟩ = some (.int .i64 room) ∧ w'.cell? ⟨b, 1, none⟩ = some (.slice a rs.length c))
    (first | exact ⟨c0, c1⟩ | exact ⟨d0, d1⟩ | exact ⟨(World.cell?_alloc_lt _ _ _ d2).trans d0, (World.cell?_alloc_lt _ _ _ d2).trans d1⟩)
    (first | (go_at_call 61; refine (rclone_any rs.length (.slice a rs.length c) rs _ rfl (own_only2 (S := []) hown (by repeat (first | exact Only.refl _ _ | with_reducible refine Only.alloc ?_ _ | with_reducible refine Only.drewN ?_ _ | with_reducible refine Only.drew ?_)) (by simp)) (by omega)).mono ?_; rintro e w5 ⟨v5, rfl, hown5, hB5⟩; obtain ⟨a5, m5, c5, rfl⟩ := own_slice3 hown5; have hbb := (only_of_below hB5 (S := [])).blk (by exact hB) (by simp); have d0 := hbb.cell 0; have d1 := hbb.cell 1; have d2 := hbb.lt))
  all_goals
    go_wp2_with fail
    go_ret
    refine ⟨w5.heap.size, _, rfl, ⟨hr1, hroom, hlen, hgood, _, rfl, Blk.new _ _ _, own_only2 (S := []) (own_zero hown5) ((Only.refl _ _).alloc _) (by simp)⟩, by exact hB5.size, fun k hk => (hown5.lt k hk).1, by first | exact hB5.alloc hB5.size _ | exact bw_alloc' (bw_below' ((Below.refl _ _).drew) hB5) _⟩
end Go.Proofs.Ytkmfhcjdajbbhaa
