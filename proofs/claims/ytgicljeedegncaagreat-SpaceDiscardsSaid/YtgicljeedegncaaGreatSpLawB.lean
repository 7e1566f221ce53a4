/-
  The statements of layer 17: ack.
-/
import Derived.Test.YtgicljeedegncaaGreatSpLawA
namespace Go.Proofs.YtgicljeedegncaaGreat
set_option linter.unusedSimpArgs false
set_option linter.unusedVariables false
open Go.RowKit

structure AkL (w W : World) (v : Value) (i : Nat) (xs : List Value) : Prop where
  res : Blk W w.heap.size 52 #[.int .i64 0, .slice none 0 0, .bool false, .int .i64 0, .int .i64 0, .int .i64 0]
  cur : Blk W (w.heap.size + 1) 52 #[.int .i64 0, v, .bool false, .int .i64 0, .int .i64 0, .int .i64 0]
  own : W.ownsRow (w.heap.size + 2) 93 2 v i xs
  below : Below w.heap.size w W
theorem AkL.push {w W Wa W' : World} {v v' : Value} {i : Nat} {xs xs' : List Value} (h : AkL w W v i xs) (hsz : w.heap.size + 2 ≤ W.heap.size) (hW : Below W.heap.size W Wa) (hg : Wa.grownBy W' v.ownBlock) (hown : W'.ownsRow (w.heap.size + 2) 93 2 v' (i + 1) xs') :
    AkL w (W'.setCell ⟨w.heap.size + 1, 1, none⟩ v') v' (i + 1) xs' ∧ w.heap.size + 2 ≤ (W'.setCell ⟨w.heap.size + 1, 1, none⟩ v').heap.size := by
  have hlt : ∀ k, v.ownBlock = some k → w.heap.size + 2 ≤ k := fun k hk => (h.own.lt k hk).1
  have h1 := blk_grown (show Blk Wa _ _ _ from (hW.block _ h.res.lt).trans h.res) hg (fun e => by have := hlt _ e.symm; omega)
  have h2 := blk_grown (show Blk Wa _ _ _ from (hW.block _ h.cur.lt).trans h.cur) hg (fun e => by have := hlt _ e.symm; omega)
  have hz := hW.size
  have hz2 := hg.size
  have hb : Below w.heap.size w W' := Below.grown (bw_below' h.below hW) hg (by omega) (fun k hk => by have := hlt k hk; omega)
  refine ⟨⟨h1.far (by simp) _, (h2.set 1 v').eq rfl, own_only2 (S := [w.heap.size + 1]) hown ((Only.refl _ _).setCell (.inl (by simp)) _) (fun k hk hm => by simp at hm; have := (hown.lt k hk).1; omega), hb.setCell (p := ⟨w.heap.size + 1, 1, none⟩) (by simp) _⟩, by rw [World.size_setCell]; omega⟩
def Ack17Post (w : World) (n : Nat) (rs : List Rg) (e : Ending) (w' : World) : Prop := ∃ a2 c2, e = .returned (.agg (ackC a2 n c2)) ∧ RgAt w' a2 rs ∧ (∀ k o, a2 = some ⟨k, o, none⟩ → w.heap.size ≤ k ∧ k < w'.heap.size) ∧ Below w.heap.size w w'
theorem own_rg17 {w : World} {base n c : Nat} {a : Option Addr} {rs : List Rg} (hn : rs.length = n) (h : w.ownsRow base 93 2 (.slice a n c) n (rgsCells rs)) : RgAt w a rs ∧ ∀ k o, a = some ⟨k, o, none⟩ → base ≤ k ∧ k < w.heap.size := ⟨own_rgat hn h, fun k o e => by subst e; exact h.lt k rfl⟩
set_option maxRecDepth 100000 in
set_option maxHeartbeats 4000000 in
theorem ack17_any (a : Option Addr) (n cap : Nat) (rs : List Rg) (w : World) (hn : rs.length = n) (hl : n ≤ 2) (hR : RgAt w a rs) :
    Calls Tryz.prog 22 #[.slice a n cap] w (Ack17Post w n rs) := by
  have HN := hide hn
  have HR := hide hR
  obtain ⟨i0, hi0, hz0, hz1, hz2⟩ := info_parts rg_info17
  have h0 : AkL w ((w.alloc (.cells #[.int .i64 0, .slice none 0 0, .bool false, .int .i64 0, .int .i64 0, .int .i64 0] 52)).alloc (.cells #[.int .i64 0, .slice none 0 0, .bool false, .int .i64 0, .int .i64 0, .int .i64 0] 52)) (.slice none 0 0) 0 (rgsCells (rs.take 0)) :=
    ⟨(Blk.new _ _ _).alloc _, blk_new_at (by simp), ⟨rfl, .inl ⟨rfl, rfl⟩⟩, ((Below.refl _ _).alloc (Nat.le_refl _) _).alloc (by simp) _⟩
  have H0 := hide h0
  have hs0 : w.heap.size + 2 ≤ ((w.alloc (.cells #[.int .i64 0, .slice none 0 0, .bool false, .int .i64 0, .int .i64 0, .int .i64 0] 52)).alloc (.cells #[.int .i64 0, .slice none 0 0, .bool false, .int .i64 0, .int .i64 0, .int .i64 0] 52)).heap.size := by simp
  have HS0 := hide hs0
  clear hn hR h0 hs0
  go_enter Tryz.func22, Tryz.ntmps22
  go_wp2_with fail
  go_loopg [4] n (fun kx s4 wr => ∃ (i : Nat) (v : Value), s4 = .int .i64 i ∧ i ≤ n ∧ n - i ≤ kx ∧ AkL w wr v i (rgsCells (rs.take i)) ∧ w.heap.size + 2 ≤ wr.heap.size)
  case atStart => exact ⟨0, _, rfl, by omega, by omega, H0.out, HS0.out⟩
  case round =>
    clear H0 HS0
    obtain ⟨i, v, rfl, hi, hkx, hA, hsz⟩ := hrel
    by_cases hlt : i < n
    · obtain ⟨r, hr⟩ : ∃ r, rs[i]? = some r := ⟨_, List.getElem?_eq_getElem (by rw [HN.out]; exact hlt)⟩
      obtain ⟨k, rfl, hk, z0, z1⟩ := (HR.out.below hA.below) i r hr
      have HTK : Hid (rs.take (i + 1) = rs.take i ++ [r]) := by show _ = _; rw [List.take_add_one, hr]; rfl
      have hin : (i : Int) < (n : Int) := by omega
      obtain ⟨A8, c8, hv8⟩ := own_slice' hA.own
      subst hv8
      have x1 : wr.cell? ⟨w.heap.size + 1, 1, none⟩ = some (.slice A8 i c8) := hA.cur.cell 1
      have f1 := hA.cur.frozen 1
      have hcl := hA.cur.lt
      have hcur := hA.cur
      have hneo : some (w.heap.size + 1) ≠ (Value.slice A8 i c8).ownBlock := fun e => by
        have := (hA.own.lt _ e.symm).1
        omega
      obtain ⟨xs, hxs⟩ : ∃ xs, rgsCells (rs.take i) = xs := ⟨_, rfl⟩
      have hown := hA.own
      rw [hxs] at hown
      have HXS := hide hxs
      have HA := hide hA
      obtain ⟨rlo, rhi⟩ := r
      dsimp only at z0 z1
      clear hA hr hxs
      go_wp2_with fail
      go_region_law (refine step_append_any _ rfl (.tmp 12) (.tmp 24) _ rfl (w.heap.size + 2) 93 i0 _ 2 16 Tryz.underlying50 hi0 hz0 hz1 hz2 rfl (by decide) (.slice A8 i c8) i xs rfl (by exact hown.alloc _) (wr.heap.size + 1) (some ⟨wr.heap.size, 0, none⟩) 1 1 [.int .i64 rlo, .int .i64 rhi] rfl (by exact reads_lit (blk_new_at (by simp)) (by simp) rfl) (by simp [Value.oneCell']) (by unfold maxLen; omega) (by omega) (by simp; omega) ?_; intro v8 w8 hown8 hg8 hat8; obtain ⟨g8, cap8, rfl⟩ := own_form hown8; have hcur8 := blk_grown (t := 52) (by exact (hcur.alloc _)) hg8 hneo; have d0 : w8.cell? ⟨w.heap.size + 1, 1, none⟩ = some (.slice A8 i c8) := hcur8.cell 1; have d1 := hcur8.frozen 1)
      all_goals
        have hpush := HA.out.push (v' := .slice (some ⟨g8, 0, none⟩) (i + 1) cap8) (xs' := rgsCells (rs.take (i + 1))) hsz (by first | exact ((Below.refl _ _).alloc (Nat.le_refl _) _).drew | exact (Below.refl _ _).alloc (Nat.le_refl _) _ | exact ((Below.refl _ _).drew.alloc (Nat.le_refl _) _)) hg8 (by
          have e1 : rgsCells (rs.take (i + 1)) = xs ++ [.int .i64 rlo, .int .i64 rhi] := by
            rw [HTK.out]
            unfold rgsCells at *
            rw [List.flatMap_append, HXS.out]
            rfl
          rw [e1]
          exact hown8)
        go_wp2_with fail
        go_roundg (n - (i + 1))
        case rel => exact ⟨i + 1, _, by go_num, by omega, by omega, hpush.1, hpush.2⟩
        case measure => omega
    · obtain rfl : i = n := by omega
      have hin : ¬ (i : Int) < (i : Int) := by omega
      rw [List.take_of_length_le (by rw [HN.out]; exact Nat.le_refl _)] at hA
      obtain ⟨A8, c8, hv8⟩ := own_slice' hA.own
      subst hv8
      have x0 : wr.cell? ⟨w.heap.size + 1, 0, none⟩ = some (.int .i64 0) := hA.cur.cell 0
      have x1 : wr.cell? ⟨w.heap.size + 1, 1, none⟩ = some (.slice A8 i c8) := hA.cur.cell 1
      have x2 : wr.cell? ⟨w.heap.size + 1, 2, none⟩ = some (.bool false) := hA.cur.cell 2
      have x3 : wr.cell? ⟨w.heap.size + 1, 3, none⟩ = some (.int .i64 0) := hA.cur.cell 3
      have x4 : wr.cell? ⟨w.heap.size + 1, 4, none⟩ = some (.int .i64 0) := hA.cur.cell 4
      have x5 : wr.cell? ⟨w.heap.size + 1, 5, none⟩ = some (.int .i64 0) := hA.cur.cell 5
      have y0 : wr.cell? ⟨w.heap.size, 0, none⟩ = some (.int .i64 0) := hA.res.cell 0
      have f0 : wr.frozen? ⟨w.heap.size, 0, none⟩ = false := hA.res.frozen 0
      have y1 : wr.cell? ⟨w.heap.size, 1, none⟩ = some (.slice none 0 0) := hA.res.cell 1
      have f1 : wr.frozen? ⟨w.heap.size, 1, none⟩ = false := hA.res.frozen 1
      have y2 : wr.cell? ⟨w.heap.size, 2, none⟩ = some (.bool false) := hA.res.cell 2
      have f2 : wr.frozen? ⟨w.heap.size, 2, none⟩ = false := hA.res.frozen 2
      have y3 : wr.cell? ⟨w.heap.size, 3, none⟩ = some (.int .i64 0) := hA.res.cell 3
      have f3 : wr.frozen? ⟨w.heap.size, 3, none⟩ = false := hA.res.frozen 3
      have y4 : wr.cell? ⟨w.heap.size, 4, none⟩ = some (.int .i64 0) := hA.res.cell 4
      have f4 : wr.frozen? ⟨w.heap.size, 4, none⟩ = false := hA.res.frozen 4
      have y5 : wr.cell? ⟨w.heap.size, 5, none⟩ = some (.int .i64 0) := hA.res.cell 5
      have f5 : wr.frozen? ⟨w.heap.size, 5, none⟩ = false := hA.res.frozen 5
      obtain ⟨h1, h2⟩ := own_rg17 HN.out hA.own
      have HA := hide hA
      clear hA
      go_wp2_with fail
      have hfin : Blk ((((((wr.setCell ⟨w.heap.size, 0, none⟩ (.int .i64 0)).setCell ⟨w.heap.size, 1, none⟩ (.slice A8 i c8)).setCell ⟨w.heap.size, 2, none⟩ (.bool false)).setCell ⟨w.heap.size, 3, none⟩ (.int .i64 0)).setCell ⟨w.heap.size, 4, none⟩ (.int .i64 0)).setCell ⟨w.heap.size, 5, none⟩ (.int .i64 0)) w.heap.size 52 #[.int .i64 0, .slice A8 i c8, .bool false, .int .i64 0, .int .i64 0, .int .i64 0] := ((((((HA.out.res.set 0 _).set 1 _).set 2 _).set 3 _).set 4 _).set 5 _).eq rfl
      have hO : Only [w.heap.size] wr ((((((wr.setCell ⟨w.heap.size, 0, none⟩ (.int .i64 0)).setCell ⟨w.heap.size, 1, none⟩ (.slice A8 i c8)).setCell ⟨w.heap.size, 2, none⟩ (.bool false)).setCell ⟨w.heap.size, 3, none⟩ (.int .i64 0)).setCell ⟨w.heap.size, 4, none⟩ (.int .i64 0)).setCell ⟨w.heap.size, 5, none⟩ (.int .i64 0)) := ((((((Only.refl _ _).setCell (.inl (by simp)) _).setCell (.inl (by simp)) _).setCell (.inl (by simp)) _).setCell (.inl (by simp)) _).setCell (.inl (by simp)) _).setCell (.inl (by simp)) _
      generalize ((((((wr.setCell ⟨w.heap.size, 0, none⟩ (.int .i64 0)).setCell ⟨w.heap.size, 1, none⟩ (.slice A8 i c8)).setCell ⟨w.heap.size, 2, none⟩ (.bool false)).setCell ⟨w.heap.size, 3, none⟩ (.int .i64 0)).setCell ⟨w.heap.size, 4, none⟩ (.int .i64 0)).setCell ⟨w.heap.size, 5, none⟩ (.int .i64 0)) = W9 at *
      have c0 : W9.cell? ⟨w.heap.size, 0, none⟩ = some (.int .i64 0) := hfin.cell 0
      have c1 : W9.cell? ⟨w.heap.size, 1, none⟩ = some (.slice A8 i c8) := hfin.cell 1
      have c2 : W9.cell? ⟨w.heap.size, 2, none⟩ = some (.bool false) := hfin.cell 2
      have c3 : W9.cell? ⟨w.heap.size, 3, none⟩ = some (.int .i64 0) := hfin.cell 3
      have c4 : W9.cell? ⟨w.heap.size, 4, none⟩ = some (.int .i64 0) := hfin.cell 4
      have c5 : W9.cell? ⟨w.heap.size, 5, none⟩ = some (.int .i64 0) := hfin.cell 5
      exact bodyPost_ret (v := .agg (ackC A8 i c8)) (by simp [results, Tryz.results22, go_sem, c0, c1, c2, c3, c4, c5, ackC]) rfl ⟨A8, c8, rfl, h1.only hO (fun k e hm => by simp at hm; have := (h2 k 0 e).1; omega), fun k o e => by have h3 := h2 k o e; have := hO.size; omega, HA.out.below.trans (hO.below (fun x hx => by simp at hx; omega) HA.out.below.size)⟩
end Go.Proofs.YtgicljeedegncaaGreat
