/-
  The statements of the packets' log: 'same', where both logs stand alike.
-/
import Derived.Test.YtcigkggdcogokaaSentRef4
import Derived.Deep.RegionHeld3
namespace Go.Proofs.Ytcigkggdcogokaa
open Go.RowKit

/-- What stands while 'same' asks. -/
structure SameSt (w0 w : World) (b rb m room : Nat) (last : Int) (ps : List Pk) (a : Option Addr) (c X1 X2 X3 X4 : Nat) (p q : Pk) : Prop where
  log : IsLog w b rb room last ps
  ref : IsRef w m room last ps
  bm : Blk w m 73 #[.int .i64 room, .int .i64 last, .slice a ps.length c]
  row : PkRow w (.slice a ps.length c) ps
  x1 : Blk w X1 30 #[.int .i64 p.num, .int .i64 p.time, .int .i64 p.size, .bool p.el, .bool p.fl, .bool p.ect]
  x2 : Blk w X2 30 #[.int .i64 p.num, .int .i64 p.time, .int .i64 p.size, .bool p.el, .bool p.fl, .bool p.ect]
  x3 : Blk w X3 30 #[.int .i64 q.num, .int .i64 q.time, .int .i64 q.size, .bool q.el, .bool q.fl, .bool q.ect]
  x4 : Blk w X4 30 #[.int .i64 q.num, .int .i64 q.time, .int .i64 q.size, .bool q.el, .bool q.fl, .bool q.ect]
  bw : Below w0.heap.size w0 w
section
variable {w0 w w' : World} {b rb m room : Nat} {last : Int} {ps : List Pk} {a : Option Addr} {c X1 X2 X3 X4 : Nat} {p q : Pk}
theorem SameSt.below (h : SameSt w0 w b rb m room last ps a c X1 X2 X3 X4 p q) (hb : Below w.heap.size w w') : SameSt w0 w' b rb m room last ps a c X1 X2 X3 X4 p q :=
  ⟨h.log.below hb, h.ref.below hb, (only_of_below hb (S := [])).blk h.bm (by simp), h.row.below hb, (only_of_below hb (S := [])).blk h.x1 (by simp), (only_of_below hb (S := [])).blk h.x2 (by simp), (only_of_below hb (S := [])).blk h.x3 (by simp), (only_of_below hb (S := [])).blk h.x4 (by simp), bw_below h.bw hb⟩
theorem SameSt.drewN (h : SameSt w0 w b rb m room last ps a c X1 X2 X3 X4 p q) (n : Nat) : SameSt w0 (w.drewN n) b rb m room last ps a c X1 X2 X3 X4 p q := h.below (below_drewN (Below.refl _ _) n)
theorem SameSt.drew (h : SameSt w0 w b rb m room last ps a c X1 X2 X3 X4 p q) : SameSt w0 w.drew b rb m room last ps a c X1 X2 X3 X4 p q := h.drewN 1
theorem SameSt.cells (h : SameSt w0 w b rb m room last ps a c X1 X2 X3 X4 p q) : w.cell? ⟨X1, 0, none⟩ = some (.int .i64 p.num) ∧ w.cell? ⟨X1, 1, none⟩ = some (.int .i64 p.time) ∧ w.cell? ⟨X1, 2, none⟩ = some (.int .i64 p.size) ∧ w.cell? ⟨X1, 3, none⟩ = some (.bool p.el) ∧ w.cell? ⟨X1, 4, none⟩ = some (.bool p.fl) ∧ w.cell? ⟨X1, 5, none⟩ = some (.bool p.ect) ∧ w.cell? ⟨X2, 0, none⟩ = some (.int .i64 p.num) ∧ w.cell? ⟨X2, 1, none⟩ = some (.int .i64 p.time) ∧ w.cell? ⟨X2, 2, none⟩ = some (.int .i64 p.size) ∧ w.cell? ⟨X2, 3, none⟩ = some (.bool p.el) ∧ w.cell? ⟨X2, 4, none⟩ = some (.bool p.fl) ∧ w.cell? ⟨X2, 5, none⟩ = some (.bool p.ect) ∧ w.cell? ⟨X3, 0, none⟩ = some (.int .i64 q.num) ∧ w.cell? ⟨X3, 1, none⟩ = some (.int .i64 q.time) ∧ w.cell? ⟨X3, 2, none⟩ = some (.int .i64 q.size) ∧ w.cell? ⟨X3, 3, none⟩ = some (.bool q.el) ∧ w.cell? ⟨X3, 4, none⟩ = some (.bool q.fl) ∧ w.cell? ⟨X3, 5, none⟩ = some (.bool q.ect) ∧ w.cell? ⟨X4, 0, none⟩ = some (.int .i64 q.num) ∧ w.cell? ⟨X4, 1, none⟩ = some (.int .i64 q.time) ∧ w.cell? ⟨X4, 2, none⟩ = some (.int .i64 q.size) ∧ w.cell? ⟨X4, 3, none⟩ = some (.bool q.el) ∧ w.cell? ⟨X4, 4, none⟩ = some (.bool q.fl) ∧ w.cell? ⟨X4, 5, none⟩ = some (.bool q.ect) ∧ w.cell? ⟨m, 1, none⟩ = some (.int .i64 last) ∧ w.cell? ⟨m, 2, none⟩ = some (.slice a ps.length c) :=
  ⟨h.x1.cell 0, h.x1.cell 1, h.x1.cell 2, h.x1.cell 3, h.x1.cell 4, h.x1.cell 5, h.x2.cell 0, h.x2.cell 1, h.x2.cell 2, h.x2.cell 3, h.x2.cell 4, h.x2.cell 5, h.x3.cell 0, h.x3.cell 1, h.x3.cell 2, h.x3.cell 3, h.x3.cell 4, h.x3.cell 5, h.x4.cell 0, h.x4.cell 1, h.x4.cell 2, h.x4.cell 3, h.x4.cell 4, h.x4.cell 5, h.bm.cell 1, h.bm.cell 2⟩
end

set_option maxRecDepth 100000 in
set_option maxHeartbeats 4000000 in
theorem same_any (b rb m room : Nat) (last n : Int) (ps : List Pk) (w : World) (h2 : Alike2 w b rb m room last ps) :
    Calls Try.prog 30 #[.pointer (some ⟨b, 0, none⟩), .pointer (some ⟨m, 0, none⟩), .int .i64 n] w fun e w' => e = .returned (.bool true) ∧ Below w.heap.size w w' := by
  have hmay := h2.log.may
  have hroom := h2.log.room
  have hlen : ps.length ≤ 1000000 := by omega
  obtain ⟨p, t, hp⟩ : ∃ p t, getOf n ps = (p, t) := ⟨_, _, rfl⟩
  obtain ⟨q, u, hq⟩ : ∃ q u, headOf ps = (q, u) := ⟨_, _, rfl⟩
  have HP := hide hp
  have HQ := hide hq
  have HM := hide hmay
  clear hp hq hmay
  go_enter Try.func30, Try.ntmps30
  go_wp2_with fail
  refine (get_any b rb room last n ps p t w h2.log HP.out).mono ?_
  rintro e1 w1 ⟨rfl, hB1⟩
  have h3 := (h2.below hB1).below ((Below.refl _ _).alloc (Nat.le_refl _) (.cells #[.int .i64 p.num, .int .i64 p.time, .int .i64 p.size, .bool p.el, .bool p.fl, .bool p.ect] 30))
  have hx1 := Blk.new w1 30 #[.int .i64 p.num, .int .i64 p.time, .int .i64 p.size, .bool p.el, .bool p.fl, .bool p.ect]
  have hW1 := bw_alloc hB1 (.cells #[.int .i64 p.num, .int .i64 p.time, .int .i64 p.size, .bool p.el, .bool p.fl, .bool p.ect] 30)
  clear hB1 h2
  go_wp2_with fail
  refine (rget_any m room last n ps p t _ h3.ref HP.out).mono ?_
  rintro e2 w2 ⟨rfl, hB2⟩
  have h4 := (h3.below hB2).below ((Below.refl _ _).alloc (Nat.le_refl _) (.cells #[.int .i64 p.num, .int .i64 p.time, .int .i64 p.size, .bool p.el, .bool p.fl, .bool p.ect] 30))
  have hx2 := Blk.new w2 30 #[.int .i64 p.num, .int .i64 p.time, .int .i64 p.size, .bool p.el, .bool p.fl, .bool p.ect]
  have hx1 := ((only_of_below hB2 (S := [])).blk hx1 (by simp)).alloc (.cells #[.int .i64 p.num, .int .i64 p.time, .int .i64 p.size, .bool p.el, .bool p.fl, .bool p.ect] 30)
  have hW2 := bw_alloc (bw_below hW1 hB2) (.cells #[.int .i64 p.num, .int .i64 p.time, .int .i64 p.size, .bool p.el, .bool p.fl, .bool p.ect] 30)
  clear hB2 h3 hW1
  go_wp2_with fail
  refine (oldest_any b rb room last ps q u _ h4.log HQ.out).mono ?_
  rintro e3 w3 ⟨rfl, hB3⟩
  have h5 := (h4.below hB3).below ((Below.refl _ _).alloc (Nat.le_refl _) (.cells #[.int .i64 q.num, .int .i64 q.time, .int .i64 q.size, .bool q.el, .bool q.fl, .bool q.ect] 30))
  have hx3 := Blk.new w3 30 #[.int .i64 q.num, .int .i64 q.time, .int .i64 q.size, .bool q.el, .bool q.fl, .bool q.ect]
  have hx1 := ((only_of_below hB3 (S := [])).blk hx1 (by simp)).alloc (.cells #[.int .i64 q.num, .int .i64 q.time, .int .i64 q.size, .bool q.el, .bool q.fl, .bool q.ect] 30)
  have hx2 := ((only_of_below hB3 (S := [])).blk hx2 (by simp)).alloc (.cells #[.int .i64 q.num, .int .i64 q.time, .int .i64 q.size, .bool q.el, .bool q.fl, .bool q.ect] 30)
  have hW3 := bw_alloc (bw_below hW2 hB3) (.cells #[.int .i64 q.num, .int .i64 q.time, .int .i64 q.size, .bool q.el, .bool q.fl, .bool q.ect] 30)
  clear hB3 h4 hW2
  go_wp2_with fail
  refine (roldest_any m room last ps q u _ h5.ref HQ.out).mono ?_
  rintro e4 w4 ⟨rfl, hB4⟩
  have h6 := (h5.below hB4).below ((Below.refl _ _).alloc (Nat.le_refl _) (.cells #[.int .i64 q.num, .int .i64 q.time, .int .i64 q.size, .bool q.el, .bool q.fl, .bool q.ect] 30))
  have hx4 := Blk.new w4 30 #[.int .i64 q.num, .int .i64 q.time, .int .i64 q.size, .bool q.el, .bool q.fl, .bool q.ect]
  have hx1 := ((only_of_below hB4 (S := [])).blk hx1 (by simp)).alloc (.cells #[.int .i64 q.num, .int .i64 q.time, .int .i64 q.size, .bool q.el, .bool q.fl, .bool q.ect] 30)
  have hx2 := ((only_of_below hB4 (S := [])).blk hx2 (by simp)).alloc (.cells #[.int .i64 q.num, .int .i64 q.time, .int .i64 q.size, .bool q.el, .bool q.fl, .bool q.ect] 30)
  have hx3 := ((only_of_below hB4 (S := [])).blk hx3 (by simp)).alloc (.cells #[.int .i64 q.num, .int .i64 q.time, .int .i64 q.size, .bool q.el, .bool q.fl, .bool q.ect] 30)
  have hW4 := bw_alloc (bw_below hW3 hB4) (.cells #[.int .i64 q.num, .int .i64 q.time, .int .i64 q.size, .bool q.el, .bool q.fl, .bool q.ect] 30)
  clear hB4 h5 hW3
  obtain ⟨_, _, v, hBm, hv⟩ := h6.ref
  obtain ⟨a, c, rfl⟩ := hv.slice
  go_wp2_with fail
  obtain ⟨X1, hX1⟩ : ∃ X, w1.heap.size = X := ⟨_, rfl⟩
  obtain ⟨X2, hX2⟩ : ∃ X, w2.heap.size = X := ⟨_, rfl⟩
  obtain ⟨X3, hX3⟩ : ∃ X, w3.heap.size = X := ⟨_, rfl⟩
  obtain ⟨X4, hX4⟩ : ∃ X, w4.heap.size = X := ⟨_, rfl⟩
  rw [hX1] at hx1 ⊢
  rw [hX2] at hx2 ⊢
  rw [hX3] at hx3 ⊢
  rw [hX4] at hx4 ⊢
  refine name_world (fun W => SameSt w W b rb m room last ps a c X1 X2 X3 X4 p q) ⟨h6.log, h6.ref, hBm, hv, hx1, hx2, hx3, hx4, hW4⟩ ?_
  clear hX1 hX2 hX3 hX4 hx1 hx2 hx3 hx4 hW4 h6 hBm hv
  rintro W hs
  go_region_held3 (fun w' => w'.cell? ⟨X1, 0, none⟩ = some (.int .i64 p.num) ∧ w'.cell? ⟨X1, 1, none⟩ = some (.int .i64 p.time) ∧ w'.cell? ⟨X1, 2, none⟩ = some (.int .i64 p.size) ∧ w'.cell? ⟨X1, 3, none⟩ = some (.bool p.el) ∧ w'.cell? ⟨X1, 4, none⟩ = some (.bool p.fl) ∧ w'.cell? ⟨X1, 5, none⟩ = some (.bool p.ect) ∧ w'.cell? ⟨X2, 0, none⟩ = some (.int .i64 p.num) ∧ w'.cell? ⟨X2, 1, none⟩ = some (.int .i64 p.time) ∧ w'.cell? ⟨X2, 2, none⟩ = some (.int .i64 p.size) ∧ w'.cell? ⟨X2, 3, none⟩ = some (.bool p.el) ∧ w'.cell? ⟨X2, 4, none⟩ = some (.bool p.fl) ∧ w'.cell? ⟨X2, 5, none⟩ = some (.bool p.ect) ∧ w'.cell? ⟨X3, 0, none⟩ = some (.int .i64 q.num) ∧ w'.cell? ⟨X3, 1, none⟩ = some (.int .i64 q.time) ∧ w'.cell? ⟨X3, 2, none⟩ = some (.int .i64 q.size) ∧ w'.cell? ⟨X3, 3, none⟩ = some (.bool q.el) ∧ w'.cell? ⟨X3, 4, none⟩ = some (.bool q.fl) ∧ w'.cell? ⟨X3, 5, none⟩ = some (.bool q.ect) ∧ w'.cell? ⟨X4, 0, none⟩ = some (.int .i64 q.num) ∧ w'.cell? ⟨X4, 1, none⟩ = some (.int .i64 q.time) ∧ w'.cell? ⟨X4, 2, none⟩ = some (.int .i64 q.size) ∧ w'.cell? ⟨X4, 3, none⟩ = some (.bool q.el) ∧ w'.cell? ⟨X4, 4, none⟩ = some (.bool q.fl) ∧ w'.cell? ⟨X4, 5, none⟩ = some (.bool q.ect) ∧ w'.cell? ⟨m, 1, none⟩ = some (.int .i64 last) ∧ w'.cell? ⟨m, 2, none⟩ = some (.slice a ps.length c)) (first | with_reducible exact hs.cells | with_reducible exact hs.drew.cells)
    (first
      | (go_at_call 15; refine (last_any b rb room last ps _ (by first | with_reducible exact hs.log | with_reducible exact hs.log.drew)).mono ?_; rintro e w1 ⟨rfl, rfl⟩; skip)
      | (go_at_call 20; refine (len_any b rb room last ps _ (by first | with_reducible exact hs.log | with_reducible exact hs.log.drew)).mono ?_; rintro e w1 ⟨rfl, hB⟩; have hs := (show SameSt w w1 b rb m room last ps a c X1 X2 X3 X4 p q from SameSt.below (by first | with_reducible exact hs | with_reducible exact hs.drew) hB))
      | (go_at_call 18; refine (flight_any b rb room last ps _ (by first | with_reducible exact hs.log | with_reducible exact hs.log.drew)).mono ?_; rintro e w1 ⟨rfl, hB⟩; have hs := (show SameSt w w1 b rb m room last ps a c X1 X2 X3 X4 p q from SameSt.below (by first | with_reducible exact hs | with_reducible exact hs.drew) hB))
      | (go_at_call 51; refine (rflight_any m room last ps _ (by first | with_reducible exact hs.ref | with_reducible exact hs.ref.drewN 1) HM.out).mono ?_; rintro e w1 ⟨rfl, rfl⟩; skip)
      | (go_at_call 19; refine (elic_any b rb room last ps _ (by first | with_reducible exact hs.log | with_reducible exact hs.log.drew)).mono ?_; rintro e w1 ⟨rfl, hB⟩; have hs := (show SameSt w w1 b rb m room last ps a c X1 X2 X3 X4 p q from SameSt.below (by first | with_reducible exact hs | with_reducible exact hs.drew) hB))
      | (go_at_call 52; refine (relic_any m room last ps _ (by first | with_reducible exact hs.ref | with_reducible exact hs.ref.drewN 1)).mono ?_; rintro e w1 ⟨rfl, rfl⟩; skip)
      | (go_at_call 21; refine (all_any b rb room last ps _ (by first | with_reducible exact hs.log | with_reducible exact hs.log.drew)).mono ?_; rintro e w1 ⟨v, rfl, hv, hB⟩; have hv := own_pkrow hv; have hs := (show SameSt w w1 b rb m room last ps a c X1 X2 X3 X4 p q from SameSt.below (by first | with_reducible exact hs | with_reducible exact hs.drew) hB))
      | (go_at_call 23; refine (equal_same _ _ ps _ hv hs.row hlen).mono ?_; rintro e w1 ⟨rfl, nq, rfl⟩; have hs := hs.drewN nq))
  all_goals (go_wp2_with fail; go_ret; exact ⟨rfl, hs.bw⟩)
end Go.Proofs.Ytcigkggdcogokaa
