/-
  The statements of layer 17: a run: what was sent, told as acknowledged, and as lost (has, take).
-/
import Derived.Test.YtgicljeedegncaaGreatSpWorks
namespace Go.Proofs.YtgicljeedegncaaGreat
set_option linter.unusedSimpArgs false
set_option linter.unusedVariables false
open Go.RowKit

set_option maxHeartbeats 1000000 in
theorem has17_any (a : Option Addr) (n c : Nat) (ns : List Int) (x : Int) (w : World) (hn : ns.length = n) (hl : n ≤ 1000) (hA : NumsAt w a ns) :
    Calls Tryz.prog 19 #[.slice a n c, .int .i64 x] w fun e w' => e = .returned (.bool (decide (x ∈ ns))) ∧ w = w' := by
  have HN := hide hn
  have HA := hide hA
  clear hn hA
  go_enter Tryz.func19, Tryz.ntmps19
  go_wp2_with fail
  go_loopg [5] n (fun kx s5 wr => ∃ i : Nat, s5 = .int .i64 i ∧ i ≤ n ∧ n - i ≤ kx ∧ Hid (x ∉ ns.take i) ∧ wr = w)
  case atStart => exact ⟨0, rfl, by omega, by omega, by show x ∉ _; simp, rfl⟩
  case round =>
    obtain ⟨i, rfl, hi, hkx, hno, hw⟩ := hrel
    subst hw
    by_cases hlt : i < n
    · obtain ⟨y, hy⟩ : ∃ y, ns[i]? = some y := ⟨_, List.getElem?_eq_getElem (by rw [HN.out]; exact hlt)⟩
      obtain ⟨k, rfl, hk, z0⟩ := HA.out i y hy
      have hin : (i : Int) < (n : Int) := by omega
      have HY := hide hy
      have HNO := hide (show x ∉ ns.take i from hno)
      clear hy hno
      by_cases hxy : y = x
      · subst hxy
        go_wp2_with fail
        go_ret
        refine ⟨?_, rfl⟩
        rw [decide_eq_true (List.mem_of_getElem? HY.out)]
        rfl
      · have hne : (y == x) = false := by simpa using hxy
        go_wp2_with fail
        go_roundg (n - (i + 1))
        case rel =>
          refine ⟨i + 1, by go_num, by omega, by omega, ?_, rfl⟩
          show x ∉ _
          rw [List.take_add_one, HY.out]
          intro hm
          simp at hm
          rcases hm with hm | hm
          · exact HNO.out hm
          · exact hxy hm.symm
        case measure => omega
    · obtain rfl : i = n := by omega
      have hin : ¬ (i : Int) < (i : Int) := by omega
      have HNO := hide (show x ∉ ns.take i from hno)
      clear hno
      go_wp2_with fail
      go_ret
      refine ⟨?_, rfl⟩
      have h1 := HNO.out
      rw [List.take_of_length_le (by rw [HN.out]; exact Nat.le_refl _)] at h1
      rw [decide_eq_false h1]
      rfl
/-- Blocks that a run has nothing to do with, and what they hold. -/
class Kept where
  ks : List Nat
  what : Nat → Option Obj
section
variable [Kept]
/-- A run: its space, and the three rows of numbers. -/
structure RunAt (w W : World) (f : Ft) (s : SpSt) (r : Nat) (vs va vl : Value) (sent acked lost : List Int) (now : Int) : Prop where
  sp : SpL w W f s
  blk : Blk W r 31 #[.pointer (some ⟨f.b, 0, none⟩), vs, va, vl, .int .i64 0, .int .i64 now]
  nr : w.heap.size ≤ r
  fr : r ∉ f.all
  os : W.ownsRow (r + 1) 3 1 vs sent.length (intVs sent)
  oa : W.ownsRow (r + 1) 3 1 va acked.length (intVs acked)
  ol : W.ownsRow (r + 1) 3 1 vl lost.length (intVs lost)
  xs : ∀ k, vs.ownBlock = some k → k ∉ f.all
  xa : ∀ k, va.ownBlock = some k → k ∉ f.all
  xl : ∀ k, vl.ownBlock = some k → k ∉ f.all
  sa : ∀ k, vs.ownBlock = some k → va.ownBlock ≠ some k
  sl : ∀ k, vs.ownBlock = some k → vl.ownBlock ≠ some k
  al : ∀ k, va.ownBlock = some k → vl.ownBlock ≠ some k
  kp : ∀ k ∈ Kept.ks, W.heap[k]? = Kept.what k ∧ k < W.heap.size ∧ k ∉ f.all ∧ k ≠ r ∧ vs.ownBlock ≠ some k ∧ va.ownBlock ≠ some k ∧ vl.ownBlock ≠ some k
section
variable {w W W' Wa : World} {f f' : Ft} {s s' : SpSt} {r : Nat} {vs va vl v' : Value} {sent acked lost out' : List Int} {now : Int}
theorem RunAt.later (h : RunAt w W f s r vs va vl sent acked lost now) (hb : Below W.heap.size W W') : RunAt w W' f s r vs va vl sent acked lost now :=
  ⟨h.sp.later hb, (hb.block _ h.blk.lt).trans h.blk, h.nr, h.fr, own_only2 (S := []) h.os (only_of_below hb) (by simp), own_only2 (S := []) h.oa (only_of_below hb) (by simp), own_only2 (S := []) h.ol (only_of_below hb) (by simp), h.xs, h.xa, h.xl, h.sa, h.sl, h.al, fun k hk => by
    obtain ⟨h1, h2, h3⟩ := h.kp k hk
    exact ⟨(hb.block k h2).trans h1, Nat.lt_of_lt_of_le h2 hb.size, h3⟩⟩
theorem RunAt.step (h : RunAt w W f s r vs va vl sent acked lost now) (hp : SpPost W f s' f' W') : RunAt w W' f' s' r vs va vl sent acked lost now :=
  ⟨h.sp.step hp, by rw [hp.b]; exact hp.only.blk h.blk h.fr, h.nr, hp.off h.blk.lt h.fr, own_only2 h.os hp.only h.xs, own_only2 h.oa hp.only h.xa, own_only2 h.ol hp.only h.xl, fun k hk => hp.off (h.os.lt k hk).2 (h.xs k hk), fun k hk => hp.off (h.oa.lt k hk).2 (h.xa k hk), fun k hk => hp.off (h.ol.lt k hk).2 (h.xl k hk), h.sa, h.sl, h.al, fun k hk => by
    obtain ⟨h1, h2, h3, h4⟩ := h.kp k hk
    exact ⟨(hp.only.block k h2 h3).trans h1, Nat.lt_of_lt_of_le h2 hp.only.size, hp.off h2 h3, h4⟩⟩
/-- The run's own cells turn. -/
theorem RunAt.only {S : List Nat} (h : RunAt w W f s r vs va vl sent acked lost now) (ho : Only S W W') (hf : ∀ x ∈ f.all, x ∉ S) (hS : ∀ x ∈ S, w.heap.size ≤ x) : SpL w W' f s := ⟨h.sp.sp.only ho hf, h.sp.nb, h.sp.below.trans (ho.below hS h.sp.below.size)⟩
theorem RunAt.setNow (h : RunAt w W f s r vs va vl sent acked lost now) (t : Int) : RunAt w (W.setCell ⟨r, 5, none⟩ (.int .i64 t)) f s r vs va vl sent acked lost t := by
  have ho : Only [r] W (W.setCell ⟨r, 5, none⟩ (.int .i64 t)) := (Only.refl _ _).setCell (.inl (by simp)) _
  have hne : ∀ {v : Value} {n : Nat} {xs : List Value}, W.ownsRow (r + 1) 3 1 v n xs → ∀ k, v.ownBlock = some k → k ∉ [r] := fun hv k hk hm => by
    simp at hm
    have := (hv.lt k hk).1
    omega
  exact ⟨h.only ho (fun x hx hm => by simp at hm; subst hm; exact h.fr hx) (fun x hx => by simp at hx; subst hx; exact h.nr), (h.blk.set 5 _).eq rfl, h.nr, h.fr, own_only2 h.os ho (hne h.os), own_only2 h.oa ho (hne h.oa), own_only2 h.ol ho (hne h.ol), h.xs, h.xa, h.xl, h.sa, h.sl, h.al, fun k hk => by
    obtain ⟨h1, h2, h3, h4, h5⟩ := h.kp k hk
    exact ⟨(ho.block k h2 (by simp; exact h4)).trans h1, Nat.lt_of_lt_of_le h2 ho.size, h3, h4, h5⟩⟩
theorem RunAt.pushA (h : RunAt w W f s r vs va vl sent acked lost now) (hW : Below W.heap.size W Wa) (hg : Wa.grownBy W' va.ownBlock) (hat : v'.ownBlock = va.ownBlock ∨ v'.ownBlock = some Wa.heap.size) (hown : W'.ownsRow (r + 1) 3 1 v' out'.length (intVs out')) :
    RunAt w (W'.setCell ⟨r, 2, none⟩ v') f s r vs v' vl sent out' lost now := by
  have hA := h.later hW
  have ho : Only (r :: va.ownBlock.toList) Wa (W'.setCell ⟨r, 2, none⟩ v') := ((only_row hg).mono (fun x hx => .inl (by simp only [Option.mem_toList] at hx; simp [hx]))).setCell (.inl (by simp)) _
  have hr : ∀ k, va.ownBlock = some k → k ≠ r := fun k hk e => by have := (hA.oa.lt k hk).1; omega
  have hne : ∀ {v : Value}, (∀ k, v.ownBlock = some k → va.ownBlock ≠ some k) → (∀ k, v.ownBlock = some k → r + 1 ≤ k) → ∀ k, v.ownBlock = some k → k ∉ r :: va.ownBlock.toList := fun h1 h2 k hk hm => by
    simp only [List.mem_cons, Option.mem_toList] at hm
    rcases hm with hm | hm
    · have := h2 k hk; omega
    · exact h1 k hk hm
  have hnew : ∀ {v : Value} {n : Nat} {xs : List Value}, Wa.ownsRow (r + 1) 3 1 v n xs → (∀ k, v.ownBlock = some k → va.ownBlock ≠ some k) → ∀ k, v.ownBlock = some k → v'.ownBlock ≠ some k := fun hv h1 k hk he => by
    rcases hat with e | e
    · rw [e] at he; exact h1 k hk he
    · rw [e] at he
      cases he
      have := (hv.lt _ hk).2
      omega
  have hblk : Blk W' r 31 #[.pointer (some ⟨f.b, 0, none⟩), vs, va, vl, .int .i64 0, .int .i64 now] := blk_grown hA.blk hg (fun e => hr r e.symm rfl)
  refine ⟨hA.only ho (fun x hx hm => ?_) (fun x hx => ?_), (hblk.set 2 _).eq rfl, h.nr, h.fr, own_only2 hA.os ho (hne hA.sa (fun k hk => (hA.os.lt k hk).1)), own_only2 (S := [r]) hown ((Only.refl _ _).setCell (.inl (by simp)) _) (fun k hk hm => by simp at hm; have := (hown.lt k hk).1; omega), own_only2 hA.ol ho (hne (fun k hk he => hA.al k he hk) (fun k hk => (hA.ol.lt k hk).1)), hA.xs, fun k hk hm => ?_, hA.xl, hnew hA.os hA.sa, hA.sl, fun k hk he => hnew hA.ol (fun k hk he => hA.al k he hk) k he hk, fun k hk => by
    obtain ⟨h1, h2, h3, h4, h5, h6, h7⟩ := hA.kp k hk
    have hv : v'.ownBlock ≠ some k := fun he => by
      rcases hat with e | e
      · rw [e] at he
        exact h6 he
      · rw [e] at he
        cases he
        omega
    refine ⟨(ho.block k h2 (fun hm => ?_)).trans h1, Nat.lt_of_lt_of_le h2 ho.size, h3, h4, h5, hv, h7⟩
    simp only [List.mem_cons, Option.mem_toList] at hm
    rcases hm with hm | hm
    · exact h4 hm
    · exact h6 hm⟩
  · simp only [List.mem_cons, Option.mem_toList] at hm
    rcases hm with rfl | hm
    · exact h.fr hx
    · exact h.xa x hm hx
  · simp only [List.mem_cons, Option.mem_toList] at hx
    have h1 := h.nr
    rcases hx with rfl | hx
    · exact h1
    · have := (hA.oa.lt x hx).1; omega
  · rcases hat with e | e
    · rw [e] at hk; exact h.xa k hk hm
    · rw [e] at hk
      cases hk
      have := hA.sp.sp.lt _ hm
      omega
theorem RunAt.pushL (h : RunAt w W f s r vs va vl sent acked lost now) (hW : Below W.heap.size W Wa) (hg : Wa.grownBy W' vl.ownBlock) (hat : v'.ownBlock = vl.ownBlock ∨ v'.ownBlock = some Wa.heap.size) (hown : W'.ownsRow (r + 1) 3 1 v' out'.length (intVs out')) :
    RunAt w (W'.setCell ⟨r, 3, none⟩ v') f s r vs va v' sent acked out' now := by
  have hA := h.later hW
  have ho : Only (r :: vl.ownBlock.toList) Wa (W'.setCell ⟨r, 3, none⟩ v') := ((only_row hg).mono (fun x hx => .inl (by simp only [Option.mem_toList] at hx; simp [hx]))).setCell (.inl (by simp)) _
  have hr : ∀ k, vl.ownBlock = some k → k ≠ r := fun k hk e => by have := (hA.ol.lt k hk).1; omega
  have hne : ∀ {v : Value}, (∀ k, v.ownBlock = some k → vl.ownBlock ≠ some k) → (∀ k, v.ownBlock = some k → r + 1 ≤ k) → ∀ k, v.ownBlock = some k → k ∉ r :: vl.ownBlock.toList := fun h1 h2 k hk hm => by
    simp only [List.mem_cons, Option.mem_toList] at hm
    rcases hm with hm | hm
    · have := h2 k hk; omega
    · exact h1 k hk hm
  have hnew : ∀ {v : Value} {n : Nat} {xs : List Value}, Wa.ownsRow (r + 1) 3 1 v n xs → (∀ k, v.ownBlock = some k → vl.ownBlock ≠ some k) → ∀ k, v.ownBlock = some k → v'.ownBlock ≠ some k := fun hv h1 k hk he => by
    rcases hat with e | e
    · rw [e] at he; exact h1 k hk he
    · rw [e] at he
      cases he
      have := (hv.lt _ hk).2
      omega
  have hblk : Blk W' r 31 #[.pointer (some ⟨f.b, 0, none⟩), vs, va, vl, .int .i64 0, .int .i64 now] := blk_grown hA.blk hg (fun e => hr r e.symm rfl)
  refine ⟨hA.only ho (fun x hx hm => ?_) (fun x hx => ?_), (hblk.set 3 _).eq rfl, h.nr, h.fr, own_only2 hA.os ho (hne hA.sl (fun k hk => (hA.os.lt k hk).1)), own_only2 hA.oa ho (hne hA.al (fun k hk => (hA.oa.lt k hk).1)), own_only2 (S := [r]) hown ((Only.refl _ _).setCell (.inl (by simp)) _) (fun k hk hm => by simp at hm; have := (hown.lt k hk).1; omega), hA.xs, hA.xa, fun k hk hm => ?_, hA.sa, hnew hA.os hA.sl, hnew hA.oa hA.al, fun k hk => by
    obtain ⟨h1, h2, h3, h4, h5, h6, h7⟩ := hA.kp k hk
    have hv : v'.ownBlock ≠ some k := fun he => by
      rcases hat with e | e
      · rw [e] at he
        exact h7 he
      · rw [e] at he
        cases he
        omega
    refine ⟨(ho.block k h2 (fun hm => ?_)).trans h1, Nat.lt_of_lt_of_le h2 ho.size, h3, h4, h5, h6, hv⟩
    simp only [List.mem_cons, Option.mem_toList] at hm
    rcases hm with hm | hm
    · exact h4 hm
    · exact h7 hm⟩
  · simp only [List.mem_cons, Option.mem_toList] at hm
    rcases hm with rfl | hm
    · exact h.fr hx
    · exact h.xl x hm hx
  · simp only [List.mem_cons, Option.mem_toList] at hx
    have h1 := h.nr
    rcases hx with rfl | hx
    · exact h1
    · have := (hA.ol.lt x hx).1; omega
  · rcases hat with e | e
    · rw [e] at hk; exact h.xl k hk hm
    · rw [e] at hk
      cases hk
      have := hA.sp.sp.lt _ hm
      omega
theorem RunAt.pushS (h : RunAt w W f s r vs va vl sent acked lost now) (hW : Below W.heap.size W Wa) (hg : Wa.grownBy W' vs.ownBlock) (hat : v'.ownBlock = vs.ownBlock ∨ v'.ownBlock = some Wa.heap.size) (hown : W'.ownsRow (r + 1) 3 1 v' out'.length (intVs out')) :
    RunAt w (W'.setCell ⟨r, 1, none⟩ v') f s r v' va vl out' acked lost now := by
  have hA := h.later hW
  have ho : Only (r :: vs.ownBlock.toList) Wa (W'.setCell ⟨r, 1, none⟩ v') := ((only_row hg).mono (fun x hx => .inl (by simp only [Option.mem_toList] at hx; simp [hx]))).setCell (.inl (by simp)) _
  have hr : ∀ k, vs.ownBlock = some k → k ≠ r := fun k hk e => by have := (hA.os.lt k hk).1; omega
  have hne : ∀ {v : Value}, (∀ k, v.ownBlock = some k → vs.ownBlock ≠ some k) → (∀ k, v.ownBlock = some k → r + 1 ≤ k) → ∀ k, v.ownBlock = some k → k ∉ r :: vs.ownBlock.toList := fun h1 h2 k hk hm => by
    simp only [List.mem_cons, Option.mem_toList] at hm
    rcases hm with hm | hm
    · have := h2 k hk; omega
    · exact h1 k hk hm
  have hnew : ∀ {v : Value} {n : Nat} {xs : List Value}, Wa.ownsRow (r + 1) 3 1 v n xs → (∀ k, v.ownBlock = some k → vs.ownBlock ≠ some k) → ∀ k, v.ownBlock = some k → v'.ownBlock ≠ some k := fun hv h1 k hk he => by
    rcases hat with e | e
    · rw [e] at he; exact h1 k hk he
    · rw [e] at he
      cases he
      have := (hv.lt _ hk).2
      omega
  have hblk : Blk W' r 31 #[.pointer (some ⟨f.b, 0, none⟩), vs, va, vl, .int .i64 0, .int .i64 now] := blk_grown hA.blk hg (fun e => hr r e.symm rfl)
  refine ⟨hA.only ho (fun x hx hm => ?_) (fun x hx => ?_), (hblk.set 1 _).eq rfl, h.nr, h.fr, own_only2 (S := [r]) hown ((Only.refl _ _).setCell (.inl (by simp)) _) (fun k hk hm => by simp at hm; have := (hown.lt k hk).1; omega), own_only2 hA.oa ho (hne (fun k hk he => hA.sa k he hk) (fun k hk => (hA.oa.lt k hk).1)), own_only2 hA.ol ho (hne (fun k hk he => hA.sl k he hk) (fun k hk => (hA.ol.lt k hk).1)), fun k hk hm => ?_, hA.xa, hA.xl, fun k hk he => hnew hA.oa (fun k hk he => hA.sa k he hk) k he hk, fun k hk he => hnew hA.ol (fun k hk he => hA.sl k he hk) k he hk, hA.al, fun k hk => by
    obtain ⟨h1, h2, h3, h4, h5, h6, h7⟩ := hA.kp k hk
    have hv : v'.ownBlock ≠ some k := fun he => by
      rcases hat with e | e
      · rw [e] at he
        exact h5 he
      · rw [e] at he
        cases he
        omega
    refine ⟨(ho.block k h2 (fun hm => ?_)).trans h1, Nat.lt_of_lt_of_le h2 ho.size, h3, h4, hv, h6, h7⟩
    simp only [List.mem_cons, Option.mem_toList] at hm
    rcases hm with hm | hm
    · exact h4 hm
    · exact h5 hm⟩
  · simp only [List.mem_cons, Option.mem_toList] at hm
    rcases hm with rfl | hm
    · exact h.fr hx
    · exact h.xs x hm hx
  · simp only [List.mem_cons, Option.mem_toList] at hx
    have h1 := h.nr
    rcases hx with rfl | hx
    · exact h1
    · have := (hA.os.lt x hx).1; omega
  · rcases hat with e | e
    · rw [e] at hk; exact h.xs k hk hm
    · rw [e] at hk
      cases hk
      have := hA.sp.sp.lt _ hm
      omega
/-- The rows' integers. -/
theorem RunAt.four (h : RunAt w W f s r vs va vl sent acked lost now) : W.cell? ⟨r, 0, none⟩ = some (.pointer (some ⟨f.b, 0, none⟩)) ∧ W.cell? ⟨r, 1, none⟩ = some vs ∧ W.cell? ⟨r, 2, none⟩ = some va ∧ W.cell? ⟨r, 3, none⟩ = some vl ∧ W.cell? ⟨r, 5, none⟩ = some (.int .i64 now) ∧ (∀ j, W.frozen? ⟨r, j, none⟩ = false) := ⟨h.blk.cell 0, h.blk.cell 1, h.blk.cell 2, h.blk.cell 3, h.blk.cell 5, h.blk.frozen⟩
theorem RunAt.forms (h : RunAt w W f s r vs va vl sent acked lost now) : (∃ a c, vs = .slice a sent.length c ∧ NumsAt W a sent) ∧ (∃ a c, va = .slice a acked.length c ∧ NumsAt W a acked) ∧ ∃ a c, vl = .slice a lost.length c ∧ NumsAt W a lost := by
  refine ⟨?_, ?_, ?_⟩
  · obtain ⟨a, c, rfl⟩ := own_slice' h.os
    exact ⟨a, c, rfl, (own_ints17 rfl h.os).1⟩
  · obtain ⟨a, c, rfl⟩ := own_slice' h.oa
    exact ⟨a, c, rfl, (own_ints17 rfl h.oa).1⟩
  · obtain ⟨a, c, rfl⟩ := own_slice' h.ol
    exact ⟨a, c, rfl, (own_ints17 rfl h.ol).1⟩
end
end
end Go.Proofs.YtgicljeedegncaaGreat
