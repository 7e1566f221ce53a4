/-
 A space: dropped, of the packets that an ACK has, and of all. Printed by wip/gensd.py.
-/
import Derived.Test.YtgicljeedegncaaGreatSpcRem
import Derived.Test.YtgicljeedegncaaGreatTqLossCheck
namespace Go.Proofs.YtgicljeedegncaaGreat
open List renaming getElem?_toArray → ZG
open Go.Value renaming int → ZI
open Go.IntKind renaming i64 → ZQ
set_option linter.unusedSimpArgs false
set_option linter.unusedVariables false
open Go.RowKit

def toPK (p : Pk) : PK := ⟨p.num, p.time, p.size, p.el, p.fl, p.ect⟩
def pkcs (ps : List PK) : List Value := ps.flatMap fun p => (pkC p).toList
theorem pkcs_toPK (ps : List Pk) : pkcs (ps.map toPK) = ps.flatMap Pk.cells := by
 unfold pkcs
 rw [List.flatMap_map]
 rfl
theorem pkcs_snoc (ps : List PK) (p : PK) : pkcs (ps ++ [p]) = pkcs ps ++ (pkC p).toList := by simp [pkcs]
theorem pk_len6 (p : PK) : (pkC p).toList.length = 6 := rfl
theorem toPK_small {p : Pk} (h : p.may) : (toPK p).small := by
 unfold Pk.may at h
 unfold PK.small toPK
 dsimp only
 omega
theorem pk_info3 : (Tryz.prog.info? 40).map (fun i => (i.zero, i.size, i.bytes)) = some (some (.agg #[ZI ZQ 0, ZI ZQ 0, ZI ZQ 0, .bool false, .bool false, .bool false]), 6, 32) := by kernel_rfl
theorem own_pk3 {w : World} {base n c : Nat} {a : Option Addr} {ps : List PK} (hn : ps.length = n) (h : w.ownsRow base 40 6 (.slice a n c) n (pkcs ps)) (hs : ∀ p ∈ ps, p.small) : PksAt w a ps ∧ n ≤ c ∧ (∀ k o, a = some ⟨k, o, none⟩ → base ≤ k ∧ k < w.heap.size) := by
 have hlt := h.lt
 rcases own_split h with ⟨h1, h0, _⟩ | ⟨k, cap, cur, e, hbk, hk, hc, hm, hcl, ht⟩
 ·have : ps = [] := List.eq_nil_of_length_eq_zero (by omega)
  subst this
  cases h1
  exact ⟨⟨hs, fun i r hi => by simp at hi⟩, by omega, fun k o e => by cases e⟩
 ·cases e
  refine ⟨⟨hs, fun i p hi => ⟨k, 0, rfl, hk.lt, fun j v hj => ?_⟩⟩, hc, fun x o e => by cases e; exact hlt k rfl⟩
  have hil : i < ps.length := (List.getElem?_eq_some_iff.1 hi).1
  have hj6 : j < 6 := (Array.getElem?_eq_some_iff.1 hj).1
  rw [Nat.zero_add, hk.cell, ZG]
  have e : (cur.take (n * 6))[i * 6 + j]? = (pkcs ps)[i * 6 + j]? := by rw [ht]
  rw [List.getElem?_take, if_pos (by omega)] at e
  rw [e]
  exact (flat_cell (fun p => (pkC p).toList) 6 pk_len6 ps i j hj6).trans (by rw [hi]; simpa using hj)
/-- What is left behind the packets that are meant are dropped. -/
def dropL (P : PK → Bool) (qs : List PK) (ps : List Pk) : List Pk := qs.foldl (fun ps q => if P q then without q.n ps else ps) ps
theorem dropL_snoc (P : PK → Bool) (qs : List PK) (q : PK) (ps : List Pk) : dropL P (qs ++ [q]) ps = if P q then without q.n (dropL P qs ps) else dropL P qs ps := by simp [dropL]
theorem drop_any (b rb room : Nat) (last n : Int) (ps : List Pk) (w : World) (hL : IsLog w b rb room last ps) :
  Calls Tryz.prog 98 #[.pointer (some ⟨b, 0, none⟩), ZI ZQ n] w fun e w' => (∃ v, e = .returned v) ∧ IsLog w' b rb room last (without n ps) ∧ Only [b, rb] w w' := by
 cases h : ps.find? (fun p => p.num == n) with
 | some p => exact (drop_is b rb room last n p ps w hL h).mono fun e w' ⟨h1, h2, h3⟩ => ⟨⟨_, h1⟩, h2, h3⟩
 | none =>
  refine (drop_none b rb room last n ps w hL h).mono fun e w' ⟨h1, h2⟩ => ⟨⟨_, h1⟩, ?_, only_of_below h2⟩
  have e1 : without n ps = ps := by
   unfold without
   rw [List.filter_eq_self]
   intro p hp
   have := List.find?_eq_none.1 h p hp
   simpa using this
  rw [e1]
  exact hL.below h2
/-- A round of dropped. -/
structure DrAt (w W : World) (f : Ft) (s : SpSt) (ps' : List Pk) (f' : Ft) (v : Value) (out : List PK) : Prop where
 post : SpPost w f { s with ps := ps' } f' W
 lb : f'.lb = f.lb
 own : W.ownsRow w.heap.size 40 6 v out.length (pkcs out)
 off : ∀ k, v.ownBlock = some k → k ∉ f'.all
section
variable {w W W' : World} {f f' : Ft} {s : SpSt} {ps' : List Pk} {v v' : Value} {out out' : List PK}
theorem DrAt.later (h : DrAt w W f s ps' f' v out) (hb : Below W.heap.size W W') : DrAt w W' f s ps' f' v out := ⟨h.post.below hb, h.lb, own_only2 (S := []) h.own (only_of_below hb) (by simp), h.off⟩
theorem DrAt.alloc (h : DrAt w W f s ps' f' v out) (o : Obj) : DrAt w (W.alloc o) f s ps' f' v out := h.later ((Below.refl _ _).alloc (Nat.le_refl _) o)
theorem DrAt.drop {n : Int} (h : DrAt w W f s ps' f' v out) (hl : IsLog W' f'.lb f'.rb s.room s.last (without n ps')) (ho : Only [f'.lb, f'.rb] W W') : DrAt w W' f s (without n ps') f' v out := by
 have ht := IsSp.turnLog (s := { s with ps := ps' }) h.post.sp hl (.inl rfl) ho
 exact ⟨h.post.trans ht, h.lb, own_only2 h.own ho (fun k hk hm => h.off k hk (by
  simp at hm
  rcases hm with rfl | rfl
  ·exact f'.mem_lb
  ·exact f'.mem_rb)), h.off⟩
theorem DrAt.push (h : DrAt w W f s ps' f' v out) (hg : W.grownBy W' v.ownBlock) (hat : v'.ownBlock = v.ownBlock ∨ v'.ownBlock = some W.heap.size) (hown : W'.ownsRow w.heap.size 40 6 v' out'.length (pkcs out')) : DrAt w W' f s ps' f' v' out' := by
 have hfresh : ∀ k, v.ownBlock = some k → w.heap.size ≤ k := fun k hk => (h.own.lt k hk).1
 have ho : Only v.ownBlock.toList W W' := ⟨hg.os, hg.tape, hg.output, hg.size, fun i hi hn => hg.block i hi (fun e => hn (by rw [← e]; simp))⟩
 have hsp : IsSp W' f' { s with ps := ps' } := h.post.sp.only ho (fun x hx hm => by
  simp only [Option.mem_toList] at hm
  exact h.off x hm hx)
 refine ⟨⟨hsp, h.post.b, h.post.new, h.post.only.trans ho (fun x hx => .inr ?_)⟩, h.lb, hown, fun k hk hm => ?_⟩
 ·simp only [Option.mem_toList] at hx
  exact hfresh x hx
 ·rcases hat with e | e
  ·rw [e] at hk
   exact h.off k hk hm
  ·rw [e] at hk
   cases hk
   have := h.post.sp.lt _ hm
   omega
end
/-- What dropped leaves. -/
def DropsPost (w : World) (f : Ft) (s : SpSt) (P : PK → Bool) (qs : List PK) (e : Ending) (w' : World) : Prop := ∃ v f', e = .returned v ∧ DrAt w w' f s (dropL P qs s.ps) f' v (qs.filter P)
/-- The packets, the ACK, and its box. -/
structure SrcAk (w : World) (f : Ft) (a : Option Addr) (qs : List PK) (A : Nat) (ra : Option Addr) (rc : Nat) (rs : List Rg) : Prop where
 pks : PksAt w a qs
 na : ∀ k o, a = some ⟨k, o, none⟩ → k ∉ f.all
 box : Blk w A 52 (ackC ra rs.length rc)
 nA : A ∉ f.all
 row : RgAt w ra rs
 nr : ∀ k, ra = some ⟨k, 0, none⟩ → k ∉ f.all
 ok : AckOk rs
def ackP (rs : List Rg) (q : PK) : Bool := rs.any (hasP q.n)
def allP (_ : PK) : Bool := true
set_option maxHeartbeats 1000000 in
theorem ack1_any (q : PK) (A : Nat) (ra : Option Addr) (rc : Nat) (rs : List Rg) (w : World) (hB : Blk w A 52 (ackC ra rs.length rc)) (hR : RgAt w ra rs) (hok : AckOk rs) :
  Calls Tryz.prog 60 #[.agg (pkC q), .pointer (some ⟨A, 0, none⟩)] w fun e w' => e = .returned (.bool (ackP rs q)) ∧ Below w.heap.size w w' := by
 have hba : Below w.heap.size w (w.alloc (.cells (pkC q) 40)) := (Below.refl _ _).alloc (Nat.le_refl _) _
 have hx := Blk.new w 40 (pkC q)
 have x0 : (w.alloc (.cells (pkC q) 40)).cell? ⟨w.heap.size, 0, none⟩ = some (ZI ZQ q.n) := hx.cell 0
 have hB1 := hB.alloc (.cells (pkC q) 40)
 have y0 : (w.alloc (.cells (pkC q) 40)).cell? ⟨A, 0, none⟩ = some (ZI ZQ 0) := hB1.cell 0
 have y1 : (w.alloc (.cells (pkC q) 40)).cell? ⟨A, 1, none⟩ = some (.slice ra rs.length rc) := hB1.cell 1
 have y2 : (w.alloc (.cells (pkC q) 40)).cell? ⟨A, 2, none⟩ = some (.bool false) := hB1.cell 2
 have y3 : (w.alloc (.cells (pkC q) 40)).cell? ⟨A, 3, none⟩ = some (ZI ZQ 0) := hB1.cell 3
 have y4 : (w.alloc (.cells (pkC q) 40)).cell? ⟨A, 4, none⟩ = some (ZI ZQ 0) := hB1.cell 4
 have y5 : (w.alloc (.cells (pkC q) 40)).cell? ⟨A, 5, none⟩ = some (ZI ZQ 0) := hB1.cell 5
 have HH := hide (has_any ra rc rs q.n _ hok (hR.below hba))
 have HB := hide hba
 clear hx hB1 hB hR hok hba
 unfold ackC at HH
 unfold pkC at *
 go_enter Tryz.func60, Tryz.ntmps60
 go_wp2_with fail
 refine HH.out.mono ?_
 rintro e1 w1 ⟨rfl, hb⟩
 go_wp2_with fail
 go_ret
 exact ⟨rfl, bw_below' HB.out hb⟩
theorem lose1_any (q : PK) (w : World) :
  Calls Tryz.prog 54 #[.agg (pkC q)] w fun e w' => e = .returned (.bool true) ∧ Below w.heap.size w w' := by
 unfold pkC
 go_enter Tryz.func54, Tryz.ntmps54
 go_wp2
 go_ret
 exact ⟨rfl, (Below.refl _ _).alloc (Nat.le_refl _) _⟩
set_option maxRecDepth 100000 in
set_option maxHeartbeats 4000000 in
theorem dropped_ack (f : Ft) (s : SpSt) (a : Option Addr) (n cap : Nat) (qs : List PK) (A : Nat) (ra : Option Addr) (rc : Nat) (rs : List Rg) (w : World) (h : IsSp w f s) (hn : qs.length = n) (hl : n ≤ 256) (hS : SrcAk w f a qs A ra rc rs) :
  Calls Tryz.prog 53 #[.pointer (some ⟨f.b, 0, none⟩), .slice a n cap, .func (.func 60) #[] #[.pointer (some ⟨A, 0, none⟩)]] w (DropsPost w f s (ackP rs) qs) := by
 have HS := hide hS
 have HN := hide hn
 have HC : Hid (∀ (W : World) (f' : Ft) (ps' : List Pk) (v : Value) (out : List PK), DrAt w W f s ps' f' v out → ∀ q : PK, Calls Tryz.prog 60 #[.agg (pkC q), .pointer (some ⟨A, 0, none⟩)] W fun e w' => e = .returned (.bool ((ackP rs) q)) ∧ Below W.heap.size W w') := by
  show ∀ W, _
  intro W f' ps' v out D q
  exact ack1_any q A ra rc rs W (D.post.only.blk HS.out.box HS.out.nA) (HS.out.row.only D.post.only HS.out.nr) HS.out.ok
 have h0 : DrAt w w f s s.ps f (.slice none 0 0) [] := ⟨SpPost.refl h, rfl, ⟨rfl, .inl ⟨rfl, rfl⟩⟩, fun k hk => by simp [Value.ownBlock] at hk⟩
 obtain ⟨y0, _⟩ := h.cells
 have H0 := hide h0
 obtain ⟨i0, hi0, hz0, hz1, hz2⟩ := info_parts pk_info3
 clear h hS hn h0
 go_enter Tryz.func53, Tryz.ntmps53
 go_wp2_with fail
 go_loopg [6, 17] n (fun kx s6 s17 wr => ∃ (i : Nat) (f1 : Ft) (ps1 : List Pk), s17 = ZI ZQ i ∧ i ≤ n ∧ n - i ≤ kx ∧ Hid (ps1 = dropL (ackP rs) (qs.take i) s.ps) ∧ DrAt w wr f s ps1 f1 s6 ((qs.take i).filter (ackP rs)))
 case atStart => exact ⟨0, f, s.ps, rfl, by omega, by omega, rfl, H0.out⟩
 case round =>
  clear H0 y0
  obtain ⟨i, f1, ps1, rfl, hi, hkx, hps, hD⟩ := hrel
  by_cases hlt : i < n
  ·obtain ⟨q, hq⟩ : ∃ q, qs[i]? = some q := ⟨_, List.getElem?_eq_getElem (by rw [HN.out]; exact hlt)⟩
   obtain ⟨k, o, rfl, hk, z0, z1, z2, z3, z4, z5⟩ := (HS.out.pks.only hD.post.only HS.out.na).cells hq
   have HT : Hid (qs.take (i + 1) = qs.take i ++ [q]) := by show _ = _; rw [List.take_add_one, hq]; rfl
   have hin : (i : Int) < (n : Int) := by omega
   have hXlt := hD.post.sp.lt
   have HD1 := hide (hD.alloc (.cells (pkC q) 40))
   have hX := Blk.new wr 40 (pkC q)
   have HX := hide hX
   have hsz : w.heap.size ≤ wr.heap.size := hD.post.only.size
   have HPS := hide hps
   have hln : ((qs.take i).filter (ackP rs)).length ≤ i := Nat.le_trans (List.length_filter_le _ _) (by rw [List.length_take]; omega)
   have HW := hide (HC.out _ _ _ _ _ HD1.out q)
   obtain ⟨qn, qt, qz, qe, qf, qc⟩ := q
   dsimp only at z0 z1 z2 z3 z4 z5
   clear hD hX hps hq
   unfold pkC at HD1 HX HW
   dsimp only at HD1 HX HW
   cases hP : (ackP rs) ⟨qn, qt, qz, qe, qf, qc⟩ with
   | false =>
    rw [hP] at HW
    go_wp2_with fail
    refine HW.out.mono ?_
    rintro e1 w1 ⟨rfl, hb⟩
    have hD2 := HD1.out.later hb
    go_wp2_with fail
    go_roundg (n - (i + 1))
    case rel =>
     refine ⟨i + 1, f1, ps1, by go_num, by omega, by omega, ?_, ?_⟩
     ·show _ = _
      rw [HT.out, dropL_snoc, hP, HPS.out]
      rfl
     ·rw [HT.out, List.filter_append]
      simp only [List.filter_cons, hP, Bool.false_eq_true, if_false, List.filter_nil, List.append_nil]
      exact hD2
    case measure => omega
   | true =>
    rw [hP] at HW
    go_wp2_with fail
    refine HW.out.mono ?_
    rintro e1 w1 ⟨rfl, hb⟩
    have hD2 := HD1.out.later hb
    have hX2 : Blk w1 wr.heap.size 40 #[ZI ZQ qn, ZI ZQ qt, ZI ZQ qz, .bool qe, .bool qf, .bool qc] := (hb.block _ HX.out.lt).trans HX.out
    have x0 : w1.cell? ⟨wr.heap.size, 0, none⟩ = some (ZI ZQ qn) := hX2.cell 0
    have HLG := hide (drop_any f1.lb f1.rb s.room s.last qn ps1 w1 hD2.post.sp.log)
    rw [hD2.lb] at HLG
    have hXn : wr.heap.size ∉ [f1.lb, f1.rb] := fun hm => by
     simp at hm
     have h1 := hXlt _ f1.mem_lb
     have h2 := hXlt _ f1.mem_rb
     omega
    have HD2 := hide hD2
    have HX2 := hide hX2
    clear hD2 hX2 hb
    go_wp2_with fail
    refine HLG.out.mono ?_
    rintro e3 w3 ⟨⟨v3, rfl⟩, hl3, ho3⟩
    have hD3 := HD2.out.drop (n := qn) (by rw [HD2.out.lb]; exact hl3) (by rw [HD2.out.lb]; exact ho3)
    have hX3 := ho3.blk HX2.out (by rw [← HD2.out.lb]; exact hXn)
    obtain ⟨A8, c8, hv8⟩ := own_slice' hD3.own
    subst hv8
    obtain ⟨M, hM⟩ : ∃ M, ((qs.take i).filter (ackP rs)).length = M := ⟨_, rfl⟩
    obtain ⟨xs, hxs⟩ : ∃ xs, pkcs ((qs.take i).filter (ackP rs)) = xs := ⟨_, rfl⟩
    have hown := hD3.own
    rw [hM, hxs] at hown
    rw [hM] at hln
    have HOW := hide hown
    have HM := hide hM
    have HXS := hide hxs
    have HD3 := hide hD3
    have hs3 : w.heap.size ≤ w3.heap.size := hD3.post.only.size
    have x0 : w3.cell? ⟨wr.heap.size, 0, none⟩ = some (ZI ZQ qn) := hX3.cell 0
    have x1 : w3.cell? ⟨wr.heap.size, 1, none⟩ = some (ZI ZQ qt) := hX3.cell 1
    have x2 : w3.cell? ⟨wr.heap.size, 2, none⟩ = some (ZI ZQ qz) := hX3.cell 2
    have x3 : w3.cell? ⟨wr.heap.size, 3, none⟩ = some (.bool qe) := hX3.cell 3
    have x4 : w3.cell? ⟨wr.heap.size, 4, none⟩ = some (.bool qf) := hX3.cell 4
    have x5 : w3.cell? ⟨wr.heap.size, 5, none⟩ = some (.bool qc) := hX3.cell 5
    rw [hM]
    clear hD3 hX3 hown hM hxs hl3 ho3 HLG HD2 HX2 hXn
    go_wp2_with (at_builtin; refine wpList_append_any _ rfl (.tmp 28) (.tmp 30) _ rfl w.heap.size 40 i0 _ 6 32 Tryz.underlying37 hi0 hz0 hz1 hz2 rfl (by decide) (.slice A8 M c8) M xs rfl (by exact HOW.out.alloc _) (w3.heap.size + 1) (some ⟨w3.heap.size, 0, none⟩) 1 1 [ZI ZQ qn, ZI ZQ qt, ZI ZQ qz, .bool qe, .bool qf, .bool qc] rfl (by exact reads_lit (blk_new_at (by simp)) (by simp) rfl) (by simp [Value.oneCell']) (by unfold maxLen; omega) (by omega) (by simp; omega) ?_; intro v5 w5 hown5 hg5 hat5)
    go_roundg (n - (i + 1))
    case rel =>
     have hd := HD3.out.alloc (.cells #[ZI ZQ qn, ZI ZQ qt, ZI ZQ qz, .bool qe, .bool qf, .bool qc] 40)
     rw [HM.out] at hd
     refine ⟨i + 1, f1, without qn ps1, by go_num, by omega, by omega, ?_, hd.push hg5 hat5 ?_⟩
     ·show _ = _
      rw [HT.out, dropL_snoc, hP, HPS.out]
      rfl
     ·rw [HT.out, List.filter_append, List.length_append, HM.out]
      simp only [List.filter_cons, hP, if_true, List.filter_nil, List.length_cons, List.length_nil, Nat.zero_add]
      rw [pkcs_snoc, HXS.out]
      exact hown5
    case measure => omega
  ·obtain rfl : i = n := by omega
   have hin : ¬ (i : Int) < (i : Int) := by omega
   rw [List.take_of_length_le (by rw [HN.out]; exact Nat.le_refl _)] at hps hD
   go_wp2_with fail
   go_ret
   exact ⟨_, f1, rfl, by rw [← hps]; exact hD⟩
set_option maxRecDepth 100000 in
set_option maxHeartbeats 4000000 in
theorem dropped_all (f : Ft) (s : SpSt) (a : Option Addr) (n cap : Nat) (qs : List PK)  (w : World) (h : IsSp w f s) (hn : qs.length = n) (hl : n ≤ 256) (hS : PksAt w a qs ∧ ∀ k o, a = some ⟨k, o, none⟩ → k ∉ f.all) :
  Calls Tryz.prog 53 #[.pointer (some ⟨f.b, 0, none⟩), .slice a n cap, .func (.func 54) #[] #[]] w (DropsPost w f s allP qs) := by
 have HS := hide hS
 have HN := hide hn
 have HC : Hid (∀ (W : World) (f' : Ft) (ps' : List Pk) (v : Value) (out : List PK), DrAt w W f s ps' f' v out → ∀ q : PK, Calls Tryz.prog 54 #[.agg (pkC q)] W fun e w' => e = .returned (.bool (allP q)) ∧ Below W.heap.size W w') := by
  show ∀ W, _
  intro W f' ps' v out D q
  exact lose1_any q W
 have h0 : DrAt w w f s s.ps f (.slice none 0 0) [] := ⟨SpPost.refl h, rfl, ⟨rfl, .inl ⟨rfl, rfl⟩⟩, fun k hk => by simp [Value.ownBlock] at hk⟩
 obtain ⟨y0, _⟩ := h.cells
 have H0 := hide h0
 obtain ⟨i0, hi0, hz0, hz1, hz2⟩ := info_parts pk_info3
 clear h hS hn h0
 go_enter Tryz.func53, Tryz.ntmps53
 go_wp2_with fail
 go_loopg [6, 17] n (fun kx s6 s17 wr => ∃ (i : Nat) (f1 : Ft) (ps1 : List Pk), s17 = ZI ZQ i ∧ i ≤ n ∧ n - i ≤ kx ∧ Hid (ps1 = dropL allP (qs.take i) s.ps) ∧ DrAt w wr f s ps1 f1 s6 ((qs.take i).filter allP))
 case atStart => exact ⟨0, f, s.ps, rfl, by omega, by omega, rfl, H0.out⟩
 case round =>
  clear H0 y0
  obtain ⟨i, f1, ps1, rfl, hi, hkx, hps, hD⟩ := hrel
  by_cases hlt : i < n
  ·obtain ⟨q, hq⟩ : ∃ q, qs[i]? = some q := ⟨_, List.getElem?_eq_getElem (by rw [HN.out]; exact hlt)⟩
   obtain ⟨k, o, rfl, hk, z0, z1, z2, z3, z4, z5⟩ := (HS.out.1.only hD.post.only HS.out.2).cells hq
   have HT : Hid (qs.take (i + 1) = qs.take i ++ [q]) := by show _ = _; rw [List.take_add_one, hq]; rfl
   have hin : (i : Int) < (n : Int) := by omega
   have hXlt := hD.post.sp.lt
   have HD1 := hide (hD.alloc (.cells (pkC q) 40))
   have hX := Blk.new wr 40 (pkC q)
   have HX := hide hX
   have hsz : w.heap.size ≤ wr.heap.size := hD.post.only.size
   have HPS := hide hps
   have hln : ((qs.take i).filter allP).length ≤ i := Nat.le_trans (List.length_filter_le _ _) (by rw [List.length_take]; omega)
   have HW := hide (HC.out _ _ _ _ _ HD1.out q)
   obtain ⟨qn, qt, qz, qe, qf, qc⟩ := q
   dsimp only at z0 z1 z2 z3 z4 z5
   clear hD hX hps hq
   unfold pkC at HD1 HX HW
   dsimp only at HD1 HX HW
   cases hP : allP ⟨qn, qt, qz, qe, qf, qc⟩ with
   | false =>
    rw [hP] at HW
    go_wp2_with fail
    refine HW.out.mono ?_
    rintro e1 w1 ⟨rfl, hb⟩
    have hD2 := HD1.out.later hb
    go_wp2_with fail
    go_roundg (n - (i + 1))
    case rel =>
     refine ⟨i + 1, f1, ps1, by go_num, by omega, by omega, ?_, ?_⟩
     ·show _ = _
      rw [HT.out, dropL_snoc, hP, HPS.out]
      rfl
     ·rw [HT.out, List.filter_append]
      simp only [List.filter_cons, hP, Bool.false_eq_true, if_false, List.filter_nil, List.append_nil]
      exact hD2
    case measure => omega
   | true =>
    rw [hP] at HW
    go_wp2_with fail
    refine HW.out.mono ?_
    rintro e1 w1 ⟨rfl, hb⟩
    have hD2 := HD1.out.later hb
    have hX2 : Blk w1 wr.heap.size 40 #[ZI ZQ qn, ZI ZQ qt, ZI ZQ qz, .bool qe, .bool qf, .bool qc] := (hb.block _ HX.out.lt).trans HX.out
    have x0 : w1.cell? ⟨wr.heap.size, 0, none⟩ = some (ZI ZQ qn) := hX2.cell 0
    have HLG := hide (drop_any f1.lb f1.rb s.room s.last qn ps1 w1 hD2.post.sp.log)
    rw [hD2.lb] at HLG
    have hXn : wr.heap.size ∉ [f1.lb, f1.rb] := fun hm => by
     simp at hm
     have h1 := hXlt _ f1.mem_lb
     have h2 := hXlt _ f1.mem_rb
     omega
    have HD2 := hide hD2
    have HX2 := hide hX2
    clear hD2 hX2 hb
    go_wp2_with fail
    refine HLG.out.mono ?_
    rintro e3 w3 ⟨⟨v3, rfl⟩, hl3, ho3⟩
    have hD3 := HD2.out.drop (n := qn) (by rw [HD2.out.lb]; exact hl3) (by rw [HD2.out.lb]; exact ho3)
    have hX3 := ho3.blk HX2.out (by rw [← HD2.out.lb]; exact hXn)
    obtain ⟨A8, c8, hv8⟩ := own_slice' hD3.own
    subst hv8
    obtain ⟨M, hM⟩ : ∃ M, ((qs.take i).filter allP).length = M := ⟨_, rfl⟩
    obtain ⟨xs, hxs⟩ : ∃ xs, pkcs ((qs.take i).filter allP) = xs := ⟨_, rfl⟩
    have hown := hD3.own
    rw [hM, hxs] at hown
    rw [hM] at hln
    have HOW := hide hown
    have HM := hide hM
    have HXS := hide hxs
    have HD3 := hide hD3
    have hs3 : w.heap.size ≤ w3.heap.size := hD3.post.only.size
    have x0 : w3.cell? ⟨wr.heap.size, 0, none⟩ = some (ZI ZQ qn) := hX3.cell 0
    have x1 : w3.cell? ⟨wr.heap.size, 1, none⟩ = some (ZI ZQ qt) := hX3.cell 1
    have x2 : w3.cell? ⟨wr.heap.size, 2, none⟩ = some (ZI ZQ qz) := hX3.cell 2
    have x3 : w3.cell? ⟨wr.heap.size, 3, none⟩ = some (.bool qe) := hX3.cell 3
    have x4 : w3.cell? ⟨wr.heap.size, 4, none⟩ = some (.bool qf) := hX3.cell 4
    have x5 : w3.cell? ⟨wr.heap.size, 5, none⟩ = some (.bool qc) := hX3.cell 5
    rw [hM]
    clear hD3 hX3 hown hM hxs hl3 ho3 HLG HD2 HX2 hXn
    go_wp2_with (at_builtin; refine wpList_append_any _ rfl (.tmp 28) (.tmp 30) _ rfl w.heap.size 40 i0 _ 6 32 Tryz.underlying37 hi0 hz0 hz1 hz2 rfl (by decide) (.slice A8 M c8) M xs rfl (by exact HOW.out.alloc _) (w3.heap.size + 1) (some ⟨w3.heap.size, 0, none⟩) 1 1 [ZI ZQ qn, ZI ZQ qt, ZI ZQ qz, .bool qe, .bool qf, .bool qc] rfl (by exact reads_lit (blk_new_at (by simp)) (by simp) rfl) (by simp [Value.oneCell']) (by unfold maxLen; omega) (by omega) (by simp; omega) ?_; intro v5 w5 hown5 hg5 hat5)
    go_roundg (n - (i + 1))
    case rel =>
     have hd := HD3.out.alloc (.cells #[ZI ZQ qn, ZI ZQ qt, ZI ZQ qz, .bool qe, .bool qf, .bool qc] 40)
     rw [HM.out] at hd
     refine ⟨i + 1, f1, without qn ps1, by go_num, by omega, by omega, ?_, hd.push hg5 hat5 ?_⟩
     ·show _ = _
      rw [HT.out, dropL_snoc, hP, HPS.out]
      rfl
     ·rw [HT.out, List.filter_append, List.length_append, HM.out]
      simp only [List.filter_cons, hP, if_true, List.filter_nil, List.length_cons, List.length_nil, Nat.zero_add]
      rw [pkcs_snoc, HXS.out]
      exact hown5
    case measure => omega
  ·obtain rfl : i = n := by omega
   have hin : ¬ (i : Int) < (i : Int) := by omega
   rw [List.take_of_length_le (by rw [HN.out]; exact Nat.le_refl _)] at hps hD
   go_wp2_with fail
   go_ret
   exact ⟨_, f1, rfl, by rw [← hps]; exact hD⟩
end Go.Proofs.YtgicljeedegncaaGreat
