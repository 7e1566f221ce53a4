/-
 A space: Ack, of any ACK, told exactly. Printed by wip/genspgack.py.
-/
import Derived.Test.YtgicljeedegncaaGreatSpgRem
import Derived.Test.YtgicljeedegncaaGreatSpgCheck
import Derived.Test.YtgicljeedegncaaGreatTqLossRule
namespace Go.Proofs.YtgicljeedegncaaGreat
open Go.Value renaming int → ZI
open Go.IntKind renaming i64 → ZQ
set_option linter.unusedSimpArgs false
set_option linter.unusedVariables false
open Go.RowKit

set_option maxHeartbeats 2000000 in
theorem hasq_any (ak : AK) (a : Option Addr) (c : Nat) (n : Int) (w : World) (hok : okAk ak = true) (hR : RgAt w a ak.rs) :
  Calls Tryz.prog 61 #[.agg (akC ak a ak.rs.length c), ZI ZQ n] w fun e W' => e = .returned (.bool (ak.rs.any (hasP n))) ∧ Below w.heap.size w W' := by
 have HO := hide (ackOk_of hok)
 have HCK : Hid (∀ W, Below w.heap.size w W → Calls Tryz.prog 57 #[.agg (akC ak a ak.rs.length c)] W fun e W' => e = .returned (ZI ZQ 0) ∧ Below W.heap.size W W') := fun W hW => by
  have := checkq_any ak a c W (hR.below hW)
  rw [ckA_good hok] at this
  exact this
 obtain ⟨dl, rs, mk, m0, m1, m2⟩ := ak
 dsimp only at hR HO HCK ⊢
 unfold akC at HCK ⊢
 dsimp only at HCK ⊢
 have hb0 : Below w.heap.size w ((w.alloc (.cells #[ZI ZQ dl, .slice a rs.length c, .bool mk, ZI ZQ m0, ZI ZQ m1, ZI ZQ m2] 52)).alloc (.cells #[ZI ZQ n] 3)) := ((Below.refl _ _).alloc (Nat.le_refl _) _).alloc (by simp) _
 have hx := (Blk.new w 52 #[ZI ZQ dl, .slice a rs.length c, .bool mk, ZI ZQ m0, ZI ZQ m1, ZI ZQ m2]).alloc (.cells #[ZI ZQ n] 3)
 have hy : Blk ((w.alloc (.cells #[ZI ZQ dl, .slice a rs.length c, .bool mk, ZI ZQ m0, ZI ZQ m1, ZI ZQ m2] 52)).alloc (.cells #[ZI ZQ n] 3)) (w.heap.size + 1) 3 #[ZI ZQ n] := blk_new_at (by simp)
 have HK := hide (HCK.out _ hb0)
 have HX := hide hx
 have HY := hide hy
 have HB := hide hb0
 have HR := hide hR
 clear hb0 hx hy hR hok
 have x0 := HX.out.cell 0
 have x1 : ((w.alloc (.cells #[ZI ZQ dl, .slice a rs.length c, .bool mk, ZI ZQ m0, ZI ZQ m1, ZI ZQ m2] 52)).alloc (.cells #[ZI ZQ n] 3)).cell? ⟨w.heap.size, 1, none⟩ = some (.slice a rs.length c) := HX.out.cell 1
 have x2 := HX.out.cell 2
 have x3 := HX.out.cell 3
 have x4 := HX.out.cell 4
 have x5 := HX.out.cell 5
 go_enter Tryz.func61, Tryz.ntmps61
 go_wp2_with fail
 refine HK.out.mono ?_
 rintro e1 w1 ⟨rfl, hb⟩
 have HR1 := hide (HR.out.below (bw_below' HB.out hb))
 have hx1 := (hb.block _ HX.out.lt).trans HX.out
 have x1 : w1.cell? ⟨w.heap.size, 1, none⟩ = some (.slice a rs.length c) := Blk.cell (g := w.heap.size) hx1 1
 have y0 : w1.cell? ⟨w.heap.size + 1, 0, none⟩ = some (ZI ZQ n) := (hb.cell (p := ⟨w.heap.size + 1, 0, none⟩) HY.out.lt).trans (HY.out.cell 0)
 have HB1 := hide (bw_below' HB.out hb)
 clear hb hx1
 go_wp2_with fail
 refine (con_has a rs.length c rs n (w.heap.size + 1) w1 rfl (by have := HO.out.le; omega) HR1.out y0).mono ?_
 rintro e2 w2 ⟨rfl, hb2⟩
 go_wp2_with fail
 go_ret
 exact ⟨rfl, bw_below' HB1.out hb2⟩
/-- The packets, the ACK, and its box. -/
structure SrqAk (w : World) (f : Ft) (a : Option Addr) (qs : List PK) (A : Nat) (ra : Option Addr) (rc : Nat) (ak : AK) : Prop where
 pks : PksAt w a qs
 na : ∀ k o, a = some ⟨k, o, none⟩ → k ∉ f.all
 box : Blk w A 52 (akC ak ra ak.rs.length rc)
 nA : A ∉ f.all
 row : RgAt w ra ak.rs
 nr : ∀ k, ra = some ⟨k, 0, none⟩ → k ∉ f.all
 ok : okAk ak = true
set_option maxHeartbeats 1000000 in
theorem ack1q_any (q : PK) (A : Nat) (ra : Option Addr) (rc : Nat) (ak : AK) (w : World) (hB : Blk w A 52 (akC ak ra ak.rs.length rc)) (hR : RgAt w ra ak.rs) (hok : okAk ak = true) :
  Calls Tryz.prog 60 #[.agg (pkC q), .pointer (some ⟨A, 0, none⟩)] w fun e w' => e = .returned (.bool (ackP ak.rs q)) ∧ Below w.heap.size w w' := by
 have HHQ := hide (fun W (hW : Below w.heap.size w W) => hasq_any ak ra rc q.n W hok (hR.below hW))
 obtain ⟨dl, rs, mk, m0, m1, m2⟩ := ak
 dsimp only at hR HHQ hB ⊢
 unfold akC at HHQ hB
 dsimp only at HHQ hB
 have hba : Below w.heap.size w (w.alloc (.cells (pkC q) 40)) := (Below.refl _ _).alloc (Nat.le_refl _) _
 have hx := Blk.new w 40 (pkC q)
 have x0 : (w.alloc (.cells (pkC q) 40)).cell? ⟨w.heap.size, 0, none⟩ = some (ZI ZQ q.n) := hx.cell 0
 have hB1 := hB.alloc (.cells (pkC q) 40)
 have y0 : (w.alloc (.cells (pkC q) 40)).cell? ⟨A, 0, none⟩ = some (ZI ZQ dl) := hB1.cell 0
 have y1 : (w.alloc (.cells (pkC q) 40)).cell? ⟨A, 1, none⟩ = some (.slice ra rs.length rc) := hB1.cell 1
 have y2 : (w.alloc (.cells (pkC q) 40)).cell? ⟨A, 2, none⟩ = some (.bool mk) := hB1.cell 2
 have y3 : (w.alloc (.cells (pkC q) 40)).cell? ⟨A, 3, none⟩ = some (ZI ZQ m0) := hB1.cell 3
 have y4 : (w.alloc (.cells (pkC q) 40)).cell? ⟨A, 4, none⟩ = some (ZI ZQ m1) := hB1.cell 4
 have y5 : (w.alloc (.cells (pkC q) 40)).cell? ⟨A, 5, none⟩ = some (ZI ZQ m2) := hB1.cell 5
 have HH := hide (HHQ.out _ hba)
 have HB := hide hba
 clear hx hB1 hB hR hok hba
 unfold pkC at *
 go_enter Tryz.func60, Tryz.ntmps60
 go_wp2_with fail
 refine HH.out.mono ?_
 rintro e1 w1 ⟨rfl, hb⟩
 go_wp2_with fail
 go_ret
 exact ⟨rfl, bw_below' HB.out hb⟩
set_option maxRecDepth 100000 in
set_option maxHeartbeats 4000000 in
theorem droppedq_ack (f : Ft) (s : SpSt) (a : Option Addr) (n cap : Nat) (qs : List PK) (A : Nat) (ra : Option Addr) (rc : Nat) (ak : AK) (w : World) (h : IsSp w f s) (hn : qs.length = n) (hl : n ≤ 256) (hS : SrqAk w f a qs A ra rc ak) :
  Calls Tryz.prog 53 #[.pointer (some ⟨f.b, 0, none⟩), .slice a n cap, .func (.func 60) #[] #[.pointer (some ⟨A, 0, none⟩)]] w (DropsPost w f s (ackP ak.rs) qs) := by
 have HS := hide hS
 have HN := hide hn
 have HC : Hid (∀ (W : World) (f' : Ft) (ps' : List Pk) (v : Value) (out : List PK), DrAt w W f s ps' f' v out → ∀ q : PK, Calls Tryz.prog 60 #[.agg (pkC q), .pointer (some ⟨A, 0, none⟩)] W fun e w' => e = .returned (.bool ((ackP ak.rs) q)) ∧ Below W.heap.size W w') := by
  show ∀ W, _
  intro W f' ps' v out D q
  exact ack1q_any q A ra rc ak W (D.post.only.blk HS.out.box HS.out.nA) (HS.out.row.only D.post.only HS.out.nr) HS.out.ok
 have h0 : DrAt w w f s s.ps f (.slice none 0 0) [] := ⟨SpPost.refl h, rfl, ⟨rfl, .inl ⟨rfl, rfl⟩⟩, fun k hk => by simp [Value.ownBlock] at hk⟩
 obtain ⟨y0, _⟩ := h.cells
 have H0 := hide h0
 obtain ⟨i0, hi0, hz0, hz1, hz2⟩ := info_parts pk_info3
 clear h hS hn h0
 go_enter Tryz.func53, Tryz.ntmps53
 go_wp2_with fail
 go_loopg [6, 17] n (fun kx s6 s17 wr => ∃ (i : Nat) (f1 : Ft) (ps1 : List Pk), s17 = ZI ZQ i ∧ i ≤ n ∧ n - i ≤ kx ∧ Hid (ps1 = dropL (ackP ak.rs) (qs.take i) s.ps) ∧ DrAt w wr f s ps1 f1 s6 ((qs.take i).filter (ackP ak.rs)))
 case atStart => exact ⟨0, f, s.ps, rfl, by omega, by omega, rfl, H0.out⟩
 case round =>
  clear H0 y0
  obtain ⟨i, f1, ps1, rfl, hi, hkx, hps, hD⟩ := hrel
  by_cases hlt : i < n
  ·obtain ⟨q, hq⟩ : ∃ q, qs[i]? = some q := ⟨_, List.getElem?_eq_getElem (by rw [HN.out]; exact hlt)⟩
   obtain ⟨k, o, rfl, hk, z0, z1, z2, z3, z4, z5⟩ := (HS.out.pks.only hD.post.only HS.out.na).cells hq
   have HT : Hid (qs.take (i + 1) = qs.take i ++ [q]) := by show _ = _; rw [List.take_add_one, hq]; rfl
   have hin : (i : Int) < (n : Int) := by omega
   have hXlt := hD.post.sp.lt
   have HD1 := hide (hD.alloc (.cells (pkC q) 40))
   have hX := Blk.new wr 40 (pkC q)
   have HX := hide hX
   have hsz : w.heap.size ≤ wr.heap.size := hD.post.only.size
   have HPS := hide hps
   have hln : ((qs.take i).filter (ackP ak.rs)).length ≤ i := Nat.le_trans (List.length_filter_le _ _) (by rw [List.length_take]; omega)
   have HW := hide (HC.out _ _ _ _ _ HD1.out q)
   obtain ⟨qn, qt, qz, qe, qf, qc⟩ := q
   dsimp only at z0 z1 z2 z3 z4 z5
   clear hD hX hps hq
   unfold pkC at HD1 HX HW
   dsimp only at HD1 HX HW
   cases hP : (ackP ak.rs) ⟨qn, qt, qz, qe, qf, qc⟩ with
   | false =>
    rw [hP] at HW
    go_wp2_with fail
    refine HW.out.mono ?_
    rintro e1 w1 ⟨rfl, hb⟩
    have hD2 := HD1.out.later hb
    go_wp2_with fail
    go_roundg (n - (i + 1))
    case rel =>
     refine ⟨i + 1, f1, ps1, by go_num, by omega, by omega, ?_, ?_⟩
     ·show _ = _
      rw [HT.out, dropL_snoc, hP, HPS.out]
      rfl
     ·rw [HT.out, List.filter_append]
      simp only [List.filter_cons, hP, Bool.false_eq_true, if_false, List.filter_nil, List.append_nil]
      exact hD2
    case measure => omega
   | true =>
    rw [hP] at HW
    go_wp2_with fail
    refine HW.out.mono ?_
    rintro e1 w1 ⟨rfl, hb⟩
    have hD2 := HD1.out.later hb
    have hX2 : Blk w1 wr.heap.size 40 #[ZI ZQ qn, ZI ZQ qt, ZI ZQ qz, .bool qe, .bool qf, .bool qc] := (hb.block _ HX.out.lt).trans HX.out
    have x0 : w1.cell? ⟨wr.heap.size, 0, none⟩ = some (ZI ZQ qn) := hX2.cell 0
    have HLG := hide (drop_any f1.lb f1.rb s.room s.last qn ps1 w1 hD2.post.sp.log)
    rw [hD2.lb] at HLG
    have hXn : wr.heap.size ∉ [f1.lb, f1.rb] := fun hm => by
     simp at hm
     have h1 := hXlt _ f1.mem_lb
     have h2 := hXlt _ f1.mem_rb
     omega
    have HD2 := hide hD2
    have HX2 := hide hX2
    clear hD2 hX2 hb
    go_wp2_with fail
    refine HLG.out.mono ?_
    rintro e3 w3 ⟨⟨v3, rfl⟩, hl3, ho3⟩
    have hD3 := HD2.out.drop (n := qn) (by rw [HD2.out.lb]; exact hl3) (by rw [HD2.out.lb]; exact ho3)
    have hX3 := ho3.blk HX2.out (by rw [← HD2.out.lb]; exact hXn)
    obtain ⟨A8, c8, hv8⟩ := own_slice' hD3.own
    subst hv8
    obtain ⟨M, hM⟩ : ∃ M, ((qs.take i).filter (ackP ak.rs)).length = M := ⟨_, rfl⟩
    obtain ⟨xs, hxs⟩ : ∃ xs, pkcs ((qs.take i).filter (ackP ak.rs)) = xs := ⟨_, rfl⟩
    have hown := hD3.own
    rw [hM, hxs] at hown
    rw [hM] at hln
    have HOW := hide hown
    have HM := hide hM
    have HXS := hide hxs
    have HD3 := hide hD3
    have hs3 : w.heap.size ≤ w3.heap.size := hD3.post.only.size
    have x0 : w3.cell? ⟨wr.heap.size, 0, none⟩ = some (ZI ZQ qn) := hX3.cell 0
    have x1 : w3.cell? ⟨wr.heap.size, 1, none⟩ = some (ZI ZQ qt) := hX3.cell 1
    have x2 : w3.cell? ⟨wr.heap.size, 2, none⟩ = some (ZI ZQ qz) := hX3.cell 2
    have x3 : w3.cell? ⟨wr.heap.size, 3, none⟩ = some (.bool qe) := hX3.cell 3
    have x4 : w3.cell? ⟨wr.heap.size, 4, none⟩ = some (.bool qf) := hX3.cell 4
    have x5 : w3.cell? ⟨wr.heap.size, 5, none⟩ = some (.bool qc) := hX3.cell 5
    rw [hM]
    clear hD3 hX3 hown hM hxs hl3 ho3 HLG HD2 HX2 hXn
    go_wp2_with (at_builtin; refine wpList_append_any _ rfl (.tmp 28) (.tmp 30) _ rfl w.heap.size 40 i0 _ 6 32 Tryz.underlying37 hi0 hz0 hz1 hz2 rfl (by decide) (.slice A8 M c8) M xs rfl (by exact HOW.out.alloc _) (w3.heap.size + 1) (some ⟨w3.heap.size, 0, none⟩) 1 1 [ZI ZQ qn, ZI ZQ qt, ZI ZQ qz, .bool qe, .bool qf, .bool qc] rfl (by exact reads_lit (blk_new_at (by simp)) (by simp) rfl) (by simp [Value.oneCell']) (by unfold maxLen; omega) (by omega) (by simp; omega) ?_; intro v5 w5 hown5 hg5 hat5)
    go_roundg (n - (i + 1))
    case rel =>
     have hd := HD3.out.alloc (.cells #[ZI ZQ qn, ZI ZQ qt, ZI ZQ qz, .bool qe, .bool qf, .bool qc] 40)
     rw [HM.out] at hd
     refine ⟨i + 1, f1, without qn ps1, by go_num, by omega, by omega, ?_, hd.push hg5 hat5 ?_⟩
     ·show _ = _
      rw [HT.out, dropL_snoc, hP, HPS.out]
      rfl
     ·rw [HT.out, List.filter_append, List.length_append, HM.out]
      simp only [List.filter_cons, hP, if_true, List.filter_nil, List.length_cons, List.length_nil, Nat.zero_add]
      rw [pkcs_snoc, HXS.out]
      exact hown5
    case measure => omega
  ·obtain rfl : i = n := by omega
   have hin : ¬ (i : Int) < (i : Int) := by omega
   rw [List.take_of_length_le (by rw [HN.out]; exact Nat.le_refl _)] at hps hD
   go_wp2_with fail
   go_ret
   exact ⟨_, f1, rfl, by rw [← hps]; exact hD⟩
/-- The ACK, and its box, while nothing of the space turns. -/
structure AqqAt (w W : World) (f : Ft) (s : SpSt) (ra : Option Addr) (rc : Nat) (ak : AK) : Prop where
 sp : IsSp W f s
 box : Blk W w.heap.size 52 (akC ak ra ak.rs.length rc)
 row : RgAt W ra ak.rs
 below : Below w.heap.size w W
section
variable {w W W' : World} {f : Ft} {s : SpSt} {ra : Option Addr} {rc : Nat} {ak : AK}
theorem AqqAt.later (h : AqqAt w W f s ra rc ak) (hb : Below W.heap.size W W') : AqqAt w W' f s ra rc ak := ⟨h.sp.below hb, (hb.block _ h.box.lt).trans h.box, h.row.below hb, bw_below' h.below hb⟩
theorem AqqAt.six (h : AqqAt w W f s ra rc ak) : W.cell? ⟨w.heap.size, 0, none⟩ = some (ZI ZQ ak.delay) ∧ W.cell? ⟨w.heap.size, 1, none⟩ = some (.slice ra ak.rs.length rc) ∧ W.cell? ⟨w.heap.size, 2, none⟩ = some (.bool ak.marked) ∧ W.cell? ⟨w.heap.size, 3, none⟩ = some (ZI ZQ ak.e0) ∧ W.cell? ⟨w.heap.size, 4, none⟩ = some (ZI ZQ ak.e1) ∧ W.cell? ⟨w.heap.size, 5, none⟩ = some (ZI ZQ ak.e2) := ⟨h.box.cell 0, h.box.cell 1, h.box.cell 2, h.box.cell 3, h.box.cell 4, h.box.cell 5⟩
end
/-- What Ack answers, what it tells, and what it leaves. -/
def ackE (s : SpSt) (ak : AK) : Int := if okAk ak = true then (if (ak.rs.all fun r => s.K.any (inP r)) = true then 0 else 170) else 2
def ackS (s : SpSt) (ak : AK) : SpSt := if ackE s ak = 0 then { s with R := remR s.ps s.R ak.rs, great := match ak.rs[0]? with | some r0 => (if s.great < r0.hi then r0.hi else s.great) | none => s.great, ps := dropL (ackP ak.rs) (s.ps.map toPK) s.ps } else s
def ackL (s : SpSt) (ak : AK) : List PK := if ackE s ak = 0 then (s.ps.map toPK).filter (ackP ak.rs) else []
theorem ackS_ok {s : SpSt} {ak : AK} {r0 : Rg} (h : ackE s ak = 0) (hr : ak.rs[0]? = some r0) : ackS s ak = { s with R := remR s.ps s.R ak.rs, great := if s.great < r0.hi then r0.hi else s.great, ps := dropL (ackP ak.rs) (s.ps.map toPK) s.ps } := by unfold ackS; rw [if_pos h, hr]
theorem ackL_ok {s : SpSt} {ak : AK} (h : ackE s ak = 0) : ackL s ak = (s.ps.map toPK).filter (ackP ak.rs) := by unfold ackL; rw [if_pos h]
theorem ackS_no {s : SpSt} {ak : AK} (h : ackE s ak ≠ 0) : ackS s ak = s := by unfold ackS; rw [if_neg h]
theorem ackL_no {s : SpSt} {ak : AK} (h : ackE s ak ≠ 0) : ackL s ak = [] := by unfold ackL; rw [if_neg h]
/-- What a call leaves that answers packets and a number. -/
def ToldqPost (w : World) (f : Ft) (s' : SpSt) (out : List PK) (z : Int) (e : Ending) (w' : World) : Prop := ∃ a c f', e = .returned (.tuple #[.slice a out.length c, ZI ZQ z]) ∧ PksAt w' a out ∧ out.length ≤ c ∧ (∀ k o, a = some ⟨k, o, none⟩ → w.heap.size ≤ k ∧ k < w'.heap.size ∧ k ∉ f'.all) ∧ SpPost w f s' f' w'
def AckqPost (w : World) (f : Ft) (s : SpSt) (ak : AK) : Ending → World → Prop := ToldqPost w f (ackS s ak) (ackL s ak) (ackE s ak)
theorem toldq_stay {w w' : World} {f : Ft} {s : SpSt} {z : Int} (h : IsSp w f s) (hb : Below w.heap.size w w') : ToldqPost w f s [] z (.returned (.tuple #[.slice none 0 0, ZI ZQ z])) w' :=
 ⟨none, 0, f, rfl, ⟨by simp, by simp⟩, by simp, by simp, (SpPost.refl h).below hb⟩
theorem ackq_stay {w w' : World} {f : Ft} {s : SpSt} {ak : AK} {z : Int} (he : ackE s ak = z) (hz : z ≠ 0) (h : IsSp w f s) (hb : Below w.heap.size w w') : AckqPost w f s ak (.returned (.tuple #[.slice none 0 0, ZI ZQ z])) w' := by
 subst he
 unfold AckqPost
 rw [ackS_no hz, ackL_no hz]
 exact toldq_stay h hb
set_option maxRecDepth 100000 in
set_option maxHeartbeats 4000000 in
theorem spackq_ok (f : Ft) (s : SpSt) (ra : Option Addr) (rc : Nat) (ak : AK) (r0 : Rg) (M : Int) (w : World) (h : IsSp w f s) (hck : okAk ak = true) (hr0 : ak.rs[0]? = some r0) (hR : RgAt w ra ak.rs) (hna : ∀ k, ra = some ⟨k, 0, none⟩ → k ∉ f.all) (hM : (if s.great < r0.hi then r0.hi else s.great) = M) :
  Calls Tryz.prog 21 #[.pointer (some ⟨f.b, 0, none⟩), .agg (akC ak ra ak.rs.length rc)] w fun e w' =>
   ((∀ r ∈ ak.rs, s.K.any (inP r) = true) ∧ ToldPost w f { s with R := remR s.ps s.R ak.rs, great := M, ps := dropL (ackP ak.rs) (s.ps.map toPK) s.ps } ((s.ps.map toPK).filter (ackP ak.rs)) e w') ∨
   ((∃ r ∈ ak.rs, s.K.any (inP r) = false) ∧ e = .returned (.tuple #[.slice none 0 0, ZI ZQ 170]) ∧ Below w.heap.size w w') := by
 have hok := ackOk_of hck
 have hb0 : Below w.heap.size w (w.alloc (.cells (akC ak ra ak.rs.length rc) 52)) := (Below.refl _ _).alloc (Nat.le_refl _) _
 have h1 : AqqAt w (w.alloc (.cells (akC ak ra ak.rs.length rc) 52)) f s ra rc ak := ⟨h.below hb0, Blk.new _ _ _, hR.below hb0, hb0⟩
 have HLT := hide h.lt
 have HQ := hide h1
 have HOK := hide hok
 have HR0 := hide hr0
 have HNA := hide hna
 have HM := hide hM
 have HRL := hide hR
 have HMAY := hide h.log.may
 have HRM := hide h.log.room
 obtain ⟨x0, x1, x2, x3, x4, x5⟩ := h1.six
 have hle := hok.le
 have HCQ : Hid (∀ W, RgAt W ra ak.rs → Calls Tryz.prog 57 #[.agg (akC ak ra ak.rs.length rc)] W fun e W' => e = .returned (ZI ZQ 0) ∧ Below W.heap.size W W') := fun W hW => by
  have := checkq_any ak ra rc W hW
  rw [ckA_good hck] at this
  exact this
 have HCKK := hide hck
 clear hck
 obtain ⟨dl, rs, mk, m0, m1, m2⟩ := ak
 dsimp only at x0 x1 x2 x3 x4 x5 HOK HR0 HRL HCQ hle ⊢
 obtain ⟨K, hK⟩ : ∃ K, rs.length = K := ⟨_, rfl⟩
 have HK := hide hK
 clear h hb0 hok hR hna h1 hr0 hM
 unfold akC at x0 x1 x2 x3 x4 x5 HQ HCQ ⊢
 dsimp only at x0 x1 x2 x3 x4 x5 HQ HCQ ⊢
 rw [hK] at x0 x1 x2 x3 x4 x5 HQ HCQ hle ⊢
 clear hK
 go_enter Tryz.func21, Tryz.ntmps21
 go_wp2_with fail
 refine (spnone f s _ HQ.out.sp).mono ?_
 rintro e1 w1 ⟨rfl, rfl⟩
 go_wp2_with fail
 have HCK := hide (HCQ.out _ HQ.out.row)
 refine HCK.out.mono ?_
 rintro e2 w2 ⟨rfl, hb2⟩
 have HQ2 := hide (HQ.out.later hb2)
 clear HQ HCK x0 x1 x2 x3 x4 x5 hb2
 obtain ⟨x0, x1, x2, x3, x4, x5⟩ := HQ2.out.six
 dsimp only at x0 x1 x2 x3 x4 x5
 rw [HK.out] at x1
 go_wp2_with fail
 go_loopg [19] K (fun kx s19 wr => ∃ i : Nat, s19 = ZI ZQ i ∧ i ≤ K ∧ K - i ≤ kx ∧ Hid (∀ (j : Nat) (r : Rg), j < i → rs[j]? = some r → s.K.any (inP r) = true) ∧ AqqAt w wr f s ra rc ⟨dl, rs, mk, m0, m1, m2⟩)
 case atStart => exact ⟨0, rfl, by omega, by omega, fun j r hj => by omega, HQ2.out⟩
 case round =>
  clear HQ2 x0 x1 x2 x3 x4 x5
  obtain ⟨i, rfl, hi, hkx, hall, hQ⟩ := hrel
  by_cases hlt : i < K
  ·obtain ⟨r, hr⟩ : ∃ r, rs[i]? = some r := ⟨_, List.getElem?_eq_getElem (by rw [HK.out]; exact hlt)⟩
   obtain ⟨k, rfl, hk, z0, z1⟩ := hQ.row i r hr
   have hba : Below wr.heap.size wr (wr.alloc (.cells #[ZI ZQ r.lo, ZI ZQ r.hi] 93)) := (Below.refl _ _).alloc (Nat.le_refl _) _
   have hx := Blk.new wr 93 #[ZI ZQ r.lo, ZI ZQ r.hi]
   have x7 : (wr.alloc (.cells #[ZI ZQ r.lo, ZI ZQ r.hi] 93)).cell? ⟨wr.heap.size, 0, none⟩ = some (ZI ZQ r.lo) := hx.cell 0
   have x8 : (wr.alloc (.cells #[ZI ZQ r.lo, ZI ZQ r.hi] 93)).cell? ⟨wr.heap.size, 1, none⟩ = some (ZI ZQ r.hi) := hx.cell 1
   have hQ1 := hQ.later hba
   have HS := hide (sentall_any f s r _ hQ1.sp)
   have HQ1 := hide hQ1
   have HR := hide hr
   have HALL := hide hall
   have hin : (i : Int) < (K : Int) := by omega
   clear hQ hQ1 hx hba hr hall
   cases hs : s.K.any (inP r) with
   | true =>
    rw [hs] at HS
    have HSS := hide hs
    clear hs
    go_wp2_with fail
    refine HS.out.mono ?_
    rintro e3 w3 ⟨rfl, hb3⟩
    have hQ3 := HQ1.out.later hb3
    go_wp2_with fail
    go_roundg (K - (i + 1))
    case rel =>
     refine ⟨i + 1, by go_num, by omega, by omega, ?_, hQ3⟩
     intro j r' hj hr'
     by_cases hji : j < i
     ·exact HALL.out j r' hji hr'
     ·obtain rfl : j = i := by omega
      rw [HR.out] at hr'
      cases hr'
      exact HSS.out
    case measure => omega
   | false =>
    rw [hs] at HS
    have HSS := hide hs
    clear hs
    go_wp2_with fail
    refine HS.out.mono ?_
    rintro e3 w3 ⟨rfl, hb3⟩
    have hQ3 := HQ1.out.later hb3
    go_wp2_with fail
    go_ret2
    exact .inr ⟨⟨r, List.mem_of_getElem? HR.out, HSS.out⟩, rfl, hQ3.below⟩
  ·obtain rfl : i = K := by omega
   have hin : ¬ (i : Int) < (i : Int) := by omega
   obtain ⟨x0, x1, x2, x3, x4, x5⟩ := hQ.six
   dsimp only at x0 x1 x2 x3 x4 x5
   rw [HK.out] at x1
   have HALL : Hid (∀ r ∈ rs, s.K.any (inP r) = true) := fun r hr => by
    obtain ⟨j, hj⟩ := List.mem_iff_getElem?.1 hr
    exact hall j r (by have := (List.getElem?_eq_some_iff.1 hj).1; rw [HK.out] at this; exact this) hj
   have HREM := hide (rememberq_any f s ra rc ⟨dl, rs, mk, m0, m1, m2⟩ r0 M wr hQ.sp HOK.out HR0.out hQ.row HNA.out HM.out)
   unfold akC at HREM
   dsimp only at HREM
   rw [HK.out] at HREM
   have HQ3 := hide hQ
   clear hQ hall
   go_wp2_with fail
   refine HREM.out.mono ?_
   rintro e4 w4 ⟨rfl, f4, hp4⟩
   have hXlt : w.heap.size < wr.heap.size := HQ3.out.box.lt
   have hXn : w.heap.size ∉ f.all := fun hm => by have := HLT.out _ hm; omega
   have hX4 := hp4.off hXlt hXn
   have hr4 : ∀ k, ra = some ⟨k, 0, none⟩ → k ∉ f4.all := fun k e => by
    obtain ⟨k', e', hk', _, _⟩ := HQ3.out.row 0 r0 HR0.out
    rw [e] at e'
    cases e'
    exact hp4.off hk' (HNA.out k e)
   have hbox4 := hp4.only.blk HQ3.out.box hXn
   have hrow4 := HQ3.out.row.only hp4.only HNA.out
   have y0 : w4.cell? ⟨f.b, 0, none⟩ = some (.pointer (some ⟨f4.lb, 0, none⟩)) := by rw [← hp4.b]; exact hp4.sp.blk.cell 0
   have HP4 := hide (SpPost.ahead HQ3.out.below hp4)
   have HS4 := hide hp4.sp
   have HB4 := hide hp4.b
   have HX4 := hide (And.intro hX4 hr4)
   have HO4 := hide (And.intro hbox4 hrow4)
   clear hp4 hX4 hr4 hbox4 hrow4 x0 x1 x2 x3 x4 x5 HREM HQ3
   go_wp2_with fail
   refine (all_any _ _ _ _ _ _ HS4.out.log).mono ?_
   rintro e5 w5 ⟨v5, rfl, hv5, hb5⟩
   obtain ⟨a5, c5, rfl⟩ := own_slice' hv5
   rw [← pkcs_toPK] at hv5
   have hsm : ∀ p ∈ s.ps.map toPK, p.small := fun p hp => by
    obtain ⟨q, hq, rfl⟩ := List.mem_map.1 hp
    exact toPK_small (HMAY.out q hq)
   obtain ⟨hp5, hc5, hk5⟩ := own_pk3 (by simp) hv5 hsm
   have hS5 := HS4.out.below hb5
   have hsrc : SrqAk w5 f4 a5 (s.ps.map toPK) w.heap.size ra rc ⟨dl, rs, mk, m0, m1, m2⟩ :=
    ⟨hp5, fun k o e hm => by have h1 := HS4.out.lt _ hm; have h2 := (hk5 k o e).1; omega, (hb5.block _ HO4.out.1.lt).trans HO4.out.1, HX4.out.1, HO4.out.2.below hb5, HX4.out.2, HCKK.out⟩
   have HDR := hide (droppedq_ack f4 { s with R := remR s.ps s.R rs, great := M } a5 s.ps.length c5 (s.ps.map toPK) w.heap.size ra rc ⟨dl, rs, mk, m0, m1, m2⟩ w5 hS5 (by simp) (by have := HRM.out; omega) hsrc)
   rw [HB4.out] at HDR
   have HP5 := hide (HP4.out.below hb5)
   have HSM := hide hsm
   have hz5 := hb5.size
   have hz4 := HP4.out.only.size
   clear hv5 hb5 hsm hp5 hc5 hk5 hS5 hsrc HS4 HP4 HB4 HX4 HO4 y0
   go_wp2_with fail
   refine HDR.out.mono ?_
   rintro e6 w6 ⟨v6, f6, rfl, hD⟩
   obtain ⟨a6, c6, hv6⟩ := own_slice' hD.own
   subst hv6
   obtain ⟨hp6, hc6, hk6⟩ := own_pk3 rfl hD.own (fun p hp => HSM.out p (List.mem_filter.1 hp).1)
   have hpost := HP5.out.trans hD.post
   have hoff := hD.off
   clear hD
   go_wp2_with fail
   go_ret2
   exact .inl ⟨HALL.out, a6, c6, f6, rfl, hp6, hc6, fun k o e => by
    subst e
    have h1 := hk6 k o rfl
    exact ⟨by omega, h1.2, hoff k rfl⟩, hpost⟩
set_option maxRecDepth 100000 in
set_option maxHeartbeats 4000000 in
theorem spackq_any (f : Ft) (s : SpSt) (ra : Option Addr) (rc : Nat) (ak : AK) (w : World) (h : IsSp w f s) (hR : RgAt w ra ak.rs) (hna : ∀ k, ra = some ⟨k, 0, none⟩ → k ∉ f.all) :
  Calls Tryz.prog 21 #[.pointer (some ⟨f.b, 0, none⟩), .agg (akC ak ra ak.rs.length rc)] w (AckqPost w f s ak) := by
 cases hck : okAk ak with
 | false =>
  have he : ackE s ak = 2 := by unfold ackE; rw [hck]; rfl
  have hp : Hid (∀ w', Below w.heap.size w w' → AckqPost w f s ak (.returned (.tuple #[.slice none 0 0, ZI ZQ 2])) w') := fun w' hb => ackq_stay he (by omega) h hb
  have HP := hide hp.out
  have hb0 : Below w.heap.size w (w.alloc (.cells (akC ak ra ak.rs.length rc) 52)) := (Below.refl _ _).alloc (Nat.le_refl _) _
  have h1 : AqqAt w (w.alloc (.cells (akC ak ra ak.rs.length rc) 52)) f s ra rc ak := ⟨h.below hb0, Blk.new _ _ _, hR.below hb0, hb0⟩
  obtain ⟨x0, x1, x2, x3, x4, x5⟩ := h1.six
  have HCK := hide (checkq_any ak ra rc _ h1.row)
  rw [ckA_bad hck] at HCK
  have HQ := hide h1
  have HB0 := hide hb0
  clear he hp h1 hb0 h hR hna hck
  obtain ⟨Q, hQ⟩ : ∃ Q : Ending → World → Prop, AckqPost w f s ak = Q := ⟨_, rfl⟩
  rw [hQ] at HP ⊢
  clear hQ
  obtain ⟨dl, rs, mk, m0, m1, m2⟩ := ak
  dsimp only at x0 x1 x2 x3 x4 x5 HCK ⊢
  unfold akC at x0 x1 x2 x3 x4 x5 HCK HQ HB0 ⊢
  dsimp only at x0 x1 x2 x3 x4 x5 HCK HQ HB0 ⊢
  go_enter Tryz.func21, Tryz.ntmps21
  go_wp2_with fail
  refine (spnone f s _ HQ.out.sp).mono ?_
  rintro e1 w1 ⟨rfl, rfl⟩
  go_wp2_with fail
  refine HCK.out.mono ?_
  rintro e2 w2 ⟨rfl, hb2⟩
  go_wp2_with fail
  exact HP.out _ (bw_below' HB0.out hb2)
 | true =>
  obtain ⟨r0, hr0⟩ : ∃ r, ak.rs[0]? = some r := ⟨_, List.getElem?_eq_getElem (by have := (ackOk_of hck).pos; omega)⟩
  refine (spackq_ok f s ra rc ak r0 _ w h hck hr0 hR hna rfl).mono ?_
  rintro e w' (⟨hall, hT⟩ | ⟨hex, rfl, hb⟩)
  ·have he : ackE s ak = 0 := by unfold ackE; rw [if_pos hck, if_pos (List.all_eq_true.2 hall)]
   unfold AckqPost
   rw [ackS_ok he hr0, ackL_ok he, he]
   exact hT
  ·have he : ackE s ak = 170 := by
    unfold ackE
    rw [if_pos hck, if_neg (fun h1 => by obtain ⟨r, hr, hk⟩ := hex; have := List.all_eq_true.1 h1 r hr; rw [hk] at this; cases this)]
   exact ackq_stay he (by omega) h hb
end Go.Proofs.YtgicljeedegncaaGreat
