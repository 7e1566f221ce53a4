/-
 Layer 10 (package persist): Period.
-/
import Derived.Test.YtgicljeedegncaaGreatTqPersistKeep
import Derived.Sort.CutIn
import Derived.BigRegionIn
import Derived.RegionIn
namespace Go.Proofs.YtgicljeedegncaaGreat
open Go.Value renaming int → ZI
open Go.IntKind renaming i64 → ZQ
set_option linter.unusedSimpArgs false
set_option linter.unusedVariables false
open Go.RowKit Go.Shelf
attribute [local go_sem] Oper.semAt_some

theorem pairsL_ok {rs : List Rg} {first : Int} {ps : List PK} (h : ∀ p ∈ ps, PkOk p) : ∀ x ∈ pairsL rs first ps, PkOk x.1 ∧ PkOk x.2 := fun x hx => by
 obtain ⟨h1, h2, _⟩ := pairsL_mem hx
 exact ⟨h _ h1, h _ h2⟩
theorem grown_keepC {X Y : World} {row : Option Nat} (hg : X.grownBy Y row) (hr : ∀ r, row = some r → ∃ o : Obj, X.heap[r]? = some o ∧ o.isCells = false) : KeepC [] X Y := by
 refine ⟨hg.size, fun k o hk ho _ => (hg.block k (Array.getElem?_eq_some_iff.1 hk).1 (fun e => ?_)).trans hk⟩
 obtain ⟨o', h1, h2⟩ := hr k e.symm
 rw [hk] at h1
 cases h1
 rw [ho] at h2
 cases h2
theorem keepsOthers_below {X Y : World} (h : Below X.heap.size X Y) : KeepsOthers X Y := ⟨h.size, fun k o hk _ => (h.block k (Array.getElem?_eq_some_iff.1 hk).1).trans hk⟩
theorem PerAt.keepC {S : List Nat} {X Y : World} {B : Nat} {st : Per} (h : PerAt X B st) (k : KeepC S X Y) (hS : ∀ i, i < 4 → B + i ∉ S) : PerAt Y B st :=
 ⟨k.blk h.d (hS 0 (by omega)), k.blk h.lo (hS 1 (by omega)), k.blk h.hi (hS 2 (by omega)), k.blk h.some (hS 3 (by omega))⟩
theorem setCell_self {W : World} {k t : Nat} {v : Value} (h : Blk W k t #[v]) : W.setCell ⟨k, 0, none⟩ v = W := by
 have e : (W.setCell ⟨k, 0, none⟩ v).heap = W.heap := by
  apply Array.ext_getElem?
  intro i
  by_cases hi : k = i
  ·subst hi
   exact (h.set 0 v).trans h.symm
  ·exact Below.heap_setCell W ⟨k, 0, none⟩ v i (fun e => hi e.symm)
 unfold World.setCell at *
 rw [show W = { heap := W.heap, tape := W.tape, drawn := W.drawn, os := W.os, output := W.output } from rfl]
 simp only at e ⊢
 rw [e]
theorem per_results {W : World} {B : Nat} {st : Per} (h : PerAt W B st) (tmps : Array Value) (h6 : tmps.getD 6 undef = .pointer (some ⟨B, 0, none⟩)) (h7 : tmps.getD 7 undef = .pointer (some ⟨B + 1, 0, none⟩)) (h8 : tmps.getD 8 undef = .pointer (some ⟨B + 2, 0, none⟩)) (h9 : tmps.getD 9 undef = .pointer (some ⟨B + 3, 0, none⟩)) :
  (results Tryz.f134 tmps).run Tryz.prog W = .ok (.tuple #[ZI ZQ st.d, ZI ZQ st.lo, ZI ZQ st.hi, .bool st.some]) W := by
 have c0 := h.d.cell 0
 have c1 := h.lo.cell 0
 have c2 := h.hi.cell 0
 have c3 := h.some.cell 0
 simp only [Array.getD_eq_getD_getElem?] at h6 h7 h8 h9
 simp [results, Tryz.f134, go_sem, h6, h7, h8, h9, c0, c1, c2, c3]
/-- What Period answers. -/
def periodOf (rs : List Rg) (first : Int) (ps : List PK) : Per := if checkL ps = 0 ∧ 0 ≤ first ∧ first ≤ 9007199254740991 then periodR rs first ps else Per.none
def perV (st : Per) : Value := .tuple #[ZI ZQ st.d, ZI ZQ st.lo, ZI ZQ st.hi, .bool st.some]

set_option maxRecDepth 100000 in
set_option maxHeartbeats 4000000 in
theorem period_in (F : Fence) (n : Nat) (h0F : F.fn 134) (h1F : F.fn 183) (h2F : F.fn 180) (h3F : F.fn 181) (h4F : F.fn 166) (h5F : F.fn 167) (h6F : F.fn 93) (h7F : F.fn 165) (hro : F.round = none) (hn : 5 ≤ n)
  (HC : Hid (∀ (m : Nat) (p : PK) (first : Int) (Bf : Nat) (w : World), w.cell? ⟨Bf, 0, none⟩ = some (ZI ZQ first) → CallsIn F m Tryz.prog 180 #[pkV p, .pointer (some ⟨Bf, 0, none⟩)] w fun e w' => e = .returned (.bool (counts first p)) ∧ Below w.heap.size w w'))
  (HG : Hid (∀ (m : Nat) (a b : PK) (v : Value) (rs : List Rg) (Bk : Nat) (w : World), w.cell? ⟨Bk, 0, none⟩ = some v → AckAt w v rs → PkOk a → PkOk b → CallsIn F m Tryz.prog 181 #[pkV a, pkV b, .pointer (some ⟨Bk, 0, none⟩)] w fun e w' => e = .returned (.bool (freeR rs a b)) ∧ Below w.heap.size w w'))
  (HK : Hid (∀ (m : Nat) (a b : PK) (B : Nat) (st : Per) (w : World), PerAt w B st → CallsIn F m Tryz.prog 166 #[pkV a, pkV b, .pointer (some ⟨B + 3, 0, none⟩), .pointer (some ⟨B, 0, none⟩), .pointer (some ⟨B + 1, 0, none⟩), .pointer (some ⟨B + 2, 0, none⟩)] w (KeepPost w B (keepW st (a, b)))))
  (HP : Hid (∀ (m : Nat) (a : Option Addr) (n cap : Nat) (q : Option Addr) (first : Int) (w : World), CallsIn F m Tryz.prog 167 #[.slice a n cap, .pointer q, ZI ZQ first] w (PairsPost a n cap q first w)))
  (HL : Hid (∀ (m : Nat) (a : Option Addr) (len cap : Nat) (ps : List PK) (w : World), ps.length = len → PksAt w a ps → (∀ k o, a = some ⟨k, o, none⟩ → k < w.heap.size) → CallsIn F m Tryz.prog 93 #[.slice a len cap] w fun e w' => e = .returned (ZI ZQ (checkL ps)) ∧ Below w.heap.size w w'))
  (HS : Hid (∀ (m : Nat) (n : Int) (w : World), CallsIn F m Tryz.prog 165 #[ZI ZQ n] w fun e w' => e = .returned (.bool (decide (0 ≤ n) && decide (n ≤ 9007199254740991))) ∧ w = w'))
  (a : Option Addr) (cap : Nat) (ps : List PK) (q : Option Addr) (rs : List Rg) (first : Int) (w : World) (hcap : ps.length ≤ cap) (hP : PksAt w a ps) (ha : ∀ k o, a = some ⟨k, o, none⟩ → k < w.heap.size) (hA : AckAt w (.pointer q) rs) :
  CallsIn F n Tryz.prog 134 #[.slice a ps.length cap, .pointer q, ZI ZQ first] w fun e W' => e = .returned (perV (periodOf rs first ps)) ∧ Below w.heap.size w W' := by
 have h1 : 1 ≤ n := by omega
 refine callsIn_of_wp_marks Tryz.func134 rfl h0F ?_ hro
 simp only [Tryz.ntmps134, List.size_toArray, List.length_cons, List.length_nil, Nat.reduceAdd, Nat.reduceSub, Array.replicate_succ, Array.replicate_zero, List.push_toArray, List.append_toArray, List.nil_append, List.cons_append]
 have HPK := hide hP
 have HA0 := hide ha
 have HAK := hide hA
 clear hP ha hA
 have b0 : Below w.heap.size w ((((w.alloc (.cells #[ZI ZQ 0] 3)).alloc (.cells #[ZI ZQ 0] 3)).alloc (.cells #[ZI ZQ 0] 3)).alloc (.cells #[.bool false] 4)) :=
  ((((Below.refl _ _).alloc (Nat.le_refl _) _).alloc (by simp) _).alloc (by simp; omega) _).alloc (by simp; omega) _
 have p0 : PerAt ((((w.alloc (.cells #[ZI ZQ 0] 3)).alloc (.cells #[ZI ZQ 0] 3)).alloc (.cells #[ZI ZQ 0] 3)).alloc (.cells #[.bool false] 4)) w.heap.size Per.none := by
  refine ⟨(((Blk.new _ _ _).alloc _).alloc _).alloc _, ?_, ?_, ?_⟩
  ·have := (((Blk.new (w.alloc (.cells #[ZI ZQ 0] 3)) 3 #[ZI ZQ 0]).alloc (.cells #[ZI ZQ 0] 3)).alloc (.cells #[.bool false] 4))
   simp only [World.size_alloc] at this
   exact this
  ·have := ((Blk.new ((w.alloc (.cells #[ZI ZQ 0] 3)).alloc (.cells #[ZI ZQ 0] 3)) 3 #[ZI ZQ 0]).alloc (.cells #[.bool false] 4))
   simp only [World.size_alloc] at this
   exact this
  ·have := Blk.new (((w.alloc (.cells #[ZI ZQ 0] 3)).alloc (.cells #[ZI ZQ 0] 3)).alloc (.cells #[ZI ZQ 0] 3)) 4 #[.bool false]
   simp only [World.size_alloc] at this
   exact this
 have s0 : ((((w.alloc (.cells #[ZI ZQ 0] 3)).alloc (.cells #[ZI ZQ 0] 3)).alloc (.cells #[ZI ZQ 0] 3)).alloc (.cells #[.bool false] 4)).heap.size = w.heap.size + 4 := by simp only [World.size_alloc]
 have B0 := hide b0
 have P0 := hide p0
 have S0 := hide s0
 clear b0 p0 s0
 gi_upto_region 1 with (fail)
 rw [show w.heap.size + 1 + 1 + 1 = w.heap.size + 3 from rfl, show w.heap.size + 1 + 1 = w.heap.size + 2 from rfl]
 obtain ⟨W4, hW4⟩ : ∃ W4, (((w.alloc (.cells #[ZI ZQ 0] 3)).alloc (.cells #[ZI ZQ 0] 3)).alloc (.cells #[ZI ZQ 0] 3)).alloc (.cells #[.bool false] 4) = W4 := ⟨_, rfl⟩
 rw [hW4] at B0 P0 S0 ⊢
 clear hW4
 gi_wp2_with fail
 refine (HL.out _ a _ cap ps W4 rfl (HPK.out.below B0.out (Nat.le_refl _)) (fun k o e => Nat.lt_of_lt_of_le (HA0.out k o e) B0.out.size)).mono ?_
 rintro x1 W5 ⟨rfl, hb5⟩
 have hB5 := hide (bw_below' B0.out hb5)
 have hP5 := hide (P0.out.below hb5)
 have hS5 := hide (show w.heap.size + 4 ≤ W5.heap.size by have := S0.out; have := hb5.size; omega)
 clear B0 P0 S0 hb5
 have hck : checkL ps = 0 ∨ checkL ps = 2 := by unfold checkL; split <;> simp
 rcases hck with hck | hck
 ·have HCK := hide hck
  rw [hck]
  clear hck
  gi_wp2_with fail
  refine (HS.out _ first W5).mono ?_
  rintro x2 W6 ⟨rfl, rfl⟩
  by_cases hf : 0 ≤ first ∧ first ≤ 9007199254740991
  ·rw [show (decide (0 ≤ first) && decide (first ≤ 9007199254740991)) = true by simp [hf.1, hf.2]]
   have HF := hide hf
   clear hf
   gi_wp2_with fail
   refine (HP.out _ a _ cap q first _).mono ?_
   rintro x3 W7 ⟨Bc, Bg, rfl, hb7, hBc, hBg, cl, ck, cf, cc, cg⟩
   have hb6 : Below W5.heap.size W5 (W5.alloc (.cells #[.func (.func 166) #[] #[.pointer (some ⟨w.heap.size + 3, 0, none⟩), .pointer (some ⟨w.heap.size, 0, none⟩), .pointer (some ⟨w.heap.size + 1, 0, none⟩), .pointer (some ⟨w.heap.size + 2, 0, none⟩)]] 174)) := (Below.refl _ _).alloc (Nat.le_refl _) _
   have y10 := Blk.new W5 174 #[.func (.func 166) #[] #[.pointer (some ⟨w.heap.size + 3, 0, none⟩), .pointer (some ⟨w.heap.size, 0, none⟩), .pointer (some ⟨w.heap.size + 1, 0, none⟩), .pointer (some ⟨w.heap.size + 2, 0, none⟩)]]
   have hs6 : (W5.alloc (.cells #[.func (.func 166) #[] #[.pointer (some ⟨w.heap.size + 3, 0, none⟩), .pointer (some ⟨w.heap.size, 0, none⟩), .pointer (some ⟨w.heap.size + 1, 0, none⟩), .pointer (some ⟨w.heap.size + 2, 0, none⟩)]] 174)).heap.size = W5.heap.size + 1 := World.size_alloc _ _
   have hB7 := bw_below' (bw_below' hB5.out hb6) hb7
   have hP7 := (hP5.out.below hb6).below hb7
   have y10' := (hb7.block _ y10.lt).trans y10
   obtain ⟨Bl, hBl⟩ : ∃ Bl, (W5.alloc (.cells #[.func (.func 166) #[] #[.pointer (some ⟨w.heap.size + 3, 0, none⟩), .pointer (some ⟨w.heap.size, 0, none⟩), .pointer (some ⟨w.heap.size + 1, 0, none⟩), .pointer (some ⟨w.heap.size + 2, 0, none⟩)]] 174)).heap.size = Bl := ⟨_, rfl⟩
   have hBls : w.heap.size + 5 ≤ Bl := by have := hS5.out; omega
   have hW7s : Bl ≤ W7.heap.size := by rw [← hBl]; exact hb7.size
   rw [hBl] at cl ck cf cc cg hBc hBg ⊢
   obtain ⟨X10, hX10⟩ : ∃ X10, W5.heap.size = X10 := ⟨_, rfl⟩
   have hX10b : w.heap.size + 4 ≤ X10 := by have := hS5.out; omega
   have y11 : Blk W7 X10 174 #[.func (.func 166) #[] #[.pointer (some ⟨w.heap.size + 3, 0, none⟩), .pointer (some ⟨w.heap.size, 0, none⟩), .pointer (some ⟨w.heap.size + 1, 0, none⟩), .pointer (some ⟨w.heap.size + 2, 0, none⟩)]] := by rw [← hX10]; exact y10'
   rw [hX10]
   have hSn : ∀ k, w.heap.size + 4 ≤ k → k ∉ [w.heap.size, w.heap.size + 1, w.heap.size + 2, w.heap.size + 3] := fun k hk hm => by simp at hm; omega
   have hSo : ∀ k, k < w.heap.size → k ∉ [w.heap.size, w.heap.size + 1, w.heap.size + 2, w.heap.size + 3] := fun k hk hm => by simp at hm; omega
   have hctx : PairCtx [w.heap.size, w.heap.size + 1, w.heap.size + 2, w.heap.size + 3] W7 Bl Bc Bg (Bl + 2) (Bl + 1) a cap ps first (.pointer q) rs :=
    ⟨cl, cc, cg, cf, ck, hSn _ (by omega), hSn _ (by omega), hSn _ (by omega), hSn _ (by omega), hSn _ (by omega), fun x o e => hSo _ (HA0.out x o e), by
     rcases HAK.out with h | ⟨b, g, room, h1, h2⟩
     ·exact .inl h
     ·have hl := h2.lt
      exact .inr ⟨b, g, room, h1, h2.below hB7, hSo _ hl.1, fun k hk => hSo _ (hl.2 k hk).1⟩, HPK.out.below hB7 (Nat.le_refl _)⟩
   have hokp : ∀ p ∈ ps, PkOk p := fun p hp => by
    have h := HCK.out
    unfold checkL at h
    split at h
    ·rename_i hc
     have := okPks_mem hc.2 p hp
     exact ⟨by omega, this.2.1, this.2.2.1, this.2.2.2.1⟩
    ·cases h
   have hl256 : ps.length ≤ 256 := by
    have h := HCK.out
    unfold checkL at h
    split at h
    ·rename_i hc; exact hc.1
    ·cases h
   have HOKP := hide hokp
   have HB7 := hide hB7
   have HP7 := hide hP7
   have HY := hide y11
   have HCTX := hide hctx
   clear hb7 hBc hBg cl ck cf cc cg hb6 y10 hs6 hB7 hP7 y10' y11 hBl hX10 hSn hSo hctx hokp hB5 hP5 hS5 HS HL HP
   gi_wp2_with fail
   refine wpIn_rangeFunc_ownH hro h1 (gf := 183) (lb := #[.pointer (some ⟨Bl, 0, none⟩), .pointer (some ⟨Bc, 0, none⟩), .pointer (some ⟨Bg, 0, none⟩)]) rfl h1F (enters_of Tryz.func183 (by kernel_rfl) rfl)
    (encs := encP) (Kp := KeepC [w.heap.size, w.heap.size + 1, w.heap.size + 2, w.heap.size + 3]) (S := fun ys => ys = pairsL rs first ps) (Sp := fun pre => pre <+: pairsL rs first ps) (N := (pairsL rs first ps).length) (w0 := W7)
    (fun l J Jx W hW hJab _ hY h0 => pairs3_in F (n - 1) h1F h2F h3F hro (by omega) l (hide fun p first Bf w h => HC.out _ p first Bf w h) (hide fun a b v rs Bk w h1 h2 h3 h4 => HG.out _ a b v rs Bk w h1 h2 h3 h4)
     [w.heap.size, w.heap.size + 1, w.heap.size + 2, w.heap.size + 3] Bl Bc Bg (Bl + 2) (Bl + 1) a cap ps first (.pointer q) rs hl256 hcap HOKP.out J Jx
     (fun pre A B hj hb => hJab pre A B none hj ⟨hb.os, hb.tape, hb.output, hb.size, fun k hk _ => hb.block k hk⟩ (fun r e => by cases e)) hY W
     (fun k hk => by have := hW.size; simp at hk; omega) (HCTX.out.keep (keepC_below hW)) h0)
    KeepC.trans (fun W l o o' _ h hc _ => keepC_putObj W l o o' h hc) (Below.refl _ _) (fun _ => rfl)
    (fun pre W => PerAt W w.heap.size (pre.foldl keepW Per.none) ∧ Below w.heap.size w W ∧ W7.heap.size ≤ W.heap.size ∧ Blk W X10 174 #[.func (.func 166) #[] #[.pointer (some ⟨w.heap.size + 3, 0, none⟩), .pointer (some ⟨w.heap.size, 0, none⟩), .pointer (some ⟨w.heap.size + 1, 0, none⟩), .pointer (some ⟨w.heap.size + 2, 0, none⟩)]])
    (fun _ _ _ => False)
    (fun s X Y row hs hg hr => by
     obtain ⟨i1, i2, i3, i4⟩ := hs
     have hk := grown_keepC hg (fun r e => (hr r e).2)
     exact ⟨i1.keepC hk (by simp), ⟨hg.os.trans i2.os, hg.tape.trans i2.tape, hg.output.trans i2.output, Nat.le_trans i2.size hg.size, fun k hkk => (hg.block k (by have := i2.size; omega) (fun e => by have := (hr k e.symm).1; omega)).trans (i2.block k hkk)⟩, Nat.le_trans i3 hg.size, hk.blk i4 (by simp)⟩)
    (fun _ _ _ _ _ hs _ _ => hs)
    ⟨HP7.out, HB7.out, Nat.le_refl _, HY.out⟩
    (fun x a' W => ∃ Bx By, Blk W Bx 40 (pkC x.1) ∧ Blk W By 40 (pkC x.2) ∧ a' = { tmps := #[.slice a ps.length cap, .pointer q, ZI ZQ first, undef, undef, undef, .pointer (some ⟨w.heap.size, 0, none⟩), .pointer (some ⟨w.heap.size + 1, 0, none⟩), .pointer (some ⟨w.heap.size + 2, 0, none⟩), .pointer (some ⟨w.heap.size + 3, 0, none⟩), .pointer (some ⟨X10, 0, none⟩), .pointer (some ⟨Bx, 0, none⟩), .pointer (some ⟨By, 0, none⟩), .slice a ps.length cap, ZI ZQ 0, .bool false, .bool false, ZI ZQ first, .bool true, .bool false, .bool false, .func (.func 166) #[] #[.pointer (some ⟨w.heap.size + 3, 0, none⟩), .pointer (some ⟨w.heap.size, 0, none⟩), .pointer (some ⟨w.heap.size + 1, 0, none⟩), .pointer (some ⟨w.heap.size + 2, 0, none⟩)], .slice a ps.length cap, .pointer q, ZI ZQ first, .func (.func 183) #[] #[.pointer (some ⟨Bl, 0, none⟩), .pointer (some ⟨Bc, 0, none⟩), .pointer (some ⟨Bg, 0, none⟩)], pkV x.1, pkV x.2, undef, undef, undef, undef, undef, undef, undef, undef], defers := [] })
    (fun x a' _ X Y row hs hg hr => by
     obtain ⟨Bx, By, k1, k2, k3⟩ := hs
     have hk := grown_keepC hg (fun r e => (hr r e).2)
     exact ⟨Bx, By, hk.blk k1 (by simp), hk.blk k2 (by simp), k3⟩)
    ?assign ?body ?done ?stop
   case assign =>
    rintro l pre ⟨xp, xq⟩ W K ⟨i1, i2, i3, i4⟩ hK
    have hba : Below W.heap.size W ((W.alloc (.cells (pkC xp) 40)).alloc (.cells (pkC xq) 40)) := ((Below.refl _ _).alloc (Nat.le_refl _) _).alloc (by simp) _
    have u1 := (Blk.new W 40 (pkC xp)).alloc (.cells (pkC xq) 40)
    have u2 := Blk.new (W.alloc (.cells (pkC xp) 40)) 40 (pkC xq)
    rw [World.size_alloc] at u2
    have hb2 := bw_below' i2 hba
    have hz := Nat.le_trans i3 hba.size
    have hi1 := i1.below hba
    have hi4 := (hba.block _ i4.lt).trans i4
    have HBA := hide hba
    have U1 := hide u1
    have U2 := hide u2
    have HB2 := hide hb2
    have HI1 := hide hi1
    have HI4 := hide hi4
    clear hba u1 u2 hb2 hi1 hi4 i1 i2 i4
    unfold encP pkV
    unfold pkC at *
    gi_wp2
    exact hK _ _ ((keepsOthers_below HBA.out).from _) (keepC_below HBA.out) ⟨HI1.out, HB2.out, hz, HI4.out⟩ ⟨_, _, U1.out, U2.out, rfl⟩
   case body =>
    rintro l pre ⟨xp, xq⟩ a' W hl ⟨r, hr⟩ ⟨i1, i2, i3, i4⟩ ⟨Bx, By, k1, k2, rfl⟩ hlt
    have c0 := i4.cell 0
    have g0 := k1.cell 0
    have g1 := k1.cell 1
    have g2 := k1.cell 2
    have g3 := k1.cell 3
    have g4 := k1.cell 4
    have g5 := k1.cell 5
    have e0 := k2.cell 0
    have e1 := k2.cell 1
    have e2 := k2.cell 2
    have e3 := k2.cell 3
    have e4 := k2.cell 4
    have e5 := k2.cell 5
    have HKK := hide (HK.out (n - 1 - 1 - 1) xp xq w.heap.size (pre.foldl keepW Per.none) W i1)
    unfold pkV at HKK ⊢
    unfold pkC at *
    gi_wp2_with fail
    refine ⟨fun _ => by omega, (CallsIn.inRound l HKK.out).mono ?_⟩
    rintro e W' ⟨⟨v, rfl⟩, hp', ho'⟩
    gi_wp2_with fail
    have hcells : ∀ k o, W.heap[k]? = some o → o.isCells = false → k ∉ [w.heap.size, w.heap.size + 1, w.heap.size + 2, w.heap.size + 3] := fun k o hk hc hm => by
     simp at hm
     rcases hm with rfl | rfl | rfl | rfl
     ·rw [i1.d] at hk; cases hk; cases hc
     ·rw [i1.lo] at hk; cases hk; cases hc
     ·rw [i1.hi] at hk; cases hk; cases hc
     ·rw [i1.some] at hk; cases hk; cases hc
    refine ⟨(⟨ho'.size, fun k o hk hc => (ho'.block k (Array.getElem?_eq_some_iff.1 hk).1 (hcells k o hk hc)).trans hk⟩ : KeepsOthers W W').from _, ⟨ho'.size, fun k o hk _ hn => (ho'.block k (Array.getElem?_eq_some_iff.1 hk).1 hn).trans hk⟩, ?_, ?_, Nat.le_trans i3 ho'.size, ?_⟩
    ·rw [List.foldl_append]; exact hp'
    ·exact ⟨ho'.os.trans i2.os, ho'.tape.trans i2.tape, ho'.output.trans i2.output, Nat.le_trans i2.size ho'.size, fun k hk => (ho'.block k (by have := i2.size; omega) (fun hm => by simp at hm; omega)).trans (i2.block k hk)⟩
    ·exact (ho'.block X10 i4.lt (fun hm => by simp at hm; omega)).trans i4
   case done =>
    rintro D ys W hD rfl ⟨i1, i2, i3, i4⟩ hDK
    obtain ⟨st, hst⟩ : ∃ st, (pairsL rs first ps).foldl keepW Per.none = st := ⟨_, rfl⟩
    have HST : Hid (periodOf rs first ps = st) := by
     show _ = _
     rw [← hst, keepW_fold _ _ (pairsL_ok HOKP.out)]
     unfold periodOf periodR
     rw [if_pos ⟨HCK.out, HF.out⟩]
    rw [hst] at i1
    clear hst
    have z0 := i1.d.cell 0
    have z1 := i1.lo.cell 0
    have z2 := i1.hi.cell 0
    have z3 := i1.some.cell 0
    have f0 := i1.d.frozen 0
    have f1 := i1.lo.frozen 0
    have f2 := i1.hi.frozen 0
    have f3 := i1.some.frozen 0
    have r0 := setCell_self i1.d
    have r1 := setCell_self i1.lo
    have r2 := setCell_self i1.hi
    have r3 := setCell_self i1.some
    have HFP := hide (i1.keepC (keepC_putObj W.drew D _ (.deferred none) hDK rfl) (S := []) (by simp))
    have HFB := hide (i2.drew.trans (belowK_b (w := w) (Nat.le_refl _) W.drew D _ (.deferred none) (by have := i2.size; omega) hDK rfl rfl))
    clear i1 i2 i4
    gi_wp2_with fail
    gi_region
    all_goals
     gi_wp2_with fail
     refine ⟨by simp, .inl ⟨_, _, rfl, run_takeDeferred hDK, ?_⟩⟩
     exact ⟨_, per_results HFP.out _ rfl rfl rfl rfl, by rw [HST.out]; rfl, HFB.out⟩
   case stop =>
    rintro D c pre W _ _ h _
    exact h.elim
  ·rw [show (decide (0 ≤ first) && decide (first ≤ 9007199254740991)) = false by
    by_cases h : 0 ≤ first
    ·rw [decide_eq_true h, decide_eq_false (by omega)]; rfl
    ·rw [decide_eq_false h]; rfl]
   have HF := hide hf
   clear hf
   have z0 := hP5.out.d.cell 0
   have z1 := hP5.out.lo.cell 0
   have z2 := hP5.out.hi.cell 0
   have z3 := hP5.out.some.cell 0
   have f0 := hP5.out.d.frozen 0
   have f1 := hP5.out.lo.frozen 0
   have f2 := hP5.out.hi.frozen 0
   have f3 := hP5.out.some.frozen 0
   have r0 := setCell_self hP5.out.d
   have r1 := setCell_self hP5.out.lo
   have r2 := setCell_self hP5.out.hi
   have r3 := setCell_self hP5.out.some
   have HST : Hid (periodOf rs first ps = Per.none) := by
    show _ = _
    unfold periodOf
    rw [if_neg (fun h => HF.out h.2)]
   dsimp only [Per.none] at z0 z1 z2 z3 r0 r1 r2 r3
   gi_wp2_with fail
   exact ⟨_, per_results hP5.out _ rfl rfl rfl rfl, by rw [HST.out]; rfl, hB5.out⟩
 ·have HCK := hide hck
  rw [hck]
  clear hck
  have z0 := hP5.out.d.cell 0
  have z1 := hP5.out.lo.cell 0
  have z2 := hP5.out.hi.cell 0
  have z3 := hP5.out.some.cell 0
  have f0 := hP5.out.d.frozen 0
  have f1 := hP5.out.lo.frozen 0
  have f2 := hP5.out.hi.frozen 0
  have f3 := hP5.out.some.frozen 0
  have r0 := setCell_self hP5.out.d
  have r1 := setCell_self hP5.out.lo
  have r2 := setCell_self hP5.out.hi
  have r3 := setCell_self hP5.out.some
  have HST : Hid (periodOf rs first ps = Per.none) := by
   show _ = _
   unfold periodOf
   rw [if_neg (fun h => by have := HCK.out; omega)]
  dsimp only [Per.none] at z0 z1 z2 z3 r0 r1 r2 r3
  gi_wp2_with fail
  exact ⟨_, per_results hP5.out _ rfl rfl rfl rfl, by rw [HST.out]; rfl, hB5.out⟩
end Go.Proofs.YtgicljeedegncaaGreat
