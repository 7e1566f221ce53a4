/-
  A region that draws its order: behind an operation more may be held.
-/
import Derived.Test.YtbpeienllhbffaaDoorRegionStore
namespace Go.Proofs.YtbpeienllhbffaaDoor
open Go

theorem wpAnyS_sub {P : Program} {ops : Array Oper} {Q : Exit → Act → World → Prop} {md : Region.Mode} {C C' : World → Prop} {st : Nat} (hCC : ∀ w, C' w → C w) : ∀ (fuel : Nat) (listed : Array Bool) (a : Act) (w : World), wpAnyS P md ops Q C' st fuel listed a w → wpAnyS P md ops Q C st fuel listed a w
  | 0, _, _, _, h => h
  | fuel + 1, _, _, _, h => ⟨h.1, fun i hi => wpOp_mono (fun a' w' h' => ⟨fun e => hCC _ (h'.1 e), wpAnyS_sub hCC fuel _ a' w' h'.2⟩) (h.2 i hi)⟩
end Go.Proofs.YtbpeienllhbffaaDoor
