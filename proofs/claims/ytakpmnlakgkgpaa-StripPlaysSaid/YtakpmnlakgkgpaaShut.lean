/- A region that draws its order: what is held behind each operation may grow in the midst of it, when a call has answered; no condition. -/
import Derived.Deep.RegionHeld3
namespace Go.Proofs.Ytakpmnlakgkgpaa
section
variable {P : Program} {ops : Array Oper} {Q : Exit → Act → World → Prop} {md : Region.Mode}
theorem wpAnyH_less {S T : World → Prop} (hT : ∀ w, T w → S w) : ∀ (fuel : Nat) (listed : Array Bool) (a : Act) (w : World), wpAnyH P md ops Q T fuel listed a w → wpAnyH P md ops Q S fuel listed a w
  | 0, _, _, _, h => h
  | fuel + 1, _, _, _, h => ⟨h.1, fun i hi => wpOp_mono (fun a' w' h' => ⟨hT _ h'.1, wpAnyH_less hT fuel _ a' w' h'.2⟩) (h.2 i hi)⟩
theorem shut_more {S : World → Prop} {fuel : Nat} {listed : Array Bool} {K : Act → World → Prop} (h : Shut (∀ a w, S w → (S w → wpAnyH P md ops Q S fuel listed a w) → K a w)) (R : World → Prop) :
    Shut (∀ a w, (S w ∧ R w) → ((S w ∧ R w) → wpAnyH P md ops Q (fun w => S w ∧ R w) fuel listed a w) → K a w) :=
  fun a w hS hW => h.out a w hS.1 fun _ => wpAnyH_less (fun _ h => h.1) _ _ _ _ (hW hS)
/-- The way back into the region, S and R held from here on. -/
theorem shut_eq {S : World → Prop} {fuel : Nat} {listed : Array Bool} {K : Act → World → Prop} (h : Shut (∀ a w, S w → (S w → wpAnyH P md ops Q S fuel listed a w) → K a w)) (R : World → Prop) :
    Shut (∀ a w, S w → (S w → wpAnyH P md ops Q S fuel listed a w) → K a w) = Shut (∀ a w, (S w ∧ R w) → ((S w ∧ R w) → wpAnyH P md ops Q (fun w => S w ∧ R w) fuel listed a w) → K a w) :=
  propext ⟨fun h => shut_more h R, fun _ => h⟩
end
end Go.Proofs.Ytakpmnlakgkgpaa
