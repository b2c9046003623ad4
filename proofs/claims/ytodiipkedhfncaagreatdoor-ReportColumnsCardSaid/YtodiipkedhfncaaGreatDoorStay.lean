/- The frame's step for a law over arguments of whatever types: behind a walk that ends in 'Below', every argument reads as it did. -/
import Derived.Test.YtodiipkedhfncaaGreatDoorBase
import Derived.WideKeyArgs
namespace Go.Proofs.YtodiipkedhfncaaGreatDoor.Stay
open Go.ChangeShapes Go.WideShapes Go.RowKit Go.WideElems Base
variable {H : Type} {enc : TypeId × Value → H} {P : Program} {base : Nat} {W W' : World} {sp' : Nat → Bool}

theorem trodAll_stays (hl : laidOutB P = true) : ∀ {ts : List TypeId} {vs : List Value} {ds : List (DataW H)} {ps : List MemPlace}, (∀ t ∈ ts, P.readableRec t = true ∧ t < P.types.size) →
    DataW.TrodAll enc P W base (fun _ => true) true ts vs ds ps → (∀ p ∈ ps, W.sameAt W' p) → (∀ p ∈ ps, sp' p.block = true) → DataW.TrodAll enc P W' base sp' true ts vs ds ps
  | [], [], [], ps, _, h, _, _ => h
  | t :: ts, v :: vs, d :: ds, ps, ht, ⟨p, q, h, hs, e⟩, hsame, hsp => by
    subst e
    exact ⟨p, q, Trod_stays hl (ht t (List.mem_cons_self ..)).1 (ht t (List.mem_cons_self ..)).2 h (fun x hx => hsame x (List.mem_append_left _ hx)) (fun x hx => hsp x (List.mem_append_left _ hx)),
      trodAll_stays hl (fun t' h' => ht t' (List.mem_cons_of_mem _ h')) hs (fun x hx => hsame x (List.mem_append_right _ hx)) (fun x hx => hsp x (List.mem_append_right _ hx)), rfl⟩
end Go.Proofs.YtodiipkedhfncaaGreatDoor.Stay
