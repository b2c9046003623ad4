/- A region that draws its order within a round of a loop over an iterator: by the unfenced laws. -/
import Derived.Test.YtmmgfelifmdnbaaDoorPruM
import Derived.OrdersHeld
import Derived.Deep.Quiet
import Derived.Deep.RegionHeld
namespace Go.Proofs.YtmmgfelifmdnbaaDoor.RndI
set_option linter.unusedVariables false

section
variable {P : Program} {n r : Nat}
def Qn (K : Act → World → Prop) : Exit → Act → World → Prop := fun e a w => e = .normal ∧ K a w
theorem qn_out {K : Act → World → Prop} : ¬ LetsOut (Qn K) := fun ⟨_, _, h, _⟩ => by cases h
def noDefer (ops : Array Oper) : Bool := ops.all fun o => match o.op with | .defer _ => false | _ => true
theorem noDefer_spec {ops : Array Oper} (h : noDefer ops = true) {i : Nat} {o : Oper} (hi : ops[i]? = some o) : ∀ c, o.op ≠ .defer c := fun c hc => by
  obtain ⟨hl, he⟩ := Array.getElem?_eq_some_iff.1 hi
  unfold noDefer at h
  rw [Array.all_eq_true] at h
  have := h i hl
  rw [he, hc] at this
  cases this
theorem op_round {o : Oper} {a : Act} {w : World} {N N' K : Act → World → Prop} {Q : Exit → Act → World → Prop} (hnd : ∀ c, o.op ≠ .defer c) (hN : ∀ a w, N a w → N' a w) (h : o.wp P a w N (Qn K)) : o.wpIn (Fence.wide.inRound r) n P a w N' Q := by
  refine ⟨fun _ _ => trivial, ?_⟩
  unfold Oper.wp at h
  rw [show (Fence.wide.inRound r).round = some r from rfl, Oper.semAt_some r _ _ hnd]
  revert h
  cases (execOp a.eval o).run P w with
  | ok v w' =>
    cases v with
    | value v => exact fun h => hN _ _ h
    | skip => exact fun h => hN _ _ h
    | defer d => exact fun h => hN _ _ h
    | enter f args =>
      intro h
      refine ⟨fun h => by (cases h), ?_⟩
      refine CallsIn.inRound r (callsIn_wide.2 (Calls.mono h ?_))
      rintro (v | ch | _) w'' hh
      · exact hN _ _ hh
      · exact absurd hh.1 (by intro e; cases e)
      · exact absurd hh qn_out
    | row row args => 
      intro h
      refine ⟨fun h => by (cases h), ?_⟩
      intro c cs _
      obtain ⟨v, w1, hv, hs⟩ := h c cs
      exact ⟨v, w1, hN _ _ hv, stepsIn_wide.2 hs⟩
    | _ => exact fun h => h.elim
  | halt hh w' =>
    cases hh with
    | panic v => exact fun h => absurd h.1 (by intro e; cases e)
    | _ => exact fun h => h.elim
theorem ops_round {ops : Array Oper} {K : Act → World → Prop} {Q : Exit → Act → World → Prop} (hnd : noDefer ops = true) (hQ : ∀ a w, K a w → Q .normal a w) : ∀ (l : List Nat) (a : Act) (w : World), wpOps P ops (Qn K) l a w → wpOpsIn (Fence.wide.inRound r) n P ops Q l a w
  | [], a, w, h => hQ _ _ h.2
  | i :: rest, a, w, h => by
    unfold wpOps at h
    unfold wpOpsIn
    cases ho : ops[i]? with
    | none => simp only [ho] at h ⊢; exact ops_round hnd hQ rest a w h
    | some o =>
      simp only [ho] at h ⊢
      split
      · rename_i hw
        simp only [hw, if_true] at h
        rcases h with h | h
        · exact op_round (noDefer_spec hnd ho) (fun a w h => ops_round hnd hQ rest a w h) h
        · exact absurd h.2 qn_out
      · rename_i hw
        simp only [hw] at h
        exact ⟨fun _ _ => trivial, ops_round hnd hQ rest _ w h⟩
/-- a region that draws its order, in a round: by the unfenced walk of it -/
theorem region_round {ops : Array Oper} {id : Nat} {K : Act → World → Prop} {Q : Exit → Act → World → Prop} {a : Act} {w : World} (hm : P.follows .mixedOrders = true) (hnd : noDefer ops = true) (hQ : ∀ a w, K a w → Q .normal a w)
    (h : wpAny P .any ops (Qn K) ops.size (Array.replicate ops.size false) a w.drew) : (Code.region id ops true).wpIn (Fence.wide.inRound r) n P Q a w :=
  wpIn_region_draw fun t => by
    simp only [Region.schedule, hm, Bool.true_or, if_true]
    exact ops_round hnd hQ _ _ _ (wpAny_sound ops.size t _ a _ h)
/-- operations that leave the world alone: one walk of the lexical order -/
theorem quiet_round {l : List Oper} {id : Nat} {K : Act → World → Prop} {Q : Exit → Act → World → Prop} {a : Act} {w : World} (hm : P.follows .mixedOrders = true) (hnd : noDefer l.toArray = true) (hB : Region.lexB .any l.toArray = true) (hQ : ∀ a w, K a w → Q .normal a w)
    (h : wpQuiet P l.toArray (fun w' => ∃ n, w' = w.drewN n) (fun a' => ∀ w', (∃ n, w' = w.drewN n) → K a' w') l a) : (Code.region id l.toArray true).wpIn (Fence.wide.inRound r) n P Q a w := by
  simp only [Region.lexB, Bool.and_eq_true] at hB
  refine region_round hm hnd hQ (wpAny_of_quiet (Q := fun a' => ∀ w', (∃ n, w' = w.drewN n) → K a' w') (fun _ w' hw' h => ⟨rfl, h w' hw'⟩) _ _ _ _ (C := fun w' => ∃ n, w' = w.drewN n) ⟨1, rfl⟩ ?_)
  have := wpAnyQ_lex (P := P) (C := fun w' => ∃ n, w' = w.drewN n) (md := .any) hB.1 l 0 (Array.replicate l.toArray.size false) a (by simp) (by simpa using hB.2) h
  simpa using this
theorem held_round {l : List Oper} {id : Nat} {K : Act → World → Prop} {S : World → Prop} {Q : Exit → Act → World → Prop} {a : Act} {w : World} (hm : P.follows .mixedOrders = true) (hnd : noDefer l.toArray = true) (hQ : ∀ a w, K a w → Q .normal a w) (hS : S w.drew)
    (h : S w.drew → wpAnyH P .any l.toArray (Qn K) S l.toArray.size (Array.replicate l.toArray.size false) a w.drew) : (Code.region id l.toArray true).wpIn (Fence.wide.inRound r) n P Q a w :=
  region_round hm hnd hQ (wpAny_of_held _ _ _ _ (h hS))
end
end Go.Proofs.YtmmgfelifmdnbaaDoor.RndI
