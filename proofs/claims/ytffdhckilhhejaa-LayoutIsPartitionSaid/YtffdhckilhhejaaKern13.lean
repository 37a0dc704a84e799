/- From the machine of abstract values to the calls of the kit's laws. No program in sight. -/
import Derived.Test.YtffdhckilhhejaaKern12
import Derived.Test.YtffdhckilhhejaaOpen
namespace Go.Proofs.Ytffdhckilhhejaa
open Go.RowKit

theorem calls_of_acalls {P : Program} {f : FuncId} {args : List AV} {b : Bool} {own' : List Ent} (h : ACalls P f args [] (bV b) own') (vs : List Value) (W : World) (ha : AV.satL (fun _ => False) [] [] W args vs) :
    Calls P f vs.toArray W fun e w' => e = .returned (.bool b) ∧ Below W.heap.size W w' := by
  refine (h (fun _ => False) [] W vs ⟨rfl, (fun _ h => h.elim), (fun _ h => nomatch h), (fun _ _ _ h => by cases h), (fun _ _ h => by cases h)⟩ ha).mono ?_
  intro e w' ⟨v, κ', he, hv, _, tr⟩
  refine ⟨?_, tr.os, tr.tape, tr.output, tr.size, fun k hk => tr.old k hk (by simp)⟩
  rw [he]
  have : v = .bool b := by simpa [AV.sat, Dat.sat] using hv
  rw [this]

end Go.Proofs.Ytffdhckilhhejaa
