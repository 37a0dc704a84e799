import Derived.Test.YtaclmbbiegklcaaDoorRows
import Derived.Test.YtaclmbbiegklcaaDoorCards
import Derived.Test.YtaclmbbiegklcaaDoorTie
import Derived.Test.YtaclmbbiegklcaaDoorMHealthUrgent5
/- HealthUrgent: the given statement, out of the walk. For every input; no condition. -/
namespace Go.Proofs.YtaclmbbiegklcaaDoor.healthUrgentP
open Go.ChangeShapes Go.WideShapes Go.ChangeAt Go.RowKit
set_option linter.unusedVariables false
set_option linter.unusedSimpArgs false
theorem own : ownKnob Tryd.prog.godebug = none := by kernel_rfl
theorem laidOut : laidOutB Tryd.prog = true := by kernel_rfl
theorem gName : Tryd.prog.globalNamed "solvent/field.fields" = some 0 := by kernel_rfl
theorem cells_int : Tryd.prog.cellsOf 3 = 1 := by kernel_rfl
theorem cells_sl_api_Health : Tryd.prog.cellsOf 55 = 1 := by kernel_rfl
theorem cells_solvent_api_Health : Tryd.prog.cellsOf 60 = 4 := by kernel_rfl
theorem cells_solvent_api_Stripe : Tryd.prog.cellsOf 58 = 2 := by kernel_rfl
noncomputable def limWorld (os : Os) : World :=
  let w0 := World.holding Tryd.prog os ⟨#[], #[], []⟩
  { w0 with heap := w0.heap.modify 0 fun
      | .cells _ t frozen => .cells #[.int .i64 8, .int .i64 285, .int .i64 16, .int .i64 69643] t frozen
      | o => o }
theorem laid_met (os : Os) (args : Array Value) : laidMet Tryd.prog Rows.healthUrgentRow.laid ((limWorld os).forCall (fun _ _ => 0) ⟨#[], args, []⟩).memory :=
  laidMet_of_run (ps := [.cell 0 0, .cell 0 1, .cell 0 2, .cell 0 3]) 8 (by kernel_rfl) (by kernel_rfl) (by kernel_rfl)
theorem glb_of_laid {W : World} (h : laidMet Tryd.prog Rows.healthUrgentRow.laid W) : ∀ p ∈ glbs, p.1 < W.heap.size ∧ some p.1 ∉ ([] : List (Option Nat)) ∧ ∃ t fz, W.heap[p.1]? = some (.cells p.2 t fz) := by
  obtain ⟨ps, ⟨g, t, cs, fuel, p, q, hg, ht, hvar, hd, _, _⟩, _⟩ := h
  obtain rfl := Option.some.inj (gName.symm.trans hg)
  have ht2 : t = 224 := (Option.some.inj ((show (Tryd.prog.globals[0]?).map (·.type) = some 224 by kernel_rfl).symm.trans ht)).symm
  subst ht2
  have hcs : cs = #[.int .i64 8, .int .i64 285, .int .i64 16, .int .i64 69643] := fields_cells hd
  subst hcs
  unfold World.var? at hvar
  rw [gName] at hvar
  simp only [Option.bind_some] at hvar
  intro p hp
  have hp' : p = (0, #[.int .i64 8, .int .i64 285, .int .i64 16, .int .i64 69643]) := by simpa [glbs] using hp
  subst hp'
  split at hvar
  · rename_i c t2 fz2 h1
    obtain rfl := Option.some.inj hvar
    exact ⟨(Array.getElem?_eq_some_iff.1 h1).1, by simp, _, _, h1⟩
  · cases hvar
set_option maxHeartbeats 4000000 in
set_option maxRecDepth 100000 in
theorem lifted (os : Os) (started : os.Started) (H : Type) (enc : TypeId × Value → H) :
    ReturnsInHanded {} Tryd.checked os 8 .any (fun w args => (Rows.healthUrgentSpec.pre enc Tryd.prog Tryd.f8 Rows.healthUrgentRow.domain false w args ∧ laidMet Tryd.prog Rows.healthUrgentRow.laid w) ∧ sizedMet enc Tryd.prog Tryd.f8 (OpenSpec.ofChange Rows.healthUrgentSpec) false w args)
      (Rows.healthUrgentSpec.post enc Tryd.prog Tryd.f8 false true false false) := by
  refine returnsInHanded_of_change_and (C := Tryd.checked) (X := fun w _ => laidMet Tryd.prog Rows.healthUrgentRow.laid w) (fun _ _ _ hh h => h.of_heap hh) own started (by kernel_rfl) Tryd.func8
    (ChangeSpec.witness_at (enc := enc) (C := Tryd.checked) (os := os) (X := fun w _ => laidMet Tryd.prog Rows.healthUrgentRow.laid w) false (limWorld os) #[.slice none 0 0] 8 rfl (by kernel_rfl) (by kernel_rfl) (by kernel_rfl) (by kernel_rfl) (by kernel_rfl) (laid_met os _)) ?_
  intro W base args ds gs before hval0 hW hcnd0 hsz hL _
  have hglb := glb_of_laid hL
  have hval : ∀ (j : Nat) t v, Tryd.f8.params[j]? = some t → args[j]? = some v → Value.okWide Tryd.prog W .any base t v := hval0
  have hW' := hW
  obtain ⟨p, q, hA0, hV, rfl, hfz, hnd⟩ := hW
  have hA : DataW.TrodAll enc Tryd.prog W 0 (fun _ => true) true Tryd.f8.params.toList args.toList ds p := hA0
  rw [Tryd.params8] at hA hval hsz
  obtain ⟨v0, vs0, d0, ds0, p0, q0, hargs, rfl, rfl, h0, r0⟩ := trodAll_cons hA
  obtain ⟨rfl, rfl, rfl⟩ := trodAll_nil r0
  obtain rfl : args = #[v0] := by cases args; simp_all
  obtain ⟨rfl, rfl⟩ := trodVars_none hV
  have k0 := h0
  have lt0 : ∀ x ∈ p0, x.block < W.heap.size := by obtain ⟨m, hm⟩ := k0; exact DataW.trod_lt m _ _ _ hm
  obtain ⟨x0, b0, s0⟩ := opens_arg (opens_slice Tryd.underlying55 cells_solvent_api_Health (by decide) (opens_map (opens_all Tryd.underlying60 cells_solvent_api_Health (opens_toS 2 Tryd.underlying60 (opens_toS 1 Tryd.underlying60 (opens_toS 0 Tryd.underlying60 opens_to0 rfl rfl cells_solvent_api_Stripe (by rw [cells_solvent_api_Health]; decide) (opens_all Tryd.underlying58 cells_solvent_api_Stripe (opens_toS 1 Tryd.underlying58 (opens_toS 0 Tryd.underlying58 opens_to0 rfl rfl cells_int (by rw [cells_solvent_api_Stripe]; decide) (opens_int Tryd.underlying3)) rfl rfl cells_int (by rw [cells_solvent_api_Stripe]; decide) (opens_int Tryd.underlying3)))) rfl rfl cells_int (by rw [cells_solvent_api_Health]; decide) (opens_int Tryd.underlying3)) rfl rfl cells_int (by rw [cells_solvent_api_Health]; decide) (opens_int Tryd.underlying3))) (fun a => ((a.1.1.2.1.2, a.1.1.2.2, a.1.2, a.2) : Hl)) (g := hlD) (okg := fun _ => True) (fun a h => ⟨rfl, trivial⟩))) (cells_sl Tryd.underlying55 (hval 0 55 v0 rfl rfl)) h0
  clear hA0 hval0
  have hmx : maxLen = 9223372036854775807 := rfl
  have hA := A_healthUrgent (l := x0)
  have hs : AV.satL (fun _ => False) [] [] W [hls x0] [v0] := by
    exact (satL_cons s0 satL_nil)
  have hc := calls_of_acalls hA [v0] W hglb hs
  have hd : Calls Tryd.prog 8 #[v0] W fun e w' => e = .returned (.bool true) ∧ Below W.heap.size W w' := hc
  refine hd.mono fun e W' ⟨he, bel⟩ => ?_
  subst he
  exact ⟨_, rfl, _, _, _, [], _, [], hW', trodAll_mk1 (shut_bool Tryd.underlying4 _), (trodAll_cons_mk (Below.trod laidOut (by kernel_rfl) (of_decide_eq_true (by kernel_rfl)) k0 bel lt0) trodAll_mk0), rfl, bel.frame _, fun h => by cases h⟩
theorem over : Rows.healthUrgentRow.holds Tryd.pinned (OpenSpec.ofChange Rows.healthUrgentSpec) :=
  OpenClaim.holds_of_wide 8 Tryd.f8 rfl rfl rfl rfl rfl rfl rfl ⟨rfl, rfl, rfl, rfl, rfl⟩ rfl rfl rfl rfl rfl (by kernel_rfl) Tryd.func8 (by kernel_rfl)
    (of_decide_eq_true (by kernel_rfl)) (by unfold Func.isWrapper; first | (rw [if_pos (by decide +kernel)]; kernel_rfl) | (rw [if_neg (by decide +kernel)]; exact ⟨rfl, rfl⟩))
    (fun os started H enc _ => lifted os started H enc)
theorem proved : Rows.HealthUrgentCardSaid :=
  Claim7.holds_tied_plain_at .later [] _ _ _ _
    over (fun _ h => by cases h) (by kernel_rfl) (fun _ h => by cases h) healthUrgent_row_tie rfl ⟨rfl, rfl⟩ (by kernel_rfl) rfl
    (fun f fn hf hfn => by
      obtain rfl : f = 8 := Option.some.inj ((show Tryd.prog.funcNamed "solvent/solventlaw36.HealthUrgent" = some 8 by kernel_rfl).symm.trans hf) |>.symm
      obtain rfl : fn = Tryd.f8 := (Option.some.inj (Tryd.func8.symm.trans hfn)).symm
      exact ⟨by kernel_rfl, fun j t ht => by
        rw [Tryd.params8] at ht
        rcases j with _ | j
        · obtain rfl : 55 = t := by simpa using ht
          kernel_rfl
        · simp at ht⟩)
    (by kernel_rfl)
#print axioms proved
end Go.Proofs.YtaclmbbiegklcaaDoor.healthUrgentP
