import Derived.Test.YtcljokdiblnhiaaGreatDoorRows
import Derived.Test.YtcljokdiblnhiaaGreatDoorCards
import Derived.Test.YtcljokdiblnhiaaGreatDoorTie
import Derived.Test.YtcljokdiblnhiaaGreatDoorMHealIsComplete6
namespace Go.Proofs.YtcljokdiblnhiaaGreatDoor.healIsCompleteP
open Go.ChangeShapes Go.WideShapes Go.ChangeAt Go.RowKit
set_option linter.unusedVariables false
set_option linter.unusedSimpArgs false
theorem own : ownKnob Tryz.prog.godebug = none := by kernel_rfl
theorem laidOut : laidOutB Tryz.prog = true := by kernel_rfl
theorem gName : Tryz.prog.globalNamed "solvent/field.fields" = some 0 := by kernel_rfl
theorem cells_bool : Tryz.prog.cellsOf 4 = 1 := by kernel_rfl
theorem cells_int : Tryz.prog.cellsOf 3 = 1 := by kernel_rfl
theorem cells_sl_api_Seat : Tryz.prog.cellsOf 69 = 1 := by kernel_rfl
theorem cells_sl_bool : Tryz.prog.cellsOf 51 = 1 := by kernel_rfl
theorem cells_sl_int : Tryz.prog.cellsOf 48 = 1 := by kernel_rfl
theorem cells_sl_sl_int : Tryz.prog.cellsOf 44 = 1 := by kernel_rfl
theorem cells_solvent_api_Code : Tryz.prog.cellsOf 46 = 5 := by kernel_rfl
theorem cells_solvent_api_Config : Tryz.prog.cellsOf 23 = 6 := by kernel_rfl
theorem cells_solvent_api_Seat : Tryz.prog.cellsOf 94 = 4 := by kernel_rfl
theorem cells_solvent_api_Stripe : Tryz.prog.cellsOf 33 = 2 := by kernel_rfl
theorem cells_solvent_api_Unit : Tryz.prog.cellsOf 73 = 3 := by kernel_rfl
theorem cells_solvent_solventlaw38_In : Tryz.prog.cellsOf 71 = 16 := by kernel_rfl
theorem cells_string : Tryz.prog.cellsOf 9 = 1 := by kernel_rfl
noncomputable def limWorld (os : Os) : World :=
  let w0 := World.holding Tryz.prog os ⟨#[], #[], []⟩
  { w0 with heap := w0.heap.modify 0 fun
      | .cells _ t frozen => .cells #[.int .i64 8, .int .i64 285, .int .i64 16, .int .i64 69643] t frozen
      | o => o }
theorem laid_met (os : Os) (args : Array Value) : laidMet Tryz.prog Rows.healIsCompleteRow.laid ((limWorld os).forCall (fun _ _ => 0) ⟨#[], args, []⟩).memory :=
  laidMet_of_run (ps := [.cell 0 0, .cell 0 1, .cell 0 2, .cell 0 3]) 8 (by kernel_rfl) (by kernel_rfl) (by kernel_rfl)
theorem glb_of_laid {W : World} (h : laidMet Tryz.prog Rows.healIsCompleteRow.laid W) : ∀ p ∈ glbs, p.1 < W.heap.size ∧ some p.1 ∉ ([] : List (Option Nat)) ∧ ∃ t fz, W.heap[p.1]? = some (.cells p.2 t fz) := by
  obtain ⟨ps, ⟨g, t, cs, fuel, p, q, hg, ht, hvar, hd, _, _⟩, _⟩ := h
  obtain rfl := Option.some.inj (gName.symm.trans hg)
  have ht2 : t = 285 := (Option.some.inj ((show (Tryz.prog.globals[0]?).map (·.type) = some 285 by kernel_rfl).symm.trans ht)).symm
  subst ht2
  have hcs : cs = #[.int .i64 8, .int .i64 285, .int .i64 16, .int .i64 69643] := fields_cells hd
  subst hcs
  unfold World.var? at hvar
  rw [gName] at hvar
  simp only [Option.bind_some] at hvar
  intro p hp
  have hp' : p = (0, #[.int .i64 8, .int .i64 285, .int .i64 16, .int .i64 69643]) := by simpa [glbs] using hp
  subst hp'
  split at hvar
  · rename_i c t2 fz2 h1
    obtain rfl := Option.some.inj hvar
    exact ⟨(Array.getElem?_eq_some_iff.1 h1).1, by simp, _, _, h1⟩
  · cases hvar
set_option maxHeartbeats 4000000 in
set_option maxRecDepth 100000 in
theorem lifted (os : Os) (started : os.Started) (H : Type) (enc : TypeId × Value → H) :
    ReturnsInHanded {} Tryz.checked os 8 .any (fun w args => (Rows.healIsCompleteSpec.pre enc Tryz.prog Tryz.f8 Rows.healIsCompleteRow.domain false w args ∧ laidMet Tryz.prog Rows.healIsCompleteRow.laid w) ∧ sizedMet enc Tryz.prog Tryz.f8 (OpenSpec.ofChange Rows.healIsCompleteSpec) false w args)
      (Rows.healIsCompleteSpec.post enc Tryz.prog Tryz.f8 false true false false) := by
  refine returnsInHanded_of_change_and (C := Tryz.checked) (X := fun w _ => laidMet Tryz.prog Rows.healIsCompleteRow.laid w) (fun _ _ _ hh h => h.of_heap hh) own started (by kernel_rfl) Tryz.func8
    (ChangeSpec.witness_at (enc := enc) (C := Tryz.checked) (os := os) (X := fun w _ => laidMet Tryz.prog Rows.healIsCompleteRow.laid w) false (limWorld os) #[.agg #[.int .i64 0, .int .i64 0, .int .i64 0, .int .i64 0, .int .i64 0, .int .i64 0, .string ⟨#[]⟩, .int .i64 0, .int .i64 0, .slice none 0 0, .int .i64 0, .int .i64 0, .int .i64 0, .slice none 0 0, .slice none 0 0, .slice none 0 0]] 8 rfl (by kernel_rfl) (by kernel_rfl) (by kernel_rfl) (by kernel_rfl) (by kernel_rfl) (laid_met os _)) ?_
  intro W base args ds gs before hval0 hW hcnd0 hsz hL _
  have hglb := glb_of_laid hL
  have hval : ∀ (j : Nat) t v, Tryz.f8.params[j]? = some t → args[j]? = some v → Value.okWide Tryz.prog W .any base t v := hval0
  have hW' := hW
  obtain ⟨p, q, hA0, hV, rfl, hfz, hnd⟩ := hW
  have hA : DataW.TrodAll enc Tryz.prog W 0 (fun _ => true) true Tryz.f8.params.toList args.toList ds p := hA0
  rw [Tryz.params8] at hA hval hsz
  obtain ⟨v0, vs0, d0, ds0, p0, q0, hargs, rfl, rfl, h0, r0⟩ := trodAll_cons hA
  obtain ⟨rfl, rfl, rfl⟩ := trodAll_nil r0
  obtain rfl : args = #[v0] := by cases args; simp_all
  obtain ⟨rfl, rfl⟩ := trodVars_none hV
  have k0 := h0
  have lt0 : ∀ x ∈ p0, x.block < W.heap.size := by obtain ⟨m, hm⟩ := k0; exact DataW.trod_lt m _ _ _ hm
  obtain ⟨cs0, rfl, hsz0⟩ := okWide_struct Tryz.underlying71 (hval 0 71 v0 rfl rfl)
  obtain ⟨l0⟩ := cs0
  obtain ⟨x0, b0, s0⟩ := opens_agg (opens_all Tryz.underlying71 cells_solvent_solventlaw38_In (opens_toS 5 Tryz.underlying71 (opens_toS 4 Tryz.underlying71 (opens_toS 3 Tryz.underlying71 (opens_toS 2 Tryz.underlying71 (opens_toS 1 Tryz.underlying71 (opens_toS 0 Tryz.underlying71 opens_to0 rfl rfl cells_solvent_api_Config (by rw [cells_solvent_solventlaw38_In]; decide) (opens_all Tryz.underlying23 cells_solvent_api_Config (opens_toS 5 Tryz.underlying23 (opens_toS 4 Tryz.underlying23 (opens_toS 3 Tryz.underlying23 (opens_toS 2 Tryz.underlying23 (opens_toS 1 Tryz.underlying23 (opens_toS 0 Tryz.underlying23 opens_to0 rfl rfl cells_int (by rw [cells_solvent_api_Config]; decide) (opens_int Tryz.underlying3)) rfl rfl cells_int (by rw [cells_solvent_api_Config]; decide) (opens_int Tryz.underlying3)) rfl rfl cells_int (by rw [cells_solvent_api_Config]; decide) (opens_int Tryz.underlying3)) rfl rfl cells_int (by rw [cells_solvent_api_Config]; decide) (opens_int Tryz.underlying3)) rfl rfl cells_int (by rw [cells_solvent_api_Config]; decide) (opens_int Tryz.underlying3)) rfl rfl cells_int (by rw [cells_solvent_api_Config]; decide) (opens_int Tryz.underlying3)))) rfl rfl cells_solvent_api_Code (by rw [cells_solvent_solventlaw38_In]; decide) (opens_all Tryz.underlying46 cells_solvent_api_Code (opens_toS 4 Tryz.underlying46 (opens_toS 3 Tryz.underlying46 (opens_toS 2 Tryz.underlying46 (opens_toS 1 Tryz.underlying46 (opens_toS 0 Tryz.underlying46 opens_to0 rfl rfl cells_string (by rw [cells_solvent_api_Code]; decide) (opens_string Tryz.underlying9)) rfl rfl cells_int (by rw [cells_solvent_api_Code]; decide) (opens_int Tryz.underlying3)) rfl rfl cells_int (by rw [cells_solvent_api_Code]; decide) (opens_int Tryz.underlying3)) rfl rfl cells_sl_sl_int (by rw [cells_solvent_api_Code]; decide) (opens_slice Tryz.underlying44 cells_sl_int (by decide) (opens_slice Tryz.underlying48 cells_int (by decide) (opens_int Tryz.underlying3)))) rfl rfl cells_int (by rw [cells_solvent_api_Code]; decide) (opens_int Tryz.underlying3)))) rfl rfl cells_solvent_api_Stripe (by rw [cells_solvent_solventlaw38_In]; decide) (opens_all Tryz.underlying33 cells_solvent_api_Stripe (opens_toS 1 Tryz.underlying33 (opens_toS 0 Tryz.underlying33 opens_to0 rfl rfl cells_int (by rw [cells_solvent_api_Stripe]; decide) (opens_int Tryz.underlying3)) rfl rfl cells_int (by rw [cells_solvent_api_Stripe]; decide) (opens_int Tryz.underlying3)))) rfl rfl cells_sl_api_Seat (by rw [cells_solvent_solventlaw38_In]; decide) (opens_slice Tryz.underlying69 cells_solvent_api_Seat (by decide) (opens_map (opens_all Tryz.underlying94 cells_solvent_api_Seat (opens_toS 1 Tryz.underlying94 (opens_toS 0 Tryz.underlying94 opens_to0 rfl rfl cells_solvent_api_Unit (by rw [cells_solvent_api_Seat]; decide) (opens_all Tryz.underlying73 cells_solvent_api_Unit (opens_toS 1 Tryz.underlying73 (opens_toS 0 Tryz.underlying73 opens_to0 rfl rfl cells_solvent_api_Stripe (by rw [cells_solvent_api_Unit]; decide) (opens_all Tryz.underlying33 cells_solvent_api_Stripe (opens_toS 1 Tryz.underlying33 (opens_toS 0 Tryz.underlying33 opens_to0 rfl rfl cells_int (by rw [cells_solvent_api_Stripe]; decide) (opens_int Tryz.underlying3)) rfl rfl cells_int (by rw [cells_solvent_api_Stripe]; decide) (opens_int Tryz.underlying3)))) rfl rfl cells_int (by rw [cells_solvent_api_Unit]; decide) (opens_int Tryz.underlying3)))) rfl rfl cells_int (by rw [cells_solvent_api_Seat]; decide) (opens_int Tryz.underlying3))) (fun a => ((a.1.2.1.2.1.2, a.1.2.1.2.2, a.1.2.2, a.2) : Se)) (g := seD) (okg := fun _ => True) (fun a h => ⟨rfl, trivial⟩)))) rfl rfl cells_sl_int (by rw [cells_solvent_solventlaw38_In]; decide) (opens_slice Tryz.underlying48 cells_int (by decide) (opens_int Tryz.underlying3))) rfl rfl cells_sl_bool (by rw [cells_solvent_solventlaw38_In]; decide) (opens_slice Tryz.underlying51 cells_bool (by decide) (opens_bool Tryz.underlying4)))) rfl h0
  clear hA0 hval0
  have hmx : maxLen = 9223372036854775807 := rfl
  have hA := A_healCompleteF (d := x0.1.1.1.1.1.2.1.1.1.1.1.2) (r := x0.1.1.1.1.1.2.1.1.1.1.2) (n := x0.1.1.1.1.1.2.1.1.1.2) (s := x0.1.1.1.1.1.2.1.1.2) (l := x0.1.1.1.1.1.2.1.2) (i := x0.1.1.1.1.1.2.2) (nm := x0.1.1.1.1.2.1.1.1.1.2) (M := x0.1.1.1.1.2.1.1.1.2) (D := x0.1.1.1.1.2.1.1.2) (par := x0.1.1.1.1.2.1.2) (dom := x0.1.1.1.1.2.2) (a := x0.1.1.1.2.1.2) (g := x0.1.1.1.2.2) (mv := x0.1.1.2) (st := x0.1.2) (inn := x0.2) ⟨fun r hr x hx => ((b0.1.1.1.1.2.1.2.1 r hr).1 x hx).2⟩ b0.1.1.2.2 b0.1.2.2
  have hs : AV.satL (fun _ => False) [] [] W [xinF x0.1.1.1.1.1.2.1.1.1.1.1.2 x0.1.1.1.1.1.2.1.1.1.1.2 x0.1.1.1.1.1.2.1.1.1.2 x0.1.1.1.1.1.2.1.1.2 x0.1.1.1.1.1.2.1.2 x0.1.1.1.1.1.2.2 x0.1.1.1.1.2.1.1.1.1.2 x0.1.1.1.1.2.1.1.1.2 x0.1.1.1.1.2.1.1.2 x0.1.1.1.1.2.1.2 x0.1.1.1.1.2.2 x0.1.1.1.2.1.2 x0.1.1.1.2.2 x0.1.1.2 x0.1.2 x0.2] [.agg l0.toArray] := by
    exact (satL_cons s0 satL_nil)
  have hc := calls_of_acalls hA [.agg l0.toArray] W hglb hs
  have hd : Calls Tryz.prog 8 #[.agg l0.toArray] W fun e w' => e = .returned (.bool true) ∧ Below W.heap.size W w' := hc
  refine hd.mono fun e W' ⟨he, bel⟩ => ?_
  subst he
  exact ⟨_, rfl, _, _, _, [], _, [], hW', trodAll_mk1 (shut_bool Tryz.underlying4 _), (trodAll_cons_mk (Below.trod laidOut (by kernel_rfl) (of_decide_eq_true (by kernel_rfl)) k0 bel lt0) trodAll_mk0), rfl, bel.frame _, fun h => by cases h⟩
theorem over : Rows.healIsCompleteRow.holds Tryz.pinned (OpenSpec.ofChange Rows.healIsCompleteSpec) :=
  OpenClaim.holds_of_wide 8 Tryz.f8 rfl rfl rfl rfl rfl rfl rfl ⟨rfl, rfl, rfl, rfl, rfl⟩ rfl rfl rfl rfl rfl (by kernel_rfl) Tryz.func8 (by kernel_rfl)
    (of_decide_eq_true (by kernel_rfl)) (by unfold Func.isWrapper; first | (rw [if_pos (by decide +kernel)]; kernel_rfl) | (rw [if_neg (by decide +kernel)]; exact ⟨rfl, rfl⟩))
    (fun os started H enc _ => lifted os started H enc)
theorem proved : Rows.HealIsCompleteCardSaid :=
  Claim7.holds_tied_plain_at .later [] _ _ _ _
    over (fun _ h => by cases h) (by kernel_rfl) (fun _ h => by cases h) healIsComplete_row_tie rfl ⟨rfl, rfl⟩ (by kernel_rfl) rfl
    (fun f fn hf hfn => by
      obtain rfl : f = 8 := Option.some.inj ((show Tryz.prog.funcNamed "solvent/solventlaw38.HealIsComplete" = some 8 by kernel_rfl).symm.trans hf) |>.symm
      obtain rfl : fn = Tryz.f8 := (Option.some.inj (Tryz.func8.symm.trans hfn)).symm
      exact ⟨by kernel_rfl, fun j t ht => by
        rw [Tryz.params8] at ht
        rcases j with _ | j
        · obtain rfl : 71 = t := by simpa using ht
          kernel_rfl
        · simp at ht⟩)
    (by kernel_rfl)
#print axioms proved
end Go.Proofs.YtcljokdiblnhiaaGreatDoor.healIsCompleteP
