import Derived.Test.YtaclmbbiegklcaaGreatDoorRows
import Derived.Test.YtaclmbbiegklcaaGreatDoorCards
import Derived.Test.YtaclmbbiegklcaaGreatDoorTie
import Derived.Test.YtaclmbbiegklcaaGreatDoorMChangeRepacksAsSpecified6
namespace Go.Proofs.YtaclmbbiegklcaaGreatDoor.changeRepacksAsSpecifiedP
open Go.ChangeShapes Go.WideShapes Go.ChangeAt Go.RowKit
set_option linter.unusedVariables false
set_option linter.unusedSimpArgs false
theorem own : ownKnob Tryz.prog.godebug = none := by kernel_rfl
theorem laidOut : laidOutB Tryz.prog = true := by kernel_rfl
theorem gName : Tryz.prog.globalNamed "solvent/field.fields" = some 0 := by kernel_rfl
theorem cells_bool : Tryz.prog.cellsOf 4 = 1 := by kernel_rfl
theorem cells_int : Tryz.prog.cellsOf 3 = 1 := by kernel_rfl
theorem cells_sl_api_Source : Tryz.prog.cellsOf 52 = 1 := by kernel_rfl
theorem cells_sl_bool : Tryz.prog.cellsOf 44 = 1 := by kernel_rfl
theorem cells_sl_int : Tryz.prog.cellsOf 42 = 1 := by kernel_rfl
theorem cells_sl_sl_int : Tryz.prog.cellsOf 26 = 1 := by kernel_rfl
theorem cells_sl_string : Tryz.prog.cellsOf 96 = 1 := by kernel_rfl
theorem cells_solvent_api_Code : Tryz.prog.cellsOf 28 = 5 := by kernel_rfl
theorem cells_solvent_api_Source : Tryz.prog.cellsOf 98 = 8 := by kernel_rfl
theorem cells_string : Tryz.prog.cellsOf 9 = 1 := by kernel_rfl
noncomputable def limWorld (os : Os) : World :=
  let w0 := World.holding Tryz.prog os ⟨#[], #[], []⟩
  { w0 with heap := w0.heap.modify 0 fun
      | .cells _ t frozen => .cells #[.int .i64 8, .int .i64 285, .int .i64 16, .int .i64 69643] t frozen
      | o => o }
theorem laid_met (os : Os) (args : Array Value) : laidMet Tryz.prog Rows.changeRepacksAsSpecifiedRow.laid ((limWorld os).forCall (fun _ _ => 0) ⟨#[], args, []⟩).memory :=
  laidMet_of_run (ps := [.cell 0 0, .cell 0 1, .cell 0 2, .cell 0 3]) 8 (by kernel_rfl) (by kernel_rfl) (by kernel_rfl)
theorem glb_of_laid {W : World} (h : laidMet Tryz.prog Rows.changeRepacksAsSpecifiedRow.laid W) : ∀ p ∈ glbs, p.1 < W.heap.size ∧ some p.1 ∉ ([] : List (Option Nat)) ∧ ∃ t fz, W.heap[p.1]? = some (.cells p.2 t fz) := by
  obtain ⟨ps, ⟨g, t, cs, fuel, p, q, hg, ht, hvar, hd, _, _⟩, _⟩ := h
  obtain rfl := Option.some.inj (gName.symm.trans hg)
  have ht2 : t = 228 := (Option.some.inj ((show (Tryz.prog.globals[0]?).map (·.type) = some 228 by kernel_rfl).symm.trans ht)).symm
  subst ht2
  have hcs : cs = #[.int .i64 8, .int .i64 285, .int .i64 16, .int .i64 69643] := fields_cells hd
  subst hcs
  unfold World.var? at hvar
  rw [gName] at hvar
  simp only [Option.bind_some] at hvar
  intro p hp
  have hp' : p = (0, #[.int .i64 8, .int .i64 285, .int .i64 16, .int .i64 69643]) := by simpa [glbs] using hp
  subst hp'
  split at hvar
  · rename_i c t2 fz2 h1
    obtain rfl := Option.some.inj hvar
    exact ⟨(Array.getElem?_eq_some_iff.1 h1).1, by simp, _, _, h1⟩
  · cases hvar
set_option maxHeartbeats 4000000 in
set_option maxRecDepth 100000 in
theorem lifted (os : Os) (started : os.Started) (H : Type) (enc : TypeId × Value → H) :
    ReturnsInHanded {} Tryz.checked os 5 .any (fun w args => (Rows.changeRepacksAsSpecifiedSpec.pre enc Tryz.prog Tryz.f5 Rows.changeRepacksAsSpecifiedRow.domain false w args ∧ laidMet Tryz.prog Rows.changeRepacksAsSpecifiedRow.laid w) ∧ sizedMet enc Tryz.prog Tryz.f5 (OpenSpec.ofChange Rows.changeRepacksAsSpecifiedSpec) false w args)
      (Rows.changeRepacksAsSpecifiedSpec.post enc Tryz.prog Tryz.f5 false true false false) := by
  refine returnsInHanded_of_change_and (C := Tryz.checked) (X := fun w _ => laidMet Tryz.prog Rows.changeRepacksAsSpecifiedRow.laid w) (fun _ _ _ hh h => h.of_heap hh) own started (by kernel_rfl) Tryz.func5
    (ChangeSpec.witness_at (enc := enc) (C := Tryz.checked) (os := os) (X := fun w _ => laidMet Tryz.prog Rows.changeRepacksAsSpecifiedRow.laid w) false (limWorld os) #[.agg #[.string ⟨#[]⟩, .int .i64 0, .int .i64 0, .slice none 0 0, .int .i64 0], .slice none 0 0] 8 rfl (by kernel_rfl) (by kernel_rfl) (by kernel_rfl) (by kernel_rfl) (by kernel_rfl) (laid_met os _)) ?_
  intro W base args ds gs before hval0 hW hcnd0 hsz hL _
  have hglb := glb_of_laid hL
  have hval : ∀ (j : Nat) t v, Tryz.f5.params[j]? = some t → args[j]? = some v → Value.okWide Tryz.prog W .any base t v := hval0
  have hW' := hW
  obtain ⟨p, q, hA0, hV, rfl, hfz, hnd⟩ := hW
  have hA : DataW.TrodAll enc Tryz.prog W 0 (fun _ => true) true Tryz.f5.params.toList args.toList ds p := hA0
  rw [Tryz.params5] at hA hval hsz
  obtain ⟨v0, vs0, d0, ds0, p0, q0, hargs, rfl, rfl, h0, r0⟩ := trodAll_cons hA
  obtain ⟨v1, vs1, d1, ds1, p1, q1, rfl, rfl, rfl, h1, r1⟩ := trodAll_cons r0
  obtain ⟨rfl, rfl, rfl⟩ := trodAll_nil r1
  obtain rfl : args = #[v0, v1] := by cases args; simp_all
  obtain ⟨rfl, rfl⟩ := trodVars_none hV
  have k0 := h0
  have lt0 : ∀ x ∈ p0, x.block < W.heap.size := by obtain ⟨m, hm⟩ := k0; exact DataW.trod_lt m _ _ _ hm
  have k1 := h1
  have lt1 : ∀ x ∈ p1, x.block < W.heap.size := by obtain ⟨m, hm⟩ := k1; exact DataW.trod_lt m _ _ _ hm
  obtain ⟨cs0, rfl, hsz0⟩ := okWide_struct Tryz.underlying28 (hval 0 28 v0 rfl rfl)
  obtain ⟨l0⟩ := cs0
  obtain ⟨x0, b0, s0⟩ := opens_agg (opens_all Tryz.underlying28 cells_solvent_api_Code (opens_toS 4 Tryz.underlying28 (opens_toS 3 Tryz.underlying28 (opens_toS 2 Tryz.underlying28 (opens_toS 1 Tryz.underlying28 (opens_toS 0 Tryz.underlying28 opens_to0 rfl rfl cells_string (by rw [cells_solvent_api_Code]; decide) (opens_string Tryz.underlying9)) rfl rfl cells_int (by rw [cells_solvent_api_Code]; decide) (opens_int Tryz.underlying3)) rfl rfl cells_int (by rw [cells_solvent_api_Code]; decide) (opens_int Tryz.underlying3)) rfl rfl cells_sl_sl_int (by rw [cells_solvent_api_Code]; decide) (opens_slice Tryz.underlying26 cells_sl_int (by decide) (opens_slice Tryz.underlying42 cells_int (by decide) (opens_int Tryz.underlying3)))) rfl rfl cells_int (by rw [cells_solvent_api_Code]; decide) (opens_int Tryz.underlying3))) rfl h0
  obtain ⟨x1, b1, s1⟩ := opens_arg (opens_slice Tryz.underlying52 cells_solvent_api_Source (by decide) (opens_map (opens_all Tryz.underlying98 cells_solvent_api_Source (opens_toS 3 Tryz.underlying98 (opens_toS 2 Tryz.underlying98 (opens_toS 1 Tryz.underlying98 (opens_toS 0 Tryz.underlying98 opens_to0 rfl rfl cells_solvent_api_Code (by rw [cells_solvent_api_Source]; decide) (opens_all Tryz.underlying28 cells_solvent_api_Code (opens_toS 4 Tryz.underlying28 (opens_toS 3 Tryz.underlying28 (opens_toS 2 Tryz.underlying28 (opens_toS 1 Tryz.underlying28 (opens_toS 0 Tryz.underlying28 opens_to0 rfl rfl cells_string (by rw [cells_solvent_api_Code]; decide) (opens_string Tryz.underlying9)) rfl rfl cells_int (by rw [cells_solvent_api_Code]; decide) (opens_int Tryz.underlying3)) rfl rfl cells_int (by rw [cells_solvent_api_Code]; decide) (opens_int Tryz.underlying3)) rfl rfl cells_sl_sl_int (by rw [cells_solvent_api_Code]; decide) (opens_slice Tryz.underlying26 cells_sl_int (by decide) (opens_slice Tryz.underlying42 cells_int (by decide) (opens_int Tryz.underlying3)))) rfl rfl cells_int (by rw [cells_solvent_api_Code]; decide) (opens_int Tryz.underlying3)))) rfl rfl cells_sl_string (by rw [cells_solvent_api_Source]; decide) (opens_slice Tryz.underlying96 cells_string (by decide) (opens_string Tryz.underlying9))) rfl rfl cells_sl_bool (by rw [cells_solvent_api_Source]; decide) (opens_slice Tryz.underlying44 cells_bool (by decide) (opens_bool Tryz.underlying4))) rfl rfl cells_sl_int (by rw [cells_solvent_api_Source]; decide) (opens_slice Tryz.underlying42 cells_int (by decide) (opens_int Tryz.underlying3)))) (fun a => (((a.1.1.1.2.1.1.1.1.2, a.1.1.1.2.1.1.1.2, a.1.1.1.2.1.1.2, a.1.1.1.2.1.2, a.1.1.1.2.2), a.1.1.2, a.1.2, a.2) : Sr)) (g := srD) (okg := SrB) (fun a h => ⟨rfl, ⟨⟨fun r hr x hx => ((h.1.1.1.2.1.2.1 r hr).1 x hx).2⟩, fun x hx => ⟨(h.1.1.2.1 x hx).1, Nat.lt_succ_of_le (h.1.1.2.1 x hx).2⟩⟩⟩))) (cells_sl Tryz.underlying52 (hval 1 52 v1 rfl rfl)) h1
  clear hA0 hval0
  have hmx : maxLen = 9223372036854775807 := rfl
  have hA := A_repacksAs (tc := (x0.1.1.1.1.2, x0.1.1.1.2, x0.1.1.2, x0.1.2, x0.2)) (ss := x1) ⟨fun r hr x hx => ((b0.1.2.1 r hr).1 x hx).2⟩ b1.1 b1.2
  have hs : AV.satL (fun _ => False) [] [] W [cdF x0.1.1.1.1.2 x0.1.1.1.2 x0.1.1.2 x0.1.2 x0.2, srcs x1] [.agg l0.toArray, v1] := by
    exact (satL_cons s0 (satL_cons s1 satL_nil))
  have hc := calls_of_acalls hA [.agg l0.toArray, v1] W hglb hs
  have hd : Calls Tryz.prog 5 #[.agg l0.toArray, v1] W fun e w' => e = .returned (.bool true) ∧ Below W.heap.size W w' := hc
  refine hd.mono fun e W' ⟨he, bel⟩ => ?_
  subst he
  exact ⟨_, rfl, _, _, _, [], _, [], hW', trodAll_mk1 (shut_bool Tryz.underlying4 _), (trodAll_cons_mk (Below.trod laidOut (by kernel_rfl) (of_decide_eq_true (by kernel_rfl)) k0 bel lt0) (trodAll_cons_mk (Below.trod laidOut (by kernel_rfl) (of_decide_eq_true (by kernel_rfl)) k1 bel lt1) trodAll_mk0)), rfl, bel.frame _, fun h => by cases h⟩
theorem over : Rows.changeRepacksAsSpecifiedRow.holds Tryz.pinned (OpenSpec.ofChange Rows.changeRepacksAsSpecifiedSpec) :=
  OpenClaim.holds_of_wide 5 Tryz.f5 rfl rfl rfl rfl rfl rfl rfl ⟨rfl, rfl, rfl, rfl, rfl⟩ rfl rfl rfl rfl rfl (by kernel_rfl) Tryz.func5 (by kernel_rfl)
    (of_decide_eq_true (by kernel_rfl)) (by unfold Func.isWrapper; first | (rw [if_pos (by decide +kernel)]; kernel_rfl) | (rw [if_neg (by decide +kernel)]; exact ⟨rfl, rfl⟩))
    (fun os started H enc _ => lifted os started H enc)
theorem proved : Rows.ChangeRepacksAsSpecifiedCardSaid :=
  Claim7.holds_tied_plain_at .later [] _ _ _ _
    over (fun _ h => by cases h) (by kernel_rfl) (fun _ h => by cases h) changeRepacksAsSpecified_row_tie rfl ⟨rfl, rfl⟩ (by kernel_rfl) rfl
    (fun f fn hf hfn => by
      obtain rfl : f = 5 := Option.some.inj ((show Tryz.prog.funcNamed "solvent/solventlaw39.ChangeRepacksAsSpecified" = some 5 by kernel_rfl).symm.trans hf) |>.symm
      obtain rfl : fn = Tryz.f5 := (Option.some.inj (Tryz.func5.symm.trans hfn)).symm
      exact ⟨by kernel_rfl, fun j t ht => by
        rw [Tryz.params5] at ht
        rcases j with _ | _ | j
        · obtain rfl : 28 = t := by simpa using ht
          kernel_rfl
        · obtain rfl : 52 = t := by simpa using ht
          kernel_rfl
        · simp at ht⟩)
    (by kernel_rfl)
#print axioms proved
end Go.Proofs.YtaclmbbiegklcaaGreatDoor.changeRepacksAsSpecifiedP
