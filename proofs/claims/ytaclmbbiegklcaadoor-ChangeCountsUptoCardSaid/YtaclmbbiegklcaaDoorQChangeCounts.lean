import Derived.Test.YtaclmbbiegklcaaDoorRows
import Derived.Test.YtaclmbbiegklcaaDoorCards
import Derived.Test.YtaclmbbiegklcaaDoorTie
import Derived.Deep.DeepHandedRow
import Derived.Lib.LaidTab
import Derived.Test.YtaclmbbiegklcaaDoorMChangeCounts5
namespace Go.Proofs.YtaclmbbiegklcaaDoor.changeCountsP
open Go.ChangeShapes Go.WideShapes Go.ChangeAt Go.RowKit
set_option linter.unusedVariables false
set_option linter.unusedSimpArgs false
theorem own : ownKnob Tryd.prog.godebug = none := by kernel_rfl
theorem laidOut : laidOutB Tryd.prog = true := by kernel_rfl
theorem gName : Tryd.prog.globalNamed "solvent/field.fields" = some 0 := by kernel_rfl
theorem cells_bool : Tryd.prog.cellsOf 4 = 1 := by kernel_rfl
theorem cells_int : Tryd.prog.cellsOf 3 = 1 := by kernel_rfl
theorem cells_sl_api_Source : Tryd.prog.cellsOf 64 = 1 := by kernel_rfl
theorem cells_sl_bool : Tryd.prog.cellsOf 45 = 1 := by kernel_rfl
theorem cells_sl_int : Tryd.prog.cellsOf 40 = 1 := by kernel_rfl
theorem cells_sl_sl_int : Tryd.prog.cellsOf 26 = 1 := by kernel_rfl
theorem cells_sl_string : Tryd.prog.cellsOf 73 = 1 := by kernel_rfl
theorem cells_solvent_api_Code : Tryd.prog.cellsOf 28 = 5 := by kernel_rfl
theorem cells_solvent_api_Source : Tryd.prog.cellsOf 75 = 8 := by kernel_rfl
theorem cells_string : Tryd.prog.cellsOf 9 = 1 := by kernel_rfl
noncomputable def limWorld (os : Os) : World :=
  let w0 := World.holding Tryd.prog os ⟨#[], #[], []⟩
  { w0 with heap := w0.heap.modify 0 fun
      | .cells _ t frozen => .cells #[.int .i64 8, .int .i64 285, .int .i64 16, .int .i64 69643] t frozen
      | o => o }
theorem laid_met (os : Os) (args : Array Value) : laidMet Tryd.prog Rows.changeCountsUptoRow.laid ((limWorld os).forCall (fun _ _ => 0) ⟨#[], args, []⟩).memory :=
  laidMet_of_run (ps := [.cell 0 0, .cell 0 1, .cell 0 2, .cell 0 3]) 8 (by kernel_rfl) (by kernel_rfl) (by kernel_rfl)
theorem glb_of_laid {W : World} (h : laidMet Tryd.prog Rows.changeCountsUptoRow.laid W) : ∀ p ∈ glbs, p.1 < W.heap.size ∧ some p.1 ∉ ([] : List (Option Nat)) ∧ ∃ t fz, W.heap[p.1]? = some (.cells p.2 t fz) := by
  obtain ⟨ps, ⟨g, t, cs, fuel, p, q, hg, ht, hvar, hd, _, _⟩, _⟩ := h
  obtain rfl := Option.some.inj (gName.symm.trans hg)
  have ht2 : t = 224 := (Option.some.inj ((show (Tryd.prog.globals[0]?).map (·.type) = some 224 by kernel_rfl).symm.trans ht)).symm
  subst ht2
  have hcs : cs = #[.int .i64 8, .int .i64 285, .int .i64 16, .int .i64 69643] := fields_cells hd
  subst hcs
  unfold World.var? at hvar
  rw [gName] at hvar
  simp only [Option.bind_some] at hvar
  intro p hp
  have hp' : p = (0, #[.int .i64 8, .int .i64 285, .int .i64 16, .int .i64 69643]) := by simpa [glbs] using hp
  subst hp'
  split at hvar
  · rename_i c t2 fz2 h1
    obtain rfl := Option.some.inj hvar
    exact ⟨(Array.getElem?_eq_some_iff.1 h1).1, by simp, _, _, h1⟩
  · cases hvar
set_option maxHeartbeats 4000000 in
set_option maxRecDepth 100000 in
theorem lifted (os : Os) (started : os.Started) (H : Type) (enc : TypeId × Value → H) (F : Stop.Interp) :
    ReturnsInHanded {} Tryd.checked os 10 .any ((Rows.OpenSpec.upto Rows.changeCountsSpec).preRow enc Tryd.prog Tryd.f10 Rows.changeCountsUptoRow.domain false Rows.changeCountsUptoRow.laid) (((Rows.OpenSpec.upto Rows.changeCountsSpec).at F).post enc Tryd.prog Tryd.f10 false true false false) := by
  have hx : ∃ places, DataW.whole enc Tryd.prog ((limWorld os).forCall (fun _ _ => 0) ⟨#[], #[.agg #[.string ⟨#[]⟩, .int .i64 0, .int .i64 0, .slice none 0 0, .int .i64 0], .slice none 0 0], []⟩).memory Tryd.f10.params.toList Rows.changeCountsSpec.vars false #[.agg #[.string ⟨#[]⟩, .int .i64 0, .int .i64 0, .slice none 0 0, .int .i64 0], .slice none 0 0].toList 8 = some ([.agg [.lit (.string []), .lit (.int .i64 0), .lit (.int .i64 0), .nil, .lit (.int .i64 0)], .nil], [], places) := ⟨[], by kernel_rfl⟩
  obtain ⟨places, hx⟩ := hx
  refine returnsInHanded_of_row (C := Tryd.checked) (s := (Rows.OpenSpec.upto Rows.changeCountsSpec)) own started (by kernel_rfl) Tryd.func10
    (witness_row_at (enc := enc) (C := Tryd.checked) false (limWorld os) #[.agg #[.string ⟨#[]⟩, .int .i64 0, .int .i64 0, .slice none 0 0, .int .i64 0], .slice none 0 0] rfl (by kernel_rfl) (by kernel_rfl) (by kernel_rfl)
      (OpenSpec.preRow_of_cond 8 hx (by kernel_rfl) (fun k hk => by cases hk; kernel_rfl) (by kernel_rfl) (laid_met os _))) ?_
  intro W base args ds gs before hval0 hW hcnd0 hcond hsz hL0 _ _
  have hL : laidMet Tryd.prog Rows.changeCountsUptoRow.laid W := hL0
  have hglb := glb_of_laid hL
  have hval : ∀ (j : Nat) t v, Tryd.f10.params[j]? = some t → args[j]? = some v → Value.okWide Tryd.prog W .any base t v := hval0
  have hW' := hW
  obtain ⟨p, q, hA0, hV, rfl, hfz, hnd⟩ := hW
  have hA : DataW.TrodAll enc Tryd.prog W 0 (fun _ => true) true Tryd.f10.params.toList args.toList ds p := hA0
  rw [Tryd.params10] at hA hval
  obtain ⟨v0, vs0, d0, ds0, p0, q0, hargs, rfl, rfl, h0, r0⟩ := trodAll_cons hA
  obtain ⟨v1, vs1, d1, ds1, p1, q1, rfl, rfl, rfl, h1, r1⟩ := trodAll_cons r0
  obtain ⟨rfl, rfl, rfl⟩ := trodAll_nil r1
  obtain rfl : args = #[v0, v1] := by cases args; simp_all
  obtain ⟨rfl, rfl⟩ := trodVars_none hV
  have hk : Rows.uptoBulkAll ([d0, d1] ++ []) ≤ 1048576 := of_decide_eq_true (hcond _ rfl)
  simp only [List.append_nil, Rows.uptoBulkAll] at hk
  have k0 := h0
  have lt0 : ∀ x ∈ p0, x.block < W.heap.size := by obtain ⟨m, hm⟩ := k0; exact DataW.trod_lt m _ _ _ hm
  have k1 := h1
  have lt1 : ∀ x ∈ p1, x.block < W.heap.size := by obtain ⟨m, hm⟩ := k1; exact DataW.trod_lt m _ _ _ hm
  obtain ⟨cs0, rfl, hsz0⟩ := okWide_struct Tryd.underlying28 (hval 0 28 v0 rfl rfl)
  obtain ⟨l0⟩ := cs0
  obtain ⟨x0, b0, s0⟩ := opens_agg (opens_all Tryd.underlying28 cells_solvent_api_Code (opens_toS 4 Tryd.underlying28 (opens_toS 3 Tryd.underlying28 (opens_toS 2 Tryd.underlying28 (opens_toS 1 Tryd.underlying28 (opens_toS 0 Tryd.underlying28 opens_to0 rfl rfl cells_string (by rw [cells_solvent_api_Code]; decide) (opens_string Tryd.underlying9)) rfl rfl cells_int (by rw [cells_solvent_api_Code]; decide) (opens_int Tryd.underlying3)) rfl rfl cells_int (by rw [cells_solvent_api_Code]; decide) (opens_int Tryd.underlying3)) rfl rfl cells_sl_sl_int (by rw [cells_solvent_api_Code]; decide) (opens_slice Tryd.underlying26 cells_sl_int (by decide) (opens_slice Tryd.underlying40 cells_int (by decide) (opens_int Tryd.underlying3)))) rfl rfl cells_int (by rw [cells_solvent_api_Code]; decide) (opens_int Tryd.underlying3))) rfl h0
  obtain ⟨x1, ⟨b1, w1⟩, s1⟩ := opensW_arg (opensW_slice Tryd.underlying64 cells_solvent_api_Source (by decide) (opensW_map (opensW_all Tryd.underlying75 cells_solvent_api_Source (opensW_toS 3 Tryd.underlying75 (opensW_toS 2 Tryd.underlying75 (opensW_toS 1 Tryd.underlying75 (opensW_toS 0 Tryd.underlying75 opensW_to0 rfl rfl cells_solvent_api_Code (by rw [cells_solvent_api_Source]; decide) (opensW_of (opens_all Tryd.underlying28 cells_solvent_api_Code (opens_toS 4 Tryd.underlying28 (opens_toS 3 Tryd.underlying28 (opens_toS 2 Tryd.underlying28 (opens_toS 1 Tryd.underlying28 (opens_toS 0 Tryd.underlying28 opens_to0 rfl rfl cells_string (by rw [cells_solvent_api_Code]; decide) (opens_string Tryd.underlying9)) rfl rfl cells_int (by rw [cells_solvent_api_Code]; decide) (opens_int Tryd.underlying3)) rfl rfl cells_int (by rw [cells_solvent_api_Code]; decide) (opens_int Tryd.underlying3)) rfl rfl cells_sl_sl_int (by rw [cells_solvent_api_Code]; decide) (opens_slice Tryd.underlying26 cells_sl_int (by decide) (opens_slice Tryd.underlying40 cells_int (by decide) (opens_int Tryd.underlying3)))) rfl rfl cells_int (by rw [cells_solvent_api_Code]; decide) (opens_int Tryd.underlying3))))) rfl rfl cells_sl_string (by rw [cells_solvent_api_Source]; decide) (opensW_slice Tryd.underlying73 cells_string (by decide) (opensW_of (opens_string Tryd.underlying9)))) rfl rfl cells_sl_bool (by rw [cells_solvent_api_Source]; decide) (opensW_slice Tryd.underlying45 cells_bool (by decide) (opensW_of (opens_bool Tryd.underlying4)))) rfl rfl cells_sl_int (by rw [cells_solvent_api_Source]; decide) (opensW_slice Tryd.underlying40 cells_int (by decide) (opensW_of (opens_int Tryd.underlying3))))) (fun a => (((a.1.1.1.2.1.1.1.1.2, a.1.1.1.2.1.1.1.2, a.1.1.1.2.1.1.2, a.1.1.1.2.1.2, a.1.1.1.2.2), a.1.1.2, a.1.2, a.2) : Sr)) (g := srD) (okg := SrB) (wg := wtSr) (fun a h => ⟨(fun a h => ⟨rfl, ⟨⟨fun r hr x hx => ((h.1.1.1.2.1.2.1 r hr).1 x hx).2⟩, fun x hx => ⟨(h.1.1.2.1 x hx).1, Nat.lt_succ_of_le (h.1.1.2.1 x hx).2⟩⟩⟩) a h, (by dsimp only [wtSr]; simp only [sum_one]; omega)⟩))) (cells_sl Tryd.underlying64 (hval 1 64 v1 rfl rfl)) h1
  clear hA0 hval0
  have hmx : maxLen = 9223372036854775807 := rfl
  have hA := A_changeCounts (tc := (x0.1.1.1.1.2, x0.1.1.1.2, x0.1.1.2, x0.1.2, x0.2)) (ss := x1) (rep_of_wt ⟨fun r hr x hx => ((b0.1.2.1 r hr).1 x hx).2⟩ b1.1 (Nat.le_trans w1 (by omega)))
  have hs : AV.satL (fun _ => False) [] [] W [cdF x0.1.1.1.1.2 x0.1.1.1.2 x0.1.1.2 x0.1.2 x0.2, srcs x1] [.agg l0.toArray, v1] := by
    exact (satL_cons s0 (satL_cons s1 satL_nil))
  have hc := calls_of_acalls hA [.agg l0.toArray, v1] W hglb hs
  have hd : Calls Tryd.prog 10 #[.agg l0.toArray, v1] W fun e w' => e = .returned (.bool true) ∧ Below W.heap.size W w' := hc
  refine hd.mono fun e W' ⟨he, bel⟩ => ?_
  subst he
  exact ⟨_, rfl, _, _, _, [], _, [], hW', trodAll_mk1 (shut_bool Tryd.underlying4 _), (trodAll_cons_mk (Below.trod laidOut (by kernel_rfl) (of_decide_eq_true (by kernel_rfl)) k0 bel lt0) (trodAll_cons_mk (Below.trod laidOut (by kernel_rfl) (of_decide_eq_true (by kernel_rfl)) k1 bel lt1) trodAll_mk0)), rfl, bel.frame _, fun h => by cases h⟩
theorem over : Rows.changeCountsUptoRow.holds Tryd.pinned (Rows.OpenSpec.upto Rows.changeCountsSpec) :=
  OpenClaim.holds_of_cond 10 Tryd.f10 rfl rfl rfl rfl rfl rfl rfl ⟨rfl, rfl, rfl, rfl, rfl⟩ rfl rfl rfl rfl rfl (by kernel_rfl) Tryd.func10 (by kernel_rfl)
    (of_decide_eq_true (by kernel_rfl)) (by unfold Func.isWrapper; first | (rw [if_pos (by decide +kernel)]; kernel_rfl) | (rw [if_neg (by decide +kernel)]; exact ⟨rfl, rfl⟩))
    (fun os started H enc _ F => by rw [OpenClaim.pre_eq_preRow]; exact lifted os started H enc F)
theorem proved : Rows.ChangeCountsUptoCardSaid :=
  Claim7.holds_tied_plain_at .later [] _ _ _ _
    over (fun _ h => by cases h) (by kernel_rfl) (fun _ h => by cases h) changeCountsUpto_row_tie rfl ⟨rfl, rfl⟩ (by kernel_rfl) rfl
    (fun f fn hf hfn => by
      obtain rfl : f = 10 := Option.some.inj ((show Tryd.prog.funcNamed "solvent/solventlaw39.ChangeCounts" = some 10 by kernel_rfl).symm.trans hf) |>.symm
      obtain rfl : fn = Tryd.f10 := (Option.some.inj (Tryd.func10.symm.trans hfn)).symm
      exact ⟨by kernel_rfl, fun j t ht => by
        rw [Tryd.params10] at ht
        rcases j with _ | _ | j
        · obtain rfl : 28 = t := by simpa using ht
          kernel_rfl
        · obtain rfl : 64 = t := by simpa using ht
          kernel_rfl
        · simp at ht⟩)
    (by kernel_rfl)
#print axioms proved
end Go.Proofs.YtaclmbbiegklcaaDoor.changeCountsP
