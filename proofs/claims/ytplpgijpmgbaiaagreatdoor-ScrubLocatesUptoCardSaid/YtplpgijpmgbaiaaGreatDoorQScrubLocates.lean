import Derived.Test.YtplpgijpmgbaiaaGreatDoorRows
import Derived.Test.YtplpgijpmgbaiaaGreatDoorCards
import Derived.Test.YtplpgijpmgbaiaaGreatDoorTie
import Derived.Deep.DeepHandedRow
import Derived.Lib.LaidTab
import Derived.Test.YtplpgijpmgbaiaaGreatDoorMScrubLocates7
namespace Go.Proofs.YtplpgijpmgbaiaaGreatDoor.scrubLocatesP
open Go.ChangeShapes Go.WideShapes Go.ChangeAt Go.RowKit
set_option linter.unusedVariables false
set_option linter.unusedSimpArgs false
theorem own : ownKnob Tryz.prog.godebug = none := by kernel_rfl
theorem laidOut : laidOutB Tryz.prog = true := by kernel_rfl
theorem gName : Tryz.prog.globalNamed "solvent/field.fields" = some 1 := by kernel_rfl
theorem cells_int : Tryz.prog.cellsOf 3 = 1 := by kernel_rfl
theorem cells_sl_api_Place : Tryz.prog.cellsOf 87 = 1 := by kernel_rfl
theorem cells_sl_int : Tryz.prog.cellsOf 91 = 1 := by kernel_rfl
theorem cells_sl_sl_int : Tryz.prog.cellsOf 64 = 1 := by kernel_rfl
theorem cells_sl_solventlaw40_Hurt : Tryz.prog.cellsOf 115 = 1 := by kernel_rfl
theorem cells_sl_string : Tryz.prog.cellsOf 88 = 1 := by kernel_rfl
theorem cells_solvent_api_Code : Tryz.prog.cellsOf 66 = 5 := by kernel_rfl
theorem cells_solvent_api_Gen : Tryz.prog.cellsOf 83 = 2 := by kernel_rfl
theorem cells_solvent_api_Place : Tryz.prog.cellsOf 81 = 3 := by kernel_rfl
theorem cells_solvent_solventlaw40_Hurt : Tryz.prog.cellsOf 184 = 9 := by kernel_rfl
theorem cells_string : Tryz.prog.cellsOf 9 = 1 := by kernel_rfl
noncomputable def limWorld (os : Os) : World :=
  let w0 := World.holding Tryz.prog os ⟨#[], #[], []⟩
  { w0 with heap := w0.heap.modify 1 fun
      | .cells _ t frozen => .cells #[.int .i64 8, .int .i64 285, .int .i64 16, .int .i64 69643] t frozen
      | o => o }
theorem laid_met (os : Os) (args : Array Value) : laidMet Tryz.prog Rows.scrubLocatesUptoRow.laid ((limWorld os).forCall (fun _ _ => 0) ⟨#[], args, []⟩).memory :=
  laidMet_of_run (ps := [.cell 1 0, .cell 1 1, .cell 1 2, .cell 1 3]) 8 (by kernel_rfl) (by kernel_rfl) (by kernel_rfl)
theorem glb_of_laid {W : World} (h : laidMet Tryz.prog Rows.scrubLocatesUptoRow.laid W) : ∀ p ∈ glbs, p.1 < W.heap.size ∧ some p.1 ∉ ([] : List (Option Nat)) ∧ ∃ t fz, W.heap[p.1]? = some (.cells p.2 t fz) := by
  obtain ⟨ps, ⟨g, t, cs, fuel, p, q, hg, ht, hvar, hd, _, _⟩, _⟩ := h
  obtain rfl := Option.some.inj (gName.symm.trans hg)
  have ht2 : t = 342 := (Option.some.inj ((show (Tryz.prog.globals[1]?).map (·.type) = some 342 by kernel_rfl).symm.trans ht)).symm
  subst ht2
  have hcs : cs = #[.int .i64 8, .int .i64 285, .int .i64 16, .int .i64 69643] := fields_cells hd
  subst hcs
  unfold World.var? at hvar
  rw [gName] at hvar
  simp only [Option.bind_some] at hvar
  intro p hp
  have hp' : p = (1, #[.int .i64 8, .int .i64 285, .int .i64 16, .int .i64 69643]) := by simpa [glbs] using hp
  subst hp'
  split at hvar
  · rename_i c t2 fz2 h1
    obtain rfl := Option.some.inj hvar
    exact ⟨(Array.getElem?_eq_some_iff.1 h1).1, by simp, _, _, h1⟩
  · cases hvar
set_option maxHeartbeats 4000000 in
set_option maxRecDepth 100000 in
theorem lifted (os : Os) (started : os.Started) (H : Type) (enc : TypeId × Value → H) (F : Stop.Interp) :
    ReturnsInHanded {} Tryz.checked os 13 .any ((Rows.OpenSpec.upto Rows.scrubLocatesSpec).preRow enc Tryz.prog Tryz.f13 Rows.scrubLocatesUptoRow.domain false Rows.scrubLocatesUptoRow.laid) (((Rows.OpenSpec.upto Rows.scrubLocatesSpec).at F).post enc Tryz.prog Tryz.f13 false true false false) := by
  have hx : ∃ places, DataW.whole enc Tryz.prog ((limWorld os).forCall (fun _ _ => 0) ⟨#[], #[.agg #[.string ⟨#[]⟩, .int .i64 0, .int .i64 0, .slice none 0 0, .int .i64 0], .slice none 0 0, .slice none 0 0, .agg #[.int .i64 0, .int .i64 0], .slice none 0 0, .int .i64 0, .string ⟨#[]⟩], []⟩).memory Tryz.f13.params.toList Rows.scrubLocatesSpec.vars false #[.agg #[.string ⟨#[]⟩, .int .i64 0, .int .i64 0, .slice none 0 0, .int .i64 0], .slice none 0 0, .slice none 0 0, .agg #[.int .i64 0, .int .i64 0], .slice none 0 0, .int .i64 0, .string ⟨#[]⟩].toList 8 = some ([.agg [.lit (.string []), .lit (.int .i64 0), .lit (.int .i64 0), .nil, .lit (.int .i64 0)], .nil, .nil, .agg [.lit (.int .i64 0), .lit (.int .i64 0)], .nil, .lit (.int .i64 0), .lit (.string [])], [], places) := ⟨[], by kernel_rfl⟩
  obtain ⟨places, hx⟩ := hx
  refine returnsInHanded_of_row (C := Tryz.checked) (s := (Rows.OpenSpec.upto Rows.scrubLocatesSpec)) own started (by kernel_rfl) Tryz.func13
    (witness_row_at (enc := enc) (C := Tryz.checked) false (limWorld os) #[.agg #[.string ⟨#[]⟩, .int .i64 0, .int .i64 0, .slice none 0 0, .int .i64 0], .slice none 0 0, .slice none 0 0, .agg #[.int .i64 0, .int .i64 0], .slice none 0 0, .int .i64 0, .string ⟨#[]⟩] rfl (by kernel_rfl) (by kernel_rfl) (by kernel_rfl)
      (OpenSpec.preRow_of_cond 8 hx (by kernel_rfl) (fun k hk => by cases hk; kernel_rfl) (by kernel_rfl) (laid_met os _))) ?_
  intro W base args ds gs before hval0 hW hcnd0 hcond hsz hL0 _ _
  have hL : laidMet Tryz.prog Rows.scrubLocatesUptoRow.laid W := hL0
  have hglb := glb_of_laid hL
  have hval : ∀ (j : Nat) t v, Tryz.f13.params[j]? = some t → args[j]? = some v → Value.okWide Tryz.prog W .any base t v := hval0
  have hW' := hW
  obtain ⟨p, q, hA0, hV, rfl, hfz, hnd⟩ := hW
  have hA : DataW.TrodAll enc Tryz.prog W 0 (fun _ => true) true Tryz.f13.params.toList args.toList ds p := hA0
  rw [Tryz.params13] at hA hval
  obtain ⟨v0, vs0, d0, ds0, p0, q0, hargs, rfl, rfl, h0, r0⟩ := trodAll_cons hA
  obtain ⟨v1, vs1, d1, ds1, p1, q1, rfl, rfl, rfl, h1, r1⟩ := trodAll_cons r0
  obtain ⟨v2, vs2, d2, ds2, p2, q2, rfl, rfl, rfl, h2, r2⟩ := trodAll_cons r1
  obtain ⟨v3, vs3, d3, ds3, p3, q3, rfl, rfl, rfl, h3, r3⟩ := trodAll_cons r2
  obtain ⟨v4, vs4, d4, ds4, p4, q4, rfl, rfl, rfl, h4, r4⟩ := trodAll_cons r3
  obtain ⟨v5, vs5, d5, ds5, p5, q5, rfl, rfl, rfl, h5, r5⟩ := trodAll_cons r4
  obtain ⟨v6, vs6, d6, ds6, p6, q6, rfl, rfl, rfl, h6, r6⟩ := trodAll_cons r5
  obtain ⟨rfl, rfl, rfl⟩ := trodAll_nil r6
  obtain rfl : args = #[v0, v1, v2, v3, v4, v5, v6] := by cases args; simp_all
  obtain ⟨rfl, rfl⟩ := trodVars_none hV
  have hk : Rows.uptoBulkAll ([d0, d1, d2, d3, d4, d5, d6] ++ []) ≤ 1048576 := of_decide_eq_true (hcond _ rfl)
  simp only [List.append_nil, Rows.uptoBulkAll] at hk
  have k0 := h0
  have lt0 : ∀ x ∈ p0, x.block < W.heap.size := by obtain ⟨m, hm⟩ := k0; exact DataW.trod_lt m _ _ _ hm
  have k1 := h1
  have lt1 : ∀ x ∈ p1, x.block < W.heap.size := by obtain ⟨m, hm⟩ := k1; exact DataW.trod_lt m _ _ _ hm
  have k2 := h2
  have lt2 : ∀ x ∈ p2, x.block < W.heap.size := by obtain ⟨m, hm⟩ := k2; exact DataW.trod_lt m _ _ _ hm
  have k3 := h3
  have lt3 : ∀ x ∈ p3, x.block < W.heap.size := by obtain ⟨m, hm⟩ := k3; exact DataW.trod_lt m _ _ _ hm
  have k4 := h4
  have lt4 : ∀ x ∈ p4, x.block < W.heap.size := by obtain ⟨m, hm⟩ := k4; exact DataW.trod_lt m _ _ _ hm
  have k5 := h5
  have lt5 : ∀ x ∈ p5, x.block < W.heap.size := by obtain ⟨m, hm⟩ := k5; exact DataW.trod_lt m _ _ _ hm
  have k6 := h6
  have lt6 : ∀ x ∈ p6, x.block < W.heap.size := by obtain ⟨m, hm⟩ := k6; exact DataW.trod_lt m _ _ _ hm
  obtain ⟨cs0, rfl, hsz0⟩ := okWide_struct Tryz.underlying66 (hval 0 66 v0 rfl rfl)
  obtain ⟨l0⟩ := cs0
  obtain ⟨x0, b0, s0⟩ := opens_agg (opens_all Tryz.underlying66 cells_solvent_api_Code (opens_toS 4 Tryz.underlying66 (opens_toS 3 Tryz.underlying66 (opens_toS 2 Tryz.underlying66 (opens_toS 1 Tryz.underlying66 (opens_toS 0 Tryz.underlying66 opens_to0 rfl rfl cells_string (by rw [cells_solvent_api_Code]; decide) (opens_string Tryz.underlying9)) rfl rfl cells_int (by rw [cells_solvent_api_Code]; decide) (opens_int Tryz.underlying3)) rfl rfl cells_int (by rw [cells_solvent_api_Code]; decide) (opens_int Tryz.underlying3)) rfl rfl cells_sl_sl_int (by rw [cells_solvent_api_Code]; decide) (opens_slice Tryz.underlying64 cells_sl_int (by decide) (opens_slice Tryz.underlying91 cells_int (by decide) (opens_int Tryz.underlying3)))) rfl rfl cells_int (by rw [cells_solvent_api_Code]; decide) (opens_int Tryz.underlying3))) rfl h0
  obtain ⟨x1, ⟨b1, w1⟩, s1⟩ := opensW_arg (opensW_slice Tryz.underlying88 cells_string (by decide) (opensW_string Tryz.underlying9)) (cells_sl Tryz.underlying88 (hval 1 88 v1 rfl rfl)) h1
  obtain ⟨x2, b2, s2⟩ := opens_arg (opens_slice Tryz.underlying87 cells_solvent_api_Place (by decide) (opens_map (opens_all Tryz.underlying81 cells_solvent_api_Place (opens_toS 2 Tryz.underlying81 (opens_toS 1 Tryz.underlying81 (opens_toS 0 Tryz.underlying81 opens_to0 rfl rfl cells_int (by rw [cells_solvent_api_Place]; decide) (opens_int Tryz.underlying3)) rfl rfl cells_int (by rw [cells_solvent_api_Place]; decide) (opens_int Tryz.underlying3)) rfl rfl cells_int (by rw [cells_solvent_api_Place]; decide) (opens_int Tryz.underlying3))) (fun a => ((a.1.1.2, a.1.2, a.2) : Pl)) (g := pcD) (okg := fun _ => True) (fun a h => ⟨rfl, trivial⟩))) (cells_sl Tryz.underlying87 (hval 2 87 v2 rfl rfl)) h2
  obtain ⟨cs3, rfl, hsz3⟩ := okWide_struct Tryz.underlying83 (hval 3 83 v3 rfl rfl)
  obtain ⟨l3⟩ := cs3
  obtain ⟨x3, b3, s3⟩ := opens_agg (opens_all Tryz.underlying83 cells_solvent_api_Gen (opens_toS 1 Tryz.underlying83 (opens_toS 0 Tryz.underlying83 opens_to0 rfl rfl cells_int (by rw [cells_solvent_api_Gen]; decide) (opens_int Tryz.underlying3)) rfl rfl cells_int (by rw [cells_solvent_api_Gen]; decide) (opens_int Tryz.underlying3))) rfl h3
  obtain ⟨x4, b4, s4⟩ := opens_arg (opens_slice Tryz.underlying115 cells_solvent_solventlaw40_Hurt (by decide) (opens_map (opens_all Tryz.underlying184 cells_solvent_solventlaw40_Hurt (opens_toS 5 Tryz.underlying184 (opens_toS 4 Tryz.underlying184 (opens_toS 3 Tryz.underlying184 (opens_toS 2 Tryz.underlying184 (opens_toS 1 Tryz.underlying184 (opens_toS 0 Tryz.underlying184 opens_to0 rfl rfl cells_int (by rw [cells_solvent_solventlaw40_Hurt]; decide) (opens_int Tryz.underlying3)) rfl rfl cells_int (by rw [cells_solvent_solventlaw40_Hurt]; decide) (opens_int Tryz.underlying3)) rfl rfl cells_solvent_api_Place (by rw [cells_solvent_solventlaw40_Hurt]; decide) (opens_all Tryz.underlying81 cells_solvent_api_Place (opens_toS 2 Tryz.underlying81 (opens_toS 1 Tryz.underlying81 (opens_toS 0 Tryz.underlying81 opens_to0 rfl rfl cells_int (by rw [cells_solvent_api_Place]; decide) (opens_int Tryz.underlying3)) rfl rfl cells_int (by rw [cells_solvent_api_Place]; decide) (opens_int Tryz.underlying3)) rfl rfl cells_int (by rw [cells_solvent_api_Place]; decide) (opens_int Tryz.underlying3)))) rfl rfl cells_solvent_api_Gen (by rw [cells_solvent_solventlaw40_Hurt]; decide) (opens_all Tryz.underlying83 cells_solvent_api_Gen (opens_toS 1 Tryz.underlying83 (opens_toS 0 Tryz.underlying83 opens_to0 rfl rfl cells_int (by rw [cells_solvent_api_Gen]; decide) (opens_int Tryz.underlying3)) rfl rfl cells_int (by rw [cells_solvent_api_Gen]; decide) (opens_int Tryz.underlying3)))) rfl rfl cells_int (by rw [cells_solvent_solventlaw40_Hurt]; decide) (opens_int Tryz.underlying3)) rfl rfl cells_string (by rw [cells_solvent_solventlaw40_Hurt]; decide) (opens_string Tryz.underlying9))) (fun a => ((a.1.1.1.1.1.2, a.1.1.1.1.2, (a.1.1.1.2.1.1.2, a.1.1.1.2.1.2, a.1.1.1.2.2), (a.1.1.2.1.2, a.1.1.2.2), a.1.2, a.2) : Hu)) (g := huD) (okg := HuIn) (fun a h => ⟨rfl, ⟨h.2.1, h.2.2⟩⟩))) (cells_sl Tryz.underlying115 (hval 4 115 v4 rfl rfl)) h4
  obtain ⟨x5, rfl, rfl, rfl, z5⟩ := open_int Tryz.underlying3 (hval 5 3 v5 rfl rfl) h5
  have b5 : -9223372036854775808 ≤ x5 ∧ x5 < 9223372036854775808 := by
    have h1 : IntKind.i64.max = 9223372036854775807 := by decide +kernel
    have h2 : IntKind.i64.min = -9223372036854775808 := by decide +kernel
    have h3 := z5
    simp only [Lit.wf, Bool.and_eq_true, decide_eq_true_eq] at h3
    rw [h1, h2] at h3
    omega
  obtain ⟨x6, b6, s6⟩ := opens_arg (opens_string Tryz.underlying9) (cells_str Tryz.underlying9 (hval 6 9 v6 rfl rfl)) h6
  clear hA0 hval0
  have hmx : maxLen = 9223372036854775807 := rfl
  have hA := (A_scrubLocates (M := x0.1.1.1.2) (D := x0.1.1.2) (un := x5) (par := x0.1.2) (ds := x1) (at' := x2) (g := (x3.1.2, x3.2)) (l := x4) (t := x6) b2.2 b1.2 (fun u hu => ⟨(b1.1 u hu).1, Nat.le_trans (sum_each (b := Rows.uptoBulk d1) w1 u hu) (by omega)⟩) b4.1 b4.2 b6.1 b6.2).le (args' := [cdF x0.1.1.1.1.2 x0.1.1.1.2 x0.1.1.2 x0.1.2 x0.2, strs x1, pcs x2, gnA (x3.1.2, x3.2), hus x4, iV x5, bS x6]) (fun F κ w vs => satL_le1 (fun F own κ w u => cdF_le) F [] κ w vs)
  have hs : AV.satL (fun _ => False) [] [] W [cdF x0.1.1.1.1.2 x0.1.1.1.2 x0.1.1.2 x0.1.2 x0.2, strs x1, pcs x2, gnA (x3.1.2, x3.2), hus x4, iV x5, bS x6] [.agg l0.toArray, v1, v2, .agg l3.toArray, v4, .int .i64 x5, v6] := by
    exact (satL_cons s0 (satL_cons s1 (satL_cons s2 (satL_cons s3 (satL_cons s4 (satL_cons (sat_v.2 rfl) (satL_cons s6 satL_nil)))))))
  have hc := calls_of_acalls hA [.agg l0.toArray, v1, v2, .agg l3.toArray, v4, .int .i64 x5, v6] W hglb hs
  have hd : Calls Tryz.prog 13 #[.agg l0.toArray, v1, v2, .agg l3.toArray, v4, .int .i64 x5, v6] W fun e w' => e = .returned (.bool true) ∧ Below W.heap.size W w' := hc
  refine hd.mono fun e W' ⟨he, bel⟩ => ?_
  subst he
  exact ⟨_, rfl, _, _, _, [], _, [], hW', trodAll_mk1 (shut_bool Tryz.underlying4 _), (trodAll_cons_mk (Below.trod laidOut (by kernel_rfl) (of_decide_eq_true (by kernel_rfl)) k0 bel lt0) (trodAll_cons_mk (Below.trod laidOut (by kernel_rfl) (of_decide_eq_true (by kernel_rfl)) k1 bel lt1) (trodAll_cons_mk (Below.trod laidOut (by kernel_rfl) (of_decide_eq_true (by kernel_rfl)) k2 bel lt2) (trodAll_cons_mk (Below.trod laidOut (by kernel_rfl) (of_decide_eq_true (by kernel_rfl)) k3 bel lt3) (trodAll_cons_mk (Below.trod laidOut (by kernel_rfl) (of_decide_eq_true (by kernel_rfl)) k4 bel lt4) (trodAll_cons_mk (Below.trod laidOut (by kernel_rfl) (of_decide_eq_true (by kernel_rfl)) k5 bel lt5) (trodAll_cons_mk (Below.trod laidOut (by kernel_rfl) (of_decide_eq_true (by kernel_rfl)) k6 bel lt6) trodAll_mk0))))))), rfl, bel.frame _, fun h => by cases h⟩
set_option maxHeartbeats 40000000 in
theorem over : Rows.scrubLocatesUptoRow.holds Tryz.pinned (Rows.OpenSpec.upto Rows.scrubLocatesSpec) :=
  OpenClaim.holds_of_cond 13 Tryz.f13 rfl rfl rfl rfl rfl rfl rfl ⟨rfl, rfl, rfl, rfl, rfl⟩ rfl rfl rfl rfl rfl (by as_aux_lemma => kernel_rfl) Tryz.func13 (by
      unfold joinedFacts
      repeat' (with_reducible refine Bool.and_eq_true_iff.2 ⟨?_, ?_⟩)
      all_goals (as_aux_lemma => kernel_rfl))
    (of_decide_eq_true (by as_aux_lemma => kernel_rfl)) (by unfold Func.isWrapper; first | (rw [if_pos (by decide +kernel)]; kernel_rfl) | (rw [if_neg (by decide +kernel)]; exact ⟨rfl, rfl⟩))
    (fun os started H enc _ F => by rw [OpenClaim.pre_eq_preRow]; exact lifted os started H enc F)
set_option maxHeartbeats 40000000 in
theorem proved : Rows.ScrubLocatesUptoCardSaid :=
  Claim7.holds_tied_plain_at .later [] _ _ _ _
    over (fun _ h => by cases h) (by as_aux_lemma => kernel_rfl) (fun _ h => by cases h) scrubLocatesUpto_row_tie rfl ⟨rfl, rfl⟩ (by as_aux_lemma => kernel_rfl) rfl
    (fun f fn hf hfn => by
      obtain rfl : f = 13 := Option.some.inj ((show Tryz.prog.funcNamed "solvent/solventlaw40.ScrubLocates" = some 13 by as_aux_lemma => kernel_rfl).symm.trans hf) |>.symm
      obtain rfl : fn = Tryz.f13 := (Option.some.inj (Tryz.func13.symm.trans hfn)).symm
      exact ⟨by as_aux_lemma => kernel_rfl, fun j t ht => by
        rw [Tryz.params13] at ht
        rcases j with _ | _ | _ | _ | _ | _ | _ | j
        · obtain rfl : 66 = t := by simpa using ht
          as_aux_lemma => kernel_rfl
        · obtain rfl : 88 = t := by simpa using ht
          as_aux_lemma => kernel_rfl
        · obtain rfl : 87 = t := by simpa using ht
          as_aux_lemma => kernel_rfl
        · obtain rfl : 83 = t := by simpa using ht
          as_aux_lemma => kernel_rfl
        · obtain rfl : 115 = t := by simpa using ht
          as_aux_lemma => kernel_rfl
        · obtain rfl : 3 = t := by simpa using ht
          as_aux_lemma => kernel_rfl
        · obtain rfl : 9 = t := by simpa using ht
          as_aux_lemma => kernel_rfl
        · simp at ht⟩)
    (by as_aux_lemma => kernel_rfl)
#print axioms proved
end Go.Proofs.YtplpgijpmgbaiaaGreatDoor.scrubLocatesP
