import Derived.Test.YtplpgijpmgbaiaaGreatDoorRows
import Derived.Test.YtplpgijpmgbaiaaGreatDoorCards
import Derived.Test.YtplpgijpmgbaiaaGreatDoorTie
import Derived.Test.YtplpgijpmgbaiaaGreatDoorMAdmitSuffices7
namespace Go.Proofs.YtplpgijpmgbaiaaGreatDoor.admitSufficesP
open Go.ChangeShapes Go.WideShapes Go.ChangeAt Go.RowKit
set_option linter.unusedVariables false
set_option linter.unusedSimpArgs false
theorem own : ownKnob Tryz.prog.godebug = none := by kernel_rfl
theorem laidOut : laidOutB Tryz.prog = true := by kernel_rfl
theorem gName : Tryz.prog.globalNamed "solvent/field.fields" = some 1 := by kernel_rfl
theorem cells_int : Tryz.prog.cellsOf 3 = 1 := by kernel_rfl
theorem cells_sl_api_Code : Tryz.prog.cellsOf 24 = 1 := by kernel_rfl
theorem cells_sl_api_Survival : Tryz.prog.cellsOf 25 = 1 := by kernel_rfl
theorem cells_sl_api_Tenant : Tryz.prog.cellsOf 28 = 1 := by kernel_rfl
theorem cells_sl_api_Use : Tryz.prog.cellsOf 29 = 1 := by kernel_rfl
theorem cells_sl_int : Tryz.prog.cellsOf 91 = 1 := by kernel_rfl
theorem cells_sl_sl_int : Tryz.prog.cellsOf 64 = 1 := by kernel_rfl
theorem cells_sl_solventlaw31_Write : Tryz.prog.cellsOf 47 = 1 := by kernel_rfl
theorem cells_solvent_api_Code : Tryz.prog.cellsOf 66 = 5 := by kernel_rfl
theorem cells_solvent_api_Config : Tryz.prog.cellsOf 23 = 6 := by kernel_rfl
theorem cells_solvent_api_Library : Tryz.prog.cellsOf 27 = 2 := by kernel_rfl
theorem cells_solvent_api_Survival : Tryz.prog.cellsOf 50 = 5 := by kernel_rfl
theorem cells_solvent_api_Tenant : Tryz.prog.cellsOf 37 = 6 := by kernel_rfl
theorem cells_solvent_api_Use : Tryz.prog.cellsOf 39 = 2 := by kernel_rfl
theorem cells_solvent_solventlaw31_Write : Tryz.prog.cellsOf 56 = 3 := by kernel_rfl
theorem cells_string : Tryz.prog.cellsOf 9 = 1 := by kernel_rfl
noncomputable def limWorld (os : Os) : World :=
  let w0 := World.holding Tryz.prog os ⟨#[], #[], []⟩
  { w0 with heap := w0.heap.modify 1 fun
      | .cells _ t frozen => .cells #[.int .i64 8, .int .i64 285, .int .i64 16, .int .i64 69643] t frozen
      | o => o }
theorem laid_met (os : Os) (args : Array Value) : laidMet Tryz.prog Rows.admitSufficesRow.laid ((limWorld os).forCall (fun _ _ => 0) ⟨#[], args, []⟩).memory :=
  laidMet_of_run (ps := [.cell 1 0, .cell 1 1, .cell 1 2, .cell 1 3]) 8 (by kernel_rfl) (by kernel_rfl) (by kernel_rfl)
theorem glb_of_laid {W : World} (h : laidMet Tryz.prog Rows.admitSufficesRow.laid W) : ∀ p ∈ glbs, p.1 < W.heap.size ∧ some p.1 ∉ ([] : List (Option Nat)) ∧ ∃ t fz, W.heap[p.1]? = some (.cells p.2 t fz) := by
  obtain ⟨ps, ⟨g, t, cs, fuel, p, q, hg, ht, hvar, hd, _, _⟩, _⟩ := h
  obtain rfl := Option.some.inj (gName.symm.trans hg)
  have ht2 : t = 342 := (Option.some.inj ((show (Tryz.prog.globals[1]?).map (·.type) = some 342 by kernel_rfl).symm.trans ht)).symm
  subst ht2
  have hcs : cs = #[.int .i64 8, .int .i64 285, .int .i64 16, .int .i64 69643] := fields_cells hd
  subst hcs
  unfold World.var? at hvar
  rw [gName] at hvar
  simp only [Option.bind_some] at hvar
  intro p hp
  have hp' : p = (1, #[.int .i64 8, .int .i64 285, .int .i64 16, .int .i64 69643]) := by simpa [glbs] using hp
  subst hp'
  split at hvar
  · rename_i c t2 fz2 h1
    obtain rfl := Option.some.inj hvar
    exact ⟨(Array.getElem?_eq_some_iff.1 h1).1, by simp, _, _, h1⟩
  · cases hvar
set_option maxHeartbeats 4000000 in
set_option maxRecDepth 100000 in
theorem lifted (os : Os) (started : os.Started) (H : Type) (enc : TypeId × Value → H) :
    ReturnsInHanded {} Tryz.checked os 7 .any (fun w args => (Rows.admitSufficesSpec.pre enc Tryz.prog Tryz.f7 Rows.admitSufficesRow.domain false w args ∧ laidMet Tryz.prog Rows.admitSufficesRow.laid w) ∧ sizedMet enc Tryz.prog Tryz.f7 (OpenSpec.ofChange Rows.admitSufficesSpec) false w args)
      (Rows.admitSufficesSpec.post enc Tryz.prog Tryz.f7 false true false false) := by
  refine returnsInHanded_of_change_and (C := Tryz.checked) (X := fun w _ => laidMet Tryz.prog Rows.admitSufficesRow.laid w) (fun _ _ _ hh h => h.of_heap hh) own started (by kernel_rfl) Tryz.func7
    (ChangeSpec.witness_at (enc := enc) (C := Tryz.checked) (os := os) (X := fun w _ => laidMet Tryz.prog Rows.admitSufficesRow.laid w) false (limWorld os) #[.agg #[.int .i64 0, .int .i64 0, .int .i64 0, .int .i64 0, .int .i64 0, .int .i64 0], .agg #[.slice none 0 0, .slice none 0 0], .slice none 0 0, .slice none 0 0, .slice none 0 0] 8 rfl (by kernel_rfl) (by kernel_rfl) (by kernel_rfl) (by kernel_rfl) (by kernel_rfl) (laid_met os _)) ?_
  intro W base args ds gs before hval0 hW hcnd0 hsz hL _
  have hglb := glb_of_laid hL
  have hval : ∀ (j : Nat) t v, Tryz.f7.params[j]? = some t → args[j]? = some v → Value.okWide Tryz.prog W .any base t v := hval0
  have hW' := hW
  obtain ⟨p, q, hA0, hV, rfl, hfz, hnd⟩ := hW
  have hA : DataW.TrodAll enc Tryz.prog W 0 (fun _ => true) true Tryz.f7.params.toList args.toList ds p := hA0
  rw [Tryz.params7] at hA hval hsz
  obtain ⟨v0, vs0, d0, ds0, p0, q0, hargs, rfl, rfl, h0, r0⟩ := trodAll_cons hA
  obtain ⟨v1, vs1, d1, ds1, p1, q1, rfl, rfl, rfl, h1, r1⟩ := trodAll_cons r0
  obtain ⟨v2, vs2, d2, ds2, p2, q2, rfl, rfl, rfl, h2, r2⟩ := trodAll_cons r1
  obtain ⟨v3, vs3, d3, ds3, p3, q3, rfl, rfl, rfl, h3, r3⟩ := trodAll_cons r2
  obtain ⟨v4, vs4, d4, ds4, p4, q4, rfl, rfl, rfl, h4, r4⟩ := trodAll_cons r3
  obtain ⟨rfl, rfl, rfl⟩ := trodAll_nil r4
  obtain rfl : args = #[v0, v1, v2, v3, v4] := by cases args; simp_all
  obtain ⟨rfl, rfl⟩ := trodVars_none hV
  have k0 := h0
  have lt0 : ∀ x ∈ p0, x.block < W.heap.size := by obtain ⟨m, hm⟩ := k0; exact DataW.trod_lt m _ _ _ hm
  have k1 := h1
  have lt1 : ∀ x ∈ p1, x.block < W.heap.size := by obtain ⟨m, hm⟩ := k1; exact DataW.trod_lt m _ _ _ hm
  have k2 := h2
  have lt2 : ∀ x ∈ p2, x.block < W.heap.size := by obtain ⟨m, hm⟩ := k2; exact DataW.trod_lt m _ _ _ hm
  have k3 := h3
  have lt3 : ∀ x ∈ p3, x.block < W.heap.size := by obtain ⟨m, hm⟩ := k3; exact DataW.trod_lt m _ _ _ hm
  have k4 := h4
  have lt4 : ∀ x ∈ p4, x.block < W.heap.size := by obtain ⟨m, hm⟩ := k4; exact DataW.trod_lt m _ _ _ hm
  obtain ⟨cs0, rfl, hsz0⟩ := okWide_struct Tryz.underlying23 (hval 0 23 v0 rfl rfl)
  obtain ⟨l0⟩ := cs0
  obtain ⟨x0, b0, s0⟩ := opens_agg (opens_all Tryz.underlying23 cells_solvent_api_Config (opens_toS 5 Tryz.underlying23 (opens_toS 4 Tryz.underlying23 (opens_toS 3 Tryz.underlying23 (opens_toS 2 Tryz.underlying23 (opens_toS 1 Tryz.underlying23 (opens_toS 0 Tryz.underlying23 opens_to0 rfl rfl cells_int (by rw [cells_solvent_api_Config]; decide) (opens_int Tryz.underlying3)) rfl rfl cells_int (by rw [cells_solvent_api_Config]; decide) (opens_int Tryz.underlying3)) rfl rfl cells_int (by rw [cells_solvent_api_Config]; decide) (opens_int Tryz.underlying3)) rfl rfl cells_int (by rw [cells_solvent_api_Config]; decide) (opens_int Tryz.underlying3)) rfl rfl cells_int (by rw [cells_solvent_api_Config]; decide) (opens_int Tryz.underlying3)) rfl rfl cells_int (by rw [cells_solvent_api_Config]; decide) (opens_int Tryz.underlying3))) rfl h0
  obtain ⟨cs1, rfl, hsz1⟩ := okWide_struct Tryz.underlying27 (hval 1 27 v1 rfl rfl)
  obtain ⟨l1⟩ := cs1
  obtain ⟨x1, b1, s1⟩ := opens_agg (opens_all Tryz.underlying27 cells_solvent_api_Library (opens_toS 1 Tryz.underlying27 (opens_toS 0 Tryz.underlying27 opens_to0 rfl rfl cells_sl_api_Code (by rw [cells_solvent_api_Library]; decide) (opens_slice Tryz.underlying24 cells_solvent_api_Code (by decide) (opens_map (opens_all Tryz.underlying66 cells_solvent_api_Code (opens_toS 4 Tryz.underlying66 (opens_toS 3 Tryz.underlying66 (opens_toS 2 Tryz.underlying66 (opens_toS 1 Tryz.underlying66 (opens_toS 0 Tryz.underlying66 opens_to0 rfl rfl cells_string (by rw [cells_solvent_api_Code]; decide) (opens_string Tryz.underlying9)) rfl rfl cells_int (by rw [cells_solvent_api_Code]; decide) (opens_int Tryz.underlying3)) rfl rfl cells_int (by rw [cells_solvent_api_Code]; decide) (opens_int Tryz.underlying3)) rfl rfl cells_sl_sl_int (by rw [cells_solvent_api_Code]; decide) (opens_slice Tryz.underlying64 cells_sl_int (by decide) (opens_slice Tryz.underlying91 cells_int (by decide) (opens_int Tryz.underlying3)))) rfl rfl cells_int (by rw [cells_solvent_api_Code]; decide) (opens_int Tryz.underlying3))) (fun a => ((a.1.1.1.1.2, a.1.1.1.2, a.1.1.2, a.1.2, a.2) : Cd)) (g := cdD) (okg := fun c => NameIn c.1 ∧ c.2.2.2.1.length ≤ 9223372036854775807) (fun a h => ⟨rfl, ⟨h.1.1.1.1.2.1, Nat.lt_succ_of_le h.1.1.1.1.2.2⟩, h.1.2.2⟩)))) rfl rfl cells_sl_api_Survival (by rw [cells_solvent_api_Library]; decide) (opens_slice Tryz.underlying25 cells_solvent_api_Survival (by decide) (opens_map (opens_all Tryz.underlying50 cells_solvent_api_Survival (opens_toS 4 Tryz.underlying50 (opens_toS 3 Tryz.underlying50 (opens_toS 2 Tryz.underlying50 (opens_toS 1 Tryz.underlying50 (opens_toS 0 Tryz.underlying50 opens_to0 rfl rfl cells_string (by rw [cells_solvent_api_Survival]; decide) (opens_string Tryz.underlying9)) rfl rfl cells_int (by rw [cells_solvent_api_Survival]; decide) (opens_int Tryz.underlying3)) rfl rfl cells_int (by rw [cells_solvent_api_Survival]; decide) (opens_int Tryz.underlying3)) rfl rfl cells_int (by rw [cells_solvent_api_Survival]; decide) (opens_int Tryz.underlying3)) rfl rfl cells_int (by rw [cells_solvent_api_Survival]; decide) (opens_int Tryz.underlying3))) (fun a => ((a.1.1.1.1.2, a.1.1.1.2, a.1.1.2, a.1.2, a.2) : Sv)) (g := svD) (okg := fun v => NameIn v.1) (fun a h => ⟨rfl, ⟨h.1.1.1.1.2.1, Nat.lt_succ_of_le h.1.1.1.1.2.2⟩⟩))))) rfl h1
  obtain ⟨x2, b2, s2⟩ := opens_arg (opens_slice Tryz.underlying28 cells_solvent_api_Tenant (by decide) (opens_map (opens_all Tryz.underlying37 cells_solvent_api_Tenant (opens_toS 5 Tryz.underlying37 (opens_toS 4 Tryz.underlying37 (opens_toS 3 Tryz.underlying37 (opens_toS 2 Tryz.underlying37 (opens_toS 1 Tryz.underlying37 (opens_toS 0 Tryz.underlying37 opens_to0 rfl rfl cells_string (by rw [cells_solvent_api_Tenant]; decide) (opens_string Tryz.underlying9)) rfl rfl cells_int (by rw [cells_solvent_api_Tenant]; decide) (opens_int Tryz.underlying3)) rfl rfl cells_int (by rw [cells_solvent_api_Tenant]; decide) (opens_int Tryz.underlying3)) rfl rfl cells_int (by rw [cells_solvent_api_Tenant]; decide) (opens_int Tryz.underlying3)) rfl rfl cells_int (by rw [cells_solvent_api_Tenant]; decide) (opens_int Tryz.underlying3)) rfl rfl cells_int (by rw [cells_solvent_api_Tenant]; decide) (opens_int Tryz.underlying3))) (fun a => ((a.1.1.1.1.1.2, a.1.1.1.1.2, a.1.1.1.2, a.1.1.2, a.1.2, a.2) : Tn)) (g := tnD) (okg := fun _ => True) (fun a h => ⟨rfl, trivial⟩))) (cells_sl Tryz.underlying28 (hval 2 28 v2 rfl rfl)) h2
  obtain ⟨x3, b3, s3⟩ := opens_arg (opens_slice Tryz.underlying29 cells_solvent_api_Use (by decide) (opens_map (opens_all Tryz.underlying39 cells_solvent_api_Use (opens_toS 1 Tryz.underlying39 (opens_toS 0 Tryz.underlying39 opens_to0 rfl rfl cells_int (by rw [cells_solvent_api_Use]; decide) (opens_int Tryz.underlying3)) rfl rfl cells_int (by rw [cells_solvent_api_Use]; decide) (opens_int Tryz.underlying3))) (fun a => ((a.1.2, a.2) : Ue)) (g := ueD) (okg := fun _ => True) (fun a h => ⟨rfl, trivial⟩))) (cells_sl Tryz.underlying29 (hval 3 29 v3 rfl rfl)) h3
  obtain ⟨x4, b4, s4⟩ := opens_arg (opens_slice Tryz.underlying47 cells_solvent_solventlaw31_Write (by decide) (opens_map (opens_all Tryz.underlying56 cells_solvent_solventlaw31_Write (opens_toS 2 Tryz.underlying56 (opens_toS 1 Tryz.underlying56 (opens_toS 0 Tryz.underlying56 opens_to0 rfl rfl cells_int (by rw [cells_solvent_solventlaw31_Write]; decide) (opens_int Tryz.underlying3)) rfl rfl cells_int (by rw [cells_solvent_solventlaw31_Write]; decide) (opens_int Tryz.underlying3)) rfl rfl cells_int (by rw [cells_solvent_solventlaw31_Write]; decide) (opens_int Tryz.underlying3))) (fun a => ((a.1.1.2, a.1.2, a.2) : Wr)) (g := wrD) (okg := fun _ => True) (fun a h => ⟨rfl, trivial⟩))) (cells_sl Tryz.underlying47 (hval 4 47 v4 rfl rfl)) h4
  clear hA0 hval0
  have hmx : maxLen = 9223372036854775807 := rfl
  have hA := A_suffices (d := x0.1.1.1.1.1.2) (r := x0.1.1.1.1.2) (n := x0.1.1.1.2) (s := x0.1.1.2) (l := x0.1.2) (i := x0.2) (cs := x1.1.2) (vs := x1.2) (ts := x2) (us := x3) (ws := x4) ⟨fun c hc => (b1.1.2.1 c hc).1, fun c hc => (b1.1.2.1 c hc).2, fun v hv => b1.2.1 v hv, b1.1.2.2, b1.2.2⟩ b2.2 b3.2 b4.2
  have hs : AV.satL (fun _ => False) [] [] W [cfgA x0.1.1.1.1.1.2 x0.1.1.1.1.2 x0.1.1.1.2 x0.1.1.2 x0.1.2 x0.2, lib x1.1.2 x1.2, tns x2, ues x3, .d (.sl 3 (x4.map wrD))] [.agg l0.toArray, .agg l1.toArray, v2, v3, v4] := by
    exact (satL_cons s0 (satL_cons s1 (satL_cons s2 (satL_cons s3 (satL_cons s4 satL_nil)))))
  have hc := calls_of_acalls hA [.agg l0.toArray, .agg l1.toArray, v2, v3, v4] W hglb hs
  have hd : Calls Tryz.prog 7 #[.agg l0.toArray, .agg l1.toArray, v2, v3, v4] W fun e w' => e = .returned (.bool true) ∧ Below W.heap.size W w' := hc
  refine hd.mono fun e W' ⟨he, bel⟩ => ?_
  subst he
  exact ⟨_, rfl, _, _, _, [], _, [], hW', trodAll_mk1 (shut_bool Tryz.underlying4 _), (trodAll_cons_mk (Below.trod laidOut (by kernel_rfl) (of_decide_eq_true (by kernel_rfl)) k0 bel lt0) (trodAll_cons_mk (Below.trod laidOut (by kernel_rfl) (of_decide_eq_true (by kernel_rfl)) k1 bel lt1) (trodAll_cons_mk (Below.trod laidOut (by kernel_rfl) (of_decide_eq_true (by kernel_rfl)) k2 bel lt2) (trodAll_cons_mk (Below.trod laidOut (by kernel_rfl) (of_decide_eq_true (by kernel_rfl)) k3 bel lt3) (trodAll_cons_mk (Below.trod laidOut (by kernel_rfl) (of_decide_eq_true (by kernel_rfl)) k4 bel lt4) trodAll_mk0))))), rfl, bel.frame _, fun h => by cases h⟩
set_option maxHeartbeats 40000000 in
theorem over : Rows.admitSufficesRow.holds Tryz.pinned (OpenSpec.ofChange Rows.admitSufficesSpec) :=
  OpenClaim.holds_of_wide 7 Tryz.f7 rfl rfl rfl rfl rfl rfl rfl ⟨rfl, rfl, rfl, rfl, rfl⟩ rfl rfl rfl rfl rfl (by as_aux_lemma => kernel_rfl) Tryz.func7 (by
      unfold joinedFacts
      repeat' (with_reducible refine Bool.and_eq_true_iff.2 ⟨?_, ?_⟩)
      all_goals (as_aux_lemma => kernel_rfl))
    (of_decide_eq_true (by as_aux_lemma => kernel_rfl)) (by unfold Func.isWrapper; first | (rw [if_pos (by decide +kernel)]; kernel_rfl) | (rw [if_neg (by decide +kernel)]; exact ⟨rfl, rfl⟩))
    (fun os started H enc _ => lifted os started H enc)
set_option maxHeartbeats 40000000 in
theorem proved : Rows.AdmitSufficesCardSaid :=
  Claim7.holds_tied_plain_at .later [] _ _ _ _
    over (fun _ h => by cases h) (by as_aux_lemma => kernel_rfl) (fun _ h => by cases h) admitSuffices_row_tie rfl ⟨rfl, rfl⟩ (by as_aux_lemma => kernel_rfl) rfl
    (fun f fn hf hfn => by
      obtain rfl : f = 7 := Option.some.inj ((show Tryz.prog.funcNamed "solvent/solventlaw31.AdmitSuffices" = some 7 by as_aux_lemma => kernel_rfl).symm.trans hf) |>.symm
      obtain rfl : fn = Tryz.f7 := (Option.some.inj (Tryz.func7.symm.trans hfn)).symm
      exact ⟨by as_aux_lemma => kernel_rfl, fun j t ht => by
        rw [Tryz.params7] at ht
        rcases j with _ | _ | _ | _ | _ | j
        · obtain rfl : 23 = t := by simpa using ht
          as_aux_lemma => kernel_rfl
        · obtain rfl : 27 = t := by simpa using ht
          as_aux_lemma => kernel_rfl
        · obtain rfl : 28 = t := by simpa using ht
          as_aux_lemma => kernel_rfl
        · obtain rfl : 29 = t := by simpa using ht
          as_aux_lemma => kernel_rfl
        · obtain rfl : 47 = t := by simpa using ht
          as_aux_lemma => kernel_rfl
        · simp at ht⟩)
    (by as_aux_lemma => kernel_rfl)
#print axioms proved
end Go.Proofs.YtplpgijpmgbaiaaGreatDoor.admitSufficesP
