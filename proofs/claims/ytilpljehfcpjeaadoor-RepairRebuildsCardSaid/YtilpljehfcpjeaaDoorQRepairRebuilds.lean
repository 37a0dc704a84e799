import Derived.Test.YtilpljehfcpjeaaDoorRows
import Derived.Test.YtilpljehfcpjeaaDoorCards
import Derived.Test.YtilpljehfcpjeaaDoorTie
import Derived.Test.YtilpljehfcpjeaaDoorMRepairRebuilds6
/- RepairRebuilds: the given statement, out of the walk. For every input; no condition. -/
namespace Go.Proofs.YtilpljehfcpjeaaDoor.repairRebuildsP
open Go.ChangeShapes Go.WideShapes Go.ChangeAt Go.RowKit
set_option linter.unusedVariables false
set_option linter.unusedSimpArgs false
theorem own : ownKnob Tryd.prog.godebug = none := by kernel_rfl
theorem laidOut : laidOutB Tryd.prog = true := by kernel_rfl
theorem gName : Tryd.prog.globalNamed "solvent/field.fields" = some 0 := by kernel_rfl
theorem cells_string : Tryd.prog.cellsOf 9 = 1 := by kernel_rfl
theorem cells_int : Tryd.prog.cellsOf 3 = 1 := by kernel_rfl
theorem cells_bool : Tryd.prog.cellsOf 4 = 1 := by kernel_rfl
theorem cells_ints : Tryd.prog.cellsOf 36 = 1 := by kernel_rfl
theorem cells_rows : Tryd.prog.cellsOf 22 = 1 := by kernel_rfl
theorem cells_code : Tryd.prog.cellsOf 24 = 5 := by kernel_rfl
noncomputable def limWorld (os : Os) : World :=
  let w0 := World.holding Tryd.prog os ⟨#[], #[], []⟩
  { w0 with heap := w0.heap.modify 0 fun
      | .cells _ t frozen => .cells #[.int .i64 8, .int .i64 285, .int .i64 16, .int .i64 69643] t frozen
      | o => o }
theorem laid_met (os : Os) (args : Array Value) : laidMet Tryd.prog Rows.repairRebuildsRow.laid ((limWorld os).forCall (fun _ _ => 0) ⟨#[], args, []⟩).memory :=
  laidMet_of_run (ps := [.cell 0 0, .cell 0 1, .cell 0 2, .cell 0 3]) 8 (by kernel_rfl) (by kernel_rfl) (by kernel_rfl)
theorem glb_of_laid {W : World} (h : laidMet Tryd.prog Rows.repairRebuildsRow.laid W) : ∀ p ∈ glbs, p.1 < W.heap.size ∧ some p.1 ∉ ([] : List (Option Nat)) ∧ ∃ t fz, W.heap[p.1]? = some (.cells p.2 t fz) := by
  obtain ⟨ps, ⟨g, t, cs, fuel, p, q, hg, ht, hvar, hd, _, _⟩, _⟩ := h
  obtain rfl := Option.some.inj (gName.symm.trans hg)
  have ht2 : t = 120 := (Option.some.inj ((show (Tryd.prog.globals[0]?).map (·.type) = some 120 by kernel_rfl).symm.trans ht)).symm
  subst ht2
  have hcs : cs = #[.int .i64 8, .int .i64 285, .int .i64 16, .int .i64 69643] := fields_cells hd
  subst hcs
  unfold World.var? at hvar
  rw [gName] at hvar
  simp only [Option.bind_some] at hvar
  intro p hp
  have hp' : p = (0, #[.int .i64 8, .int .i64 285, .int .i64 16, .int .i64 69643]) := by simpa [glbs] using hp
  subst hp'
  split at hvar
  · rename_i c t2 fz2 h1
    obtain rfl := Option.some.inj hvar
    exact ⟨(Array.getElem?_eq_some_iff.1 h1).1, by simp, _, _, h1⟩
  · cases hvar
set_option maxHeartbeats 4000000 in
set_option maxRecDepth 100000 in
theorem lifted (os : Os) (started : os.Started) (H : Type) (enc : TypeId × Value → H) :
    ReturnsInHanded {} Tryd.checked os 4 .any (fun w args => (Rows.repairRebuildsSpec.pre enc Tryd.prog Tryd.f4 Rows.repairRebuildsRow.domain false w args ∧ laidMet Tryd.prog Rows.repairRebuildsRow.laid w) ∧ sizedMet enc Tryd.prog Tryd.f4 (OpenSpec.ofChange Rows.repairRebuildsSpec) false w args)
      (Rows.repairRebuildsSpec.post enc Tryd.prog Tryd.f4 false true false false) := by
  refine returnsInHanded_of_change_and (C := Tryd.checked) (X := fun w _ => laidMet Tryd.prog Rows.repairRebuildsRow.laid w) (fun _ _ _ hh h => h.of_heap hh) own started (by kernel_rfl) Tryd.func4
    (ChangeSpec.witness_at (enc := enc) (C := Tryd.checked) (os := os) (X := fun w _ => laidMet Tryd.prog Rows.repairRebuildsRow.laid w) false (limWorld os) #[.agg #[.string ⟨#[]⟩, .int .i64 0, .int .i64 0, .slice none 0 0, .int .i64 0], .slice none 0 0, .slice none 0 0, .int .i64 0, .string ⟨#[]⟩] 8 rfl (by kernel_rfl) (by kernel_rfl) (by kernel_rfl) (by kernel_rfl) (by kernel_rfl) (laid_met os _)) ?_
  intro W base args ds gs before hval0 hW hcnd0 hsz hL _
  have hglb := glb_of_laid hL
  have hval : ∀ (j : Nat) t v, Tryd.f4.params[j]? = some t → args[j]? = some v → Value.okWide Tryd.prog W .any base t v := hval0
  have hW' := hW
  obtain ⟨p, q, hA0, hV, rfl, hfz, hnd⟩ := hW
  have hA : DataW.TrodAll enc Tryd.prog W 0 (fun _ => true) true Tryd.f4.params.toList args.toList ds p := hA0
  rw [Tryd.params4] at hA hval hsz
  obtain ⟨v0, vs0, d0, ds0, p0, q0, hargs, rfl, rfl, h0, r0⟩ := trodAll_cons hA
  obtain ⟨v1, vs1, d1, ds1, p1, q1, rfl, rfl, rfl, h1, r1⟩ := trodAll_cons r0
  obtain ⟨v2, vs2, d2, ds2, p2, q2, rfl, rfl, rfl, h2, r2⟩ := trodAll_cons r1
  obtain ⟨v3, vs3, d3, ds3, p3, q3, rfl, rfl, rfl, h3, r3⟩ := trodAll_cons r2
  obtain ⟨v4, vs4, d4, ds4, p4, q4, rfl, rfl, rfl, h4, r4⟩ := trodAll_cons r3
  obtain ⟨rfl, rfl, rfl⟩ := trodAll_nil r4
  obtain rfl : args = #[v0, v1, v2, v3, v4] := by cases args; simp_all
  obtain ⟨rfl, rfl⟩ := trodVars_none hV
  have k0 := h0
  have lt0 : ∀ x ∈ p0, x.block < W.heap.size := by obtain ⟨m, hm⟩ := k0; exact DataW.trod_lt m _ _ _ hm
  have k1 := h1
  have lt1 : ∀ x ∈ p1, x.block < W.heap.size := by obtain ⟨m, hm⟩ := k1; exact DataW.trod_lt m _ _ _ hm
  have k2 := h2
  have lt2 : ∀ x ∈ p2, x.block < W.heap.size := by obtain ⟨m, hm⟩ := k2; exact DataW.trod_lt m _ _ _ hm
  have k3 := h3
  have lt3 : ∀ x ∈ p3, x.block < W.heap.size := by obtain ⟨m, hm⟩ := k3; exact DataW.trod_lt m _ _ _ hm
  have k4 := h4
  have lt4 : ∀ x ∈ p4, x.block < W.heap.size := by obtain ⟨m, hm⟩ := k4; exact DataW.trod_lt m _ _ _ hm
  obtain ⟨cs0, rfl, hsz0⟩ := okWide_struct Tryd.underlying24 (hval 0 24 v0 rfl rfl)
  obtain ⟨l0⟩ := cs0
  obtain ⟨e0_0, e0_1, e0_2, e0_3, e0_4, rfl⟩ := list5 (hsz0.trans cells_code)
  obtain ⟨fu0, hf0⟩ := h0
  obtain ⟨yn0, nn0, gn0⟩ := open_cell Tryd.underlying24 hf0 0 _ rfl e0_0 (by show List.take (Tryd.prog.cellsOf 9) _ = _; rw [cells_string]; rfl)
  have on0 := one_cell (opens_string Tryd.underlying9) gn0
  obtain ⟨yM0, nM0, gM0⟩ := open_cell Tryd.underlying24 hf0 1 _ rfl e0_1 (by show List.take (Tryd.prog.cellsOf 3) _ = _; rw [cells_int]; rfl)
  obtain ⟨M0, bM0, sM0⟩ := opens_cell (opens_int Tryd.underlying3) gM0
  obtain ⟨yD0, nD0, gD0⟩ := open_cell Tryd.underlying24 hf0 2 _ rfl e0_2 (by show List.take (Tryd.prog.cellsOf 3) _ = _; rw [cells_int]; rfl)
  obtain ⟨D0, bD0, sD0⟩ := opens_cell (opens_int Tryd.underlying3) gD0
  obtain ⟨yp0, np0, gp0⟩ := open_cell Tryd.underlying24 hf0 3 _ rfl e0_3 (by show List.take (Tryd.prog.cellsOf 22) _ = _; rw [cells_rows]; rfl)
  obtain ⟨par0, bpar0, spar0⟩ := opens_cell (opens_slice Tryd.underlying22 cells_ints (by decide) (opens_slice Tryd.underlying36 cells_int (by decide) (opens_int Tryd.underlying3))) gp0
  obtain ⟨yq0, nq0, gq0⟩ := open_cell Tryd.underlying24 hf0 4 _ rfl e0_4 (by show List.take (Tryd.prog.cellsOf 3) _ = _; rw [cells_int]; rfl)
  have oq0 := one_cell (opens_int Tryd.underlying3) gq0
  obtain ⟨x1, bx1, sx1⟩ := opens_arg (opens_slice Tryd.underlying28 cells_string (by decide) (opens_string Tryd.underlying9)) (cells_sl Tryd.underlying28 (hval 1 28 v1 rfl rfl)) h1
  obtain ⟨x2, bx2, sx2⟩ := opens_arg (opens_slice Tryd.underlying39 cells_bool (by decide) (opens_bool Tryd.underlying4)) (cells_sl Tryd.underlying39 (hval 2 39 v2 rfl rfl)) h2
  obtain ⟨x3, rfl, rfl, rfl, z3⟩ := open_int Tryd.underlying3 (hval 3 3 v3 rfl rfl) h3
  have b_x3 : -9223372036854775808 ≤ x3 ∧ x3 < 9223372036854775808 := by
    have h1 : IntKind.i64.max = 9223372036854775807 := by decide +kernel
    have h2 : IntKind.i64.min = -9223372036854775808 := by decide +kernel
    have h3 := z3
    simp only [Lit.wf, Bool.and_eq_true, decide_eq_true_eq] at h3
    rw [h1, h2] at h3
    omega
  obtain ⟨x4, bx4, sx4⟩ := opens_arg (opens_string Tryd.underlying9) (cells_str Tryd.underlying9 (hval 4 9 v4 rfl rfl)) h4
  clear hA0 hval0
  have hA := A_rebuilds (M := M0) (D := D0) (par := par0) (us := x1) (hv := x2) (u := x3) (z := x4) (fun r hr x hx => ((bpar0.1 r hr).1 x hx).2) (fun u hu => (bx1.1 u hu).1) b_x3 bx4.1
  have hs : AV.satL (fun _ => False) [] [] W [.agg [.d .any, iV M0, iV D0, rowsA par0, .d .any], strs x1, bools x2, iV x3, bS x4] [.agg [e0_0, e0_1, e0_2, e0_3, e0_4].toArray, v1, v2, .int .i64 x3, v4] := by
    exact (satL_cons (sat_agg (satL_cons (sat_any on0) (satL_cons (sat_dat sM0) (satL_cons (sat_dat sD0) (satL_cons (sat_dat spar0) (satL_cons (sat_any oq0) satL_nil)))))) (satL_cons sx1 (satL_cons sx2 (satL_cons (sat_v.2 rfl) (satL_cons sx4 satL_nil)))))
  have hc := calls_of_acalls hA [.agg [e0_0, e0_1, e0_2, e0_3, e0_4].toArray, v1, v2, .int .i64 x3, v4] W hglb hs
  have hd : Calls Tryd.prog 4 #[.agg #[e0_0, e0_1, e0_2, e0_3, e0_4], v1, v2, .int .i64 x3, v4] W fun e w' => e = .returned (.bool true) ∧ Below W.heap.size W w' := hc
  refine hd.mono fun e W' ⟨he, bel⟩ => ?_
  subst he
  exact ⟨_, rfl, _, _, _, [], _, [], hW', trodAll_mk1 (shut_bool Tryd.underlying4 _), (trodAll_cons_mk (Below.trod laidOut (by kernel_rfl) (of_decide_eq_true (by kernel_rfl)) k0 bel lt0) (trodAll_cons_mk (Below.trod laidOut (by kernel_rfl) (of_decide_eq_true (by kernel_rfl)) k1 bel lt1) (trodAll_cons_mk (Below.trod laidOut (by kernel_rfl) (of_decide_eq_true (by kernel_rfl)) k2 bel lt2) (trodAll_cons_mk (Below.trod laidOut (by kernel_rfl) (of_decide_eq_true (by kernel_rfl)) k3 bel lt3) (trodAll_cons_mk (Below.trod laidOut (by kernel_rfl) (of_decide_eq_true (by kernel_rfl)) k4 bel lt4) trodAll_mk0))))), rfl, bel.frame _, fun h => by cases h⟩
theorem over : Rows.repairRebuildsRow.holds Tryd.pinned (OpenSpec.ofChange Rows.repairRebuildsSpec) :=
  OpenClaim.holds_of_wide 4 Tryd.f4 rfl rfl rfl rfl rfl rfl rfl ⟨rfl, rfl, rfl, rfl, rfl⟩ rfl rfl rfl rfl rfl (by kernel_rfl) Tryd.func4 (by kernel_rfl)
    (of_decide_eq_true (by kernel_rfl)) (by unfold Func.isWrapper; first | (rw [if_pos (by decide +kernel)]; kernel_rfl) | (rw [if_neg (by decide +kernel)]; exact ⟨rfl, rfl⟩))
    (fun os started H enc _ => lifted os started H enc)
theorem proved : Rows.RepairRebuildsCardSaid :=
  Claim7.holds_tied_plain_at .later [] _ _ _ _
    over (fun _ h => by cases h) (by kernel_rfl) (fun _ h => by cases h) repairRebuilds_row_tie rfl ⟨rfl, rfl⟩ (by kernel_rfl) rfl
    (fun f fn hf hfn => by
      obtain rfl : f = 4 := Option.some.inj ((show Tryd.prog.funcNamed "solvent/solventlaw10.RepairRebuilds" = some 4 by kernel_rfl).symm.trans hf) |>.symm
      obtain rfl : fn = Tryd.f4 := (Option.some.inj (Tryd.func4.symm.trans hfn)).symm
      exact ⟨by kernel_rfl, fun j t ht => by
        rw [Tryd.params4] at ht
        rcases j with _ | _ | _ | _ | _ | j
        · obtain rfl : 24 = t := by simpa using ht
          kernel_rfl
        · obtain rfl : 28 = t := by simpa using ht
          kernel_rfl
        · obtain rfl : 39 = t := by simpa using ht
          kernel_rfl
        · obtain rfl : 3 = t := by simpa using ht
          kernel_rfl
        · obtain rfl : 9 = t := by simpa using ht
          kernel_rfl
        · simp at ht⟩)
    (by kernel_rfl)
#print axioms proved
end Go.Proofs.YtilpljehfcpjeaaDoor.repairRebuildsP
