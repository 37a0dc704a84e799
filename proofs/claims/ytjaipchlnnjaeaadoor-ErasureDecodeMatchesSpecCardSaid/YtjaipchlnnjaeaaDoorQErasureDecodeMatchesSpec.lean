import Derived.Test.YtjaipchlnnjaeaaDoorRows
import Derived.Test.YtjaipchlnnjaeaaDoorCards
import Derived.Test.YtjaipchlnnjaeaaDoorTie
import Derived.Test.YtjaipchlnnjaeaaDoorMErasureDecodeMatchesSpec6
/- ErasureDecodeMatchesSpec: the given statement, out of the walk. For every input; no condition. -/
namespace Go.Proofs.YtjaipchlnnjaeaaDoor.erasureDecodeMatchesSpecP
open Go.ChangeShapes Go.WideShapes Go.ChangeAt Go.RowKit
set_option linter.unusedVariables false
set_option linter.unusedSimpArgs false
theorem own : ownKnob Tryd.prog.godebug = none := by kernel_rfl
theorem laidOut : laidOutB Tryd.prog = true := by kernel_rfl
theorem gName : Tryd.prog.globalNamed "solvent/field.fields" = some 0 := by kernel_rfl
theorem cells_string : Tryd.prog.cellsOf 9 = 1 := by kernel_rfl
theorem cells_int : Tryd.prog.cellsOf 3 = 1 := by kernel_rfl
theorem cells_bool : Tryd.prog.cellsOf 4 = 1 := by kernel_rfl
theorem cells_ints : Tryd.prog.cellsOf 29 = 1 := by kernel_rfl
theorem cells_rows : Tryd.prog.cellsOf 22 = 1 := by kernel_rfl
theorem cells_code : Tryd.prog.cellsOf 24 = 5 := by kernel_rfl
theorem cells_ErasureDecodeMatchesSpecIn : Tryd.prog.cellsOf 60 = 8 := by kernel_rfl
theorem cells_strs : Tryd.prog.cellsOf 25 = 1 := by kernel_rfl
theorem cells_bools : Tryd.prog.cellsOf 44 = 1 := by kernel_rfl
noncomputable def limWorld (os : Os) : World :=
  let w0 := World.holding Tryd.prog os ⟨#[], #[], []⟩
  { w0 with heap := w0.heap.modify 0 fun
      | .cells _ t frozen => .cells #[.int .i64 8, .int .i64 285, .int .i64 16, .int .i64 69643] t frozen
      | o => o }
theorem laid_met (os : Os) (args : Array Value) : laidMet Tryd.prog Rows.erasureDecodeMatchesSpecRow.laid ((limWorld os).forCall (fun _ _ => 0) ⟨#[], args, []⟩).memory :=
  laidMet_of_run (ps := [.cell 0 0, .cell 0 1, .cell 0 2, .cell 0 3]) 8 (by kernel_rfl) (by kernel_rfl) (by kernel_rfl)
theorem glb_of_laid {W : World} (h : laidMet Tryd.prog Rows.erasureDecodeMatchesSpecRow.laid W) : ∀ p ∈ glbs, p.1 < W.heap.size ∧ some p.1 ∉ ([] : List (Option Nat)) ∧ ∃ t fz, W.heap[p.1]? = some (.cells p.2 t fz) := by
  obtain ⟨ps, ⟨g, t, cs, fuel, p, q, hg, ht, hvar, hd, _, _⟩, _⟩ := h
  obtain rfl := Option.some.inj (gName.symm.trans hg)
  have ht2 : t = 126 := (Option.some.inj ((show (Tryd.prog.globals[0]?).map (·.type) = some 126 by kernel_rfl).symm.trans ht)).symm
  subst ht2
  have hcs : cs = #[.int .i64 8, .int .i64 285, .int .i64 16, .int .i64 69643] := fields_cells hd
  subst hcs
  unfold World.var? at hvar
  rw [gName] at hvar
  simp only [Option.bind_some] at hvar
  intro p hp
  have hp' : p = (0, #[.int .i64 8, .int .i64 285, .int .i64 16, .int .i64 69643]) := by simpa [glbs] using hp
  subst hp'
  split at hvar
  · rename_i c t2 fz2 h1
    obtain rfl := Option.some.inj hvar
    exact ⟨(Array.getElem?_eq_some_iff.1 h1).1, by simp, _, _, h1⟩
  · cases hvar
set_option maxHeartbeats 4000000 in
set_option maxRecDepth 100000 in
theorem lifted (os : Os) (started : os.Started) (H : Type) (enc : TypeId × Value → H) :
    ReturnsInHanded {} Tryd.checked os 9 .any (fun w args => (Rows.erasureDecodeMatchesSpecSpec.pre enc Tryd.prog Tryd.f9 Rows.erasureDecodeMatchesSpecRow.domain false w args ∧ laidMet Tryd.prog Rows.erasureDecodeMatchesSpecRow.laid w) ∧ sizedMet enc Tryd.prog Tryd.f9 (OpenSpec.ofChange Rows.erasureDecodeMatchesSpecSpec) false w args)
      (Rows.erasureDecodeMatchesSpecSpec.post enc Tryd.prog Tryd.f9 false true false false) := by
  refine returnsInHanded_of_change_and (C := Tryd.checked) (X := fun w _ => laidMet Tryd.prog Rows.erasureDecodeMatchesSpecRow.laid w) (fun _ _ _ hh h => h.of_heap hh) own started (by kernel_rfl) Tryd.func9
    (ChangeSpec.witness_at (enc := enc) (C := Tryd.checked) (os := os) (X := fun w _ => laidMet Tryd.prog Rows.erasureDecodeMatchesSpecRow.laid w) false (limWorld os) #[.agg #[.string ⟨#[]⟩, .int .i64 0, .int .i64 0, .slice none 0 0, .int .i64 0, .slice none 0 0, .slice none 0 0, .int .i64 0]] 8 rfl (by kernel_rfl) (by kernel_rfl) (by kernel_rfl) (by kernel_rfl) (by kernel_rfl) (laid_met os _)) ?_
  intro W base args ds gs before hval0 hW hcnd0 hsz hL _
  have hglb := glb_of_laid hL
  have hval : ∀ (j : Nat) t v, Tryd.f9.params[j]? = some t → args[j]? = some v → Value.okWide Tryd.prog W .any base t v := hval0
  have hW' := hW
  obtain ⟨p, q, hA0, hV, rfl, hfz, hnd⟩ := hW
  have hA : DataW.TrodAll enc Tryd.prog W 0 (fun _ => true) true Tryd.f9.params.toList args.toList ds p := hA0
  rw [Tryd.params9] at hA hval hsz
  obtain ⟨v0, vs0, d0, ds0, p0, q0, hargs, rfl, rfl, h0, r0⟩ := trodAll_cons hA
  obtain ⟨rfl, rfl, rfl⟩ := trodAll_nil r0
  obtain rfl : args = #[v0] := by cases args; simp_all
  obtain ⟨rfl, rfl⟩ := trodVars_none hV
  have k0 := h0
  have lt0 : ∀ x ∈ p0, x.block < W.heap.size := by obtain ⟨m, hm⟩ := k0; exact DataW.trod_lt m _ _ _ hm
  obtain ⟨cs0, rfl, hsz0⟩ := okWide_struct Tryd.underlying60 (hval 0 60 v0 rfl rfl)
  obtain ⟨l0⟩ := cs0
  obtain ⟨e0_0, e0_1, e0_2, e0_3, e0_4, e0_5, e0_6, e0_7, rfl⟩ := list8 (hsz0.trans cells_ErasureDecodeMatchesSpecIn)
  obtain ⟨fu0, hf0⟩ := h0
  obtain ⟨yc0, nc0, gc0⟩ := open_field Tryd.underlying60 hf0 0 _ rfl
  have gd0 : DataW.trod enc Tryd.prog W 0 (fun _ => true) true nc0 24 [e0_0, e0_1, e0_2, e0_3, e0_4] = some yc0 := by
    have this : DataW.trod enc Tryd.prog W 0 (fun _ => true) true nc0 24 (List.take (Tryd.prog.cellsOf 24) (List.drop 0 [e0_0, e0_1, e0_2, e0_3, e0_4, e0_5, e0_6, e0_7])) = some yc0 := gc0
    have e5 : (Tryd.prog.cellsOf 24) = 5 := cells_code
    rw [e5] at this; exact this
  obtain ⟨yn0, nn0, gn0⟩ := open_cell Tryd.underlying24 gd0 0 _ rfl e0_0 (by show List.take (Tryd.prog.cellsOf 9) _ = _; rw [cells_string]; rfl)
  have on0 := one_cell (opens_string Tryd.underlying9) gn0
  obtain ⟨yM0, nM0, gM0⟩ := open_cell Tryd.underlying24 gd0 1 _ rfl e0_1 (by show List.take (Tryd.prog.cellsOf 3) _ = _; rw [cells_int]; rfl)
  obtain ⟨M0, bM0, sM0⟩ := opens_cell (opens_int Tryd.underlying3) gM0
  obtain ⟨yD0, nD0, gD0⟩ := open_cell Tryd.underlying24 gd0 2 _ rfl e0_2 (by show List.take (Tryd.prog.cellsOf 3) _ = _; rw [cells_int]; rfl)
  obtain ⟨D0, bD0, sD0⟩ := opens_cell (opens_int Tryd.underlying3) gD0
  obtain ⟨yp0, np0, gp0⟩ := open_cell Tryd.underlying24 gd0 3 _ rfl e0_3 (by show List.take (Tryd.prog.cellsOf 22) _ = _; rw [cells_rows]; rfl)
  obtain ⟨par0, bpar0, spar0⟩ := opens_cell (opens_slice Tryd.underlying22 cells_ints (by decide) (opens_slice Tryd.underlying29 cells_int (by decide) (opens_int Tryd.underlying3))) gp0
  obtain ⟨yq0, nq0, gq0⟩ := open_cell Tryd.underlying24 gd0 4 _ rfl e0_4 (by show List.take (Tryd.prog.cellsOf 3) _ = _; rw [cells_int]; rfl)
  have oq0 := one_cell (opens_int Tryd.underlying3) gq0
  obtain ⟨y0_1, n0_1, g0_1⟩ := open_cell Tryd.underlying60 hf0 1 _ rfl e0_5 (by show List.take (Tryd.prog.cellsOf 25) _ = _; rw [cells_strs]; rfl)
  obtain ⟨x0_1, bx0_1, sx0_1⟩ := opens_cell (opens_slice Tryd.underlying25 cells_string (by decide) (opens_string Tryd.underlying9)) g0_1
  obtain ⟨y0_2, n0_2, g0_2⟩ := open_cell Tryd.underlying60 hf0 2 _ rfl e0_6 (by show List.take (Tryd.prog.cellsOf 44) _ = _; rw [cells_bools]; rfl)
  obtain ⟨x0_2, bx0_2, sx0_2⟩ := opens_cell (opens_slice Tryd.underlying44 cells_bool (by decide) (opens_bool Tryd.underlying4)) g0_2
  obtain ⟨y0_3, n0_3, g0_3⟩ := open_cell Tryd.underlying60 hf0 3 _ rfl e0_7 (by show List.take (Tryd.prog.cellsOf 3) _ = _; rw [cells_int]; rfl)
  obtain ⟨x0_3, bx0_3, sx0_3⟩ := opens_cell (opens_int Tryd.underlying3) g0_3
  clear hA0 hval0
  have hA := A_decMatches (M := M0) (D := D0) (par := par0) (us := x0_1) (hv := x0_2) (u := x0_3) (fun r hr x hx => ((bpar0.1 r hr).1 x hx).2) (fun u hu => (bx0_1.1 u hu).1) bx0_3
  have hs : AV.satL (fun _ => False) [] [] W [.agg [.d .any, iV M0, iV D0, rowsA par0, .d .any, strs x0_1, bools x0_2, iV x0_3]] [.agg [e0_0, e0_1, e0_2, e0_3, e0_4, e0_5, e0_6, e0_7].toArray] := by
    exact (satL_cons (sat_agg (satL_cons (sat_any on0) (satL_cons (sat_dat sM0) (satL_cons (sat_dat sD0) (satL_cons (sat_dat spar0) (satL_cons (sat_any oq0) (satL_cons (sat_dat sx0_1) (satL_cons (sat_dat sx0_2) (satL_cons (sat_dat sx0_3) satL_nil))))))))) satL_nil)
  have hc := calls_of_acalls hA [.agg [e0_0, e0_1, e0_2, e0_3, e0_4, e0_5, e0_6, e0_7].toArray] W hglb hs
  have hd : Calls Tryd.prog 9 #[.agg #[e0_0, e0_1, e0_2, e0_3, e0_4, e0_5, e0_6, e0_7]] W fun e w' => e = .returned (.bool true) ∧ Below W.heap.size W w' := hc
  refine hd.mono fun e W' ⟨he, bel⟩ => ?_
  subst he
  exact ⟨_, rfl, _, _, _, [], _, [], hW', trodAll_mk1 (shut_bool Tryd.underlying4 _), (trodAll_cons_mk (Below.trod laidOut (by kernel_rfl) (of_decide_eq_true (by kernel_rfl)) k0 bel lt0) trodAll_mk0), rfl, bel.frame _, fun h => by cases h⟩
theorem over : Rows.erasureDecodeMatchesSpecRow.holds Tryd.pinned (OpenSpec.ofChange Rows.erasureDecodeMatchesSpecSpec) :=
  OpenClaim.holds_of_wide 9 Tryd.f9 rfl rfl rfl rfl rfl rfl rfl ⟨rfl, rfl, rfl, rfl, rfl⟩ rfl rfl rfl rfl rfl (by kernel_rfl) Tryd.func9 (by kernel_rfl)
    (of_decide_eq_true (by kernel_rfl)) (by unfold Func.isWrapper; first | (rw [if_pos (by decide +kernel)]; kernel_rfl) | (rw [if_neg (by decide +kernel)]; exact ⟨rfl, rfl⟩))
    (fun os started H enc _ => lifted os started H enc)
theorem proved : Rows.ErasureDecodeMatchesSpecCardSaid :=
  Claim7.holds_tied_plain_at .later [] _ _ _ _
    over (fun _ h => by cases h) (by kernel_rfl) (fun _ h => by cases h) erasureDecodeMatchesSpec_row_tie rfl ⟨rfl, rfl⟩ (by kernel_rfl) rfl
    (fun f fn hf hfn => by
      obtain rfl : f = 9 := Option.some.inj ((show Tryd.prog.funcNamed "solvent/solventlaw08.ErasureDecodeMatchesSpec" = some 9 by kernel_rfl).symm.trans hf) |>.symm
      obtain rfl : fn = Tryd.f9 := (Option.some.inj (Tryd.func9.symm.trans hfn)).symm
      exact ⟨by kernel_rfl, fun j t ht => by
        rw [Tryd.params9] at ht
        rcases j with _ | j
        · obtain rfl : 60 = t := by simpa using ht
          kernel_rfl
        · simp at ht⟩)
    (by kernel_rfl)
#print axioms proved
end Go.Proofs.YtjaipchlnnjaeaaDoor.erasureDecodeMatchesSpecP
