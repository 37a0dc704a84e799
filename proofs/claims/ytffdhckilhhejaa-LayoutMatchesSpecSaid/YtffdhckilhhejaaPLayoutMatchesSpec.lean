/- LayoutMatchesSpec: the given statement, out of the walk. For every input; no condition. -/
import Derived.Test.YtffdhckilhhejaaRows
import Derived.Test.YtffdhckilhhejaaKern13
import Derived.Test.YtffdhckilhhejaaLk6
namespace Go.Proofs.Ytffdhckilhhejaa.layoutMatchesSpecP
open Go.ChangeShapes Go.WideShapes Go.ChangeAt Go.RowKit
set_option linter.unusedVariables false
set_option linter.unusedSimpArgs false

theorem own : ownKnob Try.prog.godebug = none := by kernel_rfl
theorem laidOut : laidOutB Try.prog = true := by kernel_rfl
theorem cellsIn : Try.prog.cellsOf 47 = 12 := by kernel_rfl
theorem cellsCfg : Try.prog.cellsOf 23 = 6 := by kernel_rfl
theorem cellsUnit : Try.prog.cellsOf 45 = 3 := by kernel_rfl
theorem cellsStripe : Try.prog.cellsOf 43 = 2 := by kernel_rfl
theorem cellsInt : Try.prog.cellsOf 3 = 1 := by kernel_rfl

set_option maxHeartbeats 4000000 in
set_option maxRecDepth 100000 in
theorem lifted (os : Os) (started : os.Started) (H : Type) (enc : TypeId × Value → H) :
    ReturnsInHanded {} Try.checked os 9 .any (Rows.layoutMatchesSpecSpec.pre6 enc Try.prog Try.f9 Rows.layoutMatchesSpecRow.domain false) (Rows.layoutMatchesSpecSpec.post enc Try.prog Try.f9 false true false false) := by
  refine returnsInHanded_of_change (C := Try.checked) own started (by kernel_rfl) Try.func9
    (ChangeSpec.witness6 (enc := enc) (C := Try.checked) false ⟨#[], #[.agg #[.int .i64 0, .int .i64 0, .int .i64 0, .int .i64 0, .int .i64 0, .int .i64 0, .int .i64 0, .int .i64 0, .int .i64 0, .int .i64 0, .int .i64 0, .int .i64 0]], []⟩ 8 (by kernel_rfl) (by kernel_rfl) (by kernel_rfl) (by kernel_rfl)) ?_
  intro W base args ds gs before hval0 hW hcnd _
  have hval : ∀ (j : Nat) t v, Try.f9.params[j]? = some t → args[j]? = some v → Value.okWide Try.prog W .any base t v := hval0
  have hW' := hW
  obtain ⟨p, q, hA0, hV, rfl, hfz, hnd⟩ := hW
  have hA : DataW.TrodAll enc Try.prog W 0 (fun _ => true) true Try.f9.params.toList args.toList ds p := hA0
  rw [Try.params9] at hA hval
  obtain ⟨v0, vs0, d0, ds0, p0, q0, hargs, rfl, rfl, h0, r0⟩ := trodAll_cons hA
  obtain ⟨rfl, rfl, rfl⟩ := trodAll_nil r0
  obtain rfl : args = #[v0] := by cases args; simp_all
  obtain ⟨rfl, rfl⟩ := trodVars_none hV
  have k0 := h0
  have lt0 : ∀ x ∈ p0, x.block < W.heap.size := by obtain ⟨m, hm⟩ := k0; exact DataW.trod_lt m _ _ _ hm
  obtain ⟨cs0, rfl, hsz0⟩ := okWide_struct Try.underlying47 (hval 0 47 v0 rfl rfl)
  obtain ⟨l0⟩ := cs0
  obtain ⟨e0, e1, e2, e3, e4, e5, e6, e7, e8, e9, e10, e11, rfl⟩ := list12 (hsz0.trans cellsIn)
  obtain ⟨fu0, hf0⟩ := h0
  obtain ⟨yc, nc, hc⟩ := open_field Try.underlying47 hf0 0 _ rfl
  replace hc : DataW.trod enc Try.prog W 0 (fun _ => true) true nc 23 [e0, e1, e2, e3, e4, e5] = some yc := by
    have : List.take (Try.prog.cellsOf 23) [e0, e1, e2, e3, e4, e5, e6, e7, e8, e9, e10, e11] = [e0, e1, e2, e3, e4, e5] := by rw [cellsCfg]; rfl
    rw [← this]; exact hc
  obtain ⟨yu, nu, hu⟩ := open_field Try.underlying47 hf0 2 _ rfl
  replace hu : DataW.trod enc Try.prog W 0 (fun _ => true) true nu 45 [e7, e8, e9] = some yu := by
    have : List.take (Try.prog.cellsOf 45) [e7, e8, e9, e10, e11] = [e7, e8, e9] := by rw [cellsUnit]; rfl
    rw [← this]; exact hu
  obtain ⟨ys, ns, hs⟩ := open_field Try.underlying45 hu 0 _ rfl
  replace hs : DataW.trod enc Try.prog W 0 (fun _ => true) true ns 43 [e7, e8] = some ys := by
    have : List.take (Try.prog.cellsOf 43) [e7, e8, e9] = [e7, e8] := by rw [cellsStripe]; rfl
    rw [← this]; exact hs
  obtain ⟨y0, n0, g0⟩ := open_cell Try.underlying23 hc 0 _ rfl e0 (by show List.take (Try.prog.cellsOf 3) _ = _; rw [cellsInt]; rfl)
  obtain ⟨a0, rfl, w0⟩ := int_cell Try.underlying3 g0
  obtain ⟨y1, n1, g1⟩ := open_cell Try.underlying23 hc 1 _ rfl e1 (by show List.take (Try.prog.cellsOf 3) _ = _; rw [cellsInt]; rfl)
  obtain ⟨a1, rfl, w1⟩ := int_cell Try.underlying3 g1
  obtain ⟨y2, n2, g2⟩ := open_cell Try.underlying23 hc 2 _ rfl e2 (by show List.take (Try.prog.cellsOf 3) _ = _; rw [cellsInt]; rfl)
  obtain ⟨a2, rfl, w2⟩ := int_cell Try.underlying3 g2
  obtain ⟨y3, n3, g3⟩ := open_cell Try.underlying23 hc 3 _ rfl e3 (by show List.take (Try.prog.cellsOf 3) _ = _; rw [cellsInt]; rfl)
  obtain ⟨a3, rfl, w3⟩ := int_cell Try.underlying3 g3
  obtain ⟨y4, n4, g4⟩ := open_cell Try.underlying23 hc 4 _ rfl e4 (by show List.take (Try.prog.cellsOf 3) _ = _; rw [cellsInt]; rfl)
  obtain ⟨a4, rfl, w4⟩ := int_cell Try.underlying3 g4
  obtain ⟨y5, n5, g5⟩ := open_cell Try.underlying23 hc 5 _ rfl e5 (by show List.take (Try.prog.cellsOf 3) _ = _; rw [cellsInt]; rfl)
  obtain ⟨a5, rfl, w5⟩ := int_cell Try.underlying3 g5
  obtain ⟨y6, n6, g6⟩ := open_cell Try.underlying47 hf0 1 _ rfl e6 (by show List.take (Try.prog.cellsOf 3) _ = _; rw [cellsInt]; rfl)
  obtain ⟨a6, rfl, w6⟩ := int_cell Try.underlying3 g6
  obtain ⟨y7, n7, g7⟩ := open_cell Try.underlying43 hs 0 _ rfl e7 (by show List.take (Try.prog.cellsOf 3) _ = _; rw [cellsInt]; rfl)
  obtain ⟨a7, rfl, w7⟩ := int_cell Try.underlying3 g7
  obtain ⟨y8, n8, g8⟩ := open_cell Try.underlying43 hs 1 _ rfl e8 (by show List.take (Try.prog.cellsOf 3) _ = _; rw [cellsInt]; rfl)
  obtain ⟨a8, rfl, w8⟩ := int_cell Try.underlying3 g8
  obtain ⟨y9, n9, g9⟩ := open_cell Try.underlying45 hu 1 _ rfl e9 (by show List.take (Try.prog.cellsOf 3) _ = _; rw [cellsInt]; rfl)
  obtain ⟨a9, rfl, w9⟩ := int_cell Try.underlying3 g9
  obtain ⟨y10, n10, g10⟩ := open_cell Try.underlying47 hf0 3 _ rfl e10 (by show List.take (Try.prog.cellsOf 3) _ = _; rw [cellsInt]; rfl)
  obtain ⟨a10, rfl, w10⟩ := int_cell Try.underlying3 g10
  obtain ⟨y11, n11, g11⟩ := open_cell Try.underlying47 hf0 4 _ rfl e11 (by show List.take (Try.prog.cellsOf 3) _ = _; rw [cellsInt]; rfl)
  obtain ⟨a11, rfl, w11⟩ := int_cell Try.underlying3 g11
  clear hA0 hval0
  have hm : a11 < 9223372036854775808 := by
    have h2 : IntKind.i64.max = 9223372036854775807 := by decide +kernel
    simp only [Lit.wf, Bool.and_eq_true, decide_eq_true_eq] at w11
    rw [h2] at w11
    omega
  have hA := L_matches a0 a1 a2 a3 a4 a5 a6 a7 a8 a9 a10 a11 hm
  have hs : ∀ w, AV.satL (fun _ => False) [] [] w [.agg [iV a0, iV a1, iV a2, iV a3, iV a4, iV a5, iV a6, iV a7, iV a8, iV a9, iV a10, iV a11]] [.agg [.int .i64 a0, .int .i64 a1, .int .i64 a2, .int .i64 a3, .int .i64 a4, .int .i64 a5, .int .i64 a6, .int .i64 a7, .int .i64 a8, .int .i64 a9, .int .i64 a10, .int .i64 a11].toArray] := by intro w; simp [AV.satL, AV.sat, Dat.sat]
  have hc := calls_of_acalls hA [.agg [.int .i64 a0, .int .i64 a1, .int .i64 a2, .int .i64 a3, .int .i64 a4, .int .i64 a5, .int .i64 a6, .int .i64 a7, .int .i64 a8, .int .i64 a9, .int .i64 a10, .int .i64 a11].toArray] W (hs W)
  have hd : Calls Try.prog 9 #[.agg #[.int .i64 a0, .int .i64 a1, .int .i64 a2, .int .i64 a3, .int .i64 a4, .int .i64 a5, .int .i64 a6, .int .i64 a7, .int .i64 a8, .int .i64 a9, .int .i64 a10, .int .i64 a11]] W fun e w' => e = .returned (.bool true) ∧ Below W.heap.size W w' := hc
  refine hd.mono fun e W' ⟨he, bel⟩ => ?_
  subst he
  exact ⟨_, rfl, _, _, _, [], _, [], hW', trodAll_mk1 (shut_bool Try.underlying4 _), (trodAll_cons_mk (Below.trod laidOut (by kernel_rfl) (of_decide_eq_true (by kernel_rfl)) k0 bel lt0) trodAll_mk0), rfl, bel.frame _, fun h => by cases h⟩

theorem over : Rows.layoutMatchesSpecRow.holds Try.pinned (OpenSpec.ofChange Rows.layoutMatchesSpecSpec) :=
  OpenClaim.holds_of_wide 9 Try.f9 rfl rfl rfl rfl rfl rfl rfl ⟨rfl, rfl, rfl, rfl, rfl⟩ rfl rfl rfl rfl rfl (by kernel_rfl) Try.func9 (by kernel_rfl)
    (of_decide_eq_true (by kernel_rfl)) (by unfold Func.isWrapper; first | (rw [if_pos (by decide +kernel)]; kernel_rfl) | (rw [if_neg (by decide +kernel)]; exact ⟨rfl, rfl⟩))
    (fun os started H enc _ => lifted os started H enc)

/-- The statement. -/
theorem proved : Rows.LayoutMatchesSpecSaid := over
#print axioms proved
end Go.Proofs.Ytffdhckilhhejaa.layoutMatchesSpecP
