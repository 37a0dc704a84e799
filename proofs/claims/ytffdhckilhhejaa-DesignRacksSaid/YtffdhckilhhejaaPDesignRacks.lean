/- DesignRacks: the given statement, out of the walk. For every input; no condition. -/
import Derived.Test.YtffdhckilhhejaaRows
import Derived.Test.YtffdhckilhhejaaLaw13e
import Derived.Test.YtffdhckilhhejaaOpen
namespace Go.Proofs.Ytffdhckilhhejaa.designRacksP
open Go.ChangeShapes Go.WideShapes Go.ChangeAt Go.RowKit
set_option linter.unusedVariables false
set_option linter.unusedSimpArgs false

theorem own : ownKnob Try.prog.godebug = none := by kernel_rfl
theorem laidOut : laidOutB Try.prog = true := by kernel_rfl
theorem cellsCfg : Try.prog.cellsOf 23 = 6 := by kernel_rfl
theorem cellsInt : Try.prog.cellsOf 3 = 1 := by kernel_rfl

set_option maxRecDepth 100000 in
theorem lifted (os : Os) (started : os.Started) (H : Type) (enc : TypeId × Value → H) :
    ReturnsInHanded {} Try.checked os 5 .any (Rows.designRacksSpec.pre6 enc Try.prog Try.f5 Rows.designRacksRow.domain false) (Rows.designRacksSpec.post enc Try.prog Try.f5 false true false false) := by
  refine returnsInHanded_of_change (C := Try.checked) own started (by kernel_rfl) Try.func5
    (ChangeSpec.witness6 (enc := enc) (C := Try.checked) false ⟨#[], #[.agg #[.int .i64 0, .int .i64 0, .int .i64 0, .int .i64 0, .int .i64 0, .int .i64 0], .int .i64 0, .int .i64 0], []⟩ 8 (by kernel_rfl) (by kernel_rfl) (by kernel_rfl) (by kernel_rfl)) ?_
  intro W base args ds gs before hval0 hW hcnd _
  have hval : ∀ (j : Nat) t v, Try.f5.params[j]? = some t → args[j]? = some v → Value.okWide Try.prog W .any base t v := hval0
  have hW' := hW
  obtain ⟨p, q, hA0, hV, rfl, hfz, hnd⟩ := hW
  have hA : DataW.TrodAll enc Try.prog W 0 (fun _ => true) true Try.f5.params.toList args.toList ds p := hA0
  rw [Try.params5] at hA hval
  obtain ⟨v0, vs0, d0, ds0, p0, q0, hargs, rfl, rfl, h0, r0⟩ := trodAll_cons hA
  obtain ⟨v1, vs1, d1, ds1, p1, q1, rfl, rfl, rfl, h1, r1⟩ := trodAll_cons r0
  obtain ⟨v2, vs2, d2, ds2, p2, q2, rfl, rfl, rfl, h2, r2⟩ := trodAll_cons r1
  obtain ⟨rfl, rfl, rfl⟩ := trodAll_nil r2
  obtain rfl : args = #[v0, v1, v2] := by cases args; simp_all
  obtain ⟨rfl, rfl⟩ := trodVars_none hV
  have k0 := h0
  have lt0 : ∀ x ∈ p0, x.block < W.heap.size := by obtain ⟨m, hm⟩ := k0; exact DataW.trod_lt m _ _ _ hm
  have k1 := h1
  have lt1 : ∀ x ∈ p1, x.block < W.heap.size := by obtain ⟨m, hm⟩ := k1; exact DataW.trod_lt m _ _ _ hm
  have k2 := h2
  have lt2 : ∀ x ∈ p2, x.block < W.heap.size := by obtain ⟨m, hm⟩ := k2; exact DataW.trod_lt m _ _ _ hm
  obtain ⟨cs0, rfl, hsz0⟩ := okWide_struct Try.underlying23 (hval 0 23 v0 rfl rfl)
  obtain ⟨l0⟩ := cs0
  obtain ⟨e0, e1, e2, e3, e4, e5, rfl⟩ := list6 (hsz0.trans cellsCfg)
  obtain ⟨fu0, hf0⟩ := h0
  obtain ⟨y0, n0, g0⟩ := open_cell Try.underlying23 hf0 0 _ rfl e0 (by show List.take (Try.prog.cellsOf 3) _ = _; rw [cellsInt]; rfl)
  obtain ⟨a0, rfl, w0⟩ := int_cell Try.underlying3 g0
  obtain ⟨y1, n1, g1⟩ := open_cell Try.underlying23 hf0 1 _ rfl e1 (by show List.take (Try.prog.cellsOf 3) _ = _; rw [cellsInt]; rfl)
  obtain ⟨a1, rfl, w1⟩ := int_cell Try.underlying3 g1
  obtain ⟨y2, n2, g2⟩ := open_cell Try.underlying23 hf0 2 _ rfl e2 (by show List.take (Try.prog.cellsOf 3) _ = _; rw [cellsInt]; rfl)
  obtain ⟨a2, rfl, w2⟩ := int_cell Try.underlying3 g2
  obtain ⟨y3, n3, g3⟩ := open_cell Try.underlying23 hf0 3 _ rfl e3 (by show List.take (Try.prog.cellsOf 3) _ = _; rw [cellsInt]; rfl)
  obtain ⟨a3, rfl, w3⟩ := int_cell Try.underlying3 g3
  obtain ⟨y4, n4, g4⟩ := open_cell Try.underlying23 hf0 4 _ rfl e4 (by show List.take (Try.prog.cellsOf 3) _ = _; rw [cellsInt]; rfl)
  obtain ⟨a4, rfl, w4⟩ := int_cell Try.underlying3 g4
  obtain ⟨y5, n5, g5⟩ := open_cell Try.underlying23 hf0 5 _ rfl e5 (by show List.take (Try.prog.cellsOf 3) _ = _; rw [cellsInt]; rfl)
  obtain ⟨a5, rfl, w5⟩ := int_cell Try.underlying3 g5
  obtain ⟨x1, rfl, rfl, rfl, z1⟩ := open_int Try.underlying3 (hval 1 3 v1 rfl rfl) h1
  obtain ⟨x2, rfl, rfl, rfl, z2⟩ := open_int Try.underlying3 (hval 2 3 v2 rfl rfl) h2
  clear hA0 hval0
  refine (designRacks_walk a0 a1 a2 a3 a4 a5 x1 x2 W).mono fun e W' ⟨he, bel⟩ => ?_
  subst he
  exact ⟨_, rfl, _, _, _, [], _, [], hW', trodAll_mk1 (shut_bool Try.underlying4 _), (trodAll_cons_mk (Below.trod laidOut (by kernel_rfl) (of_decide_eq_true (by kernel_rfl)) k0 bel lt0) (trodAll_cons_mk (Below.trod laidOut (by kernel_rfl) (of_decide_eq_true (by kernel_rfl)) k1 bel lt1) (trodAll_cons_mk (Below.trod laidOut (by kernel_rfl) (of_decide_eq_true (by kernel_rfl)) k2 bel lt2) trodAll_mk0))), rfl, bel.frame _, fun h => by cases h⟩

theorem over : Rows.designRacksRow.holds Try.pinned (OpenSpec.ofChange Rows.designRacksSpec) :=
  OpenClaim.holds_of_wide 5 Try.f5 rfl rfl rfl rfl rfl rfl rfl ⟨rfl, rfl, rfl, rfl, rfl⟩ rfl rfl rfl rfl rfl (by kernel_rfl) Try.func5 (by kernel_rfl)
    (of_decide_eq_true (by kernel_rfl)) (by unfold Func.isWrapper; first | (rw [if_pos (by decide +kernel)]; kernel_rfl) | (rw [if_neg (by decide +kernel)]; exact ⟨rfl, rfl⟩))
    (fun os started H enc _ => lifted os started H enc)

/-- The statement. -/
theorem proved : Rows.DesignRacksSaid := over
#print axioms proved
end Go.Proofs.Ytffdhckilhhejaa.designRacksP
