/- LayoutDeclusters: the given statement, out of the walk. For every input; no condition. -/
import Derived.Test.YtffdhckilhhejaaRows
import Derived.Test.YtffdhckilhhejaaKern13
import Derived.Test.YtffdhckilhhejaaLk12
namespace Go.Proofs.Ytffdhckilhhejaa.layoutDeclustersP
open Go.ChangeShapes Go.WideShapes Go.ChangeAt Go.RowKit
set_option linter.unusedVariables false
set_option linter.unusedSimpArgs false

theorem own : ownKnob Try.prog.godebug = none := by kernel_rfl
theorem laidOut : laidOutB Try.prog = true := by kernel_rfl
theorem cellsLayoutDeclustersIn : Try.prog.cellsOf 62 = 4 := by kernel_rfl
theorem cells_uint8 : Try.prog.cellsOf 5 = 1 := by kernel_rfl

set_option maxHeartbeats 4000000 in
set_option maxRecDepth 100000 in
theorem lifted (os : Os) (started : os.Started) (H : Type) (enc : TypeId × Value → H) :
    ReturnsInHanded {} Try.checked os 13 .any (Rows.layoutDeclustersSpec.pre6 enc Try.prog Try.f13 Rows.layoutDeclustersRow.domain false) (Rows.layoutDeclustersSpec.post enc Try.prog Try.f13 false true false false) := by
  refine returnsInHanded_of_change (C := Try.checked) own started (by kernel_rfl) Try.func13
    (ChangeSpec.witness6 (enc := enc) (C := Try.checked) false ⟨#[], #[.agg #[.int .u8 0, .int .u8 0, .int .u8 0, .int .u8 0]], []⟩ 8 (by kernel_rfl) (by kernel_rfl) (by kernel_rfl) (by kernel_rfl)) ?_
  intro W base args ds gs before hval0 hW hcnd _
  have hval : ∀ (j : Nat) t v, Try.f13.params[j]? = some t → args[j]? = some v → Value.okWide Try.prog W .any base t v := hval0
  have hW' := hW
  obtain ⟨p, q, hA0, hV, rfl, hfz, hnd⟩ := hW
  have hA : DataW.TrodAll enc Try.prog W 0 (fun _ => true) true Try.f13.params.toList args.toList ds p := hA0
  rw [Try.params13] at hA hval
  obtain ⟨v0, vs0, d0, ds0, p0, q0, hargs, rfl, rfl, h0, r0⟩ := trodAll_cons hA
  obtain ⟨rfl, rfl, rfl⟩ := trodAll_nil r0
  obtain rfl : args = #[v0] := by cases args; simp_all
  obtain ⟨rfl, rfl⟩ := trodVars_none hV
  have k0 := h0
  have lt0 : ∀ x ∈ p0, x.block < W.heap.size := by obtain ⟨m, hm⟩ := k0; exact DataW.trod_lt m _ _ _ hm
  obtain ⟨cs0, rfl, hsz0⟩ := okWide_struct Try.underlying62 (hval 0 62 v0 rfl rfl)
  obtain ⟨l0⟩ := cs0
  obtain ⟨e0_0, e0_1, e0_2, e0_3, rfl⟩ := list4 (hsz0.trans cellsLayoutDeclustersIn)
  obtain ⟨fu0, hf0⟩ := h0
  obtain ⟨y0_0, n0_0, g0_0⟩ := open_cell Try.underlying62 hf0 0 _ rfl e0_0 (by show List.take (Try.prog.cellsOf 5) _ = _; rw [cells_uint8]; rfl)
  obtain ⟨a0_0, rfl, w0_0⟩ := int_cell Try.underlying5 g0_0
  obtain ⟨y0_1, n0_1, g0_1⟩ := open_cell Try.underlying62 hf0 1 _ rfl e0_1 (by show List.take (Try.prog.cellsOf 5) _ = _; rw [cells_uint8]; rfl)
  obtain ⟨a0_1, rfl, w0_1⟩ := int_cell Try.underlying5 g0_1
  obtain ⟨y0_2, n0_2, g0_2⟩ := open_cell Try.underlying62 hf0 2 _ rfl e0_2 (by show List.take (Try.prog.cellsOf 5) _ = _; rw [cells_uint8]; rfl)
  obtain ⟨a0_2, rfl, w0_2⟩ := int_cell Try.underlying5 g0_2
  obtain ⟨y0_3, n0_3, g0_3⟩ := open_cell Try.underlying62 hf0 3 _ rfl e0_3 (by show List.take (Try.prog.cellsOf 5) _ = _; rw [cells_uint8]; rfl)
  obtain ⟨a0_3, rfl, w0_3⟩ := int_cell Try.underlying5 g0_3
  clear hA0 hval0
  have b_a0_0 : 0 ≤ a0_0 ∧ a0_0 < 256 := by
    have h1 : IntKind.u8.max = 255 := by decide +kernel
    have h2 : IntKind.u8.min = 0 := by decide +kernel
    have h3 := w0_0
    simp only [Lit.wf, Bool.and_eq_true, decide_eq_true_eq] at h3
    rw [h1, h2] at h3
    omega
  have b_a0_1 : 0 ≤ a0_1 ∧ a0_1 < 256 := by
    have h1 : IntKind.u8.max = 255 := by decide +kernel
    have h2 : IntKind.u8.min = 0 := by decide +kernel
    have h3 := w0_1
    simp only [Lit.wf, Bool.and_eq_true, decide_eq_true_eq] at h3
    rw [h1, h2] at h3
    omega
  have b_a0_2 : 0 ≤ a0_2 ∧ a0_2 < 256 := by
    have h1 : IntKind.u8.max = 255 := by decide +kernel
    have h2 : IntKind.u8.min = 0 := by decide +kernel
    have h3 := w0_2
    simp only [Lit.wf, Bool.and_eq_true, decide_eq_true_eq] at h3
    rw [h1, h2] at h3
    omega
  have b_a0_3 : 0 ≤ a0_3 ∧ a0_3 < 256 := by
    have h1 : IntKind.u8.max = 255 := by decide +kernel
    have h2 : IntKind.u8.min = 0 := by decide +kernel
    have h3 := w0_3
    simp only [Lit.wf, Bool.and_eq_true, decide_eq_true_eq] at h3
    rw [h1, h2] at h3
    omega
  have hA := L_decl a0_0 a0_1 a0_2 a0_3 b_a0_0 b_a0_1 b_a0_2 b_a0_3
  have hs : ∀ w, AV.satL (fun _ => False) [] [] w [.agg [.d (.v (.int .u8 a0_0)), .d (.v (.int .u8 a0_1)), .d (.v (.int .u8 a0_2)), .d (.v (.int .u8 a0_3))]] [.agg [.int .u8 a0_0, .int .u8 a0_1, .int .u8 a0_2, .int .u8 a0_3].toArray] := by intro w; simp [AV.satL, AV.sat, Dat.sat]
  have hc := calls_of_acalls hA [.agg [.int .u8 a0_0, .int .u8 a0_1, .int .u8 a0_2, .int .u8 a0_3].toArray] W (hs W)
  have hd : Calls Try.prog 13 #[.agg #[.int .u8 a0_0, .int .u8 a0_1, .int .u8 a0_2, .int .u8 a0_3]] W fun e w' => e = .returned (.bool true) ∧ Below W.heap.size W w' := hc
  refine hd.mono fun e W' ⟨he, bel⟩ => ?_
  subst he
  exact ⟨_, rfl, _, _, _, [], _, [], hW', trodAll_mk1 (shut_bool Try.underlying4 _), (trodAll_cons_mk (Below.trod laidOut (by kernel_rfl) (of_decide_eq_true (by kernel_rfl)) k0 bel lt0) trodAll_mk0), rfl, bel.frame _, fun h => by cases h⟩

theorem over : Rows.layoutDeclustersRow.holds Try.pinned (OpenSpec.ofChange Rows.layoutDeclustersSpec) :=
  OpenClaim.holds_of_wide 13 Try.f13 rfl rfl rfl rfl rfl rfl rfl ⟨rfl, rfl, rfl, rfl, rfl⟩ rfl rfl rfl rfl rfl (by kernel_rfl) Try.func13 (by kernel_rfl)
    (of_decide_eq_true (by kernel_rfl)) (by unfold Func.isWrapper; first | (rw [if_pos (by decide +kernel)]; kernel_rfl) | (rw [if_neg (by decide +kernel)]; exact ⟨rfl, rfl⟩))
    (fun os started H enc _ => lifted os started H enc)

/-- The statement. -/
theorem proved : Rows.LayoutDeclustersSaid := over
#print axioms proved
end Go.Proofs.Ytffdhckilhhejaa.layoutDeclustersP
