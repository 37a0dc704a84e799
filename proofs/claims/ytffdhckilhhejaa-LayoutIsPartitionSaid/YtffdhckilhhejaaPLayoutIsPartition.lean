/- LayoutIsPartition: the given statement, out of the walk. For every input; no condition. -/
import Derived.Test.YtffdhckilhhejaaRows
import Derived.Test.YtffdhckilhhejaaKern13
import Derived.Test.YtffdhckilhhejaaLk11
namespace Go.Proofs.Ytffdhckilhhejaa.layoutIsPartitionP
open Go.ChangeShapes Go.WideShapes Go.ChangeAt Go.RowKit
set_option linter.unusedVariables false
set_option linter.unusedSimpArgs false

theorem own : ownKnob Try.prog.godebug = none := by kernel_rfl
theorem laidOut : laidOutB Try.prog = true := by kernel_rfl
theorem cellsConfig : Try.prog.cellsOf 23 = 6 := by kernel_rfl
theorem cells_int : Try.prog.cellsOf 3 = 1 := by kernel_rfl
theorem cells_uint16 : Try.prog.cellsOf 59 = 1 := by kernel_rfl

set_option maxHeartbeats 4000000 in
set_option maxRecDepth 100000 in
theorem lifted (os : Os) (started : os.Started) (H : Type) (enc : TypeId × Value → H) :
    ReturnsInHanded {} Try.checked os 10 .any (Rows.layoutIsPartitionSpec.pre6 enc Try.prog Try.f10 Rows.layoutIsPartitionRow.domain false) (Rows.layoutIsPartitionSpec.post enc Try.prog Try.f10 false true false false) := by
  refine returnsInHanded_of_change (C := Try.checked) own started (by kernel_rfl) Try.func10
    (ChangeSpec.witness6 (enc := enc) (C := Try.checked) false ⟨#[], #[.agg #[.int .i64 0, .int .i64 0, .int .i64 0, .int .i64 0, .int .i64 0, .int .i64 0], .int .i64 0, .int .u16 0], []⟩ 8 (by kernel_rfl) (by kernel_rfl) (by kernel_rfl) (by kernel_rfl)) ?_
  intro W base args ds gs before hval0 hW hcnd _
  have hval : ∀ (j : Nat) t v, Try.f10.params[j]? = some t → args[j]? = some v → Value.okWide Try.prog W .any base t v := hval0
  have hW' := hW
  obtain ⟨p, q, hA0, hV, rfl, hfz, hnd⟩ := hW
  have hA : DataW.TrodAll enc Try.prog W 0 (fun _ => true) true Try.f10.params.toList args.toList ds p := hA0
  rw [Try.params10] at hA hval
  obtain ⟨v0, vs0, d0, ds0, p0, q0, hargs, rfl, rfl, h0, r0⟩ := trodAll_cons hA
  obtain ⟨v1, vs1, d1, ds1, p1, q1, rfl, rfl, rfl, h1, r1⟩ := trodAll_cons r0
  obtain ⟨v2, vs2, d2, ds2, p2, q2, rfl, rfl, rfl, h2, r2⟩ := trodAll_cons r1
  obtain ⟨rfl, rfl, rfl⟩ := trodAll_nil r2
  obtain rfl : args = #[v0, v1, v2] := by cases args; simp_all
  obtain ⟨rfl, rfl⟩ := trodVars_none hV
  have k0 := h0
  have lt0 : ∀ x ∈ p0, x.block < W.heap.size := by obtain ⟨m, hm⟩ := k0; exact DataW.trod_lt m _ _ _ hm
  have k1 := h1
  have lt1 : ∀ x ∈ p1, x.block < W.heap.size := by obtain ⟨m, hm⟩ := k1; exact DataW.trod_lt m _ _ _ hm
  have k2 := h2
  have lt2 : ∀ x ∈ p2, x.block < W.heap.size := by obtain ⟨m, hm⟩ := k2; exact DataW.trod_lt m _ _ _ hm
  obtain ⟨cs0, rfl, hsz0⟩ := okWide_struct Try.underlying23 (hval 0 23 v0 rfl rfl)
  obtain ⟨l0⟩ := cs0
  obtain ⟨e0_0, e0_1, e0_2, e0_3, e0_4, e0_5, rfl⟩ := list6 (hsz0.trans cellsConfig)
  obtain ⟨fu0, hf0⟩ := h0
  obtain ⟨y0_0, n0_0, g0_0⟩ := open_cell Try.underlying23 hf0 0 _ rfl e0_0 (by show List.take (Try.prog.cellsOf 3) _ = _; rw [cells_int]; rfl)
  obtain ⟨a0_0, rfl, w0_0⟩ := int_cell Try.underlying3 g0_0
  obtain ⟨y0_1, n0_1, g0_1⟩ := open_cell Try.underlying23 hf0 1 _ rfl e0_1 (by show List.take (Try.prog.cellsOf 3) _ = _; rw [cells_int]; rfl)
  obtain ⟨a0_1, rfl, w0_1⟩ := int_cell Try.underlying3 g0_1
  obtain ⟨y0_2, n0_2, g0_2⟩ := open_cell Try.underlying23 hf0 2 _ rfl e0_2 (by show List.take (Try.prog.cellsOf 3) _ = _; rw [cells_int]; rfl)
  obtain ⟨a0_2, rfl, w0_2⟩ := int_cell Try.underlying3 g0_2
  obtain ⟨y0_3, n0_3, g0_3⟩ := open_cell Try.underlying23 hf0 3 _ rfl e0_3 (by show List.take (Try.prog.cellsOf 3) _ = _; rw [cells_int]; rfl)
  obtain ⟨a0_3, rfl, w0_3⟩ := int_cell Try.underlying3 g0_3
  obtain ⟨y0_4, n0_4, g0_4⟩ := open_cell Try.underlying23 hf0 4 _ rfl e0_4 (by show List.take (Try.prog.cellsOf 3) _ = _; rw [cells_int]; rfl)
  obtain ⟨a0_4, rfl, w0_4⟩ := int_cell Try.underlying3 g0_4
  obtain ⟨y0_5, n0_5, g0_5⟩ := open_cell Try.underlying23 hf0 5 _ rfl e0_5 (by show List.take (Try.prog.cellsOf 3) _ = _; rw [cells_int]; rfl)
  obtain ⟨a0_5, rfl, w0_5⟩ := int_cell Try.underlying3 g0_5
  obtain ⟨x1, rfl, rfl, rfl, z1⟩ := open_int Try.underlying3 (hval 1 3 v1 rfl rfl) h1
  obtain ⟨x2, rfl, rfl, rfl, z2⟩ := open_int Try.underlying59 (hval 2 59 v2 rfl rfl) h2
  clear hA0 hval0
  have b_x2 : 0 ≤ x2 ∧ x2 < 65536 := by
    have h1 : IntKind.u16.max = 65535 := by decide +kernel
    have h2 : IntKind.u16.min = 0 := by decide +kernel
    have h3 := z2
    simp only [Lit.wf, Bool.and_eq_true, decide_eq_true_eq] at h3
    rw [h1, h2] at h3
    omega
  have hA := L_partition a0_0 a0_1 a0_2 a0_3 a0_4 a0_5 x1 x2 b_x2
  have hs : ∀ w, AV.satL (fun _ => False) [] [] w [.agg [.d (.v (.int .i64 a0_0)), .d (.v (.int .i64 a0_1)), .d (.v (.int .i64 a0_2)), .d (.v (.int .i64 a0_3)), .d (.v (.int .i64 a0_4)), .d (.v (.int .i64 a0_5))], .d (.v (.int .i64 x1)), .d (.v (.int .u16 x2))] [.agg [.int .i64 a0_0, .int .i64 a0_1, .int .i64 a0_2, .int .i64 a0_3, .int .i64 a0_4, .int .i64 a0_5].toArray, .int .i64 x1, .int .u16 x2] := by intro w; simp [AV.satL, AV.sat, Dat.sat]
  have hc := calls_of_acalls hA [.agg [.int .i64 a0_0, .int .i64 a0_1, .int .i64 a0_2, .int .i64 a0_3, .int .i64 a0_4, .int .i64 a0_5].toArray, .int .i64 x1, .int .u16 x2] W (hs W)
  have hd : Calls Try.prog 10 #[.agg #[.int .i64 a0_0, .int .i64 a0_1, .int .i64 a0_2, .int .i64 a0_3, .int .i64 a0_4, .int .i64 a0_5], .int .i64 x1, .int .u16 x2] W fun e w' => e = .returned (.bool true) ∧ Below W.heap.size W w' := hc
  refine hd.mono fun e W' ⟨he, bel⟩ => ?_
  subst he
  exact ⟨_, rfl, _, _, _, [], _, [], hW', trodAll_mk1 (shut_bool Try.underlying4 _), (trodAll_cons_mk (Below.trod laidOut (by kernel_rfl) (of_decide_eq_true (by kernel_rfl)) k0 bel lt0) (trodAll_cons_mk (Below.trod laidOut (by kernel_rfl) (of_decide_eq_true (by kernel_rfl)) k1 bel lt1) (trodAll_cons_mk (Below.trod laidOut (by kernel_rfl) (of_decide_eq_true (by kernel_rfl)) k2 bel lt2) trodAll_mk0))), rfl, bel.frame _, fun h => by cases h⟩

theorem over : Rows.layoutIsPartitionRow.holds Try.pinned (OpenSpec.ofChange Rows.layoutIsPartitionSpec) :=
  OpenClaim.holds_of_wide 10 Try.f10 rfl rfl rfl rfl rfl rfl rfl ⟨rfl, rfl, rfl, rfl, rfl⟩ rfl rfl rfl rfl rfl (by kernel_rfl) Try.func10 (by kernel_rfl)
    (of_decide_eq_true (by kernel_rfl)) (by unfold Func.isWrapper; first | (rw [if_pos (by decide +kernel)]; kernel_rfl) | (rw [if_neg (by decide +kernel)]; exact ⟨rfl, rfl⟩))
    (fun os started H enc _ => lifted os started H enc)

/-- The statement. -/
theorem proved : Rows.LayoutIsPartitionSaid := over
#print axioms proved
end Go.Proofs.Ytffdhckilhhejaa.layoutIsPartitionP
