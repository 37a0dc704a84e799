import Derived.Test.YtaclmbbiegklcaaGreatDoorMHealthMatchesSpec3
import Derived.ProofKit
import Derived.OpenShut
import Derived.ChangeOld
import Derived.ChangeSame
import Derived.Below
import Derived.Carry
import Derived.SizedLaws
import Derived.SliceStrings
import Derived.Deep.Slices
import Derived.LaidLaws
import Derived.Handed
import Derived.FnData
import Derived.Test.YtaclmbbiegklcaaGreatDoorProg
import Derived.Test.YtaclmbbiegklcaaGreatDoorRows
import Derived.WalkKit
/- Joined texts: Er6 Er7 Er8 Fd6 Open Kern13 Open8 Open10 Fld8 Rf0 Lw1 La1 La2 La3 La4 La5 La6 La7 Ds1 Ds2 Rf1 Rf2 Rp2 Rp3 Xp1 Xp2 Xp3 Xp4. -/
set_option linter.unusedVariables false
set_option linter.unusedSimpArgs false
section
/- Package erasure over the machine of abstract values: Clone of numbers, span.add, span.reduce. -/
namespace Go.Proofs.YtaclmbbiegklcaaGreatDoor
open Go.RowKit
set_option maxHeartbeats 4000000
set_option maxRecDepth 100000
attribute [local irreducible] Quiet Eff OpOk AWPG ACont ABlock ACalls AGoto
def addV (M f : Nat) (T l : List Nat) : Nat → List Nat
  | 0 => T
  | k + 1 => (addV M f T l k).set k ((addV M f T l k).getD k 0 ^^^ Gf.mul M (modN M) f (l.getD k 0))
theorem addV_length (M f : Nat) (T l : List Nat) (k : Nat) : (addV M f T l k).length = T.length := by
  induction k with
  | zero => rfl
  | succ k ih => rw [addV, List.length_set, ih]
theorem addV_lt {M f : Nat} (hM : FldM M) (hf : f < 2 ^ M) {T l : List Nat} (h : ∀ x ∈ T, x < 2 ^ M) (k : Nat) : ∀ x ∈ addV M f T l k, x < 2 ^ M := by
  induction k with
  | zero => exact h
  | succ k ih =>
    intro x hx
    rw [addV] at hx
    rcases List.mem_or_eq_of_mem_set hx with hx | rfl
    · exact ih x hx
    · exact Nat.xor_lt_two_pow (getD_lt ih _) (Gf.mul_lt (FldM.gen hM).hm (FldM.gen hM).top (FldM.gen hM).lt hf _)
structure RedRow (M D n : Nat) (r : Nat × List Nat × List Nat) : Prop where
  c : r.1 < D
  l1 : r.2.1.length = D
  l2 : r.2.2.length = n
  e1 : ∀ x ∈ r.2.1, x < 2 ^ M
  e2 : ∀ x ∈ r.2.2, x < 2 ^ M
def subR (M : Nat) (s : List Nat × List Nat) (r : Nat × List Nat × List Nat) : List Nat × List Nat :=
  if s.1.getD r.1 0 = 0 then s else (addV M (s.1.getD r.1 0) s.1 r.2.1 r.2.1.length, addV M (s.1.getD r.1 0) s.2 r.2.2 r.2.2.length)
structure SubOk (M D n : Nat) (s : List Nat × List Nat) : Prop where
  l1 : s.1.length = D
  l2 : s.2.length = n
  e1 : ∀ x ∈ s.1, x < 2 ^ M
  e2 : ∀ x ∈ s.2, x < 2 ^ M
theorem sub_ok {M D n : Nat} {s : List Nat × List Nat} {r : Nat × List Nat × List Nat} (hM : FldM M) (h : SubOk M D n s) (hr : RedRow M D n r) : SubOk M D n (subR M s r) := by
  unfold subR
  split
  · exact h
  · exact ⟨by rw [addV_length]; exact h.l1, by rw [addV_length]; exact h.l2, addV_lt hM (getD_lt h.e1 _) h.e1 _, addV_lt hM (getD_lt h.e1 _) h.e2 _⟩
def redV (M n : Nat) (row : List Nat) (rows : List (Nat × List Nat × List Nat)) : List Nat × List Nat := rows.foldl (subR M) (row, List.replicate n 0)
theorem redV_ok {M D n : Nat} {row : List Nat} {rows : List (Nat × List Nat × List Nat)} (hM : FldM M) (hl : row.length = D) (he : ∀ x ∈ row, x < 2 ^ M) (hr : ∀ r ∈ rows, RedRow M D n r) : SubOk M D n (redV M n row rows) := by
  unfold redV
  have h0 : SubOk M D n (row, List.replicate n 0) := ⟨hl, List.length_replicate, he, fun x hx => by rw [List.eq_of_mem_replicate hx]; exact Nat.two_pow_pos M⟩
  revert h0
  generalize (row, List.replicate n 0) = s
  intro h0
  induction rows generalizing s with
  | nil => exact h0
  | cons r rows ih => exact ih (fun x hx => hr x (by simp [hx])) _ (sub_ok hM h0 (hr r (by simp)))
end Go.Proofs.YtaclmbbiegklcaaGreatDoor
end
section
/- Package erasure over the machine of abstract values: spanOf. -/
namespace Go.Proofs.YtaclmbbiegklcaaGreatDoor
open Go.RowKit
set_option maxHeartbeats 4000000
set_option maxRecDepth 100000
attribute [local irreducible] Quiet Eff OpOk AWPG ACont ABlock ACalls AGoto
def findNZ (l : List Nat) : Nat := l.findIdx fun x => x != 0
def spanStep (M D n : Nat) (gen b : List Nat) (k : Nat) (rows : List (Nat × List Nat × List Nat)) : List (Nat × List Nat × List Nat) :=
  let s := redV M n ((gen.drop (b.getD k 0 * D)).take D) rows
  let c := s.2.set k (s.2.getD k 0 ^^^ 1)
  if findNZ s.1 < D then
    rows ++ [(findNZ s.1, addV M (invN M (s.1.getD (findNZ s.1) 0)) (List.replicate D 0) s.1 D, addV M (invN M (s.1.getD (findNZ s.1) 0)) (List.replicate n 0) c n)]
  else rows
def spanAt (M D n : Nat) (gen b : List Nat) : Nat → List (Nat × List Nat × List Nat)
  | 0 => []
  | k + 1 => spanStep M D n gen b k (spanAt M D n gen b k)
structure SpanOk (M D n k : Nat) (rows : List (Nat × List Nat × List Nat)) : Prop where
  r : ∀ r ∈ rows, RedRow M D n r
  l : rows.length ≤ k
theorem pick_row {M R D u : Nat} {gen : List Nat} (h : MxOk M R D gen) (hu : u < R) : ((gen.drop (u * D)).take D).length = D ∧ ∀ x ∈ (gen.drop (u * D)).take D, x < 2 ^ M := by
  have := Nat.mul_le_mul_right D (show u + 1 ≤ R from hu)
  rw [Nat.add_mul, Nat.one_mul] at this
  refine ⟨?_, fun x hx => h.e x (List.mem_of_mem_drop (List.mem_of_mem_take hx))⟩
  rw [List.length_take, List.length_drop, h.n]; omega
theorem one_lt {M : Nat} (hM : FldM M) : 1 < 2 ^ M := by unfold FldM at hM; rcases hM with rfl | rfl <;> decide
theorem span_step {M R D n k : Nat} {gen b : List Nat} {rows : List (Nat × List Nat × List Nat)} (hM : FldM M) (hg : MxOk M R D gen) (hb : ∀ u ∈ b, u < R) (hk : k < b.length) (h : SpanOk M D n k rows) : SpanOk M D n (k + 1) (spanStep M D n gen b k rows) := by
  have hu : b.getD k 0 < R := by
    rw [List.getD_eq_getElem?_getD, List.getElem?_eq_getElem hk]
    exact hb _ (List.getElem_mem _)
  obtain ⟨p1, p2⟩ := pick_row hg hu
  have hs := redV_ok (n := n) (rows := rows) hM p1 p2 h.r
  rw [spanStep]
  generalize redV M n ((gen.drop (b.getD k 0 * D)).take D) rows = s at *
  split
  · rename_i hf
    refine ⟨fun r hr => ?_, by have := h.l; simp; omega⟩
    rcases List.mem_append.1 hr with hr | hr
    · exact h.r r hr
    · obtain rfl : r = _ := by simpa using hr
      have hz : ∀ m, ∀ x ∈ List.replicate m 0, x < 2 ^ M := fun m x hx => by rw [List.eq_of_mem_replicate hx]; exact Nat.two_pow_pos M
      exact ⟨hf, by rw [addV_length, List.length_replicate], by rw [addV_length, List.length_replicate], addV_lt hM (invN_lt _) (hz _) _, addV_lt hM (invN_lt _) (hz _) _⟩
  · exact ⟨h.r, by have := h.l; omega⟩
theorem span_ok {M R D n : Nat} {gen b : List Nat} (hM : FldM M) (hg : MxOk M R D gen) (hb : ∀ u ∈ b, u < R) : ∀ k, k ≤ b.length → SpanOk M D n k (spanAt M D n gen b k)
  | 0, _ => ⟨fun r hr => by simp [spanAt] at hr, Nat.le_refl _⟩
  | k + 1, hk => span_step hM hg hb (by omega) (span_ok hM hg hb k (by omega))
theorem basis_lt {M D : Nat} {ps : List (List Nat)} {hv : List Bool} (hl : hv.length = D + ps.length) : ∀ u ∈ basisN M D ps hv, u < D + ps.length := fun u hu => by
  obtain ⟨j, hj, rfl⟩ := List.mem_map.1 hu
  have h1 := red_lt _ j hj
  rw [List.getD_eq_getElem?_getD, List.getElem?_eq_getElem h1]
  have := presAt_lt (List.getElem_mem h1)
  simp only [Option.getD_some]
  omega
theorem basis_len {M D : Nat} {ps : List (List Nat)} {hv : List Bool} (h : CodeOk M D ps) (hl : hv.length = D + ps.length) : (basisN M D ps hv).length ≤ D := by
  have hpl : (presN hv).length ≤ hv.length := presAt_length hv hv.length
  have hplt : ∀ x ∈ presN hv, x < D + ps.length := fun x hx => by have := presAt_lt hx; omega
  have h2 := h.w
  have := (red_ok (M := M) (R := D) (C := (presN hv).length) (L := trN (presN hv).length D (pickN D (genN D ps) (presN hv))) h.f (trN_length _ _ _) (trN_lt (pick_ok (gen_ok h) hplt (by omega)).e) (presN hv).length).pr
  unfold basisN
  rwa [List.length_map]
def spanN (M D : Nat) (ps : List (List Nat)) (hv : List Bool) : List (Nat × List Nat × List Nat) := spanAt M D (basisN M D ps hv).length (genN D ps) (basisN M D ps hv) (basisN M D ps hv).length
end Go.Proofs.YtaclmbbiegklcaaGreatDoor
end
section
/- Package erasure over the machine of abstract values: span.terms, Combination, Recoverable, Decodable. -/
namespace Go.Proofs.YtaclmbbiegklcaaGreatDoor
open Go.RowKit
set_option maxHeartbeats 4000000
set_option maxRecDepth 100000
attribute [local irreducible] Quiet Eff OpOk AWPG ACont ABlock ACalls AGoto
def tmD (t : Nat × Nat) : List Dat := [.v (.int .i64 t.1), .v (.int .i64 t.2)]
abbrev tmsA (l : List (Nat × Nat)) : AV := .d (.sl 2 (l.map tmD))
def tmsAt (us K : List Nat) (k : Nat) : List (Nat × Nat) := ((List.range k).filter fun i => K.getD i 0 != 0).map fun i => (us.getD i 0, K.getD i 0)
theorem tmsAt_succ (us K : List Nat) (k : Nat) : tmsAt us K (k + 1) = if K.getD k 0 = 0 then tmsAt us K k else tmsAt us K k ++ [(us.getD k 0, K.getD k 0)] := by
  unfold tmsAt
  rw [List.range_succ, List.filter_append, List.map_append]
  by_cases h : K.getD k 0 = 0
  · rw [if_pos h]; simp only [List.filter_cons, h]; simp
  · have h2 : (K.getD k 0 != 0) = true := by simpa using h
    rw [if_neg h]; simp only [List.filter_cons, h2, if_true, List.filter_nil, List.map_cons, List.map_nil]
theorem tmsAt_length (us K : List Nat) (k : Nat) : (tmsAt us K k).length ≤ k := by
  unfold tmsAt
  rw [List.length_map]
  exact Nat.le_trans (List.length_filter_le _ _) (by simp)
def termsN (M D : Nat) (ps : List (List Nat)) (us : List Nat) (rows : List (Nat × List Nat × List Nat)) (u : Nat) : Option (List (Nat × Nat)) :=
  let s := redV M us.length (((genN D ps).drop (u * D)).take D) rows
  if s.1.all (fun x => decide (x = 0)) then some (tmsAt us s.2 us.length) else none
def termsA : Option (List (Nat × Nat)) → AV
  | some l => .tup [tmsA l, iV 0]
  | none => .tup [tmsA [], iV 11]
theorem EndsO.nil2 {P : Program} {m : Nat} {env : List (Nat × AV)} {own own' : List Ent} {t t' sz : Nat} {y : AV} (js : List Nat) (h1 : selOk own js = true) (h2 : js.take m = List.range m) (hx : look env t = .d (.v (.slice none 0 0))) (hy : look env t' = y) (hf : AV.frz own js y = y) (ho : selOwn own js = own') : EndsO P m [.tmp t, .tmp t'] (.tup [.d (.sl sz []), y]) own' .ret ⟨env, own⟩ :=
  ⟨.inl rfl, js, [.d (.v (.slice none 0 0)), y], h1, h2, ⟨hx, hy, trivial⟩, by
    show AVle (.tup [_, AV.frz own js y]) _
    rw [hf]
    exact AVle.tup2 (AVle.nil sz) (AVle.of_eq rfl), ho⟩
def combN (M D : Nat) (ps : List (List Nat)) (hv : List Bool) (u : Nat) : Option (List (Nat × Nat)) := termsN M D ps (basisN M D ps hv) (spanN M D ps hv) u
theorem A_decodable {M D : Nat} {ps : List (List Nat)} {hv : List Bool} (h : CodeOk M D ps) (hl : hv.length = D + ps.length) : ACalls Tryz.prog 155 [cdN M D ps, bools hv] [] (bV (decide ((basisN M D ps hv).length = D))) [] := by
  refine acalls_of_bodyO Tryz.func155 rfl (Nat.le_of_ble_eq_true rfl) ?_
  have hb := A_ebasis h hl
  have hbl := basis_len h hl
  generalize basisN M D ps hv = B at *
  have hml : (B.map kD).length = B.length := List.length_map _
  (repeat' (first
  | (apply W.gOn; exact rfl; exact rfl)
  | (apply W.qd; (first
    | (apply (q_callC (hb)); exact rfl; exact rfl; kernel_rfl; kernel_rfl; kernel_rfl)|(apply q_mv; (first|exact vD|exact vO|exact vP|exact vA|exact vF|exact vR|exact vN|exact vY|exact vT|exact vM|exact vL|exact vX))|(apply q_as; (first|exact vD|exact vO|exact vP|exact vA|exact vF|exact vR|exact vN|exact vY|exact vT|exact vM|exact vL|exact vX))|(apply q_fld_optF; (iterate 3 exact rfl))|(apply q_ld_box; (iterate 4 exact rfl))|(apply q_ld_boxF; (iterate 4 exact rfl))|(apply q_eql; exact rfl; exact rfl)|(apply q_extract; exact rfl; exact rfl)|(apply q_len_sl; exact rfl; exact rfl)
    | (apply (q_pickT (u := .d _)); exact rfl; exact rfl)))|(apply W.ed; (apply e_boxF; (iterate 3 exact rfl); kernel_rfl; kernel_rfl))|(apply AWP.seq)|(apply ACont_normal)|(apply W.region; kernel_rfl)|(apply Walk.nil)
  | (apply AWP.ret)))
  all_goals refine ⟨.inl rfl, [], [bV (decide (((B.map kD).length : Int) = D))], rfl, rfl, ⟨rfl, trivial⟩, AVle.of_eq (congrArg bV ?_), rfl⟩
  all_goals rw [hml, decide_eq_decide]
  all_goals omega
end Go.Proofs.YtaclmbbiegklcaaGreatDoor
end
section
/- Package field over the machine of abstract values: symbols, accumulate. -/
namespace Go.Proofs.YtaclmbbiegklcaaGreatDoor
open Go.RowKit
set_option maxHeartbeats 4000000
set_option maxRecDepth 100000
theorem set_getD (l : List Nat) (k v i : Nat) (hi : i < l.length) : (l.set k v).getD i 0 = if i = k then v else l.getD i 0 := by
  simp only [List.getD_eq_getElem?_getD, List.getElem?_set]
  by_cases e : k = i
  · subst e; simp [hi]
  · rw [if_neg e, if_neg (fun h => e h.symm)]
attribute [local irreducible] Quiet Eff OpOk AWPG ACont ABlock ACalls AGoto
end Go.Proofs.YtaclmbbiegklcaaGreatDoor
end
section
/- Opening arguments that are (nested) structs of one-cell fields. No program in sight. -/
namespace Go.Proofs.YtaclmbbiegklcaaGreatDoor
open Go.ChangeShapes Go.WideShapes Go.ChangeAt Go.RowKit
section
variable {H : Type} {enc : TypeId × Value → H} {P : Program} {w : World} {base : Nat} {spare : Nat → Bool} {held : Bool}
theorem open_field {t : TypeId} {fs : Array Field} {fuel : Nat} {cs : List Value} {x : DataW H × List MemPlace} (ht : P.underlying t = some (.struct fs)) (h : DataW.trod enc P w base spare held fuel t cs = some x) (i : Nat) (f : Field) (hf : fs[i]? = some f) :
    ∃ y n, DataW.trod enc P w base spare held n f.type ((cs.drop f.offset).take (P.cellsOf f.type)) = some y := by
  obtain ⟨xs, n, _, _, _, hlen, hg⟩ := DataW.trod_struct ht h
  have h1 := hg i f hf
  have hi : i < fs.size := (Array.getElem?_eq_some_iff.1 hf).1
  exact ⟨xs[i]'(by omega), n, by rw [h1]; exact List.getElem?_eq_getElem (by omega)⟩
end
theorem list4 {α : Type} {l : List α} (h : l.length = 4) : ∃ a0 a1 a2 a3, l = [a0, a1, a2, a3] := by
  match l, h with
  | [a0, a1, a2, a3], _ => exact ⟨_, _, _, _, rfl⟩
end Go.Proofs.YtaclmbbiegklcaaGreatDoor
end
section
/- From the machine of abstract values to the calls of the kit's laws. No program in sight. -/
namespace Go.Proofs.YtaclmbbiegklcaaGreatDoor
open Go.RowKit
theorem calls_of_acalls {P : Program} {f : FuncId} {args : List AV} {b : Bool} {own' : List Ent} (h : ACalls P f args [] (bV b) own') (vs : List Value) (W : World) (hg : ∀ p ∈ glbs, p.1 < W.heap.size ∧ some p.1 ∉ ([] : List (Option Nat)) ∧ ∃ t fz, W.heap[p.1]? = some (.cells p.2 t fz)) (ha : AV.satL (fun _ => False) [] [] W args vs) :
    Calls P f vs.toArray W fun e w' => e = .returned (.bool b) ∧ Below W.heap.size W w' := by
  refine (h (fun _ => False) [] W vs ⟨rfl, (fun _ h => h.elim), (fun _ h => nomatch h), (fun _ _ _ h => by cases h), (fun _ _ h => by cases h), hg⟩ ha).mono ?_
  intro e w' ⟨v, κ', he, hv, _, tr⟩
  refine ⟨?_, tr.os, tr.tape, tr.output, tr.size, fun k hk => tr.old k hk (by simp)⟩
  rw [he]
  have : v = .bool b := by simpa [AV.sat, Dat.sat] using hv
  rw [this]
end Go.Proofs.YtaclmbbiegklcaaGreatDoor
end
section
/- Opening arguments as data: numbers, texts, slices of any depth. No program in sight. -/
namespace Go.Proofs.YtaclmbbiegklcaaGreatDoor
open Go.ChangeShapes Go.WideShapes Go.ChangeAt Go.RowKit
section
variable {H : Type} {enc : TypeId × Value → H} {P : Program} {w : World} {base : Nat} {spare : Nat → Bool} {held : Bool}
def Opens (enc : TypeId × Value → H) (P : Program) (w : World) (base : Nat) (spare : Nat → Bool) (held : Bool) (t : TypeId) {α : Type} (f : α → List Dat) (ok : α → Prop) : Prop :=
  ∀ (fuel : Nat) (cs : List Value) (x : DataW H × List MemPlace), DataW.trod enc P w base spare held fuel t cs = some x →
    ∃ a, ok a ∧ (f a).length = cs.length ∧ ∀ (j : Nat) (y : Dat), (f a)[j]? = some y → ∃ u, cs[j]? = some u ∧ u.oneCell' = true ∧ Dat.sat (badK (fun _ => False) []) w y u
theorem opens_one {t : TypeId} {α : Type} {g : α → Dat} {ok : α → Prop} (h : ∀ (fuel : Nat) (cs : List Value) (x : DataW H × List MemPlace), DataW.trod enc P w base spare held fuel t cs = some x → ∃ a u, ok a ∧ cs = [u] ∧ u.oneCell' = true ∧ Dat.sat (badK (fun _ => False) []) w (g a) u) : Opens enc P w base spare held t (fun a => [g a]) ok := fun fuel cs x hx => by
  obtain ⟨a, u, h1, rfl, h2, h3⟩ := h fuel cs x hx
  refine ⟨a, h1, rfl, fun j y hy => ?_⟩
  cases j with
  | succ j => simp at hy
  | zero =>
    simp only [List.getElem?_cons_zero, Option.some.injEq] at hy
    subst hy
    exact ⟨u, rfl, h2, h3⟩
theorem opens_string {t : TypeId} (ht : P.underlying t = some .string) : Opens enc P w base spare held t sD (fun l => isB l ∧ l.length ≤ maxLen) :=
  opens_one fun fuel cs x hx => by
    obtain ⟨s, rfl, _, hs⟩ := DataW.trod_string ht hx
    refine ⟨s.data.toList.map (·.toNat), .string s, ⟨isB_nat s, by rw [List.length_map]; exact hs⟩, rfl, rfl, ?_⟩
    rw [Dat.sat, bytesOf_nat]
theorem opens_int {t : TypeId} (ht : P.underlying t = some (.int .i64)) : Opens enc P w base spare held t iD (fun n => -9223372036854775808 ≤ n ∧ n < 9223372036854775808) :=
  opens_one fun fuel cs x hx => by
    obtain ⟨n, rfl, _, hw⟩ := DataW.trod_int ht hx
    refine ⟨n, _, ?_, rfl, rfl, rfl⟩
    have h1 : IntKind.i64.max = 9223372036854775807 := by decide +kernel
    have h2 : IntKind.i64.min = -9223372036854775808 := by decide +kernel
    simp only [Lit.wf, Bool.and_eq_true, decide_eq_true_eq] at hw
    rw [h1, h2] at hw
    omega
theorem choose_list {α : Type} {Q : Nat → α → Prop} : ∀ n, (∀ i, i < n → ∃ a, Q i a) → ∃ l : List α, l.length = n ∧ ∀ i a, l[i]? = some a → Q i a
  | 0, _ => ⟨[], rfl, fun i a h => by simp at h⟩
  | n + 1, h => by
    obtain ⟨l, hl, hq⟩ := choose_list n (fun i hi => h i (by omega))
    obtain ⟨a, ha⟩ := h n (by omega)
    refine ⟨l ++ [a], by simp [hl], fun i b hb => ?_⟩
    by_cases hi : i < n
    · rw [List.getElem?_append_left (by omega)] at hb; exact hq i b hb
    · have : i = n := by
        have := (List.getElem?_eq_some_iff.1 hb).1
        simp [hl] at this; omega
      subst this
      rw [List.getElem?_append_right (by omega), hl, Nat.sub_self] at hb
      simp only [List.getElem?_cons_zero, Option.some.injEq] at hb
      subst hb; exact ha
theorem opens_slice {t e : TypeId} {sz : Nat} {α : Type} {f : α → List Dat} {ok : α → Prop} (ht : P.underlying t = some (.slice e)) (hc : P.cellsOf e = sz) (h0 : 0 < sz) (he : Opens enc P w base spare held e f ok) :
    Opens enc P w base spare held t (fun l : List α => [.sl sz (l.map f)]) (fun l => (∀ a ∈ l, ok a) ∧ l.length ≤ maxLen) :=
  opens_one fun fuel cs x hx => by
    rcases DataW.trod_slice ht hx with ⟨rfl, _⟩ | ⟨a, len, cap, elems, rest, n, _, rfl, _, hb, hl, hm, hlen, hel, _, _⟩
    · refine ⟨[], .slice none 0 0, ⟨fun a h => by simp at h, Nat.zero_le _⟩, rfl, rfl, ?_⟩
      rw [Dat.sat]
      exact ⟨none, 0, rfl, Nat.le_refl _, Nat.zero_le _, fun h => by simp at h⟩
    · have each : ∀ i, i < len → ∃ el, ok el ∧ (f el).length = sz ∧ ∀ (j : Nat) (y : Dat), (f el)[j]? = some y → ∃ u, w.cell? ((a.add (i * sz)).add j) = some u ∧ u.oneCell' = true ∧ Dat.sat (badK (fun _ => False) []) w y u := fun i hi => by
        have h1 := hel i hi
        rw [List.getElem?_eq_getElem (by omega), hc, Option.bind_eq_some_iff] at h1
        obtain ⟨cs', h2, h3⟩ := h1
        obtain ⟨_, h4, h5⟩ := World.cells?_some h2
        obtain ⟨el, k1, k2, k3⟩ := he n cs' _ h3
        refine ⟨el, k1, by omega, fun j y hy => ?_⟩
        obtain ⟨u, k4, k5, k6⟩ := k3 j y hy
        have hj : j < sz := by rw [← h4]; exact (List.getElem?_eq_some_iff.1 k4).1
        exact ⟨u, by rw [h5 j hj]; exact k4, k5, k6⟩
      obtain ⟨l, hll, hlq⟩ := choose_list len each
      refine ⟨l, .slice (some a) len cap, ⟨fun el hel2 => ?_, by omega⟩, rfl, rfl, ?_⟩
      · obtain ⟨i, hi, rfl⟩ := List.getElem_of_mem hel2
        exact (hlq i _ (List.getElem?_eq_getElem hi)).1
      · rw [Dat.sat]
        refine ⟨some a, cap, by rw [List.length_map, hll], by rw [List.length_map]; omega, hm, fun hp => ?_⟩
        rw [List.length_map] at hp
        have hfirst := hlq 0 _ (List.getElem?_eq_getElem hp)
        obtain ⟨_, k2, k3⟩ := hfirst
        obtain ⟨u, k4, _, _⟩ := k3 0 _ (List.getElem?_eq_getElem (by omega))
        have e0 : (a.add (0 * sz)).add 0 = a := by simp [Addr.add]
        rw [e0] at k4
        obtain ⟨b, o, sp⟩ := a
        have hsp : sp = none := by
          unfold World.cell? at k4
          split at k4
          · split at k4
            · cases k4
            · rename_i h1; simpa using h1
          · cases k4
        subst hsp
        have hlt : b < w.heap.size := by
          have := World.block_lt_of_cell? _ _ k4
          exact this
        refine ⟨b, o, rfl, hlt, by simp [badK], Dat.rowsSat_iff.2 fun j el hj => ?_⟩
        rw [List.getElem?_map] at hj
        cases hx : l[j]? with
        | none => rw [hx] at hj; cases hj
        | some v =>
          rw [hx] at hj
          simp only [Option.map_some, Option.some.injEq] at hj
          subst hj
          obtain ⟨_, k2', k3'⟩ := hlq j v hx
          refine ⟨k2', Dat.rowSat_iff.2 fun j2 y hy => ?_⟩
          obtain ⟨u', k4', k5', k6'⟩ := k3' j2 y hy
          refine ⟨u', ?_, k5', k6'⟩
          rw [← k4']
          congr 1
          simp only [Addr.add]
          by_cases h1 : j * sz = 0
          · rw [if_pos h1, h1]
            by_cases h2 : j2 = 0
            · rw [if_pos h2, h2]; simp
            · rw [if_neg h2]; simp
          · rw [if_neg h1]
            by_cases h2 : j2 = 0
            · rw [if_pos h2, h2]; simp
            · rw [if_neg h2]
theorem opens_cell {t : TypeId} {α : Type} {g : α → Dat} {ok : α → Prop} {fuel : Nat} {c : Value} {x : DataW H × List MemPlace} (h : Opens enc P w base spare held t (fun a => [g a]) ok) (hx : DataW.trod enc P w base spare held fuel t [c] = some x) : ∃ a, ok a ∧ Dat.sat (badK (fun _ => False) []) w (g a) c := by
  obtain ⟨a, h1, _, h3⟩ := h fuel [c] x hx
  obtain ⟨u, h4, _, h6⟩ := h3 0 (g a) rfl
  simp only [List.getElem?_cons_zero, Option.some.injEq] at h4
  subst h4
  exact ⟨a, h1, h6⟩
theorem opens_arg {t : TypeId} {α : Type} {g : α → Dat} {ok : α → Prop} {v : Value} {d : DataW H} {ps : List MemPlace} (h : Opens enc P w base spare held t (fun a => [g a]) ok) (hv : v.cells.toList = [v]) (hx : DataW.Trod enc P w base spare held t v d ps) : ∃ a, ok a ∧ AV.sat (fun _ => False) [] [] w (.d (g a)) v := by
  obtain ⟨fuel, hf⟩ := hx
  rw [hv] at hf
  obtain ⟨a, h1, h2⟩ := opens_cell h hf
  exact ⟨a, h1, by rw [AV.sat]; exact h2⟩
variable {r : Reach} {b0 : Nat}
theorem cells_sl {t e : TypeId} {v : Value} (ht : P.underlying t = some (.slice e)) (h : Value.okWide P w r b0 t v) : v.cells.toList = [v] := by
  simp only [Value.okWide, ht, Cell.okWide] at h
  cases v <;> simp_all [Cell.ok, Value.cells]
end
end Go.Proofs.YtaclmbbiegklcaaGreatDoor
end
section
/- Opening structs of any fields, among them structs. No program in sight. -/
namespace Go.Proofs.YtaclmbbiegklcaaGreatDoor
open Go.ChangeShapes Go.WideShapes Go.ChangeAt Go.RowKit
section
variable {H : Type} {enc : TypeId × Value → H} {P : Program} {w : World} {base : Nat} {spare : Nat → Bool} {held : Bool}
def OpensTo (enc : TypeId × Value → H) (P : Program) (w : World) (base : Nat) (spare : Nat → Bool) (held : Bool) (t : TypeId) (k : Nat) {α : Type} (f : α → List Dat) (ok : α → Prop) : Prop :=
  ∀ (fuel : Nat) (cs : List Value) (x : DataW H × List MemPlace), DataW.trod enc P w base spare held fuel t cs = some x →
    ∃ a, ok a ∧ (f a).length = k ∧ ∀ (j : Nat) (y : Dat), (f a)[j]? = some y → ∃ u, cs[j]? = some u ∧ u.oneCell' = true ∧ Dat.sat (badK (fun _ => False) []) w y u
theorem opens_to0 {t : TypeId} : OpensTo enc P w base spare held t 0 (fun _ : Unit => []) (fun _ => True) := fun fuel cs x hx =>
  ⟨(), trivial, rfl, fun j y hy => by simp at hy⟩
theorem opens_toS {t : TypeId} {fs : Array Field} {k m : Nat} (i : Nat) {fd : Field} {α β : Type} {f : α → List Dat} {g : β → List Dat} {okf : α → Prop} {okg : β → Prop} (ht : P.underlying t = some (.struct fs)) (h : OpensTo enc P w base spare held t k f okf) (hi : fs[i]? = some fd) (ho : fd.offset = k) (hc : P.cellsOf fd.type = m) (hn : k + m ≤ P.cellsOf t)
    (hg : Opens enc P w base spare held fd.type g okg) : OpensTo enc P w base spare held t (k + m) (fun p : α × β => f p.1 ++ g p.2) (fun p => okf p.1 ∧ okg p.2) := fun fuel cs x hx => by
  obtain ⟨a, h1, h2, h3⟩ := h fuel cs x hx
  obtain ⟨y, n, hy⟩ := open_field ht hx i fd hi
  obtain ⟨_, _, _, _, hl, _, _⟩ := DataW.trod_struct ht hx
  obtain ⟨b, k1, k2, k3⟩ := hg n _ y hy
  rw [ho, hc] at k2 k3
  have hlen : ((cs.drop k).take m).length = m := by rw [List.length_take, List.length_drop]; omega
  refine ⟨(a, b), ⟨h1, k1⟩, by show (f a ++ g b).length = _; rw [List.length_append, h2, k2, hlen], fun j y hy => ?_⟩
  have hy : (f a ++ g b)[j]? = some y := hy
  by_cases hj : j < k
  · rw [List.getElem?_append_left (by omega)] at hy
    exact h3 j y hy
  · rw [List.getElem?_append_right (by omega), h2] at hy
    obtain ⟨u, q1, q2, q3⟩ := k3 _ y hy
    refine ⟨u, ?_, q2, q3⟩
    have hjm : j - k < m := by
      have := (List.getElem?_eq_some_iff.1 hy).1
      omega
    rw [List.getElem?_take, if_pos hjm, List.getElem?_drop] at q1
    rw [← q1]
    congr 1
    omega
theorem opens_all {t : TypeId} {fs : Array Field} {k : Nat} {α : Type} {f : α → List Dat} {ok : α → Prop} (ht : P.underlying t = some (.struct fs)) (hc : P.cellsOf t = k) (h : OpensTo enc P w base spare held t k f ok) : Opens enc P w base spare held t f ok := fun fuel cs x hx => by
  obtain ⟨a, h1, h2, h3⟩ := h fuel cs x hx
  obtain ⟨_, _, _, _, hl, _, _⟩ := DataW.trod_struct ht hx
  exact ⟨a, h1, by omega, h3⟩
theorem opens_map {t : TypeId} {α β : Type} {f : α → List Dat} {ok : α → Prop} (h : Opens enc P w base spare held t f ok) (φ : α → β) {g : β → List Dat} {okg : β → Prop} (he : ∀ a, ok a → g (φ a) = f a ∧ okg (φ a)) : Opens enc P w base spare held t g okg := fun fuel cs x hx => by
  obtain ⟨a, h1, h2, h3⟩ := h fuel cs x hx
  refine ⟨φ a, (he a h1).2, by rw [(he a h1).1]; exact h2, by rw [(he a h1).1]; exact h3⟩
theorem opens_agg {t : TypeId} {α : Type} {f : α → List Dat} {ok : α → Prop} {cs : List Value} {d : DataW H} {ps : List MemPlace} (h : Opens enc P w base spare held t f ok) (hv : (Value.agg cs.toArray).cells.toList = cs) (hx : DataW.Trod enc P w base spare held t (.agg cs.toArray) d ps) : ∃ a, ok a ∧ AV.sat (fun _ => False) [] [] w (.agg ((f a).map .d)) (.agg cs.toArray) := by
  obtain ⟨fuel, hf⟩ := hx
  rw [hv] at hf
  obtain ⟨a, h1, h2, h3⟩ := h fuel cs _ hf
  refine ⟨a, h1, ?_⟩
  rw [AV.sat]
  refine ⟨_, rfl, satL_of (by simp [h2]) fun j x hj => ?_⟩
  rw [List.getElem?_map] at hj
  cases hy : (f a)[j]? with
  | none => rw [hy] at hj; cases hj
  | some y =>
    rw [hy] at hj
    obtain rfl : AV.d y = x := by simpa using hj
    obtain ⟨u, q1, q2, q3⟩ := h3 j y hy
    exact ⟨u, by simpa using q1, by rw [AV.sat]; exact q3⟩
end
end Go.Proofs.YtaclmbbiegklcaaGreatDoor
end
section
/- The package-level variable of package field, as the row lists it. -/
namespace Go.Proofs.YtaclmbbiegklcaaGreatDoor
open Go.ChangeShapes Go.WideShapes Go.ChangeAt Go.RowKit
set_option maxRecDepth 100000
section
variable {H : Type} {enc : TypeId × Value → H} {w : World} {base : Nat} {spare : Nat → Bool} {held : Bool}
theorem cellsI : Tryz.prog.cellsOf 3 = 1 := by kernel_rfl
theorem cells125 : Tryz.prog.cellsOf 227 = 2 := by kernel_rfl
theorem cells126 : Tryz.prog.cellsOf 228 = 4 := by kernel_rfl
theorem two_cells {fuel : Nat} {c0 c1 : Value} {a b : Int} {q : List MemPlace} (h : DataW.trod enc Tryz.prog w base spare held fuel 227 [c0, c1] = some (.agg [.lit (.int .i64 a), .lit (.int .i64 b)], q)) : c0 = .int .i64 a ∧ c1 = .int .i64 b := by
  obtain ⟨xs, n, _, hx, _, hlen, hg⟩ := DataW.trod_struct Tryz.underlying227 h
  have h0 := hg 0 _ rfl
  have h1 := hg 1 _ rfl
  obtain ⟨y0, y1, rfl⟩ : ∃ y0 y1, xs = [y0, y1] := by
    match xs, hlen with
    | [y0, y1], _ => exact ⟨_, _, rfl⟩
  replace h0 : DataW.trod enc Tryz.prog w base spare held n 3 [c0] = some y0 := by
    have e : List.take (Tryz.prog.cellsOf 3) [c0, c1] = [c0] := by rw [cellsI]; rfl
    rw [← e]; exact h0
  replace h1 : DataW.trod enc Tryz.prog w base spare held n 3 [c1] = some y1 := by
    have e : List.take (Tryz.prog.cellsOf 3) [c1] = [c1] := by rw [cellsI]; rfl
    rw [← e]; exact h1
  obtain ⟨m0, g0, e0, _⟩ := DataW.trod_int Tryz.underlying3 h0
  obtain ⟨m1, g1, e1, _⟩ := DataW.trod_int Tryz.underlying3 h1
  subst e0; subst e1
  obtain ⟨hx1, _⟩ := Prod.mk.inj hx
  simp only [List.map_cons, List.map_nil, DataW.agg.injEq, List.cons.injEq, DataW.lit.injEq, Lit.int.injEq, and_true, true_and] at hx1
  obtain ⟨rfl, rfl⟩ := hx1
  simp only [List.cons.injEq, and_true] at g0 g1
  exact ⟨g0, g1⟩
theorem fields_cells {fuel : Nat} {cs : Array Value} {q : List MemPlace} (h : DataW.trod enc Tryz.prog w base spare held fuel 228 cs.toList = some (Rows.laid_solvent_field_fields, q)) : cs = #[.int .i64 8, .int .i64 285, .int .i64 16, .int .i64 69643] := by
  obtain ⟨xs, m, _, hx, hcl, hlen, hg⟩ := DataW.trod_array Tryz.underlying228 h
  obtain ⟨l⟩ := cs
  obtain ⟨c0, c1, c2, c3, rfl⟩ := list4 (hcl.trans cells126)
  have h0 := hg 0 (by decide)
  have h1 := hg 1 (by decide)
  obtain ⟨y0, y1, rfl⟩ : ∃ y0 y1, xs = [y0, y1] := by
    match xs, hlen with
    | [y0, y1], _ => exact ⟨_, _, rfl⟩
  rw [cells125] at h0 h1
  replace h0 : DataW.trod enc Tryz.prog w base spare held m 227 [c0, c1] = some y0 := h0
  replace h1 : DataW.trod enc Tryz.prog w base spare held m 227 [c2, c3] = some y1 := h1
  obtain ⟨hx1, _⟩ := Prod.mk.inj hx
  unfold Rows.laid_solvent_field_fields at hx1
  simp only [List.map_cons, List.map_nil, DataW.agg.injEq, List.cons.injEq, and_true] at hx1
  obtain ⟨y00, y01⟩ := y0
  obtain ⟨y10, y11⟩ := y1
  obtain ⟨r0, r1⟩ := hx1
  dsimp only at r0 r1
  subst r0; subst r1
  obtain ⟨rfl, rfl⟩ := two_cells h0
  obtain ⟨rfl, rfl⟩ := two_cells h1
  rfl
theorem satL_cons {F : Nat → Prop} {own : List Ent} {κ : List (Option Nat)} {x : AV} {v : Value} {l : List AV} {vs : List Value} (h : AV.sat F own κ w x v) (hl : AV.satL F own κ w l vs) : AV.satL F own κ w (x :: l) (v :: vs) := by
  rw [AV.satL]; exact ⟨h, hl⟩
theorem satL_nil {F : Nat → Prop} {own : List Ent} {κ : List (Option Nat)} : AV.satL F own κ w [] [] := by rw [AV.satL]; trivial
end
end Go.Proofs.YtaclmbbiegklcaaGreatDoor
end
section
/- The reference of layer 8: Small, Few. -/
namespace Go.Proofs.YtaclmbbiegklcaaGreatDoor
open Go.RowKit
set_option linter.unusedSectionVars false
set_option maxHeartbeats 4000000
set_option maxRecDepth 100000
theorem ACalls.le {P : Program} {f : FuncId} {args args' : List AV} {r : AV} {own own' : List Ent} (h : ACalls P f args own r own') (hle : ∀ F κ w vs, AV.satL F own κ w args' vs → AV.satL F own κ w args vs) : ACalls P f args' own r own' := fun F κ w vs ho hsat => h F κ w vs ho (hle F κ w vs hsat)
theorem satL_le1 {x x' : AV} {l : List AV} (h : ∀ F own κ w u, AV.sat F own κ w x' u → AV.sat F own κ w x u) : ∀ F own κ w vs, AV.satL F own κ w (x' :: l) vs → AV.satL F own κ w (x :: l) vs := fun F own κ w vs hs => by
  cases vs with
  | nil => simp [AV.satL] at hs
  | cons v vs =>
    rw [AV.satL] at hs ⊢
    exact ⟨h _ _ _ _ _ hs.1, hs.2⟩
attribute [local irreducible] Quiet Eff OpOk AWPG ACont ABlock ACalls AGoto
end Go.Proofs.YtaclmbbiegklcaaGreatDoor
end
section
/- solventlaw08.sanity over the machine of abstract values. -/
namespace Go.Proofs.YtaclmbbiegklcaaGreatDoor
open Go.RowKit
set_option maxHeartbeats 4000000
set_option maxRecDepth 100000
def hv0 : List Bool := [true, false, false, false, true]
attribute [local irreducible] Quiet Eff OpOk AWPG ACont ABlock ACalls AGoto
end Go.Proofs.YtaclmbbiegklcaaGreatDoor
end
section
/- Linear algebra over a field of 2^M elements: sums, spans. Plain. -/
namespace Go.Proofs.YtaclmbbiegklcaaGreatDoor
open Go.RowKit
set_option linter.unusedSectionVars false
abbrev mu (M a b : Nat) : Nat := Gf.mul M (modN M) a b
section
variable {M : Nat} (hM : FldM M)
theorem mu_xor (a b c : Nat) : mu M a (b ^^^ c) = mu M a b ^^^ mu M a c := Gf.mul_xor a b c
theorem xor_mu (a b c : Nat) : mu M (a ^^^ b) c = mu M a c ^^^ mu M b c := Gf.xor_mul a b c
theorem mu_zero (a : Nat) : mu M a 0 = 0 := Gf.mul_zero a
theorem zero_mu (a : Nat) : mu M 0 a = 0 := Gf.zero_mul a
include hM
theorem mu_lt {a : Nat} (ha : a < 2 ^ M) (b : Nat) : mu M a b < 2 ^ M := Gf.mul_lt (FldM.gen hM).hm (FldM.gen hM).top (FldM.gen hM).lt ha b
theorem mu_one {a : Nat} (ha : a < 2 ^ M) : mu M a 1 = a := Gf.mul_one (FldM.gen hM).hm ha
theorem one_mu {a : Nat} (ha : a < 2 ^ M) : mu M 1 a = a := Gf.one_mul ha
theorem mu_comm {a b : Nat} (ha : a < 2 ^ M) (hb : b < 2 ^ M) : mu M a b = mu M b a := Gf.mul_comm ha hb
theorem mu_assoc {a b c : Nat} (ha : a < 2 ^ M) (hb : b < 2 ^ M) (hc : c < 2 ^ M) : mu M (mu M a b) c = mu M a (mu M b c) := Gf.mul_assoc (FldM.gen hM).hm (FldM.gen hM).top (FldM.gen hM).lt ha hb hc
theorem inv_mu {a : Nat} (h0 : a ≠ 0) (ha : a < 2 ^ M) : mu M (invN M a) a = 1 ∧ mu M a (invN M a) = 1 := by
  obtain ⟨b, h1, _, h3⟩ := (FldM.gen hM).inv h0 ha
  have e := invN_eq hM ha h1 h3
  rw [e]
  exact ⟨by rw [mu_comm hM h1 ha]; exact h3, h3⟩
end
theorem xor_lt' {M a b : Nat} (ha : a < 2 ^ M) (hb : b < 2 ^ M) : a ^^^ b < 2 ^ M := Nat.xor_lt_two_pow ha hb
theorem xor_self_cancel (a b : Nat) : (a ^^^ b) ^^^ b = a := by rw [Nat.xor_assoc, Nat.xor_self, Nat.xor_zero]
theorem eq_of_xor {a b : Nat} (h : a ^^^ b = 0) : a = b := by
  have : (a ^^^ b) ^^^ b = 0 ^^^ b := by rw [h]
  rwa [xor_self_cancel, Nat.zero_xor] at this
def sg (f : Nat → Nat) : Nat → Nat
  | 0 => 0
  | n + 1 => sg f n ^^^ f n
theorem sg_congr {f g : Nat → Nat} : ∀ n, (∀ i, i < n → f i = g i) → sg f n = sg g n
  | 0, _ => rfl
  | n + 1, h => by rw [sg, sg, sg_congr n (fun i hi => h i (by omega)), h n (by omega)]
theorem sg_zero (n : Nat) : sg (fun _ => 0) n = 0 := by
  induction n with
  | zero => rfl
  | succ n ih => rw [sg, ih, Nat.xor_zero]
theorem sg_xor (f g : Nat → Nat) (n : Nat) : sg (fun i => f i ^^^ g i) n = sg f n ^^^ sg g n := by
  induction n with
  | zero => simp [sg]
  | succ n ih => rw [sg, sg, sg, ih]; exact Gf.xor4 _ _ _ _
theorem sg_mu {M : Nat} (c : Nat) (f : Nat → Nat) (n : Nat) : mu M c (sg f n) = sg (fun i => mu M c (f i)) n := by
  induction n with
  | zero => exact mu_zero c
  | succ n ih => rw [sg, sg, mu_xor, ih]
theorem sg_one {f : Nat → Nat} {k : Nat} : ∀ n, (∀ i, i < n → i ≠ k → f i = 0) → sg f n = if k < n then f k else 0
  | 0, _ => by simp [sg]
  | n + 1, h => by
    rw [sg, sg_one n (fun i hi => h i (by omega))]
    by_cases e : n = k
    · subst e; rw [if_neg (by omega), if_pos (by omega), Nat.zero_xor]
    · rw [h n (by omega) e, Nat.xor_zero]
      by_cases hk : k < n
      · rw [if_pos hk, if_pos (by omega)]
      · rw [if_neg hk, if_neg (by omega)]
def Vc (M D : Nat) (v : Nat → Nat) : Prop := ∀ x, x < D → v x < 2 ^ M
inductive Sp (M D : Nat) (S : (Nat → Nat) → Prop) : (Nat → Nat) → Prop
  | zero {v : Nat → Nat} (h : ∀ x, x < D → v x = 0) : Sp M D S v
  | step {u s v : Nat → Nat} {c : Nat} (hu : Sp M D S u) (hs : S s) (hc : c < 2 ^ M) (h : ∀ x, x < D → v x = u x ^^^ mu M c (s x)) : Sp M D S v
section
variable {M D : Nat} {S S' : (Nat → Nat) → Prop} {u v s : Nat → Nat}
theorem Sp.congr (h : Sp M D S u) (e : ∀ x, x < D → v x = u x) : Sp M D S v := by
  cases h with
  | zero h => exact .zero fun x hx => by rw [e x hx, h x hx]
  | step hu hs hc h => exact .step hu hs hc fun x hx => by rw [e x hx, h x hx]
theorem Sp.add (hu : Sp M D S u) (hv : Sp M D S v) : Sp M D S (fun x => u x ^^^ v x) := by
  induction hv with
  | zero h => exact hu.congr fun x hx => by rw [h x hx, Nat.xor_zero]
  | step h1 hs hc h ih => exact .step ih hs hc fun x hx => by rw [h x hx, Nat.xor_assoc]
theorem Sp.smul (hM : FldM M) (hS : ∀ s, S s → Vc M D s) {c : Nat} (hc : c < 2 ^ M) (hu : Sp M D S u) : Sp M D S (fun x => mu M c (u x)) := by
  induction hu with
  | zero h => exact .zero fun x hx => by rw [h x hx, mu_zero]
  | step h1 hs hc2 h ih => exact .step ih hs (mu_lt hM hc _) fun x hx => by rw [h x hx, mu_xor, mu_assoc hM hc hc2 (hS _ hs x hx)]
theorem Sp.of (hM : FldM M) (hS : ∀ s, S s → Vc M D s) (hs : S s) : Sp M D S s :=
  .step (.zero (v := fun _ => 0) fun _ _ => rfl) hs (one_lt hM) fun x hx => by rw [Nat.zero_xor, one_mu hM (hS s hs x hx)]
theorem Sp.trans (hM : FldM M) (hS' : ∀ s, S' s → Vc M D s) (h : ∀ s, S s → Sp M D S' s) (hv : Sp M D S v) : Sp M D S' v := by
  induction hv with
  | zero h => exact .zero h
  | step h1 hs hc h2 ih => exact (ih.add ((h _ hs).smul hM hS' hc)).congr h2
theorem Sp.mono (h : ∀ s, S s → S' s) (hv : Sp M D S v) : Sp M D S' v := by
  induction hv with
  | zero h => exact .zero h
  | step h1 hs hc h2 ih => exact .step ih (h _ hs) hc h2
theorem Sp.vc (hM : FldM M) (hS : ∀ s, S s → Vc M D s) (hv : Sp M D S v) : Vc M D v := by
  induction hv with
  | zero h => exact fun x hx => by rw [h x hx]; exact Nat.two_pow_pos M
  | step h1 hs hc h2 ih => exact fun x hx => by rw [h2 x hx]; exact xor_lt' (ih x hx) (mu_lt hM hc _)
theorem Sp.vanish {x : Nat} (hx : x < D) (h : ∀ s, S s → s x = 0) (hv : Sp M D S v) : v x = 0 := by
  induction hv with
  | zero h => exact h x hx
  | step h1 hs hc h2 ih => rw [h2 x hx, ih, h _ hs, mu_zero, Nat.xor_zero]
theorem Sp.sum (hM : FldM M) (hS : ∀ s, S s → Vc M D s) {c : Nat → Nat} {w : Nat → Nat → Nat} : ∀ n, (∀ j, j < n → c j < 2 ^ M ∧ Sp M D S (w j)) → Sp M D S (fun x => sg (fun j => mu M (c j) (w j x)) n)
  | 0, _ => .zero fun _ _ => rfl
  | n + 1, h => (Sp.sum hM hS n fun j hj => h j (by omega)).add ((h n (by omega)).2.smul hM hS (h n (by omega)).1)
theorem Sp.split {r : Nat → Nat} (h : Sp M D (fun s => s = r ∨ S s) v) : ∃ c u, c < 2 ^ M ∧ Sp M D S u ∧ ∀ x, x < D → v x = u x ^^^ mu M c (r x) := by
  induction h with
  | zero h => exact ⟨0, fun _ => 0, Nat.two_pow_pos M, .zero fun _ _ => rfl, fun x hx => by rw [h x hx, zero_mu, Nat.xor_zero]⟩
  | step h1 hs hc h2 ih =>
    obtain ⟨c0, u0, e1, e2, e3⟩ := ih
    rcases hs with rfl | hs
    · exact ⟨_, u0, xor_lt' e1 hc, e2, fun x hx => by rw [h2 x hx, e3 x hx, xor_mu, Nat.xor_assoc]⟩
    · refine ⟨c0, _, e1, .step e2 hs hc fun x hx => rfl, fun x hx => ?_⟩
      rw [h2 x hx, e3 x hx, Nat.xor_assoc, Nat.xor_assoc, Nat.xor_comm (mu M c0 _)]
end
end Go.Proofs.YtaclmbbiegklcaaGreatDoor
end
section
/- Row operations as maps of columns; what reduce leaves. Plain. -/
namespace Go.Proofs.YtaclmbbiegklcaaGreatDoor
open Go.RowKit
set_option linter.unusedSectionVars false
structure Iso (M D : Nat) (T S : (Nat → Nat) → Nat → Nat) : Prop where
  congr : ∀ u v, (∀ i, i < D → u i = v i) → ∀ i, i < D → T u i = T v i
  congrS : ∀ u v, (∀ i, i < D → u i = v i) → ∀ i, i < D → S u i = S v i
  lt : ∀ v, Vc M D v → Vc M D (T v)
  ltS : ∀ v, Vc M D v → Vc M D (S v)
  add : ∀ u v i, i < D → T (fun k => u k ^^^ v k) i = T u i ^^^ T v i
  smul : ∀ c v, c < 2 ^ M → Vc M D v → ∀ i, i < D → T (fun k => mu M c (v k)) i = mu M c (T v i)
  ts : ∀ v, Vc M D v → ∀ i, i < D → T (S v) i = v i
  st : ∀ v, Vc M D v → ∀ i, i < D → S (T v) i = v i
theorem Iso.id (M D : Nat) : Iso M D (fun v => v) (fun v => v) := ⟨fun _ _ h => h, fun _ _ h => h, fun _ h => h, fun _ h => h, fun _ _ _ _ => rfl, fun _ _ _ _ _ _ => rfl, fun _ _ _ _ => rfl, fun _ _ _ _ => rfl⟩
section
variable {M D : Nat} {T S T' S' : (Nat → Nat) → Nat → Nat}
theorem Iso.comp (h' : Iso M D T' S') (h : Iso M D T S) : Iso M D (fun v => T' (T v)) (fun v => S (S' v)) where
  congr u v e := h'.congr _ _ (h.congr u v e)
  congrS u v e := h.congrS _ _ (h'.congrS u v e)
  lt v hv := h'.lt _ (h.lt v hv)
  ltS v hv := h.ltS _ (h'.ltS v hv)
  add u v i hi := by
    rw [h'.congr _ _ (fun k hk => h.add u v k hk) i hi]
    exact h'.add _ _ i hi
  smul c v hc hv i hi := by
    rw [h'.congr _ _ (fun k hk => h.smul c v hc hv k hk) i hi]
    exact h'.smul c _ hc (h.lt v hv) i hi
  ts v hv i hi := by
    rw [h'.congr _ _ (fun k hk => h.ts _ (h'.ltS v hv) k hk) i hi]
    exact h'.ts v hv i hi
  st v hv i hi := by
    rw [h.congrS _ _ (fun k hk => h'.st _ (h.lt v hv) k hk) i hi]
    exact h.st v hv i hi
theorem Iso.zero (h : Iso M D T S) {v : Nat → Nat} (hv : ∀ i, i < D → v i = 0) (i : Nat) (hi : i < D) : T v i = 0 := by
  have h1 := h.add v v i hi
  rw [Nat.xor_self] at h1
  rw [← h1]
  exact h.congr _ _ (fun k hk => by rw [hv k hk, Nat.xor_self]) i hi
theorem Iso.sum (h : Iso M D T S) {c : Nat → Nat} {w : Nat → Nat → Nat} : ∀ n, (∀ j, j < n → c j < 2 ^ M ∧ Vc M D (w j)) → ∀ i, i < D → T (fun x => sg (fun j => mu M (c j) (w j x)) n) i = sg (fun j => mu M (c j) (T (w j) i)) n
  | 0, _, i, hi => h.zero (fun _ _ => rfl) i hi
  | n + 1, hc, i, hi => by
    show T (fun x => sg (fun j => mu M (c j) (w j x)) n ^^^ mu M (c n) (w n x)) i = _
    rw [h.add (fun x => sg (fun j => mu M (c j) (w j x)) n) (fun x => mu M (c n) (w n x)) i hi, Iso.sum h n (fun j hj => hc j (by omega)) i hi, h.smul _ _ (hc n (by omega)).1 (hc n (by omega)).2 i hi]
    rfl
theorem Iso.inj (h : Iso M D T S) {u v : Nat → Nat} (hu : Vc M D u) (hv : Vc M D v) (e : ∀ i, i < D → T u i = T v i) : ∀ i, i < D → u i = v i := fun i hi => by
  rw [← h.st u hu i hi, ← h.st v hv i hi]
  exact h.congrS _ _ e i hi
theorem iso_swap {i k : Nat} (hi : i < D) (hk : k < D) : Iso M D (fun v r => if r = i then v k else if r = k then v i else v r) (fun v r => if r = i then v k else if r = k then v i else v r) where
  congr u v e r hr := by
    (try dsimp only)
    split
    · exact e k hk
    · split
      · exact e i hi
      · exact e r hr
  congrS u v e r hr := by
    (try dsimp only)
    split
    · exact e k hk
    · split
      · exact e i hi
      · exact e r hr
  lt v hv r hr := by
    (try dsimp only)
    split
    · exact hv k hk
    · split
      · exact hv i hi
      · exact hv r hr
  ltS v hv r hr := by
    (try dsimp only)
    split
    · exact hv k hk
    · split
      · exact hv i hi
      · exact hv r hr
  add u v r hr := by
    (try dsimp only)
    split
    · rfl
    · split <;> rfl
  smul c v hc hv r hr := by
    (try dsimp only)
    split
    · rfl
    · split <;> rfl
  ts v hv r hr := by
    (try dsimp only)
    by_cases h1 : r = i
    · subst h1
      by_cases h2 : k = r
      · subst h2; simp
      · simp [h2]
    · by_cases h2 : r = k
      · subst h2; simp [h1]
      · simp [h1, h2]
  st v hv r hr := by
    (try dsimp only)
    by_cases h1 : r = i
    · subst h1
      by_cases h2 : k = r
      · subst h2; simp
      · simp [h2]
    · by_cases h2 : r = k
      · subst h2; simp [h1]
      · simp [h1, h2]
theorem iso_scale (hM : FldM M) {p f g : Nat} (hp : p < D) (hf : f < 2 ^ M) (hg : g < 2 ^ M) (h1 : mu M f g = 1) : Iso M D (fun v r => if r = p then mu M f (v p) else v r) (fun v r => if r = p then mu M g (v p) else v r) where
  congr u v e r hr := by
    show (if _ then _ else _) = if _ then _ else _
    split
    · rw [e p hp]
    · exact e r hr
  congrS u v e r hr := by
    show (if _ then _ else _) = if _ then _ else _
    split
    · rw [e p hp]
    · exact e r hr
  lt v hv r hr := by
    (try dsimp only)
    split
    · exact mu_lt hM hf _
    · exact hv r hr
  ltS v hv r hr := by
    (try dsimp only)
    split
    · exact mu_lt hM hg _
    · exact hv r hr
  add u v r hr := by
    (try dsimp only)
    split
    · exact mu_xor _ _ _
    · rfl
  smul c v hc hv r hr := by
    (try dsimp only)
    split
    · rw [← mu_assoc hM hf hc (hv p hp), mu_comm hM hf hc, mu_assoc hM hc hf (hv p hp)]
    · rfl
  ts v hv r hr := by
    (try dsimp only)
    by_cases h : r = p
    · subst h
      rw [if_pos rfl, if_pos rfl, ← mu_assoc hM hf hg (hv r hr), h1, one_mu hM (hv r hr)]
    · rw [if_neg h, if_neg h]
  st v hv r hr := by
    (try dsimp only)
    by_cases h : r = p
    · subst h
      rw [if_pos rfl, if_pos rfl, ← mu_assoc hM hg hf (hv r hr), mu_comm hM hg hf, h1, one_mu hM (hv r hr)]
    · rw [if_neg h, if_neg h]
theorem iso_clear (hM : FldM M) {p : Nat} {g : Nat → Nat} (hp : p < D) (hg : ∀ r, r < D → g r < 2 ^ M) : Iso M D (fun v r => if r = p then v p else v r ^^^ mu M (g r) (v p)) (fun v r => if r = p then v p else v r ^^^ mu M (g r) (v p)) where
  congr u v e r hr := by
    (try dsimp only)
    split
    · exact e p hp
    · rw [e r hr, e p hp]
  congrS u v e r hr := by
    (try dsimp only)
    split
    · exact e p hp
    · rw [e r hr, e p hp]
  lt v hv r hr := by
    (try dsimp only)
    split
    · exact hv p hp
    · exact xor_lt' (hv r hr) (mu_lt hM (hg r hr) _)
  ltS v hv r hr := by
    (try dsimp only)
    split
    · exact hv p hp
    · exact xor_lt' (hv r hr) (mu_lt hM (hg r hr) _)
  add u v r hr := by
    (try dsimp only)
    split
    · rfl
    · rw [mu_xor]; exact Gf.xor4 _ _ _ _
  smul c v hc hv r hr := by
    (try dsimp only)
    split
    · rfl
    · rw [mu_xor, ← mu_assoc hM (hg r hr) hc (hv p hp), mu_comm hM (hg r hr) hc, mu_assoc hM hc (hg r hr) (hv p hp)]
  ts v hv r hr := by
    (try dsimp only)
    by_cases h : r = p
    · subst h; simp
    · rw [if_neg h, if_neg h, if_pos rfl, xor_self_cancel]
  st v hv r hr := by
    (try dsimp only)
    by_cases h : r = p
    · subst h; simp
    · rw [if_neg h, if_neg h, if_pos rfl, xor_self_cancel]
end
structure RedTo (M R C n : Nat) (L A : List Nat) (pv : List Nat) (T S : (Nat → Nat) → Nat → Nat) : Prop where
  iso : Iso M R T S
  col : ∀ c, c < C → ∀ r, r < R → gt C A r c = T (fun r => gt C L r c) r
  piv : ∀ q, q < pv.length → pv.getD q 0 < n ∧ ∀ r, r < R → gt C A r (pv.getD q 0) = if r = q then 1 else 0
  inc : ∀ q q', q < q' → q' < pv.length → pv.getD q 0 < pv.getD q' 0
  low : ∀ j, j < n → ∀ r, r < R → gt C A r j ≠ 0 → r < pv.length ∧ pv.getD r 0 ≤ j
theorem getD_app {α : Type} (l : List α) (x d : α) (q : Nat) : (l ++ [x]).getD q d = if q < l.length then l.getD q d else if q = l.length then x else d := by
  simp only [List.getD_eq_getElem?_getD]
  by_cases h : q < l.length
  · rw [if_pos h, List.getElem?_append_left h]
  · rw [if_neg h, List.getElem?_append_right (by omega)]
    by_cases e : q = l.length
    · subst e; simp
    · rw [if_neg e]
      have : q - l.length ≠ 0 := by omega
      obtain ⟨m, hm⟩ := Nat.exists_eq_succ_of_ne_zero this
      rw [hm]; simp
theorem red_to {M R C : Nat} {L : List Nat} (hM : FldM M) (hn : L.length = R * C) (hL : ∀ x ∈ L, x < 2 ^ M) : ∀ n, n ≤ C → ∃ T S, RedTo M R C n L (red M R C L n).1 (red M R C L n).2 T S
  | 0, _ => ⟨_, _, Iso.id M R, fun _ _ _ _ => rfl, fun q hq => by simp [red] at hq, fun q q' _ hq => by simp [red] at hq, fun j hj => by omega⟩
  | n + 1, hnC => by
    obtain ⟨T, S, ih⟩ := red_to hM hn hL n (by omega)
    have hok := red_ok hM hn hL n
    rw [red]
    generalize red M R C L n = s at ih hok
    obtain ⟨A, pv⟩ := s
    have h1 := hok.len
    have h2 := hok.lt
    have h3 := hok.pr
    dsimp only at ih h1 h2 h3
    have hf := findP_le n A (R - pv.length) pv.length (C := C)
    have hs := findP_spec (C := C) (L := A) n (R - pv.length) pv.length
    rw [redStep]
    dsimp only
    generalize findP C n A (R - pv.length) pv.length = i at hf hs
    have hAl : ∀ r c, gt C A r c < 2 ^ M := fun r c => getD_lt h2 _
    by_cases hiR : i = R
    · rw [if_pos hiR]
      refine ⟨T, S, ih.iso, ih.col, fun q hq => ⟨Nat.lt_succ_of_lt (ih.piv q hq).1, (ih.piv q hq).2⟩, ih.inc, fun j hj r hr h0 => ?_⟩
      by_cases hjn : j < n
      · exact ih.low j hjn r hr h0
      · have : j = n := by omega
        subst this
        by_cases hrp : r < pv.length
        · exact ⟨hrp, Nat.le_of_lt (ih.piv r hrp).1⟩
        · exact absurd (hs.1 r (by omega) (by omega)) h0
    · rw [if_neg hiR]
      have hiR' : i < R := by omega
      have hp : pv.length < R := by omega
      have hne := hs.2 (by omega)
      have hnC' : n < C := by omega
      have s1 : ∀ r c, c < C → gt C (swapAt (i * C) (pv.length * C) A C) r c = if r = i then gt C A pv.length c else if r = pv.length then gt C A i c else gt C A r c := fun r c hc => gt_swap h1 hiR' hp hc
      have l1 : (swapAt (i * C) (pv.length * C) A C).length = R * C := by rw [swapAt_length]; exact h1
      have b1 : ∀ x ∈ swapAt (i * C) (pv.length * C) A C, x < 2 ^ M := swapAt_lt _ _ h2 _
      have hx : gt C (swapAt (i * C) (pv.length * C) A C) pv.length n = gt C A i n := by
        rw [s1 _ _ hnC']
        by_cases e : pv.length = i
        · rw [if_pos e, e]
        · rw [if_neg e, if_pos rfl]
      have hxe : (swapAt (i * C) (pv.length * C) A C).getD (pv.length * C + n) 0 = gt C A i n := hx
      rw [hxe]
      generalize swapAt (i * C) (pv.length * C) A C = L1 at *
      have hxl := hAl i n
      obtain ⟨v1, v2⟩ := inv_mu hM hne hxl
      have hvl : invN M (gt C A i n) < 2 ^ M := invN_lt _
      generalize invN M (gt C A i n) = f at *
      generalize hxx : gt C A i n = x at *
      have s2 : ∀ r c, c < C → gt C (scaleAt M f (pv.length * C) L1 C) r c = if r = pv.length then mu M f (gt C L1 pv.length c) else gt C L1 r c := fun r c hc => gt_scale l1 hp hc
      have l2 : (scaleAt M f (pv.length * C) L1 C).length = R * C := by rw [scaleAt_length]; exact l1
      have b2 : ∀ y ∈ scaleAt M f (pv.length * C) L1 C, y < 2 ^ M := scaleAt_lt hM hvl _ b1 _
      generalize scaleAt M f (pv.length * C) L1 C = L2 at *
      have s3 : ∀ r c, r < R → c < C → gt C (clearAt M C n pv.length L2 R) r c = if r = pv.length then gt C L2 pv.length c else gt C L2 r c ^^^ mu M (gt C L2 r n) (gt C L2 pv.length c) := fun r c hr hc => gt_clear l2 hnC' hr hc
      generalize clearAt M C n pv.length L2 R = A2 at *
      have hg2 : ∀ r, r < R → gt C L2 r n < 2 ^ M := fun r _ => getD_lt b2 _
      -- the column of an earlier pivot or of none: nothing changes there
      have keep : ∀ c, c < C → (∀ r, pv.length ≤ r → r < R → gt C A r c = 0) → ∀ r, r < R → gt C A2 r c = gt C A r c := fun c hc hz r hr => by
        have z1 : ∀ r, r < R → gt C L1 r c = gt C A r c := fun r hr => by
          rw [s1 r c hc]
          by_cases e1 : r = i
          · rw [if_pos e1, e1, hz _ (Nat.le_refl _) hp, hz i (by omega) hiR']
          · rw [if_neg e1]
            by_cases e2 : r = pv.length
            · rw [if_pos e2, e2, hz _ (Nat.le_refl _) hp, hz i (by omega) hiR']
            · rw [if_neg e2]
        have z2 : ∀ r, r < R → gt C L2 r c = gt C A r c := fun r hr => by
          rw [s2 r c hc]
          by_cases e2 : r = pv.length
          · rw [if_pos e2, z1 _ hp, e2, hz _ (Nat.le_refl _) hp, mu_zero]
          · rw [if_neg e2, z1 r hr]
        rw [s3 r c hr hc]
        by_cases e2 : r = pv.length
        · rw [if_pos e2, e2, z2 _ hp]
        · rw [if_neg e2, z2 r hr, z2 _ hp, hz _ (Nat.le_refl _) hp, mu_zero, Nat.xor_zero]
      have pivn : ∀ r, r < R → gt C A2 r n = if r = pv.length then 1 else 0 := fun r hr => by
        have e0 : gt C L2 pv.length n = 1 := by rw [s2 _ _ hnC', if_pos rfl, hx]; exact v1
        rw [s3 r n hr hnC', e0]
        by_cases e2 : r = pv.length
        · rw [if_pos e2, if_pos e2]
        · rw [if_neg e2, if_neg e2, mu_one hM (hg2 r hr), Nat.xor_self]
      have i1 := iso_swap (M := M) (D := R) hiR' hp
      have i2 := iso_scale (M := M) (D := R) hM hp hvl hxl v1
      have i3 := iso_clear (M := M) (D := R) hM hp hg2
      have i4 := (i3.comp (i2.comp i1)).comp ih.iso
      refine ⟨_, _, i4, fun c hc r hr => ?_, fun q hq => ?_, fun q q' hqq hq => ?_, fun j hj r hr h0 => ?_⟩
      · have e1 : ∀ k, k < R → gt C A k c = T (fun r => gt C L r c) k := ih.col c hc
        have := (i3.comp (i2.comp i1)).congr _ _ e1 r hr
        rw [← this]
        rw [s3 r c hr hc, s2 _ _ hc, s2 _ _ hc, s1 _ _ hc, s1 _ _ hc]
      · rw [List.length_append, List.length_singleton] at hq
        rw [getD_app]
        by_cases hq1 : q < pv.length
        · rw [if_pos hq1]
          obtain ⟨q1, q2⟩ := ih.piv q hq1
          refine ⟨by omega, fun r hr => ?_⟩
          rw [keep _ (by omega) (fun r h4 h5 => by rw [q2 r h5, if_neg (by omega)]) r hr, q2 r hr]
        · have : q = pv.length := by omega
          subst this
          rw [if_neg (by omega), if_pos rfl]
          exact ⟨by omega, pivn⟩
      · rw [List.length_append, List.length_singleton] at hq
        rw [getD_app, getD_app, if_pos (by omega)]
        by_cases hq1 : q' < pv.length
        · rw [if_pos hq1]; exact ih.inc q q' hqq hq1
        · rw [if_neg hq1, if_pos (by omega)]
          exact (ih.piv q (by omega)).1
      · rw [List.length_append, List.length_singleton]
        by_cases hjn : j < n
        · have hz : ∀ r, pv.length ≤ r → r < R → gt C A r j = 0 := fun r h4 h5 => by
            by_cases e : gt C A r j = 0
            · exact e
            · have := (ih.low j hjn r h5 e).1; (try dsimp only at this); omega
          rw [keep j (by omega) hz r hr] at h0
          have := ih.low j hjn r hr h0
          (try dsimp only at this)
          refine ⟨by omega, ?_⟩
          rw [getD_app, if_pos this.1]; exact this.2
        · have : j = n := by omega
          subst this
          rw [pivn r hr] at h0
          have e : r = pv.length := by
            by_cases e : r = pv.length
            · exact e
            · rw [if_neg e] at h0; exact absurd rfl h0
          subst e
          refine ⟨by omega, ?_⟩
          rw [getD_app, if_neg (by omega), if_pos rfl]
          exact Nat.le_refl _
end Go.Proofs.YtaclmbbiegklcaaGreatDoor
end
section
/- The basis of the present units: plain law. -/
namespace Go.Proofs.YtaclmbbiegklcaaGreatDoor
open Go.RowKit
set_option linter.unusedSectionVars false
theorem gt_trAt {R C : Nat} {L B : List Nat} (hB : B.length = C * R) : ∀ n, n ≤ R * C → ∀ r c, r < R → c < C → gt R (trAt R C L B n) c r = if r * C + c < n then gt C L r c else gt R B c r
  | 0, _, r, c, _, _ => by rw [if_neg (by omega)]; rfl
  | n + 1, hn, r, c, hr, hc => by
    have ih := gt_trAt (L := L) hB n (by omega) r c hr hc
    have hC : 0 < C := by omega
    have h1 : n % C < C := Nat.mod_lt _ hC
    have h2 : n / C < R := by
      rw [Nat.div_lt_iff_lt_mul hC]; omega
    have h3 : n / C * C + n % C = n := by rw [Nat.mul_comm]; exact Nat.div_add_mod n C
    rw [trAt, gt_set (R := C) (C := R) (by rw [trAt_length]; exact hB) h1 h2 hr, ih]
    by_cases e : c = n % C ∧ r = n / C
    · obtain ⟨e1, e2⟩ := e
      rw [if_pos ⟨e1, e2⟩, if_pos (by rw [e1, e2, h3]; omega)]
      show L.getD n 0 = L.getD (r * C + c) 0
      rw [e1, e2, h3]
    · rw [if_neg e]
      have hne : r * C + c ≠ n := fun h => e (by
        rw [← h3] at h
        obtain ⟨a, b⟩ := idx_inj hc h1 h
        exact ⟨b, a⟩)
      by_cases hlt : r * C + c < n
      · rw [if_pos hlt, if_pos (by omega)]
      · rw [if_neg hlt, if_neg (by omega)]
theorem gt_tr {R C : Nat} {L : List Nat} {r c : Nat} (hr : r < R) (hc : c < C) : gt R (trN R C L) c r = gt C L r c := by
  unfold trN
  rw [gt_trAt (by simp) _ (Nat.le_refl _) r c hr hc, if_pos (idx_lt hr hc)]
theorem gt_pick {R C : Nat} {l : List Nat} (hn : l.length = R * C) {c : Nat} (hc : c < C) : ∀ (is : List Nat), (∀ i ∈ is, i < R) → ∀ k, k < is.length → gt C (pickN C l is) k c = gt C l (is.getD k 0) c
  | [], _, k, hk => by simp at hk
  | i :: is, h, k, hk => by
    have hi := h i (by simp)
    have h1 := Nat.mul_le_mul_right C (show i + 1 ≤ R from hi)
    rw [Nat.add_mul, Nat.one_mul] at h1
    have hl : ((l.drop (i * C)).take C).length = C := by rw [List.length_take, List.length_drop]; omega
    unfold gt
    rw [pickN, List.getD_eq_getElem?_getD]
    cases k with
    | zero =>
      rw [List.getElem?_append_left (by omega), Nat.zero_mul, Nat.zero_add, List.getElem?_take_of_lt hc, List.getElem?_drop]
      rfl
    | succ k =>
      rw [List.getElem?_append_right (by rw [hl, Nat.add_mul]; omega), hl, show (k + 1) * C + c - C = k * C + c by rw [Nat.add_mul]; omega]
      have := gt_pick hn hc is (fun x hx => h x (by simp [hx])) k (by simpa using hk)
      unfold gt at this
      rw [List.getD_eq_getElem?_getD] at this
      rw [this]
      rfl
def U (D : Nat) (gen : List Nat) (u : Nat) : Nat → Nat := fun x => gt D gen u x
theorem U_vc {M R D : Nat} {gen : List Nat} (h : MxOk M R D gen) (u : Nat) : Vc M D (U D gen u) := fun x _ => getD_lt h.e _
theorem pres_inc (hv : List Bool) (n : Nat) : (presAt hv n).Pairwise (· < ·) := List.Pairwise.filter _ List.pairwise_lt_range
theorem getD_inc {l : List Nat} (h : l.Pairwise (· < ·)) {q q' : Nat} (hq : q < q') (hq' : q' < l.length) : l.getD q 0 < l.getD q' 0 := by
  rw [List.getD_eq_getElem?_getD, List.getD_eq_getElem?_getD, List.getElem?_eq_getElem hq', List.getElem?_eq_getElem (show q < l.length by omega)]
  exact List.pairwise_iff_getElem.1 h q q' _ _ hq
theorem getD_mem {l : List Nat} {q : Nat} (h : q < l.length) : l.getD q 0 ∈ l := by
  rw [List.getD_eq_getElem?_getD, List.getElem?_eq_getElem h]
  exact List.getElem_mem h
theorem mem_pres {hv : List Bool} {u : Nat} : u ∈ presN hv ↔ hv.getD u false = true := by
  unfold presN presAt
  rw [List.mem_filter, List.mem_range]
  constructor
  · exact fun h => h.2
  · intro h
    refine ⟨?_, h⟩
    by_cases hl : u < hv.length
    · exact hl
    · rw [List.getD_eq_getElem?_getD, List.getElem?_eq_none (by omega)] at h
      cases h
structure Bas (M D : Nat) (gen : List Nat) (hv : List Bool) (B : List Nat) (T S : (Nat → Nat) → Nat → Nat) : Prop where
  iso : Iso M D T S
  le : B.length ≤ D
  mem : ∀ q, q < B.length → hv.getD (B.getD q 0) false = true
  inc : ∀ q q', q < q' → q' < B.length → B.getD q 0 < B.getD q' 0
  unit : ∀ q, q < B.length → ∀ r, r < D → T (U D gen (B.getD q 0)) r = if r = q then 1 else 0
  low : ∀ u, hv.getD u false = true → ∀ r, r < D → T (U D gen u) r ≠ 0 → r < B.length ∧ B.getD r 0 ≤ u
theorem map_getD {α : Type} {f : Nat → α} {l : List Nat} {q : Nat} (d : α) (h : q < l.length) : (l.map f).getD q d = f (l.getD q 0) := by
  rw [List.getD_eq_getElem?_getD, List.getD_eq_getElem?_getD, List.getElem?_map, List.getElem?_eq_getElem h]
  rfl
theorem basis_to {M D : Nat} {ps : List (List Nat)} {hv : List Bool} (h : CodeOk M D ps) (hl : hv.length = D + ps.length) : ∃ T S, Bas M D (genN D ps) hv (basisN M D ps hv) T S := by
  have hgok := gen_ok h
  have hplt : ∀ x ∈ presN hv, x < D + ps.length := fun x hx => by have := presAt_lt hx; omega
  have hpl : (presN hv).length ≤ 32 := by have := presAt_length hv hv.length; have := h.w; show (presAt hv hv.length).length ≤ 32; omega
  have hpk := pick_ok hgok hplt hpl
  have hbl := basis_len h hl
  have hcol : ∀ c, c < (presN hv).length → ∀ r, r < D → gt (presN hv).length (trN (presN hv).length D (pickN D (genN D ps) (presN hv))) r c = U D (genN D ps) ((presN hv).getD c 0) r := fun c hc r hr => by
    rw [gt_tr hc hr, gt_pick hgok.n hr _ hplt c hc]
    rfl
  obtain ⟨T, S, hr⟩ := red_to (M := M) (R := D) (C := (presN hv).length) (L := trN (presN hv).length D (pickN D (genN D ps) (presN hv))) h.f (trN_length _ _ _) (trN_lt hpk.e) (presN hv).length (Nat.le_refl _)
  have hB : basisN M D ps hv = (red M D (presN hv).length (trN (presN hv).length D (pickN D (genN D ps) (presN hv))) (presN hv).length).2.map fun j => (presN hv).getD j 0 := rfl
  generalize (red M D (presN hv).length (trN (presN hv).length D (pickN D (genN D ps) (presN hv))) (presN hv).length).1 = A at *
  generalize (red M D (presN hv).length (trN (presN hv).length D (pickN D (genN D ps) (presN hv))) (presN hv).length).2 = pv at *
  have hBl : (basisN M D ps hv).length = pv.length := by rw [hB, List.length_map]
  have hBq : ∀ q, q < pv.length → (basisN M D ps hv).getD q 0 = (presN hv).getD (pv.getD q 0) 0 := fun q hq => by rw [hB]; exact map_getD 0 hq
  have hT : ∀ c, c < (presN hv).length → ∀ r, r < D → T (U D (genN D ps) ((presN hv).getD c 0)) r = gt (presN hv).length A r c := fun c hc r hr' => by
    rw [hr.col c hc r hr']
    exact hr.iso.congr _ _ (fun k hk => (hcol c hc k hk).symm) r hr'
  refine ⟨T, S, hr.iso, hbl, fun q hq => ?_, fun q q' h1 h2 => ?_, fun q hq r hr' => ?_, fun u hu r hr' h0 => ?_⟩
  · rw [hBl] at hq
    rw [hBq q hq]
    exact mem_pres.1 (getD_mem (hr.piv q hq).1)
  · rw [hBl] at h2
    rw [hBq q (by omega), hBq q' h2]
    exact getD_inc (pres_inc hv _) (hr.inc q q' h1 h2) (hr.piv q' h2).1
  · rw [hBl] at hq
    rw [hBq q hq, hT _ (hr.piv q hq).1 r hr']
    exact (hr.piv q hq).2 r hr'
  · obtain ⟨c, hc, e⟩ := List.getElem_of_mem (mem_pres.2 hu)
    have e2 : (presN hv).getD c 0 = u := by rw [List.getD_eq_getElem?_getD, List.getElem?_eq_getElem hc]; exact e
    rw [← e2, hT c hc r hr'] at h0
    obtain ⟨h1, h2⟩ := hr.low c hc r hr' h0
    refine ⟨by omega, ?_⟩
    rw [hBq r h1, ← e2]
    by_cases e3 : pv.getD r 0 = c
    · rw [e3]; exact Nat.le_refl _
    · exact Nat.le_of_lt (getD_inc (pres_inc hv _) (by omega) hc)
section
variable {M D : Nat} {gen : List Nat} {hv : List Bool} {B : List Nat} {T S : (Nat → Nat) → Nat → Nat}
def BS (D : Nat) (gen B : List Nat) : (Nat → Nat) → Prop := fun s => ∃ q, q < B.length ∧ s = U D gen (B.getD q 0)
theorem Bas.span (hM : FldM M) (hg : ∀ u, Vc M D (U D gen u)) (h : Bas M D gen hv B T S) {v : Nat → Nat} (hv' : Vc M D v) (hz : ∀ r, r < D → B.length ≤ r → T v r = 0) : Sp M D (BS D gen B) v := by
  have hS : ∀ s, BS D gen B s → Vc M D s := fun s ⟨q, _, e⟩ => by rw [e]; exact hg _
  have hsum := Sp.sum (M := M) (D := D) (S := BS D gen B) hM hS (c := fun q => T v q) (w := fun q => U D gen (B.getD q 0)) B.length (fun q hq => ⟨h.iso.lt v hv' q (by have := h.le; omega), Sp.of hM hS ⟨q, hq, rfl⟩⟩)
  refine hsum.congr fun x hx => ?_
  have hw : Vc M D (fun x => sg (fun q => mu M (T v q) (U D gen (B.getD q 0) x)) B.length) := hsum.vc hM hS
  refine (h.iso.inj hv' hw fun i hi => ?_) x hx
  rw [h.iso.sum B.length (fun q hq => ⟨h.iso.lt v hv' q (by have := h.le; omega), hg _⟩) i hi]
  rw [sg_congr B.length (fun q hq => show mu M (T v q) (T (U D gen (B.getD q 0)) i) = if q = i then T v i else 0 by
    rw [h.unit q hq i hi]
    by_cases e : i = q
    · subst e; rw [if_pos rfl, if_pos rfl, mu_one hM (h.iso.lt v hv' i hi)]
    · rw [if_neg e, if_neg (fun e2 => e e2.symm), mu_zero])]
  rw [sg_one (k := i) B.length (fun q _ hne => if_neg hne), if_pos rfl]
  by_cases e : i < B.length
  · rw [if_pos e]
  · rw [if_neg e, hz i hi (by omega)]
theorem Bas.low' (hM : FldM M) (hg : ∀ u, Vc M D (U D gen u)) (h : Bas M D gen hv B T S) {v : Nat → Nat} (hsp : Sp M D (BS D gen B) v) : ∀ r, r < D → B.length ≤ r → T v r = 0 := by
  induction hsp with
  | zero h0 => exact fun r hr _ => h.iso.zero h0 r hr
  | step h1 hs hc h2 ih =>
    obtain ⟨q, hq, rfl⟩ := hs
    intro r hr hle
    rename_i u v c
    have hUv : T (U D gen (B.getD q 0)) r = 0 := by rw [h.unit q hq r hr, if_neg (by omega)]
    rw [h.iso.congr _ _ h2 r hr, h.iso.add u (fun x => mu M c (U D gen (B.getD q 0) x)) r hr, ih r hr hle, Nat.zero_xor]
    rw [h.iso.smul c _ hc (hg _) r hr, hUv, mu_zero]
theorem Bas.present (hM : FldM M) (hg : ∀ u, Vc M D (U D gen u)) (h : Bas M D gen hv B T S) {u : Nat} (hu : hv.getD u false = true) : Sp M D (BS D gen B) (U D gen u) :=
  h.span hM hg (hg u) fun r hr hle => by
    by_cases e : T (U D gen u) r = 0
    · exact e
    · have := (h.low u hu r hr e).1; omega
end
end Go.Proofs.YtaclmbbiegklcaaGreatDoor
end
section
/- The rows of a span, and what they leave of a row: plain law. -/
namespace Go.Proofs.YtaclmbbiegklcaaGreatDoor
open Go.RowKit
set_option linter.unusedSectionVars false
theorem addV_get (M f : Nat) (T l : List Nat) : ∀ k, k ≤ T.length → ∀ i, i < T.length → (addV M f T l k).getD i 0 = if i < k then T.getD i 0 ^^^ mu M f (l.getD i 0) else T.getD i 0
  | 0, _, i, _ => by rw [if_neg (by omega)]; rfl
  | k + 1, hk, i, hi => by
    have ih := addV_get M f T l k (by omega)
    rw [addV, set_getD _ _ _ _ (by rw [addV_length]; exact hi)]
    by_cases e : i = k
    · subst e
      rw [if_pos rfl, if_pos (by omega), ih i hi, if_neg (by omega)]
    · rw [if_neg e, ih i hi]
      by_cases h : i < k
      · rw [if_pos h, if_pos (by omega)]
      · rw [if_neg h, if_neg (by omega)]
abbrev Rd := Nat × List Nat × List Nat
section
variable {M D n : Nat} {s : List Nat × List Nat} {r : Rd}
theorem subR_1 (hs : SubOk M D n s) (hr : RedRow M D n r) {x : Nat} (hx : x < D) : (subR M s r).1.getD x 0 = s.1.getD x 0 ^^^ mu M (s.1.getD r.1 0) (r.2.1.getD x 0) := by
  unfold subR
  by_cases e : s.1.getD r.1 0 = 0
  · rw [if_pos e, e, zero_mu, Nat.xor_zero]
  · rw [if_neg e]
    show (addV M _ s.1 r.2.1 r.2.1.length).getD x 0 = _
    rw [addV_get _ _ _ _ _ (by rw [hs.l1, hr.l1]; exact Nat.le_refl _) x (by rw [hs.l1]; exact hx), if_pos (by rw [hr.l1]; exact hx)]
theorem subR_2 (hs : SubOk M D n s) (hr : RedRow M D n r) {q : Nat} (hq : q < n) : (subR M s r).2.getD q 0 = s.2.getD q 0 ^^^ mu M (s.1.getD r.1 0) (r.2.2.getD q 0) := by
  unfold subR
  by_cases e : s.1.getD r.1 0 = 0
  · rw [if_pos e, e, zero_mu, Nat.xor_zero]
  · rw [if_neg e]
    show (addV M _ s.2 r.2.2 r.2.2.length).getD q 0 = _
    rw [addV_get _ _ _ _ _ (by rw [hs.l2, hr.l2]; exact Nat.le_refl _) q (by rw [hs.l2]; exact hq), if_pos (by rw [hr.l2]; exact hq)]
end
structure Rw (M D n : Nat) (W : Nat → Nat → Nat) (r : Rd) : Prop where
  ok : RedRow M D n r
  comb : ∀ x, x < D → r.2.1.getD x 0 = sg (fun q => mu M (r.2.2.getD q 0) (W q x)) n
  lead : r.2.1.getD r.1 0 = 1
def Tri (rows : List Rd) : Prop := rows.Pairwise fun a b => b.2.1.getD a.1 0 = 0
def RS (rows : List Rd) : (Nat → Nat) → Prop := fun s => ∃ r, r ∈ rows ∧ s = fun x => r.2.1.getD x 0
section
variable {M D n : Nat} {W : Nat → Nat → Nat} {rows : List Rd}
theorem RS_vc (h : ∀ r ∈ rows, Rw M D n W r) : ∀ s, RS rows s → Vc M D s := fun s ⟨r, hr, e⟩ x hx => by rw [e]; exact getD_lt (h r hr).ok.e1 _
theorem tri_zero (hM : FldM M) : ∀ {rows : List Rd}, (∀ r ∈ rows, Rw M D n W r) → Tri rows → ∀ {v : Nat → Nat}, Sp M D (RS rows) v → (∀ r ∈ rows, v r.1 = 0) → ∀ x, x < D → v x = 0
  | [], _, _, v, hv, _ => by
    cases hv with
    | zero h => exact h
    | step _ hs _ _ => obtain ⟨r, hr, _⟩ := hs; simp at hr
  | r :: rows, h, ht, v, hv, h0 => by
    have hr := h r (by simp)
    obtain ⟨t1, t2⟩ := List.pairwise_cons.1 ht
    have hv2 : Sp M D (fun s => s = (fun x => r.2.1.getD x 0) ∨ RS rows s) v := hv.mono fun s ⟨a, ha, e⟩ => by
      rcases List.mem_cons.1 ha with rfl | ha
      · exact .inl e
      · exact .inr ⟨a, ha, e⟩
    obtain ⟨c, u, hc, hu, e⟩ := hv2.split
    have hcz : c = 0 := by
      have e1 := e r.1 hr.ok.c
      rw [h0 r (by simp), hr.lead, mu_one hM hc, hu.vanish hr.ok.c (fun s ⟨a, ha, e⟩ => by rw [e]; exact t1 a ha), Nat.zero_xor] at e1
      exact e1.symm
    subst hcz
    have e2 : ∀ x, x < D → v x = u x := fun x hx => by rw [e x hx, zero_mu, Nat.xor_zero]
    intro x hx
    rw [e2 x hx]
    exact tri_zero hM (fun a ha => h a (by simp [ha])) t2 hu (fun a ha => by rw [← e2 a.1 (h a (by simp [ha])).ok.c]; exact h0 a (by simp [ha])) x hx
structure Rst (M D n : Nat) (W : Nat → Nat → Nat) (row : Nat → Nat) (s : List Nat × List Nat) : Prop where
  ok : SubOk M D n s
  sum : ∀ x, x < D → s.1.getD x 0 = row x ^^^ sg (fun q => mu M (s.2.getD q 0) (W q x)) n
theorem fold_rst (hM : FldM M) (hW : ∀ q, Vc M D (W q)) {row : Nat → Nat} : ∀ (rows : List Rd), (∀ r ∈ rows, Rw M D n W r) → ∀ s, Rst M D n W row s → Rst M D n W row (rows.foldl (subR M) s)
  | [], _, s, h => h
  | r :: rows, hr, s, h => by
    refine fold_rst hM hW rows (fun a ha => hr a (by simp [ha])) _ ⟨sub_ok hM h.ok (hr r (by simp)).ok, fun x hx => ?_⟩
    have hr1 := hr r (by simp)
    rw [subR_1 h.ok hr1.ok hx, h.sum x hx, hr1.comb x hx, Nat.xor_assoc, sg_mu, ← sg_xor]
    congr 1
    refine sg_congr n fun q hq => ?_
    rw [subR_2 h.ok hr1.ok hq, xor_mu, mu_assoc hM (getD_lt h.ok.e1 _) (getD_lt hr1.ok.e2 _) (hW q x hx)]
theorem fold_keep {c : Nat} (hc : c < D) (hM : FldM M) : ∀ (rows : List Rd), (∀ r ∈ rows, RedRow M D n r ∧ r.2.1.getD c 0 = 0) → ∀ s, SubOk M D n s → (rows.foldl (subR M) s).1.getD c 0 = s.1.getD c 0
  | [], _, s, _ => rfl
  | r :: rows, hr, s, h => by
    obtain ⟨h1, h2⟩ := hr r (by simp)
    show (rows.foldl (subR M) (subR M s r)).1.getD c 0 = _
    rw [fold_keep hc hM rows (fun a ha => hr a (by simp [ha])) _ (sub_ok hM h h1), subR_1 h h1 hc, h2, mu_zero, Nat.xor_zero]
theorem fold_zero (hM : FldM M) : ∀ (rows : List Rd), (∀ r ∈ rows, Rw M D n W r) → Tri rows → ∀ s, SubOk M D n s → ∀ r ∈ rows, (rows.foldl (subR M) s).1.getD r.1 0 = 0
  | [], _, _, _, _, r, hr => by simp at hr
  | a :: rows, h, ht, s, hs, r, hr => by
    obtain ⟨t1, t2⟩ := List.pairwise_cons.1 ht
    have ha := h a (by simp)
    show (rows.foldl (subR M) (subR M s a)).1.getD r.1 0 = 0
    rcases List.mem_cons.1 hr with rfl | hr
    · rw [fold_keep ha.ok.c hM rows (fun b hb => ⟨(h b (by simp [hb])).ok, t1 b hb⟩) _ (sub_ok hM hs ha.ok), subR_1 hs ha.ok ha.ok.c, ha.lead, mu_one hM (getD_lt hs.e1 _), Nat.xor_self]
    · exact fold_zero hM rows (fun b hb => h b (by simp [hb])) t2 _ (sub_ok hM hs ha.ok) r hr
theorem fold_span (hM : FldM M) {all : List Rd} (hall : ∀ r ∈ all, Rw M D n W r) : ∀ (rows : List Rd), (∀ r ∈ rows, r ∈ all) → ∀ s, SubOk M D n s → Sp M D (RS all) (fun x => s.1.getD x 0 ^^^ (rows.foldl (subR M) s).1.getD x 0)
  | [], _, s, _ => .zero fun x hx => by simp
  | r :: rows, hr, s, hs => by
    have h1 := hall r (hr r (by simp))
    have ih := fold_span hM hall rows (fun a ha => hr a (by simp [ha])) _ (sub_ok hM hs h1.ok)
    refine .step ih ⟨r, hr r (by simp), rfl⟩ (c := s.1.getD r.1 0) (getD_lt hs.e1 _) fun x hx => ?_
    show s.1.getD x 0 ^^^ (rows.foldl (subR M) (subR M s r)).1.getD x 0 = _
    rw [subR_1 hs h1.ok hx]
    generalize s.1.getD x 0 = a
    generalize (rows.foldl (subR M) (subR M s r)).1.getD x 0 = b
    generalize mu M (s.1.getD r.1 0) (r.2.1.getD x 0) = c
    rw [Nat.xor_assoc a c b, Nat.xor_comm c b, ← Nat.xor_assoc, xor_self_cancel]
end
theorem findNZ_lt {l : List Nat} (h : findNZ l < l.length) : l.getD (findNZ l) 0 ≠ 0 := by
  have := List.findIdx_getElem (xs := l) (p := fun x => x != 0) (w := h)
  rw [List.getD_eq_getElem?_getD, List.getElem?_eq_getElem h]
  have h3 : ¬ (l[List.findIdx (fun x => x != 0) l]'h = 0) := by simpa using this
  exact h3
theorem findNZ_ge {l : List Nat} (h : ¬ findNZ l < l.length) (x : Nat) : l.getD x 0 = 0 := by
  rw [List.getD_eq_getElem?_getD]
  by_cases hx : x < l.length
  · rw [List.getElem?_eq_getElem hx]
    have h2 : findNZ l = l.length := by
      have := List.findIdx_le_length (xs := l) (p := fun x => x != 0)
      unfold findNZ at *; omega
    have := List.findIdx_eq_length.1 h2 l[x] (List.getElem_mem hx)
    simpa using this
  · rw [List.getElem?_eq_none (by omega)]; rfl
theorem row_getD {M R D u : Nat} {gen : List Nat} (h : MxOk M R D gen) (hu : u < R) {x : Nat} (hx : x < D) : ((gen.drop (u * D)).take D).getD x 0 = U D gen u x := by
  rw [List.getD_eq_getElem?_getD, List.getElem?_take_of_lt hx, List.getElem?_drop]
  unfold U gt
  rw [List.getD_eq_getElem?_getD]
structure SpTo (M D : Nat) (gen B : List Nat) (k : Nat) (rows : List Rd) : Prop where
  rw : ∀ r ∈ rows, Rw M D B.length (fun q => U D gen (B.getD q 0)) r
  tri : Tri rows
  all : ∀ q, q < k → Sp M D (RS rows) (U D gen (B.getD q 0))
theorem span_to {M R D : Nat} {gen B : List Nat} (hM : FldM M) (hg : MxOk M R D gen) (hB : ∀ u ∈ B, u < R) : ∀ k, k ≤ B.length → SpTo M D gen B k (spanAt M D B.length gen B k)
  | 0, _ => ⟨fun r hr => by simp [spanAt] at hr, List.Pairwise.nil, fun q hq => by omega⟩
  | k + 1, hk => by
    have ih := span_to hM hg hB k (by omega)
    have hok := span_ok (n := B.length) hM hg hB k (by omega)
    rw [spanAt]
    generalize spanAt M D B.length gen B k = rows at ih hok
    have hbk : B.getD k 0 < R := hB _ (getD_mem (by omega))
    obtain ⟨p1, p2⟩ := pick_row hg hbk
    have hW : ∀ q, Vc M D (U D gen (B.getD q 0)) := fun q => U_vc hg _
    have hs0 : SubOk M D B.length ((gen.drop (B.getD k 0 * D)).take D, List.replicate B.length 0) := ⟨p1, List.length_replicate, p2, fun x hx => by rw [List.eq_of_mem_replicate hx]; exact Nat.two_pow_pos M⟩
    have hr0 : Rst M D B.length (fun q => U D gen (B.getD q 0)) (U D gen (B.getD k 0)) ((gen.drop (B.getD k 0 * D)).take D, List.replicate B.length 0) := ⟨hs0, fun x hx => by
      rw [row_getD hg hbk hx, sg_congr B.length (fun q hq => show mu M ((List.replicate B.length 0).getD q 0) _ = 0 by
        rw [List.getD_eq_getElem?_getD, List.getElem?_replicate, if_pos hq]; exact zero_mu _), sg_zero, Nat.xor_zero]⟩
    have hr := fold_rst hM hW rows ih.rw _ hr0
    have hz := fold_zero hM rows ih.rw ih.tri _ hs0
    have hsp := fold_span hM ih.rw rows (fun _ h => h) _ hs0
    unfold spanStep
    dsimp only
    change Rst M D B.length _ _ (redV M B.length ((gen.drop (B.getD k 0 * D)).take D) rows) at hr
    change ∀ r ∈ rows, (redV M B.length ((gen.drop (B.getD k 0 * D)).take D) rows).1.getD r.1 0 = 0 at hz
    change Sp M D (RS rows) (fun x => ((gen.drop (B.getD k 0 * D)).take D).getD x 0 ^^^ (redV M B.length ((gen.drop (B.getD k 0 * D)).take D) rows).1.getD x 0) at hsp
    generalize redV M B.length ((gen.drop (B.getD k 0 * D)).take D) rows = s at *
    have hsp2 : Sp M D (RS rows) (fun x => U D gen (B.getD k 0) x ^^^ s.1.getD x 0) := hsp.congr fun x hx => by rw [row_getD hg hbk hx]
    have h1 := hr.ok
    have hc : ∀ x, x < D → s.1.getD x 0 = sg (fun q => mu M ((s.2.set k (s.2.getD k 0 ^^^ 1)).getD q 0) (U D gen (B.getD q 0) x)) B.length := fun x hx => by
      rw [hr.sum x hx, Nat.xor_comm]
      have e1 : U D gen (B.getD k 0) x = sg (fun q => if q = k then U D gen (B.getD k 0) x else 0) B.length := by
        rw [sg_one (k := k) B.length (fun q _ hne => if_neg hne), if_pos (by omega), if_pos rfl]
      rw [e1, ← sg_xor]
      refine sg_congr _ fun q hq => ?_
      rw [set_getD _ _ _ _ (by rw [h1.l2]; exact hq)]
      by_cases e : q = k
      · subst e
        rw [if_pos rfl, if_pos rfl, xor_mu, one_mu hM (hW q x hx)]
      · rw [if_neg e, if_neg e, Nat.xor_zero]
    have hcl : ∀ x ∈ s.2.set k (s.2.getD k 0 ^^^ 1), x < 2 ^ M := fun x hx => by
      rcases List.mem_or_eq_of_mem_set hx with hx | rfl
      · exact h1.e2 x hx
      · exact xor_lt' (getD_lt h1.e2 _) (one_lt hM)
    have hcn : (s.2.set k (s.2.getD k 0 ^^^ 1)).length = B.length := by rw [List.length_set]; exact h1.l2
    generalize s.2.set k (s.2.getD k 0 ^^^ 1) = c at *
    by_cases hf : findNZ s.1 < D
    · rw [if_pos hf]
      have hne := findNZ_lt (l := s.1) (by rw [h1.l1]; exact hf)
      generalize findNZ s.1 = col at *
      have hxl := getD_lt h1.e1 col
      obtain ⟨v1, v2⟩ := inv_mu hM hne hxl
      have hvl : invN M (s.1.getD col 0) < 2 ^ M := invN_lt _
      generalize invN M (s.1.getD col 0) = f at *
      have hrep : ∀ m i, (List.replicate m 0).getD i 0 = 0 := fun m i => by
        rw [List.getD_eq_getElem?_getD, List.getElem?_replicate]; split <;> rfl
      have hnr : ∀ x, x < D → (addV M f (List.replicate D 0) s.1 D).getD x 0 = mu M f (s.1.getD x 0) := fun x hx => by
        rw [addV_get _ _ _ _ _ (by simp) x (by simpa using hx), if_pos hx, hrep, Nat.zero_xor]
      have hnc : ∀ q, q < B.length → (addV M f (List.replicate B.length 0) c B.length).getD q 0 = mu M f (c.getD q 0) := fun q hq => by
        rw [addV_get _ _ _ _ _ (by simp) q (by simpa using hq), if_pos hq, hrep, Nat.zero_xor]
      have hz0 : ∀ m, ∀ x ∈ List.replicate m 0, x < 2 ^ M := fun m x hx => by rw [List.eq_of_mem_replicate hx]; exact Nat.two_pow_pos M
      have hok1 : RedRow M D B.length (col, addV M f (List.replicate D 0) s.1 D, addV M f (List.replicate B.length 0) c B.length) :=
        ⟨hf, by rw [addV_length, List.length_replicate], by rw [addV_length, List.length_replicate], addV_lt hM hvl (hz0 _) _, addV_lt hM hvl (hz0 _) _⟩
      have hrw1 : Rw M D B.length (fun q => U D gen (B.getD q 0)) (col, addV M f (List.replicate D 0) s.1 D, addV M f (List.replicate B.length 0) c B.length) := by
        refine ⟨hok1, fun x hx => ?_, ?_⟩
        · show (addV M f (List.replicate D 0) s.1 D).getD x 0 = _
          rw [hnr x hx, hc x hx, sg_mu]
          refine sg_congr _ fun q hq => ?_
          show _ = mu M ((addV M f (List.replicate B.length 0) c B.length).getD q 0) _
          rw [hnc q hq, mu_assoc hM hvl (getD_lt hcl _) (hW q x hx)]
        · show (addV M f (List.replicate D 0) s.1 D).getD col 0 = 1
          rw [hnr col hf]; exact v1
      have hmono : ∀ t, RS rows t → RS (rows ++ [(col, addV M f (List.replicate D 0) s.1 D, addV M f (List.replicate B.length 0) c B.length)]) t := fun t ⟨r, hr, e⟩ => ⟨r, by simp [hr], e⟩
      have hrwA : ∀ r ∈ rows ++ [(col, addV M f (List.replicate D 0) s.1 D, addV M f (List.replicate B.length 0) c B.length)], Rw M D B.length (fun q => U D gen (B.getD q 0)) r := fun r hr => by
        rcases List.mem_append.1 hr with hr | hr
        · exact ih.rw r hr
        · rw [List.mem_singleton.1 hr]; exact hrw1
      refine ⟨hrwA, ?_, fun q hq => ?_⟩
      · refine List.pairwise_append.2 ⟨ih.tri, List.pairwise_singleton _ _, fun a ha b hb => ?_⟩
        rw [List.mem_singleton.1 hb]
        show (addV M f (List.replicate D 0) s.1 D).getD a.1 0 = 0
        rw [hnr _ (ih.rw a ha).ok.c, hz a ha, mu_zero]
      · by_cases hqk : q < k
        · exact (ih.all q hqk).mono hmono
        · have : q = k := by omega
          subst this
          refine .step (hsp2.mono hmono) ⟨_, List.mem_append_right _ (List.mem_singleton.2 rfl), rfl⟩ (c := s.1.getD col 0) hxl fun x hx => ?_
          show U D gen (B.getD q 0) x = (U D gen (B.getD q 0) x ^^^ s.1.getD x 0) ^^^ mu M (s.1.getD col 0) ((addV M f (List.replicate D 0) s.1 D).getD x 0)
          rw [hnr x hx, ← mu_assoc hM hxl hvl (getD_lt h1.e1 _), v2, one_mu hM (getD_lt h1.e1 _), xor_self_cancel]
    · rw [if_neg hf]
      refine ⟨ih.rw, ih.tri, fun q hq => ?_⟩
      by_cases hqk : q < k
      · exact ih.all q hqk
      · have : q = k := by omega
        subst this
        exact hsp2.congr fun x hx => by rw [findNZ_ge (l := s.1) (by rw [h1.l1]; exact hf), Nat.xor_zero]
end Go.Proofs.YtaclmbbiegklcaaGreatDoor
end
section
/- What can be recovered: plain law. -/
namespace Go.Proofs.YtaclmbbiegklcaaGreatDoor
open Go.RowKit
set_option linter.unusedSectionVars false
def PS (D : Nat) (gen : List Nat) (hv : List Bool) : (Nat → Nat) → Prop := fun s => ∃ u, hv.getD u false = true ∧ s = U D gen u
theorem U_all {M D : Nat} {ps : List (List Nat)} (h : CodeOk M D ps) (u : Nat) : Vc M D (U D (genN D ps) u) := U_vc (gen_ok h) u
section
variable {M D : Nat} {ps : List (List Nat)} {hv : List Bool} (h : CodeOk M D ps) (hl : hv.length = D + ps.length)
include h hl
theorem hv_lt {u : Nat} (hu : hv.getD u false = true) : u < D + ps.length := by
  by_cases e : u < hv.length
  · omega
  · rw [List.getD_eq_getElem?_getD, List.getElem?_eq_none (by omega)] at hu; cases hu
theorem sp_BP {v : Nat → Nat} : Sp M D (BS D (genN D ps) (basisN M D ps hv)) v ↔ Sp M D (PS D (genN D ps) hv) v := by
  obtain ⟨T, S, hb⟩ := basis_to h hl
  constructor
  · exact Sp.mono fun s ⟨q, hq, e⟩ => ⟨_, hb.mem q hq, e⟩
  · exact Sp.trans h.f (fun s ⟨q, _, e⟩ => by rw [e]; exact U_all h _) fun s ⟨u, hu, e⟩ => by rw [e]; exact hb.present h.f (U_all h) hu
theorem red_left {u : Nat} (hu : u < D + ps.length) :
    Rst M D (basisN M D ps hv).length (fun q => U D (genN D ps) ((basisN M D ps hv).getD q 0)) (U D (genN D ps) u) (redV M (basisN M D ps hv).length (((genN D ps).drop (u * D)).take D) (spanN M D ps hv)) ∧
    ((redV M (basisN M D ps hv).length (((genN D ps).drop (u * D)).take D) (spanN M D ps hv)).1.all (fun x => decide (x = 0)) = true ↔ Sp M D (PS D (genN D ps) hv) (U D (genN D ps) u)) := by
  have hg := gen_ok h
  have hM := h.f
  have hsp := span_to hM hg (basis_lt hl) (basisN M D ps hv).length (Nat.le_refl _)
  have hW : ∀ q, Vc M D (U D (genN D ps) ((basisN M D ps hv).getD q 0)) := fun q => U_all h _
  obtain ⟨p1, p2⟩ := pick_row hg hu
  have hs0 : SubOk M D (basisN M D ps hv).length (((genN D ps).drop (u * D)).take D, List.replicate (basisN M D ps hv).length 0) := ⟨p1, List.length_replicate, p2, fun x hx => by rw [List.eq_of_mem_replicate hx]; exact Nat.two_pow_pos M⟩
  have hr0 : Rst M D (basisN M D ps hv).length (fun q => U D (genN D ps) ((basisN M D ps hv).getD q 0)) (U D (genN D ps) u) (((genN D ps).drop (u * D)).take D, List.replicate (basisN M D ps hv).length 0) := ⟨hs0, fun x hx => by
    rw [row_getD hg hu hx, sg_congr (basisN M D ps hv).length (fun q hq => show mu M ((List.replicate (basisN M D ps hv).length 0).getD q 0) _ = 0 by
      rw [List.getD_eq_getElem?_getD, List.getElem?_replicate, if_pos hq]; exact zero_mu _), sg_zero, Nat.xor_zero]⟩
  have hr := fold_rst hM hW (spanN M D ps hv) hsp.rw _ hr0
  have hz := fold_zero hM (spanN M D ps hv) hsp.rw hsp.tri _ hs0
  have hfs := fold_span hM hsp.rw (spanN M D ps hv) (fun _ h => h) _ hs0
  refine ⟨hr, ?_⟩
  rw [← sp_BP h hl]
  have hbs : ∀ s, BS D (genN D ps) (basisN M D ps hv) s → Vc M D s := fun s ⟨q, _, e⟩ => by rw [e]; exact U_all h _
  constructor
  · intro h0
    rw [List.all_eq_true] at h0
    have hsum := Sp.sum (M := M) (D := D) hM hbs (c := fun q => (redV M (basisN M D ps hv).length (((genN D ps).drop (u * D)).take D) (spanN M D ps hv)).2.getD q 0) (w := fun q => U D (genN D ps) ((basisN M D ps hv).getD q 0)) (basisN M D ps hv).length (fun q hq => ⟨getD_lt hr.ok.e2 _, Sp.of hM hbs ⟨q, hq, rfl⟩⟩)
    refine hsum.congr fun x hx => ?_
    have h1 := hr.sum x hx
    have h2 : (List.foldl (subR M) (((genN D ps).drop (u * D)).take D, List.replicate (basisN M D ps hv).length 0) (spanN M D ps hv)).1.getD x 0 = 0 := by
      have hx2 : x < (redV M (basisN M D ps hv).length (((genN D ps).drop (u * D)).take D) (spanN M D ps hv)).1.length := by
        have := hr.ok.l1; unfold redV; omega
      have := h0 _ (List.getElem_mem hx2)
      rw [List.getD_eq_getElem?_getD]
      have e : (redV M (basisN M D ps hv).length (((genN D ps).drop (u * D)).take D) (spanN M D ps hv)).1[x]? = some ((redV M (basisN M D ps hv).length (((genN D ps).drop (u * D)).take D) (spanN M D ps hv)).1[x]) := List.getElem?_eq_getElem hx2
      unfold redV at e this
      rw [e]
      simpa using this
    rw [h2] at h1
    exact eq_of_xor h1.symm
  · intro hs
    have hv2 : Sp M D (RS (spanN M D ps hv)) (U D (genN D ps) u) := Sp.trans hM (RS_vc hsp.rw) (fun s ⟨q, hq, e⟩ => by rw [e]; exact hsp.all q hq) hs
    have hrest : Sp M D (RS (spanN M D ps hv)) (fun x => (redV M (basisN M D ps hv).length (((genN D ps).drop (u * D)).take D) (spanN M D ps hv)).1.getD x 0) := (hv2.add hfs).congr fun x hx => by
      show _ = U D (genN D ps) u x ^^^ ((((genN D ps).drop (u * D)).take D).getD x 0 ^^^ _)
      rw [row_getD hg hu hx, ← Nat.xor_assoc, Nat.xor_self, Nat.zero_xor]
      rfl
    have h0 := tri_zero hM hsp.rw hsp.tri hrest hz
    rw [List.all_eq_true]
    intro y hy
    obtain ⟨x, hx, rfl⟩ := List.getElem_of_mem hy
    have hxD : x < D := by have := hr.ok.l1; unfold redV at hx; omega
    have := h0 x hxD
    rw [List.getD_eq_getElem?_getD, List.getElem?_eq_getElem hx] at this
    simpa using this
theorem comb_iff {u : Nat} (hu : u < D + ps.length) : (combN M D ps hv u).isSome = true ↔ Sp M D (PS D (genN D ps) hv) (U D (genN D ps) u) := by
  rw [← (red_left h hl hu).2]
  unfold combN termsN
  dsimp only
  split
  · rename_i e; simp [e]
  · rename_i e; simp [e]
theorem comb_some {u : Nat} (hu : u < D + ps.length) {l : List (Nat × Nat)} (hc : combN M D ps hv u = some l) : ∃ K : List Nat, K.length = (basisN M D ps hv).length ∧ (∀ x ∈ K, x < 2 ^ M) ∧ l = tmsAt (basisN M D ps hv) K (basisN M D ps hv).length ∧
    ∀ x, x < D → U D (genN D ps) u x = sg (fun q => mu M (K.getD q 0) (U D (genN D ps) ((basisN M D ps hv).getD q 0) x)) (basisN M D ps hv).length := by
  obtain ⟨hr, _⟩ := red_left h hl hu
  unfold combN termsN at hc
  dsimp only at hc
  generalize redV M (basisN M D ps hv).length (((genN D ps).drop (u * D)).take D) (spanN M D ps hv) = s at *
  split at hc
  · rename_i e
    refine ⟨s.2, hr.ok.l2, hr.ok.e2, (Option.some.inj hc).symm, fun x hx => ?_⟩
    have h1 := hr.sum x hx
    have hx2 : x < s.1.length := by have := hr.ok.l1; omega
    have h2 : s.1.getD x 0 = 0 := by
      rw [List.getD_eq_getElem?_getD, List.getElem?_eq_getElem hx2]
      rw [List.all_eq_true] at e
      simpa using e _ (List.getElem_mem hx2)
    rw [h2] at h1
    exact eq_of_xor h1.symm
  · cases hc
end
def eu' (q : Nat) : Nat → Nat := fun x => if x = q then 1 else 0
theorem eu_vc {M D : Nat} (hM : FldM M) (q : Nat) : Vc M D (eu' q) := fun x _ => by
  unfold eu'
  split
  · exact one_lt hM
  · exact Nat.two_pow_pos M
def WS (w : Nat → Nat → Nat) (p : Nat) : (Nat → Nat) → Prop := fun s => ∃ r, r < p ∧ s = w r
theorem Iso.sp {M D : Nat} {T S : (Nat → Nat) → Nat → Nat} (h : Iso M D T S) {A A' : (Nat → Nat) → Prop} (hA : ∀ s, A s → Vc M D s ∧ A' (T s)) {v : Nat → Nat} (hv : Sp M D A v) : Sp M D A' (T v) := by
  induction hv with
  | zero h0 => exact .zero fun x hx => h.zero h0 x hx
  | step h1 hs hc h2 ih =>
    rename_i u s v c
    obtain ⟨a1, a2⟩ := hA _ hs
    refine .step ih a2 hc fun x hx => ?_
    rw [h.congr _ _ h2 x hx, h.add u (fun k => mu M c (s k)) x hx, h.smul c s hc a1 x hx]
end Go.Proofs.YtaclmbbiegklcaaGreatDoor
end
section
/- Texts as lists of a field's elements; what a sound sum of units is: plain law. -/
namespace Go.Proofs.YtaclmbbiegklcaaGreatDoor
open Go.RowKit
set_option linter.unusedSectionVars false
theorem gt_id {D : Nat} : ∀ n, n ≤ D → ∀ r c, r < D → c < D → gt D (idAt D n) r c = if r < n ∧ r = c then 1 else 0
  | 0, _, r, c, _, _ => by
    rw [if_neg (by omega)]
    unfold gt idAt
    rw [List.getD_eq_getElem?_getD, List.getElem?_replicate]
    split <;> rfl
  | n + 1, hn, r, c, hr, hc => by
    rw [idAt, gt_set (R := D) (by rw [idAt_length]) (by omega) (by omega) hc, gt_id n (by omega) r c hr hc]
    by_cases h : r = n ∧ c = n
    · rw [if_pos h, if_pos (by omega)]
    · rw [if_neg h]
      by_cases h2 : r < n ∧ r = c
      · rw [if_pos h2, if_pos (by omega)]
      · rw [if_neg h2, if_neg (by omega)]
theorem U_data {D : Nat} {ps : List (List Nat)} {u x : Nat} (hu : u < D) (hx : x < D) : U D (genN D ps) u x = eu' u x := by
  have h := gt_id D (Nat.le_refl _) u x hu hx
  unfold U gt genN
  unfold gt at h
  rw [List.getD_eq_getElem?_getD] at h ⊢
  rw [List.getElem?_append_left (by rw [idAt_length]; exact idx_lt hu hx), h]
  unfold eu'
  by_cases e : u = x
  · subst e; rw [if_pos ⟨hu, rfl⟩, if_pos rfl]
  · rw [if_neg (by omega), if_neg (fun e2 => e e2.symm)]
theorem flat_get {D x : Nat} (hx : x < D) : ∀ {ps : List (List Nat)} (_ : ∀ r ∈ ps, r.length = D) (i : Nat), i < ps.length → ps.flatten.getD (i * D + x) 0 = (ps.getD i []).getD x 0
  | [], _, i, h => by simp at h
  | r :: ps, hr, i, h => by
    have h0 := hr r (by simp)
    rw [List.flatten_cons, List.getD_eq_getElem?_getD]
    cases i with
    | zero => rw [List.getElem?_append_left (by omega), Nat.zero_mul, Nat.zero_add, ← List.getD_eq_getElem?_getD]; rfl
    | succ i =>
      have e : (i + 1) * D + x - r.length = i * D + x := by rw [Nat.add_mul]; omega
      rw [List.getElem?_append_right (by rw [Nat.add_mul]; omega), e, ← List.getD_eq_getElem?_getD, flat_get hx (fun s hs => hr s (by simp [hs])) i (by simpa using h)]
      rfl
theorem U_par {M D : Nat} {ps : List (List Nat)} (h : CodeOk M D ps) {i x : Nat} (hi : i < ps.length) (hx : x < D) : U D (genN D ps) (D + i) x = (ps.getD i []).getD x 0 := by
  rw [← flat_get hx (fun r hr => (h.row r hr).1) i hi]
  unfold U gt genN
  have e : (D + i) * D + x - (idAt D D).length = i * D + x := by rw [idAt_length, Nat.add_mul]; omega
  rw [List.getD_eq_getElem?_getD, List.getElem?_append_right (by rw [idAt_length, Nat.add_mul]; omega), e, ← List.getD_eq_getElem?_getD]
theorem U_ne {M D : Nat} {ps : List (List Nat)} (h : CodeOk M D ps) {u : Nat} (hu : u < D + ps.length) : ∃ x, x < D ∧ U D (genN D ps) u x ≠ 0 := by
  by_cases hd : u < D
  · exact ⟨u, hd, by rw [U_data hd hd]; simp [eu']⟩
  · obtain ⟨i, rfl⟩ : ∃ i, u = D + i := ⟨u - D, by omega⟩
    have hi : i < ps.length := by omega
    obtain ⟨h1, h2, y, h3, h4⟩ := h.row _ (List.getElem_mem hi)
    obtain ⟨x, hx, rfl⟩ := List.getElem_of_mem h3
    refine ⟨x, by omega, ?_⟩
    rw [U_par h hi (by omega), List.getD_eq_getElem?_getD (l := ps), List.getElem?_eq_getElem hi, Option.getD_some, List.getD_eq_getElem?_getD, List.getElem?_eq_getElem hx]
    exact h4
def lx {α : Type} (f : α → Nat) : List α → Nat
  | [] => 0
  | a :: l => f a ^^^ lx f l
section
variable {M D n : Nat} {ps us : List (List Nat)} (h : CodeOk M D ps) (hl : us.length = D) (hu : ∀ u ∈ us, isB u ∧ u.length = n) (he : FitM M n)
include h hl hu he
end
def Sound (M D : Nat) (ps : List (List Nat)) (u : Nat) (l : List (Nat × Nat)) : Prop := ∀ x, x < D → lx (fun t => mu M t.2 (U D (genN D ps) t.1 x)) l = U D (genN D ps) u x
section
variable {M D n : Nat} {ps us : List (List Nat)} (h : CodeOk M D ps) (hl : us.length = D) (hu : ∀ u ∈ us, isB u ∧ u.length = n) (he : FitM M n)
include h hl hu he
end
structure CombOk (M D : Nat) (ps : List (List Nat)) (hv : List Bool) (u : Nat) (l : List (Nat × Nat)) : Prop where
  snd : Sound M D ps u l
  lt : ∀ t ∈ l, t.2 < 2 ^ M ∧ t.2 ≠ 0
  pres : ∀ t ∈ l, hv.getD t.1 false = true
  inc : l.Pairwise fun a b => a.1 < b.1
  le : l.length ≤ (basisN M D ps hv).length
theorem CombOk.pos {M D : Nat} {ps : List (List Nat)} {hv : List Bool} (h : CodeOk M D ps) {u : Nat} (hu : u < D + ps.length) {l : List (Nat × Nat)} (hc : CombOk M D ps hv u l) : 0 < l.length := by
  cases l with
  | nil =>
    obtain ⟨x, hx, hne⟩ := U_ne h hu
    exact absurd (hc.snd x hx).symm hne
  | cons a l => simp
end Go.Proofs.YtaclmbbiegklcaaGreatDoor
end
section
/- Full bases; one unit more; stripes with gaps: plain law. -/
namespace Go.Proofs.YtaclmbbiegklcaaGreatDoor
open Go.RowKit
set_option linter.unusedSectionVars false
set_option maxHeartbeats 4000000
set_option maxRecDepth 100000
theorem sp_all {M D : Nat} (hM : FldM M) {S : (Nat → Nat) → Prop} (hS : ∀ s, S s → Vc M D s) (h : ∀ q, q < D → Sp M D S (eu' q)) {v : Nat → Nat} (hv : Vc M D v) : Sp M D S v := by
  refine (Sp.sum hM hS (c := v) (w := eu') D fun q hq => ⟨hv q hq, h q hq⟩).congr fun x hx => ?_
  rw [sg_congr D (fun q hq => show mu M (v q) (eu' q x) = if q = x then v x else 0 by
    unfold eu'
    by_cases e : x = q
    · subst e; rw [if_pos rfl, if_pos rfl, mu_one hM (hv x hx)]
    · rw [if_neg e, if_neg (fun e2 => e e2.symm), mu_zero]), sg_one (k := x) D (fun q _ hne => if_neg hne), if_pos hx, if_pos rfl]
section
variable {M D : Nat} {ps : List (List Nat)} {hv : List Bool} (h : CodeOk M D ps) (hl : hv.length = D + ps.length)
include h hl
theorem full_iff : (basisN M D ps hv).length = D ↔ ∀ v, Vc M D v → Sp M D (PS D (genN D ps) hv) v := by
  obtain ⟨T, S, hb⟩ := basis_to h hl
  constructor
  · intro e v hv'
    exact (sp_BP h hl).1 (hb.span h.f (U_all h) hv' fun r hr hle => by omega)
  · intro hall
    apply Classical.byContradiction
    intro hne
    have hlt : (basisN M D ps hv).length < D := by have := hb.le; omega
    have hS := hb.iso.ltS _ (eu_vc (D := D) h.f (basisN M D ps hv).length)
    have h1 := hb.low' h.f (U_all h) ((sp_BP h hl).2 (hall _ hS)) (basisN M D ps hv).length hlt (Nat.le_refl _)
    rw [hb.iso.ts _ (eu_vc h.f _) _ hlt] at h1
    simp [eu'] at h1
theorem full_of_data (hd : ∀ i, i < D → hv.getD i false = true) : (basisN M D ps hv).length = D := by
  rw [full_iff h hl]
  intro v hv'
  have hS : ∀ s, PS D (genN D ps) hv s → Vc M D s := fun s ⟨u, _, e⟩ => by rw [e]; exact U_all h _
  refine sp_all h.f hS (fun q hq => ?_) hv'
  exact (Sp.of h.f hS ⟨q, hd q hq, rfl⟩).congr fun x hx => (U_data hq hx).symm
theorem full_iff_rec : (basisN M D ps hv).length = D ↔ ∀ u, u < D + ps.length → (combN M D ps hv u).isSome = true := by
  rw [full_iff h hl]
  constructor
  · intro hall u hu
    exact (comb_iff h hl hu).2 (hall _ (U_all h u))
  · intro hall v hv'
    have hS : ∀ s, PS D (genN D ps) hv s → Vc M D s := fun s ⟨u, _, e⟩ => by rw [e]; exact U_all h _
    refine sp_all h.f hS (fun q hq => ?_) hv'
    exact ((comb_iff h hl (by omega)).1 (hall q (by omega))).congr fun x hx => (U_data hq hx).symm
end
section
variable {M D k : Nat} {ps : List (List Nat)} {hv : List Bool} (h : CodeOk M D ps) (hl : hv.length = D + ps.length) (hk : k < D + ps.length)
include h hl hk
end
section
variable {M D n : Nat} {ps us : List (List Nat)} {hv : List Bool} {nz : List Nat} (h : CodeOk M D ps) (hl : us.length = D) (hu : ∀ u ∈ us, isB u ∧ u.length = n) (he : FitM M n) (hvl : hv.length = D + ps.length)
include h hl hu he hvl
end
end Go.Proofs.YtaclmbbiegklcaaGreatDoor
end
section
/- Layer 9, the plain law: how many further units may be missing. No program in sight. -/
namespace Go.Proofs.YtaclmbbiegklcaaGreatDoor
def minusN (hv : List Bool) (L : List Nat) : List Bool := L.foldl (fun h u => h.set u false) hv
theorem minusN_length : ∀ (L : List Nat) (hv : List Bool), (minusN hv L).length = hv.length
  | [], hv => rfl
  | u :: L, hv => by
    have := minusN_length L (hv.set u false)
    rw [List.length_set] at this
    exact this
theorem getD_setB (hv : List Bool) (u j : Nat) (b : Bool) : (hv.set u b).getD j false = if j = u then (if u < hv.length then b else false) else hv.getD j false := by
  rw [List.getD_eq_getElem?_getD, List.getD_eq_getElem?_getD, List.getElem?_set]
  by_cases e : j = u
  · subst e
    rw [if_pos rfl, if_pos rfl]
    split <;> rfl
  · rw [if_neg (Ne.symm e), if_neg e]
theorem minusN_get : ∀ (L : List Nat) (hv : List Bool) (j : Nat), (minusN hv L).getD j false = if j ∈ L then false else hv.getD j false
  | [], hv, j => by simp [minusN]
  | u :: L, hv, j => by
    have := minusN_get L (hv.set u false) j
    rw [show minusN hv (u :: L) = minusN (hv.set u false) L from rfl, this, getD_setB]
    by_cases h : j ∈ L
    · rw [if_pos h, if_pos (by simp [h])]
    · rw [if_neg h]
      by_cases e : j = u
      · have h8 : j ∈ u :: L := by rw [e]; exact List.mem_cons_self
        rw [if_pos e, if_pos h8]; split <;> rfl
      · have h8 : j ∉ u :: L := fun h9 => (List.mem_cons.1 h9).elim e h
        rw [if_neg e, if_neg h8]
def upN (hv : List Bool) : List Nat := (List.range hv.length).filter fun i => hv.getD i false
theorem mem_upN {hv : List Bool} {i : Nat} : i ∈ upN hv ↔ hv.getD i false = true := by
  unfold upN
  rw [List.mem_filter, List.mem_range]
  constructor
  · exact fun h => h.2
  · intro h
    refine ⟨?_, h⟩
    by_cases e : i < hv.length
    · exact e
    · rw [List.getD_eq_getElem?_getD, List.getElem?_eq_none (by omega)] at h; cases h
def subsN : List Nat → Nat → List (List Nat)
  | _, 0 => [[]]
  | [], _ + 1 => []
  | x :: l, k + 1 => (subsN l k).map (x :: ·) ++ subsN l (k + 1)
theorem mem_subsN : ∀ {l : List Nat} {k : Nat} {s : List Nat}, s ∈ subsN l k ↔ s.Sublist l ∧ s.length = k
  | l, 0, s => by
    unfold subsN
    rw [List.mem_singleton]
    constructor
    · rintro rfl; exact ⟨List.nil_sublist _, rfl⟩
    · exact fun h => List.eq_nil_of_length_eq_zero h.2
  | [], k + 1, s => by
    unfold subsN
    constructor
    · intro h; cases h
    · rintro ⟨h1, h2⟩
      have := h1.length_le
      simp only [List.length_nil] at this
      omega
  | x :: l, k + 1, s => by
    unfold subsN
    rw [List.mem_append, List.mem_map]
    constructor
    · rintro (⟨t, h1, rfl⟩ | h1)
      · obtain ⟨h2, h3⟩ := mem_subsN.1 h1
        exact ⟨h2.cons_cons x, by simp [h3]⟩
      · obtain ⟨h2, h3⟩ := mem_subsN.1 h1
        exact ⟨h2.cons x, h3⟩
    · rintro ⟨h1, h2⟩
      cases h1 with
      | cons _ h3 => exact .inr (mem_subsN.2 ⟨h3, h2⟩)
      | cons_cons _ h3 => exact .inl ⟨_, mem_subsN.2 ⟨h3, by simpa using h2⟩, rfl⟩
theorem nodup_le : ∀ (T L : List Nat), T.Nodup → (∀ x ∈ T, x ∈ L) → T.length ≤ L.length
  | [], L, _, _ => by simp
  | x :: T, L, hn, h => by
    rw [List.nodup_cons] at hn
    have hx := h x (by simp)
    have ih := nodup_le T (L.erase x) hn.2 fun y hy => (List.mem_erase_of_ne (fun e => hn.1 (by rw [← e]; exact hy))).2 (h y (by simp [hy]))
    rw [List.length_erase_of_mem hx] at ih
    have := List.length_pos_of_mem hx
    simp only [List.length_cons]
    omega
def badN (dec : List Bool → Bool) (hv : List Bool) (f : Nat) : Bool := (subsN (upN hv) (f + 1)).any fun s => !dec (minusN hv s)
def leftN (dec : List Bool → Bool) (hv : List Bool) : Int := if dec hv then (((List.range 4).find? (badN dec hv)).getD 4 : Nat) else -1
end Go.Proofs.YtaclmbbiegklcaaGreatDoor
end
section
/- Layer 9, the plain law: more units present, still sufficient. -/
namespace Go.Proofs.YtaclmbbiegklcaaGreatDoor
def decN (M D : Nat) (ps : List (List Nat)) (hv : List Bool) : Bool := decide (hv.length = D + ps.length) && decide ((basisN M D ps hv).length = D)
end Go.Proofs.YtaclmbbiegklcaaGreatDoor
end
section
/- The reference of layer 8 over the machine of abstract values: Valid, Width, Row, SameInts, SameTexts. -/
namespace Go.Proofs.YtaclmbbiegklcaaGreatDoor
open Go.RowKit
set_option maxHeartbeats 4000000
set_option maxRecDepth 100000
attribute [local irreducible] Quiet Eff OpOk AWPG ACont ABlock ACalls AGoto
def someB (r : List Int) (j : Nat) : Bool := !((r.take j).all fun x => decide (x = 0))
theorem someB_succ (r : List Int) (j : Nat) (h : j < r.length) : someB r (j + 1) = (someB r j || decide (r[j] ≠ 0)) := by
  unfold someB
  rw [List.take_succ_eq_append_getElem h, List.all_append]
  simp [Bool.not_and]
theorem A_r8valid {M D : Int} {par : List (List Int)} (hD : D ≤ 1000000) (hP : par.length ≤ 1000000) : ACalls Tryz.prog 83 [cdA M D par] [] (bV (validC M D par)) [] := by
  refine acalls_of_bodyO Tryz.func83 rfl (Nat.le_of_ble_eq_true rfl) ?_
  have hmp : (par.map rD).length = par.length := List.length_map _
  have h0 : allF M [0] = decide (M = 8 ∨ M = 16) := by
    unfold allF
    by_cases h : M = 8 ∨ M = 16
    · rw [decide_eq_true h]
      rcases h with rfl | rfl <;> rfl
    · rw [decide_eq_false h]; rfl
  by_cases hg : (M = 8 ∨ M = 16) ∧ 1 ≤ D ∧ D + par.length ≤ 32
  · obtain ⟨g1, g2, g3⟩ := hg
    have hv : validC M D par = par.all (rowOk M D) := by
      unfold validC
      rw [h0, decide_eq_true g1, decide_eq_true g2, decide_eq_true (show par.length ≤ 32 by omega), decide_eq_true (show D ≤ 32 - (par.length : Int) by omega)]
      rfl
    rw [hv]
    have hbad : ∀ k (h : k < par.length), rowOk M D par[k] = false → par.all (rowOk M D) = false := fun k h e => List.all_eq_false.2 ⟨par[k], List.getElem_mem h, by rw [e]; decide⟩
    have hall : (∀ r ∈ par, rowOk M D r = true) → par.all (rowOk M D) = true := fun h => List.all_eq_true.2 h
    generalize par.all (rowOk M D) = V at *
    clear hv h0
    (repeat' (first
  | (apply W.gOn; exact rfl; exact rfl)
  | (apply W.qd; (first
    | (apply q_mv; (first|exact vD|exact vO|exact vP|exact vA|exact vF|exact vR|exact vN|exact vY|exact vT|exact vM|exact vL|exact vX))|(apply q_as; (first|exact vD|exact vO|exact vP|exact vA|exact vF|exact vR|exact vN|exact vY|exact vT|exact vM|exact vL|exact vX))|(apply q_fld_optF; (iterate 3 exact rfl))|(apply q_ld_box; (iterate 4 exact rfl))|(apply q_lss; exact rfl; exact rfl)|(apply q_gtr; exact rfl; exact rfl)|(apply q_neq; exact rfl; exact rfl)|(apply q_add; exact rfl; exact rfl; omega)|(apply q_len_sl; exact rfl; exact rfl)|(apply (q_pickT (u := .d _)); exact rfl; exact rfl)
    | (apply (q_pickF (u := .d _)); exact rfl; exact rfl)))|(apply W.ed; (apply e_boxF; (iterate 3 exact rfl); kernel_rfl; kernel_rfl))|(refine W.gOff _ _ rfl rfl (by intro h; cases h) ?_)|(apply AWP.seq)|(apply ACont_normal)|(apply W.region; kernel_rfl)|(apply Walk.nil)|(apply AWP.block)|(apply AWP.skip)|(refine W.gT _ _ rfl rfl (fun hb => ?_) (fun hb => ?_) <;> ((try simp only [hb, zA, zB]) <;> (try simp only [zC, zD, zE, zF, zG, zH, zI, zJ] at hb) <;> (try (exfalso; omega))))|(refine W.gF _ _ rfl rfl (fun hb => ?_) (fun hb => ?_) <;> ((try simp only [hb, zA, zB]) <;> (try simp only [zC, zD, zE, zF, zG, zH, zI, zJ] at hb) <;> (try (exfalso; omega))))
  | (refine W.cond _ rfl (fun hb => ?_) (fun hb => ?_) <;> ((try simp only [hb, zA, zB]) <;> (try simp only [zC, zD, zE, zF, zG, zH, zI, zJ] at hb) <;> (try (exfalso; omega))))))
    all_goals
      refine AWP.loopW (α := Nat) (fun k => k ≤ par.length ∧ ∀ r ∈ par.take k, rowOk M D r = true) (fun k => ⟨[(3, iV k), (1, .opt 0 0)], [.box [.d .any, iV M, iV D, rowsA par, .d .any]]⟩) (fun k => par.length - k) 0 ⟨by omega, by simp⟩ ⟨[0], rfl, rfl, rfl, by (repeat (first | exact trivial | refine ⟨rfl, ?_⟩))⟩ fun k hk => ?_
      by_cases hkl : k < par.length
      · have hbk := hbad k hkl
        by_cases hrl : (par[k].length : Int) = D
        · have hro : rowOk M D par[k] = (par[k].all (fun x => allF M [x]) && !(par[k].all fun x => decide (x = 0))) := by
            unfold rowOk; rw [decide_eq_true hrl, Bool.true_and]
          (repeat' (first
  | (apply W.qd; (first
    | (apply q_mv; (first|exact vD|exact vO|exact vP|exact vA|exact vF|exact vR|exact vN|exact vY|exact vT|exact vM|exact vL|exact vX))|(apply q_as; (first|exact vD|exact vO|exact vP|exact vA|exact vF|exact vR|exact vN|exact vY|exact vT|exact vM|exact vL|exact vX))|(apply q_fld_optF; (iterate 3 exact rfl))|(apply q_ld_box; (iterate 4 exact rfl))|(apply q_lss; exact rfl; exact rfl)|(apply q_neq; exact rfl; exact rfl)|(apply q_len_sl; exact rfl; exact rfl)|(apply q_ld_map; (iterate 3 exact rfl); (first | omega | (focus (simp; done))))
    | (apply q_ix_slF; (iterate 4 exact rfl); (first | (with_reducible exact rfl) | exact natI_spec rfl | assumption | exact (Int.toNat_of_nonneg (by omega)).symm); (first | omega | (focus (simp only [List.length_map]; omega)) | (focus (simp; done)) | (focus (simp; omega))))))|(apply AWP.seq)|(apply ACont_normal)|(apply W.region; kernel_rfl)|(apply W.regionD; exact rfl; kernel_rfl)|(apply Walk.nil)|(apply W.chk; kernel_rfl)|(apply AWP.block)|(apply AWP.skip)
  | (refine W.cond _ rfl (fun hb => ?_) (fun hb => ?_) <;> ((try simp only [hb, zA, zB]) <;> (try simp only [zC, zD, zE, zF, zG, zH, zI, zJ] at hb) <;> (try (exfalso; omega))))))
          refine AWP.loopW (α := Nat) (fun j => j ≤ par[k].length ∧ ∀ x ∈ par[k].take j, allF M [x] = true) (fun j => ⟨[(5, iV j), (4, bV (someB par[k] j)), (3, iV k), (1, .opt 0 0)], [.box [.d .any, iV M, iV D, rowsA par, .d .any]]⟩) (fun j => par[k].length - j) 0 ⟨by omega, by simp⟩ ⟨[0], rfl, rfl, rfl, by (repeat (first | exact trivial | refine ⟨rfl, ?_⟩))⟩ fun j hj => ?_
          by_cases hjl : j < par[k].length
          · have hx := A_rfvalid M (par[k][j])
            have hss := someB_succ par[k] j hjl
            cases hf : allF M [par[k][j]] <;> rw [hf] at hx
            · have hV : V = false := hbk (by
                rw [hro, List.all_eq_false.2 ⟨par[k][j], List.getElem_mem _, by rw [hf]; decide⟩]; rfl)
              subst hV
              (repeat' (first
  | (apply W.qd; (first
    | (apply (q_callC (hx)); exact rfl; exact rfl; kernel_rfl; kernel_rfl; kernel_rfl)|(apply q_mv; (first|exact vD|exact vO|exact vP|exact vA|exact vF|exact vR|exact vN|exact vY|exact vT|exact vM|exact vL|exact vX))|(apply q_as; (first|exact vD|exact vO|exact vP|exact vA|exact vF|exact vR|exact vN|exact vY|exact vT|exact vM|exact vL|exact vX))|(apply q_fld_optF; (iterate 3 exact rfl))|(apply q_ld_box; (iterate 4 exact rfl))|(apply q_lss; exact rfl; exact rfl)|(apply q_not; exact rfl)|(apply q_ld_map; (iterate 3 exact rfl); (first | omega | (focus (simp; done))))
    | (apply q_ix_slF; (iterate 4 exact rfl); (first | (with_reducible exact rfl) | exact natI_spec rfl | assumption | exact (Int.toNat_of_nonneg (by omega)).symm); (first | omega | (focus (simp only [List.length_map]; omega)) | (focus (simp; done)) | (focus (simp; omega))))))|(apply AWP.seq)|(apply ACont_normal)|(apply W.region; kernel_rfl)|(apply W.regionD; exact rfl; kernel_rfl)|(apply Walk.nil)|(apply W.chk; kernel_rfl)|(apply AWP.block)|(apply AWP.skip)|(apply AWP.ret)|(apply ACont_ret)|(apply ABlock_ret)|(apply W.condT; exact rfl)
  | (refine W.cond _ rfl (fun hb => ?_) (fun hb => ?_) <;> ((try simp only [hb, zA, zB]) <;> (try simp only [zC, zD, zE, zF, zG, zH, zI, zJ] at hb) <;> (try (exfalso; omega))))))
              all_goals exact ⟨.inl rfl, [], [bV false], rfl, rfl, ⟨rfl, trivial⟩, AVle.of_eq rfl, rfl⟩
            · have hj2 : ∀ x ∈ par[k].take (j + 1), allF M [x] = true := fun x hx2 => by
                rw [List.take_succ_eq_append_getElem hjl] at hx2
                rcases List.mem_append.1 hx2 with h | h
                · exact hj.2 x h
                · rw [List.mem_singleton.1 h]; exact hf
              generalize someB par[k] j = s at *
              replace hss := Lib.hid hss
              cases s
              · (repeat' (first
  | (apply W.gOn; exact rfl; exact rfl)
  | (apply W.qd; (first
    | (apply (q_callC (hx)); exact rfl; exact rfl; kernel_rfl; kernel_rfl; kernel_rfl)|(apply q_mv; (first|exact vD|exact vO|exact vP|exact vA|exact vF|exact vR|exact vN|exact vY|exact vT|exact vM|exact vL|exact vX))|(apply q_as; (first|exact vD|exact vO|exact vP|exact vA|exact vF|exact vR|exact vN|exact vY|exact vT|exact vM|exact vL|exact vX))|(apply q_fld_optF; (iterate 3 exact rfl))|(apply q_ld_box; (iterate 4 exact rfl))|(apply q_lss; exact rfl; exact rfl)|(apply q_neq; exact rfl; exact rfl)|(apply q_not; exact rfl)|(apply q_add; exact rfl; exact rfl; omega)|(apply q_ld_map; (iterate 3 exact rfl); (first | omega | (focus (simp; done))))|(apply q_ix_slF; (iterate 4 exact rfl); (first | (with_reducible exact rfl) | exact natI_spec rfl | assumption | exact (Int.toNat_of_nonneg (by omega)).symm); (first | omega | (focus (simp only [List.length_map]; omega)) | (focus (simp; done)) | (focus (simp; omega))))
    | (apply (q_pickF (u := .d _)); exact rfl; exact rfl)))|(apply AWP.seq)|(apply ACont_normal)|(apply W.region; kernel_rfl)|(apply W.regionD; exact rfl; kernel_rfl)|(apply Walk.nil)|(apply W.chk; kernel_rfl)|(apply AWP.block)|(apply AWP.skip)|(apply ABlock_normal)|(apply W.condF; exact rfl)
  | (refine W.cond _ rfl (fun hb => ?_) (fun hb => ?_) <;> ((try simp only [hb, zA, zB]) <;> (try simp only [zC, zD, zE, zF, zG, zH, zI, zJ] at hb) <;> (try (exfalso; omega))))))
                refine ⟨j + 1, ⟨by omega, hj2⟩, by omega, [0], rfl, rfl, rfl, iV_eq (by omega), ?_, rfl, rfl, trivial⟩
                rw [hss.out]
                exact congrArg bV (show (false || decide (par[k][j] ≠ 0)) = !decide (par[k][j] = 0) by simp)
              · (repeat' (first
  | (apply W.qd; (first
    | (apply (q_callC (hx)); exact rfl; exact rfl; kernel_rfl; kernel_rfl; kernel_rfl)|(apply q_mv; (first|exact vD|exact vO|exact vP|exact vA|exact vF|exact vR|exact vN|exact vY|exact vT|exact vM|exact vL|exact vX))|(apply q_as; (first|exact vD|exact vO|exact vP|exact vA|exact vF|exact vR|exact vN|exact vY|exact vT|exact vM|exact vL|exact vX))|(apply q_fld_optF; (iterate 3 exact rfl))|(apply q_ld_box; (iterate 4 exact rfl))|(apply q_lss; exact rfl; exact rfl)|(apply q_not; exact rfl)|(apply q_add; exact rfl; exact rfl; omega)|(apply q_ld_map; (iterate 3 exact rfl); (first | omega | (focus (simp; done))))|(apply q_ix_slF; (iterate 4 exact rfl); (first | (with_reducible exact rfl) | exact natI_spec rfl | assumption | exact (Int.toNat_of_nonneg (by omega)).symm); (first | omega | (focus (simp only [List.length_map]; omega)) | (focus (simp; done)) | (focus (simp; omega))))
    | (apply (q_pickT (u := .d _)); exact rfl; exact rfl)))|(refine W.gOff _ _ rfl rfl (by intro h; cases h) ?_)|(apply AWP.seq)|(apply ACont_normal)|(apply W.region; kernel_rfl)|(apply W.regionD; exact rfl; kernel_rfl)|(apply Walk.nil)|(apply W.chk; kernel_rfl)|(apply AWP.block)|(apply AWP.skip)|(apply ABlock_normal)|(apply W.condF; exact rfl)
  | (refine W.cond _ rfl (fun hb => ?_) (fun hb => ?_) <;> ((try simp only [hb, zA, zB]) <;> (try simp only [zC, zD, zE, zF, zG, zH, zI, zJ] at hb) <;> (try (exfalso; omega))))))
                refine ⟨j + 1, ⟨by omega, hj2⟩, by omega, [0], rfl, rfl, rfl, iV_eq (by omega), ?_, rfl, rfl, trivial⟩
                rw [hss.out]
                rfl
          · have hfull : par[k].take j = par[k] := List.take_of_length_le (by omega)
            have hsv : someB par[k] j = !(par[k].all fun x => decide (x = 0)) := by unfold someB; rw [hfull]
            have hav : par[k].all (fun x => allF M [x]) = true := List.all_eq_true.2 fun x hx => hj.2 x (by rw [hfull]; exact hx)
            rw [hav, ← hsv, Bool.true_and] at hro
            generalize someB par[k] j = s at *
            cases s
            · have hV : V = false := hbk hro
              subst hV
              (repeat' (first
  | (apply W.qd; (first
    | (apply q_mv; (first|exact vD|exact vO|exact vP|exact vA|exact vF|exact vR|exact vN|exact vY|exact vT|exact vM|exact vL|exact vX))|(apply q_as; (first|exact vD|exact vO|exact vP|exact vA|exact vF|exact vR|exact vN|exact vY|exact vT|exact vM|exact vL|exact vX))|(apply q_fld_optF; (iterate 3 exact rfl))|(apply q_ld_box; (iterate 4 exact rfl))|(apply q_lss; exact rfl; exact rfl)
    | (apply q_not; exact rfl)))|(apply AWP.seq)|(apply ACont_normal)|(apply W.region; kernel_rfl)|(apply Walk.nil)|(apply AWP.exit)|(apply AWP.ret)|(apply ACont_exit)|(apply ACont_ret)|(apply ABlock_exit)|(apply ABlock_ret)|(apply W.condT; exact rfl)
  | (refine W.cond _ rfl (fun hb => ?_) (fun hb => ?_) <;> ((try simp only [hb, zA, zB]) <;> (try simp only [zC, zD, zE, zF, zG, zH, zI, zJ] at hb) <;> (try (exfalso; omega))))))
              all_goals exact ⟨.inl rfl, [], [bV false], rfl, rfl, ⟨rfl, trivial⟩, AVle.of_eq rfl, rfl⟩
            · (repeat' (first
  | (apply W.qd; (first
    | (apply q_mv; (first|exact vD|exact vO|exact vP|exact vA|exact vF|exact vR|exact vN|exact vY|exact vT|exact vM|exact vL|exact vX))|(apply q_as; (first|exact vD|exact vO|exact vP|exact vA|exact vF|exact vR|exact vN|exact vY|exact vT|exact vM|exact vL|exact vX))|(apply q_fld_optF; (iterate 3 exact rfl))|(apply q_ld_box; (iterate 4 exact rfl))|(apply q_lss; exact rfl; exact rfl)|(apply q_not; exact rfl)
    | (apply q_add; exact rfl; exact rfl; omega)))|(apply AWP.seq)|(apply ACont_normal)|(apply W.region; kernel_rfl)|(apply Walk.nil)|(apply AWP.skip)|(apply AWP.exit)|(apply ACont_exit)|(apply ABlock_normal)|(apply ABlock_exit)|(apply W.condF; exact rfl)
  | (refine W.cond _ rfl (fun hb => ?_) (fun hb => ?_) <;> ((try simp only [hb, zA, zB]) <;> (try simp only [zC, zD, zE, zF, zG, zH, zI, zJ] at hb) <;> (try (exfalso; omega))))))
              refine ⟨k + 1, ⟨by omega, fun r hr => ?_⟩, by omega, [0], rfl, rfl, rfl, iV_eq (by omega), rfl, trivial⟩
              rw [List.take_succ_eq_append_getElem hkl] at hr
              rcases List.mem_append.1 hr with h | h
              · exact hk.2 r h
              · rw [List.mem_singleton.1 h]; exact hro
        · have hV : V = false := hbk (by unfold rowOk; rw [decide_eq_false hrl]; rfl)
          subst hV
          (repeat' (first
  | (apply W.qd; (first
    | (apply q_mv; (first|exact vD|exact vO|exact vP|exact vA|exact vF|exact vR|exact vN|exact vY|exact vT|exact vM|exact vL|exact vX))|(apply q_as; (first|exact vD|exact vO|exact vP|exact vA|exact vF|exact vR|exact vN|exact vY|exact vT|exact vM|exact vL|exact vX))|(apply q_fld_optF; (iterate 3 exact rfl))|(apply q_ld_box; (iterate 4 exact rfl))|(apply q_lss; exact rfl; exact rfl)|(apply q_neq; exact rfl; exact rfl)|(apply q_len_sl; exact rfl; exact rfl)|(apply q_ld_map; (iterate 3 exact rfl); (first | omega | (focus (simp; done))))
    | (apply q_ix_slF; (iterate 4 exact rfl); (first | (with_reducible exact rfl) | exact natI_spec rfl | assumption | exact (Int.toNat_of_nonneg (by omega)).symm); (first | omega | (focus (simp only [List.length_map]; omega)) | (focus (simp; done)) | (focus (simp; omega))))))|(apply AWP.seq)|(apply ACont_normal)|(apply W.region; kernel_rfl)|(apply W.regionD; exact rfl; kernel_rfl)|(apply Walk.nil)|(apply W.chk; kernel_rfl)|(apply AWP.block)|(apply AWP.skip)|(apply AWP.ret)|(apply ACont_ret)|(apply ABlock_ret)
  | (refine W.cond _ rfl (fun hb => ?_) (fun hb => ?_) <;> ((try simp only [hb, zA, zB]) <;> (try simp only [zC, zD, zE, zF, zG, zH, zI, zJ] at hb) <;> (try (exfalso; omega))))))
          all_goals exact ⟨.inl rfl, [], [bV false], rfl, rfl, ⟨rfl, trivial⟩, AVle.of_eq rfl, rfl⟩
      · have hV : V = true := hall fun r hr => hk.2 r (by rwa [List.take_of_length_le (by omega)])
        subst hV
        (repeat' (first
  | (apply W.qd; (first
    | (apply q_mv; (first|exact vD|exact vO|exact vP|exact vA|exact vF|exact vR|exact vN|exact vY|exact vT|exact vM|exact vL|exact vX))|(apply q_as; (first|exact vD|exact vO|exact vP|exact vA|exact vF|exact vR|exact vN|exact vY|exact vT|exact vM|exact vL|exact vX))|(apply q_fld_optF; (iterate 3 exact rfl))|(apply q_ld_box; (iterate 4 exact rfl))|(apply q_lss; exact rfl; exact rfl)
    | (apply q_len_sl; exact rfl; exact rfl)))|(apply AWP.seq)|(apply ACont_normal)|(apply W.region; kernel_rfl)|(apply Walk.nil)|(apply AWP.exit)|(apply AWP.ret)|(apply ACont_exit)|(apply ABlock_exit)
  | (refine W.cond _ rfl (fun hb => ?_) (fun hb => ?_) <;> ((try simp only [hb, zA, zB]) <;> (try simp only [zC, zD, zE, zF, zG, zH, zI, zJ] at hb) <;> (try (exfalso; omega))))))
        exact ⟨.inl rfl, [], [bV true], rfl, rfl, ⟨rfl, trivial⟩, AVle.of_eq rfl, rfl⟩
  · have hv : validC M D par = false := by
      rw [Bool.eq_false_iff]
      intro h
      unfold validC at h
      rw [h0] at h
      simp only [Bool.and_eq_true, decide_eq_true_eq] at h
      exact hg ⟨h.1.1.1.1, h.1.1.1.2, by omega⟩
    rw [hv]
    clear hv h0
    (repeat' (first
  | (apply W.gOn; exact rfl; exact rfl)
  | (apply W.qd; (first
    | (apply q_mv; (first|exact vD|exact vO|exact vP|exact vA|exact vF|exact vR|exact vN|exact vY|exact vT|exact vM|exact vL|exact vX))|(apply q_as; (first|exact vD|exact vO|exact vP|exact vA|exact vF|exact vR|exact vN|exact vY|exact vT|exact vM|exact vL|exact vX))|(apply q_fld_optF; (iterate 3 exact rfl))|(apply q_ld_box; (iterate 4 exact rfl))|(apply q_lss; exact rfl; exact rfl)|(apply q_gtr; exact rfl; exact rfl)|(apply q_neq; exact rfl; exact rfl)|(apply q_add; exact rfl; exact rfl; omega)|(apply q_len_sl; exact rfl; exact rfl)|(apply (q_pickT (u := .d _)); exact rfl; exact rfl)
    | (apply (q_pickF (u := .d _)); exact rfl; exact rfl)))|(apply W.ed; (apply e_boxF; (iterate 3 exact rfl); kernel_rfl; kernel_rfl))|(refine W.gOff _ _ rfl rfl (by intro h; cases h) ?_)|(apply AWP.seq)|(apply ACont_normal)|(apply W.region; kernel_rfl)|(apply Walk.nil)|(apply AWP.ret)|(apply ACont_ret)|(apply W.condT; exact rfl)|(refine W.gT _ _ rfl rfl (fun hb => ?_) (fun hb => ?_) <;> ((try simp only [hb, zA, zB]) <;> (try simp only [zC, zD, zE, zF, zG, zH, zI, zJ] at hb) <;> (try (exfalso; omega))))|(refine W.gF _ _ rfl rfl (fun hb => ?_) (fun hb => ?_) <;> ((try simp only [hb, zA, zB]) <;> (try simp only [zC, zD, zE, zF, zG, zH, zI, zJ] at hb) <;> (try (exfalso; omega))))
  | (refine W.cond _ rfl (fun hb => ?_) (fun hb => ?_) <;> ((try simp only [hb, zA, zB]) <;> (try simp only [zC, zD, zE, zF, zG, zH, zI, zJ] at hb) <;> (try (exfalso; omega))))))
    all_goals exact ⟨.inl rfl, [], [bV false], rfl, rfl, ⟨rfl, trivial⟩, AVle.of_eq rfl, rfl⟩
theorem A_r8width {M D : Int} {par : List (List Int)} (hD : D ≤ 1000000) (hP : par.length ≤ 1000000) : ACalls Tryz.prog 159 [cdA M D par] [] (iV (if validC M D par then D + (par.length : Int) else 0)) [] := by
  refine acalls_of_bodyO Tryz.func159 rfl (Nat.le_of_ble_eq_true rfl) ?_
  have h0 := A_r8valid (M := M) hD hP
  have hml : (par.map rD).length = par.length := List.length_map _
  cases hv : validC M D par
  · rw [hv] at h0
    (repeat' (first
  | (apply W.qd; (first
    | (apply (q_callC (h0)); exact rfl; exact rfl; kernel_rfl; kernel_rfl; kernel_rfl)|(apply q_mv; (first|exact vD|exact vO|exact vP|exact vA|exact vF|exact vR|exact vN|exact vY|exact vT|exact vM|exact vL|exact vX))|(apply q_as; (first|exact vD|exact vO|exact vP|exact vA|exact vF|exact vR|exact vN|exact vY|exact vT|exact vM|exact vL|exact vX))|(apply q_ld_boxF; (iterate 4 exact rfl))
    | (apply q_not; exact rfl)))|(apply W.ed; (apply e_boxF; (iterate 3 exact rfl); kernel_rfl; kernel_rfl))|(apply AWP.seq)|(apply ACont_normal)|(apply W.region; kernel_rfl)|(apply Walk.nil)|(apply AWP.ret)|(apply ACont_ret)
  | (apply W.condT; exact rfl)))
    exact ⟨.inl rfl, [], [iV 0], rfl, rfl, ⟨rfl, trivial⟩, AVle.of_eq rfl, rfl⟩
  · rw [hv] at h0
    have hD : 1 ≤ D := by
      unfold validC at hv
      simp only [Bool.and_eq_true, decide_eq_true_eq] at hv
      omega
    (repeat' (first
  | (apply W.qd; (first
    | (apply (q_callC (h0)); exact rfl; exact rfl; kernel_rfl; kernel_rfl; kernel_rfl)|(apply q_mv; (first|exact vD|exact vO|exact vP|exact vA|exact vF|exact vR|exact vN|exact vY|exact vT|exact vM|exact vL|exact vX))|(apply q_as; (first|exact vD|exact vO|exact vP|exact vA|exact vF|exact vR|exact vN|exact vY|exact vT|exact vM|exact vL|exact vX))|(apply q_fld_optF; (iterate 3 exact rfl))|(apply q_ld_box; (iterate 4 exact rfl))|(apply q_ld_boxF; (iterate 4 exact rfl))|(apply q_not; exact rfl)|(apply q_add; exact rfl; exact rfl; omega)
    | (apply q_len_sl; exact rfl; exact rfl)))|(apply W.ed; (apply e_boxF; (iterate 3 exact rfl); kernel_rfl; kernel_rfl))|(apply AWP.seq)|(apply ACont_normal)|(apply W.region; kernel_rfl)|(apply Walk.nil)|(apply AWP.skip)|(apply AWP.ret)
  | (apply W.condF; exact rfl)))
    refine ⟨.inl rfl, [], [_], rfl, rfl, ⟨rfl, trivial⟩, AVle.of_eq ?_, rfl⟩
    rw [hml, if_pos rfl]
    rfl
def rowN (D : Nat) (ps : List (List Nat)) (u : Nat) : List Nat := (List.range D).map fun x => U D (genN D ps) u x
theorem rowN_length (D : Nat) (ps : List (List Nat)) (u : Nat) : (rowN D ps u).length = D := by simp [rowN]
theorem A_r8row {M D u : Nat} {ps : List (List Nat)} (h : CodeOk M D ps) (hu : u < D + ps.length) : ACalls Tryz.prog 205 [cdN M D ps, iV u] [] (nats (rowN D ps u)) [] := by
  refine acalls_of_body Tryz.func205 rfl (Nat.le_of_ble_eq_true rfl) ?_
  have h1 := h.d
  have h2 := h.w
  have hs : ∀ k, k < D → (rowN D ps u).take (k + 1) = (rowN D ps u).take k ++ [U D (genN D ps) u k] := fun k hk => by
    rw [List.take_succ_eq_append_getElem (by rw [rowN_length]; exact hk)]
    simp [rowN]
  have hl := rowN_length D ps u
  have hU1 : ∀ k, k < D → u < D → U D (genN D ps) u k = if u = k then 1 else 0 := fun k hk hu' => by
    rw [U_data hu' hk]; unfold eu'
    by_cases e : k = u
    · rw [if_pos e, if_pos e.symm]
    · rw [if_neg e, if_neg (fun e2 => e e2.symm)]
  have hU2 : ∀ k, k < D → ∀ (hge : D ≤ u) (h4 : u - D < ps.length) (h3 : k < (ps[u - D]).length), U D (genN D ps) u k = (ps[u - D])[k] := fun k hk hge h4 h3 => by
    have := U_par h h4 hk
    rw [show D + (u - D) = u by omega] at this
    rw [this, List.getD_eq_getElem?_getD (l := ps), List.getElem?_eq_getElem h4, Option.getD_some, List.getD_eq_getElem?_getD, List.getElem?_eq_getElem h3]
    rfl
  have hrl : ∀ i (hi : i < ps.length), (ps[i]).length = D := fun i hi => (h.row _ (List.getElem_mem hi)).1
  generalize rowN D ps u = R at *
  (repeat' (first
  | (apply W.qd; (apply q_as; (first|exact vD|exact vO|exact vP|exact vA|exact vF|exact vR|exact vN|exact vY|exact vT|exact vM|exact vL|exact vX)))|(apply W.ed; (apply e_boxF; (iterate 3 exact rfl); kernel_rfl; kernel_rfl))|(apply AWP.seq)|(apply ACont_normal)|(apply W.region; kernel_rfl)|(apply Walk.nil)
  | (apply AWP.block)))
  refine AWP.nilRow 5 1 3 rfl (by omega) ?_
  refine AWP.loopW (α := Nat) (fun k => k ≤ D) (fun k => ⟨[(6, iV k), (1, iV u), (2, .opt 0 0), (5, .osl 1 k 0 (R.take k).length)], [.box [.d .any, iV M, iV D, rowsN ps, .d .any], .row k 1 3 ((R.take k).map kD)]⟩) (fun k => D - k) 0 (by omega) ⟨[0, 1], rfl, rfl, rfl, by (repeat (first | exact trivial | refine ⟨rfl, ?_⟩))⟩ fun k hk => ?_
  have hlt : (R.take k).length ≤ 1024 := by rw [List.length_take]; omega
  by_cases hkD : k < D
  · have hss := hs k hkD
    replace hss := Lib.hid hss
    generalize R.take k = A at *
    by_cases hud : u < D
    · have hUk := hU1 k hkD hud
      by_cases huk : u = k
      · rw [if_pos huk] at hUk
        (repeat' (first
  | (apply W.qd; (first
    | (apply q_mv; (first|exact vD|exact vO|exact vP|exact vA|exact vF|exact vR|exact vN|exact vY|exact vT|exact vM|exact vL|exact vX))|(apply q_as; (first|exact vD|exact vO|exact vP|exact vA|exact vF|exact vR|exact vN|exact vY|exact vT|exact vM|exact vL|exact vX))|(apply q_fld_optF; (iterate 3 exact rfl))|(apply q_ld_box; (iterate 4 exact rfl))|(apply q_lss; exact rfl; exact rfl)|(apply q_geq; exact rfl; exact rfl)|(apply q_eql; exact rfl; exact rfl)|(apply q_add; exact rfl; exact rfl; omega)
    | (apply q_litF; (iterate 5 exact rfl); kernel_rfl; kernel_rfl; exact rfl)))|(apply W.ld; (apply l_app1; (iterate 8 exact rfl); (first | omega | (focus (simp; omega)) | (focus (simp; done)))))|(apply AWP.seq)|(apply ACont_normal)|(apply W.region; kernel_rfl)|(apply Walk.nil)|(apply AWP.block)|(apply AWP.skip)|(apply ABlock_normal)
  | (refine W.cond _ rfl (fun hb => ?_) (fun hb => ?_) <;> ((try simp only [hb, zA, zB]) <;> (try simp only [zC, zD, zE, zF, zG, zH, zI, zJ] at hb) <;> (try (exfalso; omega))))))
        refine ⟨k + 1, by omega, by omega, ?_⟩
        rw [hss.out, hUk]
        exact ⟨[0, 1], rfl, rfl, rfl, iV_eq (by omega), rfl, rfl, congrArg (AV.osl 1 (k + 1) 0) (by simp), trivial⟩
      · rw [if_neg huk] at hUk
        (repeat' (first
  | (apply W.qd; (first
    | (apply q_mv; (first|exact vD|exact vO|exact vP|exact vA|exact vF|exact vR|exact vN|exact vY|exact vT|exact vM|exact vL|exact vX))|(apply q_as; (first|exact vD|exact vO|exact vP|exact vA|exact vF|exact vR|exact vN|exact vY|exact vT|exact vM|exact vL|exact vX))|(apply q_fld_optF; (iterate 3 exact rfl))|(apply q_ld_box; (iterate 4 exact rfl))|(apply q_lss; exact rfl; exact rfl)|(apply q_geq; exact rfl; exact rfl)|(apply q_eql; exact rfl; exact rfl)|(apply q_add; exact rfl; exact rfl; omega)
    | (apply q_litF; (iterate 5 exact rfl); kernel_rfl; kernel_rfl; exact rfl)))|(apply W.ld; (apply l_app1; (iterate 8 exact rfl); (first | omega | (focus (simp; omega)) | (focus (simp; done)))))|(apply AWP.seq)|(apply ACont_normal)|(apply W.region; kernel_rfl)|(apply Walk.nil)|(apply AWP.block)|(apply AWP.skip)|(apply ABlock_normal)
  | (refine W.cond _ rfl (fun hb => ?_) (fun hb => ?_) <;> ((try simp only [hb, zA, zB]) <;> (try simp only [zC, zD, zE, zF, zG, zH, zI, zJ] at hb) <;> (try (exfalso; omega))))))
        refine ⟨k + 1, by omega, by omega, ?_⟩
        rw [hss.out, hUk]
        exact ⟨[0, 1], rfl, rfl, rfl, iV_eq (by omega), rfl, rfl, congrArg (AV.osl 1 (k + 1) 0) (by simp), trivial⟩
    · have hi : u - D < ps.length := by omega
      have hl3 := hrl (u - D) hi
      have hUk := hU2 k hkD (by omega) hi (by omega)
      have hmp : (ps.map rnD).length = ps.length := List.length_map _
      have hsub : ((u : Int) - (D : Int)) = ((u - D : Nat) : Int) := by omega
      (repeat' (first
  | (apply W.qd; (first
    | (apply q_mv; (first|exact vD|exact vO|exact vP|exact vA|exact vF|exact vR|exact vN|exact vY|exact vT|exact vM|exact vL|exact vX))|(apply q_as; (first|exact vD|exact vO|exact vP|exact vA|exact vF|exact vR|exact vN|exact vY|exact vT|exact vM|exact vL|exact vX))|(apply q_fld_optF; (iterate 3 exact rfl))|(apply q_ld_box; (iterate 4 exact rfl))|(apply q_lss; exact rfl; exact rfl)|(apply q_geq; exact rfl; exact rfl)|(apply q_eql; exact rfl; exact rfl)|(apply q_add; exact rfl; exact rfl; omega)|(apply q_sub; exact rfl; exact rfl; omega)|(apply q_ld_map; (iterate 3 exact rfl); (first | omega | (focus (simp; done))))|(apply q_litF; (iterate 5 exact rfl); kernel_rfl; kernel_rfl; exact rfl)
    | (apply q_ix_slF; (iterate 4 exact rfl); (first | (with_reducible exact rfl) | exact natI_spec rfl | assumption | exact (Int.toNat_of_nonneg (by omega)).symm); (first | omega | (focus (simp only [List.length_map]; omega)) | (focus (simp; done)) | (focus (simp; omega))))))|(apply W.ld; (apply l_app1; (iterate 8 exact rfl); (first | omega | (focus (simp; omega)) | (focus (simp; done)))))|(apply AWP.seq)|(apply ACont_normal)|(apply W.region; kernel_rfl)|(apply Walk.nil)|(apply AWP.block)|(apply AWP.skip)|(apply ABlock_normal)
  | (refine W.cond _ rfl (fun hb => ?_) (fun hb => ?_) <;> ((try simp only [hb, zA, zB]) <;> (try simp only [zC, zD, zE, zF, zG, zH, zI, zJ] at hb) <;> (try (exfalso; omega))))))
      all_goals refine ⟨k + 1, by omega, by omega, ?_⟩
      all_goals rw [hss.out, hUk]
      all_goals exact ⟨[0, 1], rfl, rfl, rfl, iV_eq (by omega), rfl, rfl, congrArg (AV.osl 1 (k + 1) 0) (by simp), trivial⟩
  · have e : D = k := by omega
    subst e
    rw [List.take_of_length_le (by omega)]
    (repeat' (first
  | (apply W.qd; (first
    | (apply q_mv; (first|exact vD|exact vO|exact vP|exact vA|exact vF|exact vR|exact vN|exact vY|exact vT|exact vM|exact vL|exact vX))|(apply q_as; (first|exact vD|exact vO|exact vP|exact vA|exact vF|exact vR|exact vN|exact vY|exact vT|exact vM|exact vL|exact vX))|(apply q_fld_optF; (iterate 3 exact rfl))|(apply q_ld_box; (iterate 4 exact rfl))
    | (apply q_lss; exact rfl; exact rfl)))|(apply AWP.seq)|(apply ACont_normal)|(apply W.region; kernel_rfl)|(apply Walk.nil)|(apply AWP.exit)|(apply AWP.ret)|(apply ACont_exit)|(apply ABlock_exit)
  | (refine W.cond _ rfl (fun hb => ?_) (fun hb => ?_) <;> ((try simp only [hb, zA, zB]) <;> (try simp only [zC, zD, zE, zF, zG, zH, zI, zJ] at hb) <;> (try (exfalso; omega))))))
    exact Ends.osl rfl rfl (by simp) rfl
end Go.Proofs.YtaclmbbiegklcaaGreatDoor
end
section
/- The reference of layer 8: Generator, Encode. -/
namespace Go.Proofs.YtaclmbbiegklcaaGreatDoor
open Go.RowKit
set_option linter.unusedSectionVars false
set_option maxHeartbeats 4000000
set_option maxRecDepth 100000
attribute [local irreducible] Quiet Eff OpOk AWPG ACont ABlock ACalls AGoto
theorem A_r8widthN {M D : Nat} {ps : List (List Nat)} (h : CodeOk M D ps) : ACalls Tryz.prog 159 [cdN M D ps] [] (iV (D + ps.length : Nat)) [] := by
  have hl : (toZ ps).length = ps.length := List.length_map _
  have hw := h.w
  have := A_r8width (M := M) (D := D) (par := toZ ps) (by omega) (by omega)
  rw [valid_ok h, if_pos rfl, ← cdN_A, hl] at this
  rwa [show ((D + ps.length : Nat) : Int) = (D : Int) + (ps.length : Int) by omega]
end Go.Proofs.YtaclmbbiegklcaaGreatDoor
end
section
/- Package repair over the machine of abstract values: comparisons, the least of lists of terms. -/
namespace Go.Proofs.YtaclmbbiegklcaaGreatDoor
open Go.RowKit
set_option maxHeartbeats 4000000
set_option maxRecDepth 100000
def cmpI (x y : Int) : Int := if x < y then -1 else if y < x then 1 else 0
attribute [local irreducible] Quiet Eff OpOk AWPG ACont ABlock ACalls AGoto
theorem A_isNaN (x : Int) : ACalls Tryz.prog 164 [iV x] [] (bV false) [] := by
  refine acalls_of_bodyO Tryz.func164 rfl (Nat.le_of_ble_eq_true rfl) ?_
  (repeat' (first
  | (apply W.qd; (first
    | (apply q_mv; (first|exact vD|exact vO|exact vP|exact vA|exact vF|exact vR|exact vN|exact vY|exact vT|exact vM|exact vL|exact vX))|(apply q_as; (first|exact vD|exact vO|exact vP|exact vA|exact vF|exact vR|exact vN|exact vY|exact vT|exact vM|exact vL|exact vX))
    | (apply q_neq; exact rfl; exact rfl)))|(apply AWP.seq)|(apply ACont_normal)|(apply W.region; kernel_rfl)|(apply Walk.nil)
  | (apply AWP.ret)))
  all_goals exact ⟨.inl rfl, [], [bV (!decide (x = x))], rfl, rfl, ⟨rfl, trivial⟩, AVle.of_eq (congrArg bV (show (!decide (x = x)) = false by simp)), rfl⟩
theorem A_cmp (x y : Int) : ACalls Tryz.prog 120 [iV x, iV y] [] (iV (cmpI x y)) [] := by
  refine acalls_of_bodyO Tryz.func120 rfl (Nat.le_of_ble_eq_true rfl) ?_
  have h1 := A_isNaN x
  have h2 := A_isNaN y
  unfold cmpI
  by_cases hxy : x < y
  · rw [if_pos hxy]
    (repeat' (first
  | (apply W.qd; (first
    | (apply (q_callC (h1)); exact rfl; exact rfl; kernel_rfl; kernel_rfl; kernel_rfl)|(apply (q_callC (h2)); exact rfl; exact rfl; kernel_rfl; kernel_rfl; kernel_rfl)|(apply q_mv; (first|exact vD|exact vO|exact vP|exact vA|exact vF|exact vR|exact vN|exact vY|exact vT|exact vM|exact vL|exact vX))|(apply q_as; (first|exact vD|exact vO|exact vP|exact vA|exact vF|exact vR|exact vN|exact vY|exact vT|exact vM|exact vL|exact vX))
    | (apply q_lss; exact rfl; exact rfl)))|(apply AWP.seq)|(apply ACont_normal)|(apply W.region; kernel_rfl)|(apply Walk.nil)|(apply AWP.skip)|(apply AWP.ret)|(apply ACont_ret)|(apply W.condF; exact rfl)
  | (refine W.cond _ rfl (fun hb => ?_) (fun hb => ?_) <;> ((try simp only [hb, zA, zB]) <;> (try simp only [zC, zD, zE, zF, zG, zH, zI, zJ] at hb) <;> (try (exfalso; omega))))))
    all_goals exact ⟨.inl rfl, [], [iV (-1)], rfl, rfl, ⟨rfl, trivial⟩, AVle.of_eq rfl, rfl⟩
  · rw [if_neg hxy]
    by_cases hyx : y < x
    · rw [if_pos hyx]
      (repeat' (first
  | (apply W.qd; (first
    | (apply (q_callC (h1)); exact rfl; exact rfl; kernel_rfl; kernel_rfl; kernel_rfl)|(apply (q_callC (h2)); exact rfl; exact rfl; kernel_rfl; kernel_rfl; kernel_rfl)|(apply q_mv; (first|exact vD|exact vO|exact vP|exact vA|exact vF|exact vR|exact vN|exact vY|exact vT|exact vM|exact vL|exact vX))|(apply q_as; (first|exact vD|exact vO|exact vP|exact vA|exact vF|exact vR|exact vN|exact vY|exact vT|exact vM|exact vL|exact vX))|(apply q_lss; exact rfl; exact rfl)
    | (apply q_gtr; exact rfl; exact rfl)))|(apply AWP.seq)|(apply ACont_normal)|(apply W.region; kernel_rfl)|(apply Walk.nil)|(apply AWP.skip)|(apply AWP.ret)|(apply ACont_ret)|(apply W.condF; exact rfl)
  | (refine W.cond _ rfl (fun hb => ?_) (fun hb => ?_) <;> ((try simp only [hb, zA, zB]) <;> (try simp only [zC, zD, zE, zF, zG, zH, zI, zJ] at hb) <;> (try (exfalso; omega))))))
      all_goals exact ⟨.inl rfl, [], [iV 1], rfl, rfl, ⟨rfl, trivial⟩, AVle.of_eq rfl, rfl⟩
    · rw [if_neg hyx]
      (repeat' (first
  | (apply W.qd; (first
    | (apply (q_callC (h1)); exact rfl; exact rfl; kernel_rfl; kernel_rfl; kernel_rfl)|(apply (q_callC (h2)); exact rfl; exact rfl; kernel_rfl; kernel_rfl; kernel_rfl)|(apply q_mv; (first|exact vD|exact vO|exact vP|exact vA|exact vF|exact vR|exact vN|exact vY|exact vT|exact vM|exact vL|exact vX))|(apply q_as; (first|exact vD|exact vO|exact vP|exact vA|exact vF|exact vR|exact vN|exact vY|exact vT|exact vM|exact vL|exact vX))|(apply q_lss; exact rfl; exact rfl)
    | (apply q_gtr; exact rfl; exact rfl)))|(apply AWP.seq)|(apply ACont_normal)|(apply W.region; kernel_rfl)|(apply Walk.nil)|(apply AWP.skip)|(apply AWP.ret)|(apply W.condF; exact rfl)
  | (refine W.cond _ rfl (fun hb => ?_) (fun hb => ?_) <;> ((try simp only [hb, zA, zB]) <;> (try simp only [zC, zD, zE, zF, zG, zH, zI, zJ] at hb) <;> (try (exfalso; omega))))))
      all_goals exact ⟨.inl rfl, [], [iV 0], rfl, rfl, ⟨rfl, trivial⟩, AVle.of_eq rfl, rfl⟩
def orI : List Int → Int
  | [] => 0
  | x :: l => if x ≠ 0 then x else orI l
theorem orI_drop : ∀ (k : Nat) (l : List Int), (∀ x ∈ l.take k, x = 0) → orI l = orI (l.drop k)
  | 0, _, _ => rfl
  | k + 1, [], _ => rfl
  | k + 1, x :: l, h => by
    rw [orI, if_neg (by simpa using h x (by simp)), orI_drop k l fun y hy => h y (by simp [hy])]
    rfl
theorem A_or (l : List Int) (hl : l.length ≤ 1000000) : ACalls Tryz.prog 119 [ints l] [] (iV (orI l)) [] := by
  refine acalls_of_bodyO Tryz.func119 rfl (Nat.le_of_ble_eq_true rfl) ?_
  have hml : (l.map iD).length = l.length := List.length_map _
  (repeat' (first
  | (apply W.qd; (first
    | (apply q_mv; (first|exact vD|exact vO|exact vP|exact vA|exact vF|exact vR|exact vN|exact vY|exact vT|exact vM|exact vL|exact vX))|(apply q_as; (first|exact vD|exact vO|exact vP|exact vA|exact vF|exact vR|exact vN|exact vY|exact vT|exact vM|exact vL|exact vX))
    | (apply q_len_sl; exact rfl; exact rfl)))|(apply AWP.seq)|(apply ACont_normal)|(apply W.region; kernel_rfl)|(apply Walk.nil)
  | (apply AWP.block)))
  refine AWP.loopW (α := Nat) (fun k => k ≤ l.length ∧ ∀ x ∈ l.take k, x = 0) (fun k => ⟨[(8, iV k), (7, iV l.length), (6, ints l), (3, iV 0)], []⟩) (fun k => l.length - k) 0 ⟨by omega, by simp⟩ ⟨[], rfl, rfl, rfl, rfl, iV_eq (by simp), rfl, rfl, trivial⟩ fun k hk => ?_
  by_cases hkl : k < l.length
  · have ho : orI l = if l[k] ≠ 0 then l[k] else orI (l.drop (k + 1)) := by
      rw [orI_drop k l hk.2, List.drop_eq_getElem_cons hkl]
      rfl
    by_cases hz : l[k] = 0
    · (repeat' (first
  | (apply W.qd; (first
    | (apply q_mv; (first|exact vD|exact vO|exact vP|exact vA|exact vF|exact vR|exact vN|exact vY|exact vT|exact vM|exact vL|exact vX))|(apply q_as; (first|exact vD|exact vO|exact vP|exact vA|exact vF|exact vR|exact vN|exact vY|exact vT|exact vM|exact vL|exact vX))|(apply q_lss; exact rfl; exact rfl)|(apply q_neq; exact rfl; exact rfl)|(apply q_add; exact rfl; exact rfl; omega)|(apply q_ld_map; (iterate 3 exact rfl); (first | omega | (focus (simp; done))))
    | (apply q_ix_slF; (iterate 4 exact rfl); (first | (with_reducible exact rfl) | exact natI_spec rfl | assumption | exact (Int.toNat_of_nonneg (by omega)).symm); (first | omega | (focus (simp only [List.length_map]; omega)) | (focus (simp; done)) | (focus (simp; omega))))))|(apply AWP.seq)|(apply ACont_normal)|(apply W.region; kernel_rfl)|(apply Walk.nil)|(apply AWP.block)|(apply AWP.skip)|(apply ABlock_normal)
  | (refine W.cond _ rfl (fun hb => ?_) (fun hb => ?_) <;> ((try simp only [hb, zA, zB]) <;> (try simp only [zC, zD, zE, zF, zG, zH, zI, zJ] at hb) <;> (try (exfalso; omega))))))
      refine ⟨k + 1, ⟨by omega, fun x hx => ?_⟩, by omega, [], rfl, rfl, rfl, iV_eq (by omega), rfl, rfl, rfl, trivial⟩
      rw [List.take_succ_eq_append_getElem hkl] at hx
      rcases List.mem_append.1 hx with hx | hx
      · exact hk.2 x hx
      · rw [List.mem_singleton.1 hx]; exact hz
    · rw [if_pos hz] at ho
      rw [ho]
      (repeat' (first
  | (apply W.qd; (first
    | (apply q_mv; (first|exact vD|exact vO|exact vP|exact vA|exact vF|exact vR|exact vN|exact vY|exact vT|exact vM|exact vL|exact vX))|(apply q_as; (first|exact vD|exact vO|exact vP|exact vA|exact vF|exact vR|exact vN|exact vY|exact vT|exact vM|exact vL|exact vX))|(apply q_lss; exact rfl; exact rfl)|(apply q_neq; exact rfl; exact rfl)|(apply q_ld_map; (iterate 3 exact rfl); (first | omega | (focus (simp; done))))
    | (apply q_ix_slF; (iterate 4 exact rfl); (first | (with_reducible exact rfl) | exact natI_spec rfl | assumption | exact (Int.toNat_of_nonneg (by omega)).symm); (first | omega | (focus (simp only [List.length_map]; omega)) | (focus (simp; done)) | (focus (simp; omega))))))|(apply AWP.seq)|(apply ACont_normal)|(apply W.region; kernel_rfl)|(apply Walk.nil)|(apply AWP.block)|(apply AWP.skip)|(apply AWP.ret)|(apply ACont_ret)|(apply ABlock_ret)
  | (refine W.cond _ rfl (fun hb => ?_) (fun hb => ?_) <;> ((try simp only [hb, zA, zB]) <;> (try simp only [zC, zD, zE, zF, zG, zH, zI, zJ] at hb) <;> (try (exfalso; omega))))))
      exact ⟨.inl rfl, [], [iV l[k]], rfl, rfl, ⟨rfl, trivial⟩, AVle.of_eq rfl, rfl⟩
  · have ho : orI l = 0 := by
      rw [orI_drop k l hk.2, List.drop_eq_nil_of_le (by omega)]; rfl
    rw [ho]
    (repeat' (first
  | (apply W.qd; (first
    | (apply q_mv; (first|exact vD|exact vO|exact vP|exact vA|exact vF|exact vR|exact vN|exact vY|exact vT|exact vM|exact vL|exact vX))|(apply q_as; (first|exact vD|exact vO|exact vP|exact vA|exact vF|exact vR|exact vN|exact vY|exact vT|exact vM|exact vL|exact vX))
    | (apply q_lss; exact rfl; exact rfl)))|(apply AWP.seq)|(apply ACont_normal)|(apply W.region; kernel_rfl)|(apply Walk.nil)|(apply AWP.exit)|(apply AWP.ret)|(apply ACont_exit)|(apply ABlock_exit)
  | (refine W.cond _ rfl (fun hb => ?_) (fun hb => ?_) <;> ((try simp only [hb, zA, zB]) <;> (try simp only [zC, zD, zE, zF, zG, zH, zI, zJ] at hb) <;> (try (exfalso; omega))))))
    exact ⟨.inl rfl, [], [iV 0], rfl, rfl, ⟨rfl, trivial⟩, AVle.of_eq rfl, rfl⟩
end Go.Proofs.YtaclmbbiegklcaaGreatDoor
end
section
/- Package repair over the machine of abstract values: checks, their terms. -/
namespace Go.Proofs.YtaclmbbiegklcaaGreatDoor
open Go.RowKit
set_option maxHeartbeats 4000000
set_option maxRecDepth 100000
attribute [local irreducible] Quiet Eff OpOk AWPG ACont ABlock ACalls AGoto
theorem A_cloneB {l : List Bool} (h0 : 0 < l.length) (hl : l.length ≤ 1000000) : ACalls Tryz.prog 158 [bools l] [] (.osl 0 1 0 l.length) [.row 1 1 4 (l.map tD)] := by
  refine acalls_of_bodyO Tryz.func158 rfl (Nat.le_of_ble_eq_true rfl) ?_
  have hm : (l.map tD).length = l.length := List.length_map _
  (repeat' (first
  | (apply W.ed; (apply e_lit0F; (iterate 5 exact rfl)))
  | (apply W.qd; (first
    | (apply q_mv; (first|exact vD|exact vO|exact vP|exact vA|exact vF|exact vR|exact vN|exact vY|exact vT|exact vM|exact vL|exact vX))|(apply q_as; (first|exact vD|exact vO|exact vP|exact vA|exact vF|exact vR|exact vN|exact vY|exact vT|exact vM|exact vL|exact vX))
    | (apply q_eqnilm; (iterate 3 exact rfl); (first | assumption | omega))))|(apply W.ed; (apply e_appF; (iterate 8 exact rfl); (first | rfl | simp); (first | exact Nat.zero_lt_one | (focus (simp; done)) | omega); (first | (focus (simp; done)) | (focus (simp; omega)) | omega)))|(apply AWP.seq)|(apply ACont_normal)|(apply W.region; kernel_rfl)|(apply Walk.nil)|(apply AWP.skip)|(apply AWP.ret)
  | (apply W.condF; exact rfl)))
  refine ⟨.inl rfl, [0], [.osl 0 1 0 ((([] : List Nat).length) + (l.map tD).length)], rfl, rfl, ⟨rfl, trivial⟩, AVle.of_eq ?_, rfl⟩
  show AV.osl 0 1 0 (0 + (l.map tD).length) = .osl 0 1 0 l.length
  rw [hm, Nat.zero_add]
end Go.Proofs.YtaclmbbiegklcaaGreatDoor
end
section
/- The reference's elimination: what Express answers. Plain law. -/
namespace Go.Proofs.YtaclmbbiegklcaaGreatDoor
open Go.RowKit
set_option linter.unusedSectionVars false
def exCol (rows : List (List Nat)) (t : List Nat) (c : Nat) : Nat → Nat := fun x => if c < rows.length then (rows.getD c []).getD x 0 else t.getD x 0
def exM (D : Nat) (rows : List (List Nat)) (t : List Nat) : List Nat := ((List.range D).map fun x => (List.range (rows.length + 1)).map fun c => exCol rows t c x).flatten
def exR (M D : Nat) (rows : List (List Nat)) (t : List Nat) (k : Nat) : List Nat × List Nat := red M D (rows.length + 1) (exM D rows t) k
def exprN (M D : Nat) (rows : List (List Nat)) (t : List Nat) : Option (List Nat) :=
  let s := exR M D rows t rows.length
  if s.2.length = rows.length ∧ ∀ q, q < D → rows.length ≤ q → gt (rows.length + 1) s.1 q rows.length = 0 then some ((List.range rows.length).map fun k => gt (rows.length + 1) s.1 k rows.length) else none
theorem flat_len' {C : Nat} : ∀ {l : List (List Nat)}, (∀ r ∈ l, r.length = C) → l.flatten.length = l.length * C
  | [], _ => by simp
  | r :: l, h => by
    rw [List.flatten_cons, List.length_append, flat_len' fun x hx => h x (by simp [hx]), h r (by simp), List.length_cons, Nat.succ_mul]; omega
theorem exM_row (D : Nat) (rows : List (List Nat)) (t : List Nat) : ∀ r ∈ ((List.range D).map fun x => (List.range (rows.length + 1)).map fun c => exCol rows t c x), r.length = rows.length + 1 := fun r hr => by
  obtain ⟨x, _, rfl⟩ := List.mem_map.1 hr
  simp
theorem exM_length (D : Nat) (rows : List (List Nat)) (t : List Nat) : (exM D rows t).length = D * (rows.length + 1) := by
  unfold exM
  rw [flat_len' (exM_row D rows t)]
  simp
theorem exM_gt {D : Nat} (rows : List (List Nat)) (t : List Nat) {x c : Nat} (hx : x < D) (hc : c < rows.length + 1) : gt (rows.length + 1) (exM D rows t) x c = exCol rows t c x := by
  unfold gt exM
  rw [flat_get hc (exM_row D rows t) x (by simpa using hx)]
  have e : (((List.range D).map fun x => (List.range (rows.length + 1)).map fun c => exCol rows t c x).getD x []) = (List.range (rows.length + 1)).map fun c => exCol rows t c x := by
    rw [List.getD_eq_getElem?_getD, List.getElem?_map, List.getElem?_range hx]; rfl
  rw [e, List.getD_eq_getElem?_getD, List.getElem?_map, List.getElem?_range hc]; rfl
section
variable {M D : Nat} {rows : List (List Nat)} {t : List Nat} (hM : FldM M) (hr : ∀ r ∈ rows, ∀ x ∈ r, x < 2 ^ M) (ht : ∀ x ∈ t, x < 2 ^ M)
include hM hr ht
theorem exCol_lt (c x : Nat) : exCol rows t c x < 2 ^ M := by
  unfold exCol
  by_cases h : c < rows.length
  · rw [if_pos h]
    refine getD_lt (fun y hy => ?_) x
    rw [List.getD_eq_getElem?_getD, List.getElem?_eq_getElem h] at hy
    exact hr _ (List.getElem_mem h) y hy
  · rw [if_neg h]; exact getD_lt ht x
theorem exM_lt : ∀ x ∈ exM D rows t, x < 2 ^ M := fun x hx => by
  unfold exM at hx
  obtain ⟨r, h1, h2⟩ := List.mem_flatten.1 hx
  obtain ⟨y, _, rfl⟩ := List.mem_map.1 h1
  obtain ⟨c, _, rfl⟩ := List.mem_map.1 h2
  exact exCol_lt hM hr ht c y
theorem ex_to {k : Nat} (hk : k ≤ rows.length + 1) : ∃ T S, RedTo M D (rows.length + 1) k (exM D rows t) (exR M D rows t k).1 (exR M D rows t k).2 T S :=
  red_to hM (exM_length D rows t) (exM_lt hM hr ht) k hk
def Indep (M D : Nat) (rows : List (List Nat)) : Prop := ∀ j, j < rows.length → ¬ Sp M D (WS (fun q x => (rows.getD q []).getD x 0) j) (fun x => (rows.getD j []).getD x 0)
theorem rowV {q : Nat} (hq : q < rows.length) : Vc M D (fun x => (rows.getD q []).getD x 0) := fun x _ => by
  have := exCol_lt (rows := rows) (t := t) hM hr ht q x
  unfold exCol at this
  rwa [if_pos hq] at this
theorem ex_sum {k : Nat} (hk : k ≤ rows.length) {T S : (Nat → Nat) → Nat → Nat} {A pv : List Nat} (h : RedTo M D (rows.length + 1) k (exM D rows t) A pv T S) (hpl : pv.length ≤ D) {v : Nat → Nat} (hv : Vc M D v) (hz : ∀ r, r < D → pv.length ≤ r → T v r = 0) :
    ∀ x, x < D → v x = sg (fun q => mu M (T v q) ((rows.getD (pv.getD q 0) []).getD x 0)) pv.length := by
  have hw : ∀ q, q < pv.length → T v q < 2 ^ M ∧ Vc M D (fun x => (rows.getD (pv.getD q 0) []).getD x 0) := fun q hq => ⟨h.iso.lt v hv q (by omega), rowV hM hr ht (by have := (h.piv q hq).1; omega)⟩
  have hTu : ∀ q, q < pv.length → ∀ r, r < D → T (fun x => (rows.getD (pv.getD q 0) []).getD x 0) r = if r = q then 1 else 0 := fun q hq r hr' => by
    obtain ⟨p1, p2⟩ := h.piv q hq
    rw [← p2 r hr', h.col _ (by omega) r hr']
    refine h.iso.congr _ _ (fun i hi => ?_) r hr'
    rw [exM_gt rows t hi (by omega)]
    unfold exCol
    rw [if_pos (show pv.getD q 0 < rows.length by omega)]
  have hS : ∀ s, WS (fun q x => (rows.getD (pv.getD q 0) []).getD x 0) pv.length s → Vc M D s := fun s ⟨q, hq, e⟩ => by rw [e]; exact (hw q hq).2
  have hsum : Vc M D (fun x => sg (fun q => mu M (T v q) ((rows.getD (pv.getD q 0) []).getD x 0)) pv.length) :=
    (Sp.sum (M := M) (D := D) (S := WS (fun q x => (rows.getD (pv.getD q 0) []).getD x 0) pv.length) hM hS (c := fun q => T v q) (w := fun q x => (rows.getD (pv.getD q 0) []).getD x 0) pv.length fun q hq => ⟨(hw q hq).1, Sp.of hM hS ⟨q, hq, rfl⟩⟩).vc hM hS
  refine h.iso.inj hv hsum fun i hi => ?_
  rw [h.iso.sum pv.length hw i hi]
  rw [sg_congr pv.length (fun q hq => show mu M (T v q) (T (fun x => (rows.getD (pv.getD q 0) []).getD x 0) i) = if q = i then T v i else 0 by
    rw [hTu q hq i hi]
    by_cases e : i = q
    · subst e; rw [if_pos rfl, if_pos rfl, mu_one hM (h.iso.lt v hv i hi)]
    · rw [if_neg e, if_neg (fun e2 => e e2.symm), mu_zero])]
  rw [sg_one (k := i) pv.length (fun q _ hne => if_neg hne), if_pos rfl]
  by_cases e : i < pv.length
  · rw [if_pos e]
  · rw [if_neg e, hz i hi (by omega)]
theorem ex_full (hI : Indep M D rows) : ∀ k, k ≤ rows.length → (exR M D rows t k).2.length = k
  | 0, _ => rfl
  | k + 1, hk => by
    have ih := ex_full hI k (by omega)
    obtain ⟨T0, S0, h0⟩ := ex_to hM hr ht (D := D) (k := k) (by omega)
    obtain ⟨T, S, h⟩ := ex_to hM hr ht (D := D) (k := k + 1) (by omega)
    have hok := red_ok hM (exM_length D rows t) (exM_lt hM hr ht) (k + 1)
    have hpr := hok.pr
    have hstep : (exR M D rows t (k + 1)).2 = (exR M D rows t k).2 ∨ (exR M D rows t (k + 1)).2 = (exR M D rows t k).2 ++ [k] := by
      show (redStep M D (rows.length + 1) k (exR M D rows t k)).2 = _ ∨ (redStep M D (rows.length + 1) k (exR M D rows t k)).2 = _
      generalize exR M D rows t k = s
      unfold redStep
      dsimp only
      split
      · exact .inl rfl
      · exact .inr rfl
    rcases hstep with e | e
    · exfalso
      change (exR M D rows t (k + 1)).2.length ≤ D at hpr
      rw [e] at h hpr
      refine hI k (by omega) ?_
      have hv : Vc M D (fun x => (rows.getD k []).getD x 0) := rowV hM hr ht (by omega)
      have hTk : ∀ r, r < D → gt (rows.length + 1) (exR M D rows t (k + 1)).1 r k = T (fun x => (rows.getD k []).getD x 0) r := fun r hr' => by
        rw [h.col _ (by omega) r hr']
        refine h.iso.congr _ _ (fun i hi => ?_) r hr'
        rw [exM_gt rows t hi (by omega)]
        unfold exCol
        rw [if_pos (show k < rows.length by omega)]
      have hs := ex_sum hM hr ht (k := k + 1) (by omega) h hpr hv fun r hr' hle => by
        rw [← hTk r hr']
        by_cases e2 : gt (rows.length + 1) (exR M D rows t (k + 1)).1 r k = 0
        · exact e2
        · have := (h.low k (by omega) r hr' e2).1; omega
      have hS : ∀ s, WS (fun q x => (rows.getD q []).getD x 0) k s → Vc M D s := fun s ⟨q, hq, e⟩ => by rw [e]; exact rowV hM hr ht (by omega)
      refine Sp.congr (Sp.sum (M := M) (D := D) hM hS (c := fun q => T (fun x => (rows.getD k []).getD x 0) q) (w := fun q x => (rows.getD ((exR M D rows t k).2.getD q 0) []).getD x 0) (exR M D rows t k).2.length fun q hq => ⟨h.iso.lt _ hv q (by omega), Sp.of hM hS ⟨_, (h0.piv q hq).1, rfl⟩⟩) hs
    · rw [e, List.length_append, ih]; rfl
theorem ex_pv (hI : Indep M D rows) {q : Nat} (hq : q < rows.length) : (exR M D rows t rows.length).2.getD q 0 = q := by
  obtain ⟨T, S, h⟩ := ex_to hM hr ht (D := D) (k := rows.length) (by omega)
  have hl := ex_full hM hr ht hI rows.length (Nat.le_refl _)
  have lo : ∀ q, q < rows.length → q ≤ (exR M D rows t rows.length).2.getD q 0 := by
    intro q
    induction q with
    | zero => intro _; omega
    | succ q ih =>
      intro hq
      have h1 := ih (by omega)
      have h2 := h.inc q (q + 1) (by omega) (by omega)
      omega
  have hi : ∀ d q, q + d + 1 = rows.length → (exR M D rows t rows.length).2.getD q 0 ≤ q := by
    intro d
    induction d with
    | zero => intro q hq; have := (h.piv q (by omega)).1; omega
    | succ d ih =>
      intro q hq
      have h1 := ih (q + 1) (by omega)
      have h2 := h.inc q (q + 1) (by omega) (by omega)
      omega
  have h1 := lo q hq
  have h2 := hi (rows.length - q - 1) q (by omega)
  omega
def Sums (M D : Nat) (rows : List (List Nat)) (t : List Nat) (K : List Nat) : Prop := K.length = rows.length ∧ (∀ x ∈ K, x < 2 ^ M) ∧ ∀ x, x < D → t.getD x 0 = sg (fun q => mu M (K.getD q 0) ((rows.getD q []).getD x 0)) rows.length
theorem tgV : Vc M D (fun x => t.getD x 0) := fun x _ => getD_lt ht x
theorem ex_tgt {k : Nat} {T S : (Nat → Nat) → Nat → Nat} {A pv : List Nat} (h : RedTo M D (rows.length + 1) k (exM D rows t) A pv T S) {r : Nat} (hr' : r < D) : gt (rows.length + 1) A r rows.length = T (fun x => t.getD x 0) r := by
  rw [h.col _ (by omega) r hr']
  refine h.iso.congr _ _ (fun i hi => ?_) r hr'
  rw [exM_gt rows t hi (by omega)]
  unfold exCol
  rw [if_neg (by omega)]
theorem expr_some (hn : rows.length ≤ D) {K : List Nat} (hI : Indep M D rows) (he : exprN M D rows t = some K) : Sums M D rows t K := by
  obtain ⟨T, S, h⟩ := ex_to hM hr ht (D := D) (k := rows.length) (by omega)
  have hl := ex_full hM hr ht hI rows.length (Nat.le_refl _)
  have hp := fun q hq => ex_pv hM hr ht hI (q := q) hq
  unfold exprN at he
  dsimp only at he
  by_cases hc : (exR M D rows t rows.length).2.length = rows.length ∧ ∀ q, q < D → rows.length ≤ q → gt (rows.length + 1) (exR M D rows t rows.length).1 q rows.length = 0
  · rw [if_pos hc] at he
    obtain rfl := Option.some.inj he
    have hg := fun r hr' => ex_tgt hM hr ht h (r := r) hr'
    have hs := ex_sum hM hr ht (k := rows.length) (Nat.le_refl _) h (by omega) (tgV (D := D) hM hr ht) fun r hr' hle => by
      rw [← hg r hr']; exact hc.2 r hr' (by omega)
    have gk : ∀ q, q < rows.length → ((List.range rows.length).map fun k => gt (rows.length + 1) (exR M D rows t rows.length).1 k rows.length).getD q 0 = T (fun x => t.getD x 0) q := fun q hq => by
      rw [List.getD_eq_getElem?_getD, List.getElem?_map, List.getElem?_range hq]
      exact hg q (by omega)
    refine ⟨by simp, fun x hx => ?_, fun x hx => ?_⟩
    · obtain ⟨q, hq, rfl⟩ := List.mem_map.1 hx
      have hq := List.mem_range.1 hq
      rw [hg q (by omega)]
      exact h.iso.lt _ (tgV (D := D) hM hr ht) q (by omega)
    · have := hs x hx
      try dsimp only at this
      rw [this, hl]
      refine sg_congr _ fun q hq => ?_
      rw [gk q hq, hp q hq]
  · rw [if_neg hc] at he; cases he
theorem expr_eq (hn : rows.length ≤ D) {K : List Nat} (hI : Indep M D rows) (hK : Sums M D rows t K) : exprN M D rows t = some K := by
  obtain ⟨T, S, h⟩ := ex_to hM hr ht (D := D) (k := rows.length) (by omega)
  have hl := ex_full hM hr ht hI rows.length (Nat.le_refl _)
  have hp := fun q hq => ex_pv hM hr ht hI (q := q) hq
  obtain ⟨k1, k2, k3⟩ := hK
  have hKl : ∀ q, K.getD q 0 < 2 ^ M := fun q => getD_lt k2 q
  have hTu : ∀ q, q < rows.length → ∀ r, r < D → T (fun x => (rows.getD q []).getD x 0) r = if r = q then 1 else 0 := fun q hq r hr' => by
    obtain ⟨p1, p2⟩ := h.piv q (by omega)
    rw [hp q hq] at p2
    rw [← p2 r hr', h.col _ (by omega) r hr']
    refine h.iso.congr _ _ (fun i hi => ?_) r hr'
    rw [exM_gt rows t hi (by omega)]
    unfold exCol
    rw [if_pos hq]
  have hT : ∀ r, r < D → T (fun x => t.getD x 0) r = if r < rows.length then K.getD r 0 else 0 := fun r hr' => by
    rw [h.iso.congr (fun x => t.getD x 0) _ k3 r hr', h.iso.sum rows.length (fun q hq => ⟨hKl q, rowV hM hr ht hq⟩) r hr']
    rw [sg_congr rows.length (fun q hq => show mu M (K.getD q 0) (T (fun x => (rows.getD q []).getD x 0) r) = if q = r then K.getD r 0 else 0 by
      rw [hTu q hq r hr']
      by_cases e : r = q
      · subst e; rw [if_pos rfl, if_pos rfl, mu_one hM (hKl r)]
      · rw [if_neg e, if_neg (fun e2 => e e2.symm), mu_zero])]
    rw [sg_one (k := r) rows.length (fun q _ hne => if_neg hne), if_pos rfl]
  unfold exprN
  dsimp only
  rw [if_pos ⟨hl, fun q hq hle => by rw [ex_tgt hM hr ht h hq, hT q hq, if_neg (by omega)]⟩]
  congr 1
  refine List.ext_getElem (by simp [k1]) fun q h1 h2 => ?_
  have hq : q < rows.length := by simpa using h1
  rw [List.getElem_map, List.getElem_range, ex_tgt hM hr ht h (by omega), hT q (by omega), if_pos hq, List.getD_eq_getElem?_getD, List.getElem?_eq_getElem h2]
  rfl
end
end Go.Proofs.YtaclmbbiegklcaaGreatDoor
end
section
/- The reference's basis is the basis: a unit is taken if its row is not spanned by those taken before. Plain law. -/
namespace Go.Proofs.YtaclmbbiegklcaaGreatDoor
open Go.RowKit
set_option linter.unusedSectionVars false
set_option maxRecDepth 100000
def takeR (D : Nat) (ps : List (List Nat)) (B : List Nat) (m : Nat) : List (List Nat) := (B.take m).map (rowN D ps)
theorem takeR_length {D : Nat} {ps : List (List Nat)} {B : List Nat} {m : Nat} (hm : m ≤ B.length) : (takeR D ps B m).length = m := by
  unfold takeR
  rw [List.length_map, List.length_take]; omega
theorem rowN_get {D : Nat} {ps : List (List Nat)} {u x : Nat} (hx : x < D) : (rowN D ps u).getD x 0 = U D (genN D ps) u x := by
  unfold rowN
  rw [List.getD_eq_getElem?_getD, List.getElem?_map, List.getElem?_range hx]; rfl
theorem takeR_row {D : Nat} {ps : List (List Nat)} {B : List Nat} {m q : Nat} (hm : m ≤ B.length) (hq : q < m) : (takeR D ps B m).getD q [] = rowN D ps (B.getD q 0) := by
  unfold takeR
  rw [List.getD_eq_getElem?_getD, List.getElem?_map, List.getElem?_take_of_lt hq, List.getD_eq_getElem?_getD]
  have : q < B.length := by omega
  rw [List.getElem?_eq_getElem this]; rfl
theorem takeR_get {D : Nat} {ps : List (List Nat)} {B : List Nat} {m q x : Nat} (hm : m ≤ B.length) (hq : q < m) (hx : x < D) : ((takeR D ps B m).getD q []).getD x 0 = U D (genN D ps) (B.getD q 0) x := by
  rw [takeR_row hm hq, rowN_get hx]
theorem takeR_succ {D : Nat} {ps : List (List Nat)} {B : List Nat} {m : Nat} (hm : m < B.length) : takeR D ps B (m + 1) = takeR D ps B m ++ [rowN D ps (B.getD m 0)] := by
  unfold takeR
  rw [List.take_succ_eq_append_getElem hm, List.map_append]
  have : B.getD m 0 = B[m] := by rw [List.getD_eq_getElem?_getD, List.getElem?_eq_getElem hm]; rfl
  rw [this]; rfl
section
variable {M D : Nat} {gen : List Nat} {hv : List Bool} {B : List Nat} {T S : (Nat → Nat) → Nat → Nat}
theorem Bas.lowJ (hg : ∀ u, Vc M D (U D gen u)) (h : Bas M D gen hv B T S) {j : Nat} (hj : j ≤ B.length) {v : Nat → Nat} (hsp : Sp M D (WS (fun q => U D gen (B.getD q 0)) j) v) : ∀ r, r < D → j ≤ r → T v r = 0 := by
  induction hsp with
  | zero h0 => exact fun r hr _ => h.iso.zero h0 r hr
  | step h1 hs hc h2 ih =>
    obtain ⟨q, hq, rfl⟩ := hs
    intro r hr hle
    rename_i u v c
    have hUv : T (U D gen (B.getD q 0)) r = 0 := by rw [h.unit q (by omega) r hr, if_neg (by omega)]
    rw [h.iso.congr _ _ h2 r hr, h.iso.add u (fun x => mu M c (U D gen (B.getD q 0) x)) r hr, ih r hr hle, Nat.zero_xor]
    rw [h.iso.smul c _ hc (hg _) r hr, hUv, mu_zero]
end
section
variable {M D : Nat} {ps : List (List Nat)} {hv : List Bool} (h : CodeOk M D ps) (hl : hv.length = D + ps.length)
include h hl
theorem rowN_lt (u : Nat) : ∀ x ∈ rowN D ps u, x < 2 ^ M := fun x hx => by
  unfold rowN at hx
  obtain ⟨y, hy, rfl⟩ := List.mem_map.1 hx
  exact U_all h u y (List.mem_range.1 hy)
theorem takeR_lt (B : List Nat) (m : Nat) : ∀ r ∈ takeR D ps B m, ∀ x ∈ r, x < 2 ^ M := fun r hr => by
  unfold takeR at hr
  obtain ⟨u, _, rfl⟩ := List.mem_map.1 hr
  exact rowN_lt h hl u
theorem takeR_ws {B : List Nat} {m j : Nat} (hm : m ≤ B.length) (hj : j ≤ m) {v : Nat → Nat} : Sp M D (WS (fun q x => ((takeR D ps B m).getD q []).getD x 0) j) v ↔ Sp M D (WS (fun q => U D (genN D ps) (B.getD q 0)) j) v := by
  constructor
  · refine Sp.trans h.f (fun s ⟨q, hq, e⟩ => by rw [e]; exact U_all h _) fun s ⟨q, hq, e⟩ => ?_
    rw [e]
    exact (Sp.of h.f (fun s ⟨q, hq, e⟩ => by rw [e]; exact U_all h _) ⟨q, hq, rfl⟩).congr fun x hx => takeR_get hm (by omega) hx
  · have hV : ∀ s, WS (fun q x => ((takeR D ps B m).getD q []).getD x 0) j s → Vc M D s := fun s ⟨q, hq, e⟩ x hx => by
      rw [e]
      show ((takeR D ps B m).getD q []).getD x 0 < 2 ^ M
      rw [takeR_get hm (by omega) hx]; exact U_all h _ x hx
    refine Sp.trans h.f hV fun s ⟨q, hq, e⟩ => ?_
    rw [e]
    exact (Sp.of h.f hV ⟨q, hq, rfl⟩).congr fun x hx => (takeR_get hm (by omega) hx).symm
theorem ind_take {m : Nat} (hm : m ≤ (basisN M D ps hv).length) : Indep M D (takeR D ps (basisN M D ps hv) m) := fun j hj hsp => by
  obtain ⟨T, S, hB⟩ := basis_to h hl
  rw [takeR_length hm] at hj
  have h1 := (takeR_ws h hl hm (by omega)).1 hsp
  have h2 := hB.lowJ (U_all h) (by omega) h1 j (by have := hB.le; omega) (Nat.le_refl _)
  rw [hB.iso.congr _ (U D (genN D ps) ((basisN M D ps hv).getD j 0)) (fun x hx => takeR_get hm hj hx) j (by have := hB.le; omega), hB.unit j (by omega) j (by have := hB.le; omega), if_pos rfl] at h2
  cases h2
theorem bas_le : (basisN M D ps hv).length ≤ D := by
  obtain ⟨T, S, hB⟩ := basis_to h hl
  exact hB.le
theorem sums_sp {B : List Nat} {m u : Nat} {K : List Nat} (hm : m ≤ B.length) (hs : Sums M D (takeR D ps B m) (rowN D ps u) K) : Sp M D (WS (fun q => U D (genN D ps) (B.getD q 0)) m) (U D (genN D ps) u) := by
  obtain ⟨k1, k2, k3⟩ := hs
  rw [takeR_length hm] at k3
  refine Sp.congr (Sp.sum (M := M) (D := D) h.f (fun s ⟨q, hq, e⟩ => by rw [e]; exact U_all h _) (c := fun q => K.getD q 0) (w := fun q => U D (genN D ps) (B.getD q 0)) m fun q hq => ⟨getD_lt k2 q, Sp.of h.f (fun s ⟨q, hq, e⟩ => by rw [e]; exact U_all h _) ⟨q, hq, rfl⟩⟩) fun x hx => ?_
  rw [← rowN_get hx, k3 x hx]
  exact sg_congr _ fun q hq => by rw [takeR_get hm hq hx]
theorem step_none {m : Nat} (hm : m < (basisN M D ps hv).length) : exprN M D (takeR D ps (basisN M D ps hv) m) (rowN D ps ((basisN M D ps hv).getD m 0)) = none := by
  cases he : exprN M D (takeR D ps (basisN M D ps hv) m) (rowN D ps ((basisN M D ps hv).getD m 0)) with
  | none => rfl
  | some K =>
    exfalso
    have hbl := bas_le h hl
    have hs := expr_some h.f (takeR_lt h hl _ _) (rowN_lt h hl _) (by rw [takeR_length (by omega)]; omega) (ind_take h hl (by omega)) he
    obtain ⟨T, S, hB⟩ := basis_to h hl
    have h2 := hB.lowJ (U_all h) (by omega) (sums_sp h hl (by omega) hs) m (by omega) (Nat.le_refl _)
    rw [hB.unit m hm m (by omega), if_pos rfl] at h2
    cases h2
theorem step_some {m i : Nat} (hi : hv.getD i false = true) (hm : m ≤ (basisN M D ps hv).length) (hge : ∀ q, m ≤ q → q < (basisN M D ps hv).length → i < (basisN M D ps hv).getD q 0) : (exprN M D (takeR D ps (basisN M D ps hv) m) (rowN D ps i)).isSome = true := by
  have hbl := bas_le h hl
  obtain ⟨T, S, hB⟩ := basis_to h hl
  have hlow : ∀ r, r < D → m ≤ r → T (U D (genN D ps) i) r = 0 := fun r hr hle => by
    by_cases e : T (U D (genN D ps) i) r = 0
    · exact e
    · have := hB.low i hi r hr e
      have := hge r hle this.1
      omega
  have hK : Sums M D (takeR D ps (basisN M D ps hv) m) (rowN D ps i) ((List.range m).map fun q => T (U D (genN D ps) i) q) := by
    have gk : ∀ q, q < m → ((List.range m).map fun q => T (U D (genN D ps) i) q).getD q 0 = T (U D (genN D ps) i) q := fun q hq => by
      rw [List.getD_eq_getElem?_getD, List.getElem?_map, List.getElem?_range hq]; rfl
    refine ⟨by simp [takeR_length hm], fun x hx => ?_, fun x hx => ?_⟩
    · obtain ⟨q, hq, rfl⟩ := List.mem_map.1 hx
      exact hB.iso.lt _ (U_all h i) q (by have := List.mem_range.1 hq; omega)
    · rw [rowN_get hx, takeR_length hm]
      have hS : ∀ s, WS (fun q => U D (genN D ps) ((basisN M D ps hv).getD q 0)) m s → Vc M D s := fun s ⟨q, hq, e⟩ => by rw [e]; exact U_all h _
      have hsum := (Sp.sum (M := M) (D := D) h.f hS (c := fun q => T (U D (genN D ps) i) q) (w := fun q => U D (genN D ps) ((basisN M D ps hv).getD q 0)) m fun q hq => ⟨hB.iso.lt _ (U_all h i) q (by omega), Sp.of h.f hS ⟨q, hq, rfl⟩⟩).vc h.f hS
      have key := hB.iso.inj (U_all h i) hsum fun r hr => by
        rw [hB.iso.sum m (fun q hq => ⟨hB.iso.lt _ (U_all h i) q (by omega), U_all h _⟩) r hr]
        rw [sg_congr m (fun q hq => show mu M (T (U D (genN D ps) i) q) (T (U D (genN D ps) ((basisN M D ps hv).getD q 0)) r) = if q = r then T (U D (genN D ps) i) r else 0 by
          rw [hB.unit q (by omega) r hr]
          by_cases e : r = q
          · subst e; rw [if_pos rfl, if_pos rfl, mu_one h.f (hB.iso.lt _ (U_all h i) r hr)]
          · rw [if_neg e, if_neg (fun e2 => e e2.symm), mu_zero])]
        rw [sg_one (k := r) m (fun q _ hne => if_neg hne), if_pos rfl]
        by_cases e : r < m
        · rw [if_pos e]
        · rw [if_neg e, hlow r hr (by omega)]
      have := key x hx
      try dsimp only at this
      rw [this]
      refine sg_congr _ fun q hq => ?_
      rw [gk q hq, takeR_get hm hq hx]
  rw [expr_eq h.f (takeR_lt h hl _ _) (rowN_lt h hl _) (by rw [takeR_length hm]; omega) (ind_take h hl hm) hK]
  rfl
theorem expr_comb {u : Nat} (hu : u < D + ps.length) : (∀ l, combN M D ps hv u = some l → ∃ K, K.length = (basisN M D ps hv).length ∧ (∀ x ∈ K, x < 2 ^ M) ∧ exprN M D (takeR D ps (basisN M D ps hv) (basisN M D ps hv).length) (rowN D ps u) = some K ∧ l = tmsAt (basisN M D ps hv) K (basisN M D ps hv).length) ∧ (combN M D ps hv u = none → exprN M D (takeR D ps (basisN M D ps hv) (basisN M D ps hv).length) (rowN D ps u) = none) := by
  have hbl := bas_le h hl
  refine ⟨fun l hc => ?_, fun hc => ?_⟩
  · obtain ⟨K, k1, k2, k3, k4⟩ := comb_some h hl hu hc
    refine ⟨K, k1, k2, expr_eq h.f (takeR_lt h hl _ _) (rowN_lt h hl _) (by rw [takeR_length (Nat.le_refl _)]; omega) (ind_take h hl (Nat.le_refl _)) ⟨by rw [takeR_length (Nat.le_refl _)]; exact k1, k2, fun x hx => ?_⟩, k3⟩
    rw [rowN_get hx, takeR_length (Nat.le_refl _)]
    have e := k4 x hx
    first
      | (rw [← e]; exact sg_congr _ fun q hq => by rw [takeR_get (Nat.le_refl _) hq hx])
      | (rw [e]; exact sg_congr _ fun q hq => by rw [takeR_get (Nat.le_refl _) hq hx])
  · cases he : exprN M D (takeR D ps (basisN M D ps hv) (basisN M D ps hv).length) (rowN D ps u) with
    | none => rfl
    | some K =>
      exfalso
      have hs := expr_some h.f (takeR_lt h hl _ _) (rowN_lt h hl _) (by rw [takeR_length (Nat.le_refl _)]; omega) (ind_take h hl (Nat.le_refl _)) he
      have hsp := sums_sp h hl (Nat.le_refl _) hs
      have hBS : Sp M D (BS D (genN D ps) (basisN M D ps hv)) (U D (genN D ps) u) := hsp
      have := (comb_iff h hl hu).2 ((sp_BP h hl).1 hBS)
      rw [hc] at this; cases this
end
end Go.Proofs.YtaclmbbiegklcaaGreatDoor
end
section
/- The reference's elimination over the machine of abstract values: eliminate. -/
namespace Go.Proofs.YtaclmbbiegklcaaGreatDoor
open Go.RowKit
set_option maxHeartbeats 4000000
set_option maxRecDepth 100000
def findL (pm : List Nat) (Bl : List (List Nat)) (k : Nat) : Nat → Nat → Nat
  | 0, p => p
  | n + 1, p => if (Bl.getD (pm.getD p 0) []).getD k 0 = 0 then findL pm Bl k n (p + 1) else p
theorem findL_le (pm : List Nat) (Bl : List (List Nat)) (k : Nat) : ∀ n p, p ≤ findL pm Bl k n p ∧ findL pm Bl k n p ≤ p + n
  | 0, p => ⟨Nat.le_refl _, Nat.le_refl _⟩
  | n + 1, p => by
    rw [findL]
    split
    · have := findL_le pm Bl k n (p + 1); omega
    · omega
def scV (M f : Nat) (l : List Nat) : Nat → List Nat
  | 0 => l
  | k + 1 => (scV M f l k).set k (mu M f ((scV M f l k).getD k 0))
theorem scV_length (M f : Nat) (l : List Nat) (k : Nat) : (scV M f l k).length = l.length := by
  induction k with
  | zero => rfl
  | succ k ih => rw [scV, List.length_set, ih]
theorem scV_lt {M f : Nat} (hM : FldM M) (hf : f < 2 ^ M) {l : List Nat} (h : ∀ x ∈ l, x < 2 ^ M) (k : Nat) : ∀ x ∈ scV M f l k, x < 2 ^ M := by
  induction k with
  | zero => exact h
  | succ k ih =>
    intro x hx
    rw [scV] at hx
    rcases List.mem_or_eq_of_mem_set hx with hx | rfl
    · exact ih x hx
    · exact mu_lt hM hf _
theorem addV_zero (M : Nat) (T l : List Nat) (k : Nat) : addV M 0 T l k = T := by
  induction k with
  | zero => rfl
  | succ k ih =>
    rw [addV, ih]
    have e : Gf.mul M (modN M) 0 (l.getD k 0) = 0 := zero_mu _
    rw [e, Nat.xor_zero]
    by_cases h : k < T.length
    · rw [List.getD_eq_getElem?_getD, List.getElem?_eq_getElem h]
      exact List.set_getElem_self h
    · exact List.set_eq_of_length_le (by omega)
def clB (M C k r : Nat) (pm : List Nat) (Bl : List (List Nat)) : Nat → List (List Nat)
  | 0 => Bl
  | q + 1 => if q = r then clB M C k r pm Bl q else (clB M C k r pm Bl q).set (pm.getD q 0) (addV M (((clB M C k r pm Bl q).getD (pm.getD q 0) []).getD k 0) ((clB M C k r pm Bl q).getD (pm.getD q 0) []) (Bl.getD (pm.getD r 0) []) C)
def swp (pm : List Nat) (p r : Nat) : List Nat := (pm.set p (pm.getD r 0)).set r (pm.getD p 0)
structure SysOk (M D C : Nat) (pm : List Nat) (Bl : List (List Nat)) : Prop where
  pl : pm.length = D
  nd : ∀ q q', q < D → q' < D → pm.getD q 0 = pm.getD q' 0 → q = q'
  lt : ∀ q, q < D → pm.getD q 0 < D
  bl : Bl.length = D
  rl : ∀ l ∈ Bl, l.length = C
  rx : ∀ l ∈ Bl, ∀ x ∈ l, x < 2 ^ M
theorem getDB_mem {Bl : List (List Nat)} {a : Nat} (h : a < Bl.length) : Bl.getD a [] ∈ Bl := by
  rw [List.getD_eq_getElem?_getD, List.getElem?_eq_getElem h]; exact List.getElem_mem h
theorem getDB_set {Bl : List (List Nat)} {a : Nat} (l : List Nat) (h : a < Bl.length) : (Bl.set a l).getD a [] = l := by
  rw [List.getD_eq_getElem?_getD, List.getElem?_set_self h]; rfl
theorem getDB_ne {Bl : List (List Nat)} {a b : Nat} (l : List Nat) (h : a ≠ b) : (Bl.set a l).getD b [] = Bl.getD b [] := by
  rw [List.getD_eq_getElem?_getD, List.getElem?_set_ne h, List.getD_eq_getElem?_getD]
theorem setB_self {Bl : List (List Nat)} {a : Nat} (h : a < Bl.length) : Bl.set a (Bl.getD a []) = Bl := by
  have e : Bl.getD a [] = Bl[a] := by rw [List.getD_eq_getElem?_getD, List.getElem?_eq_getElem h]; rfl
  rw [e]
  exact List.set_getElem_self h
theorem SysOk.set {M D C : Nat} {pm : List Nat} {Bl : List (List Nat)} (h : SysOk M D C pm Bl) (a : Nat) {l : List Nat} (h1 : l.length = C) (h2 : ∀ x ∈ l, x < 2 ^ M) : SysOk M D C pm (Bl.set a l) :=
  ⟨h.pl, h.nd, h.lt, by rw [List.length_set]; exact h.bl, fun x hx => (List.mem_or_eq_of_mem_set hx).elim (h.rl x) fun e => e ▸ h1, fun x hx => (List.mem_or_eq_of_mem_set hx).elim (h.rx x) fun e => e ▸ h2⟩
theorem swp_get {pm : List Nat} {p r q : Nat} (hp : p < pm.length) (hr : r < pm.length) : (swp pm p r).getD q 0 = if q = r then pm.getD p 0 else if q = p then pm.getD r 0 else pm.getD q 0 := by
  unfold swp
  rw [List.getD_eq_getElem?_getD]
  by_cases h1 : q = r
  · subst h1; rw [if_pos rfl, List.getElem?_set_self (by rw [List.length_set]; exact hr)]; rfl
  · rw [if_neg h1, List.getElem?_set_ne (Ne.symm h1)]
    by_cases h2 : q = p
    · subst h2; rw [if_pos rfl, List.getElem?_set_self hp]; rfl
    · rw [if_neg h2, List.getElem?_set_ne (Ne.symm h2), List.getD_eq_getElem?_getD]
theorem SysOk.swp {M D C p r : Nat} {pm : List Nat} {Bl : List (List Nat)} (h : SysOk M D C pm Bl) (hp : p < D) (hr : r < D) : SysOk M D C (swp pm p r) Bl := by
  have hg := fun q => swp_get (pm := pm) (p := p) (r := r) (q := q) (by rw [h.pl]; exact hp) (by rw [h.pl]; exact hr)
  refine ⟨by unfold Go.Proofs.YtaclmbbiegklcaaGreatDoor.swp; rw [List.length_set, List.length_set]; exact h.pl, fun q q' hq hq' e => ?_, fun q hq => ?_, h.bl, h.rl, h.rx⟩
  · rw [hg, hg] at e
    by_cases h1 : q = r <;> by_cases h2 : q' = r <;> by_cases h3 : q = p <;> by_cases h4 : q' = p <;> simp only [h1, h2, h3, h4, if_true, if_false] at e <;> first
      | omega
      | (have := h.nd _ _ (by omega) (by omega) e; omega)
      | (rw [if_neg (by omega)] at e; have := h.nd _ _ (by omega) (by omega) e; omega)
      | (split at e <;> first | omega | (have := h.nd _ _ (by omega) (by omega) e; omega))
  · rw [hg]
    split
    · exact h.lt p hp
    · split
      · exact h.lt r hr
      · exact h.lt q hq
theorem clB_ok {M D C k r : Nat} {pm : List Nat} {Bl : List (List Nat)} (hM : FldM M) (h : SysOk M D C pm Bl) (hr : r < D) : ∀ q, q ≤ D → SysOk M D C pm (clB M C k r pm Bl q) ∧ (clB M C k r pm Bl q).getD (pm.getD r 0) [] = Bl.getD (pm.getD r 0) []
  | 0, _ => ⟨h, rfl⟩
  | q + 1, hq => by
    obtain ⟨i1, i2⟩ := clB_ok hM h hr q (by omega)
    rw [clB]
    by_cases e : q = r
    · rw [if_pos e]; exact ⟨i1, i2⟩
    · rw [if_neg e]
      have hm := getDB_mem (Bl := clB M C k r pm Bl q) (a := pm.getD q 0) (by rw [i1.bl]; exact h.lt q (by omega))
      refine ⟨i1.set _ (by rw [addV_length]; exact i1.rl _ hm) (addV_lt hM (getD_lt (i1.rx _ hm) _) (i1.rx _ hm) _), ?_⟩
      rw [getDB_ne _ fun e2 => e (h.nd q r (by omega) hr e2)]
      exact i2
attribute [local irreducible] Quiet Eff OpOk AWPG ACont ABlock ACalls AGoto
theorem A_r8times {M a b : Nat} (hM : FldM M) (ha : a < 2 ^ M) (hb : b < 2 ^ M) : ACalls Tryz.prog 226 [iV M, iV a, iV b] [] (iV (mu M a b : Nat)) [] := by
  refine acalls_of_body Tryz.func226 rfl (Nat.le_of_ble_eq_true rfl) ?_
  have h := A_rmul hM ha hb
  (repeat' (first
  | (apply W.qd; (first
    | (apply (q_callC (h)); exact rfl; exact rfl; kernel_rfl; kernel_rfl; kernel_rfl)|(apply q_mv; (first|exact vD|exact vO|exact vP|exact vA|exact vF|exact vR|exact vN|exact vY|exact vT|exact vM|exact vL|exact vX))|(apply q_as; (first|exact vD|exact vO|exact vP|exact vA|exact vF|exact vR|exact vN|exact vY|exact vT|exact vM|exact vL|exact vX))
    | (apply q_extract; exact rfl; exact rfl)))|(apply AWP.seq)|(apply ACont_normal)|(apply W.region; kernel_rfl)|(apply Walk.nil)
  | (apply AWP.ret)))
  exact Ends.i rfl rfl
theorem A_r8inverse {M a : Nat} (hM : FldM M) (ha : a < 2 ^ M) (h0 : a ≠ 0) : ACalls Tryz.prog 225 [iV M, iV a] [] (iV (invN M a : Nat)) [] := by
  refine acalls_of_body Tryz.func225 rfl (Nat.le_of_ble_eq_true rfl) ?_
  have h := A_rinv hM ha h0
  (repeat' (first
  | (apply W.qd; (first
    | (apply (q_callC (h)); exact rfl; exact rfl; kernel_rfl; kernel_rfl; kernel_rfl)|(apply q_mv; (first|exact vD|exact vO|exact vP|exact vA|exact vF|exact vR|exact vN|exact vY|exact vT|exact vM|exact vL|exact vX))|(apply q_as; (first|exact vD|exact vO|exact vP|exact vA|exact vF|exact vR|exact vN|exact vY|exact vT|exact vM|exact vL|exact vX))
    | (apply q_extract; exact rfl; exact rfl)))|(apply AWP.seq)|(apply ACont_normal)|(apply W.region; kernel_rfl)|(apply Walk.nil)
  | (apply AWP.ret)))
  exact Ends.i rfl rfl
theorem A_elim_no {M D C v c k r : Nat} {pm : List Nat} {Bl : List (List Nat)} (hs : SysOk M D C pm Bl) (hk : k < C) (hr : r ≤ D) (hC : C ≤ 1000) (hD : D ≤ 1000) (hp : findL pm Bl k (D - r) r = D) :
    ACalls Tryz.prog 217 [.opt 0 0, iV k, iV r] (sysO 3 M v C c D pm Bl) (bV false) (sysO 3 M v C c D pm Bl) := by
  refine acalls_of_bodyS Tryz.func217 rfl (Nat.le_of_ble_eq_true rfl) ?_
  unfold sysO
  (repeat' (first
  | (apply W.qd; (first
    | (apply q_mv; (first|exact vD|exact vO|exact vP|exact vA|exact vF|exact vR|exact vN|exact vY|exact vT|exact vM|exact vL|exact vX))
    | (apply q_as; (first|exact vD|exact vO|exact vP|exact vA|exact vF|exact vR|exact vN|exact vY|exact vT|exact vM|exact vL|exact vX))))|(apply AWP.seq)|(apply ACont_normal)|(apply (W.regionS 2); exact rfl; kernel_rfl)|(apply Walk.nil)
  | (apply AWP.block)))
  refine AWP.loopE (α := Nat) (fun p => r ≤ p ∧ p ≤ D ∧ findL pm Bl k (D - p) p = D) (fun p => ⟨[(7, iV p), (0, .opt 0 0), (1, iV k), (2, iV r)], .box [iV M, .bsl 1 D c] :: .box (pm.map (ptrS v C)) :: Bl.map (rowE 3 v)⟩) (fun p => D - p) r ⟨Nat.le_refl _, hr, hp⟩ ⟨rfl, by (repeat (first | exact trivial | refine ⟨rfl, ?_⟩))⟩ fun p hp => ?_
  obtain ⟨h1, h2, h3⟩ := hp
  by_cases hpD : p < D
  · have hpm := sys_ld (v := v) (C := C) (p := p) (pm := pm) (by rw [hs.pl]; exact hpD)
    have ha := hs.lt p hpD
    have hget := sys_get (t := 3) (v := v) (E0 := .box [iV M, .bsl 1 D c]) (E1 := .box (pm.map (ptrS v C))) (Bl := Bl) (p := pm.getD p 0) (by rw [hs.bl]; exact ha)
    have hll := hs.rl _ (getDB_mem (Bl := Bl) (a := pm.getD p 0) (by rw [hs.bl]; exact ha))
    rw [show D - p = (D - (p + 1)) + 1 by omega, findL] at h3
    have hx : (Bl.getD (pm.getD p 0) []).getD k 0 = 0 := by
      by_cases e : (Bl.getD (pm.getD p 0) []).getD k 0 = 0
      · exact e
      · rw [if_neg e] at h3; omega
    rw [if_pos hx] at h3
    generalize Bl.getD (pm.getD p 0) [] = l at *
    have hx2 : l[k]'(by omega) = 0 := by rw [List.getD_eq_getElem?_getD, List.getElem?_eq_getElem (show k < l.length by omega)] at hx; exact hx
    generalize pm.getD p 0 = a at *
    (repeat' (first
  | (apply W.gOn; exact rfl; exact rfl)
  | (apply W.qd; (first
    | ((apply s_ld; exact rfl; exact rfl; assumption; exact rfl))
    | ((apply s_ix; exact rfl; assumption; (iterate 3 exact rfl); omega))
    | ((apply s_ldr; exact rfl; assumption; exact rfl; exact rfl; omega))
    | ((apply q_len_bsl; exact rfl; exact rfl))
    | ((apply q_ix_bsl; (iterate 4 exact rfl); omega))|(apply q_mv; (first|exact vD|exact vO|exact vP|exact vA|exact vF|exact vR|exact vN|exact vY|exact vT|exact vM|exact vL|exact vX))|(apply q_as; (first|exact vD|exact vO|exact vP|exact vA|exact vF|exact vR|exact vN|exact vY|exact vT|exact vM|exact vL|exact vX))|(apply q_fld_optF; (iterate 3 exact rfl))|(apply q_ld_box; (iterate 4 exact rfl))|(apply q_lss; exact rfl; exact rfl)|(apply q_eql; exact rfl; exact rfl)|(apply q_add; exact rfl; exact rfl; omega)|(apply q_nil_opt; exact rfl)
    | (apply (q_pickT (u := .d _)); exact rfl; exact rfl)))|(apply AWP.seq)|(apply ACont_normal)|(apply W.region; kernel_rfl)|(apply Walk.nil)|(apply AWP.block)|(apply AWP.skip)|(apply ABlock_normal)|(refine W.gT _ _ rfl rfl (fun hb => ?_) (fun hb => ?_) <;> ((try simp only [hb, zA, zB]) <;> (try simp only [zC, zD, zE, zF, zG, zH, zI, zJ] at hb) <;> (try (exfalso; omega))))
  | (refine W.cond _ rfl (fun hb => ?_) (fun hb => ?_) <;> ((try simp only [hb, zA, zB]) <;> (try simp only [zC, zD, zE, zF, zG, zH, zI, zJ] at hb) <;> (try (exfalso; omega))))))
    -- @1
    exact ⟨p + 1, ⟨by omega, by omega, h3⟩, by omega, rfl, iV_eq (by omega), rfl, rfl, rfl, trivial⟩
  · (repeat' (first
  | (apply W.qd; (first
    | ((apply q_len_bsl; exact rfl; exact rfl))|(apply q_mv; (first|exact vD|exact vO|exact vP|exact vA|exact vF|exact vR|exact vN|exact vY|exact vT|exact vM|exact vL|exact vX))|(apply q_as; (first|exact vD|exact vO|exact vP|exact vA|exact vF|exact vR|exact vN|exact vY|exact vT|exact vM|exact vL|exact vX))|(apply q_fld_optF; (iterate 3 exact rfl))|(apply q_ld_box; (iterate 4 exact rfl))|(apply q_lss; exact rfl; exact rfl)|(apply q_eql; exact rfl; exact rfl)|(apply q_nil_opt; exact rfl)
    | (apply (q_pickF (u := .d _)); exact rfl; exact rfl)))|(refine W.gOff _ _ rfl rfl (by intro h; cases h) ?_)|(apply AWP.seq)|(apply ACont_normal)|(apply W.region; kernel_rfl)|(apply Walk.nil)|(apply AWP.exit)|(apply AWP.ret)|(apply ACont_exit)|(apply ACont_ret)|(apply ABlock_exit)|(apply W.condF; exact rfl)|(refine W.gT _ _ rfl rfl (fun hb => ?_) (fun hb => ?_) <;> ((try simp only [hb, zA, zB]) <;> (try simp only [zC, zD, zE, zF, zG, zH, zI, zJ] at hb) <;> (try (exfalso; omega))))
  | (refine W.cond _ rfl (fun hb => ?_) (fun hb => ?_) <;> ((try simp only [hb, zA, zB]) <;> (try simp only [zC, zD, zE, zF, zG, zH, zI, zJ] at hb) <;> (try (exfalso; omega))))))
    exact EndsS.b rfl rfl
theorem A_elim {M D C v c k r P : Nat} {pm : List Nat} {Bl : List (List Nat)} (hM : FldM M) (hs : SysOk M D C pm Bl) (hk : k < C) (hr : r < D) (hC : C ≤ 1000) (hD : D ≤ 1000) (hp : findL pm Bl k (D - r) r = P) (hPD : P < D) :
    ACalls Tryz.prog 217 [.opt 0 0, iV k, iV r] (sysO 3 M v C c D pm Bl) (bV true)
      (sysO 3 M v C c D (swp pm P r) (clB M C k r (swp pm P r) (Bl.set (pm.getD P 0) (scV M (invN M ((Bl.getD (pm.getD P 0) []).getD k 0)) (Bl.getD (pm.getD P 0) []) C)) D)) := by
  refine acalls_of_bodyS Tryz.func217 rfl (Nat.le_of_ble_eq_true rfl) ?_
  have hsL : (sysO 3 M v C c D pm Bl).length = D + 2 := by rw [sys_len, hs.bl]
  unfold sysO
  (repeat' (first
  | (apply W.qd; (first
    | (apply q_mv; (first|exact vD|exact vO|exact vP|exact vA|exact vF|exact vR|exact vN|exact vY|exact vT|exact vM|exact vL|exact vX))
    | (apply q_as; (first|exact vD|exact vO|exact vP|exact vA|exact vF|exact vR|exact vN|exact vY|exact vT|exact vM|exact vL|exact vX))))|(apply AWP.seq)|(apply ACont_normal)|(apply (W.regionS 2); exact rfl; kernel_rfl)|(apply Walk.nil)
  | (apply AWP.block)))
  refine AWP.loopE (α := Nat) (fun p => r ≤ p ∧ p ≤ P ∧ findL pm Bl k (D - p) p = P) (fun p => ⟨[(7, iV p), (0, .opt 0 0), (1, iV k), (2, iV r)], .box [iV M, .bsl 1 D c] :: .box (pm.map (ptrS v C)) :: Bl.map (rowE 3 v)⟩) (fun p => D - p) r ⟨Nat.le_refl _, by have := findL_le pm Bl k (D - r) r; omega, hp⟩ ⟨rfl, by (repeat (first | exact trivial | refine ⟨rfl, ?_⟩))⟩ fun p hp => ?_
  obtain ⟨h1, h2, h3⟩ := hp
  have hpD : p < D := by omega
  have hpm := sys_ld (v := v) (C := C) (p := p) (pm := pm) (by rw [hs.pl]; exact hpD)
  have ha := hs.lt p hpD
  have hget := sys_get (t := 3) (v := v) (E0 := .box [iV M, .bsl 1 D c]) (E1 := .box (pm.map (ptrS v C))) (Bl := Bl) (p := pm.getD p 0) (by rw [hs.bl]; exact ha)
  have hmem := getDB_mem (Bl := Bl) (a := pm.getD p 0) (by rw [hs.bl]; exact ha)
  have hll := hs.rl _ hmem
  have hlx := hs.rx _ hmem
  rw [show D - p = (D - (p + 1)) + 1 by omega, findL] at h3
  by_cases hx : (Bl.getD (pm.getD p 0) []).getD k 0 = 0
  · rw [if_pos hx] at h3
    have hle := (findL_le pm Bl k (D - (p + 1)) (p + 1)).1
    generalize Bl.getD (pm.getD p 0) [] = l at *
    have hx2 : l[k]'(by omega) = 0 := by rw [List.getD_eq_getElem?_getD, List.getElem?_eq_getElem (show k < l.length by omega)] at hx; exact hx
    generalize pm.getD p 0 = a at *
    (repeat' (first
  | (apply W.gOn; exact rfl; exact rfl)
  | (apply W.qd; (first
    | ((apply s_ld; exact rfl; exact rfl; assumption; exact rfl))
    | ((apply s_ix; exact rfl; assumption; (iterate 3 exact rfl); omega))
    | ((apply s_ldr; exact rfl; assumption; exact rfl; exact rfl; omega))
    | ((apply q_len_bsl; exact rfl; exact rfl))
    | ((apply q_ix_bsl; (iterate 4 exact rfl); omega))|(apply q_mv; (first|exact vD|exact vO|exact vP|exact vA|exact vF|exact vR|exact vN|exact vY|exact vT|exact vM|exact vL|exact vX))|(apply q_as; (first|exact vD|exact vO|exact vP|exact vA|exact vF|exact vR|exact vN|exact vY|exact vT|exact vM|exact vL|exact vX))|(apply q_fld_optF; (iterate 3 exact rfl))|(apply q_ld_box; (iterate 4 exact rfl))|(apply q_lss; exact rfl; exact rfl)|(apply q_eql; exact rfl; exact rfl)|(apply q_add; exact rfl; exact rfl; omega)|(apply q_nil_opt; exact rfl)
    | (apply (q_pickT (u := .d _)); exact rfl; exact rfl)))|(apply AWP.seq)|(apply ACont_normal)|(apply W.region; kernel_rfl)|(apply Walk.nil)|(apply AWP.block)|(apply AWP.skip)|(apply ABlock_normal)|(refine W.gT _ _ rfl rfl (fun hb => ?_) (fun hb => ?_) <;> ((try simp only [hb, zA, zB]) <;> (try simp only [zC, zD, zE, zF, zG, zH, zI, zJ] at hb) <;> (try (exfalso; omega))))
  | (refine W.cond _ rfl (fun hb => ?_) (fun hb => ?_) <;> ((try simp only [hb, zA, zB]) <;> (try simp only [zC, zD, zE, zF, zG, zH, zI, zJ] at hb) <;> (try (exfalso; omega))))))
    exact ⟨p + 1, ⟨by omega, by omega, h3⟩, by omega, rfl, iV_eq (by omega), rfl, rfl, rfl, trivial⟩
  · rw [if_neg hx] at h3
    subst h3
    have hpm2 := sys_ld (v := v) (C := C) (p := r) (pm := pm) (by rw [hs.pl]; exact hr)
    have hsw := hs.swp hpD hr
    have hbk : (swp pm p r).getD r 0 = pm.getD p 0 := by rw [swp_get (by rw [hs.pl]; exact hpD) (by rw [hs.pl]; exact hr), if_pos rfl]
    have hpl := hs.pl
    have hbl := hs.bl
    have hswd : (pm.set p (pm.getD r 0)).set r (pm.getD p 0) = swp pm p r := rfl
    obtain ⟨l, hl⟩ : ∃ l, Bl.getD (pm.getD p 0) [] = l := ⟨_, rfl⟩
    rw [hl] at hget hll hlx hx ⊢
    have hx2 : l[k]'(by omega) ≠ 0 := by rw [List.getD_eq_getElem?_getD, List.getElem?_eq_getElem (show k < l.length by omega)] at hx; exact hx
    have hxe : l.getD k 0 = l[k]'(by omega) := by rw [List.getD_eq_getElem?_getD, List.getElem?_eq_getElem (show k < l.length by omega)]; rfl
    have hxl := hlx _ (List.getElem_mem (show k < l.length by omega))
    rw [hxe]
    have hinv := A_r8inverse hM hxl hx2
    have hfl : invN M (l[k]'(by omega)) < 2 ^ M := invN_lt _
    generalize invN M (l[k]'(by omega)) = f at *
    have hBs := fun j => hsw.set (pm.getD p 0) (l := scV M f l j) (by rw [scV_length]; exact hll) (scV_lt hM hfl hlx j)
    have hB1 := hBs C
    have hgB := fun j => getDB_set (Bl := Bl) (a := pm.getD p 0) (scV M f l j) (by omega)
    have hcl := fun q hq => clB_ok (k := k) hM hB1 hr q hq
    rw [hbk, hgB C] at hcl
    have hcs : ∀ q, clB M C k r (swp pm p r) (Bl.set (pm.getD p 0) (scV M f l C)) (q + 1) = if q = r then clB M C k r (swp pm p r) (Bl.set (pm.getD p 0) (scV M f l C)) q else (clB M C k r (swp pm p r) (Bl.set (pm.getD p 0) (scV M f l C)) q).set ((swp pm p r).getD q 0) (addV M (((clB M C k r (swp pm p r) (Bl.set (pm.getD p 0) (scV M f l C)) q).getD ((swp pm p r).getD q 0) []).getD k 0) ((clB M C k r (swp pm p r) (Bl.set (pm.getD p 0) (scV M f l C)) q).getD ((swp pm p r).getD q 0) []) (scV M f l C) C) := fun q => by
      rw [clB, hbk, hgB C]
    have hc0 : clB M C k r (swp pm p r) (Bl.set (pm.getD p 0) (scV M f l C)) 0 = Bl.set (pm.getD p 0) (scV M f l C) := rfl
    generalize clB M C k r (swp pm p r) (Bl.set (pm.getD p 0) (scV M f l C)) = CB at *
    have hnd := hsw.nd
    have hslt := hsw.lt
    have hspl := hsw.pl
    have hldS := fun q (hq : q < D) => sys_ld (v := v) (C := C) (p := q) (pm := swp pm p r) (by rw [hspl]; exact hq)
    generalize hSW : swp pm p r = SW at *
    generalize pm.getD p 0 = a at *
    generalize pm.getD r 0 = ar at *
    (repeat' (first
  | (apply W.gOn; exact rfl; exact rfl)
  | (apply W.qd; (first
    | (apply (q_callC (hinv)); exact rfl; exact rfl; kernel_rfl; kernel_rfl; kernel_rfl)
    | ((apply s_ld; exact rfl; exact rfl; assumption; exact rfl))
    | ((apply s_ix; exact rfl; assumption; (iterate 3 exact rfl); omega))
    | ((apply s_ldr; exact rfl; assumption; exact rfl; exact rfl; omega))
    | ((apply q_len_bsl; exact rfl; exact rfl))
    | ((apply q_ix_bsl; (iterate 4 exact rfl); omega))|(apply q_mv; (first|exact vD|exact vO|exact vP|exact vA|exact vF|exact vR|exact vN|exact vY|exact vT|exact vM|exact vL|exact vX))|(apply q_as; (first|exact vD|exact vO|exact vP|exact vA|exact vF|exact vR|exact vN|exact vY|exact vT|exact vM|exact vL|exact vX))|(apply q_fld_optF; (iterate 3 exact rfl))|(apply q_ld_box; (iterate 4 exact rfl))|(apply q_lss; exact rfl; exact rfl)|(apply q_eql; exact rfl; exact rfl)|(apply q_nil_opt; exact rfl)
    | (apply (q_pickT (u := .d _)); exact rfl; exact rfl)))|(apply W.en; ((apply s_stb; (iterate 4 exact rfl); exact sys_set1; (simp only [List.length_map, List.length_set]; omega))))|(apply AWP.seq)|(apply ACont_normal)|(apply (W.regionS 10); exact rfl; kernel_rfl)|(apply (W.regionDS 10); exact rfl; exact rfl; kernel_rfl)|(apply Walk.nil)|(apply W.chk; kernel_rfl)|(apply AWP.skip)|(apply AWP.exit)|(apply ACont_exit)|(apply ABlock_exit)|(refine W.gT _ _ rfl rfl (fun hb => ?_) (fun hb => ?_) <;> ((try simp only [hb, zA, zB]) <;> (try simp only [zC, zD, zE, zF, zG, zH, zI, zJ] at hb) <;> (try (exfalso; omega))))
  | (refine W.cond _ rfl (fun hb => ?_) (fun hb => ?_) <;> ((try simp only [hb, zA, zB]) <;> (try simp only [zC, zD, zE, zF, zG, zH, zI, zJ] at hb) <;> (try (exfalso; omega))))))
    rw [hswd]
    have hset0 : Bl.set a (scV M f l 0) = Bl := by
      rw [scV, ← hl]; exact setB_self (by omega)
    (repeat' (first
  | (apply W.qd; (apply q_as; (first|exact vD|exact vO|exact vP|exact vA|exact vF|exact vR|exact vN|exact vY|exact vT|exact vM|exact vL|exact vX)))|(apply ACont_normal)|(apply (W.regionS 11); exact rfl; kernel_rfl)|(apply Walk.nil)
  | (apply AWP.block)))
    refine AWP.loopE (α := Nat) (fun j => j ≤ C) (fun j => ⟨[(10, iV j), (8, .osl (a + 2) v 0 C), (9, iV f), (0, .opt 0 0), (1, iV k), (2, iV r)], .box [iV M, .bsl 1 D c] :: .box (SW.map (ptrS v C)) :: (Bl.set a (scV M f l j)).map (rowE 3 v)⟩) (fun j => C - j) 0 (by omega) ⟨by rw [hset0], by (repeat (first | exact trivial | refine ⟨rfl, ?_⟩))⟩ fun j hj => ?_
    have hlj : (scV M f l j).length = C := by rw [scV_length]; exact hll
    have hxj := scV_lt hM hfl hlx j
    have hst : ∀ h, scV M f l (j + 1) = (scV M f l j).set j (mu M f ((scV M f l j)[j]'h)) := fun h => by
      rw [scV, List.getD_eq_getElem?_getD, List.getElem?_eq_getElem h]; rfl
    by_cases hjC : j < C
    · have hgj := (sys_get (t := 3) (v := v) (E0 := .box [iV M, .bsl 1 D c]) (E1 := .box (SW.map (ptrS v C))) (Bl := Bl.set a (scV M f l j)) (p := a) (by rw [List.length_set]; omega)).trans (by rw [hgB j])
      have hst2 := Lib.hid (hst (by omega))
      clear hcs hc0 hcl hB1 hBs hst
      have htm := A_r8times hM hfl (hxj _ (List.getElem_mem (show j < (scV M f l j).length by omega)))
      (repeat' (first
  | (apply W.qd; (first
    | (apply (q_callC (htm)); exact rfl; exact rfl; kernel_rfl; kernel_rfl; kernel_rfl)
    | ((apply s_ix; exact rfl; assumption; (iterate 3 exact rfl); omega))
    | ((apply s_ldr; exact rfl; assumption; exact rfl; exact rfl; omega))
    | ((apply s_len; exact rfl; assumption; exact rfl))|(apply q_mv; (first|exact vD|exact vO|exact vP|exact vA|exact vF|exact vR|exact vN|exact vY|exact vT|exact vM|exact vL|exact vX))|(apply q_as; (first|exact vD|exact vO|exact vP|exact vA|exact vF|exact vR|exact vN|exact vY|exact vT|exact vM|exact vL|exact vX))|(apply q_fld_optF; (iterate 3 exact rfl))|(apply q_ld_box; (iterate 4 exact rfl))|(apply q_lss; exact rfl; exact rfl)|(apply q_add; exact rfl; exact rfl; omega)
    | (apply q_nil_opt; exact rfl)))|(apply W.en; ((apply s_str; exact rfl; assumption; (iterate 3 exact rfl); exact sys_set _; exact rfl; exact fun _ => rfl; omega)))|(apply AWP.seq)|(apply ACont_normal)|(apply W.region; kernel_rfl)|(apply W.regionD; exact rfl; kernel_rfl)|(apply Walk.nil)|(apply W.chk; kernel_rfl)|(apply AWP.block)|(apply AWP.skip)|(apply ABlock_normal)
  | (refine W.cond _ rfl (fun hb => ?_) (fun hb => ?_) <;> ((try simp only [hb, zA, zB]) <;> (try simp only [zC, zD, zE, zF, zG, zH, zI, zJ] at hb) <;> (try (exfalso; omega))))))
      refine ⟨j + 1, by omega, by omega, ?_, iV_eq (by omega), rfl, rfl, rfl, rfl, rfl, trivial⟩
      show _ :: _ :: List.map _ (Bl.set a (scV M f l (j + 1))) = _ :: _ :: List.map _ ((Bl.set a (scV M f l j)).set a _)
      rw [hst2.out, List.set_set]
    have hjC' : j = C := by omega
    subst hjC'
    clear hst
    have hgj := (sys_get (t := 3) (v := v) (E0 := .box [iV M, .bsl 1 D c]) (E1 := .box (SW.map (ptrS v j))) (Bl := Bl.set a (scV M f l j)) (p := a) (by rw [List.length_set]; omega)).trans (by rw [hgB j])
    generalize scV M f l j = x at *
    (repeat' (first
  | (apply W.qd; (first
    | ((apply s_len; exact rfl; assumption; exact rfl))|(apply q_mv; (first|exact vD|exact vO|exact vP|exact vA|exact vF|exact vR|exact vN|exact vY|exact vT|exact vM|exact vL|exact vX))|(apply q_as; (first|exact vD|exact vO|exact vP|exact vA|exact vF|exact vR|exact vN|exact vY|exact vT|exact vM|exact vL|exact vX))
    | (apply q_lss; exact rfl; exact rfl)))|(apply AWP.seq)|(apply ACont_normal)|(apply (W.regionS 15); exact rfl; kernel_rfl)|(apply Walk.nil)|(apply AWP.block)|(apply AWP.exit)|(apply ACont_exit)|(apply ABlock_exit)
  | (refine W.cond _ rfl (fun hb => ?_) (fun hb => ?_) <;> ((try simp only [hb, zA, zB]) <;> (try simp only [zC, zD, zE, zF, zG, zH, zI, zJ] at hb) <;> (try (exfalso; omega))))))
    clear hgj
    refine AWP.loopE (α := Nat) (fun q => q ≤ D) (fun q => ⟨[(11, iV q), (8, .osl (a + 2) v 0 j), (0, .opt 0 0), (1, iV k), (2, iV r)], .box [iV M, .bsl 1 D c] :: .box (SW.map (ptrS v j)) :: (CB q).map (rowE 3 v)⟩) (fun q => D - q) 0 (by omega) ⟨by rw [hc0], by (repeat (first | exact trivial | refine ⟨rfl, ?_⟩))⟩ fun q hq => ?_
    by_cases hqD : q < D
    · have hld := hldS q hqD
      have hb := hslt q hqD
      obtain ⟨i1, i2⟩ := hcl q hq
      have ibl := i1.bl
      have hgT := sys_get (t := 3) (v := v) (E0 := .box [iV M, .bsl 1 D c]) (E1 := .box (SW.map (ptrS v j))) (Bl := CB q) (p := SW.getD q 0) (by omega)
      have hTm := getDB_mem (Bl := CB q) (a := SW.getD q 0) (by omega)
      have hTl := i1.rl _ hTm
      have hTx := i1.rx _ hTm
      have hstep := hcs q
      have hba : q ≠ r → SW.getD q 0 ≠ a := fun e1 e2 => e1 (hnd q r hqD hr (by rw [e2, hbk]))
      have hsetT : (CB q).set (SW.getD q 0) ((CB q).getD (SW.getD q 0) []) = CB q := setB_self (by omega)
      clear hcs hcl hBs hB1 hgB
      generalize hT : (CB q).getD (SW.getD q 0) [] = T at *
      generalize SW.getD q 0 = b at *
      have hTk : T.getD k 0 = T[k]'(by omega) := by rw [List.getD_eq_getElem?_getD, List.getElem?_eq_getElem (show k < T.length by omega)]; rfl
      have hTkx := hTx _ (List.getElem_mem (show k < T.length by omega))
      by_cases hqr : q = r
      · rw [if_pos hqr] at hstep
        (repeat' (first
  | (apply W.qd; (first
    | ((apply s_ld; exact rfl; exact rfl; assumption; exact rfl))
    | ((apply s_ix; exact rfl; assumption; (iterate 3 exact rfl); omega))
    | ((apply s_ldr; exact rfl; assumption; exact rfl; exact rfl; omega))
    | ((apply q_len_bsl; exact rfl; exact rfl))
    | ((apply q_ix_bsl; (iterate 4 exact rfl); omega))|(apply q_mv; (first|exact vD|exact vO|exact vP|exact vA|exact vF|exact vR|exact vN|exact vY|exact vT|exact vM|exact vL|exact vX))|(apply q_as; (first|exact vD|exact vO|exact vP|exact vA|exact vF|exact vR|exact vN|exact vY|exact vT|exact vM|exact vL|exact vX))|(apply q_fld_optF; (iterate 3 exact rfl))|(apply q_ld_box; (iterate 4 exact rfl))|(apply q_lss; exact rfl; exact rfl)|(apply q_eql; exact rfl; exact rfl)|(apply q_add; exact rfl; exact rfl; omega)|(apply q_nil_opt; exact rfl)
    | (apply (q_pickT (u := .d _)); exact rfl; exact rfl)))|(refine W.gOff _ _ rfl rfl (by intro h; cases h) ?_)|(apply AWP.seq)|(apply ACont_normal)|(apply W.region; kernel_rfl)|(apply Walk.nil)|(apply AWP.block)|(apply AWP.skip)|(apply AWP.exit)|(apply ACont_exit)|(apply ABlock_exit)|(apply W.condT; exact rfl)|(refine W.gF _ _ rfl rfl (fun hb => ?_) (fun hb => ?_) <;> ((try simp only [hb, zA, zB]) <;> (try simp only [zC, zD, zE, zF, zG, zH, zI, zJ] at hb) <;> (try (exfalso; omega))))
  | (refine W.cond _ rfl (fun hb => ?_) (fun hb => ?_) <;> ((try simp only [hb, zA, zB]) <;> (try simp only [zC, zD, zE, zF, zG, zH, zI, zJ] at hb) <;> (try (exfalso; omega))))))
        refine ⟨q + 1, by omega, by omega, ?_, iV_eq (by omega), rfl, rfl, rfl, rfl, trivial⟩
        show _ :: _ :: List.map _ (CB (q + 1)) = _
        rw [hstep]
      · rw [if_neg hqr, hTk] at hstep
        have hba := hba hqr
        by_cases hz : T[k]'(by omega) = 0
        · rw [hz, addV_zero, hsetT] at hstep
          (repeat' (first
  | (apply W.gOn; exact rfl; exact rfl)
  | (apply W.qd; (first
    | ((apply s_ld; exact rfl; exact rfl; assumption; exact rfl))
    | ((apply s_ix; exact rfl; assumption; (iterate 3 exact rfl); omega))
    | ((apply s_ldr; exact rfl; assumption; exact rfl; exact rfl; omega))
    | ((apply q_len_bsl; exact rfl; exact rfl))
    | ((apply q_ix_bsl; (iterate 4 exact rfl); omega))|(apply q_mv; (first|exact vD|exact vO|exact vP|exact vA|exact vF|exact vR|exact vN|exact vY|exact vT|exact vM|exact vL|exact vX))|(apply q_as; (first|exact vD|exact vO|exact vP|exact vA|exact vF|exact vR|exact vN|exact vY|exact vT|exact vM|exact vL|exact vX))|(apply q_fld_optF; (iterate 3 exact rfl))|(apply q_ld_box; (iterate 4 exact rfl))|(apply q_lss; exact rfl; exact rfl)|(apply q_eql; exact rfl; exact rfl)|(apply q_add; exact rfl; exact rfl; omega)|(apply q_nil_opt; exact rfl)
    | (apply (q_pickF (u := .d _)); exact rfl; exact rfl)))|(apply AWP.seq)|(apply ACont_normal)|(apply W.region; kernel_rfl)|(apply Walk.nil)|(apply AWP.block)|(apply AWP.skip)|(apply AWP.exit)|(apply ACont_exit)|(apply ABlock_exit)|(refine W.gF _ _ rfl rfl (fun hb => ?_) (fun hb => ?_) <;> ((try simp only [hb, zA, zB]) <;> (try simp only [zC, zD, zE, zF, zG, zH, zI, zJ] at hb) <;> (try (exfalso; omega))))
  | (refine W.cond _ rfl (fun hb => ?_) (fun hb => ?_) <;> ((try simp only [hb, zA, zB]) <;> (try simp only [zC, zD, zE, zF, zG, zH, zI, zJ] at hb) <;> (try (exfalso; omega))))))
          refine ⟨q + 1, by omega, by omega, ?_, iV_eq (by omega), rfl, rfl, rfl, rfl, trivial⟩
          show _ :: _ :: List.map _ (CB (q + 1)) = _
          rw [hstep]
        · (repeat' (first
  | (apply W.gOn; exact rfl; exact rfl)
  | (apply W.qd; (first
    | ((apply s_ld; exact rfl; exact rfl; assumption; exact rfl))
    | ((apply s_ix; exact rfl; assumption; (iterate 3 exact rfl); omega))
    | ((apply s_ldr; exact rfl; assumption; exact rfl; exact rfl; omega))
    | ((apply q_len_bsl; exact rfl; exact rfl))
    | ((apply q_ix_bsl; (iterate 4 exact rfl); omega))|(apply q_mv; (first|exact vD|exact vO|exact vP|exact vA|exact vF|exact vR|exact vN|exact vY|exact vT|exact vM|exact vL|exact vX))|(apply q_as; (first|exact vD|exact vO|exact vP|exact vA|exact vF|exact vR|exact vN|exact vY|exact vT|exact vM|exact vL|exact vX))|(apply q_fld_optF; (iterate 3 exact rfl))|(apply q_ld_box; (iterate 4 exact rfl))|(apply q_lss; exact rfl; exact rfl)|(apply q_eql; exact rfl; exact rfl)|(apply q_nil_opt; exact rfl)
    | (apply (q_pickF (u := .d _)); exact rfl; exact rfl)))|(apply AWP.seq)|(apply ACont_normal)|(apply (W.regionS 20); exact rfl; kernel_rfl)|(apply Walk.nil)|(apply AWP.block)|(apply AWP.skip)|(refine W.gF _ _ rfl rfl (fun hb => ?_) (fun hb => ?_) <;> ((try simp only [hb, zA, zB]) <;> (try simp only [zC, zD, zE, zF, zG, zH, zI, zJ] at hb) <;> (try (exfalso; omega))))
  | (refine W.cond _ rfl (fun hb => ?_) (fun hb => ?_) <;> ((try simp only [hb, zA, zB]) <;> (try simp only [zC, zD, zE, zF, zG, zH, zI, zJ] at hb) <;> (try (exfalso; omega))))))
          have hgT0 := hgT
          clear hgT
          generalize hg : T[k]'(by omega) = g at *
          refine AWP.loopE (α := Nat) (fun i => i ≤ j) (fun i => ⟨[(13, iV i), (12, iV g), (11, iV q), (8, .osl (a + 2) v 0 j), (0, .opt 0 0), (1, iV k), (2, iV r)], .box [iV M, .bsl 1 D c] :: .box (SW.map (ptrS v j)) :: ((CB q).set b (addV M g T x i)).map (rowE 3 v)⟩) (fun i => j - i) 0 (by omega) ⟨by rw [addV, hsetT], by (repeat (first | exact trivial | refine ⟨rfl, ?_⟩))⟩ fun i hi => ?_
          have hli : (addV M g T x i).length = j := by rw [addV_length]; exact hTl
          have hxi := addV_lt hM hTkx hTx i (l := x)
          have hgA : (.box [iV M, .bsl 1 D c] :: .box (SW.map (ptrS v j)) :: ((CB q).set b (addV M g T x i)).map (rowE 3 v))[a + 2]? = some (Ent.row v 1 3 (x.map kD)) :=
            (sys_get (by rw [List.length_set]; omega)).trans (by rw [getDB_ne _ hba, i2])
          have hgI : (.box [iV M, .bsl 1 D c] :: .box (SW.map (ptrS v j)) :: ((CB q).set b (addV M g T x i)).map (rowE 3 v))[b + 2]? = some (Ent.row v 1 3 ((addV M g T x i).map kD)) :=
            (sys_get (by rw [List.length_set]; omega)).trans (by rw [getDB_set _ (by omega)])
          have hst : ∀ h h', addV M g T x (i + 1) = (addV M g T x i).set i ((addV M g T x i)[i]'h ^^^ mu M g (x[i]'h')) := fun h h' => by
            rw [addV, List.getD_eq_getElem?_getD, List.getElem?_eq_getElem h, List.getD_eq_getElem?_getD, List.getElem?_eq_getElem h']; rfl
          by_cases hij : i < j
          · have hst2 := Lib.hid (hst (by omega) (by omega))
            clear hst
            have hxm := hxj _ (List.getElem_mem (show i < x.length by omega))
            have htm := A_r8times hM hTkx hxm
            have hc1 := hM.cap (hxi _ (List.getElem_mem (show i < (addV M g T x i).length by omega)))
            have hc2 := hM.cap (mu_lt hM hTkx (x[i]'(by omega)))
            (repeat' (first
  | (apply W.qd; (first
    | (apply (q_callC (htm)); exact rfl; exact rfl; kernel_rfl; kernel_rfl; kernel_rfl)
    | ((apply s_ld; exact rfl; exact rfl; assumption; exact rfl))
    | ((apply s_ix; exact rfl; assumption; (iterate 3 exact rfl); omega))
    | ((apply s_ldr; exact rfl; assumption; exact rfl; exact rfl; omega))
    | ((apply s_len; exact rfl; assumption; exact rfl))
    | ((apply q_ix_bsl; (iterate 4 exact rfl); omega))|(apply q_mv; (first|exact vD|exact vO|exact vP|exact vA|exact vF|exact vR|exact vN|exact vY|exact vT|exact vM|exact vL|exact vX))|(apply q_as; (first|exact vD|exact vO|exact vP|exact vA|exact vF|exact vR|exact vN|exact vY|exact vT|exact vM|exact vL|exact vX))|(apply q_fld_optF; (iterate 3 exact rfl))|(apply q_ld_box; (iterate 4 exact rfl))|(apply q_lss; exact rfl; exact rfl)|(apply q_add; exact rfl; exact rfl; omega)|(apply q_nil_opt; exact rfl)
    | (apply q_xorN; exact rfl; exact rfl; (first | (with_reducible exact rfl) | exact natI_spec rfl | assumption | exact (Int.toNat_of_nonneg (by omega)).symm); (first | (with_reducible exact rfl) | exact natI_spec rfl | assumption | exact (Int.toNat_of_nonneg (by omega)).symm); (first | (apply hcap1; omega) | (apply hcap2; omega) | (apply hcap3; omega) | (apply hcap4; omega) | (focus (show _ < 9223372036854775808; omega)) | (focus (show _ < 256; omega)) | assumption); (first | (apply hcap1; omega) | (apply hcap2; omega) | (apply hcap3; omega) | (apply hcap4; omega) | (focus (show _ < 9223372036854775808; omega)) | (focus (show _ < 256; omega)) | assumption))))|(apply W.en; ((apply s_str; exact rfl; assumption; (iterate 3 exact rfl); exact sys_set _; exact rfl; exact fun _ => rfl; omega)))|(apply AWP.seq)|(apply ACont_normal)|(apply W.region; kernel_rfl)|(apply W.regionD; exact rfl; kernel_rfl)|(apply Walk.nil)|(apply W.chk; kernel_rfl)|(apply AWP.block)|(apply AWP.skip)|(apply ABlock_normal)
  | (refine W.cond _ rfl (fun hb => ?_) (fun hb => ?_) <;> ((try simp only [hb, zA, zB]) <;> (try simp only [zC, zD, zE, zF, zG, zH, zI, zJ] at hb) <;> (try (exfalso; omega))))))
            refine ⟨i + 1, by omega, by omega, ?_, iV_eq (by omega), rfl, rfl, rfl, rfl, rfl, rfl, trivial⟩
            show _ :: _ :: List.map _ ((CB q).set b (addV M g T x (i + 1))) = _ :: _ :: List.map _ (((CB q).set b (addV M g T x i)).set b _)
            rw [hst2.out, List.set_set]
          · have hij' : i = j := by omega
            subst hij'
            clear hst hgI
            (repeat' (first
  | (apply W.qd; (first
    | ((apply s_len; exact rfl; assumption; exact rfl))|(apply q_mv; (first|exact vD|exact vO|exact vP|exact vA|exact vF|exact vR|exact vN|exact vY|exact vT|exact vM|exact vL|exact vX))|(apply q_as; (first|exact vD|exact vO|exact vP|exact vA|exact vF|exact vR|exact vN|exact vY|exact vT|exact vM|exact vL|exact vX))|(apply q_lss; exact rfl; exact rfl)
    | (apply q_add; exact rfl; exact rfl; omega)))|(apply AWP.seq)|(apply ACont_normal)|(apply W.region; kernel_rfl)|(apply Walk.nil)|(apply AWP.exit)|(apply ACont_exit)|(apply ABlock_normal)|(apply ABlock_exit)
  | (refine W.cond _ rfl (fun hb => ?_) (fun hb => ?_) <;> ((try simp only [hb, zA, zB]) <;> (try simp only [zC, zD, zE, zF, zG, zH, zI, zJ] at hb) <;> (try (exfalso; omega))))))
            refine ⟨q + 1, by omega, by omega, ?_, iV_eq (by omega), rfl, rfl, rfl, rfl, trivial⟩
            show _ :: _ :: List.map _ (CB (q + 1)) = _
            rw [hstep]
    · have hqD' : q = D := by omega
      subst hqD'
      (repeat' (first
  | (apply W.qd; (first
    | ((apply q_len_bsl; exact rfl; exact rfl))|(apply q_mv; (first|exact vD|exact vO|exact vP|exact vA|exact vF|exact vR|exact vN|exact vY|exact vT|exact vM|exact vL|exact vX))|(apply q_as; (first|exact vD|exact vO|exact vP|exact vA|exact vF|exact vR|exact vN|exact vY|exact vT|exact vM|exact vL|exact vX))|(apply q_fld_optF; (iterate 3 exact rfl))|(apply q_ld_box; (iterate 4 exact rfl))|(apply q_lss; exact rfl; exact rfl)
    | (apply q_nil_opt; exact rfl)))|(apply AWP.seq)|(apply ACont_normal)|(apply W.region; kernel_rfl)|(apply Walk.nil)|(apply AWP.exit)|(apply AWP.ret)|(apply ACont_exit)|(apply ABlock_exit)
  | (refine W.cond _ rfl (fun hb => ?_) (fun hb => ?_) <;> ((try simp only [hb, zA, zB]) <;> (try simp only [zC, zD, zE, zF, zG, zH, zI, zJ] at hb) <;> (try (exfalso; omega))))))
      exact EndsS.b rfl rfl
end Go.Proofs.YtaclmbbiegklcaaGreatDoor
end
section
/- The reference's elimination does to its equations what reduce does to a matrix. Plain law. -/
namespace Go.Proofs.YtaclmbbiegklcaaGreatDoor
open Go.RowKit
set_option linter.unusedSectionVars false
set_option maxRecDepth 100000
theorem scV_get (M f : Nat) (l : List Nat) : ∀ n, n ≤ l.length → ∀ i, i < l.length → (scV M f l n).getD i 0 = if i < n then mu M f (l.getD i 0) else l.getD i 0
  | 0, _, i, _ => by rw [scV, if_neg (by omega)]
  | n + 1, hn, i, hi => by
    have ih := scV_get M f l n (by omega)
    rw [scV]
    by_cases e : n = i
    · subst e
      rw [getD_set_eq (by rw [scV_length]; exact hi), ih n hi, if_neg (by omega), if_pos (by omega)]
    · rw [getD_set_ne' e, ih i hi]
      by_cases h : i < n
      · rw [if_pos h, if_pos (by omega)]
      · rw [if_neg h, if_neg (by omega)]
def lgN (pm : List Nat) (Bl : List (List Nat)) (q j : Nat) : Nat := (Bl.getD (pm.getD q 0) []).getD j 0
theorem clB_get {M D C k r : Nat} {pm : List Nat} {Bl : List (List Nat)} (hM : FldM M) (h : SysOk M D C pm Bl) (hr : r < D) : ∀ q, q ≤ D → ∀ q' j, q' < D → j < C → lgN pm (clB M C k r pm Bl q) q' j = if q' < q ∧ q' ≠ r then lgN pm Bl q' j ^^^ mu M (lgN pm Bl q' k) (lgN pm Bl r j) else lgN pm Bl q' j
  | 0, _, q', j, _, _ => by rw [clB, if_neg (by omega)]
  | q + 1, hq, q', j, hq', hj => by
    have ih0 := clB_get (k := k) hM h hr q (by omega)
    have ih := fun j hq' hj => ih0 q' j hq' hj
    obtain ⟨i1, _⟩ := clB_ok (k := k) hM h hr q (by omega)
    rw [clB]
    by_cases e : q = r
    · rw [if_pos e, ih j hq' hj]
      by_cases h1 : q' < q ∧ q' ≠ r
      · rw [if_pos h1, if_pos ⟨by omega, h1.2⟩]
      · rw [if_neg h1, if_neg (by omega)]
    · rw [if_neg e]
      by_cases e2 : q' = q
      · subst e2
        have hb := h.lt q' hq'
        have hm := getDB_mem (Bl := clB M C k r pm Bl q') (a := pm.getD q' 0) (by rw [i1.bl]; exact hb)
        have hl := i1.rl _ hm
        rw [if_pos ⟨by omega, e⟩]
        have hT : ∀ j, j < C → ((clB M C k r pm Bl q').getD (pm.getD q' 0) []).getD j 0 = lgN pm Bl q' j := fun j hj => by
          have := ih0 q' j hq' hj
          rw [if_neg (by omega)] at this
          exact this
        unfold lgN at hT ⊢
        rw [getDB_set _ (by rw [i1.bl]; exact hb), addV_get M _ _ _ C (by omega) j (by omega), if_pos hj, hT j hj]
        by_cases hk : k < C
        · rw [hT k hk]
        · have z1 : ((clB M C k r pm Bl q').getD (pm.getD q' 0) []).getD k 0 = 0 := by
            rw [List.getD_eq_getElem?_getD, List.getElem?_eq_none (by omega)]; rfl
          have hm2 := getDB_mem (Bl := Bl) (a := pm.getD q' 0) (by rw [h.bl]; exact hb)
          have z2 : (Bl.getD (pm.getD q' 0) []).getD k 0 = 0 := by
            rw [List.getD_eq_getElem?_getD, List.getElem?_eq_none (by rw [h.rl _ hm2]; omega)]; rfl
          rw [z1, z2]
      · have hne : pm.getD q 0 ≠ pm.getD q' 0 := fun e3 => e2 (h.nd q q' (by omega) hq' e3).symm
        have hs : ∀ l j, lgN pm ((clB M C k r pm Bl q).set (pm.getD q 0) l) q' j = lgN pm (clB M C k r pm Bl q) q' j := fun l j => by
          unfold lgN; rw [getDB_ne _ hne]
        rw [hs, ih j hq' hj]
        by_cases h1 : q' < q ∧ q' ≠ r
        · rw [if_pos h1, if_pos ⟨by omega, h1.2⟩]
        · rw [if_neg h1, if_neg (by omega)]
def RelL (D C : Nat) (pm : List Nat) (Bl : List (List Nat)) (A : List Nat) : Prop := ∀ q, q < D → ∀ j, j < C → lgN pm Bl q j = gt C A q j
theorem find_rel {D C k : Nat} {pm : List Nat} {Bl : List (List Nat)} {A : List Nat} (h : RelL D C pm Bl A) (hk : k < C) : ∀ n p, p + n ≤ D → findL pm Bl k n p = findP C k A n p
  | 0, p, _ => rfl
  | n + 1, p, hp => by
    rw [findL, findP]
    have h1 := h p (by omega) k hk
    unfold lgN gt at h1
    rw [h1, find_rel h hk n (p + 1) (by omega)]
theorem elim_rel {M D C k r P : Nat} {pm : List Nat} {Bl : List (List Nat)} {A pv : List Nat} (hM : FldM M) (hs : SysOk M D C pm Bl) (h : RelL D C pm Bl A) (hA : A.length = D * C) (hpv : pv.length = r) (hk : k < C) (hr : r < D) (hP : findL pm Bl k (D - r) r = P) (hPD : P < D) :
    (redStep M D C k (A, pv)).2 = pv ++ [k] ∧
    SysOk M D C (swp pm P r) (clB M C k r (swp pm P r) (Bl.set (pm.getD P 0) (scV M (invN M ((Bl.getD (pm.getD P 0) []).getD k 0)) (Bl.getD (pm.getD P 0) []) C)) D) ∧
    RelL D C (swp pm P r) (clB M C k r (swp pm P r) (Bl.set (pm.getD P 0) (scV M (invN M ((Bl.getD (pm.getD P 0) []).getD k 0)) (Bl.getD (pm.getD P 0) []) C)) D) (redStep M D C k (A, pv)).1 := by
  have hPr := (findL_le pm Bl k (D - r) r).1
  have hf := find_rel h hk (D - r) r (by omega)
  rw [hP] at hf
  have hsw := hs.swp hPD hr
  have hsg := fun q => swp_get (pm := pm) (p := P) (r := r) (q := q) (by rw [hs.pl]; exact hPD) (by rw [hs.pl]; exact hr)
  have ha := hs.lt P hPD
  have hm := getDB_mem (Bl := Bl) (a := pm.getD P 0) (by rw [hs.bl]; exact ha)
  have hll := hs.rl _ hm
  have hlx := hs.rx _ hm
  have hxk : ((Bl.getD (pm.getD P 0) []).getD k 0) = gt C A P k := h P hPD k hk
  have hfl : invN M ((Bl.getD (pm.getD P 0) []).getD k 0) < 2 ^ M := invN_lt _
  have hB1 := hsw.set (pm.getD P 0) (l := scV M (invN M ((Bl.getD (pm.getD P 0) []).getD k 0)) (Bl.getD (pm.getD P 0) []) C) (by rw [scV_length]; exact hll) (scV_lt hM hfl hlx C)
  unfold redStep
  dsimp only
  rw [hpv, ← hf, if_neg (by omega)]
  refine ⟨rfl, (clB_ok hM hB1 hr D (Nat.le_refl _)).1, fun q hq j hj => ?_⟩
  rw [clB_get hM hB1 hr D (Nat.le_refl _) q j hq hj]
  have s1 : ∀ q c, c < C → gt C (swapAt (P * C) (r * C) A C) q c = if q = P then gt C A r c else if q = r then gt C A P c else gt C A q c := fun q c hc => gt_swap hA hPD hr hc
  have l1 : (swapAt (P * C) (r * C) A C).length = D * C := by rw [swapAt_length]; exact hA
  have hxe : (swapAt (P * C) (r * C) A C).getD (r * C + k) 0 = gt C A P k := by
    show gt C (swapAt (P * C) (r * C) A C) r k = _
    rw [s1 r k hk]
    by_cases e : r = P
    · rw [if_pos e, e]
    · rw [if_neg e, if_pos rfl]
  rw [hxe, hxk]
  generalize swapAt (P * C) (r * C) A C = L1 at *
  generalize invN M (gt C A P k) = f at *
  have s2 : ∀ q c, c < C → gt C (scaleAt M f (r * C) L1 C) q c = if q = r then mu M f (gt C L1 r c) else gt C L1 q c := fun q c hc => gt_scale l1 hr hc
  have l2 : (scaleAt M f (r * C) L1 C).length = D * C := by rw [scaleAt_length]; exact l1
  generalize scaleAt M f (r * C) L1 C = L2 at *
  have key : ∀ q, q < D → ∀ c, c < C → lgN (swp pm P r) (Bl.set (pm.getD P 0) (scV M f (Bl.getD (pm.getD P 0) []) C)) q c = gt C L2 q c := fun q hq c hc => by
    rw [s2 q c hc]
    unfold lgN
    rw [hsg q]
    by_cases e1 : q = r
    · rw [if_pos e1, if_pos e1, getDB_set _ (by rw [hs.bl]; exact ha), scV_get M f _ C (by omega) c (by omega), if_pos hc, s1 r c hc]
      have := h P hPD c hc
      unfold lgN at this
      rw [this]
      by_cases e : r = P
      · rw [if_pos e, e]
      · rw [if_neg e, if_pos rfl]
    · rw [if_neg e1, if_neg e1, s1 q c hc]
      by_cases e2 : q = P
      · rw [if_pos e2, if_pos e2, getDB_ne _ (fun e3 => e1 (by rw [e2]; exact hs.nd P r hPD hr e3))]
        exact h r hr c hc
      · rw [if_neg e2, if_neg e2, if_neg e1, getDB_ne _ (fun e3 => e2 (hs.nd P q hPD hq e3).symm)]
        exact h q hq c hc
  rw [gt_clear l2 hk hq hj, key q hq j hj, key q hq k hk, key r hr j hj]
  by_cases e : q = r
  · rw [if_neg (by omega), if_pos e, e]
  · rw [if_pos ⟨hq, e⟩, if_neg e]
end Go.Proofs.YtaclmbbiegklcaaGreatDoor
end
