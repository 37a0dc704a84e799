import Derived.Test.YtjaipchlnnjaeaaDoorB3
/- Joined texts: Lw2 Lw3. -/
section
/- Encode is linear: plain law. -/
namespace Go.Proofs.YtjaipchlnnjaeaaDoor
open Go.RowKit
set_option linter.unusedVariables false

theorem xorL_get? (a b : List Nat) (k : Nat) : (xorL a b)[k]? = match a[k]?, b[k]? with | some x, some y => some (x ^^^ y) | _, _ => none := by
  unfold xorL
  rw [List.getElem?_zipWith]
  cases a[k]? <;> cases b[k]? <;> rfl
theorem xorL_swap (a b c d : List Nat) : xorL (xorL a b) (xorL c d) = xorL (xorL a c) (xorL b d) := by
  apply List.ext_getElem?
  intro k
  simp only [xorL_get?]
  cases a[k]? <;> cases b[k]? <;> cases c[k]? <;> cases d[k]? <;> simp
  rename_i a b c d
  exact Gf.xor4 a b c d
theorem scale8_xor (c : Nat) (a b : List Nat) : scale8 c (xorL a b) = xorL (scale8 c a) (scale8 c b) := by
  apply List.ext_getElem?
  intro k
  unfold scale8
  rw [List.getElem?_map, xorL_get?, xorL_get?, List.getElem?_map, List.getElem?_map]
  cases a[k]? <;> cases b[k]? <;> simp
  exact Gf.mul_xor _ _ _
theorem join_xor {a a' b b' : Nat} (h : b < 256) (h' : b' < 256) : 256 * (a ^^^ a') + (b ^^^ b') = (256 * a + b) ^^^ (256 * a' + b') := by
  have hx : b ^^^ b' < 2 ^ 8 := Nat.xor_lt_two_pow (n := 8) h h'
  have e : ∀ x y, y < 2 ^ 8 → 256 * x + y = x <<< 8 ||| y := fun x y hy => by
    have := Nat.shiftLeft_add_eq_or_of_lt hy x
    rw [← this, Nat.shiftLeft_eq]; omega
  rw [e _ _ hx, e _ _ h, e _ _ h']
  apply Nat.eq_of_testBit_eq
  intro i
  simp only [Nat.testBit_xor, Nat.testBit_or, Nat.testBit_shiftLeft]
  by_cases hi : 8 ≤ i
  · have t : ∀ y, y < 2 ^ 8 → y.testBit i = false := fun y hy => Nat.testBit_lt_two_pow (Nat.lt_of_lt_of_le hy (Nat.pow_le_pow_right (by omega) hi))
    simp [hi, t _ h, t _ h']
  · simp [hi]
theorem scale16_xor (c : Nat) : ∀ a b : List Nat, isB a → isB b → a.length = b.length → scale16 c (xorL a b) = xorL (scale16 c a) (scale16 c b)
  | [], [], _, _, _ => rfl
  | [_], [_], _, _, _ => rfl
  | x :: y :: a, x' :: y' :: b, ha, hb, hl => by
    have ih := scale16_xor c a b (fun z hz => ha z (by simp [hz])) (fun z hz => hb z (by simp [hz])) (by simpa using hl)
    have h1 := ha y (by simp)
    have h2 := hb y' (by simp)
    show scale16 c ((x ^^^ x') :: (y ^^^ y') :: xorL a b) = xorL (scale16 c (x :: y :: a)) (scale16 c (x' :: y' :: b))
    simp only [scale16]
    rw [ih, join_xor h1 h2, Gf.mul_xor]
    generalize Gf.mul 16 (modN 16) c (256 * x + y) = u
    generalize Gf.mul 16 (modN 16) c (256 * x' + y') = v
    have e1 : (u ^^^ v) / 256 = u / 256 ^^^ v / 256 := by
      have := Nat.xor_div_two_pow (a := u) (b := v) (n := 8)
      simpa using this
    have e2 : (u ^^^ v) % 256 = u % 256 ^^^ v % 256 := by
      have := Nat.xor_mod_two_pow (a := u) (b := v) (n := 8)
      simpa using this
    rw [e1, e2]
    rfl
  | [], _ :: _, _, _, h => by simp at h
  | _ :: _, [], _, _, h => by simp at h
  | [_], _ :: _ :: _, _, _, h => by simp at h
  | _ :: _ :: _, [_], _, _, h => by simp at h
theorem scaleM_xor (M c : Nat) {a b : List Nat} (ha : isB a) (hb : isB b) (hl : a.length = b.length) : scaleM M c (xorL a b) = xorL (scaleM M c a) (scaleM M c b) := by
  unfold scaleM
  split
  · exact scale8_xor c a b
  · exact scale16_xor c a b ha hb hl
theorem combM_xor (M n : Nat) : ∀ (cs : List Nat) (us vs : List (List Nat)) (p q : List Nat), (∀ u ∈ us, isB u ∧ u.length = n) → (∀ u ∈ vs, isB u ∧ u.length = n) → us.length = vs.length → combM M n cs (List.zipWith xorL us vs) (xorL p q) = xorL (combM M n cs us p) (combM M n cs vs q)
  | c :: cs, u :: us, v :: vs, p, q, hu, hv, hl => by
    show combM M n cs (List.zipWith xorL us vs) (xorL (xorL p q) (scaleM M c (xorL u v))) = xorL (combM M n cs us (xorL p (scaleM M c u))) (combM M n cs vs (xorL q (scaleM M c v)))
    obtain ⟨h1, h2⟩ := hu u (by simp)
    obtain ⟨h3, h4⟩ := hv v (by simp)
    rw [scaleM_xor M c h1 h3 (by omega), xorL_swap]
    exact combM_xor M n cs us vs _ _ (fun x hx => hu x (by simp [hx])) (fun x hx => hv x (by simp [hx])) (by simpa using hl)
  | [], us, vs, p, q, _, _, _ => by simp [combM]
  | _ :: _, [], [], p, q, _, _, _ => by simp [combM]
  | _ :: _, [], _ :: _, _, _, _, _, h => by simp at h
  | _ :: _, _ :: _, [], _, _, _, _, h => by simp at h
theorem xorL_zeros (n : Nat) : xorL (List.replicate n 0) (List.replicate n 0) = List.replicate n 0 := by
  induction n with
  | zero => rfl
  | succ n ih => rw [List.replicate_succ]; show (0 ^^^ 0) :: xorL _ _ = _; rw [ih]; rfl
theorem headD_len {us : List (List Nat)} {n : Nat} (h : ∀ u ∈ us, u.length = n) (h0 : 0 < us.length) : (us.headD []).length = n := by
  cases us with
  | nil => simp at h0
  | cons a t => exact h a (by simp)
theorem zipX_len {us vs : List (List Nat)} {n : Nat} (h1 : ∀ u ∈ us, isB u ∧ u.length = n) (h2 : ∀ u ∈ vs, isB u ∧ u.length = n) : ∀ u ∈ List.zipWith xorL us vs, isB u ∧ u.length = n := fun u hu => by
  obtain ⟨k, hk, rfl⟩ := List.getElem_of_mem hu
  rw [List.getElem_zipWith]
  rw [List.length_zipWith] at hk
  have e1 := h1 (us[k]'(by omega)) (List.getElem_mem _)
  have e2 := h2 (vs[k]'(by omega)) (List.getElem_mem _)
  exact ⟨isB_xor e1.1 e2.1, by rw [xorL_length _ _ (by omega)]; exact e1.2⟩
theorem encN_xor {M n : Nat} {ps us vs : List (List Nat)} (h1 : ∀ u ∈ us, isB u ∧ u.length = n) (h2 : ∀ u ∈ vs, isB u ∧ u.length = n) (hl : us.length = vs.length) (h0 : 0 < us.length) : encN M ps (List.zipWith xorL us vs) = List.zipWith xorL (encN M ps us) (encN M ps vs) := by
  have hz := zipX_len h1 h2
  unfold encN
  rw [headD_len (fun u hu => (h1 u hu).2) h0, headD_len (fun u hu => (h2 u hu).2) (by omega), headD_len (fun u hu => (hz u hu).2) (by rw [List.length_zipWith]; omega), List.zipWith_append hl, List.zipWith_map_left, List.zipWith_map_right]
  congr 1
  apply List.ext_getElem?
  intro k
  rw [List.getElem?_map, List.getElem?_zipWith]
  cases ps[k]? with
  | none => rfl
  | some r =>
    simp only [Option.map_some]
    have := combM_xor M n r us vs (List.replicate n 0) (List.replicate n 0) h1 h2 hl
    rw [xorL_zeros] at this
    rw [this]
theorem encN_ok {M D n : Nat} {ps us : List (List Nat)} (h : CodeOk M D ps) (hl : us.length = D) (hu : ∀ u ∈ us, isB u ∧ u.length = n) (he : FitM M n) : ∀ u ∈ encN M ps us, isB u ∧ u.length = n := fun u hx => by
  unfold encN at hx
  rcases List.mem_append.1 hx with hx | hx
  · exact hu u hx
  · obtain ⟨r, hr, rfl⟩ := List.mem_map.1 hx
    rw [headD_len (fun u hu' => (hu u hu').2) (by have := h.d; omega)]
    exact combM_ok h.f he r us _ (h.row r hr).2.1 (fun u hu' => (hu u hu').2) (isB_zero n) (by simp)
theorem encN_length (M : Nat) (ps us : List (List Nat)) : (encN M ps us).length = us.length + ps.length := by simp [encN]
/-- Units of equal lengths are uniform together. -/
theorem uni_same {M : Int} {us vs : List (List Nat)} (h : us.map List.length = vs.map List.length) : uniB M us = uniB M vs := by
  have key : ∀ ws : List (List Nat), uniB M ws = (ws.map List.length).all fun n => decide ((n : Int) = (((ws.map List.length).headD 0 : Nat) : Int)) && (decide (M = 8) || decide ((n : Int) % 2 = 0)) := fun ws => by
    unfold uniB
    rw [List.all_map]
    have e : (ws.map List.length).headD 0 = (ws.headD []).length := by cases ws <;> rfl
    rw [e]
    rfl
  rw [key, key, h]
theorem zip_lens {us vs : List (List Nat)} (h : us.map List.length = vs.map List.length) : (List.zipWith xorL us vs).map List.length = us.map List.length := by
  apply List.ext_getElem?
  intro k
  have hk : (us.map List.length)[k]? = (vs.map List.length)[k]? := by rw [h]
  rw [List.getElem?_map, List.getElem?_zipWith, List.getElem?_map]
  rw [List.getElem?_map, List.getElem?_map] at hk
  cases h1 : us[k]? with
  | none => rfl
  | some u =>
    rw [h1] at hk
    cases h2 : vs[k]? with
    | none => rw [h2] at hk; cases hk
    | some v =>
      rw [h2] at hk
      have : u.length = v.length := by simpa using hk
      simp only [Option.map_some]
      rw [xorL_length _ _ this]
/-- Uniform units that a code takes. -/
theorem uni_ok {M : Nat} {us : List (List Nat)} (hM : FldM M) (h : uniB M us = true) (h0 : 0 < us.length) : (∀ u ∈ us, u.length = (us.headD []).length) ∧ FitM M (us.headD []).length := by
  unfold uniB at h
  rw [List.all_eq_true] at h
  have key : ∀ u ∈ us, u.length = (us.headD []).length ∧ (M = 8 ∨ u.length % 2 = 0) := fun u hu => by
    have := h u hu
    unfold uniQ at this
    simp only [Bool.and_eq_true, Bool.or_eq_true, decide_eq_true_eq] at this
    omega
  refine ⟨fun u hu => (key u hu).1, fun hm => ?_⟩
  cases us with
  | nil => simp at h0
  | cons a t =>
    have := (key a (by simp)).2
    show a.length % 2 = 0
    omega
end Go.Proofs.YtjaipchlnnjaeaaDoor
end

section
/- The law ErasureEncodeIsLinear over the machine of abstract values. -/
namespace Go.Proofs.YtjaipchlnnjaeaaDoor
open Go.RowKit
set_option linter.unusedVariables false
set_option linter.unusedSimpArgs false
set_option maxHeartbeats 4000000
set_option maxRecDepth 100000
attribute [local irreducible] Quiet Eff OpOk AWPG ACont ABlock ACalls AGoto

/-- The three encodings, whatever the code. -/
theorem enc3 {M D : Int} {par : List (List Int)} {a b : List (List Nat)} (hca : CodeIn par) (ha : ∀ u ∈ a, isB u) (hb0 : ∀ u ∈ b, isB u) (hla : a.length ≤ 24) (hsa : ∀ u ∈ a, u.length ≤ 64) (hsb : ∀ u ∈ b, u.length ≤ 64) (hlen : a.map List.length = b.map List.length) :
    ∃ (X Y Z : List (List Nat)) (e : Int), ACalls Tryd.prog 16 [cdA M D par, strs a] [] (.tup [strs X, iV e]) [] ∧ ACalls Tryd.prog 16 [cdA M D par, strs b] [] (.tup [strs Y, iV e]) [] ∧ ACalls Tryd.prog 16 [cdA M D par, strs (List.zipWith xorL a b)] [] (.tup [strs Z, iV e]) [] ∧
      X.length = Z.length ∧ Y.length = Z.length ∧ Z.length ≤ 64 ∧ ∀ k (h1 : k < X.length) (h2 : k < Y.length) (h3 : k < Z.length), isB X[k] ∧ isB Y[k] ∧ X[k].length = Y[k].length ∧ X[k].length ≤ 1000000 ∧ xorL X[k] Y[k] = Z[k] := by
  have hl : a.length = b.length := by have := congrArg List.length hlen; simpa using this
  have hz := zip_lens hlen
  have hzl : (List.zipWith xorL a b).length = a.length := by rw [List.length_zipWith]; omega
  have hsz : ∀ u ∈ List.zipWith xorL a b, u.length ≤ 64 := fun u hu => by
    have h1 : u.length ∈ (List.zipWith xorL a b).map List.length := List.mem_map.2 ⟨u, hu, rfl⟩
    rw [hz] at h1
    obtain ⟨v, hv, e⟩ := List.mem_map.1 h1
    have := hsa v hv; omega
  by_cases hg : validC M D par = true ∧ (a.length : Int) = D ∧ uniB M a = true
  · obtain ⟨g1, g2, g3⟩ := hg
    obtain ⟨m, d, ps, rfl, rfl, rfl, hok⟩ := ok_valid g1
    have hd := hok.d
    have ha0 : 0 < a.length := by omega
    obtain ⟨u1, u2⟩ := uni_ok hok.f g3 ha0
    have g3b : uniB m b = true := by rw [← uni_same hlen]; exact g3
    obtain ⟨v1, v2⟩ := uni_ok hok.f g3b (by omega)
    generalize hn : (a.headD []).length = n at *
    have hnb : (b.headD []).length = n := by
      rw [← hn]
      have e : ∀ ws : List (List Nat), (ws.headD []).length = (ws.map List.length).headD 0 := fun ws => by cases ws <;> rfl
      rw [e, e, hlen]
    rw [hnb] at v1
    have hn64 : n ≤ 64 := by
      rw [← hn]
      cases a with
      | nil => simp at ha0
      | cons x t => exact hsa x (by simp)
    have hua : ∀ u ∈ a, isB u ∧ u.length = n := fun u hu => ⟨ha u hu, u1 u hu⟩
    have hub : ∀ u ∈ b, isB u ∧ u.length = n := fun u hu => ⟨hb0 u hu, v1 u hu⟩
    have huz := zipX_len hua hub
    have e1 := A_encode hok (by omega) hua (by omega) u2
    have e2 := A_encode hok (us := b) (by omega) hub (by omega) u2
    have e3 := A_encode hok (us := List.zipWith xorL a b) (by omega) huz (by omega) u2
    rw [cdN_A] at e1 e2 e3
    rw [encN_xor hua hub hl ha0] at e3
    have hw := hok.w
    refine ⟨_, _, _, _, e1, e2, e3, ?_, ?_, ?_, fun k h1 h2 h3 => ?_⟩
    · rw [List.length_zipWith, encN_length, encN_length]; omega
    · rw [List.length_zipWith, encN_length, encN_length]; omega
    · rw [List.length_zipWith, encN_length, encN_length]; omega
    · have o1 := encN_ok hok (by omega) hua u2 _ (List.getElem_mem h1)
      have o2 := encN_ok hok (by omega) hub u2 _ (List.getElem_mem h2)
      refine ⟨o1.1, o2.1, by omega, by omega, ?_⟩
      rw [List.getElem_zipWith]
  · have hgb : ¬ (validC M D par = true ∧ (b.length : Int) = D ∧ uniB M b = true) := fun h => hg ⟨h.1, by have := h.2.1; omega, by rw [uni_same hlen]; exact h.2.2⟩
    have hgz : ¬ (validC M D par = true ∧ ((List.zipWith xorL a b).length : Int) = D ∧ uniB M (List.zipWith xorL a b) = true) := fun h => hg ⟨h.1, by have := h.2.1; omega, by rw [← uni_same hz]; exact h.2.2⟩
    refine ⟨[], [], [], 1, A_encode_bad hca (by omega) (fun u hu => by have := hsa u hu; omega) hg, A_encode_bad hca (by omega) (fun u hu => by have := hsb u hu; omega) hgb, A_encode_bad hca (by omega) (fun u hu => by have := hsz u hu; omega) hgz, rfl, rfl, by simp, fun k h => by simp at h⟩
theorem A_linear {M D : Int} {par : List (List Int)} {a b : List (List Nat)} (hpar : ∀ r ∈ par, ∀ x ∈ r, x < 9223372036854775808) (ha : ∀ u ∈ a, isB u) (hb0 : ∀ u ∈ b, isB u) :
    ACalls Tryd.prog 4 [cdA M D par, strs a, strs b] [] (bV true) [] := by
  refine acalls_of_bodyO Tryd.func4 rfl (Nat.le_of_ble_eq_true rfl) ?_
  have hsan := A_sanity
  have hsm := A_small (M := M) (D := D) (par := par)
  have hfa := A_few (us := a)
  have hfb := A_few (us := b)
  have hma : (a.map sD).length = a.length := List.length_map _
  have hmb : (b.map sD).length = b.length := List.length_map _
  by_cases hgood : smallB D par = true ∧ fewB a = true ∧ fewB b = true ∧ a.length = b.length
  · obtain ⟨g1, g2, g3, g4⟩ := hgood
    rw [g1] at hsm
    rw [g2] at hfa
    rw [g3] at hfb
    unfold fewB at g2 g3
    unfold smallB at g1
    simp only [Bool.and_eq_true, decide_eq_true_eq, List.all_eq_true] at g1 g2 g3
    have hca : CodeIn par := ⟨hpar⟩
    (repeat' (first
  | (apply W.gOn; exact rfl; exact rfl)
  | (apply W.qd; (first
    | (apply (q_callC (hsan)); exact rfl; exact rfl; kernel_rfl; kernel_rfl; kernel_rfl)
    | (apply (q_callC (hsm)); exact rfl; exact rfl; kernel_rfl; kernel_rfl; kernel_rfl)
    | (apply (q_callC (hfa)); exact rfl; exact rfl; kernel_rfl; kernel_rfl; kernel_rfl)
    | (apply (q_callC (hfb)); exact rfl; exact rfl; kernel_rfl; kernel_rfl; kernel_rfl)
    | (apply q_mv; (first
    | exact Eq.refl (AV.d _)
    | exact Eq.refl (AV.osl _ _ _ _)
    | exact Eq.refl (AV.opt _ _)
    | exact Eq.refl (AV.agg _)
    | exact Eq.refl (AV.fpt _ _ _ _)
    | exact Eq.refl (AV.rpt _ _ _ _)
    | exact Eq.refl (AV.fn _ _)
    | exact Eq.refl (AV.tup _)
    | exact Eq.refl AV.top))
    | (apply q_as; (first
    | exact Eq.refl (AV.d _)
    | exact Eq.refl (AV.osl _ _ _ _)
    | exact Eq.refl (AV.opt _ _)
    | exact Eq.refl (AV.agg _)
    | exact Eq.refl (AV.fpt _ _ _ _)
    | exact Eq.refl (AV.rpt _ _ _ _)
    | exact Eq.refl (AV.fn _ _)
    | exact Eq.refl (AV.tup _)
    | exact Eq.refl AV.top))
    | (apply q_ld_boxF; exact rfl; exact rfl; exact rfl; exact rfl)
    | (apply q_neq; exact rfl; exact rfl)
    | (apply q_not; exact rfl)
    | (apply q_len_sl; exact rfl; exact rfl)
    | (apply (q_pickF (u := .d _)); exact rfl; exact rfl)))
  | (apply W.ed; (apply e_boxF; exact rfl; exact rfl; exact rfl; kernel_rfl; kernel_rfl))
  | (apply AWP.seq)
  | (apply ACont_normal)
  | (apply W.region; kernel_rfl)
  | (apply Walk.nil)
  | (apply AWP.block)
  | (apply AWP.skip)
  | (refine W.cond _ rfl (fun hb => ?_) (fun hb => ?_) <;> ((try simp only [hb, Bool.not_true, Bool.not_false]) <;> (try simp only [decide_eq_true_eq, decide_eq_false_iff_not, Bool.not_eq_true', Bool.not_eq_false', Int.not_lt, Int.not_le, List.length_map, not_true_eq_false] at hb) <;> (try (exfalso; omega))))))
    refine AWP.nilRow 8 1 9 rfl (by omega) ?_
    have hzl : (List.zipWith xorL a b).length = a.length := by rw [List.length_zipWith]; omega
    have hgt : ∀ k (h : k < a.length), (List.zipWith xorL a b).take (k + 1) = (List.zipWith xorL a b).take k ++ [xorL a[k] (b[k]'(by omega))] := fun k h => by
      rw [List.take_succ_eq_append_getElem (by omega), List.getElem_zipWith]
    refine AWP.loopW (α := Nat) (fun k => k ≤ a.length ∧ (a.take k).map List.length = (b.take k).map List.length) (fun k => ⟨[(9, iV k), (7, bV true), (1, strs a), (2, strs b), (3, .opt 0 0), (8, .osl 1 k 0 ((List.zipWith xorL a b).take k).length)], [.box [.d .any, iV M, iV D, rowsA par, .d .any], .row k 1 9 (((List.zipWith xorL a b).take k).map sD)]⟩) (fun k => a.length - k) 0 ⟨by omega, by simp⟩ ⟨[0, 1], rfl, rfl, rfl, by (repeat (first | exact trivial | refine ⟨rfl, ?_⟩))⟩ fun k hk => ?_
    have hlt : ((List.zipWith xorL a b).take k).length ≤ 1024 := by rw [List.length_take]; omega
    by_cases hka : k < a.length
    · have hx := A_rxor (a := a[k]) (b := b[k]'(by omega)) (ha _ (List.getElem_mem _)) (hb0 _ (List.getElem_mem _)) (by have := g2.2 _ (List.getElem_mem hka); omega) (by have := g3.2 (b[k]'(by omega)) (List.getElem_mem _); omega)
      by_cases hab : a[k].length = (b[k]'(by omega)).length
      · rw [if_pos hab] at hx
        have ht := Lib.hid (hgt k hka)
        generalize (List.zipWith xorL a b).take k = A at *
        generalize xorL a[k] (b[k]'(by omega)) = R at *
        (repeat' (first
  | (apply W.qd; (first
    | (apply (q_callC (hx)); exact rfl; exact rfl; kernel_rfl; kernel_rfl; kernel_rfl)
    | (apply q_mv; (first
    | exact Eq.refl (AV.d _)
    | exact Eq.refl (AV.osl _ _ _ _)
    | exact Eq.refl (AV.opt _ _)
    | exact Eq.refl (AV.agg _)
    | exact Eq.refl (AV.fpt _ _ _ _)
    | exact Eq.refl (AV.rpt _ _ _ _)
    | exact Eq.refl (AV.fn _ _)
    | exact Eq.refl (AV.tup _)
    | exact Eq.refl AV.top))
    | (apply q_as; (first
    | exact Eq.refl (AV.d _)
    | exact Eq.refl (AV.osl _ _ _ _)
    | exact Eq.refl (AV.opt _ _)
    | exact Eq.refl (AV.agg _)
    | exact Eq.refl (AV.fpt _ _ _ _)
    | exact Eq.refl (AV.rpt _ _ _ _)
    | exact Eq.refl (AV.fn _ _)
    | exact Eq.refl (AV.tup _)
    | exact Eq.refl AV.top))
    | (apply q_lss; exact rfl; exact rfl)
    | (apply q_neq; exact rfl; exact rfl)
    | (apply q_add; exact rfl; exact rfl; omega)
    | (apply q_extract; exact rfl; exact rfl)
    | (apply q_len_sl; exact rfl; exact rfl)
    | (apply q_ld_map; exact rfl; exact rfl; exact rfl; (first | omega | (focus (simp; done))))
    | (apply q_litF; exact rfl; exact rfl; exact rfl; exact rfl; exact rfl; kernel_rfl; kernel_rfl; exact rfl)
    | (apply q_ix_slF; exact rfl; exact rfl; exact rfl; exact rfl; (first | (with_reducible exact rfl) | exact natI_spec rfl | assumption | exact (Int.toNat_of_nonneg (by omega)).symm); (first | omega | (focus (simp only [List.length_map]; omega)) | (focus (simp; done)) | (focus (simp; omega))))))
  | (apply W.ld; (apply l_app1; exact rfl; exact rfl; exact rfl; exact rfl; exact rfl; exact rfl; exact rfl; exact rfl; (first | omega | (focus (simp; omega)) | (focus (simp; done)))))
  | (apply AWP.seq)
  | (apply ACont_normal)
  | (apply W.region; kernel_rfl)
  | (apply W.regionD; exact rfl; kernel_rfl)
  | (apply Walk.nil)
  | (apply W.chk; kernel_rfl)
  | (apply AWP.block)
  | (apply AWP.skip)
  | (apply ABlock_normal)
  | (apply W.condF; exact rfl)
  | (refine W.cond _ rfl (fun hb => ?_) (fun hb => ?_) <;> ((try simp only [hb, Bool.not_true, Bool.not_false]) <;> (try simp only [decide_eq_true_eq, decide_eq_false_iff_not, Bool.not_eq_true', Bool.not_eq_false', Int.not_lt, Int.not_le, List.length_map, not_true_eq_false] at hb) <;> (try (exfalso; omega))))))
        refine ⟨k + 1, ⟨by omega, ?_⟩, by omega, ?_⟩
        · rw [List.take_succ_eq_append_getElem hka, List.take_succ_eq_append_getElem (show k < b.length by omega), List.map_append, List.map_append, hk.2, List.map_singleton, List.map_singleton, hab]
        · rw [ht.out]
          exact ⟨[0, 1], rfl, rfl, rfl, iV_eq (by omega), rfl, rfl, rfl, rfl, rfl, trivial⟩
      · rw [if_neg hab] at hx
        (repeat' (first
  | (apply W.qd; (first
    | (apply (q_callC (hx)); exact rfl; exact rfl; kernel_rfl; kernel_rfl; kernel_rfl)
    | (apply q_mv; (first
    | exact Eq.refl (AV.d _)
    | exact Eq.refl (AV.osl _ _ _ _)
    | exact Eq.refl (AV.opt _ _)
    | exact Eq.refl (AV.agg _)
    | exact Eq.refl (AV.fpt _ _ _ _)
    | exact Eq.refl (AV.rpt _ _ _ _)
    | exact Eq.refl (AV.fn _ _)
    | exact Eq.refl (AV.tup _)
    | exact Eq.refl AV.top))
    | (apply q_as; (first
    | exact Eq.refl (AV.d _)
    | exact Eq.refl (AV.osl _ _ _ _)
    | exact Eq.refl (AV.opt _ _)
    | exact Eq.refl (AV.agg _)
    | exact Eq.refl (AV.fpt _ _ _ _)
    | exact Eq.refl (AV.rpt _ _ _ _)
    | exact Eq.refl (AV.fn _ _)
    | exact Eq.refl (AV.tup _)
    | exact Eq.refl AV.top))
    | (apply q_lss; exact rfl; exact rfl)
    | (apply q_neq; exact rfl; exact rfl)
    | (apply q_extract; exact rfl; exact rfl)
    | (apply q_len_sl; exact rfl; exact rfl)
    | (apply q_ld_map; exact rfl; exact rfl; exact rfl; (first | omega | (focus (simp; done))))
    | (apply q_ix_slF; exact rfl; exact rfl; exact rfl; exact rfl; (first | (with_reducible exact rfl) | exact natI_spec rfl | assumption | exact (Int.toNat_of_nonneg (by omega)).symm); (first | omega | (focus (simp only [List.length_map]; omega)) | (focus (simp; done)) | (focus (simp; omega))))))
  | (apply AWP.seq)
  | (apply ACont_normal)
  | (apply W.region; kernel_rfl)
  | (apply W.regionD; exact rfl; kernel_rfl)
  | (apply Walk.nil)
  | (apply W.chk; kernel_rfl)
  | (apply AWP.block)
  | (apply AWP.skip)
  | (apply AWP.ret)
  | (apply ACont_ret)
  | (apply ABlock_ret)
  | (apply W.condT; exact rfl)
  | (refine W.cond _ rfl (fun hb => ?_) (fun hb => ?_) <;> ((try simp only [hb, Bool.not_true, Bool.not_false]) <;> (try simp only [decide_eq_true_eq, decide_eq_false_iff_not, Bool.not_eq_true', Bool.not_eq_false', Int.not_lt, Int.not_le, List.length_map, not_true_eq_false] at hb) <;> (try (exfalso; omega))))))
        exact ⟨.inl rfl, [], [bV true], rfl, rfl, ⟨rfl, trivial⟩, AVle.of_eq rfl, rfl⟩
    · have hlen : a.map List.length = b.map List.length := by
        have := hk.2
        rwa [List.take_of_length_le (by omega), List.take_of_length_le (by omega)] at this
      have hfull : (List.zipWith xorL a b).take k = List.zipWith xorL a b := List.take_of_length_le (by omega)
      rw [hfull]
      obtain ⟨X, Y, Z, e, e1, e2, e3, l1, l2, l3, hk3⟩ := enc3 (M := M) (D := D) hca ha hb0 g2.1 g2.2 g3.2 hlen
      clear hgt hfull
      generalize List.zipWith xorL a b = S at *
      refine AWP.wk ⟨[(9, iV k), (7, bV true), (1, strs a), (2, strs b), (3, .opt 0 0), (8, strs S)], [.box [.d .any, iV M, iV D, rowsA par, .d .any]]⟩ ⟨[0], rfl, rfl, rfl, rfl, rfl, rfl, rfl, rfl, (frz_rowJ rfl rfl (by simp)).symm, trivial⟩ ?_
      have mX : (X.map sD).length = X.length := List.length_map _
      have mY : (Y.map sD).length = Y.length := List.length_map _
      have mZ : (Z.map sD).length = Z.length := List.length_map _
      (repeat' (first
  | (apply W.gOn; exact rfl; exact rfl)
  | (apply W.qd; (first
    | (apply (q_callC (e1)); exact rfl; exact rfl; kernel_rfl; kernel_rfl; kernel_rfl)
    | (apply (q_callC (e2)); exact rfl; exact rfl; kernel_rfl; kernel_rfl; kernel_rfl)
    | (apply (q_callC (e3)); exact rfl; exact rfl; kernel_rfl; kernel_rfl; kernel_rfl)
    | (apply q_mv; (first
    | exact Eq.refl (AV.d _)
    | exact Eq.refl (AV.osl _ _ _ _)
    | exact Eq.refl (AV.opt _ _)
    | exact Eq.refl (AV.agg _)
    | exact Eq.refl (AV.fpt _ _ _ _)
    | exact Eq.refl (AV.rpt _ _ _ _)
    | exact Eq.refl (AV.fn _ _)
    | exact Eq.refl (AV.tup _)
    | exact Eq.refl AV.top))
    | (apply q_as; (first
    | exact Eq.refl (AV.d _)
    | exact Eq.refl (AV.osl _ _ _ _)
    | exact Eq.refl (AV.opt _ _)
    | exact Eq.refl (AV.agg _)
    | exact Eq.refl (AV.fpt _ _ _ _)
    | exact Eq.refl (AV.rpt _ _ _ _)
    | exact Eq.refl (AV.fn _ _)
    | exact Eq.refl (AV.tup _)
    | exact Eq.refl AV.top))
    | (apply q_ld_boxF; exact rfl; exact rfl; exact rfl; exact rfl)
    | (apply q_lss; exact rfl; exact rfl)
    | (apply q_neq; exact rfl; exact rfl)
    | (apply q_extract; exact rfl; exact rfl)
    | (apply q_len_sl; exact rfl; exact rfl)
    | (apply (q_pickF (u := .d _)); exact rfl; exact rfl)))
  | (apply AWP.seq)
  | (apply ACont_normal)
  | (apply W.region; kernel_rfl)
  | (apply Walk.nil)
  | (apply AWP.block)
  | (apply AWP.skip)
  | (apply AWP.exit)
  | (apply ACont_exit)
  | (apply ABlock_exit)
  | (refine W.gF _ _ rfl rfl (fun hb => ?_) (fun hb => ?_) <;> ((try simp only [hb, Bool.not_true, Bool.not_false]) <;> (try simp only [decide_eq_true_eq, decide_eq_false_iff_not, Bool.not_eq_true', Bool.not_eq_false', Int.not_lt, Int.not_le, List.length_map, not_true_eq_false] at hb) <;> (try (exfalso; omega))))
  | (refine W.cond _ rfl (fun hb => ?_) (fun hb => ?_) <;> ((try simp only [hb, Bool.not_true, Bool.not_false]) <;> (try simp only [decide_eq_true_eq, decide_eq_false_iff_not, Bool.not_eq_true', Bool.not_eq_false', Int.not_lt, Int.not_le, List.length_map, not_true_eq_false] at hb) <;> (try (exfalso; omega))))))
      refine AWP.loopW (α := Nat) (fun k => k ≤ Z.length) (fun k => ⟨[(18, iV k), (7, bV true), (12, strs X), (14, strs Y), (16, strs Z)], []⟩) (fun k => Z.length - k) 0 (by omega) ⟨[], rfl, rfl, rfl, by (repeat (first | exact trivial | refine ⟨rfl, ?_⟩))⟩ fun k hk => ?_
      by_cases hkl : k < Z.length
      · obtain ⟨q1, q2, q3, q4, q5⟩ := hk3 k (by omega) (by omega) hkl
        have hx := A_rxor q1 q2 q4 (by omega)
        rw [if_pos q3] at hx
        have q6 := isB_xor q1 q2
        rw [q5] at hx q6
        (repeat' (first
  | (apply W.qd; (first
    | (apply (q_callC (hx)); exact rfl; exact rfl; kernel_rfl; kernel_rfl; kernel_rfl)
    | (apply q_mv; (first
    | exact Eq.refl (AV.d _)
    | exact Eq.refl (AV.osl _ _ _ _)
    | exact Eq.refl (AV.opt _ _)
    | exact Eq.refl (AV.agg _)
    | exact Eq.refl (AV.fpt _ _ _ _)
    | exact Eq.refl (AV.rpt _ _ _ _)
    | exact Eq.refl (AV.fn _ _)
    | exact Eq.refl (AV.tup _)
    | exact Eq.refl AV.top))
    | (apply q_as; (first
    | exact Eq.refl (AV.d _)
    | exact Eq.refl (AV.osl _ _ _ _)
    | exact Eq.refl (AV.opt _ _)
    | exact Eq.refl (AV.agg _)
    | exact Eq.refl (AV.fpt _ _ _ _)
    | exact Eq.refl (AV.rpt _ _ _ _)
    | exact Eq.refl (AV.fn _ _)
    | exact Eq.refl (AV.tup _)
    | exact Eq.refl AV.top))
    | (apply q_lss; exact rfl; exact rfl)
    | (apply q_add; exact rfl; exact rfl; omega)
    | (apply q_extract; exact rfl; exact rfl)
    | (apply q_len_sl; exact rfl; exact rfl)
    | (apply q_ld_map; exact rfl; exact rfl; exact rfl; (first | omega | (focus (simp; done))))
    | (apply q_ix_slF; exact rfl; exact rfl; exact rfl; exact rfl; (first | (with_reducible exact rfl) | exact natI_spec rfl | assumption | exact (Int.toNat_of_nonneg (by omega)).symm); (first | omega | (focus (simp only [List.length_map]; omega)) | (focus (simp; done)) | (focus (simp; omega))))
    | (apply q_neqS; exact rfl; exact rfl; (first | assumption | exact isB_nil | exact isB_xor (by assumption) (by assumption)); (first | assumption | exact isB_nil | exact isB_xor (by assumption) (by assumption)))))
  | (apply AWP.seq)
  | (apply ACont_normal)
  | (apply W.region; kernel_rfl)
  | (apply W.regionD; exact rfl; kernel_rfl)
  | (apply Walk.nil)
  | (apply W.chk; kernel_rfl)
  | (apply AWP.block)
  | (apply AWP.skip)
  | (apply ABlock_normal)
  | (refine W.cond _ rfl (fun hb => ?_) (fun hb => ?_) <;> ((try simp only [hb, Bool.not_true, Bool.not_false]) <;> (try simp only [decide_eq_true_eq, decide_eq_false_iff_not, Bool.not_eq_true', Bool.not_eq_false', Int.not_lt, Int.not_le, List.length_map, not_true_eq_false] at hb) <;> (try (exfalso; omega))))))
        exact ⟨k + 1, by omega, by omega, [], rfl, rfl, rfl, iV_eq (by omega), rfl, rfl, rfl, rfl, trivial⟩
      · (repeat' (first
  | (apply W.qd; (first
    | (apply q_mv; (first
    | exact Eq.refl (AV.d _)
    | exact Eq.refl (AV.osl _ _ _ _)
    | exact Eq.refl (AV.opt _ _)
    | exact Eq.refl (AV.agg _)
    | exact Eq.refl (AV.fpt _ _ _ _)
    | exact Eq.refl (AV.rpt _ _ _ _)
    | exact Eq.refl (AV.fn _ _)
    | exact Eq.refl (AV.tup _)
    | exact Eq.refl AV.top))
    | (apply q_as; (first
    | exact Eq.refl (AV.d _)
    | exact Eq.refl (AV.osl _ _ _ _)
    | exact Eq.refl (AV.opt _ _)
    | exact Eq.refl (AV.agg _)
    | exact Eq.refl (AV.fpt _ _ _ _)
    | exact Eq.refl (AV.rpt _ _ _ _)
    | exact Eq.refl (AV.fn _ _)
    | exact Eq.refl (AV.tup _)
    | exact Eq.refl AV.top))
    | (apply q_lss; exact rfl; exact rfl)
    | (apply q_len_sl; exact rfl; exact rfl)))
  | (apply AWP.seq)
  | (apply ACont_normal)
  | (apply W.region; kernel_rfl)
  | (apply Walk.nil)
  | (apply AWP.exit)
  | (apply AWP.ret)
  | (apply ACont_exit)
  | (apply ABlock_exit)
  | (refine W.cond _ rfl (fun hb => ?_) (fun hb => ?_) <;> ((try simp only [hb, Bool.not_true, Bool.not_false]) <;> (try simp only [decide_eq_true_eq, decide_eq_false_iff_not, Bool.not_eq_true', Bool.not_eq_false', Int.not_lt, Int.not_le, List.length_map, not_true_eq_false] at hb) <;> (try (exfalso; omega))))))
        exact ⟨.inl rfl, [], [bV true], rfl, rfl, ⟨rfl, trivial⟩, AVle.of_eq rfl, rfl⟩
  · cases h1 : smallB D par <;> cases h2 : fewB a <;> cases h3 : fewB b <;> rw [h1] at hsm <;> rw [h2] at hfa <;> rw [h3] at hfb
    case true.true.true =>
      have hne : a.length ≠ b.length := fun e => hgood ⟨h1, h2, h3, e⟩
      (repeat' (first
  | (apply W.gOn; exact rfl; exact rfl)
  | (apply W.qd; (first
    | (apply (q_callC (hsan)); exact rfl; exact rfl; kernel_rfl; kernel_rfl; kernel_rfl)
    | (apply (q_callC (hsm)); exact rfl; exact rfl; kernel_rfl; kernel_rfl; kernel_rfl)
    | (apply (q_callC (hfa)); exact rfl; exact rfl; kernel_rfl; kernel_rfl; kernel_rfl)
    | (apply (q_callC (hfb)); exact rfl; exact rfl; kernel_rfl; kernel_rfl; kernel_rfl)
    | (apply q_mv; (first
    | exact Eq.refl (AV.d _)
    | exact Eq.refl (AV.osl _ _ _ _)
    | exact Eq.refl (AV.opt _ _)
    | exact Eq.refl (AV.agg _)
    | exact Eq.refl (AV.fpt _ _ _ _)
    | exact Eq.refl (AV.rpt _ _ _ _)
    | exact Eq.refl (AV.fn _ _)
    | exact Eq.refl (AV.tup _)
    | exact Eq.refl AV.top))
    | (apply q_as; (first
    | exact Eq.refl (AV.d _)
    | exact Eq.refl (AV.osl _ _ _ _)
    | exact Eq.refl (AV.opt _ _)
    | exact Eq.refl (AV.agg _)
    | exact Eq.refl (AV.fpt _ _ _ _)
    | exact Eq.refl (AV.rpt _ _ _ _)
    | exact Eq.refl (AV.fn _ _)
    | exact Eq.refl (AV.tup _)
    | exact Eq.refl AV.top))
    | (apply q_ld_boxF; exact rfl; exact rfl; exact rfl; exact rfl)
    | (apply q_neq; exact rfl; exact rfl)
    | (apply q_not; exact rfl)
    | (apply q_len_sl; exact rfl; exact rfl)
    | (apply (q_pickF (u := .d _)); exact rfl; exact rfl)))
  | (apply W.ed; (apply e_boxF; exact rfl; exact rfl; exact rfl; kernel_rfl; kernel_rfl))
  | (apply AWP.seq)
  | (apply ACont_normal)
  | (apply W.region; kernel_rfl)
  | (apply Walk.nil)
  | (apply AWP.ret)
  | (apply ACont_ret)
  | (refine W.cond _ rfl (fun hb => ?_) (fun hb => ?_) <;> ((try simp only [hb, Bool.not_true, Bool.not_false]) <;> (try simp only [decide_eq_true_eq, decide_eq_false_iff_not, Bool.not_eq_true', Bool.not_eq_false', Int.not_lt, Int.not_le, List.length_map, not_true_eq_false] at hb) <;> (try (exfalso; omega))))))
      all_goals exact ⟨.inl rfl, [], [bV true], rfl, rfl, ⟨rfl, trivial⟩, AVle.of_eq rfl, rfl⟩
    all_goals
      (repeat' (first
  | (apply W.gOn; exact rfl; exact rfl)
  | (apply W.qd; (first
    | (apply (q_callC (hsan)); exact rfl; exact rfl; kernel_rfl; kernel_rfl; kernel_rfl)
    | (apply (q_callC (hsm)); exact rfl; exact rfl; kernel_rfl; kernel_rfl; kernel_rfl)
    | (apply (q_callC (hfa)); exact rfl; exact rfl; kernel_rfl; kernel_rfl; kernel_rfl)
    | (apply (q_callC (hfb)); exact rfl; exact rfl; kernel_rfl; kernel_rfl; kernel_rfl)
    | (apply q_mv; (first
    | exact Eq.refl (AV.d _)
    | exact Eq.refl (AV.osl _ _ _ _)
    | exact Eq.refl (AV.opt _ _)
    | exact Eq.refl (AV.agg _)
    | exact Eq.refl (AV.fpt _ _ _ _)
    | exact Eq.refl (AV.rpt _ _ _ _)
    | exact Eq.refl (AV.fn _ _)
    | exact Eq.refl (AV.tup _)
    | exact Eq.refl AV.top))
    | (apply q_as; (first
    | exact Eq.refl (AV.d _)
    | exact Eq.refl (AV.osl _ _ _ _)
    | exact Eq.refl (AV.opt _ _)
    | exact Eq.refl (AV.agg _)
    | exact Eq.refl (AV.fpt _ _ _ _)
    | exact Eq.refl (AV.rpt _ _ _ _)
    | exact Eq.refl (AV.fn _ _)
    | exact Eq.refl (AV.tup _)
    | exact Eq.refl AV.top))
    | (apply q_ld_boxF; exact rfl; exact rfl; exact rfl; exact rfl)
    | (apply q_not; exact rfl)
    | (apply (q_pickT (u := .d _)); exact rfl; exact rfl)
    | (apply (q_pickF (u := .d _)); exact rfl; exact rfl)))
  | (apply W.ed; (apply e_boxF; exact rfl; exact rfl; exact rfl; kernel_rfl; kernel_rfl))
  | (refine W.gOff _ _ rfl rfl (by intro h; cases h) ?_)
  | (apply AWP.seq)
  | (apply ACont_normal)
  | (apply W.region; kernel_rfl)
  | (apply Walk.nil)
  | (apply AWP.ret)
  | (apply ACont_ret)
  | (apply W.condT; exact rfl)))
    all_goals exact ⟨.inl rfl, [], [bV true], rfl, rfl, ⟨rfl, trivial⟩, AVle.of_eq rfl, rfl⟩
end Go.Proofs.YtjaipchlnnjaeaaDoor
end
