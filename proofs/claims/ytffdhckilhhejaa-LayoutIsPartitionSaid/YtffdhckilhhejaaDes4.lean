/- Walks of package design (layer 13): Period, rule, Order, Position, Rack. -/
import Derived.Test.YtffdhckilhhejaaDes3
namespace Go.Proofs.Ytffdhckilhhejaa
open Go.RowKit
set_option linter.unusedVariables false
set_option linter.unusedSimpArgs false

set_option maxHeartbeats 400000 in
theorem period_any (d r n s l i : Int) (w : World) :
    Calls Try.prog 21 #[.agg #[.int .i64 d, .int .i64 r, .int .i64 n, .int .i64 s, .int .i64 l, .int .i64 i]] w fun e w' => e = .returned (.int .i64 (d * (mulI d r n s l i).length)) ∧ Below w.heap.size w w' := by
  have hm : (mulI d r n s l i).length ≤ 64 ∧ IntKind.i64.wrap (d * ((mulI d r n s l i).length : Int)) = d * ((mulI d r n s l i).length : Int) := by
    by_cases hok : OkC d r n s l i
    · rw [mulI_yes hok, I_length]
      obtain ⟨⟨h1, h2⟩, ⟨h3, h4⟩, _, _, _, _, h5⟩ := hok
      have := muls_length d.toNat r.toNat (by omega) (by omega) (by omega)
      refine ⟨this, IntWalk.i64_in _ ?_⟩
      have h6 : 0 ≤ d * ((muls d.toNat r.toNat).length : Int) := Int.mul_nonneg (by omega) (by omega)
      have h7 : d * ((muls d.toNat r.toNat).length : Int) ≤ 64 * 64 := Int.mul_le_mul h2 (by omega) (by omega) (by omega)
      omega
    · rw [mulI_no hok]; simp; decide
  obtain ⟨hm1, hm2⟩ := hm
  have HM := Lib.hid hm2
  clear hm2
  obtain ⟨L, hL⟩ : ∃ L, mulI d r n s l i = L := ⟨_, rfl⟩
  rw [hL] at hm1 HM
  have HL := Lib.hid hL
  clear hL
  go_enter Try.func21, Try.ntmps21
  go_wp2
  go_region_held3 (fun w' => w'.cell? ⟨w.heap.size, 0, none⟩ = some (.int .i64 d) ∧ w'.cell? ⟨w.heap.size, 1, none⟩ = some (.int .i64 r) ∧ w'.cell? ⟨w.heap.size, 2, none⟩ = some (.int .i64 n) ∧ w'.cell? ⟨w.heap.size, 3, none⟩ = some (.int .i64 s) ∧ w'.cell? ⟨w.heap.size, 4, none⟩ = some (.int .i64 l) ∧ w'.cell? ⟨w.heap.size, 5, none⟩ = some (.int .i64 i)) (go_keep)
    (first | (go_at_call 19; refine (multsOf_any _ _ _ _ _ _ _).mono ?_; rintro e w1 ⟨v, rfl, hown, hb1⟩; rw [HL.out] at hown; obtain ⟨A, c, rfl⟩ := own_shape hown; obtain ⟨hc, hf⟩ := bcell hb1))
  go_wp2
  go_ret
  exact ⟨ret_i (by rw [HL.out]; exact HM.out), Below.after (by go_grown) hb1⟩

/-- The multiplier of a row. -/
def mulAt (d r row : Nat) : Nat := (muls d r).getD (row / d % (muls d r).length) 0
theorem mulAt_mem (d r row : Nat) (hd : 1 ≤ d) (hr : 1 ≤ r) : mulAt d r row ∈ muls d r := by
  have h1 := muls_pos d r hd hr
  have h2 := Nat.mod_lt (row / d) (by omega : 0 < (muls d r).length)
  unfold mulAt; rw [getD_lt _ _ _ h2]; exact List.getElem_mem h2

theorem ret_t3 {a b a' b' : Int} {c : Bool} (h1 : a = a') (h2 : b = b') : Ending.returned (.tuple #[.int .i64 a, .int .i64 b, .bool c]) = .returned (.tuple #[.int .i64 a', .int .i64 b', .bool c]) := by rw [h1, h2]

set_option maxHeartbeats 800000 in
theorem rule_yes (d r n s l i row : Int) (w : World) (hok : OkC d r n s l i) (hr0 : 0 ≤ row) (hr1 : row < n) :
    Calls Try.prog 52 #[.agg #[.int .i64 d, .int .i64 r, .int .i64 n, .int .i64 s, .int .i64 l, .int .i64 i], .int .i64 row] w
      fun e w' => e = .returned (.tuple #[.int .i64 (mulAt d.toNat r.toNat row.toNat), .int .i64 (row % d), .bool true]) ∧ Below w.heap.size w w' := by
  have hok2 := hok
  obtain ⟨⟨h1, h2⟩, ⟨h3, h4⟩, ⟨_, h5⟩, _⟩ := hok2
  obtain ⟨D, rfl⟩ := Int.eq_ofNat_of_zero_le (by omega : 0 ≤ d)
  obtain ⟨R, rfl⟩ := Int.eq_ofNat_of_zero_le (by omega : 0 ≤ r)
  obtain ⟨X, rfl⟩ := Int.eq_ofNat_of_zero_le hr0
  have hm := mulI_yes hok
  simp only [Int.toNat_natCast] at hm ⊢
  have hm1 := muls_pos D R (by omega) (by omega)
  have hm2 := muls_length D R (by omega) (by omega) (by omega)
  obtain ⟨m, hmm⟩ : ∃ m, m = (muls D R).length := ⟨_, rfl⟩
  have hix := Nat.mod_lt (X / D) (by omega : 0 < m)
  have hD0 : 0 < D := by omega
  have hq : X / D ≤ X := Nat.div_le_self _ _
  rw [← hmm] at hm1 hm2
  have hfin : (I (muls D R)).getD (X / D % m) 0 = (mulAt D R X : Int) := by rw [I_getD, mulAt, ← hmm]
  have hlen : (I (muls D R)).length = m := by rw [I_length, hmm]
  have HFIN := Lib.hid hfin
  have HLEN := Lib.hid hlen
  have HM := Lib.hid hm
  have hm0 : ((m : Int) == 0) = false := by simp; omega
  clear hm hok hfin hlen hmm
  go_enter Try.func52, Try.ntmps52
  go_wp2_with (go_at_call 19; refine (multsOf_any _ _ _ _ _ _ _).mono ?_; rintro e w1 ⟨v, rfl, hown, hb1⟩; rw [HM.out] at hown; have hI := Ints.of_own hown; obtain ⟨A, c, rfl, h6, h7, h8⟩ := hI; rw [HLEN.out] at hown h6 h8 ⊢; obtain ⟨b, o, rfl, h9, h10⟩ := h8 (by omega); have h11 := h10 (X / D % m) hix; rw [HFIN.out] at h11; clear hown h10; obtain ⟨hc, hf⟩ := bcell hb1; have HB := Lib.hid hb1; clear hb1)
  have hcd : w1.cell? ⟨w.heap.size, 0, none⟩ = some (.int .i64 D) := by rw [hc _ _ (by simp)]; simp
  clear h8 hc hf
  have hDz : ((D : Int) == 0) = false := by simp; omega
  have hq1 : 0 ≤ (X : Int) / (D : Int) := Int.ediv_nonneg (by omega) (by omega)
  have hq2 : (X : Int) / (D : Int) ≤ 4096 := Int.le_trans (Int.ediv_le_self _ (by omega)) (by omega)
  have hq3 : 0 ≤ (X : Int) / (D : Int) % (m : Int) := Int.emod_nonneg _ (by omega)
  have hq4 : (X : Int) / (D : Int) % (m : Int) < m := Int.emod_lt_of_pos _ (by omega)
  have hq5 : ((X : Int) / (D : Int) % (m : Int)).toNat = X / D % m := toNat_div_mod X D m
  go_quiet (fail)
  go_wp2
  go_ret3
  exact ⟨ret_t3 rfl (by simp), below_drewN (Below.after (by go_grown) HB.out) _⟩

set_option maxHeartbeats 800000 in
theorem rule_no (d r n s l i row : Int) (w : World) (hno : ¬ (OkC d r n s l i ∧ 0 ≤ row ∧ row < n)) :
    Calls Try.prog 52 #[.agg #[.int .i64 d, .int .i64 r, .int .i64 n, .int .i64 s, .int .i64 l, .int .i64 i], .int .i64 row] w
      fun e w' => e = .returned (.tuple #[.int .i64 0, .int .i64 0, .bool false]) ∧ Below w.heap.size w w' := by
  by_cases hok : OkC d r n s l i
  · have hm : 0 < (mulI d r n s l i).length ∧ (mulI d r n s l i).length ≤ 64 := by
      rw [mulI_yes hok, I_length]
      obtain ⟨⟨h1, h2⟩, ⟨h3, h4⟩, _⟩ := hok
      exact ⟨muls_pos _ _ (by omega) (by omega), muls_length _ _ (by omega) (by omega) (by omega)⟩
    obtain ⟨L, hL⟩ : ∃ L, mulI d r n s l i = L := ⟨_, rfl⟩
    rw [hL] at hm
    obtain ⟨hm1, hm2⟩ := hm
    have HL := Lib.hid hL
    have HN := Lib.hid hno
    have HK := Lib.hid hok
    have hz : ((L.length : Int) == 0) = false := by simp; intro h; subst h; simp at hm1
    clear hL hno hok
    go_enter Try.func52, Try.ntmps52
    go_wp2_with (go_at_call 19; refine (multsOf_any _ _ _ _ _ _ _).mono ?_; rintro e w1 ⟨v, rfl, hown, hb1⟩; rw [HL.out] at hown; obtain ⟨A, c, rfl⟩ := own_shape hown; clear hown; obtain ⟨hc, hf⟩ := bcell hb1; have HB := Lib.hid hb1; clear hb1)
    all_goals first
      | (go_ret3; exact ⟨rfl, Below.after (by go_grown) HB.out⟩)
      | (exfalso; have hx : 0 ≤ row ∧ row < n := (by assumption); exact HN.out ⟨HK.out, hx.1, hx.2⟩)
  · have hm := mulI_no hok
    have HM := Lib.hid hm
    clear hno hok hm
    go_enter Try.func52, Try.ntmps52
    go_wp2_with (go_at_call 19; refine (multsOf_any _ _ _ _ _ _ _).mono ?_; rintro e w1 ⟨v, rfl, hown, hb1⟩; rw [HM.out] at hown; obtain ⟨A, c, rfl⟩ := own_shape hown; clear hown; have HB := Lib.hid hb1; clear hb1)
    go_ret3
    exact ⟨rfl, Below.after (by go_grown) HB.out⟩
end Go.Proofs.Ytffdhckilhhejaa
