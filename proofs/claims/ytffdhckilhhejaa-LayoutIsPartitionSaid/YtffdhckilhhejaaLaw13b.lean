/- DesignPermutes: the walk of the law. -/
import Derived.Test.YtffdhckilhhejaaSan13
import Derived.Test.YtffdhckilhhejaaPdes2
namespace Go.Proofs.Ytffdhckilhhejaa
open Go.RowKit
set_option linter.unusedVariables false
set_option linter.unusedSimpArgs false

/-- A valid configuration in numbers. -/
theorem OkC.nat {d r n s l i : Int} (h : OkC d r n s l i) : ∃ D R N : Nat, d = D ∧ r = R ∧ n = N ∧ 1 ≤ D ∧ D ≤ 64 ∧ 1 ≤ R ∧ R ≤ 8 ∧ 1 ≤ N ∧ N ≤ 4096 ∧ R ∣ D := by
  obtain ⟨⟨h1, h2⟩, ⟨h3, h4⟩, ⟨h5, h6⟩, _, _, _, h7⟩ := h
  obtain ⟨D, rfl⟩ := Int.eq_ofNat_of_zero_le (by omega : 0 ≤ d)
  obtain ⟨R, rfl⟩ := Int.eq_ofNat_of_zero_le (by omega : 0 ≤ r)
  obtain ⟨N, rfl⟩ := Int.eq_ofNat_of_zero_le (by omega : 0 ≤ n)
  exact ⟨D, R, N, rfl, rfl, rfl, by omega, by omega, by omega, by omega, by omega, by omega, Nat.dvd_of_mod_eq_zero (by omega)⟩

theorem ord_mem (D R X t : Nat) (hD : 1 ≤ D) (hR : 1 ≤ R) (ht : t < D) : ∃ P, P < D ∧ (ord D R X).getD P 0 = t ∧ ∀ j, j < D → (ord D R X).getD j 0 = t → j = P := by
  have hm := muls_mem D R _ hD hR (mulAt_mem D R X hD hR)
  obtain ⟨P, hP, h⟩ := lin_onto (mulAt D R X) X D t hm.2.2.1 ht
  have hg : ∀ j, j < D → (ord D R X).getD j 0 = (mulAt D R X * j + X) % D := fun j hj => by
    rw [getD_lt _ _ _ (by rw [ord_length]; exact hj)]; simp [ord]
  refine ⟨P, hP, by rw [hg P hP, h], fun j hj he => ?_⟩
  rw [hg j hj, ← h] at he
  exact lin_inj _ _ _ _ _ hm.2.2.1 hj hP he
theorem pos_mem (D R X t : Nat) (hD : 1 ≤ D) (hR : 1 ≤ R) (ht : t < D) : ∃ P : Nat, P < D ∧ idxI (I (ord D R X)) t = P ∧ (I (ord D R X)).getD P 0 = t := by
  obtain ⟨P, hP, h, hu⟩ := ord_mem D R X t hD hR ht
  have hl : (I (ord D R X)).length = D := by rw [I_length, ord_length]
  refine ⟨P, hP, idxI_at _ _ P (by omega) ?_ ?_, by rw [I_getD, h]⟩
  · have := I_getD (ord D R X) P
    rw [getD_lt _ _ _ (by omega)] at this
    rw [this, h]
  · intro j hj he
    rw [I_getD] at he
    have := hu j (by omega) (by omega)
    omega

set_option maxHeartbeats 4000000 in
set_option maxRecDepth 100000 in
theorem designPermutes_walk (d r n s l i row : Int) (w : World) :
    Calls Try.prog 4 #[.agg #[.int .i64 d, .int .i64 r, .int .i64 n, .int .i64 s, .int .i64 l, .int .i64 i], .int .i64 row] w fun e w' => e = .returned (.bool true) ∧ Below w.heap.size w w' := by
  by_cases hok : OkC d r n s l i ∧ 0 ≤ row ∧ row < n
  · have ho := fun w => order_any d r n s l i row w
    have hpo := fun t w => position_any d r n s l i row t w
    simp only [posI] at hpo
    have hv := fun w => valid_any d r n s l i w
    simp only [vldI, decide_eq_true hok.1] at hv
    rw [ordI_yes hok] at ho hpo
    obtain ⟨hok1, hr0, hr1⟩ := hok
    obtain ⟨D, R, N, rfl, rfl, rfl, hD1, hD2, hR1, hR2, hN1, hN2, hdv⟩ := hok1.nat
    obtain ⟨X, rfl⟩ := Int.eq_ofNat_of_zero_le hr0
    simp only [Int.toNat_natCast] at ho hpo
    have hLl : (I (ord D R X)).length = D := by rw [I_length, ord_length]
    have hpm := fun t ht => pos_mem D R X t hD1 hR1 ht
    obtain ⟨L, hL⟩ : ∃ L, L = I (ord D R X) := ⟨_, rfl⟩
    simp only [← hL] at ho hpo hpm hLl
    have HO := Lib.hid ho
    have HP := Lib.hid hpo
    have HV := Lib.hid hv
    have HM := Lib.hid hpm
    have HL := Lib.hid hLl
    have HB := Lib.hid ((Below.refl w.heap.size w).alloc (Nat.le_refl _) (.cells #[.int .i64 D, .int .i64 R, .int .i64 N, .int .i64 s, .int .i64 l, .int .i64 i] 23))
    have HX := Lib.hid (Box6.new w 23 D R N s l i)
    clear ho hpo hv hpm hL hok1 hdv hLl
    go_enter Try.func4, Try.ntmps4
    go_wp2_with (first
      | (go_at_call 29; refine (HV.out _).mono ?_; rintro e w' ⟨rfl, hb⟩; replace HX := Lib.hid (HX.out.keep (Below.after (by first | (exact below_drewN (by go_grown) _) | go_grown) hb)); replace HB := Lib.hid (Below.after HB.out (Below.after (by first | (exact below_drewN (by go_grown) _) | go_grown) hb)); (try (clear hg c0 c1 c2 c3 c4 c5)); obtain ⟨hg, c0, c1, c2, c3, c4, c5⟩ := HX.out; clear hb)
      | (go_at_call 23; refine (HO.out _).mono ?_; rintro e w' ⟨v, rfl, hown, hb⟩; replace HX := Lib.hid (HX.out.keep (Below.after (by first | (exact below_drewN (by go_grown) _) | go_grown) hb)); replace HB := Lib.hid (Below.after HB.out (Below.after (by first | (exact below_drewN (by go_grown) _) | go_grown) hb)); (try (clear hg c0 c1 c2 c3 c4 c5)); obtain ⟨hg, c0, c1, c2, c3, c4, c5⟩ := HX.out; clear hb; obtain ⟨b, o, c, rfl, hlc, hcm, hrow⟩ := (Ints.of_own hown).row (by rw [HL.out]; omega); rw [HL.out] at hlc ⊢; have HRo := Lib.hid hrow; clear hown hrow))
    clear hg c0 c1 c2 c3 c4 c5
    go_loopw [32] (fun t wr => ∃ k : Nat, t = .int .i64 k ∧ k ≤ D ∧ Box6 wr w.heap.size D R N s l i ∧ Row wr b o L ∧ Below w.heap.size w wr) (fun t _ => D - (intOf t).toNat)
    case atStart => exact ⟨0, rfl, by omega, HX.out, HRo.out, HB.out⟩
    case round =>
      clear HX HRo HB
      obtain ⟨k, rfl, hk, hx, hrow, hbel⟩ := hrel
      have HX := Lib.hid hx
      have HRo := Lib.hid hrow
      have HB := Lib.hid hbel
      obtain ⟨hg, c0, c1, c2, c3, c4, c5⟩ := hx
      clear hrow hbel
      by_cases hlt : k < D
      · obtain ⟨P, hP, hpos, hval⟩ := HM.out k hlt
        have HPos := Lib.hid hpos
        have HVal := Lib.hid hval
        clear hpos hval
        go_wp2_with (go_at_call 25; refine (HP.out _ _).mono ?_; rintro e w' ⟨rfl, hb⟩; rw [HPos.out]; replace HRo := Lib.hid (HRo.out.keep (Below.after (by first | (exact below_drewN (by go_grown) _) | go_grown) hb)); replace HX := Lib.hid (HX.out.keep (Below.after (by first | (exact below_drewN (by go_grown) _) | go_grown) hb)); replace HB := Lib.hid (Below.after HB.out (Below.after (by first | (exact below_drewN (by go_grown) _) | go_grown) hb)); (try (clear hg c0 c1 c2 c3 c4 c5)); obtain ⟨hg, c0, c1, c2, c3, c4, c5⟩ := HX.out; clear hb; have hcell := HRo.out.2 P (by rw [HL.out]; exact hP); rw [HVal.out] at hcell)
        go_roundw
        case rel => exact ⟨k + 1, by go_num, by omega, HX.out, HRo.out, HB.out⟩
        case measure => simp [intOf]; omega
      · go_wp2_with (go_at_call 15; refine (sanity13 _).mono ?_; rintro e w' ⟨rfl, hb⟩)
        go_ret
        exact ⟨rfl, Below.after HB.out hb⟩
  · have hv := fun w => valid_any d r n s l i w
    have HV := Lib.hid hv
    have HN := Lib.hid hok
    have HB := Lib.hid ((Below.refl w.heap.size w).alloc (Nat.le_refl _) (.cells #[.int .i64 d, .int .i64 r, .int .i64 n, .int .i64 s, .int .i64 l, .int .i64 i] 23))
    have HX := Lib.hid (Box6.new w 23 d r n s l i)
    clear hv hok
    by_cases hok1 : OkC d r n s l i
    · have hvl : vldI d r n s l i = true := decide_eq_true hok1
      have HVL := Lib.hid hvl
      have HK := Lib.hid hok1
      clear hvl hok1
      go_enter Try.func4, Try.ntmps4
      go_wp2_with (first
        | (go_at_call 29; refine (HV.out _).mono ?_; rintro e w' ⟨rfl, hb⟩; rw [HVL.out]; replace HX := Lib.hid (HX.out.keep (Below.after (by first | (exact below_drewN (by go_grown) _) | go_grown) hb)); replace HB := Lib.hid (Below.after HB.out (Below.after (by first | (exact below_drewN (by go_grown) _) | go_grown) hb)); (try (clear hg c0 c1 c2 c3 c4 c5)); obtain ⟨hg, c0, c1, c2, c3, c4, c5⟩ := HX.out; clear hb)
        | (go_at_call 15; refine (sanity13 _).mono ?_; rintro e w' ⟨rfl, hb⟩))
      all_goals first
        | (go_ret; exact ⟨rfl, Below.after HB.out hb⟩)
        | (exfalso; have hx : 0 ≤ row ∧ row < n := (by assumption); exact HN.out ⟨HK.out, hx.1, hx.2⟩)
    · have hvl : vldI d r n s l i = false := decide_eq_false hok1
      have HVL := Lib.hid hvl
      clear hvl hok1
      go_enter Try.func4, Try.ntmps4
      go_wp2_with (first
        | (go_at_call 29; refine (HV.out _).mono ?_; rintro e w' ⟨rfl, hb⟩; rw [HVL.out]; replace HX := Lib.hid (HX.out.keep (Below.after (by first | (exact below_drewN (by go_grown) _) | go_grown) hb)); replace HB := Lib.hid (Below.after HB.out (Below.after (by first | (exact below_drewN (by go_grown) _) | go_grown) hb)); (try (clear hg c0 c1 c2 c3 c4 c5)); obtain ⟨hg, c0, c1, c2, c3, c4, c5⟩ := HX.out; clear hb)
        | (go_at_call 15; refine (sanity13 _).mono ?_; rintro e w' ⟨rfl, hb⟩))
      go_ret
      exact ⟨rfl, Below.after HB.out hb⟩
end Go.Proofs.Ytffdhckilhhejaa
