/- DesignRepeats: the walk of the law. -/
import Derived.Test.YtffdhckilhhejaaLaw13b
namespace Go.Proofs.Ytffdhckilhhejaa
open Go.RowKit
set_option linter.unusedVariables false
set_option linter.unusedSimpArgs false

theorem mulAt_step (D R X s : Nat) (hD : 1 ≤ D) (h : X % D + s < D) : mulAt D R (X + s) = mulAt D R X := by
  have h1 : (X + s) / D = X / D := by
    have h2 := Nat.div_add_mod X D
    rw [Nat.div_eq_iff (by omega)]
    have h3 : X / D * D = D * (X / D) := Nat.mul_comm _ _
    omega
  unfold mulAt; rw [h1]
theorem ord_step (D R X s p : Nat) (hD : 1 ≤ D) (h : X % D + s < D) (hp : p < D) : (ord D R (X + s)).getD p 0 = ((ord D R X).getD p 0 + s) % D := by
  rw [getD_lt _ _ _ (by rw [ord_length]; exact hp), getD_lt _ _ _ (by rw [ord_length]; exact hp)]
  simp only [ord, List.getElem_map, List.getElem_range, mulAt_step D R X s hD h]
  rw [Nat.mod_add_mod]; congr 1; omega
theorem ord_period (D R X : Nat) (hD : 1 ≤ D) (hR : 1 ≤ R) : ord D R (X + D * (muls D R).length) = ord D R X := by
  have h1 := muls_pos D R hD hR
  have h2 : mulAt D R (X + D * (muls D R).length) = mulAt D R X := by
    unfold mulAt
    rw [Nat.add_mul_div_left _ _ (by omega), Nat.add_mod_right]
  unfold ord
  rw [h2]
  apply List.map_congr_left
  intro p _
  rw [← Nat.add_assoc, Nat.add_mul_mod_self_left]

set_option maxHeartbeats 4000000 in
set_option maxRecDepth 100000 in
theorem designRepeats_walk (d r n s l i row step : Int) (w : World) :
    Calls Try.prog 7 #[.agg #[.int .i64 d, .int .i64 r, .int .i64 n, .int .i64 s, .int .i64 l, .int .i64 i], .int .i64 row, .int .i64 step] w fun e w' => e = .returned (.bool true) ∧ Below w.heap.size w w' := by
  by_cases hok : OkC d r n s l i ∧ 0 ≤ row ∧ row < n
  · have ho := fun row w => order_any d r n s l i row w
    have hpe := fun w => period_any d r n s l i w
    have hv := fun w => valid_any d r n s l i w
    simp only [vldI, decide_eq_true hok.1] at hv
    simp only [mulI_yes hok.1, I_length] at hpe
    have hoy := fun row h0 h1 => ordI_yes (d := d) (r := r) (n := n) (s := s) (l := l) (i := i) (row := row) ⟨hok.1, h0, h1⟩
    obtain ⟨hok1, hr0, hr1⟩ := hok
    obtain ⟨D, R, N, rfl, rfl, rfl, hD1, hD2, hR1, hR2, hN1, hN2, hdv⟩ := hok1.nat
    obtain ⟨X, rfl⟩ := Int.eq_ofNat_of_zero_le hr0
    simp only [Int.toNat_natCast] at hpe hoy
    have hm1 := muls_pos D R hD1 hR1
    have hm2 := muls_length D R hD1 hD2 hR1
    have hp1 := Nat.mul_le_mul hD2 hm2
    have hp2 := Nat.mul_le_mul hD1 hm1
    obtain ⟨P, hP⟩ : ∃ P, P = D * (muls D R).length := ⟨_, rfl⟩
    have hPe : (D : Int) * ((muls D R).length : Int) = P := by rw [hP]; simp
    rw [← hP] at hp1 hp2
    simp only [hPe] at hpe
    have hper := ord_period D R X hD1 hR1
    rw [← hP] at hper
    have hL0 := fun w => ho X w
    rw [hoy X (by omega) hr1, Int.toNat_natCast] at hL0
    have hL1 := fun (h : X + P < N) w => ho (X + P : Nat) w
    have hLl : (I (ord D R X)).length = D := by rw [I_length, ord_length]
    have hL1' : X + P < N → ∀ w, Calls Try.prog 23 #[.agg #[.int .i64 D, .int .i64 R, .int .i64 N, .int .i64 s, .int .i64 l, .int .i64 i], .int .i64 ((X : Int) + (P : Int))] w (RetOwn w (I (ord D R X))) := by
      intro h w
      have := ho ((X : Int) + (P : Int)) w
      rw [hoy _ (by omega) (by omega)] at this
      have e : ((X : Int) + (P : Int)).toNat = X + P := by omega
      rwa [e, hper] at this
    have HO0 := Lib.hid hL0
    have HO1 := Lib.hid hL1'
    have HPE := Lib.hid hpe
    have HV := Lib.hid hv
    have HLl := Lib.hid hLl
    have HB := Lib.hid ((Below.refl w.heap.size w).alloc (Nat.le_refl _) (.cells #[.int .i64 D, .int .i64 R, .int .i64 N, .int .i64 s, .int .i64 l, .int .i64 i] 23))
    have HX := Lib.hid (Box6.new w 23 D R N s l i)
    have HHO := Lib.hid ho
    have HHOY := Lib.hid hoy
    have HK := Lib.hid hok1
    clear ho hoy hpe hv hL0 hL1 hL1' hok1 hdv hLl hper hPe hP hm1 hm2
    have hcont : ∀ w', Box6 w' w.heap.size D R N s l i → True := fun _ _ => trivial
    clear hcont
    have hwr : IntKind.i64.wrap ((X : Int) + (P : Int)) = (X : Int) + (P : Int) := IntWalk.i64_in _ (by omega)
    have HWR := Lib.hid hwr
    clear hwr
    by_cases hxp : X + P < N
    all_goals
      go_enter Try.func7, Try.ntmps7
      go_wp2_with (first
        | (go_at_call 29; refine (HV.out _).mono ?_; rintro e w' ⟨rfl, hb⟩; replace HX := Lib.hid (HX.out.keep (Below.after (by first | (exact below_drewN (by go_grown) _) | go_grown) hb)); replace HB := Lib.hid (Below.after HB.out (Below.after (by first | (exact below_drewN (by go_grown) _) | go_grown) hb)); (try (clear hg c0 c1 c2 c3 c4 c5)); obtain ⟨hg, c0, c1, c2, c3, c4, c5⟩ := HX.out; clear hb)
        | (go_at_call 21; refine (HPE.out _).mono ?_; rintro e w' ⟨rfl, hb⟩; replace HRo := Lib.hid (HRo.out.keep (Below.after (by first | (exact below_drewN (by go_grown) _) | go_grown) hb)); replace HX := Lib.hid (HX.out.keep (Below.after (by first | (exact below_drewN (by go_grown) _) | go_grown) hb)); replace HB := Lib.hid (Below.after HB.out (Below.after (by first | (exact below_drewN (by go_grown) _) | go_grown) hb)); (try (clear hg c0 c1 c2 c3 c4 c5)); obtain ⟨hg, c0, c1, c2, c3, c4, c5⟩ := HX.out; clear hb)
        | (go_at_call 23; ((with_reducible refine (HO0.out _).mono ?_)); rintro e w' ⟨v, rfl, hown, hb⟩; replace HX := Lib.hid (HX.out.keep (Below.after (by first | (exact below_drewN (by go_grown) _) | go_grown) hb)); replace HB := Lib.hid (Below.after HB.out (Below.after (by first | (exact below_drewN (by go_grown) _) | go_grown) hb)); (try (clear hg c0 c1 c2 c3 c4 c5)); obtain ⟨hg, c0, c1, c2, c3, c4, c5⟩ := HX.out; clear hb; obtain ⟨b, o, c, rfl, hlc, hcm, hrow⟩ := (Ints.of_own hown).row (by rw [HLl.out]; omega); rw [HLl.out] at hlc ⊢; have HRo := Lib.hid hrow; clear hown hrow)
        | (go_at_call 23; ((with_reducible refine (HO1.out hxp _).mono ?_)); rintro e w' ⟨v, rfl, hown, hb⟩; replace HRo := Lib.hid (HRo.out.keep (Below.after (by first | (exact below_drewN (by go_grown) _) | go_grown) hb)); replace HX := Lib.hid (HX.out.keep (Below.after (by first | (exact below_drewN (by go_grown) _) | go_grown) hb)); replace HB := Lib.hid (Below.after HB.out (Below.after (by first | (exact below_drewN (by go_grown) _) | go_grown) hb)); (try (clear hg c0 c1 c2 c3 c4 c5)); obtain ⟨hg, c0, c1, c2, c3, c4, c5⟩ := HX.out; clear hb; have HJ := Lib.hid (Ints.of_own hown); clear hown)
        | (go_at_call 18; refine (same_yes _ _ (I (ord D R X)) _ (by have := HRo.out.ints (c := c) (by rw [HLl.out]; exact hlc) hcm; rw [HLl.out] at this; exact this) HJ.out).mono ?_; rintro e w' ⟨rfl, n', rfl⟩))
      have hq1 : 0 ≤ (X : Int) % (D : Int) := Int.emod_nonneg _ (by omega)
      have hq2 : (X : Int) % (D : Int) < D := Int.emod_lt_of_pos _ (by omega)
      have hq3 : ((D : Int) == 0) = false := by simp; omega
      by_cases hgood : ((0 ≤ step ∧ step < D) ∧ (X : Int) % D + step < D) ∧ (X : Int) + step < N
      · obtain ⟨⟨⟨hs0, hs1⟩, hs2⟩, hs3⟩ := hgood
        obtain ⟨S, rfl⟩ := Int.eq_ofNat_of_zero_le hs0
        have g1 : decide ((S : Int) < 0) = false := by simp
        have g2 : decide ((D : Int) ≤ (S : Int)) = false := by simp; omega
        have g3 : decide ((D : Int) ≤ (X : Int) % D + S) = false := by simp; omega
        have g4 : decide ((N : Int) ≤ (X : Int) + S) = false := by simp; omega
        have g5 : decide (D ≤ S) = false := by simp; omega
        have g6 : decide (N ≤ X + S) = false := by simp; omega
        have g7 : decide (D ≤ X % D + S) = false := by simp; omega
        go_quiet (fail)
        have hst : X % D + S < D := by omega
        have hoS : ∀ w, Calls Try.prog 23 #[.agg #[.int .i64 D, .int .i64 R, .int .i64 N, .int .i64 s, .int .i64 l, .int .i64 i], .int .i64 ((X : Int) + (S : Int))] w (RetOwn w (I (ord D R (X + S)))) := by
          intro w
          have := HHO.out ((X : Int) + (S : Int)) w
          rw [HHOY.out _ (by omega) (by omega)] at this
          have e : ((X : Int) + (S : Int)).toNat = X + S := by omega
          rwa [e] at this
        have hstp := fun p hp => ord_step D R X S p hD1 hst hp
        have hLS : (I (ord D R (X + S))).length = D := by rw [I_length, ord_length]
        have HOS := Lib.hid hoS
        have HST := Lib.hid hstp
        have HLS := Lib.hid hLS
        clear hoS hstp hLS
        go_wp2_with (go_at_call 23; ((with_reducible refine (HOS.out _).mono ?_)); rintro e w' ⟨v, rfl, hown, hb⟩; replace HRo := Lib.hid (HRo.out.keep (Below.after (by first | (exact below_drewN (by go_grown) _) | go_grown) hb)); replace HX := Lib.hid (HX.out.keep (Below.after (by first | (exact below_drewN (by go_grown) _) | go_grown) hb)); replace HB := Lib.hid (Below.after HB.out (Below.after (by first | (exact below_drewN (by go_grown) _) | go_grown) hb)); (try (clear hg c0 c1 c2 c3 c4 c5)); obtain ⟨hg, c0, c1, c2, c3, c4, c5⟩ := HX.out; clear hb; obtain ⟨b', o', c', rfl, hlc', hcm', hrow'⟩ := (Ints.of_own hown).row (by rw [HLS.out]; omega); rw [HLS.out] at hlc' ⊢; have HR2 := Lib.hid hrow'; clear hown hrow')
        clear hg c0 c1 c2 c3 c4 c5
        go_loopw [97] (fun t wr => ∃ k : Nat, t = .int .i64 k ∧ k ≤ D ∧ Box6 wr w.heap.size D R N s l i ∧ Row wr b o (I (ord D R X)) ∧ Row wr b' o' (I (ord D R (X + S))) ∧ Below w.heap.size w wr) (fun t _ => D - (intOf t).toNat)
        case atStart => exact ⟨0, rfl, by omega, HX.out, HRo.out, HR2.out, HB.out⟩
        case round =>
          clear HX HRo HR2 HB
          obtain ⟨k, rfl, hk, hx, hr1', hr2', hbel⟩ := hrel
          have HX := Lib.hid hx
          have HRo := Lib.hid hr1'
          have HR2 := Lib.hid hr2'
          have HB := Lib.hid hbel
          obtain ⟨hg, c0, c1, c2, c3, c4, c5⟩ := hx
          by_cases hlt : k < D
          · have e1 := hr1'.2 k (by rw [HLl.out]; exact hlt)
            have e2 := hr2'.2 k (by rw [HLS.out]; exact hlt)
            rw [I_getD] at e1 e2
            rw [HST.out k hlt] at e2
            clear hr1' hr2' hbel
            obtain ⟨x, hx⟩ : ∃ x, x = (ord D R X).getD k 0 := ⟨_, rfl⟩
            rw [← hx] at e1 e2
            have hx64 : x < D := by
              rw [hx, getD_lt _ _ _ (by rw [ord_length]; exact hlt)]; simp only [ord, List.getElem_map]; exact Nat.mod_lt _ (by omega)
            have e3 : (((x + S) % D : Nat) : Int) = ((x : Int) + (S : Int)) % (D : Int) := by simp
            rw [e3] at e2
            clear hx e3
            go_wp2
            go_quiet (fail)
            go_wp2
            go_roundw
            case rel => exact ⟨k + 1, by go_num, by omega, HX.out, HRo.out, HR2.out, below_drewN HB.out _⟩
            case measure => simp [intOf]; omega
          · clear hr1' hr2' hbel
            go_wp2_with (go_at_call 15; refine (sanity13 _).mono ?_; rintro e w' ⟨rfl, hb⟩)
            go_ret
            exact ⟨rfl, Below.after HB.out hb⟩
      · have hbad : step < 0 ∨ (0 ≤ step ∧ (D : Int) ≤ step) ∨ (0 ≤ step ∧ step < D ∧ (D : Int) ≤ (X : Int) % D + step) ∨ (0 ≤ step ∧ step < D ∧ (X : Int) % D + step < D ∧ (N : Int) ≤ (X : Int) + step) := by omega
        clear hgood
        rcases hbad with hs | ⟨hs0, hs⟩ | ⟨hs0, hs1, hs⟩ | ⟨hs0, hs1, hs2, hs⟩
        · have g1 : decide (step < 0) = true := by simp; omega
          go_quiet (fail)
          go_wp2_with (go_at_call 15; refine (sanity13 _).mono ?_; rintro e w' ⟨rfl, hb⟩)
          go_ret
          exact ⟨rfl, Below.after (below_drewN HB.out _) hb⟩
        · have g1 : decide (step < 0) = false := by simp; omega
          have g2 : decide ((D : Int) ≤ step) = true := by simp; omega
          go_quiet (fail)
          go_wp2_with (go_at_call 15; refine (sanity13 _).mono ?_; rintro e w' ⟨rfl, hb⟩)
          go_ret
          exact ⟨rfl, Below.after (below_drewN HB.out _) hb⟩
        · have g1 : decide (step < 0) = false := by simp; omega
          have g2 : decide ((D : Int) ≤ step) = false := by simp; omega
          have g3 : decide ((D : Int) ≤ (X : Int) % D + step) = true := by simp; omega
          go_quiet (fail)
          go_wp2_with (go_at_call 15; refine (sanity13 _).mono ?_; rintro e w' ⟨rfl, hb⟩)
          go_ret
          exact ⟨rfl, Below.after (below_drewN HB.out _) hb⟩
        · have g1 : decide (step < 0) = false := by simp; omega
          have g2 : decide ((D : Int) ≤ step) = false := by simp; omega
          have g3 : decide ((D : Int) ≤ (X : Int) % D + step) = false := by simp; omega
          have g4 : decide ((N : Int) ≤ (X : Int) + step) = true := by simp; omega
          go_quiet (fail)
          go_wp2_with (go_at_call 15; refine (sanity13 _).mono ?_; rintro e w' ⟨rfl, hb⟩)
          go_ret
          exact ⟨rfl, Below.after (below_drewN HB.out _) hb⟩
  · have hv := fun w => valid_any d r n s l i w
    have HV := Lib.hid hv
    have HN := Lib.hid hok
    have HB := Lib.hid ((Below.refl w.heap.size w).alloc (Nat.le_refl _) (.cells #[.int .i64 d, .int .i64 r, .int .i64 n, .int .i64 s, .int .i64 l, .int .i64 i] 23))
    have HX := Lib.hid (Box6.new w 23 d r n s l i)
    clear hv hok
    by_cases hok1 : OkC d r n s l i
    · have hvl : vldI d r n s l i = true := decide_eq_true hok1
      have HVL := Lib.hid hvl
      have HK := Lib.hid hok1
      clear hvl hok1
      go_enter Try.func7, Try.ntmps7
      go_wp2_with (first
        | (go_at_call 29; refine (HV.out _).mono ?_; rintro e w' ⟨rfl, hb⟩; rw [HVL.out]; replace HX := Lib.hid (HX.out.keep (Below.after (by first | (exact below_drewN (by go_grown) _) | go_grown) hb)); replace HB := Lib.hid (Below.after HB.out (Below.after (by first | (exact below_drewN (by go_grown) _) | go_grown) hb)); (try (clear hg c0 c1 c2 c3 c4 c5)); obtain ⟨hg, c0, c1, c2, c3, c4, c5⟩ := HX.out; clear hb)
        | (go_at_call 15; refine (sanity13 _).mono ?_; rintro e w' ⟨rfl, hb⟩))
      all_goals first
        | (go_ret; exact ⟨rfl, Below.after HB.out hb⟩)
        | (exfalso; have hx : 0 ≤ row ∧ row < n := (by assumption); exact HN.out ⟨HK.out, hx.1, hx.2⟩)
    · have hvl : vldI d r n s l i = false := decide_eq_false hok1
      have HVL := Lib.hid hvl
      clear hvl hok1
      go_enter Try.func7, Try.ntmps7
      go_wp2_with (first
        | (go_at_call 29; refine (HV.out _).mono ?_; rintro e w' ⟨rfl, hb⟩; rw [HVL.out]; replace HX := Lib.hid (HX.out.keep (Below.after (by first | (exact below_drewN (by go_grown) _) | go_grown) hb)); replace HB := Lib.hid (Below.after HB.out (Below.after (by first | (exact below_drewN (by go_grown) _) | go_grown) hb)); (try (clear hg c0 c1 c2 c3 c4 c5)); obtain ⟨hg, c0, c1, c2, c3, c4, c5⟩ := HX.out; clear hb)
        | (go_at_call 15; refine (sanity13 _).mono ?_; rintro e w' ⟨rfl, hb⟩))
      go_ret
      exact ⟨rfl, Below.after HB.out hb⟩
end Go.Proofs.Ytffdhckilhhejaa
