/- DesignSpreads: the walk of the law. -/
import Derived.Test.YtffdhckilhhejaaLaw13b
import Derived.Test.YtffdhckilhhejaaPdes3
namespace Go.Proofs.Ytffdhckilhhejaa
open Go.RowKit
set_option linter.unusedVariables false
set_option linter.unusedSimpArgs false

theorem primeB_step (n k : Nat) (h1 : 2 ≤ k) (hk : k < n) (hd : n % k = 0) : primeB n = false := by
  cases hp : primeB n
  · rfl
  · unfold primeB at hp
    simp only [Bool.and_eq_true, decide_eq_true_eq, List.all_eq_true, List.mem_range, Bool.or_eq_true] at hp
    rcases hp.2 k hk with h | h <;> omega
theorem primeB_end (n : Nat) (h : ∀ k, 2 ≤ k → k < n → n % k ≠ 0) : primeB n = decide (1 < n) := by
  unfold primeB
  have : ((List.range n).all fun k => decide (k < 2) || decide (n % k ≠ 0)) = true := by
    simp only [List.all_eq_true, List.mem_range, Bool.or_eq_true, decide_eq_true_eq]
    intro k hk
    rcases Nat.lt_or_ge k 2 with h2 | h2
    · exact .inl h2
    · exact .inr (h k h2 hk)
  rw [this, Bool.and_true]

theorem prime_any (n : Nat) (w : World) (hn : n ≤ 1000000) :
    Calls Try.prog 30 #[.int .i64 n] w fun e w' => e = .returned (.bool (primeB n)) ∧ w = w' := by
  go_enter Try.func30, Try.ntmps30
  go_wp2
  go_loop [3] (fun t => ∃ k : Nat, t = .int .i64 k ∧ 2 ≤ k ∧ k ≤ n + 2 ∧ ∀ j, 2 ≤ j → j < k → n % j ≠ 0) (fun t => n + 2 - (intOf t).toNat)
  case atStart => exact ⟨2, rfl, by omega, by omega, by omega⟩
  case round =>
    obtain ⟨k, rfl, hk2, hk, hno⟩ := hrel
    have HN := Lib.hid hno
    clear hno
    by_cases hlt : k < n
    · have hz : ((k : Int) == 0) = false := by simp; omega
      by_cases hd : n % k = 0
      · have hd2 : (((n : Int) % (k : Int)) == 0) = true := by
          have : ((n : Int) % (k : Int)) = ((n % k : Nat) : Int) := by simp
          rw [this, hd]; rfl
        have HD := Lib.hid hd
        clear hd
        go_wp2
        go_ret
        exact ⟨ret_b (primeB_step n k hk2 hlt HD.out).symm, rfl⟩
      · have hd2 : (((n : Int) % (k : Int)) == 0) = false := by
          have : ((n : Int) % (k : Int)) = ((n % k : Nat) : Int) := by simp
          rw [this]; simp; omega
        have HD := Lib.hid hd
        clear hd
        go_wp2
        go_round
        case rel =>
          refine ⟨k + 1, by go_num, by omega, by omega, fun j hj hj2 => ?_⟩
          rcases Nat.lt_or_ge j k with h | h
          · exact HN.out j hj h
          · obtain rfl : j = k := by omega
            exact HD.out
        case measure => simp [intOf]; omega
    · go_wp2
      go_ret
      refine ⟨ret_b ?_, rfl⟩
      rw [primeB_end n (fun j hj hj2 => HN.out j hj (by omega))]
      rw [decide_eq_decide]; omega

theorem run_min4 {P : Program} (a b c d : Int) : ∃ m, (∀ ts ty w, (Builtin.min_ ts ty #[.int .i64 a, .int .i64 b, .int .i64 c, .int .i64 d]).run P w = .ok (.int .i64 m) w) ∧ (0 ≤ m ↔ 0 ≤ a ∧ 0 ≤ b ∧ 0 ≤ c ∧ 0 ≤ d) := by
  refine ⟨_, fun ts ty w => by simp only [Builtin.min_]; simp [Builtin.min2]; rfl, ?_⟩
  split <;> split <;> split <;> omega
theorem run_max4 {P : Program} (a b c d e : Int) : ∃ m, (∀ ts ty w, (Builtin.max_ ts ty #[.int .i64 a, .int .i64 b, .int .i64 c, .int .i64 d]).run P w = .ok (.int .i64 m) w) ∧ (m < e ↔ a < e ∧ b < e ∧ c < e ∧ d < e) := by
  refine ⟨_, fun ts ty w => by simp only [Builtin.max_]; simp [Builtin.max2]; rfl, ?_⟩
  split <;> split <;> split <;> omega

set_option maxHeartbeats 12000000 in
set_option maxRecDepth 100000 in
theorem designSpreads_walk (d r n s l i m p q x y0 : Int) (w : World) :
    Calls Try.prog 8 #[.agg #[.int .i64 d, .int .i64 r, .int .i64 n, .int .i64 s, .int .i64 l, .int .i64 i], .int .i64 m, .int .i64 p, .int .i64 q, .int .i64 x, .int .i64 y0] w fun e w' => e = .returned (.bool true) ∧ Below w.heap.size w w' := by
  have hv := fun w => valid_any d r n s l i w
  have hpe := fun w => rperiod_any d r n s l i w
  have HB := Lib.hid ((Below.refl w.heap.size w).alloc (Nat.le_refl _) (.cells #[.int .i64 d, .int .i64 r, .int .i64 n, .int .i64 s, .int .i64 l, .int .i64 i] 23))
  have HX := Lib.hid (Box6.new w 23 d r n s l i)
  by_cases hok : OkC d r n s l i
  · simp only [vldI, decide_eq_true hok] at hv
    simp only [mulI_yes hok, I_length] at hpe
    have ho := fun row w => order_any d r n s l i row w
    have hoy := fun row h0 h1 => ordI_yes (d := d) (r := r) (n := n) (s := s) (l := l) (i := i) (row := row) ⟨hok, h0, h1⟩
    obtain ⟨D, R, N, rfl, rfl, rfl, hD1, hD2, hR1, hR2, hN1, hN2, hdv⟩ := hok.nat
    simp only [Int.toNat_natCast] at hpe hoy
    have hm1 := muls_pos D R hD1 hR1
    have hm2 := muls_length D R hD1 hD2 hR1
    have hp1 := Nat.mul_le_mul hD2 hm2
    have hp2 := Nat.mul_le_mul hD1 hm1
    obtain ⟨P, hP⟩ : ∃ P, P = D * (muls D R).length := ⟨_, rfl⟩
    have hPe : (D : Int) * ((muls D R).length : Int) = P := by rw [hP]; simp
    rw [← hP] at hp1 hp2
    simp only [hPe] at hpe
    have hpr := fun w => prime_any D w (by omega)
    have hcases : (R ≠ 1 ∨ (R = 1 ∧ 31 < D) ∨ (R = 1 ∧ D ≤ 31 ∧ primeB D = false) ∨ (R = 1 ∧ D ≤ 31 ∧ primeB D = true ∧ m < 0) ∨ (R = 1 ∧ D ≤ 31 ∧ primeB D = true ∧ 0 ≤ m ∧ 4096 < m) ∨ (R = 1 ∧ D ≤ 31 ∧ primeB D = true ∧ 0 ≤ m ∧ m ≤ 4096 ∧ (N : Int) < (m + 1) * P)) ∨ (R = 1 ∧ D ≤ 31 ∧ primeB D = true ∧ 0 ≤ m ∧ m ≤ 4096 ∧ (m + 1) * P ≤ (N : Int)) := by
      by_cases a1 : R = 1
      · by_cases a2 : D ≤ 31
        · cases a3 : primeB D
          · exact .inl (.inr (.inr (.inl ⟨a1, a2, rfl⟩)))
          · by_cases a4 : m < 0
            · exact .inl (.inr (.inr (.inr (.inl ⟨a1, a2, rfl, a4⟩))))
            · by_cases a5 : 4096 < m
              · exact .inl (.inr (.inr (.inr (.inr (.inl ⟨a1, a2, rfl, by omega, a5⟩)))))
              · by_cases a6 : (N : Int) < (m + 1) * P
                · exact .inl (.inr (.inr (.inr (.inr (.inr ⟨a1, a2, rfl, by omega, by omega, a6⟩)))))
                · exact .inr ⟨a1, a2, rfl, by omega, by omega, by omega⟩
        · exact .inl (.inr (.inl ⟨a1, by omega⟩))
      · exact .inl (.inl a1)
    have HV := Lib.hid hv
    have HPE := Lib.hid hpe
    have HPR := Lib.hid hpr
    have HO := Lib.hid ho
    have HOY := Lib.hid hoy
    have HP := Lib.hid hP
    clear hv hpe hpr ho hoy hok hdv hP hPe hm1 hm2
    rcases hcases with hbad | ⟨hR, hD, hpb, hm0, hm4, hmN⟩
    · rcases hbad with h1 | ⟨h1, h2⟩ | ⟨h1, h2, h3⟩ | ⟨h1, h2, h3, h4⟩ | ⟨h1, h2, h3, h4, h5⟩ | ⟨h1, h2, h3, h4, h5, h6⟩
      · have g1 : (((R : Nat) : Int) != 1) = true := by simp; omega
        go_enter Try.func8, Try.ntmps8
        go_wp2
        obtain ⟨W0, hW0⟩ : ∃ W0, W0 = w.alloc (.cells #[.int .i64 D, .int .i64 R, .int .i64 N, .int .i64 s, .int .i64 l, .int .i64 i] 23) := ⟨_, rfl⟩
        rw [← hW0] at HX HB ⊢
        clear hW0
        obtain ⟨c0, c1, c2, c3, c4, c5⟩ := HX.out.ext
        refine wp_region_ext (by kernel_rfl) (by kernel_rfl) ?_
        repeat (go_big_quiet_step ((first | (go_at_call 29; exact ext_of (HV.out _)) | (go_at_call 30; exact ext_same (HPR.out _)) | (go_at_call 22; exact ext_of (HPE.out _)))))
        refine wpQuiet_nil ?_
        intro _ hw'
        obtain ⟨y, hw''⟩ := hw'
        subst hw''
        go_wp2_with (go_at_call 15; refine (sanity13 _).mono ?_; rintro e w' ⟨rfl, hb⟩)
        go_ret
        exact ⟨rfl, Below.after (Below.after HB.out y.h) hb⟩
      · have g1 : ((R : Int) != 1) = false := by simp [h1]
        clear h1
        have g2 : decide ((31 : Int) < D) = true := by simp; omega
        have g2' : decide (31 < D) = true := by simp; omega
        go_enter Try.func8, Try.ntmps8
        go_wp2
        obtain ⟨W0, hW0⟩ : ∃ W0, W0 = w.alloc (.cells #[.int .i64 D, .int .i64 R, .int .i64 N, .int .i64 s, .int .i64 l, .int .i64 i] 23) := ⟨_, rfl⟩
        rw [← hW0] at HX HB ⊢
        clear hW0
        obtain ⟨c0, c1, c2, c3, c4, c5⟩ := HX.out.ext
        refine wp_region_ext (by kernel_rfl) (by kernel_rfl) ?_
        repeat (go_big_quiet_step ((first | (go_at_call 29; exact ext_of (HV.out _)) | (go_at_call 30; exact ext_same (HPR.out _)) | (go_at_call 22; exact ext_of (HPE.out _)))))
        refine wpQuiet_nil ?_
        intro _ hw'
        obtain ⟨y, hw''⟩ := hw'
        subst hw''
        go_wp2_with (go_at_call 15; refine (sanity13 _).mono ?_; rintro e w' ⟨rfl, hb⟩)
        go_ret
        exact ⟨rfl, Below.after (Below.after HB.out y.h) hb⟩
      · have g1 : ((R : Int) != 1) = false := by simp [h1]
        clear h1
        have g2 : decide ((31 : Int) < D) = false := by simp; omega
        have g2' : decide (31 < D) = false := by simp; omega
        go_enter Try.func8, Try.ntmps8
        go_wp2
        obtain ⟨W0, hW0⟩ : ∃ W0, W0 = w.alloc (.cells #[.int .i64 D, .int .i64 R, .int .i64 N, .int .i64 s, .int .i64 l, .int .i64 i] 23) := ⟨_, rfl⟩
        rw [← hW0] at HX HB ⊢
        clear hW0
        obtain ⟨c0, c1, c2, c3, c4, c5⟩ := HX.out.ext
        refine wp_region_ext (by kernel_rfl) (by kernel_rfl) ?_
        repeat (go_big_quiet_step ((first | (go_at_call 29; exact ext_of (HV.out _)) | (go_at_call 30; exact ext_same (HPR.out _)) | (go_at_call 22; exact ext_of (HPE.out _)))))
        refine wpQuiet_nil ?_
        intro _ hw'
        obtain ⟨y, hw''⟩ := hw'
        subst hw''
        go_wp2_with (go_at_call 15; refine (sanity13 _).mono ?_; rintro e w' ⟨rfl, hb⟩)
        go_ret
        exact ⟨rfl, Below.after (Below.after HB.out y.h) hb⟩
      · have g1 : ((R : Int) != 1) = false := by simp [h1]
        clear h1
        have g2 : decide ((31 : Int) < D) = false := by simp; omega
        have g4 : decide (m < 0) = true := by simp; omega
        have g2' : decide (31 < D) = false := by simp; omega
        go_enter Try.func8, Try.ntmps8
        go_wp2
        obtain ⟨W0, hW0⟩ : ∃ W0, W0 = w.alloc (.cells #[.int .i64 D, .int .i64 R, .int .i64 N, .int .i64 s, .int .i64 l, .int .i64 i] 23) := ⟨_, rfl⟩
        rw [← hW0] at HX HB ⊢
        clear hW0
        obtain ⟨c0, c1, c2, c3, c4, c5⟩ := HX.out.ext
        refine wp_region_ext (by kernel_rfl) (by kernel_rfl) ?_
        repeat (go_big_quiet_step ((first | (go_at_call 29; exact ext_of (HV.out _)) | (go_at_call 30; exact ext_same (HPR.out _)) | (go_at_call 22; exact ext_of (HPE.out _)))))
        refine wpQuiet_nil ?_
        intro _ hw'
        obtain ⟨y, hw''⟩ := hw'
        subst hw''
        go_wp2_with (go_at_call 15; refine (sanity13 _).mono ?_; rintro e w' ⟨rfl, hb⟩)
        go_ret
        exact ⟨rfl, Below.after (Below.after HB.out y.h) hb⟩
      · have g1 : ((R : Int) != 1) = false := by simp [h1]
        clear h1
        have g2 : decide ((31 : Int) < D) = false := by simp; omega
        have g4 : decide (m < 0) = false := by simp; omega
        have g5 : decide (4096 < m) = true := by simp; omega
        have g2' : decide (31 < D) = false := by simp; omega
        go_enter Try.func8, Try.ntmps8
        go_wp2
        obtain ⟨W0, hW0⟩ : ∃ W0, W0 = w.alloc (.cells #[.int .i64 D, .int .i64 R, .int .i64 N, .int .i64 s, .int .i64 l, .int .i64 i] 23) := ⟨_, rfl⟩
        rw [← hW0] at HX HB ⊢
        clear hW0
        obtain ⟨c0, c1, c2, c3, c4, c5⟩ := HX.out.ext
        refine wp_region_ext (by kernel_rfl) (by kernel_rfl) ?_
        repeat (go_big_quiet_step ((first | (go_at_call 29; exact ext_of (HV.out _)) | (go_at_call 30; exact ext_same (HPR.out _)) | (go_at_call 22; exact ext_of (HPE.out _)))))
        refine wpQuiet_nil ?_
        intro _ hw'
        obtain ⟨y, hw''⟩ := hw'
        subst hw''
        go_wp2_with (go_at_call 15; refine (sanity13 _).mono ?_; rintro e w' ⟨rfl, hb⟩)
        go_ret
        exact ⟨rfl, Below.after (Below.after HB.out y.h) hb⟩
      · have g1 : ((R : Int) != 1) = false := by simp [h1]
        clear h1
        have g2 : decide ((31 : Int) < D) = false := by simp; omega
        have g4 : decide (m < 0) = false := by simp; omega
        have g5 : decide (4096 < m) = false := by simp; omega
        have g6 : decide ((N : Int) < (m + 1) * P) = true := by simp; omega
        have g2' : decide (31 < D) = false := by simp; omega
        have hmp1 : 0 ≤ (m + 1) * (P : Int) := Int.mul_nonneg (by omega) (by omega)
        have hmp2 : (m + 1) * (P : Int) ≤ 4097 * 4096 := Int.mul_le_mul (by omega) (by omega) (by omega) (by omega)
        go_enter Try.func8, Try.ntmps8
        go_wp2
        obtain ⟨W0, hW0⟩ : ∃ W0, W0 = w.alloc (.cells #[.int .i64 D, .int .i64 R, .int .i64 N, .int .i64 s, .int .i64 l, .int .i64 i] 23) := ⟨_, rfl⟩
        rw [← hW0] at HX HB ⊢
        clear hW0
        obtain ⟨c0, c1, c2, c3, c4, c5⟩ := HX.out.ext
        refine wp_region_ext (by kernel_rfl) (by kernel_rfl) ?_
        repeat (go_big_quiet_step ((first | (go_at_call 29; exact ext_of (HV.out _)) | (go_at_call 30; exact ext_same (HPR.out _)) | (go_at_call 22; exact ext_of (HPE.out _)))))
        refine wpQuiet_nil ?_
        intro _ hw'
        obtain ⟨y, hw''⟩ := hw'
        subst hw''
        go_wp2_with (go_at_call 15; refine (sanity13 _).mono ?_; rintro e w' ⟨rfl, hb⟩)
        go_ret
        exact ⟨rfl, Below.after (Below.after HB.out y.h) hb⟩

    · have hPv : P = D * (D - 1) := by rw [HP.out, hR, muls_prime D hpb]; simp
      have g1 : ((R : Int) != 1) = false := by simp [hR]
      have HR := Lib.hid hR
      clear hR
      obtain ⟨M, rfl⟩ := Int.eq_ofNat_of_zero_le hm0
      have hmp1 : 0 ≤ ((M : Int) + 1) * (P : Int) := Int.mul_nonneg (by omega) (by omega)
      have hmp3 : 0 ≤ (M : Int) * (P : Int) := Int.mul_nonneg (by omega) (by omega)
      have hmp4 : ((M : Int) + 1) * (P : Int) = (M : Int) * P + P := by rw [Int.add_mul]; simp
      have HPV := Lib.hid hPv
      have HMP := Lib.hid hmp4
      have hmp5 : (M : Int) * (P : Int) + P ≤ N := by omega
      have hmp6 : ((M : Int) + 1) * (P : Int) ≤ 4096 := by omega
      clear hPv hmp4
      have g2 : decide ((31 : Int) < D) = false := by simp; omega
      have g2' : decide (31 < D) = false := by simp; omega
      have g4 : decide ((M : Int) < 0) = false := by simp
      have g5 : decide ((4096 : Int) < M) = false := by simp; omega
      have g5' : decide (4096 < M) = false := by simp; omega
      have g6 : decide ((N : Int) < ((M : Int) + 1) * P) = false := by simp; omega
      go_enter Try.func8, Try.ntmps8
      go_wp2
      obtain ⟨W0, hW0⟩ : ∃ W0, W0 = w.alloc (.cells #[.int .i64 D, .int .i64 R, .int .i64 N, .int .i64 s, .int .i64 l, .int .i64 i] 23) := ⟨_, rfl⟩
      rw [← hW0] at HX HB ⊢
      clear hW0
      obtain ⟨c0, c1, c2, c3, c4, c5⟩ := HX.out.ext
      refine wp_region_ext (by kernel_rfl) (by kernel_rfl) ?_
      repeat (go_big_quiet_step ((first | (go_at_call 29; exact ext_of (HV.out _)) | (go_at_call 30; exact ext_same (HPR.out _)) | (go_at_call 22; exact ext_of (HPE.out _)))))
      refine wpQuiet_nil ?_
      intro _ hw'
      obtain ⟨y, hw''⟩ := hw'
      subst hw''

      have HY := Lib.hid y.h
      obtain ⟨W1, hW1⟩ : ∃ W1, W1 = y.w := ⟨_, rfl⟩
      rw [← hW1] at HY ⊢
      have HX1 := Lib.hid (HX.out.keep HY.out)
      have HB1 := Lib.hid (Below.after HB.out HY.out)
      clear hW1 c0 c1 c2 c3 c4 c5 HX HB
      obtain ⟨hg, c0, c1, c2, c3, c4, c5⟩ := HX1.out
      obtain ⟨mn, hmn, hmn2⟩ := run_min4 (P := Try.prog) p q x y0
      obtain ⟨mx, hmx, hmx2⟩ := run_max4 (P := Try.prog) p q x y0 D
      have HMN := Lib.hid hmn2
      have HMX := Lib.hid hmx2
      clear hmn2 hmx2
      go_wp2_with (go_at_call 15; refine (sanity13 _).mono ?_; rintro e w' ⟨rfl, hb⟩)
      all_goals first
        | (go_ret; exact ⟨rfl, Below.after HB1.out hb⟩)
        | skip
      have hx : ((0 ≤ mn ∧ mx < (D : Int)) ∧ (p == q) = false) ∧ (x == y0) = false := by assumption
      obtain ⟨⟨⟨e1, e2⟩, e3⟩, e4⟩ := hx
      obtain ⟨e5, e6, e7, e8⟩ := HMN.out.1 e1
      obtain ⟨e9, e10, e11, e12⟩ := HMX.out.1 e2
      obtain ⟨p, rfl⟩ := Int.eq_ofNat_of_zero_le e5
      obtain ⟨q, rfl⟩ := Int.eq_ofNat_of_zero_le e6
      obtain ⟨x, rfl⟩ := Int.eq_ofNat_of_zero_le e7
      obtain ⟨z, rfl⟩ := Int.eq_ofNat_of_zero_le e8
      have hp : p < D := by omega
      have hq : q < D := by omega
      have hxD : x < D := by omega
      have hzD : z < D := by omega
      have hpq : p ≠ q := by simp at e3; omega
      have hxz : x ≠ z := by simp at e4; omega
      obtain ⟨G, hG⟩ : ∃ G : Nat → Bool, G = fun k => ((ord D 1 (M * (D * (D - 1)) + k)).getD p 0 == x) && ((ord D 1 (M * (D * (D - 1)) + k)).getD q 0 == z) := ⟨_, rfl⟩
      have hone := spread_once D M p q x z hpb hp hq hxD hzD hpq hxz
      rw [← hG, ← HPV.out] at hone
      have hGd : ∀ k, G k = (((ord D R (M * P + k)).getD p 0 == x) && ((ord D R (M * P + k)).getD q 0 == z)) := fun k => by rw [hG, HPV.out, HR.out]
      have hOk : ∀ k, k < P → ∀ w, Calls Try.prog 23 #[.agg #[.int .i64 D, .int .i64 R, .int .i64 N, .int .i64 s, .int .i64 l, .int .i64 i], .int .i64 ((M : Int) * (P : Int) + (k : Int))] w (RetOwn w (I (ord D R (M * P + k)))) := by
        intro k hk w
        have := HO.out ((M : Int) * (P : Int) + (k : Int)) w
        rw [HOY.out _ (by omega) (by omega)] at this
        have e : ((M : Int) * (P : Int) + (k : Int)).toNat = M * P + k := Go.PlainAid.toNat_lin M k P
        rwa [e] at this
      have HONE := Lib.hid hone
      have HGd := Lib.hid hGd
      have HOK := Lib.hid hOk
      clear hone hGd hOk hG e3 e4 e5 e6 e7 e8 e9 e10 e11 e12 hpq hxz e1 e2 HMN HMX hmn hmx
      have HX := HX1
      have HB := HB1
      clear HX1 HB1
      refine (HPE.out _).mono ?_
      rintro e w' ⟨rfl, hb⟩
      replace HX := Lib.hid (HX.out.keep (Below.after (by first | (exact below_drewN (by go_grown) _) | go_grown) hb)); replace HB := Lib.hid (Below.after HB.out (Below.after (by first | (exact below_drewN (by go_grown) _) | go_grown) hb))
      (try (clear hg c0 c1 c2 c3 c4 c5)); obtain ⟨hg, c0, c1, c2, c3, c4, c5⟩ := HX.out; clear hb
      go_wp2
      clear hg c0 c1 c2 c3 c4 c5
      go_loopw [83, 13] (fun t u wr => ∃ k : Nat, t = .int .i64 k ∧ k ≤ P ∧ u = .int .i64 (upC G k) ∧ Box6 wr w.heap.size D R N s l i ∧ Below w.heap.size w wr) (fun t _ _ => P - (intOf t).toNat)
      case atStart => exact ⟨0, rfl, by omega, rfl, HX.out, HB.out⟩
      case round =>
        clear HX HB
        obtain ⟨k, rfl, hk, rfl, hx, hbel⟩ := hrel
        have HX := Lib.hid hx
        have HB := Lib.hid hbel
        obtain ⟨hg, c0, c1, c2, c3, c4, c5⟩ := hx
        clear hbel
        have hup := upC_le G k
        by_cases hlt : k < P
        · have HOk := Lib.hid (HOK.out k hlt)
          have hw1 : IntKind.i64.wrap ((M : Int) * (P : Int)) = (M : Int) * (P : Int) := IntWalk.i64_in _ (by omega)
          have hw2 : IntKind.i64.wrap ((M : Int) * (P : Int) + (k : Int)) = (M : Int) * (P : Int) + (k : Int) := IntWalk.i64_in _ (by omega)
          have HLk : Hid ((I (ord D R (M * P + k))).length = D) := Lib.hid (by rw [I_length, ord_length])
          obtain ⟨A, hAe⟩ : ∃ A, A = (ord D R (M * P + k)).getD p 0 := ⟨_, rfl⟩
          obtain ⟨B, hBe⟩ : ∃ B, B = (ord D R (M * P + k)).getD q 0 := ⟨_, rfl⟩
          have HA := Lib.hid hAe
          have HBq := Lib.hid hBe
          have hGk : G k = ((A == x) && (B == z)) := by rw [HGd.out k, ← hAe, ← hBe]
          clear hAe hBe hg c0 c1 c2 c3 c4 c5
          by_cases hA : A = x
          · by_cases hB : B = z
            · have g1 : ((A : Int) == (x : Int)) = true := by simp; omega
              have g2 : ((B : Int) == (z : Int)) = true := by simp; omega
              have HG : Hid (G k = true) := Lib.hid (by rw [hGk]; simp; omega)
              clear hGk
              clear hA hB
              go_wp2
              go_region_held3 (fun w' => w'.cell? ⟨w.heap.size, 0, none⟩ = some (.int .i64 D) ∧ w'.cell? ⟨w.heap.size, 1, none⟩ = some (.int .i64 R) ∧ w'.cell? ⟨w.heap.size, 2, none⟩ = some (.int .i64 N) ∧ w'.cell? ⟨w.heap.size, 3, none⟩ = some (.int .i64 s) ∧ w'.cell? ⟨w.heap.size, 4, none⟩ = some (.int .i64 l) ∧ w'.cell? ⟨w.heap.size, 5, none⟩ = some (.int .i64 i)) (exact HX.out.2)
                (first
                  | (go_at_call 22; refine (HPE.out _).mono ?_; rintro e w' ⟨rfl, hb⟩; replace HX := Lib.hid (HX.out.keep (Below.after (by first | (exact below_drewN (by go_grown) _) | go_grown) hb)); replace HB := Lib.hid (Below.after HB.out (Below.after (by first | (exact below_drewN (by go_grown) _) | go_grown) hb)); clear hb)
                  | (go_at_call 23; ((with_reducible refine (HOk.out _).mono ?_)); rintro e w' ⟨v, rfl, hown, hb⟩; replace HX := Lib.hid (HX.out.keep (Below.after (by first | (exact below_drewN (by go_grown) _) | go_grown) hb)); replace HB := Lib.hid (Below.after HB.out (Below.after (by first | (exact below_drewN (by go_grown) _) | go_grown) hb)); clear hb; obtain ⟨b, o, c, rfl, hlc, hcm, hrow⟩ := (Ints.of_own hown).row (by rw [HLk.out]; omega); rw [HLk.out] at hlc ⊢; have cp := hrow.2 p (by rw [HLk.out]; exact hp); have cq := hrow.2 q (by rw [HLk.out]; exact hq); rw [I_getD, ← HA.out] at cp; rw [I_getD, ← HBq.out] at cq; clear hown hrow))
              obtain ⟨hg, c0, c1, c2, c3, c4, c5⟩ := HX.out
              go_wp2
              go_roundw
              case rel => exact ⟨k + 1, by go_num, by omega, by rw [upC_succ, HG.out]; simp, HX.out, HB.out⟩
              case measure => simp [intOf]; omega
            · have g1 : ((A : Int) == (x : Int)) = true := by simp; omega
              have g2 : ((B : Int) == (z : Int)) = false := by simp; omega
              have HG : Hid (G k = false) := Lib.hid (by rw [hGk]; simp; omega)
              clear hGk
              clear hA hB
              go_wp2
              go_region_held3 (fun w' => w'.cell? ⟨w.heap.size, 0, none⟩ = some (.int .i64 D) ∧ w'.cell? ⟨w.heap.size, 1, none⟩ = some (.int .i64 R) ∧ w'.cell? ⟨w.heap.size, 2, none⟩ = some (.int .i64 N) ∧ w'.cell? ⟨w.heap.size, 3, none⟩ = some (.int .i64 s) ∧ w'.cell? ⟨w.heap.size, 4, none⟩ = some (.int .i64 l) ∧ w'.cell? ⟨w.heap.size, 5, none⟩ = some (.int .i64 i)) (exact HX.out.2)
                (first
                  | (go_at_call 22; refine (HPE.out _).mono ?_; rintro e w' ⟨rfl, hb⟩; replace HX := Lib.hid (HX.out.keep (Below.after (by first | (exact below_drewN (by go_grown) _) | go_grown) hb)); replace HB := Lib.hid (Below.after HB.out (Below.after (by first | (exact below_drewN (by go_grown) _) | go_grown) hb)); clear hb)
                  | (go_at_call 23; ((with_reducible refine (HOk.out _).mono ?_)); rintro e w' ⟨v, rfl, hown, hb⟩; replace HX := Lib.hid (HX.out.keep (Below.after (by first | (exact below_drewN (by go_grown) _) | go_grown) hb)); replace HB := Lib.hid (Below.after HB.out (Below.after (by first | (exact below_drewN (by go_grown) _) | go_grown) hb)); clear hb; obtain ⟨b, o, c, rfl, hlc, hcm, hrow⟩ := (Ints.of_own hown).row (by rw [HLk.out]; omega); rw [HLk.out] at hlc ⊢; have cp := hrow.2 p (by rw [HLk.out]; exact hp); have cq := hrow.2 q (by rw [HLk.out]; exact hq); rw [I_getD, ← HA.out] at cp; rw [I_getD, ← HBq.out] at cq; clear hown hrow))
              obtain ⟨hg, c0, c1, c2, c3, c4, c5⟩ := HX.out
              go_wp2
              go_roundw
              case rel => exact ⟨k + 1, by go_num, by omega, by rw [upC_succ, HG.out]; simp, HX.out, HB.out⟩
              case measure => simp [intOf]; omega
          · have g1 : ((A : Int) == (x : Int)) = false := by simp; omega
            have HG : Hid (G k = false) := Lib.hid (by rw [hGk]; simp; omega)
            clear hGk
            clear hA
            go_wp2
            go_region_held3 (fun w' => w'.cell? ⟨w.heap.size, 0, none⟩ = some (.int .i64 D) ∧ w'.cell? ⟨w.heap.size, 1, none⟩ = some (.int .i64 R) ∧ w'.cell? ⟨w.heap.size, 2, none⟩ = some (.int .i64 N) ∧ w'.cell? ⟨w.heap.size, 3, none⟩ = some (.int .i64 s) ∧ w'.cell? ⟨w.heap.size, 4, none⟩ = some (.int .i64 l) ∧ w'.cell? ⟨w.heap.size, 5, none⟩ = some (.int .i64 i)) (exact HX.out.2)
              (first
                | (go_at_call 22; refine (HPE.out _).mono ?_; rintro e w' ⟨rfl, hb⟩; replace HX := Lib.hid (HX.out.keep (Below.after (by first | (exact below_drewN (by go_grown) _) | go_grown) hb)); replace HB := Lib.hid (Below.after HB.out (Below.after (by first | (exact below_drewN (by go_grown) _) | go_grown) hb)); clear hb)
                | (go_at_call 23; ((with_reducible refine (HOk.out _).mono ?_)); rintro e w' ⟨v, rfl, hown, hb⟩; replace HX := Lib.hid (HX.out.keep (Below.after (by first | (exact below_drewN (by go_grown) _) | go_grown) hb)); replace HB := Lib.hid (Below.after HB.out (Below.after (by first | (exact below_drewN (by go_grown) _) | go_grown) hb)); clear hb; obtain ⟨b, o, c, rfl, hlc, hcm, hrow⟩ := (Ints.of_own hown).row (by rw [HLk.out]; omega); rw [HLk.out] at hlc ⊢; have cp := hrow.2 p (by rw [HLk.out]; exact hp); have cq := hrow.2 q (by rw [HLk.out]; exact hq); rw [I_getD, ← HA.out] at cp; rw [I_getD, ← HBq.out] at cq; clear hown hrow))
            obtain ⟨hg, c0, c1, c2, c3, c4, c5⟩ := HX.out
            go_wp2
            go_roundw
            case rel => exact ⟨k + 1, by go_num, by omega, by rw [upC_succ, HG.out]; simp, HX.out, HB.out⟩
            case measure => simp [intOf]; omega
        · obtain rfl : k = P := by omega
          have hu1 : ((upC G k : Nat) : Int) = 1 := by rw [HONE.out]; rfl
          have hu2 : (((upC G k : Nat) : Int) == 1) = true := by rw [hu1]; rfl
          clear hu1
          go_wp2_with (go_at_call 15; refine (sanity13 _).mono ?_; rintro e w' ⟨rfl, hb⟩)
          go_ret
          exact ⟨rfl, Below.after HB.out hb⟩
  · simp only [vldI, decide_eq_false hok] at hv
    have HV := Lib.hid hv
    clear hv hpe hok
    go_enter Try.func8, Try.ntmps8
    go_wp2
    obtain ⟨W0, hW0⟩ : ∃ W0, W0 = w.alloc (.cells #[.int .i64 d, .int .i64 r, .int .i64 n, .int .i64 s, .int .i64 l, .int .i64 i] 23) := ⟨_, rfl⟩
    rw [← hW0] at HX HB ⊢
    clear hW0
    obtain ⟨c0, c1, c2, c3, c4, c5⟩ := HX.out.ext
    refine wp_region_ext (by kernel_rfl) (by kernel_rfl) ?_
    repeat (go_big_quiet_step ((go_at_call 29; exact ext_of (HV.out _))))
    refine wpQuiet_nil ?_
    intro _ hw'
    obtain ⟨y, hw''⟩ := hw'
    subst hw''
    go_wp2_with (go_at_call 15; refine (sanity13 _).mono ?_; rintro e w' ⟨rfl, hb⟩)
    go_ret
    exact ⟨rfl, Below.after (Below.after HB.out y.h) hb⟩
end Go.Proofs.Ytffdhckilhhejaa
