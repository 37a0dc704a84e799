/- Walks of the reference of layer 13: Period, Order, Position, Rack. -/
import Derived.Test.YtffdhckilhhejaaRef13b
namespace Go.Proofs.Ytffdhckilhhejaa
open Go.RowKit
set_option linter.unusedVariables false
set_option linter.unusedSimpArgs false

theorem mulI_wrap (d r n s l i : Int) : (mulI d r n s l i).length ≤ 64 ∧ IntKind.i64.wrap (d * ((mulI d r n s l i).length : Int)) = d * ((mulI d r n s l i).length : Int) := by
  by_cases hok : OkC d r n s l i
  · rw [mulI_yes hok, I_length]
    obtain ⟨⟨h1, h2⟩, ⟨h3, h4⟩, _, _, _, _, h5⟩ := hok
    have := muls_length d.toNat r.toNat (by omega) (by omega) (by omega)
    refine ⟨this, IntWalk.i64_in _ ?_⟩
    have h6 : 0 ≤ d * ((muls d.toNat r.toNat).length : Int) := Int.mul_nonneg (by omega) (by omega)
    have h7 : d * ((muls d.toNat r.toNat).length : Int) ≤ 64 * 64 := Int.mul_le_mul h2 (by omega) (by omega) (by omega)
    omega
  · rw [mulI_no hok]; simp; decide

set_option maxHeartbeats 400000 in
theorem rperiod_any (d r n s l i : Int) (w : World) :
    Calls Try.prog 22 #[.agg #[.int .i64 d, .int .i64 r, .int .i64 n, .int .i64 s, .int .i64 l, .int .i64 i]] w fun e w' => e = .returned (.int .i64 (d * (mulI d r n s l i).length)) ∧ Below w.heap.size w w' := by
  obtain ⟨hm1, hm2⟩ := mulI_wrap d r n s l i
  have HM := Lib.hid hm2
  clear hm2
  obtain ⟨L, hL⟩ : ∃ L, mulI d r n s l i = L := ⟨_, rfl⟩
  rw [hL] at hm1 HM
  have HL := Lib.hid hL
  clear hL
  go_enter Try.func22, Try.ntmps22
  go_wp2
  go_region_held3 (fun w' => w'.cell? ⟨w.heap.size, 0, none⟩ = some (.int .i64 d) ∧ w'.cell? ⟨w.heap.size, 1, none⟩ = some (.int .i64 r) ∧ w'.cell? ⟨w.heap.size, 2, none⟩ = some (.int .i64 n) ∧ w'.cell? ⟨w.heap.size, 3, none⟩ = some (.int .i64 s) ∧ w'.cell? ⟨w.heap.size, 4, none⟩ = some (.int .i64 l) ∧ w'.cell? ⟨w.heap.size, 5, none⟩ = some (.int .i64 i)) (go_keep)
    (first | (go_at_call 20; refine (rmult_any _ _ _ _ _ _ _).mono ?_; rintro e w1 ⟨v, rfl, hown, hb1⟩; rw [HL.out] at hown; obtain ⟨A, c, rfl⟩ := own_shape hown; obtain ⟨hc, hf⟩ := bcell hb1))
  go_wp2
  go_ret
  exact ⟨ret_i (by rw [HL.out]; exact HM.out), Below.after (by go_grown) hb1⟩

set_option maxHeartbeats 800000 in
theorem rorder_any (d r n s l i row : Int) (w : World) :
    Calls Try.prog 24 #[.agg #[.int .i64 d, .int .i64 r, .int .i64 n, .int .i64 s, .int .i64 l, .int .i64 i], .int .i64 row] w (RetOwn w (ordI d r n s l i row)) := by
  by_cases hok : OkC d r n s l i
  · by_cases hrow : 0 ≤ row ∧ row < n
    · obtain ⟨hr0, hr1⟩ := hrow
      have ho := ordI_yes ⟨hok, hr0, hr1⟩
      have hok2 := hok
      obtain ⟨⟨h1, h2⟩, ⟨h3, h4⟩, ⟨_, h5⟩, _⟩ := hok2
      obtain ⟨D, rfl⟩ := Int.eq_ofNat_of_zero_le (by omega : 0 ≤ d)
      obtain ⟨R, rfl⟩ := Int.eq_ofNat_of_zero_le (by omega : 0 ≤ r)
      obtain ⟨X, rfl⟩ := Int.eq_ofNat_of_zero_le hr0
      have hm := mulI_yes hok
      simp only [Int.toNat_natCast] at ho hm
      rw [ho]
      have hm1 := muls_pos D R (by omega) (by omega)
      have hm2 := muls_length D R (by omega) (by omega) (by omega)
      obtain ⟨m, hmm⟩ : ∃ m, m = (muls D R).length := ⟨_, rfl⟩
      have hix := Nat.mod_lt (X / D) (by omega : 0 < m)
      have hD0 : 0 < D := by omega
      rw [← hmm] at hm1 hm2
      have hme := muls_mem D R _ (by omega) (by omega) (mulAt_mem D R X (by omega) (by omega))
      obtain ⟨a, ha⟩ : ∃ a, a = mulAt D R X := ⟨_, rfl⟩
      have hfin : (I (muls D R)).getD (X / D % m) 0 = (a : Int) := by rw [I_getD, ha, mulAt, ← hmm]
      have hlen : (I (muls D R)).length = m := by rw [I_length, hmm]
      have hL : ∀ p, p < D → (I (ord D R X)).getD p 0 = ((a * p + X) % D : Nat) := fun p hp => by rw [ord_getD D R X p hp, ha]
      have hLl : (I (ord D R X)).length = D := by rw [I_length, ord_length]
      obtain ⟨L, hLL⟩ : ∃ L, L = I (ord D R X) := ⟨_, rfl⟩
      simp only [← hLL] at hL hLl ⊢
      rw [← ha] at hme
      have ha64 : a ≤ 64 := by omega
      have hDz : ((D : Int) == 0) = false := by simp; omega
      have hm0 : ((m : Int) == 0) = false := by simp; omega
      have hq1 : 0 ≤ (X : Int) / (D : Int) := Int.ediv_nonneg (by omega) (by omega)
      have hq2 : (X : Int) / (D : Int) ≤ 4096 := Int.le_trans (Int.ediv_le_self _ (by omega)) (by omega)
      have hq3 : 0 ≤ (X : Int) / (D : Int) % (m : Int) := Int.emod_nonneg _ (by omega)
      have hq4 : (X : Int) / (D : Int) % (m : Int) < m := Int.emod_lt_of_pos _ (by omega)
      have hq5 : ((X : Int) / (D : Int) % (m : Int)).toNat = X / D % m := toNat_div_mod X D m
      have hrow2 : (decide (0 ≤ (X : Int)) && decide ((X : Int) ≤ n - 1)) = true := by simp; omega
      have HR := Lib.hid hrow2
      have HM := Lib.hid hm
      have HFIN := Lib.hid hfin
      have HLEN := Lib.hid hlen
      have HL := Lib.hid hL
      have HLl := Lib.hid hLl
      clear hok hL hLl ho hLL ha hmm hme hm hfin hlen hrow2
      go_enter Try.func24, Try.ntmps24
      go_wp2_with (first
        | (go_at_call 20; refine (rmult_any _ _ _ _ _ _ _).mono ?_; rintro e w1 ⟨v, rfl, hown, hb1⟩; rw [HM.out] at hown; have hI := Ints.of_own hown; obtain ⟨A, c, rfl, h6, h7, h8⟩ := hI; rw [HLEN.out] at hown h6 h8 ⊢; obtain ⟨b, o, rfl, h9, h10⟩ := h8 (by omega); have h11 := h10 (X / D % m) hix; rw [HFIN.out] at h11; clear hown h10 h8; have hcd : w1.cell? ⟨w.heap.size, 0, none⟩ = some (.int .i64 D) := (by rw [hb1.cell (p := ⟨w.heap.size, 0, none⟩) (by simp)]; simp); have hcn : w1.cell? ⟨w.heap.size, 2, none⟩ = some (.int .i64 n) := (by rw [hb1.cell (p := ⟨w.heap.size, 2, none⟩) (by simp)]; simp); have hs1 : w.heap.size < w1.heap.size := (by have := hb1.size; simp at this; omega); have HB1 := Lib.hid hb1; clear hb1)
        | (go_at_call 49; refine (in13_any _ _ _ _).mono ?_; rintro e w' ⟨rfl, rfl⟩; rw [HR.out]))
      go_loopw [7, 8] (fun v k wr => ∃ k' : Nat, k = .int .i64 k' ∧ k' ≤ D ∧ wr.ownsRow w1.heap.size 3 1 v k' ((L.take k').map (Value.int .i64)) ∧ Below w1.heap.size w1 wr)
        (fun _ k _ => D - (intOf k).toNat)
      case atStart => exact ⟨0, rfl, by omega, World.ownsRow_nil _ _ _ _, Below.refl _ _⟩
      case round =>
        obtain ⟨k, rfl, hk, hown, hbel⟩ := hrel
        have hs2 := hbel.size
        have HO := Lib.hid hown
        have HB := Lib.hid hbel
        by_cases hlt : k < D
        · have hcw : wr.cell? ⟨w.heap.size, 0, none⟩ = some (.int .i64 D) := by rw [hbel.cell (p := ⟨w.heap.size, 0, none⟩) hs1]; exact hcd
          obtain ⟨hp1, hp2⟩ := mul_bd a k ha64 (by omega)
          clear hown hbel
          go_wp2_with (at_builtin; refine wpList_appendX rfl _ _ _ rfl 3 (.int .i64 0) 8 Try.underlying28 infoInt rfl (by omega) w1 w1.heap.size _ k _ rfl HO.out _ rfl rfl rfl (by omega) HB.out hs2 ?_; intro v1 w2 hown1 hbel1 hg1; have HO1 := Lib.hid hown1; have HB2 := Lib.hid hbel1; clear hown1 hbel1 hg1)
          go_roundw
          case rel =>
            have hv := HL.out k hlt
            have hlen : k < L.length := by rw [HLl.out]; exact hlt
            rw [getD_lt _ _ _ hlen] at hv
            refine ⟨k + 1, by go_num, by omega, ?_, HB2.out⟩
            rw [List.take_succ_eq_append_getElem hlen, List.map_append, hv]
            have := HO1.out
            simpa using this
          case measure => simp [intOf]; omega
        · obtain rfl : k = D := by omega
          clear hown hbel
          have hcw : wr.cell? ⟨w.heap.size, 0, none⟩ = some (.int .i64 k) := by rw [HB.out.cell (p := ⟨w.heap.size, 0, none⟩) hs1]; exact hcd
          go_wp2
          go_ret
          have hf : L.take k = L := List.take_of_length_le (by rw [HLl.out]; exact Nat.le_refl _)
          rw [hf] at HO
          refine ⟨_, rfl, ?_, ?_⟩
          · rw [HLl.out]; exact HO.out.mono (by omega)
          · exact (Below.after (by go_grown) HB1.out).trans (HB.out.mono (by omega))
    · rw [ordI_no fun h => hrow h.2]
      have hm : 0 < (mulI d r n s l i).length ∧ (mulI d r n s l i).length ≤ 64 := by
        rw [mulI_yes hok, I_length]
        obtain ⟨⟨h1, h2⟩, ⟨h3, h4⟩, _⟩ := hok
        exact ⟨muls_pos _ _ (by omega) (by omega), muls_length _ _ (by omega) (by omega) (by omega)⟩
      obtain ⟨L, hL⟩ : ∃ L, mulI d r n s l i = L := ⟨_, rfl⟩
      rw [hL] at hm
      obtain ⟨hm1, hm2⟩ := hm
      have HL := Lib.hid hL
      have hn : 1 ≤ n ∧ n ≤ 4096 := hok.2.2.1
      obtain ⟨hn1, hn2⟩ := hn
      have hrow2 : (decide (0 ≤ row) && decide (row ≤ n - 1)) = false := by simp; omega
      have HR := Lib.hid hrow2
      have hz : ((L.length : Int) == 0) = false := by simp; intro h; subst h; simp at hm1
      clear hL hok hrow hrow2
      go_enter Try.func24, Try.ntmps24
      go_wp2_with (first
        | (go_at_call 20; refine (rmult_any _ _ _ _ _ _ _).mono ?_; rintro e w1 ⟨v, rfl, hown, hb1⟩; rw [HL.out] at hown; obtain ⟨A, c, rfl⟩ := own_shape hown; clear hown; have hcn : w1.cell? ⟨w.heap.size, 2, none⟩ = some (.int .i64 n) := (by rw [hb1.cell (p := ⟨w.heap.size, 2, none⟩) (by simp)]; simp); have HB := Lib.hid hb1; clear hb1)
        | (go_at_call 49; refine (in13_any _ _ _ _).mono ?_; rintro e w' ⟨rfl, rfl⟩; rw [HR.out]))
      go_ret
      exact RetOwn.nil (Below.after (by go_grown) HB.out)
  · rw [ordI_no fun h => hok h.1]
    have hm := mulI_no hok
    have HM := Lib.hid hm
    clear hok hm
    go_enter Try.func24, Try.ntmps24
    go_wp2_with (go_at_call 20; refine (rmult_any _ _ _ _ _ _ _).mono ?_; rintro e w1 ⟨v, rfl, hown, hb1⟩; rw [HM.out] at hown; obtain ⟨A, c, rfl⟩ := own_shape hown; clear hown; have HB := Lib.hid hb1; clear hb1)
    go_ret
    exact RetOwn.nil (Below.after (by go_grown) HB.out)
end Go.Proofs.Ytffdhckilhhejaa
