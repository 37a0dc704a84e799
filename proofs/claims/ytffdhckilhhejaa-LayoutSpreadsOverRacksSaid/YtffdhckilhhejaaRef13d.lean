/- Walks of the reference of layer 13: Position, Rack; valid. -/
import Derived.Test.YtffdhckilhhejaaRef13c
namespace Go.Proofs.Ytffdhckilhhejaa
open Go.RowKit
set_option linter.unusedVariables false
set_option linter.unusedSimpArgs false

set_option maxHeartbeats 400000 in
theorem rposition_any (d r n s l i row disk : Int) (w : World) :
    Calls Try.prog 26 #[.agg #[.int .i64 d, .int .i64 r, .int .i64 n, .int .i64 s, .int .i64 l, .int .i64 i], .int .i64 row, .int .i64 disk] w fun e w' => e = .returned (.int .i64 (posI d r n s l i row disk)) ∧ Below w.heap.size w w' := by
  obtain ⟨L, hL⟩ : ∃ L, L = ordI d r n s l i row := ⟨_, rfl⟩
  have ho := fun w => rorder_any d r n s l i row w
  simp only [← hL] at ho
  have HO := Lib.hid ho
  unfold posI
  rw [← hL]
  clear hL ho
  go_enter Try.func26, Try.ntmps26
  go_wp2_with (go_at_call 24; refine (HO.out _).mono ?_; rintro e w1 ⟨v, rfl, hown, hb1⟩; obtain ⟨A, c, rfl, h6, h7, h8⟩ := Ints.of_own hown; have HB := Lib.hid hb1; clear hb1 hown; unfold maxLen at h7)
  go_loop [8] (fun i => ∃ k : Nat, k ≤ L.length ∧ i = .int .i64 k ∧ ∀ j, j < k → L.getD j 0 ≠ disk) (fun i => L.length - (intOf i).toNat)
  case atStart => exact ⟨0, Nat.zero_le _, rfl, by omega⟩
  case round =>
    obtain ⟨k, hk, rfl, hno⟩ := hrel
    have HN := Lib.hid hno; clear hno
    by_cases hlt : k < L.length
    · obtain ⟨b, o, rfl, _, hc⟩ := h8 (by omega)
      have hck := hc k hlt
      rw [getD_lt _ _ _ hlt] at hck
      clear hc h8
      by_cases he : L[k] = disk
      · have heq : (L[k] == disk) = true := by simp [he]
        have HE := Lib.hid he
        clear he
        go_wp2
        go_ret
        exact ⟨ret_i (idxI_at L disk k hlt HE.out.symm HN.out).symm, Below.after (by go_grown) HB.out⟩
      · have heq : (L[k] == disk) = false := by simp [he]
        have HE := Lib.hid he
        clear he
        go_wp2
        go_round
        case rel =>
          refine ⟨k + 1, by omega, by go_num, fun j hj => ?_⟩
          rcases Nat.lt_or_ge j k with h | h
          · exact HN.out j h
          · have : j = k := by omega
            subst this
            rw [getD_lt _ _ _ hlt]; exact HE.out
        case measure => simp [intOf]; omega
    · go_wp2
      go_ret
      exact ⟨ret_i (idxI_no L disk fun j hj => HN.out j (by omega)).symm, Below.after (by go_grown) HB.out⟩

set_option maxHeartbeats 800000 in
theorem rrack_any (d r n s l i row p : Int) (w : World) :
    Calls Try.prog 28 #[.agg #[.int .i64 d, .int .i64 r, .int .i64 n, .int .i64 s, .int .i64 l, .int .i64 i], .int .i64 row, .int .i64 p] w fun e w' => e = .returned (.int .i64 (rackI d r n s l i row p)) ∧ Below w.heap.size w w' := by
  have ho := fun w => rorder_any d r n s l i row w
  by_cases hok : (OkC d r n s l i ∧ 0 ≤ row ∧ row < n) ∧ 0 ≤ p ∧ p < d
  · have hfin : rackI d r n s l i row p = (I (ord d.toNat r.toNat row.toNat)).getD p.toNat 0 % r := if_pos hok
    rw [hfin]
    rw [ordI_yes hok.1] at ho
    have hLl : (I (ord d.toNat r.toNat row.toNat)).length = d.toNat := by rw [I_length, ord_length]
    have hL0 : 0 ≤ (I (ord d.toNat r.toNat row.toNat)).getD p.toNat 0 := by rw [I_getD]; omega
    obtain ⟨L, hL⟩ : ∃ L, L = I (ord d.toNat r.toNat row.toNat) := ⟨_, rfl⟩
    rw [← hL] at hLl hL0 ⊢
    simp only [← hL] at ho
    obtain ⟨⟨hok1, hr0, hr1⟩, hp0, hp1⟩ := hok
    have hok2 := hok1
    obtain ⟨⟨h1, h2⟩, ⟨h3, h4⟩, _⟩ := hok2
    have hLz : (L.length : Int) = d := by omega
    have hp3 : p.toNat < L.length := by omega
    have hin : (decide (0 ≤ p) && decide (p ≤ d - 1)) = true := by simp; omega
    have hrz : (r == 0) = false := by simp; omega
    have HO := Lib.hid ho
    have HI := Lib.hid hin
    obtain ⟨P, rfl⟩ := Int.eq_ofNat_of_zero_le hp0
    rw [Int.toNat_natCast] at hp3 hL0 ⊢
    obtain ⟨x, hx⟩ : ∃ x, x = L.getD P 0 := ⟨_, rfl⟩
    rw [← hx] at hL0 ⊢
    have HX := Lib.hid hx
    have HLz := Lib.hid hLz
    clear ho hok1 hfin hL hLl hin hx hLz
    go_enter Try.func28, Try.ntmps28
    go_wp2_with (first
      | (go_at_call 24; refine (HO.out _).mono ?_; rintro e w1 ⟨v, rfl, hown, hb1⟩; obtain ⟨A, c, rfl, h6, h7, h8⟩ := Ints.of_own hown; obtain ⟨b, o, rfl, h9, h10⟩ := h8 (by omega); have h11 := h10 P hp3; rw [← HX.out] at h11; have hcr : w1.cell? ⟨w.heap.size, 1, none⟩ = some (.int .i64 r) := (by rw [hb1.cell (p := ⟨w.heap.size, 1, none⟩) (by simp)]; simp); have HB := Lib.hid hb1; clear hb1 hown h8 h10; unfold maxLen at h7)
      | (go_at_call 49; refine (in13_any _ _ _ _).mono ?_; rintro e w' ⟨rfl, rfl⟩; rw [HLz.out, HI.out]))
    go_quiet (fail)
    go_wp2
    go_ret
    exact ⟨rfl, below_drewN (Below.after (by go_grown) HB.out) _⟩
  · have hfin : rackI d r n s l i row p = -1 := rackI_no hok
    rw [hfin]
    obtain ⟨L, hL⟩ : ∃ L, L = ordI d r n s l i row := ⟨_, rfl⟩
    simp only [← hL] at ho
    have hlen : L.length ≤ 64 := by
      rw [hL]; unfold ordI
      split
      · rename_i h; rw [I_length, ord_length]; obtain ⟨⟨h1, h2⟩, _⟩ := h.1; omega
      · simp
    have hin : (decide (0 ≤ p) && decide (p ≤ (L.length : Int) - 1)) = false := by
      simp only [Bool.and_eq_false_iff, decide_eq_false_iff_not]
      by_cases h0 : 0 ≤ p
      · right
        intro h1
        have hL2 : 0 < L.length := by omega
        by_cases h : OkC d r n s l i ∧ 0 ≤ row ∧ row < n
        · rw [hL, ordI_yes h, I_length, ord_length] at h1
          obtain ⟨⟨h3, h4⟩, _⟩ := h.1
          exact hok ⟨h, h0, by omega⟩
        · rw [hL, ordI_no h] at hL2; simp at hL2
      · exact .inl h0
    have HO := Lib.hid ho
    have HI := Lib.hid hin
    clear ho hok hfin hL hin
    go_enter Try.func28, Try.ntmps28
    go_wp2_with (first
      | (go_at_call 24; refine (HO.out _).mono ?_; rintro e w1 ⟨v, rfl, hown, hb1⟩; obtain ⟨A, c, rfl⟩ := own_shape hown; have HB := Lib.hid hb1; clear hb1 hown)
      | (go_at_call 49; refine (in13_any _ _ _ _).mono ?_; rintro e w' ⟨rfl, rfl⟩; rw [HI.out]))
    go_ret
    exact ⟨rfl, Below.after (by go_grown) HB.out⟩

def vldI (d r n s l i : Int) : Bool := decide (OkC d r n s l i)
theorem valid_any (d r n s l i : Int) (w : World) :
    Calls Try.prog 29 #[.agg #[.int .i64 d, .int .i64 r, .int .i64 n, .int .i64 s, .int .i64 l, .int .i64 i]] w fun e w' => e = .returned (.bool (vldI d r n s l i)) ∧ Below w.heap.size w w' := by
  unfold vldI
  by_cases hok : OkC d r n s l i
  · rw [decide_eq_true hok]
    have HK := Lib.hid hok
    clear hok
    go_enter Try.func29, Try.ntmps29
    go_wp2_with (go_at_call 17; refine (rcheck_yes _ _ _ _ _ _ _ HK.out).mono ?_; rintro e w1 ⟨rfl, hb1⟩)
    go_ret
    exact ⟨rfl, Below.after (by go_grown) hb1⟩
  · rw [decide_eq_false hok]
    have HK := Lib.hid hok
    clear hok
    go_enter Try.func29, Try.ntmps29
    go_wp2_with (go_at_call 17; refine (rcheck_no _ _ _ _ _ _ _ HK.out).mono ?_; rintro e w1 ⟨rfl, hb1⟩)
    go_ret
    exact ⟨rfl, Below.after (by go_grown) hb1⟩
end Go.Proofs.Ytffdhckilhhejaa
