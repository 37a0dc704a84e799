/- Walks of the reference of layer 13. -/
import Derived.Test.YtffdhckilhhejaaDes6
namespace Go.Proofs.Ytffdhckilhhejaa
open Go.RowKit
set_option linter.unusedVariables false
set_option linter.unusedSimpArgs false

theorem in13_any (a b c : Int) (w : World) :
    Calls Try.prog 49 #[.int .i64 a, .int .i64 b, .int .i64 c] w fun e w' => e = .returned (.bool (decide (b ≤ a) && decide (a ≤ c))) ∧ w = w' := by
  by_cases h : b ≤ a
  · by_cases h2 : a ≤ c
    · go_enter Try.func49, Try.ntmps49
      go_wp2
      go_ret
      first | (simp [h, h2]; done) | (simp [h, h2]; omega)
    · have h2' : c < a := by omega
      go_enter Try.func49, Try.ntmps49
      go_wp2
      go_ret
      first | (simp [h, h2]; done) | (simp [h, h2]; omega)
  · have h' : a < b := by omega
    go_enter Try.func49, Try.ntmps49
    go_wp2
    go_ret
    first | (simp [h]; done) | (simp; intros; omega)

set_option maxHeartbeats 1600000 in
theorem rcheck_any (d r n s l i : Int) (w : World) :
    Calls Try.prog 17 #[.agg #[.int .i64 d, .int .i64 r, .int .i64 n, .int .i64 s, .int .i64 l, .int .i64 i]] w fun e w' => e = .returned (.int .i64 (chkI d r n s l i)) ∧ Below w.heap.size w w' := by
  go_enter Try.func17, Try.ntmps17
  go_wp2_with (go_at_call 49; refine (in13_any _ _ _ _).mono ?_; rintro e w' ⟨rfl, rfl⟩)
  all_goals (go_ret; refine ⟨ret_i ?_, by go_grown⟩)
  all_goals first
    | (rw [chkI_no]; unfold OkC; intro h; obtain ⟨h1, h2, h3, h4, h5, h6, h7⟩ := h; first | (exact absurd h1 ‹_›) | (exact absurd h2 ‹_›) | (exact absurd h3 ‹_›) | (exact absurd h4 ‹_›) | (exact absurd h5 ‹_›) | (exact absurd h7 ‹_›) | (have hx : (!decide (1 ≤ i)) = true ∨ (!decide (i ≤ 65536)) = true := (by assumption); simp at hx; omega) | (have hx : (!decide (0 ≤ s)) = true ∨ (!decide (s ≤ d - 1)) = true := (by assumption); simp at hx; omega); done)
    | (rw [chkI_yes]; have hx : (!decide (1 ≤ i)) = false ∧ (!decide (i ≤ 65536)) = false := (by assumption); have hy : (!decide (0 ≤ s)) = false ∧ (!decide (s ≤ d - 1)) = false := (by assumption); exact ⟨‹_›, ‹_›, ‹_›, by simpa using hy, ‹_›, by simpa using hx, ‹_›⟩)
theorem rcheck_yes (d r n s l i : Int) (w : World) (h : OkC d r n s l i) :
    Calls Try.prog 17 #[.agg #[.int .i64 d, .int .i64 r, .int .i64 n, .int .i64 s, .int .i64 l, .int .i64 i]] w fun e w' => e = .returned (.int .i64 0) ∧ Below w.heap.size w w' := by
  have := rcheck_any d r n s l i w; rwa [chkI_yes h] at this
theorem rcheck_no (d r n s l i : Int) (w : World) (h : ¬ OkC d r n s l i) :
    Calls Try.prog 17 #[.agg #[.int .i64 d, .int .i64 r, .int .i64 n, .int .i64 s, .int .i64 l, .int .i64 i]] w fun e w' => e = .returned (.int .i64 1) ∧ Below w.heap.size w w' := by
  have := rcheck_any d r n s l i w; rwa [chkI_no h] at this

set_option maxHeartbeats 400000 in
theorem divisor_any (a b : Int) (w : World) (ha : 0 ≤ a) (hb : 0 ≤ b) (ha2 : a ≤ 9223372036854775807) (hb2 : b ≤ 9223372036854775807) :
    Calls Try.prog 51 #[.int .i64 a, .int .i64 b] w fun e w' => e = .returned (.int .i64 (Nat.gcd a.toNat b.toNat)) ∧ ∃ n, w' = w.drewN n := by
  obtain ⟨x0, rfl⟩ := Int.eq_ofNat_of_zero_le ha
  obtain ⟨y0, rfl⟩ := Int.eq_ofNat_of_zero_le hb
  rw [Int.toNat_natCast, Int.toNat_natCast]
  go_enter Try.func51, Try.ntmps51
  go_wp2
  go_loopw [0, 1] (fun a b wr => ∃ x y n : Nat, a = .int .i64 x ∧ b = .int .i64 y ∧ x ≤ 9223372036854775807 ∧ y ≤ 9223372036854775807 ∧ Nat.gcd x y = Nat.gcd x0 y0 ∧ wr = w.drewN n) (fun _ b _ => (intOf b).toNat)
  case atStart => exact ⟨x0, y0, 0, rfl, rfl, by omega, by omega, rfl, rfl⟩
  case round =>
    obtain ⟨x, y, n, rfl, rfl, hx, hy, hg, rfl⟩ := hrel
    have HG := Lib.hid hg; clear hg
    by_cases hlt : 0 < y
    · go_wp2
      go_quiet (fail)
      go_wp2
      go_roundw
      case rel => exact ⟨y, x % y, _, rfl, by simp, by omega, by have := Nat.mod_lt x hlt; omega, by rw [← HG.out, Nat.gcd_comm y, ← Nat.gcd_rec]; exact Nat.gcd_comm _ _, World.drewN_drewN _ _ _⟩
      case measure => simp [intOf]; exact Nat.mod_lt _ hlt
    · go_wp2
      go_ret
      obtain rfl : y = 0 := by omega
      exact ⟨ret_i (by rw [← HG.out]; simp), _, rfl⟩

/-- 'Same': two lists of integers. -/
theorem same_any (v u : Value) (a b : List Int) (w : World) (ha : Ints w v a) (hb : Ints w u b) :
    Calls Try.prog 18 #[v, u] w fun e w' => e = .returned (.bool (decide (a = b))) ∧ ∃ n, w' = w.drewN n := by
  obtain ⟨A, c, rfl, h1, h2, h3⟩ := ha
  obtain ⟨B, c', rfl, h4, h5, h6⟩ := hb
  unfold maxLen at h2 h5
  by_cases hlen : a.length = b.length
  · have hne : ((a.length : Int) != (b.length : Int)) = false := by simp [hlen]
    have hbl : b.length ≤ a.length := by omega
    have hbl2 : a.length ≤ b.length := by omega
    have HL := Lib.hid hlen
    clear hlen
    go_enter Try.func18, Try.ntmps18
    go_wp2
    go_loopw [5] (fun i wr => ∃ k n : Nat, k ≤ a.length ∧ i = .int .i64 k ∧ wr = w.drewN n ∧ a.take k = b.take k) (fun i _ => a.length - (intOf i).toNat)
    case atStart => exact ⟨0, 0, Nat.zero_le _, rfl, rfl, by simp⟩
    case round =>
      obtain ⟨k, n, hk, rfl, rfl, hno⟩ := hrel
      have HN := Lib.hid hno; clear hno
      by_cases hlt : k < a.length
      · obtain ⟨x, o, rfl, _, hc⟩ := h3 (by omega)
        obtain ⟨y, o', rfl, _, hc'⟩ := h6 (by omega)
        have hkb : k < b.length := by omega
        replace hc := hc k hlt
        replace hc' := hc' k hkb
        rw [getD_lt _ _ _ hlt] at hc
        rw [getD_lt _ _ _ hkb] at hc'
        clear h3 h6
        by_cases he : a[k] = b[k]
        · have hne2 : (a[k] != b[k]) = false := by simp [he]
          have HE := Lib.hid he
          clear he
          go_wp2
          go_quiet (fail)
          go_wp2
          go_roundw
          case rel => exact ⟨k + 1, _, by omega, by go_num, (by first | exact World.drewN_drewN _ _ _ | rfl), by rw [List.take_succ_eq_append_getElem hlt, List.take_succ_eq_append_getElem hkb, HN.out, HE.out]⟩
          case measure => simp [intOf]; omega
        · have hne2 : (a[k] != b[k]) = true := by simp [he]
          have HE := Lib.hid he
          clear he
          go_wp2
          go_quiet (fail)
          go_wp2
          go_ret
          refine ⟨ret_b ?_, _, (by first | exact World.drewN_drewN _ _ _ | rfl)⟩
          symm; apply decide_eq_false
          rintro rfl
          exact HE.out rfl
      · go_wp2
        go_ret
        refine ⟨ret_b ?_, _, rfl⟩
        symm; apply decide_eq_true
        have := HN.out
        have hL := HL.out
        rwa [List.take_of_length_le (by omega), List.take_of_length_le (by omega)] at this
  · have hne : ((a.length : Int) != (b.length : Int)) = true := by simp; omega
    have HL := Lib.hid hlen
    clear hlen
    go_enter Try.func18, Try.ntmps18
    go_wp2
    go_ret
    refine ⟨ret_b ?_, 0, rfl⟩
    symm; apply decide_eq_false
    rintro rfl
    exact HL.out rfl
theorem same_yes (v u : Value) (a : List Int) (w : World) (ha : Ints w v a) (hb : Ints w u a) :
    Calls Try.prog 18 #[v, u] w fun e w' => e = .returned (.bool true) ∧ ∃ n, w' = w.drewN n := by
  have := same_any v u a a w ha hb
  rwa [decide_eq_true rfl] at this
end Go.Proofs.Ytffdhckilhhejaa
