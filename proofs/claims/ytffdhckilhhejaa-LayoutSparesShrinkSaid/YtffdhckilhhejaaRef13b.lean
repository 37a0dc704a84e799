/- Walks of the reference of layer 13: Multipliers, Period, Order, Position, Rack. -/
import Derived.Test.YtffdhckilhhejaaRef13
namespace Go.Proofs.Ytffdhckilhhejaa
open Go.RowKit
set_option linter.unusedVariables false
set_option linter.unusedSimpArgs false

/-- The multipliers as the reference gathers them. -/
def rmul (d r k : Nat) : List Nat := 1 :: ((List.range k).map fun i => 1 + (i + 1) * r).filter fun a => Nat.gcd a d == 1
theorem rmul_yes (d r k : Nat) (h : (Nat.gcd (1 + (k + 1) * r) d == 1) = true) : rmul d r (k + 1) = rmul d r k ++ [1 + (k + 1) * r] := by
  simp only [rmul, List.range_succ, List.map_append, List.filter_append, List.map_cons, List.map_nil, List.cons_append]
  simp only [List.filter_cons, h, if_true, List.filter_nil]
theorem rmul_no (d r k : Nat) (h : (Nat.gcd (1 + (k + 1) * r) d == 1) = false) : rmul d r (k + 1) = rmul d r k := by
  simp only [rmul, List.range_succ, List.map_append, List.filter_append, List.map_cons, List.map_nil]
  simp [List.filter_cons, h]
theorem rmul_length (d r k : Nat) : (rmul d r k).length ≤ k + 1 := by
  simp only [rmul, List.length_cons]
  have := List.length_filter_le (fun a => Nat.gcd a d == 1) ((List.range k).map fun i => 1 + (i + 1) * r)
  simp at this; omega
theorem rmul_muls (d r k : Nat) (hd : 1 ≤ d) (hr : 1 ≤ r) (hdr : d = 1 → r = 1) (h1 : d ≤ 1 + (k + 1) * r) (h2 : k = 0 ∨ 1 + k * r < d) : rmul d r k = muls d r := by
  unfold muls
  by_cases hd1 : d = 1
  · rw [if_pos hd1]
    have : k = 0 := by
      rcases h2 with h2 | h2
      · exact h2
      · subst hd1; omega
    subst this; rfl
  · rw [if_neg hd1]
    have hc : k + 1 = cnt d r := cnt_eq d r (k + 1) hr h1 (.inr (by
      rw [Nat.add_sub_cancel]
      rcases h2 with h2 | h2
      · subst h2; omega
      · exact h2)) hd
    rw [← hc]
    simp only [prog, List.range_succ_eq_map, List.map_cons, List.filter_cons, Nat.zero_mul, Nat.add_zero, Nat.gcd_one_left]
    simp [rmul, Function.comp_def, Nat.succ_eq_add_one]

set_option maxHeartbeats 800000 in
theorem rmult_any (d r n s l i : Int) (w : World) :
    Calls Try.prog 20 #[.agg #[.int .i64 d, .int .i64 r, .int .i64 n, .int .i64 s, .int .i64 l, .int .i64 i]] w (RetOwn w (mulI d r n s l i)) := by
  by_cases hok : OkC d r n s l i
  · rw [mulI_yes hok]
    have hok2 := hok
    obtain ⟨⟨h1, h2⟩, ⟨h3, h4⟩, _, _, _, _, h5⟩ := hok2
    have H5 := Lib.hid h5
    clear h5
    have HK := Lib.hid hok
    clear hok
    obtain ⟨D, rfl⟩ := Int.eq_ofNat_of_zero_le (by omega : 0 ≤ d)
    obtain ⟨R, rfl⟩ := Int.eq_ofNat_of_zero_le (by omega : 0 ≤ r)
    have hdr : D = 1 → R = 1 := by
      intro h; subst h
      have h6 : ((1 : Nat) % R : Nat) = 0 := by have := H5.out; omega
      rcases Nat.lt_or_ge 1 R with h7 | h7
      · rw [Nat.mod_eq_of_lt h7] at h6; omega
      · omega
    have HDR := Lib.hid hdr
    clear hdr
    rw [Int.toNat_natCast, Int.toNat_natCast]
    go_enter Try.func20, Try.ntmps20
    go_wp2_with (go_at_call 17; refine (rcheck_yes _ _ _ _ _ _ _ HK.out).mono ?_; rintro e w1 ⟨rfl, hb1⟩; have hcd : w1.cell? ⟨w.heap.size, 0, none⟩ = some (.int .i64 D) := (by rw [hb1.cell (p := ⟨w.heap.size, 0, none⟩) (by simp)]; simp); have hcr : w1.cell? ⟨w.heap.size, 1, none⟩ = some (.int .i64 R) := (by rw [hb1.cell (p := ⟨w.heap.size, 1, none⟩) (by simp)]; simp); have hs1 : w.heap.size < w1.heap.size := (by have := hb1.size; simp at this; omega); have HB1 := Lib.hid hb1; clear hb1)
    go_loopw [3, 4] (fun v a wr => ∃ k : Nat, a = .int .i64 (1 + (k + 1) * R : Nat) ∧ k ≤ 64 ∧ (k = 0 ∨ 1 + k * R < D) ∧ wr.ownsRow w1.heap.size 3 1 v (rmul D R k).length ((I (rmul D R k)).map (Value.int .i64)) ∧
        Below w1.heap.size w1 wr)
      (fun _ a _ => D - (intOf a).toNat)
    case atStart =>
      refine ⟨0, by simp, by omega, .inl rfl, ?_, (Below.refl _ _).alloc (Nat.le_refl _) _⟩
      have := World.ownsRow_lit (base := w1.heap.size) (size := 1) (e := 3) w1 #[.int .i64 1] 1 (by simp) (by simp [maxLen]) (by simp)
      simpa [I, rmul] using this
    case round =>
      obtain ⟨k, rfl, hk, hk2, hown, hbel⟩ := hrel
      have hsz := hbel.size
      have hcr1 := Lib.hid hcr
      replace hcd : wr.cell? ⟨w.heap.size, 0, none⟩ = some (.int .i64 D) := by rw [hbel.cell (p := ⟨w.heap.size, 0, none⟩) hs1]; exact hcd
      replace hcr : wr.cell? ⟨w.heap.size, 1, none⟩ = some (.int .i64 R) := by rw [hbel.cell (p := ⟨w.heap.size, 1, none⟩) hs1]; exact hcr
      have hkr : (k + 1) * R ≤ 65 * 8 := Nat.mul_le_mul (by omega) (by omega)
      have hkr2 : k * R + R = (k + 1) * R := (Nat.succ_mul _ _).symm
      have hlen := rmul_length D R k
      have HYES := Lib.hid (rmul_yes D R k)
      have HNO := Lib.hid (rmul_no D R k)
      obtain ⟨a, ha⟩ : ∃ a, a = 1 + (k + 1) * R := ⟨_, rfl⟩
      rw [← ha] at HYES HNO ⊢
      have ha2 : a ≤ 1000 := by omega
      have HA := Lib.hid ha
      have HB := Lib.hid hbel
      have HO := Lib.hid hown
      have HK2 := Lib.hid hk2
      by_cases hlt : a < D
      · have hk3 : k < 64 := by
          have := Nat.le_mul_of_pos_right (k + 1) (by omega : 0 < R)
          omega
        have hstep : 1 + (k + 1 + 1) * R = a + R := by rw [ha, Nat.succ_mul (k + 1)]; omega
        have HST := Lib.hid hstep
        clear ha hkr hbel hown hk2 hkr2 hstep
        cases hg : (Nat.gcd a D == 1)
        · have hg2 : (((Nat.gcd a D : Nat) : Int) == 1) = false := by
            have : ¬ Nat.gcd a D = 1 := by simpa using hg
            simp; omega
          have HG := Lib.hid hg
          clear hg
          go_wp2_with (go_at_call 51; refine (divisor_any _ _ _ (by omega) (by omega) (by omega) (by omega)).mono ?_; rintro e w' ⟨rfl, n', rfl⟩; rw [Int.toNat_natCast, Int.toNat_natCast])
          go_roundw
          case rel =>
            refine ⟨k + 1, by rw [HST.out]; go_num, by omega, .inr (by rw [← HA.out]; exact hlt), ?_, below_drewN HB.out _⟩
            rw [HNO.out HG.out]; exact HO.out
          case measure => simp [intOf]; omega
        · have hg2 : (((Nat.gcd a D : Nat) : Int) == 1) = true := by
            have : Nat.gcd a D = 1 := by simpa using hg
            simp [this]
          have HG := Lib.hid hg
          clear hg
          go_wp2_with (first
            | (go_at_call 51; refine (divisor_any _ _ _ (by omega) (by omega) (by omega) (by omega)).mono ?_; rintro e w' ⟨rfl, n', rfl⟩; rw [Int.toNat_natCast, Int.toNat_natCast])
            | (at_builtin; refine wpList_appendX rfl _ _ _ rfl 3 (.int .i64 0) 8 Try.underlying28 infoInt rfl (by omega) w1 w1.heap.size _ _ _ rfl (own_drewN HO.out n') _ rfl rfl rfl (by omega) (below_drewN HB.out _) hsz ?_; intro v1 w2 hown1 hbel1 hg1; have hc11 : w2.cell? ⟨w.heap.size, 1, none⟩ = some (.int .i64 R) := ((hbel1.cell (p := ⟨w.heap.size, 1, none⟩) hs1).trans hcr1.out); have HO1 := Lib.hid hown1; have HB1 := Lib.hid hbel1; clear hown1 hbel1 hg1))
          go_roundw
          case rel =>
            refine ⟨k + 1, by rw [HST.out]; go_num, by omega, .inr (by rw [← HA.out]; exact hlt), ?_, HB1.out⟩
            rw [HYES.out HG.out, I_append, List.map_append, List.length_append]; exact HO1.out
          case measure => simp [intOf]; omega
      · have hfin : rmul D R k = muls D R := rmul_muls D R k (by omega) (by omega) HDR.out (by omega) hk2
        have HF := Lib.hid hfin
        clear ha hkr hbel hown hk2 hkr2 hfin
        go_wp2
        go_ret
        rw [HF.out] at HO
        refine ⟨_, rfl, ?_, ?_⟩
        · rw [I_length]; exact HO.out.mono (by omega)
        · exact (Below.after (by go_grown) HB1.out).trans (HB.out.mono (by omega))
  · rw [mulI_no hok]
    have HK := Lib.hid hok
    clear hok
    go_enter Try.func20, Try.ntmps20
    go_wp2_with (go_at_call 17; refine (rcheck_no _ _ _ _ _ _ _ HK.out).mono ?_; rintro e w1 ⟨rfl, hb1⟩)
    go_ret
    exact RetOwn.nil (((Below.refl _ _).alloc (Nat.le_refl _) _).trans (hb1.mono (by simp)))
end Go.Proofs.Ytffdhckilhhejaa
