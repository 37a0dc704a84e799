/- Walks of package design (layer 13): Position, Rack. -/
import Derived.Test.YtffdhckilhhejaaDes5
namespace Go.Proofs.Ytffdhckilhhejaa
open Go.RowKit
set_option linter.unusedVariables false
set_option linter.unusedSimpArgs false

def posI (d r n s l i row disk : Int) : Int := idxI (ordI d r n s l i row) disk

theorem position_any (d r n s l i row disk : Int) (w : World) :
    Calls Try.prog 25 #[.agg #[.int .i64 d, .int .i64 r, .int .i64 n, .int .i64 s, .int .i64 l, .int .i64 i], .int .i64 row, .int .i64 disk] w fun e w' => e = .returned (.int .i64 (posI d r n s l i row disk)) ∧ Below w.heap.size w w' := by
  obtain ⟨L, hL⟩ : ∃ L, L = ordI d r n s l i row := ⟨_, rfl⟩
  have HL := Lib.hid hL
  have ho := fun w => order_any d r n s l i row w
  simp only [← hL] at ho
  have HO := Lib.hid ho
  unfold posI
  rw [← hL]
  clear hL ho
  go_enter Try.func25, Try.ntmps25
  go_wp2_with (first
    | (go_at_call 23; refine (HO.out _).mono ?_; rintro e w1 ⟨v, rfl, hown, hb1⟩; have hI := Lib.hid (Ints.of_own hown); have HB := Lib.hid hb1; clear hb1 hown)
    | (go_at_call 53; refine (index_any _ L _ _ hI.out).mono ?_; rintro e w' ⟨rfl, rfl⟩))
  go_ret
  exact ⟨rfl, Below.after (by go_grown) HB.out⟩

/-- The rack of the disk at a position. -/
def rackI (d r n s l i row p : Int) : Int := if (OkC d r n s l i ∧ 0 ≤ row ∧ row < n) ∧ 0 ≤ p ∧ p < d then ((I (ord d.toNat r.toNat row.toNat)).getD p.toNat 0) % r else -1
theorem rackI_no {d r n s l i row p : Int} (h : ¬ ((OkC d r n s l i ∧ 0 ≤ row ∧ row < n) ∧ 0 ≤ p ∧ p < d)) : rackI d r n s l i row p = -1 := if_neg h
theorem mod_mul_one (a p x d r : Nat) (hd : 1 ≤ d) (hr : r ∣ d) (ha : a % r = 1 % r ∨ d = 1) : ((a * p + x) % d) % r = (p + x % d) % r := by
  rw [Nat.mod_mod_of_dvd _ hr]
  rcases ha with ha | ha
  · rw [Nat.add_mod, Nat.mul_mod, ha, ← Nat.mul_mod, Nat.one_mul, ← Nat.add_mod, Nat.add_mod p (x % d), Nat.mod_mod_of_dvd _ hr, ← Nat.add_mod]
  · subst ha
    have : r = 1 := Nat.dvd_one.1 hr
    subst this; simp [Nat.mod_one]
theorem rackI_yes {d r n s l i : Int} {X p : Nat} (h : OkC d r n s l i) (h1 : (X : Int) < n) (h2 : (p : Int) < d) : rackI d r n s l i X p = ((p : Int) + (X : Int) % d) % r := by
  unfold rackI
  rw [if_pos ⟨⟨h, by omega, h1⟩, by omega, h2⟩]
  obtain ⟨⟨hd1, hd2⟩, ⟨hr1, hr2⟩, _, _, _, _, h5⟩ := h
  obtain ⟨D, rfl⟩ := Int.eq_ofNat_of_zero_le (by omega : 0 ≤ d)
  obtain ⟨R, rfl⟩ := Int.eq_ofNat_of_zero_le (by omega : 0 ≤ r)
  have hdv : R ∣ D := Nat.dvd_of_mod_eq_zero (by omega)
  simp only [Int.toNat_natCast]
  rw [ord_getD D R X p (by omega)]
  have hmm := mulAt_mem D R X (by omega) (by omega)
  have := mod_mul_one (mulAt D R X) p X D R (by omega) hdv (by
    rcases Nat.lt_or_ge 1 D with hD | hD
    · exact .inl (muls_mod D R _ hmm hD)
    · exact .inr (by omega))
  have e : (((mulAt D R X * p + X) % D : Nat) : Int) % (R : Int) = (((mulAt D R X * p + X) % D % R : Nat) : Int) := by simp
  rw [e, this]; simp

set_option maxHeartbeats 800000 in
theorem rack_any (d r n s l i row p : Int) (w : World) :
    Calls Try.prog 27 #[.agg #[.int .i64 d, .int .i64 r, .int .i64 n, .int .i64 s, .int .i64 l, .int .i64 i], .int .i64 row, .int .i64 p] w fun e w' => e = .returned (.int .i64 (rackI d r n s l i row p)) ∧ Below w.heap.size w w' := by
  by_cases hok : OkC d r n s l i ∧ 0 ≤ row ∧ row < n
  · obtain ⟨hok1, hr0, hr1⟩ := hok
    have hok2 := hok1
    obtain ⟨⟨h1, h2⟩, ⟨h3, h4⟩, _⟩ := hok2
    have hru := fun w => rule_yes d r n s l i row w hok1 hr0 hr1
    obtain ⟨a, ha⟩ : ∃ a, a = mulAt d.toNat r.toNat row.toNat := ⟨_, rfl⟩
    simp only [← ha] at hru
    have HRU := Lib.hid hru
    have HK := Lib.hid hok1
    have hxd : row % d < d := Int.emod_lt_of_pos _ (by omega)
    have hxd0 : 0 ≤ row % d := Int.emod_nonneg _ (by omega)
    have hrz : (r == 0) = false := by simp; omega
    by_cases hp : 0 ≤ p ∧ p < d
    · have hfin : rackI d r n s l i row p = (p + row % d) % r := by
        obtain ⟨X, rfl⟩ := Int.eq_ofNat_of_zero_le hr0
        obtain ⟨P, rfl⟩ := Int.eq_ofNat_of_zero_le hp.1
        exact rackI_yes hok1 hr1 hp.2
      rw [hfin]
      obtain ⟨hp1, hp2⟩ := hp
      clear hru hok1 hfin ha
      go_enter Try.func27, Try.ntmps27
      go_wp2_with (go_at_call 52; refine (HRU.out _).mono ?_; rintro e w1 ⟨rfl, hb1⟩; have hcd : w1.cell? ⟨w.heap.size, 0, none⟩ = some (.int .i64 d) := (by rw [hb1.cell (p := ⟨w.heap.size, 0, none⟩) (by simp)]; simp); have hcr : w1.cell? ⟨w.heap.size, 1, none⟩ = some (.int .i64 r) := (by rw [hb1.cell (p := ⟨w.heap.size, 1, none⟩) (by simp)]; simp); have HB1 := Lib.hid hb1; clear hb1)
      go_ret
      exact ⟨rfl, Below.after (by go_grown) HB1.out⟩
    · have hfin : rackI d r n s l i row p = -1 := rackI_no fun h => hp h.2
      rw [hfin]
      have HP := Lib.hid hp
      clear hru hok1 hfin hp ha
      go_enter Try.func27, Try.ntmps27
      go_wp2_with (go_at_call 52; refine (HRU.out _).mono ?_; rintro e w1 ⟨rfl, hb1⟩; have hcd : w1.cell? ⟨w.heap.size, 0, none⟩ = some (.int .i64 d) := (by rw [hb1.cell (p := ⟨w.heap.size, 0, none⟩) (by simp)]; simp); have hcr : w1.cell? ⟨w.heap.size, 1, none⟩ = some (.int .i64 r) := (by rw [hb1.cell (p := ⟨w.heap.size, 1, none⟩) (by simp)]; simp); have HB1 := Lib.hid hb1; clear hb1)
      all_goals first
        | (go_ret; exact ⟨rfl, Below.after (by go_grown) HB1.out⟩)
        | (exfalso; have hx : 0 ≤ p ∧ p < d := (by assumption); exact HP.out hx)
  · have hfin : rackI d r n s l i row p = -1 := rackI_no fun h => hok h.1
    rw [hfin]
    have HK := Lib.hid hok
    clear hok hfin
    go_enter Try.func27, Try.ntmps27
    go_wp2_with (go_at_call 52; refine (rule_no _ _ _ _ _ _ _ _ HK.out).mono ?_; rintro e w1 ⟨rfl, hb1⟩; have HB1 := Lib.hid hb1; clear hb1)
    go_ret
    exact ⟨rfl, Below.after (by go_grown) HB1.out⟩
end Go.Proofs.Ytffdhckilhhejaa
