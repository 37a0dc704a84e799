/- DesignRacks: the walk of the law. -/
import Derived.Test.YtffdhckilhhejaaLaw13b
namespace Go.Proofs.Ytffdhckilhhejaa
open Go.RowKit
set_option linter.unusedVariables false
set_option linter.unusedSimpArgs false

/-- How many of the last W positions ahead of p have their disks in rack k. -/
def rackF (R X W p k : Nat) : Int := if k < R then ((upto R k (X + p) : Nat) : Int) - ((upto R k (X + (p - W)) : Nat) : Int) else 0
theorem rackF_zero (R X W k : Nat) : rackF R X W 0 k = 0 := by unfold rackF; split <;> simp
theorem rackF_bd (R X W p k : Nat) (hR : 1 ≤ R) (hR8 : R ≤ 8) (hW : 1 ≤ W) : rackF R X W p k ≤ ((W : Int) + R - 1) / R ∧ 0 ≤ rackF R X W p k := by
  have hd : ((W : Int) + R - 1) / R = (((W + R - 1) / R : Nat) : Int) := by
    have : ((W : Int) + R - 1) = ((W + R - 1 : Nat) : Int) := by omega
    rw [this]; simp
  unfold rackF
  split
  · rename_i hk
    have := upto_window R k (X + (p - W)) (X + p) W hR hR8 hk (by omega) (by omega)
    rw [hd]; omega
  · rw [hd]; exact ⟨Int.natCast_nonneg _, Int.le_refl _⟩
/-- A step within the first W positions. -/
theorem rackF_in (R X W p j : Nat) (hR : 1 ≤ R) (hR8 : R ≤ 8) (hp : p < W) : (if j = (X + p) % R then rackF R X W p ((X + p) % R) + 1 else rackF R X W p j) = rackF R X W (p + 1) j := by
  have hk0 := Nat.mod_lt (X + p) (by omega : 0 < R)
  have h1 : p - W = 0 := by omega
  have h2 : p + 1 - W = 0 := by omega
  unfold rackF
  rw [h1, h2]
  by_cases hj : j = (X + p) % R
  · subst hj
    rw [if_pos rfl, if_pos hk0, if_pos hk0, ← Nat.add_assoc, upto_succ R _ (X + p) hR hR8 hk0, if_pos rfl]
    omega
  · rw [if_neg hj]
    split
    · rename_i hk
      rw [← Nat.add_assoc, upto_succ R _ (X + p) hR hR8 hk, if_neg (fun e => hj e.symm)]; omega
    · rfl
/-- A step behind them: one disk comes, one goes. -/
theorem rackF_out (R X W p j : Nat) (hR : 1 ≤ R) (hR8 : R ≤ 8) (hp : W ≤ p) (hW : 1 ≤ W) :
    (if j = (X + (p - W)) % R then (if (X + (p - W)) % R = (X + p) % R then rackF R X W p ((X + p) % R) + 1 else rackF R X W p ((X + (p - W)) % R)) - 1 else (if j = (X + p) % R then rackF R X W p ((X + p) % R) + 1 else rackF R X W p j)) = rackF R X W (p + 1) j := by
  have hk0 := Nat.mod_lt (X + p) (by omega : 0 < R)
  have hk1 := Nat.mod_lt (X + (p - W)) (by omega : 0 < R)
  have h2 : X + (p + 1 - W) = X + (p - W) + 1 := by omega
  have key : ∀ k, k < R → rackF R X W (p + 1) k = rackF R X W p k + (if (X + p) % R = k then 1 else 0) - (if (X + (p - W)) % R = k then 1 else 0) := by
    intro k hk
    unfold rackF
    rw [if_pos hk, if_pos hk, h2, ← Nat.add_assoc, upto_succ R k (X + p) hR hR8 hk, upto_succ R k (X + (p - W)) hR hR8 hk]
    split <;> split <;> omega
  by_cases hj : j < R
  · rw [key j hj]
    by_cases e1 : j = (X + (p - W)) % R
    · subst e1
      rw [if_pos rfl, if_pos rfl]
      by_cases e2 : (X + (p - W)) % R = (X + p) % R
      · rw [if_pos e2, if_pos e2.symm, e2]
      · rw [if_neg e2, if_neg (fun e => e2 e.symm)]; omega
    · have f1 : ¬ (X + (p - W)) % R = j := fun e => e1 e.symm
      rw [if_neg e1, if_neg f1]
      by_cases e2 : j = (X + p) % R
      · have f2 : (X + p) % R = j := e2.symm
        rw [if_pos e2, if_pos f2, f2]; omega
      · have f2 : ¬ (X + p) % R = j := fun e => e2 e.symm
        rw [if_neg e2, if_neg f2]; omega
  · rw [if_neg (by omega), if_neg (by omega)]
    unfold rackF; rw [if_neg hj, if_neg hj]

theorem ord_rack (D R X p : Nat) (hD : 1 ≤ D) (hR : 1 ≤ R) (hdv : R ∣ D) (hp : p < D) : (ord D R X).getD p 0 % R = (X + p) % R := by
  rw [getD_lt _ _ _ (by rw [ord_length]; exact hp)]
  simp only [ord, List.getElem_map, List.getElem_range]
  have hm := mulAt_mem D R X hD hR
  have := mod_mul_one (mulAt D R X) p X D R hD hdv (by
    rcases Nat.lt_or_ge 1 D with h | h
    · exact .inl (muls_mod D R _ hm h)
    · exact .inr (by omega))
  rw [this, Nat.add_mod p, Nat.mod_mod_of_dvd _ hdv, ← Nat.add_mod, Nat.add_comm]

set_option maxHeartbeats 8000000 in
set_option maxRecDepth 100000 in
theorem designRacks_walk (d r n s l i row wd : Int) (w : World) :
    Calls Try.prog 5 #[.agg #[.int .i64 d, .int .i64 r, .int .i64 n, .int .i64 s, .int .i64 l, .int .i64 i], .int .i64 row, .int .i64 wd] w fun e w' => e = .returned (.bool true) ∧ Below w.heap.size w w' := by
  have hv := fun w => valid_any d r n s l i w
  have HB := Lib.hid ((Below.refl w.heap.size w).alloc (Nat.le_refl _) (.cells #[.int .i64 d, .int .i64 r, .int .i64 n, .int .i64 s, .int .i64 l, .int .i64 i] 23))
  have HX := Lib.hid (Box6.new w 23 d r n s l i)
  by_cases hok : OkC d r n s l i
  · simp only [vldI, decide_eq_true hok] at hv
    have HV := Lib.hid hv
    clear hv
    by_cases hin : (0 ≤ row ∧ row < n) ∧ 1 ≤ wd ∧ wd ≤ d
    · have ho := fun w => order_any d r n s l i row w
      obtain ⟨⟨hr0, hr1⟩, hw0, hw1⟩ := hin
      rw [ordI_yes ⟨hok, hr0, hr1⟩] at ho
      obtain ⟨D, R, N, rfl, rfl, rfl, hD1, hD2, hR1, hR2, hN1, hN2, hdv⟩ := hok.nat
      obtain ⟨X, rfl⟩ := Int.eq_ofNat_of_zero_le hr0
      obtain ⟨W, rfl⟩ := Int.eq_ofNat_of_zero_le (by omega : 0 ≤ wd)
      simp only [Int.toNat_natCast] at ho
      have hLl : (I (ord D R X)).length = D := by rw [I_length, ord_length]
      have hLd : ∀ p, p < D → (ord D R X).getD p 0 < D := fun p hp => by
        rw [getD_lt _ _ _ (by rw [ord_length]; exact hp)]; simp only [ord, List.getElem_map]; exact Nat.mod_lt _ (by omega)
      have hLr := fun p hp => ord_rack D R X p hD1 hR1 hdv hp
      have HLd := Lib.hid hLd
      have HLr := Lib.hid hLr
      have HO := Lib.hid ho
      have HL := Lib.hid hLl
      have hb := fun p k => rackF_bd R X W p k hR1 hR2 (by omega)
      have HBd := Lib.hid hb
      clear ho hok hdv hLl hLd hLr hb
      go_enter Try.func5, Try.ntmps5
      go_wp2_with (first
        | (go_at_call 29; refine (HV.out _).mono ?_; rintro e w' ⟨rfl, hb⟩; replace HX := Lib.hid (HX.out.keep (Below.after (by first | (exact below_drewN (by go_grown) _) | go_grown) hb)); replace HB := Lib.hid (Below.after HB.out (Below.after (by first | (exact below_drewN (by go_grown) _) | go_grown) hb)); (try (clear hg c0 c1 c2 c3 c4 c5)); obtain ⟨hg, c0, c1, c2, c3, c4, c5⟩ := HX.out; clear hb)
        | (go_at_call 23; refine (HO.out _).mono ?_; rintro e w' ⟨v, rfl, hown, hb⟩; replace HX := Lib.hid (HX.out.keep (Below.after (by first | (exact below_drewN (by go_grown) _) | go_grown) hb)); replace HB := Lib.hid (Below.after HB.out (Below.after (by first | (exact below_drewN (by go_grown) _) | go_grown) hb)); (try (clear hg c0 c1 c2 c3 c4 c5)); obtain ⟨hg, c0, c1, c2, c3, c4, c5⟩ := HX.out; clear hb; obtain ⟨b, o, c, rfl, hlc, hcm, hrow⟩ := (Ints.of_own hown).row (by rw [HL.out]; omega); rw [HL.out] at hlc ⊢; have HRo := Lib.hid hrow; clear hown hrow))
      obtain ⟨g, hgd⟩ : ∃ g, g = w'.heap.size := ⟨_, rfl⟩
      have hbg : b < g := by rw [hgd]; exact HRo.out.1
      have hwg : w.heap.size < g := by omega
      have hz : arr 8 (fun k => Value.int .i64 (rackF R X W 0 k)) = #[.int .i64 0, .int .i64 0, .int .i64 0, .int .i64 0, .int .i64 0, .int .i64 0, .int .i64 0, .int .i64 0] := by
        have : arr 8 (fun k => Value.int .i64 (rackF R X W 0 k)) = arr 8 (fun _ => Value.int .i64 0) := arr_congr _ _ _ fun i _ => by rw [rackF_zero]
        rw [this]; rfl
      have hblk := Blk.new w' 36 (arr 8 (fun k => Value.int .i64 (rackF R X W 0 k)))
      rw [hz, ← hgd] at hblk
      have hrow' := Lib.hid (HRo.out.keep ((Below.refl _ _).alloc (Nat.le_refl _) (.cells #[.int .i64 0, .int .i64 0, .int .i64 0, .int .i64 0, .int .i64 0, .int .i64 0, .int .i64 0, .int .i64 0] 36)))
      have hx' := Lib.hid (HX.out.keep ((Below.refl _ _).alloc (Nat.le_refl _) (.cells #[.int .i64 0, .int .i64 0, .int .i64 0, .int .i64 0, .int .i64 0, .int .i64 0, .int .i64 0, .int .i64 0] 36)))
      have hb' := Lib.hid (Below.after HB.out ((Below.refl _ _).alloc (Nat.le_refl _) (.cells #[.int .i64 0, .int .i64 0, .int .i64 0, .int .i64 0, .int .i64 0, .int .i64 0, .int .i64 0, .int .i64 0] 36)))
      have HBK := Lib.hid hblk
      have HZ := Lib.hid hz
      rw [← hgd]
      clear hz hblk hg c0 c1 c2 c3 c4 c5 hgd
      have hRz : ((R : Int) == 0) = false := by simp; omega
      go_loopw [47] (fun t wr => ∃ k : Nat, t = .int .i64 k ∧ k ≤ D ∧ Box6 wr w.heap.size D R N s l i ∧ Row wr b o (I (ord D R X)) ∧ Blk wr g 36 (arr 8 (fun j => Value.int .i64 (rackF R X W k j))) ∧ Below w.heap.size w wr) (fun t _ => D - (intOf t).toNat)
      case atStart => exact ⟨0, rfl, by omega, hx'.out, hrow'.out, by rw [HZ.out]; exact HBK.out, hb'.out⟩
      case round =>
        clear hrow' hx' hb' HBK HZ HRo HX HB
        obtain ⟨k, rfl, hk, hx, hrow, hblk, hbel⟩ := hrel
        have HX := Lib.hid hx
        have HRo := Lib.hid hrow
        have HBK := Lib.hid hblk
        have HB := Lib.hid hbel
        obtain ⟨hg, c0, c1, c2, c3, c4, c5⟩ := hx
        by_cases hlt : k < D
        · have hck := hrow.2 k (by rw [HL.out]; exact hlt)
          rw [I_getD] at hck
          have htD := HLd.out k hlt
          have htr := HLr.out k hlt
          obtain ⟨t, ht⟩ : ∃ t, t = (ord D R X).getD k 0 := ⟨_, rfl⟩
          rw [← ht] at hck htD htr
          have hm : ((t : Int) % (R : Int)).toNat = (X + k) % R := by rw [toNat_mod, htr]
          have hm0 : 0 ≤ (t : Int) % (R : Int) := Int.emod_nonneg _ (by omega)
          have hm8 : (t : Int) % (R : Int) < 8 := Int.lt_of_lt_of_le (Int.emod_lt_of_pos _ (by omega)) (by omega)
          obtain ⟨k0, hk0⟩ : ∃ k0, k0 = (X + k) % R := ⟨_, rfl⟩
          have hk8 : k0 < 8 := by rw [hk0]; have := Nat.mod_lt (X + k) (by omega : 0 < R); omega
          rw [← hk0] at hm
          have hc0 : wr.cell? ⟨g, k0, none⟩ = some (.int .i64 (rackF R X W k k0)) := by rw [hblk.cell, arr_get _ _ _ hk8]
          have hf0 : wr.frozen? ⟨g, k0, none⟩ = false := hblk.frozen k0
          obtain ⟨hb1, hb2⟩ := HBd.out k k0
          obtain ⟨x0, hx0⟩ : ∃ x0, x0 = rackF R X W k k0 := ⟨_, rfl⟩
          rw [← hx0] at hc0 hb1 hb2
          have hwr : ((W : Int) + R - 1) / R ≤ 1000 := Int.le_trans (Int.ediv_le_self _ (by omega)) (by omega)
          have HX0 := Lib.hid hx0
          have HK0 := Lib.hid hk0
          have HTR := Lib.hid htr
          clear hrow hblk hbel ht htr hx0 hk0
          by_cases hp : k < W
          · have hblk2 : Blk (wr.setCell ⟨g, k0, none⟩ (.int .i64 (x0 + 1))) g 36 (arr 8 (fun j => Value.int .i64 (rackF R X W (k + 1) j))) := by
              have := HBK.out.set_ k0 (.int .i64 (x0 + 1))
              rw [arr_set] at this
              have e2 : (arr 8 fun j => if j = k0 then Value.int .i64 (x0 + 1) else Value.int .i64 (rackF R X W k j)) = arr 8 (fun j => Value.int .i64 (rackF R X W (k + 1) j)) := arr_congr 8 _ _ fun j _ => by
                have e := rackF_in R X W k j hR1 hR2 hp
                rw [← HK0.out, ← HX0.out] at e
                show (if j = k0 then Value.int .i64 (x0 + 1) else Value.int .i64 (rackF R X W k j)) = _
                rw [← e]; split <;> rfl
              rw [e2] at this
              exact this
            have HX2 := Lib.hid (HX.out.keepB (below_set (Nat.le_refl g) k0 (.int .i64 (x0 + 1))) hwg)
            have HR2 := Lib.hid (HRo.out.keepB (below_set (Nat.le_refl g) k0 (.int .i64 (x0 + 1))) hbg)
            have HB2 := Lib.hid (HB.out.setCell (p := ⟨g, k0, none⟩) (Nat.le_of_lt hwg) (.int .i64 (x0 + 1)))
            have HBK2 := Lib.hid hblk2
            clear hblk2
            go_wp2_with (refine wpList_load_row rfl 36 _ rfl g rfl 36 (arr 8 (fun j => Value.int .i64 (rackF R X W (k + 1) j))) (0, 0) _ HBK2.out Try.underlying36 rfl (by rw [arr_size]; kernel_rfl) ?_)
            go_loop [79] (fun u => ∃ j : Nat, u = .int .i64 j ∧ j ≤ 8) (fun u => 8 - (intOf u).toNat)
            case atStart => exact ⟨0, rfl, by omega⟩
            case round =>
              obtain ⟨j, rfl, hj⟩ := hrel
              by_cases hj8 : j < 8
              · have hix := run_index_arr (P := Try.prog) 36 3 8 (arr 8 (fun j => Value.int .i64 (rackF R X W (k + 1) j))) j _ Try.underlying36 (fun _ => by kernel_rfl) (by kernel_rfl) hj8 (arr_get _ _ _ hj8)
                obtain ⟨hb3, hb4⟩ := HBd.out (k + 1) j
                obtain ⟨x1, hx1⟩ : ∃ x1, x1 = rackF R X W (k + 1) j := ⟨_, rfl⟩
                rw [← hx1] at hix hb3 hb4
                have HX1 := Lib.hid hx1
                clear hx1
                go_wp2
                go_round
                case rel => exact ⟨j + 1, by go_num, by omega⟩
                case measure => simp [intOf]; omega
              · go_wp2
                go_roundw
                case rel => exact ⟨k + 1, by go_num, by omega, HX2.out, HR2.out, HBK2.out, HB2.out⟩
                case measure => simp [intOf]; omega
          · have hkw : k - W < D := by omega
            have hc1 := HRo.out.2 (k - W) (by rw [HL.out]; exact hkw)
            rw [I_getD] at hc1
            have htD1 := HLd.out (k - W) hkw
            have htr1 := HLr.out (k - W) hkw
            obtain ⟨t1, ht1⟩ : ∃ t1, t1 = (ord D R X).getD (k - W) 0 := ⟨_, rfl⟩
            rw [← ht1] at hc1 htD1 htr1
            have hm1 : ((t1 : Int) % (R : Int)).toNat = (X + (k - W)) % R := by rw [toNat_mod, htr1]
            have hm10 : 0 ≤ (t1 : Int) % (R : Int) := Int.emod_nonneg _ (by omega)
            have hm18 : (t1 : Int) % (R : Int) < 8 := Int.lt_of_lt_of_le (Int.emod_lt_of_pos _ (by omega)) (by omega)
            obtain ⟨k1, hk1⟩ : ∃ k1, k1 = (X + (k - W)) % R := ⟨_, rfl⟩
            have hk18 : k1 < 8 := by rw [hk1]; have := Nat.mod_lt (X + (k - W)) (by omega : 0 < R); omega
            rw [← hk1] at hm1
            obtain ⟨wq, hwq⟩ : ∃ wq, wq = wr.setCell ⟨g, k0, none⟩ (.int .i64 (x0 + 1)) := ⟨_, rfl⟩
            have hbs := below_set (w := wr) (Nat.le_refl g) k0 (.int .i64 (x0 + 1))
            rw [← hwq] at hbs
            have hblk := HBK.out.set_ k0 (.int .i64 (x0 + 1))
            rw [arr_set, ← hwq] at hblk
            obtain ⟨x1, hx1⟩ : ∃ x1 : Int, x1 = if k1 = k0 then x0 + 1 else rackF R X W k k1 := ⟨_, rfl⟩
            have hd1 : wq.cell? ⟨g, k1, none⟩ = some (.int .i64 x1) := by
              rw [hblk.cell, arr_get _ _ _ hk18, hx1]; split <;> rfl
            have hf1 : wq.frozen? ⟨g, k1, none⟩ = false := hblk.frozen k1
            have hx1b : 0 ≤ x1 ∧ x1 ≤ 2000 := by
              obtain ⟨q1, q2⟩ := HBd.out k k1
              rw [hx1]; split <;> omega
            obtain ⟨hx1b0, hx1b1⟩ := hx1b
            have HXq := Lib.hid (HX.out.keepB hbs hwg)
            have HRq := Lib.hid (HRo.out.keepB hbs hbg)
            have HBq := Lib.hid (HB.out.trans (hbs.mono (Nat.le_of_lt hwg)))
            have e1 : wq.cell? ⟨b, o + (k - W), none⟩ = some (.int .i64 t1) := by rw [hbs.cell (p := ⟨b, o + (k - W), none⟩) hbg]; exact hc1
            obtain ⟨hgq, d0, d1, d2, d3, d4, d5⟩ := HXq.out
            have hblk2 : Blk (wq.setCell ⟨g, k1, none⟩ (.int .i64 (x1 - 1))) g 36 (arr 8 (fun j => Value.int .i64 (rackF R X W (k + 1) j))) := by
              have := hblk.set_ k1 (.int .i64 (x1 - 1))
              rw [arr_set] at this
              have e2 : (arr 8 fun j => if j = k1 then Value.int .i64 (x1 - 1) else if j = k0 then Value.int .i64 (x0 + 1) else Value.int .i64 (rackF R X W k j)) = arr 8 (fun j => Value.int .i64 (rackF R X W (k + 1) j)) := arr_congr 8 _ _ fun j _ => by
                have e := rackF_out R X W k j hR1 hR2 (by omega) (by omega)
                rw [← HK0.out, ← HX0.out, ← hk1, ← hx1] at e
                show (if j = k1 then Value.int .i64 (x1 - 1) else if j = k0 then Value.int .i64 (x0 + 1) else Value.int .i64 (rackF R X W k j)) = _
                rw [← e]; split
                · rfl
                · split <;> rfl
              rw [e2] at this
              exact this
            have HX2 := Lib.hid (HXq.out.keepB (below_set (Nat.le_refl g) k1 (.int .i64 (x1 - 1))) hwg)
            have HR2 := Lib.hid (HRq.out.keepB (below_set (Nat.le_refl g) k1 (.int .i64 (x1 - 1))) hbg)
            have HB2 := Lib.hid (HBq.out.setCell (p := ⟨g, k1, none⟩) (Nat.le_of_lt hwg) (.int .i64 (x1 - 1)))
            have HBK2 := Lib.hid hblk2
            have HWQ := Lib.hid hwq
            clear hblk2 hblk hbs hwq ht1 htr1 hk1 hx1 hc1
            go_wp2
            rw [← HWQ.out]
            clear hck hc0 hf0 c0 c1 c2 c3 c4 c5
            go_region
            go_wp2_with (refine wpList_load_row rfl 36 _ rfl g rfl 36 (arr 8 (fun j => Value.int .i64 (rackF R X W (k + 1) j))) (0, 0) _ HBK2.out Try.underlying36 rfl (by rw [arr_size]; kernel_rfl) ?_)
            go_loop [79] (fun u => ∃ j : Nat, u = .int .i64 j ∧ j ≤ 8) (fun u => 8 - (intOf u).toNat)
            case atStart => exact ⟨0, rfl, by omega⟩
            case round =>
              obtain ⟨j, rfl, hj⟩ := hrel
              by_cases hj8 : j < 8
              · have hix := run_index_arr (P := Try.prog) 36 3 8 (arr 8 (fun j => Value.int .i64 (rackF R X W (k + 1) j))) j _ Try.underlying36 (fun _ => by kernel_rfl) (by kernel_rfl) hj8 (arr_get _ _ _ hj8)
                obtain ⟨hb3, hb4⟩ := HBd.out (k + 1) j
                obtain ⟨x1, hx1⟩ : ∃ x1, x1 = rackF R X W (k + 1) j := ⟨_, rfl⟩
                rw [← hx1] at hix hb3 hb4
                have HX1 := Lib.hid hx1
                clear hx1
                go_wp2
                go_round
                case rel => exact ⟨j + 1, by go_num, by omega⟩
                case measure => simp [intOf]; omega
              · go_wp2
                go_roundw
                case rel => exact ⟨k + 1, by go_num, by omega, HX2.out, HR2.out, HBK2.out, HB2.out.drew⟩
                case measure => simp [intOf]; omega
        · clear hrow hblk hbel
          go_wp2_with (go_at_call 15; refine (sanity13 _).mono ?_; rintro e w' ⟨rfl, hb⟩)
          go_ret
          exact ⟨rfl, Below.after HB.out hb⟩
    · have HN := Lib.hid hin
      clear hin hok
      go_enter Try.func5, Try.ntmps5
      go_wp2_with (first
        | (go_at_call 29; refine (HV.out _).mono ?_; rintro e w' ⟨rfl, hb⟩; replace HX := Lib.hid (HX.out.keep (Below.after (by first | (exact below_drewN (by go_grown) _) | go_grown) hb)); replace HB := Lib.hid (Below.after HB.out (Below.after (by first | (exact below_drewN (by go_grown) _) | go_grown) hb)); (try (clear hg c0 c1 c2 c3 c4 c5)); obtain ⟨hg, c0, c1, c2, c3, c4, c5⟩ := HX.out; clear hb)
        | (go_at_call 15; refine (sanity13 _).mono ?_; rintro e w' ⟨rfl, hb⟩))
      all_goals first
        | (go_ret; exact ⟨rfl, Below.after HB.out hb⟩)
        | (exfalso; have hx : ((0 ≤ row ∧ row < n) ∧ 1 ≤ wd) ∧ wd ≤ d := (by assumption); exact HN.out ⟨hx.1.1, hx.1.2, hx.2⟩)
  · simp only [vldI, decide_eq_false hok] at hv
    have HV := Lib.hid hv
    clear hv hok
    go_enter Try.func5, Try.ntmps5
    go_wp2_with (first
      | (go_at_call 29; refine (HV.out _).mono ?_; rintro e w' ⟨rfl, hb⟩; replace HX := Lib.hid (HX.out.keep (Below.after (by first | (exact below_drewN (by go_grown) _) | go_grown) hb)); replace HB := Lib.hid (Below.after HB.out (Below.after (by first | (exact below_drewN (by go_grown) _) | go_grown) hb)); (try (clear hg c0 c1 c2 c3 c4 c5)); obtain ⟨hg, c0, c1, c2, c3, c4, c5⟩ := HX.out; clear hb)
      | (go_at_call 15; refine (sanity13 _).mono ?_; rintro e w' ⟨rfl, hb⟩))
    go_ret
    exact ⟨rfl, Below.after HB.out hb⟩
end Go.Proofs.Ytffdhckilhhejaa
