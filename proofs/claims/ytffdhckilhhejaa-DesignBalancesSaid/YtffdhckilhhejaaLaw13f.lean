/- DesignBalances: the walk of the law. -/
import Derived.Test.YtffdhckilhhejaaLaw13b
namespace Go.Proofs.Ytffdhckilhhejaa
open Go.RowKit
set_option linter.unusedVariables false
set_option linter.unusedSimpArgs false

/-- Which positions and disks have met in the first k rows of a block. -/
def metF (D R X k : Nat) (i : Nat) : Bool := (List.range k).any fun j => (ord D R (X + j)).getD (i / 64) 64 == i % 64
def seenA (f : Nat → Bool) : Array Value := arr 4096 fun i => .bool (f i)

theorem zero64 : ∀ w : World, (zeroValue 39).run Try.prog w = .ok (.agg (seenA fun _ => false)) w := fun _ => by kernel_rfl

/-- .. and in the first p positions of the next row. -/
def innF (D R X k p : Nat) (i : Nat) : Bool := metF D R X k i || (decide (i / 64 < p) && ((ord D R (X + k)).getD (i / 64) 64 == i % 64))
theorem innF_zero (D R X k : Nat) : innF D R X k 0 = metF D R X k := by
  funext i; simp [innF]
theorem innF_end (D R X k : Nat) : innF D R X k D = metF D R X (k + 1) := by
  funext i
  unfold innF metF
  rw [List.range_succ, List.any_append]
  simp only [List.any_cons, List.any_nil, Bool.or_false]
  by_cases h : i / 64 < D
  · simp [h]
  · have h2 : (ord D R (X + k)).getD (i / 64) 64 = 64 := by
      rw [List.getD_eq_getElem?_getD, List.getElem?_eq_none (by rw [ord_length]; omega)]; rfl
    have h3 : ((64 : Nat) == i % 64) = false := by simp; omega
    rw [h2, h3]; simp
theorem ord_blk (D R M k p x : Nat) (hD : 1 ≤ D) (hk : k < D) (hp : p < D) : (ord D R (M * D + k)).getD p x = (mulAt D R (M * D) * p + k) % D := by
  have h0 : (M * D) % D + k < D := by rw [Nat.mul_mod_left]; omega
  rw [getD_lt _ _ _ (by rw [ord_length]; exact hp)]
  simp only [ord, List.getElem_map, List.getElem_range]
  have h1 : mulAt D R (M * D + k) = mulAt D R (M * D) := by
    have h2 : (M * D + k) / D = M := by rw [Nat.mul_comm, Nat.mul_add_div (by omega), Nat.div_eq_of_lt hk]; omega
    have h3 : (M * D) / D = M := Nat.mul_div_cancel _ (by omega)
    unfold mulAt; rw [h2, h3]
  rw [h1]
  have : mulAt D R (M * D) * p + (M * D + k) = mulAt D R (M * D) * p + k + D * M := by rw [Nat.mul_comm D M]; omega
  rw [this, Nat.add_mul_mod_self_left]
theorem metF_new (D R M k p d : Nat) (hD : 1 ≤ D) (hD2 : D ≤ 64) (hk : k < D) (hp : p < D) (hd : d = (ord D R (M * D + k)).getD p 0) (hdD : d < D) : metF D R (M * D) k (p * 64 + d) = false := by
  unfold metF
  rw [List.any_eq_false]
  intro j hj
  rw [List.mem_range] at hj
  have h1 : (p * 64 + d) / 64 = p := by omega
  have h2 : (p * 64 + d) % 64 = d := by omega
  rw [h1, h2, ord_blk D R M j p 64 hD (by omega) hp]
  rw [ord_blk D R M k p 0 hD hk hp] at hd
  intro he
  have he2 : (mulAt D R (M * D) * p + j) % D = (mulAt D R (M * D) * p + k) % D := by rw [← hd]; simpa using he
  have h3 := Nat.sub_mod_eq_zero_of_mod_eq he2.symm
  have h4 : mulAt D R (M * D) * p + k - (mulAt D R (M * D) * p + j) = k - j := by omega
  rw [h4, Nat.mod_eq_of_lt (by omega)] at h3
  omega
theorem innF_at (D R M k p d : Nat) (hD : 1 ≤ D) (hD2 : D ≤ 64) (hk : k < D) (hp : p < D) (hd : d = (ord D R (M * D + k)).getD p 0) (hdD : d < D) : innF D R (M * D) k p (p * 64 + d) = false := by
  unfold innF
  rw [metF_new D R M k p d hD hD2 hk hp hd hdD]
  have h1 : (p * 64 + d) / 64 = p := by omega
  rw [h1]; simp
theorem innF_step (D R M k p d : Nat) (hD2 : D ≤ 64) (hp : p < D) (hd : d = (ord D R (M * D + k)).getD p 0) (hdD : d < D) (i : Nat) : (if i = p * 64 + d then true else innF D R (M * D) k p i) = innF D R (M * D) k (p + 1) i := by
  have hd2 : (ord D R (M * D + k)).getD p 64 = d := by
    rw [hd, getD_lt _ _ _ (by rw [ord_length]; exact hp), getD_lt _ _ _ (by rw [ord_length]; exact hp)]
  by_cases hi : i = p * 64 + d
  · rw [if_pos hi]
    have h1 : i / 64 = p := by omega
    have h2 : i % 64 = d := by omega
    unfold innF; rw [h1, h2, hd2]; simp
  · rw [if_neg hi]
    unfold innF
    by_cases h1 : i / 64 < p
    · have : i / 64 < p + 1 := by omega
      simp [h1, this]
    · by_cases h2 : i / 64 = p
      · rw [h2, hd2]
        have h3 : (d == i % 64) = false := by simp; omega
        rw [h3]; simp
      · have : ¬ i / 64 < p + 1 := by omega
        simp [h1, this]

set_option maxHeartbeats 8000000 in
set_option maxRecDepth 100000 in
theorem designBalances_walk (d r n s l i m : Int) (w : World) :
    Calls Try.prog 6 #[.agg #[.int .i64 d, .int .i64 r, .int .i64 n, .int .i64 s, .int .i64 l, .int .i64 i], .int .i64 m] w fun e w' => e = .returned (.bool true) ∧ Below w.heap.size w w' := by
  have hv := fun w => valid_any d r n s l i w
  have HB := Lib.hid ((Below.refl w.heap.size w).alloc (Nat.le_refl _) (.cells #[.int .i64 d, .int .i64 r, .int .i64 n, .int .i64 s, .int .i64 l, .int .i64 i] 23))
  have HX := Lib.hid (Box6.new w 23 d r n s l i)
  by_cases hok : OkC d r n s l i
  · simp only [vldI, decide_eq_true hok] at hv
    have HV := Lib.hid hv
    clear hv
    by_cases hin : (0 ≤ m ∧ m ≤ 4096) ∧ (m + 1) * d ≤ n
    · have ho := fun row w => order_any d r n s l i row w
      have hoy := fun row h0 h1 => ordI_yes (d := d) (r := r) (n := n) (s := s) (l := l) (i := i) (row := row) ⟨hok, h0, h1⟩
      obtain ⟨⟨hm0, hm1⟩, hm2⟩ := hin
      obtain ⟨D, R, N, rfl, rfl, rfl, hD1, hD2, hR1, hR2, hN1, hN2, hdv⟩ := hok.nat
      obtain ⟨M, rfl⟩ := Int.eq_ofNat_of_zero_le hm0
      simp only [Int.toNat_natCast] at hoy
      have hmp1 : 0 ≤ ((M : Int) + 1) * (D : Int) := Int.mul_nonneg (by omega) (by omega)
      have hmp3 : 0 ≤ (M : Int) * (D : Int) := Int.mul_nonneg (by omega) (by omega)
      have hmp4 : ((M : Int) + 1) * (D : Int) = (M : Int) * D + D := by rw [Int.add_mul]; simp
      have hmp5 : (M : Int) * (D : Int) + D ≤ N := by omega
      have hw1 : IntKind.i64.wrap ((M : Int) * (D : Int)) = (M : Int) * (D : Int) := IntWalk.i64_in _ (by omega)
      have HMP := Lib.hid hmp4
      clear hmp4
      have hOk : ∀ k : Nat, k < D → ∀ w, Calls Try.prog 23 #[.agg #[.int .i64 D, .int .i64 R, .int .i64 N, .int .i64 s, .int .i64 l, .int .i64 i], .int .i64 ((M : Int) * (D : Int) + (k : Int))] w (RetOwn w (I (ord D R (M * D + k)))) := by
        intro k hk w
        have := ho ((M : Int) * (D : Int) + (k : Int)) w
        rw [hoy _ (by omega) (by omega)] at this
        have e : ((M : Int) * (D : Int) + (k : Int)).toNat = M * D + k := Go.PlainAid.toNat_lin M k D
        rwa [e] at this
      have HOK := Lib.hid hOk
      clear ho hoy hOk hok hdv
      have hz := zero64
      go_enter Try.func6, Try.ntmps6
      go_wp2_with (first
        | (go_at_call 29; refine (HV.out _).mono ?_; rintro e w' ⟨rfl, hb⟩; replace HX := Lib.hid (HX.out.keep (Below.after (by first | (exact below_drewN (by go_grown) _) | go_grown) hb)); replace HB := Lib.hid (Below.after HB.out (Below.after (by first | (exact below_drewN (by go_grown) _) | go_grown) hb)); (try (clear hg c0 c1 c2 c3 c4 c5)); obtain ⟨hg, c0, c1, c2, c3, c4, c5⟩ := HX.out; clear hb))
      obtain ⟨g, hgd⟩ : ∃ g, g = w'.heap.size := ⟨_, rfl⟩
      have hwg : w.heap.size < g := by omega
      have hblk := Blk.new w' 39 (seenA fun _ => false)
      have hex : Below w'.heap.size w' (w'.alloc (.cells (seenA fun _ => false) 39)) := (Below.refl _ _).alloc (Nat.le_refl _) _
      have HX2 := Lib.hid (HX.out.keep hex)
      have HB2 := Lib.hid (Below.after HB.out hex)
      have hm0 : (fun _ => false) = metF D R (M * D) 0 := by funext i; simp [metF]
      rw [← hgd, hm0] at hblk
      rw [← hgd]
      have HBK := Lib.hid hblk
      have HM0 := Lib.hid hm0
      clear hex hgd hblk hm0 hz hg c0 c1 c2 c3 c4 c5
      go_loopw [34] (fun t wr => ∃ k : Nat, t = .int .i64 k ∧ k ≤ D ∧ Box6 wr w.heap.size D R N s l i ∧ Blk wr g 39 (seenA (metF D R (M * D) k)) ∧ Below w.heap.size w wr) (fun t _ => D - (intOf t).toNat)
      case atStart => exact ⟨0, rfl, by omega, HX2.out, by rw [HM0.out]; exact HBK.out, HB2.out⟩
      case round =>
        clear HX2 HB2 HBK HM0 HX HB
        obtain ⟨k, rfl, hk, hx, hblk, hbel⟩ := hrel
        have HX := Lib.hid hx
        have HBK := Lib.hid hblk
        have HB := Lib.hid hbel
        obtain ⟨hg, c0, c1, c2, c3, c4, c5⟩ := hx
        clear hblk hbel
        by_cases hlt : k < D
        · have HOk := Lib.hid (HOK.out k hlt)
          have hgl := HBK.out.lt
          have HLk : Hid ((I (ord D R (M * D + k))).length = D) := Lib.hid (by rw [I_length, ord_length])
          go_wp2_with (go_at_call 23; ((with_reducible refine (HOk.out _).mono ?_)); rintro e w' ⟨v, rfl, hown, hb⟩; replace HBK := Lib.hid (HBK.out.keep (Below.after (by first | (exact below_drewN (by go_grown) _) | go_grown) hb)); replace HX := Lib.hid (HX.out.keep (Below.after (by first | (exact below_drewN (by go_grown) _) | go_grown) hb)); replace HB := Lib.hid (Below.after HB.out (Below.after (by first | (exact below_drewN (by go_grown) _) | go_grown) hb)); (try (clear hg c0 c1 c2 c3 c4 c5)); obtain ⟨hg, c0, c1, c2, c3, c4, c5⟩ := HX.out; clear hb; obtain ⟨b, o, c, rfl, hlc, hcm, hrow⟩ := (Ints.of_own hown).row (by rw [HLk.out]; omega); rw [HLk.out] at hlc ⊢; have HRo := Lib.hid hrow; have hbg : g < b := (Nat.lt_of_lt_of_le hgl (hown.lt b rfl).1); clear hown hrow)
          have HL0 : Hid (∀ p, p < D → (ord D R (M * D + k)).getD p 0 < D) := Lib.hid fun p hp => by
            rw [getD_lt _ _ _ (by rw [ord_length]; exact hp)]; simp only [ord, List.getElem_map]; exact Nat.mod_lt _ (by omega)
          clear hg c0 c1 c2 c3 c4 c5
          go_loopw [52] (fun t wr => ∃ p : Nat, t = .int .i64 p ∧ p ≤ D ∧ Box6 wr w.heap.size D R N s l i ∧ Row wr b o (I (ord D R (M * D + k))) ∧ Blk wr g 39 (seenA (innF D R (M * D) k p)) ∧ Below w.heap.size w wr) (fun t _ => D - (intOf t).toNat)
          case atStart => exact ⟨0, rfl, by omega, HX.out, HRo.out, by rw [innF_zero]; exact HBK.out, HB.out⟩
          case round =>
            clear HX HRo HBK HB
            obtain ⟨p, rfl, hp, hx, hrow, hblk, hbel⟩ := hrel
            have HX := Lib.hid hx
            have HRo := Lib.hid hrow
            have HBK := Lib.hid hblk
            have HB := Lib.hid hbel
            obtain ⟨hg, c0, c1, c2, c3, c4, c5⟩ := hx
            by_cases hpD : p < D
            · have hck := hrow.2 p (by rw [HLk.out]; exact hpD)
              rw [I_getD] at hck
              have htD := HL0.out p hpD
              obtain ⟨t, ht⟩ : ∃ t, t = (ord D R (M * D + k)).getD p 0 := ⟨_, rfl⟩
              rw [← ht] at hck htD
              have hat := innF_at D R M k p t hD1 hD2 hlt hpD ht htD
              have hc0 : wr.cell? ⟨g, p * 64 + t, none⟩ = some (.bool false) := by rw [hblk.cell, seenA, arr_get _ _ _ (by omega), hat]
              have hf0 : wr.frozen? ⟨g, p * 64 + t, none⟩ = false := hblk.frozen _
              have hst := fun i => innF_step D R M k p t hD2 hpD ht htD i
              have hblk2 : Blk (wr.setCell ⟨g, p * 64 + t, none⟩ (.bool true)) g 39 (seenA (innF D R (M * D) k (p + 1))) := by
                have := hblk.set_ (p * 64 + t) (.bool true)
                unfold seenA at this ⊢
                rw [arr_set] at this
                have e2 : (arr 4096 fun i => if i = p * 64 + t then Value.bool true else Value.bool (innF D R (M * D) k p i)) = arr 4096 (fun i => Value.bool (innF D R (M * D) k (p + 1) i)) := arr_congr _ _ _ fun i _ => by
                  show (if i = p * 64 + t then Value.bool true else Value.bool (innF D R (M * D) k p i)) = _
                  rw [← hst i]; split <;> rfl
                rw [e2] at this
                exact this
              have HBK2 := Lib.hid hblk2
              have HX2 := Lib.hid (HX.out.far (p := ⟨g, p * 64 + t, none⟩) (by simp; omega) (.bool true))
              have HR2 := Lib.hid (HRo.out.far (p := ⟨g, p * 64 + t, none⟩) (by simp; omega) (.bool true))
              have HB2 := Lib.hid (HB.out.setCell (p := ⟨g, p * 64 + t, none⟩) (by simp; omega) (.bool true))
              clear hblk2 hst hat ht hrow hblk hbel
              go_wp2
              go_roundw
              case rel => exact ⟨p + 1, by go_num, by omega, HX2.out, HR2.out, HBK2.out, HB2.out⟩
              case measure => simp [intOf]; omega
            · obtain rfl : p = D := by omega
              clear hrow hblk hbel
              go_wp2
              go_roundw
              case rel => exact ⟨k + 1, by go_num, by omega, HX.out, by rw [← innF_end]; exact HBK.out, HB.out⟩
              case measure => simp [intOf]; omega
        · go_wp2_with (go_at_call 15; refine (sanity13 _).mono ?_; rintro e w' ⟨rfl, hb⟩)
          go_ret
          exact ⟨rfl, Below.after HB.out hb⟩
    · have HN := Lib.hid hin
      have hdb : 1 ≤ d ∧ d ≤ 64 := hok.1
      obtain ⟨hd1, hd2⟩ := hdb
      clear hin hok
      by_cases hm : 0 ≤ m ∧ m ≤ 4096
      · obtain ⟨hm0, hm1⟩ := hm
        have hmp1 : 0 ≤ (m + 1) * d := Int.mul_nonneg (by omega) (by omega)
        have hmp2 : (m + 1) * d ≤ 4097 * 64 := Int.mul_le_mul (by omega) (by omega) (by omega) (by omega)
        have hmp3 : n < (m + 1) * d := by
          by_cases h : n < (m + 1) * d
          · exact h
          · exact absurd ⟨⟨hm0, hm1⟩, by omega⟩ HN.out
        go_enter Try.func6, Try.ntmps6
        go_wp2_with (first
          | (go_at_call 29; refine (HV.out _).mono ?_; rintro e w' ⟨rfl, hb⟩; replace HX := Lib.hid (HX.out.keep (Below.after (by first | (exact below_drewN (by go_grown) _) | go_grown) hb)); replace HB := Lib.hid (Below.after HB.out (Below.after (by first | (exact below_drewN (by go_grown) _) | go_grown) hb)); (try (clear hg c0 c1 c2 c3 c4 c5)); obtain ⟨hg, c0, c1, c2, c3, c4, c5⟩ := HX.out; clear hb)
          | (go_at_call 15; refine (sanity13 _).mono ?_; rintro e w' ⟨rfl, hb⟩))
        go_ret
        exact ⟨rfl, Below.after HB.out hb⟩
      · rcases (show m < 0 ∨ (0 ≤ m ∧ 4096 < m) by omega) with h | ⟨h, h'⟩
        all_goals
          clear hm
          go_enter Try.func6, Try.ntmps6
          go_wp2_with (first
            | (go_at_call 29; refine (HV.out _).mono ?_; rintro e w' ⟨rfl, hb⟩; replace HX := Lib.hid (HX.out.keep (Below.after (by first | (exact below_drewN (by go_grown) _) | go_grown) hb)); replace HB := Lib.hid (Below.after HB.out (Below.after (by first | (exact below_drewN (by go_grown) _) | go_grown) hb)); (try (clear hg c0 c1 c2 c3 c4 c5)); obtain ⟨hg, c0, c1, c2, c3, c4, c5⟩ := HX.out; clear hb)
            | (go_at_call 15; refine (sanity13 _).mono ?_; rintro e w' ⟨rfl, hb⟩))
          go_ret
          exact ⟨rfl, Below.after HB.out hb⟩
  · simp only [vldI, decide_eq_false hok] at hv
    have HV := Lib.hid hv
    clear hv hok
    go_enter Try.func6, Try.ntmps6
    go_wp2_with (first
      | (go_at_call 29; refine (HV.out _).mono ?_; rintro e w' ⟨rfl, hb⟩; replace HX := Lib.hid (HX.out.keep (Below.after (by first | (exact below_drewN (by go_grown) _) | go_grown) hb)); replace HB := Lib.hid (Below.after HB.out (Below.after (by first | (exact below_drewN (by go_grown) _) | go_grown) hb)); (try (clear hg c0 c1 c2 c3 c4 c5)); obtain ⟨hg, c0, c1, c2, c3, c4, c5⟩ := HX.out; clear hb)
      | (go_at_call 15; refine (sanity13 _).mono ?_; rintro e w' ⟨rfl, hb⟩))
    go_ret
    exact ⟨rfl, Below.after HB.out hb⟩
end Go.Proofs.Ytffdhckilhhejaa
