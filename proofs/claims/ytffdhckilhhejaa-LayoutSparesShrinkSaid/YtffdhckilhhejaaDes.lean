/- Walks of package design (layer 13). -/
import Derived.Test.YtffdhckilhhejaaChecked
import Derived.Test.YtffdhckilhhejaaBase
import Derived.Test.YtffdhckilhhejaaPdes
import Derived.Lib.SliceRun
namespace Go.Proofs.Ytffdhckilhhejaa
open Go.RowKit
set_option linter.unusedVariables false

theorem infoInt : (Try.prog.info? 3).map (fun i => (i.zero, i.size, i.bytes)) = some (some (.int .i64 0), 1, 8) := by kernel_rfl

theorem index_any (v : Value) (l : List Int) (x : Int) (w : World) (h : Ints w v l) :
    Calls Try.prog 53 #[v, .int .i64 x] w fun e w' => e = .returned (.int .i64 (idxI l x)) ∧ w = w' := by
  obtain ⟨A, c, rfl, h1, h2, h3⟩ := h
  unfold maxLen at h2
  go_enter Try.func53, Try.ntmps53
  go_wp2
  go_loop [8] (fun i => ∃ k : Nat, k ≤ l.length ∧ i = .int .i64 k ∧ ∀ j, j < k → l.getD j 0 ≠ x) (fun i => l.length - (intOf i).toNat)
  case atStart => exact ⟨0, Nat.zero_le _, rfl, by omega⟩
  case round =>
    obtain ⟨k, hk, rfl, hno⟩ := hrel
    have HN := Lib.hid hno; clear hno
    by_cases hlt : k < l.length
    · obtain ⟨b, o, rfl, _, hc⟩ := h3 (by omega)
      have hck := hc k hlt
      clear hc h3
      go_wp2
      · go_ret
        exact ⟨ret_i (idxI_at l x k hlt (by simpa using ‹(x == l[k]) = true›) HN.out).symm, rfl⟩
      · go_round
        case rel =>
          refine ⟨k + 1, by omega, by go_num, fun j hj => ?_⟩
          rcases Nat.lt_or_ge j k with h | h
          · exact HN.out j h
          · have : j = k := by omega
            subst this
            have hx : (x == l[j]) = false := by assumption
            rw [getD_lt _ _ _ hlt]; simp at hx; omega
        case measure => simp [intOf]; omega
    · go_wp2
      go_ret
      exact ⟨ret_i (idxI_no l x fun j hj => HN.out j (by omega)).symm, rfl⟩

set_option maxHeartbeats 400000 in
theorem common_any (a b : Int) (w : World) (ha : 0 ≤ a) (hb : 0 ≤ b) (ha2 : a ≤ 9223372036854775807) (hb2 : b ≤ 9223372036854775807) :
    Calls Try.prog 58 #[.int .i64 a, .int .i64 b] w fun e w' => e = .returned (.int .i64 (Nat.gcd a.toNat b.toNat)) ∧ ∃ n, w' = w.drewN n := by
  obtain ⟨x0, rfl⟩ := Int.eq_ofNat_of_zero_le ha
  obtain ⟨y0, rfl⟩ := Int.eq_ofNat_of_zero_le hb
  rw [Int.toNat_natCast, Int.toNat_natCast]
  go_enter Try.func58, Try.ntmps58
  go_wp2
  go_loopw [0, 1] (fun a b wr => ∃ x y n : Nat, a = .int .i64 x ∧ b = .int .i64 y ∧ x ≤ 9223372036854775807 ∧ y ≤ 9223372036854775807 ∧ Nat.gcd x y = Nat.gcd x0 y0 ∧ wr = w.drewN n) (fun _ b _ => (intOf b).toNat)
  case atStart => exact ⟨x0, y0, 0, rfl, rfl, by omega, by omega, rfl, rfl⟩
  case round =>
    obtain ⟨x, y, n, rfl, rfl, hx, hy, hg, rfl⟩ := hrel
    have HG := Lib.hid hg; clear hg
    by_cases hlt : 0 < y
    · go_wp2
      go_quiet (fail)
      go_wp2
      go_roundw
      case rel => exact ⟨y, x % y, _, rfl, by simp, by omega, by have := Nat.mod_lt x hlt; omega, by rw [← HG.out, Nat.gcd_comm y, ← Nat.gcd_rec]; exact Nat.gcd_comm _ _, World.drewN_drewN _ _ _⟩
      case measure => simp [intOf]; exact Nat.mod_lt _ hlt
    · go_wp2
      go_ret
      obtain rfl : y = 0 := by omega
      exact ⟨ret_i (by rw [← HG.out]; simp), _, rfl⟩

/-- 'a and d have a common divisor'. -/
def cd (d : Nat) (a : Int) : Bool := decide (1 < Nat.gcd a.toNat d)
theorem cd_def (d : Nat) (a : Int) : decide ((1 : Int) < (Nat.gcd a.toNat d : Int)) = cd d a := by
  unfold cd; rw [decide_eq_decide]; omega

theorem mult1_any (a : Int) (d : Nat) (g : Nat) (w : World) (ha : 0 ≤ a) (ha2 : a ≤ 64) (hd2 : d ≤ 64) (hc : w.cell? ⟨g, 0, none⟩ = some (.int .i64 d)) :
    Calls Try.prog 57 #[.int .i64 a, .pointer (some ⟨g, 0, none⟩)] w fun e w' => e = .returned (.bool (cd d a)) ∧ ∃ n, w' = w.drewN n := by
  go_enter Try.func57, Try.ntmps57
  go_wp2_with (go_at_call 58; refine (common_any _ _ _ (by omega) (by omega) (by omega) (by omega)).mono ?_; rintro e w' ⟨rfl, n, rfl⟩)
  go_ret
  refine ⟨ret_b ?_, n, rfl⟩
  exact cd_def d a

theorem indexFunc_any (v : Value) (l : List Int) (d g : Nat) (w : World) (h : Ints w v l) (hl : ∀ a ∈ l, 0 ≤ a ∧ a ≤ 64) (hd2 : d ≤ 64) (hc : w.cell? ⟨g, 0, none⟩ = some (.int .i64 d)) :
    Calls Try.prog 59 #[v, .func (.func 57) #[] #[.pointer (some ⟨g, 0, none⟩)]] w fun e w' => e = .returned (.int .i64 (idxP (cd d) l)) ∧ ∃ n, w' = w.drewN n := by
  obtain ⟨A, c, rfl, h1, h2, h3⟩ := h
  unfold maxLen at h2
  have HL := Lib.hid hl; clear hl
  go_enter Try.func59, Try.ntmps59
  go_wp2
  go_loopw [8] (fun i wr => ∃ k n : Nat, k ≤ l.length ∧ i = .int .i64 k ∧ wr = w.drewN n ∧ ∀ j, j < k → cd d (l.getD j 0) = false) (fun i _ => l.length - (intOf i).toNat)
  case atStart => exact ⟨0, 0, Nat.zero_le _, rfl, rfl, by omega⟩
  case round =>
    obtain ⟨k, n, hk, rfl, rfl, hno⟩ := hrel
    have HN := Lib.hid hno; clear hno
    by_cases hlt : k < l.length
    · obtain ⟨b, o, rfl, _, hck⟩ := h3 (by omega)
      replace hck := hck k hlt
      have hb := HL.out l[k] (List.getElem_mem hlt)
      obtain ⟨hb1, hb2⟩ := hb
      rw [getD_lt _ _ _ hlt] at hck
      clear h3
      cases hcd : cd d l[k]
      · have HC := Lib.hid hcd
        go_wp2_with (go_at_call 57; refine (mult1_any _ d g _ (by omega) (by omega) hd2 (by go_simp)).mono ?_; rintro e w' ⟨rfl, n', rfl⟩)
        go_roundw
        case rel =>
          refine ⟨k + 1, _, by omega, by go_num, rfl, fun j hj => ?_⟩
          rcases Nat.lt_or_ge j k with h | h
          · exact HN.out j h
          · have : j = k := by omega
            subst this
            rw [getD_lt _ _ _ hlt]; exact HC.out
        case measure => simp [intOf]; omega
      · have HC := Lib.hid hcd
        go_wp2_with (go_at_call 57; refine (mult1_any _ d g _ (by omega) (by omega) hd2 (by go_simp)).mono ?_; rintro e w' ⟨rfl, n', rfl⟩)
        go_ret
        exact ⟨ret_i (idxP_at l _ k hlt HC.out HN.out).symm, _, rfl⟩
    · go_wp2
      go_ret
      exact ⟨ret_i (idxP_no l _ fun j hj => HN.out j (by omega)).symm, _, rfl⟩

/-- A call that hands back a new row of its own that reads as the list 'l'. -/
def RetOwn (w : World) (l : List Int) (e : Ending) (w' : World) : Prop :=
  ∃ v, e = .returned v ∧ w'.ownsRow w.heap.size 3 1 v l.length (l.map (Value.int .i64)) ∧ Below w.heap.size w w'
/-- .. or a row from block 'base' on. -/
def RetOwnB (base : Nat) (w : World) (l : List Int) (e : Ending) (w' : World) : Prop :=
  ∃ v, e = .returned v ∧ w'.ownsRow base 3 1 v l.length (l.map (Value.int .i64)) ∧ Below base w w'

/-- 'clear' of the end of a row of the call's own. -/
theorem run_clear_tail {P : Program} (w : World) (t e ty : TypeId) (z : Value) (ht : P.underlying t = some (.slice e)) (hv : ∀ w, (zeroValue e).run P w = .ok z w) (hz : z.cells = #[z]) (h1 : z.oneCell' = true)
    (base g n cap i : Nat) (xs : List Value) (hi : i ≤ n) (hown : w.ownsRow base e 1 (.slice (some ⟨g, 0, none⟩) n cap) n xs) :
    ∃ w', (Builtin.clear_ #[t] ty #[.slice (if cap = i then some ⟨g, 0, none⟩ else some ⟨g, i, none⟩) (n - i) (cap - i)]).run P w = .ok (.tuple #[]) w' ∧
      w'.ownsRow base e 1 (.slice (some ⟨g, 0, none⟩) i cap) i (xs.take i) ∧ w.grownBy w' (some g) := by
  have hown0 := hown
  rcases hown.2 with ⟨h, _⟩ | ⟨g', cap', cur, h, hbg, hh, hnc, hcm, hcs, htake⟩
  · simp at h
  · simp only [Value.slice.injEq, Option.some.injEq, Addr.mk.injEq, and_true, true_and] at h
    obtain ⟨rfl, rfl⟩ := h
    have hxl : xs.length = n := by simpa using hown.1
    rcases Nat.lt_or_ge i n with hlt | hge
    · rw [if_neg (by omega)]
      have hzc : (Builtin.zeroCells z.cells (n - i)).toList = List.replicate (n - i) z := by
        rw [hz]
        simp [Builtin.zeroCells]
        apply List.ext_getElem
        · simp
        · intro i h1 h2
          simp [Nat.mod_one]
      have hst := run_storeCells_at P g i e (List.replicate (n - i) z) 0 cur w hh (by simp; omega) (fun v hv' => by rw [List.eq_of_mem_replicate hv']; exact h1)
      simp only [Nat.add_zero] at hst
      obtain ⟨cur', hc'⟩ : ∃ c, c = (List.take i cur.toList ++ List.replicate (n - i) z ++ List.drop (i + (List.replicate (n - i) z).length) cur.toList).toArray := ⟨_, rfl⟩
      rw [← hc'] at hst
      have hs' : cur'.size = cap * 1 := by subst hc'; simp; omega
      have ht' : cur'.toList.take (i * 1) = xs.take i := by
        subst hc'
        simp only [Nat.mul_one, List.append_assoc]
        rw [List.take_append_of_le_length (by simp; omega), List.take_take, Nat.min_self, ← htake, List.take_take]
        congr 1; omega
      refine ⟨w.setRow g cur', ?_, ⟨by simp; omega, .inr ⟨g, cap, cur', rfl, hbg, setRow_heap w g cur cur' e _ hh, by omega, hcm, hs', ht'⟩⟩, ⟨rfl, rfl, rfl, by simp, fun k _ hk => setRow_other w g k _ (fun e => hk (by simp [e]))⟩⟩
      obtain ⟨m, hm⟩ : ∃ m, n - i = m + 1 := ⟨n - i - 1, by omega⟩
      rw [hm] at hzc hst ⊢
      simp [Builtin.clear_, run_underlying ht, hv, hzc, hst]
    · obtain rfl : i = n := by omega
      refine ⟨w, ?_, ?_, World.grownBy.refl w _⟩
      · rw [Nat.sub_self]
        by_cases hc : cap = i
        · rw [if_pos hc]; simp [Builtin.clear_, run_underlying ht]
        · rw [if_neg hc]; simp [Builtin.clear_, run_underlying ht]
      · rw [List.take_of_length_le (by omega)]; exact hown0

theorem zeroInt (w : World) : (zeroValue 3).run Try.prog w = .ok (.int .i64 0) w := by kernel_rfl

set_option maxHeartbeats 800000 in
theorem deleteFunc_any (v : Value) (l : List Int) (d g0 base : Nat) (w : World) (hown : w.ownsRow base 3 1 v l.length (l.map (Value.int .i64))) (hbase : base ≤ w.heap.size) (hl : ∀ a ∈ l, 0 ≤ a ∧ a ≤ 64) (hln : l.length ≤ 64) (hd2 : d ≤ 64) (hg0 : g0 < base) (hc : w.cell? ⟨g0, 0, none⟩ = some (.int .i64 d)) :
    Calls Try.prog 56 #[v, .func (.func 57) #[] #[.pointer (some ⟨g0, 0, none⟩)]] w (RetOwnB base w (l.filter fun a => !cd d a)) := by
  have hI := Ints.of_own hown
  have HO := Lib.hid hown
  have HL := Lib.hid hl
  rcases idxP_cases (cd d) l with ⟨hi, hno⟩ | ⟨k, hk, hi, hp, hno⟩
  · have HN := Lib.hid hno
    have hIF := indexFunc_any v l d g0 w hI hl hd2 hc
    rw [hi] at hIF
    clear hno hi hl hown
    go_enter Try.func56, Try.ntmps56
    go_wp2_with (go_at_call 59; refine hIF.mono ?_; rintro e w' ⟨rfl, n', rfl⟩)
    go_ret
    have hf : (l.filter fun a => !cd d a) = l := List.filter_eq_self.2 fun a ha => by rw [HN.out a ha]; rfl
    refine ⟨v, rfl, ?_, below_drewN (Below.refl _ _) _⟩
    rw [hf]; exact HO.out
  · have HN := Lib.hid hno
    have HP := Lib.hid hp
    have hIF := indexFunc_any v l d g0 w hI hl hd2 hc
    rw [hi] at hIF
    obtain ⟨g, cap, rfl, hgb, hglt⟩ := hown.form (by omega)
    clear hno hi hl hp hown hI
    have hk64 : k < 64 := by omega
    have hk1 : ((k : Int) == -1) = false := by simp
    go_enter Try.func56, Try.ntmps56
    go_wp2_with (go_at_call 59; refine hIF.mono ?_; rintro e w' ⟨rfl, n', rfl⟩)
    have hcap : cap ≤ 9223372036854775807 ∧ l.length ≤ cap := by
      rcases HO.out.2 with ⟨h, _⟩ | ⟨g', cap', cur, h, _, _, h1, h2, _⟩
      · simp at h
      · simp only [Value.slice.injEq, Option.some.injEq, Addr.mk.injEq, and_true, true_and] at h
        obtain ⟨rfl, rfl⟩ := h
        exact ⟨by unfold maxLen at h2; omega, h1⟩
    obtain ⟨hcap1, hcap2⟩ := hcap
    go_loopw [5, 6] (fun i j wr => ∃ (i' j' : Nat) (ys : List Int), i = .int .i64 i' ∧ j = .int .i64 j' ∧ i' < j' ∧ j' ≤ l.length ∧ ys.length = l.length ∧
        wr.ownsRow base 3 1 (.slice (some ⟨g, 0, none⟩) l.length cap) l.length (ys.map (Value.int .i64)) ∧ Below base w wr ∧
        ys.take i' = (l.take j').filter (fun a => !cd d a) ∧ ys.drop j' = l.drop j')
      (fun _ j _ => l.length - (intOf j).toNat)
    case atStart =>
      refine ⟨k, k + 1, l, rfl, by go_num, by omega, by omega, rfl, HO.out, below_drewN (Below.refl _ _) _, ?_, rfl⟩
      rw [filter_take_one l _ k hk, HP.out]
      have : (l.take k).filter (fun a => !cd d a) = l.take k := List.filter_eq_self.2 fun a ha => by rw [HN.out a ha]; rfl
      simp [this]
    case round =>
      obtain ⟨i, j, ys, rfl, rfl, hij, hjl, hyl, hown, hbel, hy1, hy2⟩ := hrel
      have HOW := Lib.hid hown
      have HY := Lib.hid hy1
      have HY2 := Lib.hid hy2
      have hsz := hbel.size
      by_cases hlt : j < l.length
      · have hb := HL.out l[j] (List.getElem_mem hlt)
        obtain ⟨hb1, hb2⟩ := hb
        have hcj : wr.cell? ⟨g, j, none⟩ = some (.int .i64 l[j]) := by
          rw [hown.cellAt j (by omega), List.getElem?_map, List.getElem?_eq_getElem (by omega)]
          have := getD_drop_eq l ys j hlt hyl hy2
          rw [getD_lt _ _ _ (by omega)] at this
          simp [this]
        have hfr : wr.frozen? ⟨g, i, none⟩ = false := hown.frozenAt i
        have hci : wr.cell? ⟨g, i, none⟩ = some (.int .i64 (ys.getD i 0)) := by
          rw [hown.cellAt i (by omega), List.getElem?_map, List.getElem?_eq_getElem (by omega), getD_lt _ _ _ (by omega)]; rfl
        have hcg : wr.cell? ⟨g0, 0, none⟩ = some (.int .i64 d) := by rw [hbel.cell (p := ⟨g0, 0, none⟩) hg0]; exact hc
        have HB := Lib.hid hbel
        clear hown hy1 hy2 hc hbel
        cases hq : cd d l[j]
        · have HQ := Lib.hid hq
          go_wp2_with (go_at_call 57; refine (mult1_any _ d g0 _ (by omega) (by omega) hd2 (by go_simp)).mono ?_; rintro e w' ⟨rfl, n', rfl⟩)
          go_roundw
          case rel =>
            have hdk := del_keep l ys (fun a => !cd d a) i j hij hlt hyl HY.out HY2.out (by rw [HQ.out]; rfl)
            have hst := World.ownsRow.stored HOW.out i (.int .i64 l[j])
            refine ⟨i + 1, j + 1, ys.set i l[j], by go_num, by go_num, by omega, by omega, by simpa using hyl, ?_, ?_, hdk.1, hdk.2⟩
            · rw [List.map_set]; exact hst.1
            · exact below_drewN (HB.out.setCell (p := ⟨g, i, none⟩) (by simpa using hgb) _) _
          case measure => simp [intOf]; omega
        · have HQ := Lib.hid hq
          go_wp2_with (go_at_call 57; refine (mult1_any _ d g0 _ (by omega) (by omega) hd2 (by go_simp)).mono ?_; rintro e w' ⟨rfl, n', rfl⟩)
          go_roundw
          case rel =>
            have hdk := del_drop l ys (fun a => !cd d a) i j hlt HY.out HY2.out (by rw [HQ.out]; rfl)
            exact ⟨i, j + 1, ys, rfl, by go_num, by omega, by omega, hyl, HOW.out, below_drewN HB.out _, hdk.1, hdk.2⟩
          case measure => simp [intOf]; omega
      · obtain rfl : j = l.length := by omega
        obtain ⟨w2, hrun, hown2, hg2⟩ := run_clear_tail (P := Try.prog) wr 28 3 0 (.int .i64 0) Try.underlying28 zeroInt rfl rfl base g l.length cap i (ys.map (Value.int .i64)) (by omega) hown
        have HB := Lib.hid hbel
        have HH := Lib.hid hown2
        have HG := Lib.hid hg2
        clear hown hy1 hy2 hc hbel hown2 hg2
        have hend : RetOwnB base w (l.filter fun a => !cd d a) (.returned (.slice (some ⟨g, 0, none⟩) i cap)) w2 := by
          have h1 : (ys.take i).length = i := by rw [List.length_take]; omega
          have h2 : ys.take i = l.filter (fun a => !cd d a) := by rw [HY.out, List.take_length]
          rw [← h2]
          refine ⟨_, rfl, ?_, HB.out.grown HG.out (by omega) (by simp; omega)⟩
          rw [h1, List.map_take]; exact HH.out
        have HE := Lib.hid hend
        clear hend
        rw [if_neg (by omega)] at hrun
        have hcl : ∀ ty, (Builtin.clear_ #[28] ty #[.slice (some ⟨g, i, none⟩) (l.length - i) (cap - i)]).run Try.prog wr = .ok (.tuple #[]) w2 := fun ty => hrun
        go_wp2
        go_ret
        exact HE.out
end Go.Proofs.Ytffdhckilhhejaa
