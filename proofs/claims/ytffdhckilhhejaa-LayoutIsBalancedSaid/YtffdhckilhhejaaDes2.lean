/- Walks of package design (layer 13): multipliers. -/
import Derived.Test.YtffdhckilhhejaaDes
namespace Go.Proofs.Ytffdhckilhhejaa
open Go.RowKit
set_option linter.unusedVariables false

theorem cd_filter (d : Nat) (l : List Nat) : (I l).filter (fun a => !cd d a) = I (l.filter fun a => !decide (1 < Nat.gcd a d)) := filter_I l d

set_option maxHeartbeats 800000 in
theorem multipliers_any (d r : Nat) (w : World) (hd : 1 ≤ d) (hd2 : d ≤ 64) (hr : 1 ≤ r) (hr2 : r ≤ 8) (hdr : d = 1 → r = 1) :
    Calls Try.prog 50 #[.agg #[.int .i64 d, .int .i64 r]] w (RetOwn w (I (muls d r))) := by
  by_cases h1 : d = 1
  · obtain rfl := hdr h1
    subst h1
    go_enter Try.func50, Try.ntmps50
    go_wp2
    go_ret
    refine ⟨_, rfl, ?_, ((Below.refl _ _).alloc (Nat.le_refl _) _).alloc (by simp) _⟩
    have := World.ownsRow_lit (base := w.heap.size) (size := 1) (e := 3) (w.alloc (.cells #[.int .i64 1, .int .i64 1] 66)) #[.int .i64 1] 1 (by simp) (by simp [maxLen]) (by simp)
    simpa [I, muls] using this
  · have h2 : ((d : Int) == 1) = false := by simp; omega
    have HD := Lib.hid h1
    clear hdr h1
    go_enter Try.func50, Try.ntmps50
    go_wp2
    go_loopw [3, 4] (fun v a wr => ∃ k : Nat, a = .int .i64 (1 + k * r : Nat) ∧ k ≤ 64 ∧ (k = 0 ∨ 1 + (k - 1) * r < d) ∧ wr.ownsRow (w.heap.size + 1) 3 1 v k ((I (prog r k)).map (Value.int .i64)) ∧
        Below (w.heap.size + 1) (w.alloc (.cells #[.int .i64 d, .int .i64 r] 66)) wr)
      (fun _ a _ => d - (intOf a).toNat)
    case atStart => exact ⟨0, by simp, by omega, .inl rfl, World.ownsRow_nil _ _ _ _, Below.refl _ _⟩
    case round =>
      obtain ⟨k, rfl, hk, hk2, hown, hbel⟩ := hrel
      have hsz : w.heap.size + 1 ≤ wr.heap.size := by have := hbel.size; simpa using this
      have hc0 : wr.cell? ⟨w.heap.size, 0, none⟩ = some (.int .i64 d) := by rw [hbel.cell (p := ⟨w.heap.size, 0, none⟩) (by simp)]; simp
      have hc1 : wr.cell? ⟨w.heap.size, 1, none⟩ = some (.int .i64 r) := by rw [hbel.cell (p := ⟨w.heap.size, 1, none⟩) (by simp)]; simp
      have hkr : k * r ≤ 64 * 8 := Nat.mul_le_mul hk hr2
      obtain ⟨a, ha⟩ : ∃ a, a = 1 + k * r := ⟨_, rfl⟩
      rw [← ha]
      have ha2 : a ≤ 1000 := by omega
      have HA := Lib.hid ha
      have HB := Lib.hid hbel
      have HO := Lib.hid hown
      by_cases hlt : a < d
      · have hk3 : k < 64 := by
          have := Nat.le_mul_of_pos_right k (by omega : 0 < r)
          omega
        clear ha hkr hbel hown
        go_wp2_with (at_builtin; refine wpList_append1 rfl _ _ _ rfl 3 (.int .i64 0) 8 Try.underlying28 infoInt rfl _ (w.heap.size + 1) _ k _ rfl (HO.out.alloc _) wr.heap.size (.int .i64 a) rfl (by simp) rfl (by omega) (by omega) (HB.out.alloc (by omega) _) (by simp; omega) ?_; intro v1 w1 hown1 hbel1 hg1; have hc11 : w1.cell? ⟨w.heap.size, 1, none⟩ = some (.int .i64 r) := (by rw [hbel1.cell (p := ⟨w.heap.size, 1, none⟩) (by simp)]; simp); have HO1 := Lib.hid hown1; have HB1 := Lib.hid hbel1; clear hown1 hbel1 hg1)
        go_roundw
        case rel =>
          refine ⟨k + 1, ?_, by omega, .inr ?_, ?_, HB1.out⟩
          · rw [HA.out, Nat.succ_mul]; go_num
          · rw [Nat.add_sub_cancel, ← HA.out]; exact hlt
          · rw [prog_succ, I_append, List.map_append, ← HA.out]; exact HO1.out
        case measure => simp [intOf]; omega
      · have hkc : k = cnt d r := cnt_eq d r k hr (by omega) hk2 hd
        clear ha hkr hbel hown
        have hL : (I (prog r k)).length = k := by rw [I_length, prog_length]
        have hbd : ∀ a ∈ I (prog r k), 0 ≤ a ∧ a ≤ 64 := by
          intro a ha
          simp only [I, List.mem_map] at ha
          obtain ⟨n, hn, rfl⟩ := ha
          have := prog_lt r k d n hk2 hn
          omega
        have HL := Lib.hid hL
        have HK := Lib.hid hkc
        have HBD := Lib.hid hbd
        clear hL hkc hbd
        go_wp2_with (go_at_call 56; refine (deleteFunc_any _ (I (prog r k)) d w.heap.size (w.heap.size + 1) wr (by rw [HL.out]; exact HO.out) hsz HBD.out (by rw [HL.out]; exact hk) hd2 (by omega) hc0).mono ?_; rintro e w' ⟨v', rfl, hown', hbel'⟩; have HO' := Lib.hid hown'; have HB' := Lib.hid hbel'; clear hown' hbel')
        go_ret
        have hm : ((I (prog r k)).filter fun a => !cd d a) = I (muls d r) := by
          rw [cd_filter, prog_filter d r k (by have := HD.out; omega), HK.out, muls, if_neg HD.out]
        rw [hm] at HO'
        refine ⟨v', rfl, ?_, ?_⟩
        · exact HO'.out.mono (by omega)
        · exact (((Below.refl _ _).alloc (Nat.le_refl _) _).trans (HB.out.mono (by omega))).trans (HB'.out.mono (by omega))
end Go.Proofs.Ytffdhckilhhejaa
