/- Walks of package design (layer 13): Check, Multipliers, Period, rule, Order, Position, Rack. -/
import Derived.Test.YtffdhckilhhejaaDes2
namespace Go.Proofs.Ytffdhckilhhejaa
open Go.RowKit
set_option linter.unusedVariables false
set_option linter.unusedSimpArgs false

/-- The configuration is valid. -/
def OkC (d r n s l i : Int) : Prop := (1 ≤ d ∧ d ≤ 64) ∧ (1 ≤ r ∧ r ≤ 8) ∧ (1 ≤ n ∧ n ≤ 4096) ∧ (0 ≤ s ∧ s ≤ d - 1) ∧ (1 ≤ l ∧ l ≤ 65536) ∧ (1 ≤ i ∧ i ≤ 65536) ∧ d % r = 0
instance (d r n s l i : Int) : Decidable (OkC d r n s l i) := by unfold OkC; infer_instance
def chkI (d r n s l i : Int) : Int := if OkC d r n s l i then 0 else 1
theorem chkI_yes {d r n s l i : Int} (h : OkC d r n s l i) : chkI d r n s l i = 0 := if_pos h
theorem chkI_no {d r n s l i : Int} (h : ¬ OkC d r n s l i) : chkI d r n s l i = 1 := if_neg h

theorem within_any (a b c : Int) (w : World) :
    Calls Try.prog 48 #[.int .i64 a, .int .i64 b, .int .i64 c] w fun e w' => e = .returned (.bool (decide (b ≤ a) && decide (a ≤ c))) ∧ w = w' := by
  by_cases h : b ≤ a
  · by_cases h2 : a ≤ c
    · go_enter Try.func48, Try.ntmps48
      go_wp2
      go_ret
      first | (simp [h, h2]; done) | (simp [h, h2]; omega)
    · have h2' : c < a := by omega
      go_enter Try.func48, Try.ntmps48
      go_wp2
      go_ret
      first | (simp [h, h2]; done) | (simp [h, h2]; omega)
  · have h' : a < b := by omega
    go_enter Try.func48, Try.ntmps48
    go_wp2
    go_ret
    first | (simp [h]; done) | (simp; intros; omega)

set_option maxHeartbeats 1600000 in
theorem check_any (d r n s l i : Int) (w : World) :
    Calls Try.prog 16 #[.agg #[.int .i64 d, .int .i64 r, .int .i64 n, .int .i64 s, .int .i64 l, .int .i64 i]] w fun e w' => e = .returned (.int .i64 (chkI d r n s l i)) ∧ Below w.heap.size w w' := by
  go_enter Try.func16, Try.ntmps16
  go_wp2_with (go_at_call 48; refine (within_any _ _ _ _).mono ?_; rintro e w' ⟨rfl, rfl⟩)
  all_goals (go_ret; refine ⟨ret_i ?_, by go_grown⟩)
  all_goals first
    | (rw [chkI_no]; unfold OkC; intro h; obtain ⟨h1, h2, h3, h4, h5, h6, h7⟩ := h; first | (exact absurd h1 ‹_›) | (exact absurd h2 ‹_›) | (exact absurd h3 ‹_›) | (exact absurd h4 ‹_›) | (exact absurd h5 ‹_›) | (exact absurd h6 ‹_›) | (have hx : (d % r != 0) = true := (by assumption); simp [h7] at hx); done)
    | (rw [chkI_yes]; have hx : (d % r != 0) = false := (by assumption); exact ⟨‹_›, ‹_›, ‹_›, ‹_›, ‹_›, ‹_›, by simpa using hx⟩)
    | skip

theorem check_yes (d r n s l i : Int) (w : World) (h : OkC d r n s l i) :
    Calls Try.prog 16 #[.agg #[.int .i64 d, .int .i64 r, .int .i64 n, .int .i64 s, .int .i64 l, .int .i64 i]] w fun e w' => e = .returned (.int .i64 0) ∧ Below w.heap.size w w' := by
  have := check_any d r n s l i w; rwa [chkI_yes h] at this
theorem check_no (d r n s l i : Int) (w : World) (h : ¬ OkC d r n s l i) :
    Calls Try.prog 16 #[.agg #[.int .i64 d, .int .i64 r, .int .i64 n, .int .i64 s, .int .i64 l, .int .i64 i]] w fun e w' => e = .returned (.int .i64 1) ∧ Below w.heap.size w w' := by
  have := check_any d r n s l i w; rwa [chkI_no h] at this

def mulI (d r n s l i : Int) : List Int := if OkC d r n s l i then I (muls d.toNat r.toNat) else []
theorem mulI_yes {d r n s l i : Int} (h : OkC d r n s l i) : mulI d r n s l i = I (muls d.toNat r.toNat) := if_pos h
theorem mulI_no {d r n s l i : Int} (h : ¬ OkC d r n s l i) : mulI d r n s l i = [] := if_neg h

theorem RetOwn.nil {w w' : World} (hb : Below w.heap.size w w') : RetOwn w [] (.returned (.slice none 0 0)) w' := ⟨_, rfl, World.ownsRow_nil _ _ _ _, hb⟩

theorem RetOwn.later {w w1 : World} {l : List Int} {e : Ending} {w' : World} (h : RetOwn w1 l e w') (hb : Below w.heap.size w w1) : RetOwn w l e w' := by
  obtain ⟨v, rfl, ho, hb'⟩ := h
  exact ⟨v, rfl, ho.mono hb.size, hb.trans (hb'.mono hb.size)⟩

set_option maxHeartbeats 400000 in
theorem multsOf_any (d r n s l i : Int) (w : World) :
    Calls Try.prog 19 #[.agg #[.int .i64 d, .int .i64 r, .int .i64 n, .int .i64 s, .int .i64 l, .int .i64 i]] w (RetOwn w (mulI d r n s l i)) := by
  by_cases hok : OkC d r n s l i
  · rw [mulI_yes hok]
    have hok2 := hok
    obtain ⟨⟨h1, h2⟩, ⟨h3, h4⟩, _, _, _, _, h5⟩ := hok2
    have H5 := Lib.hid h5
    clear h5
    have HK := Lib.hid hok
    clear hok
    obtain ⟨D, rfl⟩ := Int.eq_ofNat_of_zero_le (by omega : 0 ≤ d)
    obtain ⟨R, rfl⟩ := Int.eq_ofNat_of_zero_le (by omega : 0 ≤ r)
    have hdr : D = 1 → R = 1 := by
      intro h; subst h
      have h6 : ((1 : Nat) % R : Nat) = 0 := by have := H5.out; omega
      rcases Nat.lt_or_ge 1 R with h7 | h7
      · rw [Nat.mod_eq_of_lt h7] at h6; omega
      · omega
    have HDR := Lib.hid hdr
    clear hdr
    go_enter Try.func19, Try.ntmps19
    go_wp2_with (first | (go_at_call 16; refine (check_yes _ _ _ _ _ _ _ HK.out).mono ?_; rintro e w1 ⟨rfl, hb1⟩; obtain ⟨hc, hf⟩ := bcell hb1; have HB := Lib.hid hb1; clear hb1) | (go_at_call 50; refine (multipliers_any D R _ (by omega) (by omega) (by omega) (by omega) HDR.out).mono ?_; rintro e w2 ⟨v, rfl, hown, hb2⟩))
    go_ret
    have hb : Below w.heap.size w w1 := ((Below.refl _ _).alloc (Nat.le_refl _) _).trans (HB.out.mono (by simp))
    exact RetOwn.later ⟨v, rfl, hown, hb2⟩ hb
  · rw [mulI_no hok]
    have HK := Lib.hid hok
    clear hok
    go_enter Try.func19, Try.ntmps19
    go_wp2_with (go_at_call 16; refine (check_no _ _ _ _ _ _ _ HK.out).mono ?_; rintro e w1 ⟨rfl, hb1⟩)
    go_ret
    exact RetOwn.nil (((Below.refl _ _).alloc (Nat.le_refl _) _).trans (hb1.mono (by simp)))
end Go.Proofs.Ytffdhckilhhejaa
