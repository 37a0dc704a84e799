/- The examples of the statements of layer 13. -/
import Derived.Test.YtffdhckilhhejaaRef13d
namespace Go.Proofs.Ytffdhckilhhejaa
open Go.RowKit
set_option linter.unusedVariables false
set_option linter.unusedSimpArgs false

theorem ev1 : chkI 6 2 20 1 9 9 = 0 := by decide
theorem ev2 : chkI 0 0 0 0 0 0 = 1 := by decide
theorem ev3 : mulI 6 2 20 1 9 9 = [1, 5] := by decide
theorem ev4 : ordI 6 2 20 1 9 9 1 = [1, 2, 3, 4, 5, 0] := by decide
theorem ev5 : ordI 6 2 20 1 9 9 7 = [1, 0, 5, 4, 3, 2] := by decide
theorem ev6 : posI 6 2 20 1 9 9 7 5 = 2 := by decide
theorem ev7 : posI 6 2 20 1 9 9 20 5 = -1 := by decide
theorem ev8 : rackI 6 2 20 1 9 9 7 2 = 1 := by decide
theorem ev9 : rackI 6 2 20 1 9 9 7 6 = -1 := by decide

set_option maxHeartbeats 1600000 in
set_option maxRecDepth 100000 in
theorem sanity13 (w : World) :
    Calls Try.prog 15 #[] w fun e w' => e = .returned (.bool true) ∧ Below w.heap.size w w' := by
  have HB := Lib.hid ((Below.refl w.heap.size w).alloc (Nat.le_refl _) (.cells #[.int .i64 6, .int .i64 2, .int .i64 20, .int .i64 1, .int .i64 9, .int .i64 9] 23))
  have HX := Lib.hid (Box6.new w 23 6 2 20 1 9 9)
  go_enter Try.func15, Try.ntmps15
  go_wp2_with (first
    | (go_at_call 16; refine (check_any _ _ _ _ _ _ _).mono ?_; rintro e w' ⟨rfl, hb⟩; (try (clear hg c0 c1 c2 c3 c4 c5)); simp only [ev1, ev2]; replace HX := Lib.hid (HX.out.keep (Below.after (by first | (exact below_drewN (by go_grown) _) | go_grown) hb)); replace HB := Lib.hid (Below.after HB.out (Below.after (by first | (exact below_drewN (by go_grown) _) | go_grown) hb)); obtain ⟨hg, c0, c1, c2, c3, c4, c5⟩ := HX.out; clear hb)
    | (go_at_call 19; refine (multsOf_any _ _ _ _ _ _ _).mono ?_; rintro e w' ⟨v, rfl, hown, hb⟩; (try (clear hg c0 c1 c2 c3 c4 c5)); simp only [ev3] at hown; have HI := Lib.hid (Ints.of_own hown); clear hown; replace HX := Lib.hid (HX.out.keep (Below.after (by first | (exact below_drewN (by go_grown) _) | go_grown) hb)); replace HB := Lib.hid (Below.after HB.out (Below.after (by first | (exact below_drewN (by go_grown) _) | go_grown) hb)); obtain ⟨hg, c0, c1, c2, c3, c4, c5⟩ := HX.out; clear hb)
    | (go_at_call 23; refine (order_any _ _ _ _ _ _ _ _).mono ?_; rintro e w' ⟨v, rfl, hown, hb⟩; (try (clear hg c0 c1 c2 c3 c4 c5)); simp only [ev4, ev5] at hown; have HI := Lib.hid (Ints.of_own hown); clear hown; replace HX := Lib.hid (HX.out.keep (Below.after (by first | (exact below_drewN (by go_grown) _) | go_grown) hb)); replace HB := Lib.hid (Below.after HB.out (Below.after (by first | (exact below_drewN (by go_grown) _) | go_grown) hb)); obtain ⟨hg, c0, c1, c2, c3, c4, c5⟩ := HX.out; clear hb)
    | (go_at_call 21; refine (period_any _ _ _ _ _ _ _).mono ?_; rintro e w' ⟨rfl, hb⟩; (try (clear hg c0 c1 c2 c3 c4 c5)); simp only [ev3]; replace HX := Lib.hid (HX.out.keep (Below.after (by first | (exact below_drewN (by go_grown) _) | go_grown) hb)); replace HB := Lib.hid (Below.after HB.out (Below.after (by first | (exact below_drewN (by go_grown) _) | go_grown) hb)); obtain ⟨hg, c0, c1, c2, c3, c4, c5⟩ := HX.out; clear hb)
    | (go_at_call 25; refine (position_any _ _ _ _ _ _ _ _ _).mono ?_; rintro e w' ⟨rfl, hb⟩; (try (clear hg c0 c1 c2 c3 c4 c5)); simp only [ev6, ev7]; replace HX := Lib.hid (HX.out.keep (Below.after (by first | (exact below_drewN (by go_grown) _) | go_grown) hb)); replace HB := Lib.hid (Below.after HB.out (Below.after (by first | (exact below_drewN (by go_grown) _) | go_grown) hb)); obtain ⟨hg, c0, c1, c2, c3, c4, c5⟩ := HX.out; clear hb)
    | (go_at_call 27; refine (rack_any _ _ _ _ _ _ _ _ _).mono ?_; rintro e w' ⟨rfl, hb⟩; (try (clear hg c0 c1 c2 c3 c4 c5)); simp only [ev8, ev9]; replace HX := Lib.hid (HX.out.keep (Below.after (by first | (exact below_drewN (by go_grown) _) | go_grown) hb)); replace HB := Lib.hid (Below.after HB.out (Below.after (by first | (exact below_drewN (by go_grown) _) | go_grown) hb)); obtain ⟨hg, c0, c1, c2, c3, c4, c5⟩ := HX.out; clear hb)
    | (go_at_call 18; refine (same_yes _ _ _ _ (HI.out.alloc _) (Ints.lit _ _ _ _ rfl (by decide))).mono ?_; rintro e w' ⟨rfl, n', rfl⟩))
  go_ret
  exact ⟨rfl, HB.out⟩

end Go.Proofs.Ytffdhckilhhejaa
