/- DesignMatchesSpec: the walk of the law. -/
import Derived.Test.YtffdhckilhhejaaSan13
namespace Go.Proofs.Ytffdhckilhhejaa
open Go.RowKit
set_option linter.unusedVariables false
set_option linter.unusedSimpArgs false

set_option maxHeartbeats 4000000 in
set_option maxRecDepth 100000 in
theorem designMatches_walk (d r n s l i row disk p : Int) (w : World) :
    Calls Try.prog 3 #[.agg #[.int .i64 d, .int .i64 r, .int .i64 n, .int .i64 s, .int .i64 l, .int .i64 i], .int .i64 row, .int .i64 disk, .int .i64 p] w fun e w' => e = .returned (.bool true) ∧ Below w.heap.size w w' := by
  obtain ⟨M, hM⟩ : ∃ M, M = mulI d r n s l i := ⟨_, rfl⟩
  obtain ⟨O, hO⟩ : ∃ O, O = ordI d r n s l i row := ⟨_, rfl⟩
  have hp1 := fun w => period_any d r n s l i w
  have hp2 := fun w => rperiod_any d r n s l i w
  have hm1 := fun w => multsOf_any d r n s l i w
  have hm2 := fun w => rmult_any d r n s l i w
  have ho1 := fun w => order_any d r n s l i row w
  have ho2 := fun w => rorder_any d r n s l i row w
  obtain ⟨pe, hpe⟩ : ∃ pe, pe = d * ((mulI d r n s l i).length : Int) := ⟨_, rfl⟩
  simp only [← hpe] at hp1 hp2
  simp only [← hM] at hm1 hm2
  simp only [← hO] at ho1 ho2
  have P1 := Lib.hid hp1
  have P2 := Lib.hid hp2
  have M1 := Lib.hid hm1
  have M2 := Lib.hid hm2
  have O1 := Lib.hid ho1
  have O2 := Lib.hid ho2
  have HB := Lib.hid ((Below.refl w.heap.size w).alloc (Nat.le_refl _) (.cells #[.int .i64 d, .int .i64 r, .int .i64 n, .int .i64 s, .int .i64 l, .int .i64 i] 23))
  have HX := Lib.hid (Box6.new w 23 d r n s l i)
  have HI := Lib.hid (Ints.nil (w.alloc (.cells #[.int .i64 d, .int .i64 r, .int .i64 n, .int .i64 s, .int .i64 l, .int .i64 i] 23)))
  have HJ := Lib.hid True.intro
  clear hp1 hp2 hm1 hm2 ho1 ho2 hM hO hpe
  go_enter Try.func3, Try.ntmps3
  go_wp2
  go_region_held3 (fun w' => w'.cell? ⟨w.heap.size, 0, none⟩ = some (.int .i64 d) ∧ w'.cell? ⟨w.heap.size, 1, none⟩ = some (.int .i64 r) ∧ w'.cell? ⟨w.heap.size, 2, none⟩ = some (.int .i64 n) ∧ w'.cell? ⟨w.heap.size, 3, none⟩ = some (.int .i64 s) ∧ w'.cell? ⟨w.heap.size, 4, none⟩ = some (.int .i64 l) ∧ w'.cell? ⟨w.heap.size, 5, none⟩ = some (.int .i64 i)) (exact HX.out.2)
    (first
      | (go_at_call 15; refine (sanity13 _).mono ?_; rintro e w' ⟨rfl, hb⟩; replace HX := Lib.hid (HX.out.keep (Below.after (by first | (exact below_drewN (by go_grown) _) | go_grown) hb)); replace HB := Lib.hid (Below.after HB.out (Below.after (by first | (exact below_drewN (by go_grown) _) | go_grown) hb)); clear hb)
      | (go_at_call 16; refine (check_any _ _ _ _ _ _ _).mono ?_; rintro e w' ⟨rfl, hb⟩; replace HX := Lib.hid (HX.out.keep (Below.after (by first | (exact below_drewN (by go_grown) _) | go_grown) hb)); replace HB := Lib.hid (Below.after HB.out (Below.after (by first | (exact below_drewN (by go_grown) _) | go_grown) hb)); clear hb)
      | (go_at_call 17; refine (rcheck_any _ _ _ _ _ _ _).mono ?_; rintro e w' ⟨rfl, hb⟩; replace HX := Lib.hid (HX.out.keep (Below.after (by first | (exact below_drewN (by go_grown) _) | go_grown) hb)); replace HB := Lib.hid (Below.after HB.out (Below.after (by first | (exact below_drewN (by go_grown) _) | go_grown) hb)); clear hb)
      | (go_at_call 19; refine (M1.out _).mono ?_; rintro e w' ⟨v, rfl, hown, hb⟩; clear HI; have HI := Lib.hid (Ints.of_own hown); clear hown; replace HX := Lib.hid (HX.out.keep (Below.after (by first | (exact below_drewN (by go_grown) _) | go_grown) hb)); replace HB := Lib.hid (Below.after HB.out (Below.after (by first | (exact below_drewN (by go_grown) _) | go_grown) hb)); clear hb)
      | (go_at_call 20; refine (M2.out _).mono ?_; rintro e w' ⟨v, rfl, hown, hb⟩; replace HI := Lib.hid (HI.out.keep (Below.after (by first | (exact below_drewN (by go_grown) _) | go_grown) hb));  clear HJ; have HJ := Lib.hid (Ints.of_own hown); clear hown; replace HX := Lib.hid (HX.out.keep (Below.after (by first | (exact below_drewN (by go_grown) _) | go_grown) hb)); replace HB := Lib.hid (Below.after HB.out (Below.after (by first | (exact below_drewN (by go_grown) _) | go_grown) hb)); clear hb)
      | (go_at_call 21; refine (P1.out _).mono ?_; rintro e w' ⟨rfl, hb⟩; replace HX := Lib.hid (HX.out.keep (Below.after (by first | (exact below_drewN (by go_grown) _) | go_grown) hb)); replace HB := Lib.hid (Below.after HB.out (Below.after (by first | (exact below_drewN (by go_grown) _) | go_grown) hb)); clear hb)
      | (go_at_call 22; refine (P2.out _).mono ?_; rintro e w' ⟨rfl, hb⟩; replace HX := Lib.hid (HX.out.keep (Below.after (by first | (exact below_drewN (by go_grown) _) | go_grown) hb)); replace HB := Lib.hid (Below.after HB.out (Below.after (by first | (exact below_drewN (by go_grown) _) | go_grown) hb)); clear hb)
      | (go_at_call 23; refine (O1.out _).mono ?_; rintro e w' ⟨v, rfl, hown, hb⟩; clear HI; have HI := Lib.hid (Ints.of_own hown); clear hown; replace HX := Lib.hid (HX.out.keep (Below.after (by first | (exact below_drewN (by go_grown) _) | go_grown) hb)); replace HB := Lib.hid (Below.after HB.out (Below.after (by first | (exact below_drewN (by go_grown) _) | go_grown) hb)); clear hb)
      | (go_at_call 24; refine (O2.out _).mono ?_; rintro e w' ⟨v, rfl, hown, hb⟩; replace HI := Lib.hid (HI.out.keep (Below.after (by first | (exact below_drewN (by go_grown) _) | go_grown) hb));  clear HJ; have HJ := Lib.hid (Ints.of_own hown); clear hown; replace HX := Lib.hid (HX.out.keep (Below.after (by first | (exact below_drewN (by go_grown) _) | go_grown) hb)); replace HB := Lib.hid (Below.after HB.out (Below.after (by first | (exact below_drewN (by go_grown) _) | go_grown) hb)); clear hb)
      | (go_at_call 18; refine (same_yes _ _ _ _ HI.out HJ.out).mono ?_; rintro e w' ⟨rfl, n', rfl⟩)
      | (go_at_call 25; refine (position_any _ _ _ _ _ _ _ _ _).mono ?_; rintro e w' ⟨rfl, hb⟩; replace HX := Lib.hid (HX.out.keep (Below.after (by first | (exact below_drewN (by go_grown) _) | go_grown) hb)); replace HB := Lib.hid (Below.after HB.out (Below.after (by first | (exact below_drewN (by go_grown) _) | go_grown) hb)); clear hb)
      | (go_at_call 26; refine (rposition_any _ _ _ _ _ _ _ _ _).mono ?_; rintro e w' ⟨rfl, hb⟩; replace HX := Lib.hid (HX.out.keep (Below.after (by first | (exact below_drewN (by go_grown) _) | go_grown) hb)); replace HB := Lib.hid (Below.after HB.out (Below.after (by first | (exact below_drewN (by go_grown) _) | go_grown) hb)); clear hb)
      | (go_at_call 27; refine (rack_any _ _ _ _ _ _ _ _ _).mono ?_; rintro e w' ⟨rfl, hb⟩; replace HX := Lib.hid (HX.out.keep (Below.after (by first | (exact below_drewN (by go_grown) _) | go_grown) hb)); replace HB := Lib.hid (Below.after HB.out (Below.after (by first | (exact below_drewN (by go_grown) _) | go_grown) hb)); clear hb)
      | (go_at_call 28; refine (rrack_any _ _ _ _ _ _ _ _ _).mono ?_; rintro e w' ⟨rfl, hb⟩; replace HX := Lib.hid (HX.out.keep (Below.after (by first | (exact below_drewN (by go_grown) _) | go_grown) hb)); replace HB := Lib.hid (Below.after HB.out (Below.after (by first | (exact below_drewN (by go_grown) _) | go_grown) hb)); clear hb))
  go_wp2
  go_ret
  exact ⟨rfl, HB.out⟩
end Go.Proofs.Ytffdhckilhhejaa
