/- Walks of package design (layer 13): Order, Position, Rack. -/
import Derived.Test.YtffdhckilhhejaaDes4
namespace Go.Proofs.Ytffdhckilhhejaa
open Go.RowKit
set_option linter.unusedVariables false
set_option linter.unusedSimpArgs false

/-- The order of a row. -/
def ord (d r row : Nat) : List Nat := (List.range d).map fun p => (mulAt d r row * p + row) % d
theorem ord_length (d r row : Nat) : (ord d r row).length = d := by simp [ord]
theorem ord_getD (d r row p : Nat) (h : p < d) : (I (ord d r row)).getD p 0 = ((mulAt d r row * p + row) % d : Nat) := by
  rw [getD_lt _ _ _ (by rw [I_length, ord_length]; exact h)]; simp [I, ord]
def ordI (d r n s l i row : Int) : List Int := if OkC d r n s l i ∧ 0 ≤ row ∧ row < n then I (ord d.toNat r.toNat row.toNat) else []
theorem ordI_yes {d r n s l i row : Int} (h : OkC d r n s l i ∧ 0 ≤ row ∧ row < n) : ordI d r n s l i row = I (ord d.toNat r.toNat row.toNat) := if_pos h
theorem ordI_no {d r n s l i row : Int} (h : ¬ (OkC d r n s l i ∧ 0 ≤ row ∧ row < n)) : ordI d r n s l i row = [] := if_neg h

theorem mul_bd (a p : Nat) (ha : a ≤ 64) (hp : p ≤ 64) : 0 ≤ (a : Int) * (p : Int) ∧ (a : Int) * (p : Int) ≤ 4096 := by
  have h := Nat.mul_le_mul ha hp
  have e : (a : Int) * (p : Int) = ((a * p : Nat) : Int) := by simp
  omega

set_option maxHeartbeats 800000 in
theorem order_any (d r n s l i row : Int) (w : World) :
    Calls Try.prog 23 #[.agg #[.int .i64 d, .int .i64 r, .int .i64 n, .int .i64 s, .int .i64 l, .int .i64 i], .int .i64 row] w (RetOwn w (ordI d r n s l i row)) := by
  by_cases hok : OkC d r n s l i ∧ 0 ≤ row ∧ row < n
  · have ho := ordI_yes hok
    obtain ⟨hok1, hr0, hr1⟩ := hok
    have hok2 := hok1
    obtain ⟨⟨h1, h2⟩, ⟨h3, h4⟩, ⟨_, h5⟩, _⟩ := hok2
    obtain ⟨D, rfl⟩ := Int.eq_ofNat_of_zero_le (by omega : 0 ≤ d)
    obtain ⟨R, rfl⟩ := Int.eq_ofNat_of_zero_le (by omega : 0 ≤ r)
    obtain ⟨X, rfl⟩ := Int.eq_ofNat_of_zero_le hr0
    simp only [Int.toNat_natCast] at ho
    rw [ho]
    have hru := rule_yes D R n s l i X
    simp only [Int.toNat_natCast] at hru
    have hmm := muls_mem D R _ (by omega) (by omega) (mulAt_mem D R X (by omega) (by omega))
    obtain ⟨a, ha⟩ : ∃ a, a = mulAt D R X := ⟨_, rfl⟩
    have hL : ∀ p, p < D → (I (ord D R X)).getD p 0 = ((a * p + X) % D : Nat) := fun p hp => by rw [ord_getD D R X p hp, ha]
    have hLl : (I (ord D R X)).length = D := by rw [I_length, ord_length]
    rw [← ha] at hru hmm
    obtain ⟨L, hLL⟩ : ∃ L, L = I (ord D R X) := ⟨_, rfl⟩
    simp only [← hLL] at hL hLl ⊢
    have ha64 : a ≤ 64 := by omega
    have hxd : (X : Int) % D < D := Int.emod_lt_of_pos _ (by omega)
    have hxd0 : 0 ≤ (X : Int) % D := Int.emod_nonneg _ (by omega)
    have HRU := Lib.hid hru
    have HK := Lib.hid hok1
    have HL := Lib.hid hL
    have HLl := Lib.hid hLl
    have hDz : ((D : Int) == 0) = false := by simp; omega
    clear hru hok1 hL hLl ho hLL hmm ha
    go_enter Try.func23, Try.ntmps23
    go_wp2_with (first
      | (go_at_call 52; refine (HRU.out _ HK.out (by omega) hr1).mono ?_; rintro e w1 ⟨rfl, hb1⟩; have hcd : w1.cell? ⟨w.heap.size, 0, none⟩ = some (.int .i64 D) := (by rw [hb1.cell (p := ⟨w.heap.size, 0, none⟩) (by simp)]; simp); have hs1 : w.heap.size < w1.heap.size := (by have := hb1.size; simp at this; omega); have HB1 := Lib.hid hb1; clear hb1)
      | (at_make; refine wpList_make1 rfl _ _ 28 rfl 3 (.int .i64 0) 8 Try.underlying28 infoInt rfl D D D rfl rfl rfl rfl (by omega) (by omega) ?_; intro w2 hown2 hb2 hs2; have HO2 := Lib.hid hown2; have HB2 := Lib.hid hb2; clear hown2 hb2))
    obtain ⟨g, hg⟩ : ∃ g, g = w1.heap.size := ⟨_, rfl⟩
    rw [← hg] at HO2 HB2 hs2 ⊢
    have hsg : w.heap.size < g := by omega
    have HG := Lib.hid hg
    clear hg
    go_loopw [24] (fun k wr => ∃ (k' : Nat) (xs : List Int), k = .int .i64 k' ∧ k' ≤ D ∧ xs.length = D ∧ xs.take k' = L.take k' ∧
        wr.ownsRow g 3 1 (.slice (some ⟨g, 0, none⟩) D D) D (xs.map (Value.int .i64)) ∧ Below g w1 wr)
      (fun k _ => D - (intOf k).toNat)
    case atStart =>
      refine ⟨0, List.replicate D 0, rfl, by omega, by simp, by simp, ?_, HB2.out⟩
      rw [List.map_replicate]; exact HO2.out
    case round =>
      obtain ⟨k, xs, rfl, hk, hxl, hx, hown, hbel⟩ := hrel
      have hs2 := hbel.size
      have HX := Lib.hid hx
      have HO := Lib.hid hown
      have HB := Lib.hid hbel
      have HXL := Lib.hid hxl
      by_cases hlt : k < D
      · have hcell : wr.cell? ⟨g, k, none⟩ = some (.int .i64 (xs.getD k 0)) := by
          rw [hown.cellAt k (by omega), List.getElem?_map, List.getElem?_eq_getElem (by omega), getD_lt _ _ _ (by omega)]; rfl
        have hfr : wr.frozen? ⟨g, k, none⟩ = false := hown.frozenAt k
        have hcw : wr.cell? ⟨w.heap.size, 0, none⟩ = some (.int .i64 D) := by rw [hbel.cell (p := ⟨w.heap.size, 0, none⟩) hsg]; exact hcd
        obtain ⟨hp1, hp2⟩ := mul_bd a k ha64 (by omega)
        clear hx hown hbel hxl hcd
        go_wp2
        go_roundw
        case rel =>
          have hv := HL.out k hlt
          have hlen : k < L.length := by rw [HLl.out]; exact hlt
          rw [getD_lt _ _ _ hlen] at hv
          have hsz := HG.out
          have hst := World.ownsRow.stored HO.out k (.int .i64 (((a : Int) * k + X) % D))
          refine ⟨k + 1, xs.set k (((a : Int) * k + X) % D), by go_num, by omega, by simp; exact HXL.out, ?_, ?_, ?_⟩
          · exact fill_step xs L k _ (by rw [HXL.out, HLl.out]) hlen HX.out (by rw [hv]; simp)
          · rw [List.map_set]; exact hst.1
          · exact HB.out.setCell (p := ⟨g, k, none⟩) (by simp) _
        case measure => simp [intOf]; omega
      · obtain rfl : k = D := by omega
        go_wp2
        go_ret
        have hf : xs = L := fill_done xs L k (by rw [HXL.out, HLl.out]) (by rw [HLl.out]; exact Nat.le_refl _) HX.out
        refine ⟨_, rfl, ?_, ?_⟩
        · rw [HLl.out, ← hf]; exact HO.out.mono (by omega)
        · exact (Below.after (by go_grown) HB1.out).trans (HB.out.mono (by omega))
  · rw [ordI_no hok]
    have HK := Lib.hid hok
    clear hok
    go_enter Try.func23, Try.ntmps23
    go_wp2_with (go_at_call 52; refine (rule_no _ _ _ _ _ _ _ _ HK.out).mono ?_; rintro e w1 ⟨rfl, hb1⟩; have HB1 := Lib.hid hb1; clear hb1)
    go_ret
    exact RetOwn.nil (Below.after (by go_grown) HB1.out)
end Go.Proofs.Ytffdhckilhhejaa
