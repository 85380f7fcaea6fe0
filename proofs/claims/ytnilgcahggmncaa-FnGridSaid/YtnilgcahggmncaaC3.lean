/- Attributes, cells and grids drawn. -/
import Derived.Test.YtnilgcahggmncaaC2
import Derived.Test.YtnilgcahggmncaaN6
namespace Go.Proofs.Ytnilgcahggmncaa
open Go.RowKit
set_option linter.unusedVariables false
set_option maxRecDepth 100000

theorem numAttrX (n : Nat) (w : World) (hn : n < 648) :
    Calls Try.prog 146 #[.int .i64 n] w fun e w' => ∃ (f b : Int) (x y z : Bool), attrOkB f b = true ∧ e = .returned (.tuple #[.agg #[.int .i64 f, .int .i64 b, .bool x, .bool y, .bool z], .bool true]) ∧ Below w.heap.size w w' := by
  have h0 : (0 : Int) ≤ (n : Int) := Int.natCast_nonneg n
  have h1 : (n : Int) < 648 := by omega
  go_enter Try.func146, Try.ntmps146
  go_wp2
  exact bodyPost_ret (v := .tuple #[.agg #[.int .i64 ((n : Int) / 8 % 9), .int .i64 ((n : Int) / 72), .bool ((n : Int) % 2 == 1), .bool ((n : Int) / 2 % 2 == 1), .bool ((n : Int) / 4 % 2 == 1)], .bool true]) (by simp [results, Try.results146, go_sem]) rfl ⟨_, _, _, _, _, decide_eq_true (by omega), rfl, (by (repeat (first | exact Below.refl _ _ | (refine Below.alloc ?_ (by first | omega | (simp; done) | (simp; omega)) _) | (refine Below.drew ?_) | (refine below_drewN ?_ _) | (refine below_at1 ?_ (by first | omega | (simp; done) | (simp; omega))) | (refine Below.setCell ?_ (by first | omega | (simp; done) | (simp; omega)) _) | (refine Below.trans ?_ (Below.mono (by assumption) (by first | omega | (simp; done) | (simp; omega)))))))⟩
theorem gr_new {w w1 : World} {r : Option Nat} {k i : Nat} (h : w.grownBy w1 r) (hk : w.heap.size ≤ k) (v : Value) : w.grownBy (w1.setCell ⟨k, i, none⟩ v) r :=
  ⟨h.os, h.tape, h.output, by simpa using h.size, fun j hj hn => (Below.heap_setCell w1 _ v j (by show ¬ j = k; omega)).trans (h.block j hj hn)⟩
theorem Cur.set {w : World} {g n c k i : Nat} {A : Option Addr} (h : Cur w g A n c) (hk : ¬ g = k) (v : Value) : Cur (w.setCell ⟨k, i, none⟩ v) g A n c := h.keep (Below.heap_setCell w _ v g hk)
abbrev aZ : Array Value := #[.int .i64 0, .int .i64 0, .bool false, .bool false, .bool false]
set_option maxHeartbeats 2000000 in
theorem l06Attr_any (g : Nat) (A : Option Addr) (c : Nat) (xs : List UInt8) (w : World) (ha : By w A xs) (h1 : xs.length ≤ 1048576) (hne : ∀ ad, A = some ad → xs ≠ [] → ad.block < g) (hC : Cur w g A xs.length c) :
    Calls Try.prog 139 #[.pointer (some ⟨g, 0, none⟩)] w fun e w' => ∃ (f b : Int) (x y z : Bool), attrOkB f b = true ∧ e = .returned (.agg #[.int .i64 f, .int .i64 b, .bool x, .bool y, .bool z]) ∧ Cur w' g A xs.length c ∧ w.grownBy w' (some g) := by
  have hb0 : Below w.heap.size w (w.alloc (.cells aZ 42)) := (Below.refl _ _).alloc (Nat.le_refl _) _
  have hg0 := gr_below (r := some g) hb0
  have hgl := hC.lt
  go_enter Try.func139, Try.ntmps139
  go_wp2_with fail
  refine (l01BelowN_any g A c xs 2 _ (by_gr ha hne hg0) h1 hne (hC.below hb0) (by omega) (by omega)).mono ?_
  rintro e w1 ⟨k, hk, rfl, hC1, hg1⟩
  have B1 : w1.heap[w.heap.size]? = some (.cells aZ 42 (0, 0)) := (hg1.block _ (by simp) (by intro e; injection e with e; omega)).trans (heap_alloc_new _ _)
  have q1 : ∀ i, w1.cell? ⟨w.heap.size, i, none⟩ = _ := fun i => cell_of_row w1 _ i _ _ (0, 0) B1
  have r1 : ∀ i, w1.frozen? ⟨w.heap.size, i, none⟩ = false := fun i => by simp [World.frozen?, B1]
  have G1 := Lib.hid (gr_trans hg0 hg1)
  by_cases hk0 : k = 0
  · subst hk0
    go_wp2_with fail
    refine bodyPost_ret (v := .agg aZ) (by simp [results, Try.results139, go_sem, *]) rfl ?_
    refine ⟨0, 0, false, false, false, by decide, rfl, ?_, ?_⟩
    · exact ((((hC1.set (by omega) _).set (by omega) _).set (by omega) _).set (by omega) _).set (by omega) _
    · exact gr_new (gr_new (gr_new (gr_new (gr_new G1.out (Nat.le_refl _) _) (Nat.le_refl _) _) (Nat.le_refl _) _) (Nat.le_refl _) _) (Nat.le_refl _) _
  · have hk1 : ((k : Int) == 0) = false := by simp; omega
    go_wp2_with fail
    refine (l01BelowN_any g A c xs 648 _ (by_gr (by_gr ha hne hg0) hne hg1) h1 hne hC1 (by omega) (by omega)).mono ?_
    rintro e w2 ⟨n, hn, rfl, hC2, hg2⟩
    go_wp2_with fail
    refine (numAttrX n w2 hn).mono ?_
    rintro e w3 ⟨f, b, x, y, z, hat, rfl, hb3⟩
    have z1 := (Array.getElem?_eq_some_iff.1 B1).1
    have B2 := (hg2.block _ z1 (by intro e; injection e with e; omega)).trans B1
    have B3 := (hb3.block _ (Array.getElem?_eq_some_iff.1 B2).1).trans B2
    have q3 : ∀ i, w3.cell? ⟨w.heap.size, i, none⟩ = _ := fun i => cell_of_row w3 _ i _ _ (0, 0) B3
    have r3 : ∀ i, w3.frozen? ⟨w.heap.size, i, none⟩ = false := fun i => by simp [World.frozen?, B3]
    have G3 := Lib.hid (gr_trans (gr_trans G1.out hg2) (gr_below hb3))
    have C3 := Lib.hid (hC2.below hb3)
    have z3 := (Array.getElem?_eq_some_iff.1 B3).1
    clear q1 r1 B1 B2 B3
    go_wp2_with fail
    refine bodyPost_ret (v := .agg #[.int .i64 f, .int .i64 b, .bool x, .bool y, .bool z]) (by simp [results, Try.results139, go_sem, *]) rfl ?_
    refine ⟨f, b, x, y, z, hat, rfl, ?_, ?_⟩
    · exact (((((C3.out.set (by omega) _).set (by omega) _).set (by omega) _).set (by omega) _).set (by omega) _).below ((Below.refl _ _).alloc (Nat.le_refl _) _)
    · exact gr_trans (gr_new (gr_new (gr_new (gr_new (gr_new G3.out (Nat.le_refl _) _) (Nat.le_refl _) _) (Nat.le_refl _) _) (Nat.le_refl _) _) (Nat.le_refl _) _) (gr_below ((Below.refl _ _).alloc (Nat.le_refl _) _))
abbrev c6Z : Array Value := #[.int .i64 0, .int .i64 0, .int .i64 0, .bool false, .bool false, .bool false]
set_option maxHeartbeats 2000000 in
theorem l07Cell_any (g : Nat) (A : Option Addr) (c : Nat) (xs : List UInt8) (w : World) (ha : By w A xs) (h1 : xs.length ≤ 1048576) (hne : ∀ ad, A = some ad → xs ≠ [] → ad.block < g) (hC : Cur w g A xs.length c) :
    Calls Try.prog 118 #[.pointer (some ⟨g, 0, none⟩)] w fun e w' => ∃ cl : Cl, cellB cl = true ∧ e = .returned (cV cl) ∧ Cur w' g A xs.length c ∧ w.grownBy w' (some g) := by
  have hb0 : Below w.heap.size w (w.alloc (.cells c6Z 44)) := (Below.refl _ _).alloc (Nat.le_refl _) _
  have hg0 := gr_below (r := some g) hb0
  have hgl := hC.lt
  go_enter Try.func118, Try.ntmps118
  go_wp2_with fail
  refine (l06Rune_any g A c xs _ (by_gr ha hne hg0) h1 hne (hC.below hb0)).mono ?_
  rintro e w1 ⟨r, hr, rfl, hC1, hg1⟩
  go_wp2_with fail
  refine (l06Attr_any g A c xs _ (by_gr (by_gr ha hne hg0) hne hg1) h1 hne hC1).mono ?_
  rintro e w2 ⟨f, b, x, y, z, hat, rfl, hC2, hg2⟩
  have hg12 := gr_trans hg1 hg2
  have B1 : w2.heap[w.heap.size]? = some (.cells c6Z 44 (0, 0)) := (hg12.block _ (by simp) (by intro e; injection e with e; omega)).trans (heap_alloc_new _ _)
  have q1 : ∀ i, w2.cell? ⟨w.heap.size, i, none⟩ = _ := fun i => cell_of_row w2 _ i _ _ (0, 0) B1
  have r1 : ∀ i, w2.frozen? ⟨w.heap.size, i, none⟩ = false := fun i => by simp [World.frozen?, B1]
  have G2 := Lib.hid (gr_trans hg0 hg12)
  go_wp2_with fail
  refine bodyPost_ret (v := .agg #[.int .i64 r, .int .i64 f, .int .i64 b, .bool x, .bool y, .bool z]) (by simp [results, Try.results118, go_sem, *]) rfl ?_
  refine ⟨(r, f, b, x, y, z), by rw [cellB, hr, hat]; rfl, rfl, ?_, ?_⟩
  · exact (((((hC2.set (by omega) _).set (by omega) _).set (by omega) _).set (by omega) _).set (by omega) _).set (by omega) _
  · exact gr_new (gr_new (gr_new (gr_new (gr_new (gr_new G2.out (Nat.le_refl _) _) (Nat.le_refl _) _) (Nat.le_refl _) _) (Nat.le_refl _) _) (Nat.le_refl _) _) (Nat.le_refl _) _
end Go.Proofs.Ytnilgcahggmncaa
