/- A cell of a grid: both ways. -/
import Derived.Test.YtnilgcahggmncaaG15
namespace Go.Proofs.Ytnilgcahggmncaa
open Go.RowKit
set_option linter.unusedVariables false
set_option maxRecDepth 100000

/-- The cell at a place. -/
def gatR (W H : Int) (cs : List Cl) (x y : Int) : Cl :=
  if gridB W H cs = true ∧ (0 ≤ x ∧ x < W) ∧ (0 ≤ y ∧ y < H) then (cs[(y * W + x).toNat]?).getD cl0 else cl0
theorem gat_no {W H : Int} {cs : List Cl} {x y : Int} (h : ¬ (gridB W H cs = true ∧ (0 ≤ x ∧ x < W) ∧ (0 ≤ y ∧ y < H))) : gatR W H cs x y = cl0 := if_neg h
theorem grid_len {W H : Int} {cs : List Cl} (h : gridB W H cs = true) : (1 ≤ W ∧ W ≤ 120) ∧ (1 ≤ H ∧ H ≤ 120) ∧ W * H ≤ 4000 ∧ (cs.length : Int) = W * H := by
  rw [gridB, Bool.and_eq_true, Bool.and_eq_true] at h
  obtain ⟨⟨h1, h2⟩, _⟩ := h
  have h1 := of_decide_eq_true h1
  have h2 := of_decide_eq_true h2
  exact ⟨⟨h1.1, h1.2.1⟩, ⟨h1.2.2.1, h1.2.2.2.1⟩, h1.2.2.2.2, h2⟩
theorem row_bd {a b k j : Nat} (hk : k < b) (hj : j < a) : k * a + j < b * a ∧ k * a + a ≤ b * a := by
  have h1 : (k + 1) * a ≤ b * a := Nat.mul_le_mul_right a (by omega)
  rw [Nat.succ_mul] at h1
  omega
theorem has_any (W H : Int) (A : Option Addr) (n c : Nat) (x y : Int) (w : World) (hW : 0 ≤ W ∧ W ≤ 1000) (hH : 0 ≤ H ∧ H ≤ 1000) :
    Calls Try.prog 60 #[gV W H A n c, .int .i64 x, .int .i64 y] w fun e w' => e = .returned (.bool (decide ((0 ≤ x ∧ x < W) ∧ (0 ≤ y ∧ y < H)))) ∧ Below w.heap.size w w' := by
  obtain ⟨hW1, hW2⟩ := hW
  obtain ⟨hH1, hH2⟩ := hH
  by_cases h1 : 0 ≤ x ∧ x < W
  · have W1 : Hid (withinB x 0 (W - 1) = true) := by show _ = _; simp [withinB]; omega
    have HR : Hid (withinB y 0 (H - 1) = decide ((0 ≤ x ∧ x < W) ∧ (0 ≤ y ∧ y < H))) := by
      show _ = _
      rw [Bool.eq_iff_iff]
      simp [withinB]
      omega
    clear h1
    go_enter Try.func60, Try.ntmps60
    go_wp2_with (go_at_call 63; refine (within_any _ _ _ _).mono ?_; rintro e w' ⟨he, rfl⟩; (first | (rw [W1.out] at he) | (rw [HR.out] at he)); subst he)
    go_ret
    exact ⟨ret_bool (by rw [Bool.eq_iff_iff]; simp [and_assoc]), (by (repeat (first | exact Below.refl _ _ | (refine Below.alloc ?_ (by first | omega | (simp; done) | (simp; omega)) _) | (refine Below.drew ?_) | (refine below_drewN ?_ _) | (refine below_at1 ?_ (by first | omega | (simp; done) | (simp; omega))) | (refine Below.setCell ?_ (by first | omega | (simp; done) | (simp; omega)) _) | (refine Below.trans ?_ (Below.mono (by assumption) (by first | omega | (simp; done) | (simp; omega)))))))⟩
  · have W1 : Hid (withinB x 0 (W - 1) = false) := by show _ = _; simp [withinB]; omega
    have HR : Hid (decide ((0 ≤ x ∧ x < W) ∧ (0 ≤ y ∧ y < H)) = false) := decide_eq_false (fun h => h1 h.1)
    clear h1
    go_enter Try.func60, Try.ntmps60
    go_wp2_with (go_at_call 63; refine (within_any _ _ _ _).mono ?_; rintro e w' ⟨he, rfl⟩; rw [W1.out] at he; subst he)
    go_ret
    exact ⟨ret_bool HR.out.symm, (by (repeat (first | exact Below.refl _ _ | (refine Below.alloc ?_ (by first | omega | (simp; done) | (simp; omega)) _) | (refine Below.drew ?_) | (refine below_drewN ?_ _) | (refine below_at1 ?_ (by first | omega | (simp; done) | (simp; omega))) | (refine Below.setCell ?_ (by first | omega | (simp; done) | (simp; omega)) _) | (refine Below.trans ?_ (Below.mono (by assumption) (by first | omega | (simp; done) | (simp; omega)))))))⟩
theorem mul_nat {a k p : Nat} (hp : p = k * a) (h : p ≤ 1048576) : wrap64 ((k : Int) * (a : Int)) = (p : Int) := by
  have h2 : ((k * a : Nat) : Int) = (k : Int) * (a : Int) := by simp
  rw [← h2, ← hp]
  exact w64 (by omega)
theorem mul_nat1 {a k q : Nat} (hq : q = (k + 1) * a) (h : q ≤ 1048576) : wrap64 (((k : Int) + 1) * (a : Int)) = (q : Int) := by
  have h2 : (((k + 1) * a : Nat) : Int) = ((k : Int) + 1) * (a : Int) := by simp
  rw [← h2, ← hq]
  exact w64 (by omega)
set_option maxHeartbeats 400000 in
theorem row_any (a : Nat) (H : Int) (A : Option Addr) (n c k p q : Nat) (w : World) (hp : Hid (p = k * a)) (hq : Hid (q = (k + 1) * a)) (hpq : p < q) (hqn : q ≤ n) (hnc : n ≤ c) (hn : n ≤ 4000) (hk : k ≤ 1000) :
    Calls Try.prog 53 #[gV a H A n c, .int .i64 k] w fun e w' => e = .returned (.slice (A.map (·.add (p * 6))) (q - p) (c - p)) ∧ Below w.heap.size w w' := by
  have e1 := mul_nat hp.out (by omega)
  have e2 := mul_nat1 hq.out (by omega)
  have e3 : ¬ c = p := by omega
  have e4 : (p : Int) ≤ q := by omega
  have e5 : (q : Int) ≤ c := by omega
  go_enter Try.func53, Try.ntmps53
  go_wp2_with fail
  go_ret
  exact ⟨rfl, (by (repeat (first | exact Below.refl _ _ | (refine Below.alloc ?_ (by first | omega | (simp; done) | (simp; omega)) _) | (refine Below.drew ?_) | (refine below_drewN ?_ _) | (refine below_at1 ?_ (by first | omega | (simp; done) | (simp; omega))) | (refine Below.setCell ?_ (by first | omega | (simp; done) | (simp; omega)) _) | (refine Below.trans ?_ (Below.mono (by assumption) (by first | omega | (simp; done) | (simp; omega)))))))⟩
end Go.Proofs.Ytnilgcahggmncaa
