/- Numbers and texts are read again as they were written (plain law). -/
import Derived.Test.YtbaojeiinjjlcaaP8
namespace Go.Proofs.Ytbaojeiinjjlcaa
set_option linter.unusedVariables false

theorem val_varB0 (n : Nat) : val (varB n) = n := by
  induction n using Nat.strongRecOn with
  | _ n ih =>
    by_cases h : n < 128
    · rw [varB_small h]; simp [val]; omega
    · rw [varB_big h, val, ih (n / 128) (by omega)]; simp; omega
theorem dropA {T : Type} (a l : List T) (k : Nat) : (a ++ l).drop (a.length + k) = l.drop k := by
  induction a with
  | nil => simp
  | cons x a ih => rw [List.length_cons, List.cons_append, show a.length + 1 + k = (a.length + k) + 1 by omega, List.drop_succ_cons, ih]
theorem varB_form (n : Nat) : ∃ k x, (varB n).length = k + 1 ∧ High (varB n) k ∧ (varB n)[k]? = some x ∧ x.toNat < 128 ∧ (x.toNat = 0 → n = 0) := by
  induction n using Nat.strongRecOn with
  | _ n ih =>
    by_cases h : n < 128
    · rw [varB_small h]
      have e : (UInt8.ofNat n).toNat = n := by rw [UInt8.toNat_ofNat', Nat.mod_eq_of_lt (by omega)]
      exact ⟨0, UInt8.ofNat n, rfl, fun j x hj => by omega, rfl, by omega, by omega⟩
    · obtain ⟨k, x, h1, h2, h3, h4, h5⟩ := ih (n / 128) (by omega)
      rw [varB_big h]
      have e : (UInt8.ofNat (n % 128 + 128)).toNat = n % 128 + 128 := by rw [UInt8.toNat_ofNat', Nat.mod_eq_of_lt (by omega)]
      refine ⟨k + 1, x, by simp [h1], fun j y hj hy => ?_, by simpa using h3, h4, fun h6 => by have := h5 h6; omega⟩
      cases j with
      | zero =>
        rw [List.getElem?_cons_zero] at hy
        injection hy with hy
        subst hy
        omega
      | succ j => exact h2 j y (by omega) (by simpa using hy)
theorem gv_varB {n : Nat} (hn : n ≤ 4294967295) (rest : List UInt8) : gv (varB n ++ rest) = some (n, (varB n).length) := by
  obtain ⟨k, x, h1, h2, h3, h4, h5⟩ := varB_form n
  have hl := varB_len5 hn
  have g3 : (varB n ++ rest)[k]? = some x := by rw [List.getElem?_append_left (by omega)]; exact h3
  have g2 : High (varB n ++ rest) k := fun j y hj hy => h2 j y hj (by rwa [List.getElem?_append_left (by omega)] at hy)
  have hv := gv_val g2 g3 h4 (by omega)
  have ht : (varB n ++ rest).take (k + 1) = varB n := by rw [← h1, List.take_left']; rfl
  rw [ht, val_varB0, if_neg] at hv
  · rw [hv, h1]
  · rintro (⟨h6, h7⟩ | h6)
    · have := h5 h6
      subst this
      rw [varB_small (by omega)] at h1
      simp at h1
      omega
    · omega
theorem gvAt_varB {n : Nat} (hn : n ≤ 4294967295) (pre rest : List UInt8) {xs : List UInt8} {z : Nat} (hx : xs = pre ++ (varB n ++ rest)) (hz : z = pre.length) : gvAt xs z = ((n : Int), ((z + (varB n).length : Nat) : Int), true) := by
  subst hx hz
  have h := gvAt_some (xs := pre ++ (varB n ++ rest)) (at_ := pre.length) (n := n) (k := (varB n).length) (by
    have := dropA pre (varB n ++ rest) 0
    rw [Nat.add_zero, List.drop_zero] at this
    rw [this]
    exact gv_varB hn rest) (by simp)
  rw [h]
  simp
theorem gtAt_text (pre t : List UInt8) (ht : t.length ≤ 4000) {xs : List UInt8} {z : Nat} (hx : xs = pre ++ (varB t.length ++ t)) (hz : z = pre.length) : gtAt xs z = (t, (xs.length : Int), true) := by
  have h := gvAt_varB (n := t.length) (by omega) pre t hx hz
  have hd : xs.drop (z + (varB t.length).length) = t := by
    have := dropA (pre ++ varB t.length) t 0
    rw [Nat.add_zero, List.drop_zero] at this
    rw [hx, hz, ← List.length_append, ← List.append_assoc, this]
  have hl : xs.length = z + (varB t.length).length + t.length := by rw [hx, hz]; simp; omega
  unfold gtAt
  rw [h]
  dsimp only
  rw [if_pos ⟨rfl, by omega, by omega⟩, Int.toNat_natCast, Int.toNat_natCast, hd, List.take_length, hl]
  simp
end Go.Proofs.Ytbaojeiinjjlcaa
