/- spec.GetVar: the numbers read again by the reference. -/
import Derived.Test.YtbaojeiinjjlcaaP4
namespace Go.Proofs.Ytbaojeiinjjlcaa
open Go.RowKit
set_option linter.unusedVariables false

/-- The number whose digits these are, lowest first. -/
def val : List UInt8 → Nat
  | [] => 0
  | x :: r => x.toNat % 128 + 128 * val r
def High (l : List UInt8) (k : Nat) : Prop := ∀ j x, j < k → l[j]? = some x → 128 ≤ x.toNat
theorem High.tail {x : UInt8} {l : List UInt8} {k : Nat} (h : High (x :: l) (k + 1)) : 128 ≤ x.toNat ∧ High l k :=
  ⟨h 0 x (by omega) rfl, fun j y hj hy => h (j + 1) y (by omega) (by simpa using hy)⟩
theorem gvGo_high : ∀ (k i acc : Nat) (l : List UInt8), High l k → k ≤ l.length → (k = l.length ∧ i + k ≤ 5 ∨ i + k = 5) → (0 < k ∨ l = []) → gvGo i acc l = none := by
  intro k
  induction k with
  | zero =>
    intro i acc l h hk hc h0
    rcases h0 with h0 | rfl
    · omega
    · rfl
  | succ k ih =>
    intro i acc l h hk hc _
    cases l with
    | nil => simp at hk
    | cons x l =>
      obtain ⟨hx, ht⟩ := h.tail
      simp at hk hc
      rw [gvGo]
      by_cases hi : i < 4
      · rw [if_pos ⟨hx, hi⟩]
        by_cases hk0 : 0 < k
        · exact ih (i + 1) _ l ht (by omega) (by omega) (.inl hk0)
        · have : k = 0 := by omega
          subst this
          exact ih (i + 1) _ l ht (by omega) (by omega) (.inr (List.eq_nil_of_length_eq_zero (by omega)))
      · rw [if_neg (by omega), if_pos (.inl hx)]
theorem gvGo_val : ∀ (k i acc : Nat) (l : List UInt8) (x : UInt8), High l k → l[k]? = some x → x.toNat < 128 → i + k ≤ 4 →
    gvGo i acc l = if (x.toNat = 0 ∧ 0 < i + k) ∨ 4294967295 < acc + 128 ^ i * val (l.take (k + 1)) then none else some (acc + 128 ^ i * val (l.take (k + 1)), i + k + 1) := by
  intro k
  induction k with
  | zero =>
    intro i acc l x _ hx hlt hi
    cases l with
    | nil => simp at hx
    | cons y l =>
      simp at hx
      subst hx
      rw [gvGo, if_neg (by omega)]
      have e : acc + y.toNat % 128 * 128 ^ i = acc + 128 ^ i * val ((y :: l).take 1) := by simp [val, Nat.mul_comm]
      rw [e]
      by_cases hc : (y.toNat = 0 ∧ 0 < i) ∨ 4294967295 < acc + 128 ^ i * val ((y :: l).take 1)
      · rw [if_pos (.inr hc)]
        exact (if_pos hc).symm
      · rw [if_neg (by omega)]
        exact (if_neg hc).symm
  | succ k ih =>
    intro i acc l x h hx hlt hi
    cases l with
    | nil => simp at hx
    | cons y l =>
      obtain ⟨hy, ht⟩ := h.tail
      simp at hx
      rw [gvGo, if_pos ⟨hy, by omega⟩, ih (i + 1) _ l x ht hx hlt (by omega)]
      have e : acc + y.toNat % 128 * 128 ^ i + 128 ^ (i + 1) * val (l.take (k + 1)) = acc + 128 ^ i * val ((y :: l).take (k + 1 + 1)) := by
        simp only [List.take_succ_cons, val, Nat.pow_succ, Nat.mul_add]
        rw [Nat.mul_comm (y.toNat % 128), Nat.mul_assoc, Nat.add_assoc]
      rw [e, show i + 1 + k = i + (k + 1) from by omega]
theorem gv_val {k : Nat} {l : List UInt8} {x : UInt8} (h : High l k) (hx : l[k]? = some x) (hlt : x.toNat < 128) (hk : k ≤ 4) :
    gv l = if (x.toNat = 0 ∧ 0 < k) ∨ 4294967295 < val (l.take (k + 1)) then none else some (val (l.take (k + 1)), k + 1) := by
  have := gvGo_val k 0 0 l x h hx hlt (by omega)
  simpa [gv] using this
theorem val_lt : ∀ (l : List UInt8), val l < 128 ^ l.length := by
  intro l
  induction l with
  | nil => simp [val]
  | cons x l ih =>
    simp only [val, List.length_cons, Nat.pow_succ]
    have : x.toNat % 128 < 128 := Nat.mod_lt _ (by omega)
    omega
theorem ofNat_toNat (x : UInt8) : UInt8.ofNat x.toNat = x := by simp
/-- Digits are a number's own where the last of them is no idle one. -/
theorem varB_val : ∀ (k : Nat) (l : List UInt8) (x : UInt8), High l k → l[k]? = some x → x.toNat < 128 → (varB (val (l.take (k + 1))) = l.take (k + 1) ↔ ¬ (x.toNat = 0 ∧ 0 < k)) := by
  intro k
  induction k with
  | zero =>
    intro l x _ hx hlt
    cases l with
    | nil => simp at hx
    | cons y l =>
      simp at hx
      subst hx
      simp only [Nat.zero_add, List.take_succ_cons, List.take_zero, val, Nat.mul_zero, Nat.add_zero, Nat.mod_eq_of_lt hlt, varB_small hlt, ofNat_toNat]
      simp
  | succ k ih =>
    intro l x h hx hlt
    cases l with
    | nil => simp at hx
    | cons y l =>
      obtain ⟨hy, ht⟩ := h.tail
      simp at hx
      have ih' := ih l x ht hx hlt
      simp only [List.take_succ_cons, val]
      have hym := y.toNat_lt
      have hk : k < l.length := (List.getElem?_eq_some_iff.1 hx).1
      by_cases hv : val (l.take (k + 1)) = 0
      · rw [hv, varB_small (by omega)]
        have hx0 : x.toNat = 0 := by
          by_cases h0 : x.toNat = 0
          · exact h0
          · have := ih'.2 (by omega)
            rw [hv, varB_small (by omega)] at this
            have hl := congrArg List.length this
            simp at hl
            have hk0 : k = 0 := by omega
            subst hk0
            cases l with
            | nil => simp at hx
            | cons z l =>
              simp at hx
              subst hx
              simp [val] at hv
              omega
        constructor
        · intro he
          have hl := congrArg List.length he
          rw [List.length_cons, List.length_cons, List.length_take, Nat.min_eq_left (by omega)] at hl
          simp at hl
        · intro hn
          exact absurd ⟨hx0, by omega⟩ hn
      · rw [varB_big (by omega)]
        have e1 : (y.toNat % 128 + 128 * val (l.take (k + 1))) % 128 + 128 = y.toNat := by omega
        have e2 : (y.toNat % 128 + 128 * val (l.take (k + 1))) / 128 = val (l.take (k + 1)) := by omega
        rw [e1, e2, ofNat_toNat]
        constructor
        · intro he
          injection he with _ he
          have := ih'.1 he
          intro ⟨h0, _⟩
          by_cases hk0 : 0 < k
          · exact this ⟨h0, hk0⟩
          · have hk0 : k = 0 := by omega
            subst hk0
            cases l with
            | nil => simp at hx
            | cons z l =>
              simp at hx
              subst hx
              simp [val] at hv
              omega
        · intro hn
          rw [ih'.2 (by omega)]
theorem bstr_toList (l : List UInt8) : (bstr l).toList = l := by
  simp [bstr]
theorem gvGo_ex : ∀ (l : List UInt8) (i acc : Nat) (r : Nat × Nat), i ≤ 4 → gvGo i acc l = some r → ∃ j x, High l j ∧ l[j]? = some x ∧ x.toNat < 128 ∧ i + j ≤ 4 := by
  intro l
  induction l with
  | nil => intro i acc r _ h; simp [gvGo] at h
  | cons x l ih =>
    intro i acc r hi h
    rw [gvGo] at h
    by_cases hc : 128 ≤ x.toNat ∧ i < 4
    · rw [if_pos hc] at h
      obtain ⟨j, y, h1, h2, h3, h4⟩ := ih (i + 1) _ r (by omega) h
      refine ⟨j + 1, y, ?_, by simpa using h2, h3, by omega⟩
      intro m z hm hz
      cases m with
      | zero => simp at hz; subst hz; exact hc.1
      | succ m => exact h1 m z (by omega) (by simpa using hz)
    · rw [if_neg hc] at h
      by_cases h2 : 128 ≤ x.toNat
      · rw [if_pos (.inl h2)] at h; cases h
      · exact ⟨0, x, fun j y hj => by omega, rfl, by omega, by omega⟩
/-- A number that is read is the number whose bytes stand there. -/
theorem gv_some {l : List UInt8} {n k : Nat} (h : gv l = some (n, k)) : n ≤ 4294967295 ∧ 1 ≤ k ∧ k ≤ l.length ∧ k ≤ 5 ∧ l.take k = varB n := by
  obtain ⟨j, x, h1, h2, h3, h4⟩ := gvGo_ex l 0 0 _ (by omega) h
  have hj : j < l.length := (List.getElem?_eq_some_iff.1 h2).1
  have hg := gv_val h1 h2 h3 (by omega)
  rw [hg] at h
  by_cases hc : (x.toNat = 0 ∧ 0 < j) ∨ 4294967295 < val (l.take (j + 1))
  · rw [if_pos hc] at h; cases h
  · rw [if_neg hc] at h
    injection h with h
    injection h with ha hb
    subst ha hb
    exact ⟨by omega, by omega, by omega, by omega, ((varB_val j l x h1 h2 h3).2 (by omega)).symm⟩
theorem val_append_low (l : List UInt8) (x : UInt8) : val (x :: l) = val l * 128 + x.toNat % 128 := by simp [val]; omega

theorem gvAt_len {xs : List UInt8} {at_ : Nat} (h : xs.length ≤ at_) : gvAt xs at_ = (0, 0, false) := by
  by_cases h2 : at_ ≤ xs.length
  · apply gvAt_none
    rw [List.drop_eq_nil_of_le h]
    rfl
  · exact gvAt_out (.inr (by omega))
end Go.Proofs.Ytbaojeiinjjlcaa
