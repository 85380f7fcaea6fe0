/- Which generation a file's name tells: the reference's way. -/
import Derived.Test.YtbaojeiinjjlcaaDoorT6
namespace Go.Proofs.YtbaojeiinjjlcaaDoor
open Go.RowKit Go.Lib
set_option linter.unusedVariables false
set_option maxRecDepth 100000

/-- A name that tells generation n. -/
def gok (l : List UInt8) (n : Nat) : Prop := 1 ≤ n ∧ n ≤ 1000000000 ∧ (l = snapS ++ decDigits n ∨ l = logS ++ decDigits n)
theorem gok_uniq {l : List UInt8} {n m : Nat} (h : gok l n) (h' : gok l m) : n = m := by
  obtain ⟨_, _, h⟩ := h
  obtain ⟨_, _, h'⟩ := h'
  rcases h with h | h <;> rcases h' with h' | h'
  · rw [h] at h'; exact dec_inj (List.append_cancel_left h')
  · rw [h] at h'; simp [snapS, logS] at h'
  · rw [h] at h'; simp [snapS, logS] at h'
  · rw [h] at h'; exact dec_inj (List.append_cancel_left h')
def goP (l : List UInt8) (v : Value) : Prop := (∃ n, gok l n ∧ v = .tuple #[.int .i64 (n : Nat), .bool true]) ∨ ((∀ n, ¬ gok l n) ∧ v = .tuple #[.int .i64 0, .bool false])
theorem goP_uniq {l : List UInt8} {v v' : Value} (h : goP l v) (h' : goP l v') : v = v' := by
  rcases h with ⟨n, h, rfl⟩ | ⟨h, rfl⟩ <;> rcases h' with ⟨m, h', rfl⟩ | ⟨h', rfl⟩
  · rw [gok_uniq h h']
  · exact absurd h (h' n)
  · exact absurd h' (h m)
  · rfl
theorem nm_nat {p : List UInt8} {n : Nat} : nmL p n = if 1 ≤ n ∧ n ≤ 1000000000 then p ++ decDigits n else [] := by
  unfold nmL
  by_cases h : 1 ≤ n ∧ n ≤ 1000000000
  · rw [if_pos h, if_pos ⟨by omega, by omega⟩, nt_yes (by omega)]
  · rw [if_neg h, if_neg (by omega)]
/-- What a found name tells. -/
theorem nm_gok {l : List UInt8} {n : Nat} (hl : l ≠ []) : (nmL snapS n = l ∨ nmL logS n = l) ↔ gok l n := by
  rw [nm_nat, nm_nat, gok]
  by_cases h : 1 ≤ n ∧ n ≤ 1000000000
  · rw [if_pos h, if_pos h]
    constructor
    · rintro (h2 | h2)
      · exact ⟨h.1, h.2, .inl h2.symm⟩
      · exact ⟨h.1, h.2, .inr h2.symm⟩
    · rintro ⟨_, _, h2 | h2⟩
      · exact .inl h2.symm
      · exact .inr h2.symm
  · rw [if_neg h, if_neg h]
    constructor
    · rintro (h2 | h2) <;> exact absurd h2.symm hl
    · rintro ⟨h1, h2, _⟩; exact absurd ⟨h1, h2⟩ h
/-- Where the dot of a name stands, and what stands behind it. -/
theorem gok_dot {l : List UInt8} {n : Nat} (h : gok l n) : ∃ k, l[k]? = some 46 ∧ l.drop (k + 1) = decDigits n ∧ (∀ j, j < k → l[j]? ≠ some 46) ∧ k < l.length := by
  obtain ⟨_, _, rfl | rfl⟩ := h
  · refine ⟨4, rfl, rfl, ?_, by simp [snapS]⟩
    intro j hj
    match j, hj with
    | 0, _ => simp [snapS]
    | 1, _ => simp [snapS]
    | 2, _ => simp [snapS]
    | 3, _ => simp [snapS]
  · refine ⟨3, rfl, rfl, ?_, by simp [logS]⟩
    intro j hj
    match j, hj with
    | 0, _ => simp [logS]
    | 1, _ => simp [logS]
    | 2, _ => simp [logS]
theorem bstr_drop (xs : List UInt8) (k : Nat) : (bstr xs).extract k xs.length = bstr (xs.drop k) := by
  apply ByteArray.ext
  apply Array.ext'
  simp [bstr]
  exact List.take_of_length_le (by simp)
/-- The condition of the reference at place k fails. -/
def noAt (xs : List UInt8) (k : Nat) : Prop := xs[k]? = some 46 → ∀ n, gok xs n → xs.drop (k + 1) ≠ decDigits n
theorem no_gok {xs : List UInt8} (h : ∀ k, k < xs.length → noAt xs k) (n : Nat) : ¬ gok xs n := fun hg => by
  obtain ⟨k, h1, h2, _, h3⟩ := gok_dot hg
  exact h k h3 h1 n hg h2
end Go.Proofs.YtbaojeiinjjlcaaDoor
