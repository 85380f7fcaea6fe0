/- What decimal numerals spell (plain law). -/
import Derived.Lib.ItoaNum
import Derived.Lib.AtoiAll
namespace Go.Proofs.YtbaojeiinjjlcaaDoor
open Go.Lib
/-- What decimal digits spell. -/
def valF (l : List UInt8) : Nat := l.foldl (fun a c => a * 10 + (c.toNat - 48)) 0
def tnB (l : List UInt8) : Bool := decide (valF l ≤ 4294967295 ∧ decDigits (valF l) = l)
theorem dec_small {u : Nat} (h : u < 10) : decDigits u = [UInt8.ofNat (48 + u)] := by rw [decDigits, dif_pos h]
theorem dec_big {u : Nat} (h : ¬ u < 10) : decDigits u = decDigits (u / 10) ++ [UInt8.ofNat (48 + u % 10)] := by rw [decDigits, dif_neg h]
theorem dig_nat {u : Nat} (h : u < 10) : (UInt8.ofNat (48 + u)).toNat = 48 + u := by
  rw [UInt8.toNat_ofNat']; omega
theorem valF_snoc (l : List UInt8) (c : UInt8) : valF (l ++ [c]) = valF l * 10 + (c.toNat - 48) := by simp [valF]
theorem valF_dec (u : Nat) : valF (decDigits u) = u := by
  induction u using Nat.strongRecOn with
  | _ u ih =>
    by_cases h : u < 10
    · rw [dec_small h]; simp only [valF, List.foldl, dig_nat h]; omega
    · rw [dec_big h, valF_snoc, ih (u / 10) (by omega), dig_nat (by omega)]; omega
theorem dec_digit (u : Nat) : ∀ c ∈ decDigits u, 48 ≤ c.toNat ∧ c.toNat ≤ 57 := by
  induction u using Nat.strongRecOn with
  | _ u ih =>
    intro c hc
    by_cases h : u < 10
    · rw [dec_small h] at hc; simp only [List.mem_singleton] at hc; subst hc; rw [dig_nat h]; omega
    · rw [dec_big h, List.mem_append] at hc
      rcases hc with hc | hc
      · exact ih (u / 10) (by omega) c hc
      · simp only [List.mem_singleton] at hc; subst hc; rw [dig_nat (by omega)]; omega
theorem dec_ne (u : Nat) : decDigits u ≠ [] := by
  by_cases h : u < 10
  · rw [dec_small h]; simp
  · rw [dec_big h]; simp
theorem dec_len_le : ∀ (k u : Nat), u < 10 ^ (k + 1) → (decDigits u).length ≤ k + 1
  | 0, u, h => by rw [dec_small (by simpa using h)]; simp
  | k + 1, u, h => by
    by_cases h1 : u < 10
    · rw [dec_small h1]; simp
    · rw [dec_big h1, List.length_append]
      have h2 : u / 10 < 10 ^ (k + 1) := by rw [Nat.pow_succ] at h; omega
      have := dec_len_le k (u / 10) h2
      simp; omega
theorem tn_dec {n : Nat} (h : n ≤ 4294967295) : tnB (decDigits n) = true := by
  unfold tnB; rw [valF_dec]; simpa using h
theorem tn_iff {l : List UInt8} : tnB l = true ↔ ∃ n, n ≤ 4294967295 ∧ l = decDigits n := by
  constructor
  · intro h; unfold tnB at h; simp only [decide_eq_true_eq] at h; exact ⟨_, h.1, h.2.symm⟩
  · rintro ⟨n, h, rfl⟩; exact tn_dec h
theorem tn_len {l : List UInt8} (h : tnB l = true) : 1 ≤ l.length ∧ l.length ≤ 10 := by
  obtain ⟨n, hn, rfl⟩ := tn_iff.1 h
  refine ⟨?_, dec_len_le 9 n (by omega)⟩
  have := dec_ne n
  cases hd : decDigits n with
  | nil => exact absurd hd this
  | cons _ _ => simp
theorem tn_digit {l : List UInt8} (h : tnB l = true) : ∀ c ∈ l, 48 ≤ c.toNat ∧ c.toNat ≤ 57 := by
  obtain ⟨n, hn, rfl⟩ := tn_iff.1 h
  exact dec_digit n
theorem parse_fold : ∀ (l : List UInt8) (acc : Nat), (∀ c ∈ l, 48 ≤ c.toNat ∧ c.toNat ≤ 57) → l.foldl (fun a c => a * 10 + (c.toNat - 48)) acc < 18446744073709551616 → parseUint10 acc l = .ok (l.foldl (fun a c => a * 10 + (c.toNat - 48)) acc)
  | [], acc, _, _ => rfl
  | c :: r, acc, hd, hb => by
    have hc := hd c (by simp)
    have hmono : ∀ (r : List UInt8) (a : Nat), a ≤ r.foldl (fun a c => a * 10 + (c.toNat - 48)) a := by
      intro r
      induction r with
      | nil => intro a; exact Nat.le_refl _
      | cons x r ih => intro a; exact Nat.le_trans (by omega) (ih (a * 10 + (x.toNat - 48)))
    have h1 := hmono r (acc * 10 + (c.toNat - 48))
    simp only [List.foldl] at hb ⊢
    rw [parseUint10, if_pos hc, if_neg (by omega), if_neg (by omega)]
    exact parse_fold r _ (fun x hx => hd x (by simp [hx])) hb
theorem atoi_dec {n : Nat} (h : n ≤ 4294967295) : atoiAll (decDigits n) = .ok (n : Int) := by
  have hd := dec_digit n
  have hv := valF_dec n
  have hp := parse_fold (decDigits n) 0 hd (by show valF (decDigits n) < _; rw [hv]; omega)
  have hp : parseUint10 0 (decDigits n) = .ok n := by rw [hp]; congr 1
  have hne := dec_ne n
  generalize decDigits n = l at hp hd hne
  cases l with
  | nil => exact absurd rfl hne
  | cons c r =>
    have hc := hd c (by simp)
    have e1 : ¬ (c.toNat = 43 ∨ c.toNat = 45) := by omega
    have e2 : ¬ c.toNat = 45 := by omega
    have e3 : parseMag (c :: r) = .ok n := by rw [parseMag, if_neg (by simp), hp]
    simp only [atoiAll]
    rw [if_neg e1, e3]
    simp only [e2, not_false_eq_true, true_and, false_and, if_false]
    rw [if_neg (by omega)]
/-- What the program's TextNum asks: Atoi, and the numeral again. -/
theorem tn_of_atoi {l : List UInt8} {v : Int} (h : atoiAll l = .ok v) (h0 : 0 ≤ v) (h1 : v ≤ 4294967295) : tnB l = decide (decDigits v.toNat = l) := by
  rw [Bool.eq_iff_iff, decide_eq_true_eq, tn_iff]
  constructor
  · rintro ⟨n, hn, rfl⟩
    rw [atoi_dec hn] at h
    cases h
    simp
  · intro e
    exact ⟨v.toNat, by omega, e.symm⟩
theorem tn_out {l : List UInt8} {v : Int} (h : atoiAll l = .ok v) (h0 : ¬ (0 ≤ v ∧ v ≤ 4294967295)) : tnB l = false := by
  rw [Bool.eq_false_iff, ne_eq, tn_iff]
  rintro ⟨n, hn, rfl⟩
  rw [atoi_dec hn] at h
  cases h
  omega
theorem tn_err {l : List UInt8} (h : ∀ v, atoiAll l ≠ .ok v) : tnB l = false := by
  rw [Bool.eq_false_iff, ne_eq, tn_iff]
  rintro ⟨n, hn, rfl⟩
  exact h _ (atoi_dec hn)
theorem tn_val {l : List UInt8} {v : Int} (h : atoiAll l = .ok v) (ht : tnB l = true) : v = (valF l : Int) := by
  obtain ⟨n, hn, rfl⟩ := tn_iff.1 ht
  rw [atoi_dec hn] at h
  cases h
  rw [valF_dec]
theorem dec_inj {a b : Nat} (h : decDigits a = decDigits b) : a = b := by rw [← valF_dec a, ← valF_dec b, h]
end Go.Proofs.YtbaojeiinjjlcaaDoor
