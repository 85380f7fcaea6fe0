/- The beginning of a rune (plain law). -/
import Derived.Test.YtdmhmelmoobekaaG2
namespace Go.Proofs.Ytdmhmelmoobekaa
open Go.RowKit
set_option linter.unusedVariables false
set_option maxRecDepth 100000

theorem ub_eq {n : Int} {x : UInt8} (h : n = x.toNat) : ub n = x := by
  subst h
  apply UInt8.toNat_inj.1
  rw [ub, UInt8.toNat_ofNat']
  have := x.toNat_lt
  simp
theorem rb2_iff {a x : UInt8} {r : Int} (h1 : 192 ≤ a.toNat) (h2 : a.toNat ≤ 223) (h3 : 128 ≤ x.toNat) (h4 : x.toNat ≤ 191) (hr : r = (a.toNat - 192) * 64 + x.toNat - 128) : rb r = [a, x] ↔ 128 ≤ r ∧ showsB r = true := by
  constructor
  · intro h
    have h5 := rb_inv2 h
    refine ⟨by omega, ?_⟩
    by_cases hs : showsB r = true
    · exact hs
    · rw [rb_0 (by simpa using hs)] at h; simp at h
  · rintro ⟨h5, hs⟩
    rw [rb_2 hs (by omega) (by omega), ub_eq (x := a) (by omega), ub_eq (x := x) (by omega)]
theorem rb3_iff {a b x : UInt8} {r : Int} (h1 : 224 ≤ a.toNat) (h2 : a.toNat ≤ 239) (h3 : 128 ≤ b.toNat) (h4 : b.toNat ≤ 191) (h5 : 128 ≤ x.toNat) (h6 : x.toNat ≤ 191) (hr : r = ((a.toNat - 224) * 64 + b.toNat - 128) * 64 + x.toNat - 128) : rb r = [a, b, x] ↔ 2048 ≤ r ∧ showsB r = true := by
  constructor
  · intro h
    by_cases hs : showsB r = true
    · refine ⟨?_, hs⟩
      by_cases h7 : r < 128
      · rw [rb_1 hs h7] at h; simp at h
      · by_cases h8 : r < 2048
        · rw [rb_2 hs h7 h8] at h; simp at h
        · omega
    · rw [rb_0 (by simpa using hs)] at h; simp at h
  · rintro ⟨h7, hs⟩
    rw [rb_3 hs (by omega) (by omega), ub_eq (x := a) (by omega), ub_eq (x := b) (by omega), ub_eq (x := x) (by omega)]
theorem rr_size {xs : List UInt8} {s : Nat} (h0 : 0 < xs.length) (hs : 1 ≤ s) : (rrR xs 0).2 = (s : Int) ↔ szOf (bt xs 0) = s ∧ rrOk xs 0 s (vOf xs 0) := by
  have h := rrR_at (xs := xs) (k := 0) h0
  rw [show ((0 : Nat) : Int) = 0 from rfl] at h
  rw [h]
  constructor
  · intro h2
    split at h2
    · rename_i ho
      have e : szOf (bt xs 0) = s := by
        have h3 : ((szOf (bt xs 0) : Nat) : Int) = s := h2
        omega
      exact ⟨e, e ▸ ho⟩
    · simp at h2; omega
  · rintro ⟨e, ho⟩
    rw [e, if_pos ho]
/-- Whether bytes begin a rune. -/
def bgR (xs : List UInt8) : Bool :=
  match xs with
  | [a] => decide (194 ≤ a.toNat ∧ a.toNat ≤ 239)
  | [a, b] => decide (b.toNat / 64 = 2 ∧ 224 ≤ a.toNat ∧ 2048 ≤ ((a.toNat : Int) - 224) * 4096 + (b.toNat % 64 : Nat) * 64) && showsB (((a.toNat : Int) - 224) * 4096 + (b.toNat % 64 : Nat) * 64)
  | _ => false
/-- What the reference asks of a last byte. -/
def BgP (xs : List UInt8) (x : Nat) : Prop := (rrR (xs ++ [UInt8.ofNat x]) 0).2 = ((xs.length + 1 : Nat) : Int) ∨ (xs.length = 1 ∧ (rrR (xs ++ [UInt8.ofNat x] ++ [129]) 0).2 = ((3 : Nat) : Int))
theorem shows_iff {r : Int} : showsB r = true ↔ (32 ≤ r ∧ r ≤ 126 ∨ 160 ≤ r ∧ r ≤ 65535 ∧ ¬ (55296 ≤ r ∧ r ≤ 57343)) := by rw [showsB, decide_eq_true_iff]
theorem of_small {x : Nat} (h : x < 256) : (UInt8.ofNat x).toNat = x := by rw [UInt8.toNat_ofNat', Nat.mod_eq_of_lt h]
theorem bg_one {a : UInt8} : bgR [a] = true ↔ ∃ x, 128 ≤ x ∧ x < 192 ∧ BgP [a] x := by
  have ha := a.toNat_lt
  have two : ∀ x, 128 ≤ x → x < 192 → ((rrR ([a] ++ [UInt8.ofNat x]) 0).2 = ((2 : Nat) : Int) ↔ 192 ≤ a.toNat ∧ a.toNat ≤ 223 ∧ 160 ≤ (a.toNat - 192) * 64 + x - 128) := by
    intro x hx1 hx2
    have e := of_small (x := x) (by omega)
    rw [rr_size (by simp) (by omega)]
    have eb : bt ([a] ++ [UInt8.ofNat x]) 0 = a.toNat := rfl
    have eb1 : bt ([a] ++ [UInt8.ofNat x]) 1 = (UInt8.ofNat x).toNat := rfl
    rw [eb]
    constructor
    · rintro ⟨h1, h2⟩
      have h3 := rrOk_2 h2
      rw [eb] at h3
      have h4 : vOf ([a] ++ [UInt8.ofNat x]) 0 = v2 ([a] ++ [UInt8.ofNat x]) 0 := by rw [vOf, eb, if_pos h1]
      have h5 := h2.2
      rw [h4, v2, eb, show 0 + 1 = 1 from rfl, eb1] at h5
      have h6 := (rb2_iff (by omega) (by omega) (by omega) (by omega) rfl).1 (show rb _ = [a, UInt8.ofNat x] from h5)
      have h7 := shows_iff.1 h6.2
      omega
    · rintro ⟨h1, h2, h3⟩
      have h4 : szOf (a.toNat : Int) = 2 := if_pos ⟨by omega, by omega⟩
      refine ⟨h4, by simp, ?_⟩
      rw [vOf, eb, if_pos h4, v2, eb, show 0 + 1 = 1 from rfl, eb1]
      exact (rb2_iff (by omega) (by omega) (by omega) (by omega) rfl).2 ⟨by omega, shows_iff.2 (by omega)⟩
  have three : ∀ x, 128 ≤ x → x < 192 → ((rrR ([a] ++ [UInt8.ofNat x] ++ [129]) 0).2 = ((3 : Nat) : Int) ↔ 224 ≤ a.toNat ∧ a.toNat ≤ 239 ∧ (2048 ≤ ((a.toNat - 224) * 64 + x - 128) * 64 + 1 ∧ ¬ (55296 ≤ ((a.toNat - 224) * 64 + x - 128) * 64 + 1 ∧ ((a.toNat - 224) * 64 + x - 128) * 64 + 1 ≤ 57343))) := by
    intro x hx1 hx2
    have e := of_small (x := x) (by omega)
    rw [rr_size (by simp) (by omega)]
    have eb : bt ([a] ++ [UInt8.ofNat x] ++ [129]) 0 = a.toNat := rfl
    have eb1 : bt ([a] ++ [UInt8.ofNat x] ++ [129]) 1 = (UInt8.ofNat x).toNat := rfl
    have eb2 : bt ([a] ++ [UInt8.ofNat x] ++ [129]) 2 = ((129 : UInt8).toNat : Int) := rfl
    have e129 : (129 : UInt8).toNat = 129 := rfl
    rw [eb]
    constructor
    · rintro ⟨h1, h2⟩
      have h3 := rrOk_3 h2
      rw [eb] at h3
      have h4 : vOf ([a] ++ [UInt8.ofNat x] ++ [129]) 0 = v3 ([a] ++ [UInt8.ofNat x] ++ [129]) 0 := by rw [vOf, eb, h1]; rfl
      have h5 := h2.2
      rw [h4, v3, eb, show 0 + 1 = 1 from rfl, show 0 + 2 = 2 from rfl, eb1, eb2] at h5
      have h6 := (rb3_iff (by omega) (by omega) (by omega) (by omega) (by omega) (by omega) rfl).1 (show rb _ = [a, UInt8.ofNat x, 129] from h5)
      have h7 := shows_iff.1 h6.2
      omega
    · rintro ⟨h1, h2, h3⟩
      have h4 : szOf (a.toNat : Int) = 3 := by rw [szOf, if_neg (by omega), if_pos ⟨by omega, by omega⟩]
      refine ⟨h4, by simp, ?_⟩
      rw [vOf, eb, h4, if_neg (by decide), if_pos rfl, v3, eb, show 0 + 1 = 1 from rfl, show 0 + 2 = 2 from rfl, eb1, eb2]
      exact (rb3_iff (by omega) (by omega) (by omega) (by omega) (by omega) (by omega) rfl).2 ⟨by omega, shows_iff.2 (by omega)⟩
  rw [bgR, decide_eq_true_iff]
  constructor
  · rintro ⟨h1, h2⟩
    by_cases h3 : a.toNat ≤ 223
    · exact ⟨160, by omega, by omega, .inl ((two 160 (by omega) (by omega)).2 ⟨by omega, h3, by omega⟩)⟩
    · by_cases h4 : a.toNat = 237
      · exact ⟨128, by omega, by omega, .inr ⟨rfl, (three 128 (by omega) (by omega)).2 ⟨by omega, h2, by omega⟩⟩⟩
      · exact ⟨160, by omega, by omega, .inr ⟨rfl, (three 160 (by omega) (by omega)).2 ⟨by omega, h2, by omega⟩⟩⟩
  · rintro ⟨x, hx1, hx2, h | ⟨_, h⟩⟩
    · have := (two x hx1 hx2).1 h
      omega
    · have := (three x hx1 hx2).1 h
      omega
theorem bg_two {a b : UInt8} : bgR [a, b] = true ↔ ∃ x, 128 ≤ x ∧ x < 192 ∧ BgP [a, b] x := by
  have ha := a.toNat_lt
  have hb := b.toNat_lt
  have three : ∀ x, 128 ≤ x → x < 192 → ((rrR ([a, b] ++ [UInt8.ofNat x]) 0).2 = ((3 : Nat) : Int) ↔ 224 ≤ a.toNat ∧ a.toNat ≤ 239 ∧ 128 ≤ b.toNat ∧ b.toNat ≤ 191 ∧ (2048 ≤ ((a.toNat - 224) * 64 + b.toNat - 128) * 64 + x - 128 ∧ ¬ (55296 ≤ ((a.toNat - 224) * 64 + b.toNat - 128) * 64 + x - 128 ∧ ((a.toNat - 224) * 64 + b.toNat - 128) * 64 + x - 128 ≤ 57343))) := by
    intro x hx1 hx2
    have e := of_small (x := x) (by omega)
    rw [rr_size (by simp) (by omega)]
    have eb : bt ([a, b] ++ [UInt8.ofNat x]) 0 = a.toNat := rfl
    have eb1 : bt ([a, b] ++ [UInt8.ofNat x]) 1 = b.toNat := rfl
    have eb2 : bt ([a, b] ++ [UInt8.ofNat x]) 2 = (UInt8.ofNat x).toNat := rfl
    rw [eb]
    constructor
    · rintro ⟨h1, h2⟩
      have h3 := rrOk_3 h2
      rw [eb, show 0 + 1 = 1 from rfl, eb1] at h3
      have h4 : vOf ([a, b] ++ [UInt8.ofNat x]) 0 = v3 ([a, b] ++ [UInt8.ofNat x]) 0 := by rw [vOf, eb, h1]; rfl
      have h5 := h2.2
      rw [h4, v3, eb, show 0 + 1 = 1 from rfl, show 0 + 2 = 2 from rfl, eb1, eb2] at h5
      have h6 := (rb3_iff (by omega) (by omega) (by omega) (by omega) (by omega) (by omega) rfl).1 (show rb _ = [a, b, UInt8.ofNat x] from h5)
      have h7 := shows_iff.1 h6.2
      omega
    · rintro ⟨h1, h2, h3, h4, h5⟩
      have h6 : szOf (a.toNat : Int) = 3 := by rw [szOf, if_neg (by omega), if_pos ⟨by omega, by omega⟩]
      refine ⟨h6, by simp, ?_⟩
      rw [vOf, eb, h6, if_neg (by decide), if_pos rfl, v3, eb, show 0 + 1 = 1 from rfl, show 0 + 2 = 2 from rfl, eb1, eb2]
      exact (rb3_iff (by omega) (by omega) (by omega) (by omega) (by omega) (by omega) rfl).2 ⟨by omega, shows_iff.2 (by omega)⟩
  rw [bgR, Bool.and_eq_true, decide_eq_true_iff, shows_iff]
  constructor
  · rintro ⟨⟨h1, h2, h3⟩, h4⟩
    exact ⟨128, by omega, by omega, .inl ((three 128 (by omega) (by omega)).2 ⟨by omega, by omega, by omega, by omega, by omega⟩)⟩
  · rintro ⟨x, hx1, hx2, h | ⟨h0, h⟩⟩
    · have := (three x hx1 hx2).1 h
      omega
    · simp at h0
end Go.Proofs.Ytdmhmelmoobekaa
