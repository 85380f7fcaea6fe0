/- A rune read: what is answered (plain law). -/
import Derived.Test.YtdmhmelmoobekaaG1
namespace Go.Proofs.Ytdmhmelmoobekaa
open Go.RowKit
set_option linter.unusedVariables false
set_option maxRecDepth 100000

theorem bstr_toList (l : List UInt8) : (bstr l).toList = l := by
  simp [bstr]
theorem ub_toNat {n : Int} (h0 : 0 ≤ n) (h1 : n ≤ 255) : ((ub n).toNat : Int) = n := by
  rw [ub, UInt8.toNat_ofNat', Nat.mod_eq_of_lt (by omega)]
  omega
theorem rb_inv1 {r : Int} {x : UInt8} (h : rb r = [x]) : r = x.toNat ∧ r < 128 := by
  by_cases hs : showsB r = true
  · obtain ⟨b1, b2⟩ := shows_bd hs
    by_cases h1 : r < 128
    · rw [rb_1 hs h1] at h
      injection h with h _
      subst h
      exact ⟨(ub_toNat (by omega) (by omega)).symm, h1⟩
    · by_cases h2 : r < 2048
      · rw [rb_2 hs h1 h2] at h; simp at h
      · rw [rb_3 hs h1 h2] at h; simp at h
  · rw [rb_0 (by simpa using hs)] at h; simp at h
theorem rb_inv2 {r : Int} {x y : UInt8} (h : rb r = [x, y]) : 194 ≤ x.toNat ∧ x.toNat ≤ 223 ∧ 128 ≤ y.toNat ∧ y.toNat ≤ 191 ∧ r = (x.toNat - 192) * 64 + y.toNat - 128 := by
  by_cases hs : showsB r = true
  · obtain ⟨b1, b2⟩ := shows_bd hs
    by_cases h1 : r < 128
    · rw [rb_1 hs h1] at h; simp at h
    · by_cases h2 : r < 2048
      · rw [rb_2 hs h1 h2] at h
        injection h with hx h
        injection h with hy _
        subst hx hy
        have e1 := ub_toNat (n := 192 + r / 64) (by omega) (by omega)
        have e2 := ub_toNat (n := 128 + r % 64) (by omega) (by omega)
        omega
      · rw [rb_3 hs h1 h2] at h; simp at h
  · rw [rb_0 (by simpa using hs)] at h; simp at h
theorem rb_inv3 {r : Int} {x y z : UInt8} (h : rb r = [x, y, z]) : 224 ≤ x.toNat ∧ x.toNat ≤ 239 ∧ 128 ≤ y.toNat ∧ y.toNat ≤ 191 ∧ 128 ≤ z.toNat ∧ z.toNat ≤ 191 ∧ r = ((x.toNat - 224) * 64 + y.toNat - 128) * 64 + z.toNat - 128 := by
  by_cases hs : showsB r = true
  · obtain ⟨b1, b2⟩ := shows_bd hs
    by_cases h1 : r < 128
    · rw [rb_1 hs h1] at h; simp at h
    · by_cases h2 : r < 2048
      · rw [rb_2 hs h1 h2] at h; simp at h
      · rw [rb_3 hs h1 h2] at h
        injection h with hx h
        injection h with hy h
        injection h with hz _
        subst hx hy hz
        have e1 := ub_toNat (n := 224 + r / 4096) (by omega) (by omega)
        have e2 := ub_toNat (n := 128 + r / 64 % 64) (by omega) (by omega)
        have e3 := ub_toNat (n := 128 + r % 64) (by omega) (by omega)
        omega
  · rw [rb_0 (by simpa using hs)] at h; simp at h
/-- The byte at an offset, as a number. -/
def bt (xs : List UInt8) (k : Nat) : Int := ((xs[k]?).getD 0).toNat
def v1 (xs : List UInt8) (k : Nat) : Int := bt xs k
def v2 (xs : List UInt8) (k : Nat) : Int := (bt xs k - 192) * 64 + bt xs (k + 1) - 128
def v3 (xs : List UInt8) (k : Nat) : Int := ((bt xs k - 224) * 64 + bt xs (k + 1) - 128) * 64 + bt xs (k + 2) - 128
def rrOk (xs : List UInt8) (k size : Nat) (r : Int) : Prop := k + size ≤ xs.length ∧ rb r = (xs.drop k).take size
instance (xs : List UInt8) (k size : Nat) (r : Int) : Decidable (rrOk xs k size r) := by unfold rrOk; exact inferInstance
/-- The rune at an offset and its size. -/
def rrR (xs : List UInt8) (z : Int) : Int × Int :=
  if z < 0 ∨ (xs.length : Int) ≤ z then (0, 0)
  else if rrOk xs z.toNat 1 (v1 xs z.toNat) then (v1 xs z.toNat, 1)
  else if rrOk xs z.toNat 2 (v2 xs z.toNat) then (v2 xs z.toNat, 2)
  else if rrOk xs z.toNat 3 (v3 xs z.toNat) then (v3 xs z.toNat, 3)
  else (0, 0)
theorem bt_get {xs : List UInt8} {k : Nat} {x : UInt8} (h : xs[k]? = some x) : bt xs k = x.toNat := by rw [bt, h]; rfl
theorem cut1 {xs : List UInt8} {k : Nat} {x : UInt8} (h : xs[k]? = some x) : (xs.drop k).take 1 = [x] := by
  obtain ⟨hk, hx⟩ := List.getElem?_eq_some_iff.1 h
  rw [List.drop_eq_getElem_cons hk]
  simp [hx]
theorem cut2 {xs : List UInt8} {k : Nat} {x y : UInt8} (h : xs[k]? = some x) (h2 : xs[k + 1]? = some y) : (xs.drop k).take 2 = [x, y] := by
  obtain ⟨hk, hx⟩ := List.getElem?_eq_some_iff.1 h
  obtain ⟨hk2, hy⟩ := List.getElem?_eq_some_iff.1 h2
  rw [List.drop_eq_getElem_cons hk, List.drop_eq_getElem_cons hk2]
  simp [hx, hy]
theorem cut3 {xs : List UInt8} {k : Nat} {x y z : UInt8} (h : xs[k]? = some x) (h2 : xs[k + 1]? = some y) (h3 : xs[k + 2]? = some z) : (xs.drop k).take 3 = [x, y, z] := by
  obtain ⟨hk, hx⟩ := List.getElem?_eq_some_iff.1 h
  obtain ⟨hk2, hy⟩ := List.getElem?_eq_some_iff.1 h2
  obtain ⟨hk3, hz⟩ := List.getElem?_eq_some_iff.1 h3
  rw [List.drop_eq_getElem_cons hk, List.drop_eq_getElem_cons hk2, List.drop_eq_getElem_cons hk3]
  simp [hx, hy, hz]
theorem get_ex {xs : List UInt8} {k : Nat} (h : k < xs.length) : ∃ x, xs[k]? = some x := ⟨_, List.getElem?_eq_getElem h⟩
theorem rrOk_1 {xs : List UInt8} {k : Nat} {r : Int} (h : rrOk xs k 1 r) : bt xs k < 128 := by
  obtain ⟨x, hx⟩ := get_ex (xs := xs) (k := k) (by have := h.1; omega)
  have h2 := h.2
  rw [cut1 hx] at h2
  have := rb_inv1 h2
  rw [bt_get hx]
  omega
theorem rrOk_2 {xs : List UInt8} {k : Nat} {r : Int} (h : rrOk xs k 2 r) : 194 ≤ bt xs k ∧ bt xs k ≤ 223 ∧ 128 ≤ bt xs (k + 1) ∧ bt xs (k + 1) ≤ 191 := by
  obtain ⟨x, hx⟩ := get_ex (xs := xs) (k := k) (by have := h.1; omega)
  obtain ⟨y, hy⟩ := get_ex (xs := xs) (k := k + 1) (by have := h.1; omega)
  have h2 := h.2
  rw [cut2 hx hy] at h2
  have := rb_inv2 h2
  rw [bt_get hx, bt_get hy]
  omega
theorem rrOk_3 {xs : List UInt8} {k : Nat} {r : Int} (h : rrOk xs k 3 r) : 224 ≤ bt xs k ∧ bt xs k ≤ 239 ∧ 128 ≤ bt xs (k + 1) ∧ bt xs (k + 1) ≤ 191 ∧ 128 ≤ bt xs (k + 2) ∧ bt xs (k + 2) ≤ 191 := by
  obtain ⟨x, hx⟩ := get_ex (xs := xs) (k := k) (by have := h.1; omega)
  obtain ⟨y, hy⟩ := get_ex (xs := xs) (k := k + 1) (by have := h.1; omega)
  obtain ⟨z, hz⟩ := get_ex (xs := xs) (k := k + 2) (by have := h.1; omega)
  have h2 := h.2
  rw [cut3 hx hy hz] at h2
  have := rb_inv3 h2
  rw [bt_get hx, bt_get hy, bt_get hz]
  omega
/-- Where the first byte tells the size, this size alone is asked. -/
def szOf (f : Int) : Nat := if 192 ≤ f ∧ f ≤ 223 then 2 else if 224 ≤ f ∧ f ≤ 239 then 3 else 1
def vOf (xs : List UInt8) (k : Nat) : Int := if szOf (bt xs k) = 2 then v2 xs k else if szOf (bt xs k) = 3 then v3 xs k else v1 xs k
theorem vOf_2 {xs : List UInt8} {k : Nat} (h : szOf (bt xs k) = 2) : vOf xs k = v2 xs k := by rw [vOf, if_pos h]
theorem vOf_3 {xs : List UInt8} {k : Nat} (h : szOf (bt xs k) = 3) : vOf xs k = v3 xs k := by rw [vOf, h, if_neg (by omega), if_pos rfl]
theorem vOf_1 {xs : List UInt8} {k : Nat} (h : szOf (bt xs k) = 1) : vOf xs k = v1 xs k := by rw [vOf, h, if_neg (by omega), if_neg (by omega)]
theorem rrR_at {xs : List UInt8} {k : Nat} (hk : k < xs.length) : rrR xs k = if rrOk xs k (szOf (bt xs k)) (vOf xs k) then (vOf xs k, (szOf (bt xs k) : Int)) else (0, 0) := by
  rw [rrR, if_neg (by omega), Int.toNat_natCast]
  by_cases h2 : 192 ≤ bt xs k ∧ bt xs k ≤ 223
  · have e : szOf (bt xs k) = 2 := if_pos h2
    rw [vOf_2 e, e, if_neg (fun h => by have := rrOk_1 h; omega)]
    by_cases ho : rrOk xs k 2 (v2 xs k)
    · rw [if_pos ho, if_pos ho]; rfl
    · rw [if_neg ho, if_neg ho, if_neg (fun h => by have := rrOk_3 h; omega)]
  · by_cases h3 : 224 ≤ bt xs k ∧ bt xs k ≤ 239
    · have e : szOf (bt xs k) = 3 := by rw [szOf, if_neg h2, if_pos h3]
      rw [vOf_3 e, e, if_neg (fun h => by have := rrOk_1 h; omega), if_neg (fun h => by have := rrOk_2 h; omega)]
      rfl
    · have e : szOf (bt xs k) = 1 := by rw [szOf, if_neg h2, if_neg h3]
      rw [vOf_1 e, e]
      by_cases ho : rrOk xs k 1 (v1 xs k)
      · rw [if_pos ho, if_pos ho]; rfl
      · rw [if_neg ho, if_neg ho, if_neg (fun h => by have := rrOk_2 h; omega), if_neg (fun h => by have := rrOk_3 h; omega)]
end Go.Proofs.Ytdmhmelmoobekaa
