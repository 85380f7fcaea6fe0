/- What filling a part of a grid computes (plain law). -/
import Derived.Test.YtnilgcahggmncaaGw
namespace Go.Proofs.Ytnilgcahggmncaa
open Go.RowKit
set_option linter.unusedVariables false
set_option maxRecDepth 100000

def fiIn (a : Nat) (x y fw fh : Int) (i : Nat) : Bool := decide ((x ≤ ((i % a : Nat) : Int) ∧ ((i % a : Nat) : Int) < x + fw) ∧ y ≤ ((i / a : Nat) : Int) ∧ ((i / a : Nat) : Int) < y + fh)
def fiF (cs : List Cl) (a : Nat) (x y fw fh : Int) (c : Cl) (i : Nat) : Cl := if fiIn a x y fw fh i = true then c else cs.getD i cl0
def fiL (cs : List Cl) (a : Nat) (x y fw fh : Int) (c : Cl) : List Cl := upd cs (fiF cs a x y fw fh c) 0 cs.length
def smB (n : Int) : Bool := withinB n (-100000) 100000
def fiR (W H : Int) (cs : List Cl) (x y fw fh : Int) (c : Cl) : Gr :=
  if gridB W H cs = true ∧ cellB c = true ∧ smB x = true ∧ smB y = true ∧ smB fw = true ∧ smB fh = true then (W, H, fiL cs W.toNat x y fw fh c) else gr0
theorem fi_no {W H : Int} {cs : List Cl} {x y fw fh : Int} {c : Cl} (h : ¬ (gridB W H cs = true ∧ cellB c = true ∧ smB x = true ∧ smB y = true ∧ smB fw = true ∧ smB fh = true)) : fiR W H cs x y fw fh c = gr0 := if_neg h
theorem fi_len {W H : Int} {cs : List Cl} {x y fw fh : Int} {c : Cl} : (fiR W H cs x y fw fh c).2.2.length ≤ cs.length := by
  unfold fiR
  split
  · show (fiL cs _ _ _ _ _ _).length ≤ _
    rw [fiL, upd_len]
    exact Nat.le_refl _
  · simp
/-- A place within: it is set. -/
theorem fi_set {cs : List Cl} {a : Nat} {x y fw fh : Int} {c : Cl} {i : Nat} (hi : i < cs.length) (h : fiIn a x y fw fh i = true) :
    (upd cs (fiF cs a x y fw fh c) 0 i).set i c = upd cs (fiF cs a x y fw fh c) 0 (i + 1) := by
  have e : fiF cs a x y fw fh c i = c := if_pos h
  have := upd_set (cs := cs) (f := fiF cs a x y fw fh c) (lo := 0) (hi := i) hi (Nat.zero_le _)
  rwa [e] at this
/-- Places that are not: nothing is done. -/
theorem fi_skip {cs : List Cl} {a : Nat} {x y fw fh : Int} {c : Cl} {i i' : Nat} (hh : i ≤ i') (h : ∀ k, i ≤ k → k < i' → k < cs.length → fiIn a x y fw fh k = false) :
    upd cs (fiF cs a x y fw fh c) 0 i = upd cs (fiF cs a x y fw fh c) 0 i' :=
  upd_skip hh fun k h1 h2 h3 => if_neg (by rw [h k h1 h2 h3]; simp)
theorem fi_at {a p k y' : Nat} {x y fw fh : Int} (ha : k < a) (hp : p = y' * a) : fiIn a x y fw fh (p + k) = decide ((x ≤ (k : Int) ∧ (k : Int) < x + fw) ∧ y ≤ (y' : Int) ∧ (y' : Int) < y + fh) := by
  subst hp
  have e1 : (y' * a + k) / a = y' := by rw [Nat.mul_comm, Nat.mul_add_div (by omega), Nat.div_eq_of_lt ha, Nat.add_zero]
  have e2 : (y' * a + k) % a = k := by rw [Nat.mul_comm, Nat.mul_add_mod, Nat.mod_eq_of_lt ha]
  unfold fiIn
  rw [e1, e2]
theorem fi_eq {cs : List Cl} {a p q : Nat} {x y fw fh : Int} {c : Cl} (h : ∀ k, k < cs.length → (k < p ↔ k < q) ∨ fiIn a x y fw fh k = false) :
    upd cs (fiF cs a x y fw fh c) 0 p = upd cs (fiF cs a x y fw fh c) 0 q := by
  apply List.ext_getElem?
  intro i
  by_cases hi : i < cs.length
  · rw [upd_get hi, upd_get hi]
    congr 1
    rcases h i hi with h | h
    · have e : (0 ≤ i ∧ i < p) = (0 ≤ i ∧ i < q) := by rw [h]
      simp only [e]
    · have e : fiF cs a x y fw fh c i = cs.getD i cl0 := if_neg (by rw [h]; simp)
      rw [e]
      simp
  · rw [List.getElem?_eq_none (by rw [upd_len]; omega), List.getElem?_eq_none (by rw [upd_len]; omega)]
theorem fi_cr {a k : Nat} (ha : 0 < a) : k = (k / a) * a + k % a ∧ k % a < a := ⟨by have := Nat.div_add_mod k a; rw [Nat.mul_comm] at this; omega, Nat.mod_lt _ ha⟩
theorem fi_row {a k r : Nat} (ha : 0 < a) : (k < r * a ↔ k / a < r) := (Nat.div_lt_iff_lt_mul ha).symm
theorem fi_false {a k q r : Nat} {x y fw fh : Int} (hq : k / a = q) (hr : k % a = r) (h : ¬ ((x ≤ (r : Int) ∧ (r : Int) < x + fw) ∧ y ≤ (q : Int) ∧ (q : Int) < y + fh)) : fiIn a x y fw fh k = false := by
  subst hq hr
  exact decide_eq_false h
/-- The rows before the first one. -/
theorem fi_start {cs : List Cl} {a r0 : Nat} {x y fw fh : Int} {c : Cl} (ha : 0 < a) (hr : (r0 : Int) ≤ y ∨ r0 = 0) : cs = upd cs (fiF cs a x y fw fh c) 0 (r0 * a) := by
  conv => lhs; rw [← upd_self (cs := cs) (f := fiF cs a x y fw fh c) (lo := 0)]
  refine fi_eq fun k hk => ?_
  by_cases h : k < r0 * a
  · right
    have := (fi_row ha).1 h
    obtain ⟨q, hq⟩ : ∃ q, k / a = q := ⟨_, rfl⟩
    rw [hq] at this
    exact fi_false hq rfl (by omega)
  · left; omega
/-- The rows behind the last one. -/
theorem fi_end {cs : List Cl} {a bb rr : Nat} {x y fw fh : Int} {c : Cl} (ha : 0 < a) (hl : cs.length = bb * a) (hr : bb ≤ rr ∨ y + fh ≤ rr) : upd cs (fiF cs a x y fw fh c) 0 (rr * a) = fiL cs a x y fw fh c := by
  refine fi_eq fun k hk => ?_
  by_cases h : k < rr * a
  · left; omega
  · right
    have h1 : ¬ k / a < rr := fun h2 => h ((fi_row ha).2 h2)
    have h2 : k / a < bb := (fi_row ha).1 (by omega)
    obtain ⟨q, hq⟩ : ∃ q, k / a = q := ⟨_, rfl⟩
    rw [hq] at h1 h2
    exact fi_false hq rfl (by omega)
theorem fi_in {a rr k p : Nat} (ha : 0 < a) (hp : p = rr * a) (h1 : ¬ k < p) (h2 : k < p + a) : k / a = rr ∧ ∃ r, k % a = r ∧ k = p + r ∧ r < a := by
  obtain ⟨e1, e2⟩ := fi_cr (k := k) ha
  have e3 : ¬ k / a < rr := fun h2 => h1 (by rw [hp]; exact (fi_row ha).2 h2)
  have e4 : k / a < rr + 1 := (fi_row ha).1 (by rw [Nat.succ_mul]; omega)
  have e5 : k / a = rr := by
    generalize k / a = q at e3 e4
    omega
  rw [e5, ← hp] at e1
  exact ⟨e5, _, rfl, e1, e2⟩
/-- Within a row: the columns before the first one. -/
theorem fi_left {cs : List Cl} {a rr c0 p : Nat} {x y fw fh : Int} {c : Cl} (ha : 0 < a) (hp : p = rr * a) (hr : (c0 : Int) ≤ x ∨ c0 = 0) : upd cs (fiF cs a x y fw fh c) 0 p = upd cs (fiF cs a x y fw fh c) 0 (p + min c0 a) := by
  refine fi_eq fun k hk => ?_
  by_cases h : k < p
  · left; omega
  · by_cases h' : k < p + min c0 a
    · right
      obtain ⟨e5, r, e6, e7, e8⟩ := fi_in ha hp h (by omega)
      exact fi_false e5 e6 (by omega)
    · left; omega
/-- Within a row: the columns behind the last one. -/
theorem fi_right {cs : List Cl} {a rr cc p : Nat} {x y fw fh : Int} {c : Cl} (ha : 0 < a) (hp : p = rr * a) (hr : a ≤ cc ∨ x + fw ≤ cc) : upd cs (fiF cs a x y fw fh c) 0 (p + min cc a) = upd cs (fiF cs a x y fw fh c) 0 ((rr + 1) * a) := by
  refine fi_eq fun k hk => ?_
  rw [Nat.succ_mul]
  by_cases h : k < p + min cc a
  · left; omega
  · by_cases h' : k < rr * a + a
    · right
      obtain ⟨e5, r, e6, e7, e8⟩ := fi_in (k := k) ha hp (by omega) (by omega)
      exact fi_false e5 e6 (by omega)
    · left; omega
end Go.Proofs.Ytnilgcahggmncaa
