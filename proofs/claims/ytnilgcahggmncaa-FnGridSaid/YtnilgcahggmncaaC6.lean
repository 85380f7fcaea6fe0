/- Scrolling, shifting, copying grids: what the law asks of them (plain). -/
import Derived.Test.YtnilgcahggmncaaRq
import Derived.Test.YtnilgcahggmncaaGv
import Derived.Test.YtnilgcahggmncaaPa1
import Derived.Test.YtnilgcahggmncaaN6
namespace Go.Proofs.Ytnilgcahggmncaa
open Go.RowKit
set_option linter.unusedVariables false
set_option maxRecDepth 100000

theorem all_upd1 {cs : List Cl} {f : Nat → Cl} {lo hi : Nat} (h : cs.all cellB = true) (hf : ∀ i, lo ≤ i → i < hi → i < cs.length → cellB (f i) = true) : (upd cs f lo hi).all cellB = true := by
  refine List.all_eq_true.2 fun x hx => ?_
  unfold upd at hx
  obtain ⟨i, hi, rfl⟩ := List.mem_map.1 hx
  have hl := List.mem_range.1 hi
  split
  · rename_i h1
    exact hf i h1.1 h1.2 hl
  · rw [List.getD_eq_getElem?_getD, List.getElem?_eq_getElem hl]
    exact List.all_eq_true.1 h _ (List.getElem_mem hl)
theorem getD_ok {cs : List Cl} {i : Nat} (h : cs.all cellB = true) (hi : i < cs.length) : cellB (cs.getD i cl0) = true := by
  rw [List.getD_eq_getElem?_getD, List.getElem?_eq_getElem hi]
  exact List.all_eq_true.1 h _ (List.getElem_mem hi)
theorem grid_nat {a b : Nat} {cs : List Cl} (h : gridB a b cs = true) : (1 ≤ a ∧ a ≤ 120) ∧ (1 ≤ b ∧ b ≤ 120) ∧ cs.length = b * a ∧ cs.all cellB = true := by
  obtain ⟨⟨a1, a2⟩, ⟨b1, b2⟩, _, f⟩ := grid_len h
  refine ⟨by omega, by omega, ?_, ?_⟩
  · rw [← Int.natCast_mul] at f
    rw [Nat.mul_comm]
    exact Int.ofNat_inj.1 f
  · rw [gridB, Bool.and_eq_true, Bool.and_eq_true] at h; exact h.2
theorem grid_of1 {a b : Nat} {cs ds : List Cl} (h : gridB a b cs = true) (hl : ds.length = cs.length) (ha : ds.all cellB = true) : gridB a b ds = true := by
  rw [gridB, Bool.and_eq_true, Bool.and_eq_true] at h ⊢
  exact ⟨⟨h.1.1, by rw [hl]; exact h.1.2⟩, ha⟩
theorem upd_getD {cs : List Cl} {f : Nat → Cl} {lo hi i : Nat} (h : i < cs.length) : (upd cs f lo hi).getD i cl0 = if lo ≤ i ∧ i < hi then f i else cs.getD i cl0 := by
  rw [List.getD_eq_getElem?_getD, upd_get h]
  rfl
theorem row_of {a i : Nat} (ha : 0 < a) : i = i / a * a + i % a ∧ i % a < a := ⟨by have := Nat.div_add_mod i a; rw [Nat.mul_comm] at this; omega, Nat.mod_lt _ ha⟩
theorem div_lt {a b i : Nat} (ha : 0 < a) (h : i < b * a) : i / a < b := (Nat.div_lt_iff_lt_mul ha).2 h
theorem at_div {a q r : Nat} (hr : r < a) : (q * a + r) / a = q ∧ (q * a + r) % a = r := by
  refine ⟨?_, ?_⟩
  · rw [Nat.mul_comm, Nat.mul_add_div (by omega), Nat.div_eq_of_lt hr, Nat.add_zero]
  · rw [Nat.mul_comm, Nat.mul_add_mod, Nat.mod_eq_of_lt hr]
theorem at_lt {a b q r : Nat} (hr : r < a) (hq : q < b) : q * a + r < b * a := by
  have := Nat.mul_le_mul_right a (show q + 1 ≤ b by omega)
  rw [Nat.add_mul, Nat.one_mul] at this
  omega
/-- One cell of a grid whose rows are scrolled, all of them. -/
theorem roL_at {a b : Nat} {cs : List Cl} {n : Int} {i : Nat} (ha : 0 < a) (hb : 0 < b) (hl : cs.length = b * a) (hi : i < b * a) : (roL cs a 0 (b - 1) n).getD i cl0 = roF cs a 0 (b - 1) n i := by
  unfold roL
  rw [upd_getD (by omega), if_pos ⟨by omega, by rw [show b - 1 + 1 = b by omega]; exact hi⟩]
theorem roF_row {a b : Nat} {cs : List Cl} {n : Int} {q q' r : Nat} (hr : r < a) (hq' : (q : Int) + n = (q' : Int)) (hb : q' < b) : roF cs a 0 (b - 1) n (q * a + r) = cs.getD (q' * a + r) cl0 := by
  unfold roF
  rw [(at_div hr).1, (at_div hr).2, hq', if_pos (by omega), Int.toNat_natCast]
theorem roF_out {a b : Nat} {cs : List Cl} {n : Int} {q r : Nat} (hr : r < a) (hq' : ¬ (0 ≤ (q : Int) + n ∧ (q : Int) + n < b)) (hb : 0 < b) : roF cs a 0 (b - 1) n (q * a + r) = bk := by
  unfold roF
  rw [(at_div hr).1, if_neg (by omega)]
theorem roL_grid {a b : Nat} {cs : List Cl} (n : Int) (h : gridB a b cs = true) : gridB a b (roL cs a 0 (b - 1) n) = true := by
  obtain ⟨⟨a1, _⟩, ⟨b1, _⟩, hl, hall⟩ := grid_nat h
  refine grid_of1 h (by unfold roL; exact upd_len) ?_
  unfold roL
  refine all_upd1 hall fun i _ hi2 hi3 => ?_
  obtain ⟨e1, e2⟩ := row_of (i := i) (show 0 < a by omega)
  have hib : i < b * a := by omega
  have hq := div_lt (show 0 < a by omega) hib
  rw [e1]
  by_cases hin : 0 ≤ ((i / a : Nat) : Int) + n ∧ ((i / a : Nat) : Int) + n < b
  · obtain ⟨q', hq'⟩ := Int.eq_ofNat_of_zero_le hin.1
    rw [roF_row e2 hq' (by omega)]
    exact getD_ok hall (by rw [hl]; exact at_lt e2 (by omega))
  · rw [roF_out e2 hin (by omega)]
    decide
/-- Up and back again. -/
theorem roll_back {a b : Nat} {cs : List Cl} {n : Nat} {i : Nat} (h : gridB a b cs = true) (hi : i < b * a) : (roL (roL cs a 0 (b - 1) n) a 0 (b - 1) (-(n : Int))).getD i cl0 = if i / a < n then bk else cs.getD i cl0 := by
  obtain ⟨⟨a1, _⟩, ⟨b1, _⟩, hl, hall⟩ := grid_nat h
  have ha : 0 < a := by omega
  have hb : 0 < b := by omega
  obtain ⟨e1, e2⟩ := row_of (i := i) ha
  have hq := div_lt ha hi
  have hl2 : (roL cs a 0 (b - 1) n).length = b * a := by unfold roL; rw [upd_len]; exact hl
  rw [roL_at ha hb hl2 hi]
  by_cases hn : i / a < n
  · rw [if_pos hn]
    conv => lhs; rw [e1]
    rw [roF_out e2 (by omega) hb]
  · rw [if_neg hn]
    conv => lhs; rw [e1]
    rw [roF_row (q' := i / a - n) e2 (by omega) (by omega), roL_at ha hb hl (at_lt e2 (by omega)), roF_row (q' := i / a) e2 (by omega) hq, ← e1]
theorem roL_zero {a b : Nat} {cs : List Cl} (h : gridB a b cs = true) : roL cs a 0 0 0 = cs := by
  obtain ⟨⟨a1, _⟩, ⟨b1, _⟩, hl, hall⟩ := grid_nat h
  unfold roL
  rw [show upd cs (roF cs a 0 0 0) (0 * a) ((0 + 1) * a) = upd cs (roF cs a 0 0 0) (0 * a) (0 * a) from (upd_skip (by omega) fun i h1 h2 h3 => ?_).symm]
  · exact upd_self
  · have hia : i < a := by omega
    unfold roF
    rw [Nat.div_eq_of_lt hia, Nat.mod_eq_of_lt hia, if_pos (by omega)]
    simp
/-- A row shifted. -/
theorem shL_at {a p : Nat} {cs : List Cl} {n : Int} {i : Nat} (hi : i < cs.length) : (shL cs p 0 a n).getD i cl0 = if p ≤ i ∧ i < p + a then shF cs p 0 a n i else cs.getD i cl0 := by
  unfold shL
  rw [upd_getD hi, Nat.add_zero]
theorem shL_grid {a b p : Nat} {cs : List Cl} (n : Int) (h : gridB a b cs = true) (hp : p + a ≤ cs.length) : gridB a b (shL cs p 0 a n) = true := by
  obtain ⟨⟨a1, _⟩, ⟨b1, _⟩, hl, hall⟩ := grid_nat h
  refine grid_of1 h (by unfold shL; exact upd_len) ?_
  unfold shL
  refine all_upd1 hall fun i hi1 hi2 hi3 => ?_
  unfold shF
  split
  · exact getD_ok hall (by omega)
  · decide
theorem shift_back {a p : Nat} {cs : List Cl} {n : Nat} {i : Nat} (hp : p + a ≤ cs.length) (hi : i < cs.length) : (shL (shL cs p 0 a (-(n : Int))) p 0 a n).getD i cl0 = if (p ≤ i ∧ i < p + a) ∧ i - p < n then bk else cs.getD i cl0 := by
  have hl2 : (shL cs p 0 a (-(n : Int))).length = cs.length := by unfold shL; exact upd_len
  rw [shL_at (by omega)]
  by_cases hin : p ≤ i ∧ i < p + a
  · rw [if_pos hin]
    by_cases hn : i - p < n
    · rw [if_pos ⟨hin, hn⟩]
      unfold shF
      rw [if_neg (by omega)]
    · rw [if_neg (by omega)]
      unfold shF
      rw [if_pos (by omega), show ((i : Int) - (n : Int)).toNat = i - n by omega]
      show (shL cs p 0 a (-(n : Int))).getD (i - n) cl0 = _
      rw [shL_at (by omega), if_pos (by omega)]
      unfold shF
      rw [if_pos (by omega), show (((i - n : Nat) : Int) - -(n : Int)).toNat = i by omega]
  · rw [if_neg hin, if_neg (by omega), shL_at hi, if_neg hin]
theorem shL_zero {a p : Nat} {cs : List Cl} : shL cs p 0 a 0 = cs := by
  unfold shL
  rw [show upd cs (shF cs p 0 a 0) (p + 0) (p + a) = upd cs (shF cs p 0 a 0) (p + 0) (p + 0) from (upd_skip (by omega) fun i h1 h2 h3 => ?_).symm]
  · exact upd_self
  · unfold shF
    rw [if_pos (by omega)]
    simp
/-- A grid copied over one of its size. -/
theorem paL_all {a b : Nat} {bs cs : List Cl} (ha : 0 < a) (hl : cs.length = b * a) (hb : bs.length = cs.length) : ∀ j, j ≤ cs.length → ∀ i, (paL bs cs a b 0 0 a j)[i]? = if i < j then cs[i]? else bs[i]?
  | 0, _, i => by rw [if_neg (by omega)]; rfl
  | j + 1, hj, i => by
    have ih := paL_all ha hl hb j (by omega) i
    obtain ⟨e1, e2⟩ := row_of (i := j) ha
    have hq : j / a < b := div_lt ha (by omega)
    have m0 : (0 : Int) ≤ ((j / a : Nat) : Int) := Int.natCast_nonneg _
    have m1 : (0 : Int) ≤ ((j % a : Nat) : Int) := Int.natCast_nonneg _
    have m2 : ((j / a : Nat) : Int) < (b : Int) := Int.ofNat_lt.2 hq
    have m3 : ((j % a : Nat) : Int) < (a : Int) := Int.ofNat_lt.2 e2
    have hin : paIn a b 0 0 a j = true := decide_eq_true ⟨⟨by rw [Int.zero_add]; exact m1, by rw [Int.zero_add]; exact m3⟩, by rw [Int.zero_add]; exact m0, by rw [Int.zero_add]; exact m2⟩
    have hix : paIx a 0 0 a j = j := by
      unfold paIx
      rw [Int.zero_add, Int.zero_add, ← Int.natCast_mul, ← Int.natCast_add, Int.toNat_natCast]
      exact e1.symm
    unfold paL
    rw [if_pos hin, hix, List.getElem?_set, ih, paL_len, hb]
    by_cases hij : j = i
    · subst hij
      rw [if_pos rfl, if_pos (by omega), if_pos (by omega), List.getD_eq_getElem?_getD, List.getElem?_eq_getElem (show j < cs.length by omega)]
      rfl
    · rw [if_neg hij]
      by_cases h1 : i < j
      · rw [if_pos h1, if_pos (by omega)]
      · rw [if_neg h1, if_neg (by omega)]
theorem pa_same {a b : Nat} {bs cs : List Cl} (h : gridB a b cs = true) (hb : gridB a b bs = true) : paR a b bs a b cs 0 0 = ((a : Int), (b : Int), cs) := by
  obtain ⟨⟨a1, _⟩, ⟨b1, _⟩, hl, hall⟩ := grid_nat h
  obtain ⟨_, _, hl2, _⟩ := grid_nat hb
  unfold paR
  rw [if_pos ⟨hb, h, by decide, by decide⟩, Int.toNat_natCast]
  have : paL bs cs a b 0 0 a cs.length = cs := by
    apply List.ext_getElem?
    intro i
    rw [paL_all (by omega) hl (by omega) cs.length (Nat.le_refl _) i]
    split
    · rfl
    · rw [List.getElem?_eq_none (by omega), List.getElem?_eq_none (by omega)]
  rw [this]
end Go.Proofs.Ytnilgcahggmncaa
