/- The law of PutVar. GetVar: the numbers read again. spec.GetVar: the numbers read again by the reference. The law of GetVar. -/
import Derived.Test.YtpaeffmjkkikbaaGreatDoorP2
namespace Go.Proofs.YtpaeffmjkkikbaaGreatDoor
open Go.RowKit

set_option linter.unusedVariables false

/-- A call that returns new bytes and a bool. -/
def PutPost (w : World) (r : List UInt8 × Bool) (e : Ending) (w' : World) : Prop :=
  ∃ A' c' us ok, Hid (us = r.1) ∧ Hid (ok = r.2) ∧ e = .returned (.tuple #[.slice A' us.length c', .bool ok]) ∧ Ob w' w.heap.size A' c' us ∧ Below w.heap.size w w'
def putVarR (xs : List UInt8) (z : Int) : List UInt8 × Bool := if 0 ≤ z ∧ z ≤ 4294967295 then (xs ++ varB z.toNat, true) else ([], false)
theorem putVar_specR (A : Option Addr) (c : Nat) (xs : List UInt8) (z : Int) (w : World) (ha : By w A xs) (h1 : xs.length ≤ 549755813888) :
    Calls Tryz.prog 86 #[.slice A xs.length c, .int .i64 z] w (PutPost w (putVarR xs z)) := by
  by_cases hz : 0 ≤ z ∧ z ≤ 4294967295
  · obtain ⟨n, rfl⟩ := Int.eq_ofNat_of_zero_le hz.1
    refine (putVar_spec A c xs n w ha h1 (by omega)).mono ?_
    rintro e w' ⟨A', c', us, hus, he, ho, hb⟩
    exact ⟨A', c', us, true, Lib.hid (by rw [hus.out, putVarR, if_pos hz]; rfl), Lib.hid (by rw [putVarR, if_pos hz]), he, ho, hb⟩
  · refine (putVar_spec_no A xs.length c z w (by omega)).mono ?_
    rintro e w' ⟨he, rfl⟩
    exact ⟨none, 0, [], false, Lib.hid (by rw [putVarR, if_neg hz]), Lib.hid (by rw [putVarR, if_neg hz]), he, ownsG_nil _ _ _ _, Below.refl _ _⟩
theorem putVarR_len (xs : List UInt8) (z : Int) : (putVarR xs z).1.length ≤ xs.length + 5 := by
  unfold putVarR
  split
  · have := varB_len5 (n := z.toNat) (by omega); simp; omega
  · simp

set_option linter.unusedVariables false

/-- The number at the head of some bytes, and how many bytes it takes. -/
def gvGo (i acc : Nat) : List UInt8 → Option (Nat × Nat)
  | [] => none
  | x :: r =>
    if 128 ≤ x.toNat ∧ i < 4 then gvGo (i + 1) (acc + x.toNat % 128 * 128 ^ i) r
    else if 128 ≤ x.toNat ∨ (x.toNat = 0 ∧ 0 < i) ∨ 4294967295 < acc + x.toNat % 128 * 128 ^ i then none
    else some (acc + x.toNat % 128 * 128 ^ i, i + 1)
def gv (l : List UInt8) : Option (Nat × Nat) := gvGo 0 0 l
/-- What GetVar answers at an offset. -/
def gvAt (xs : List UInt8) (z : Int) : Int × Int × Bool :=
  if 0 ≤ z ∧ z ≤ xs.length then
    match gv (xs.drop z.toNat) with
    | some (n, k) => ((n : Int), z + k, true)
    | none => (0, 0, false)
  else (0, 0, false)

theorem gvAt_some {xs : List UInt8} {at_ n k : Nat} (h : gv (xs.drop at_) = some (n, k)) (ha : at_ ≤ xs.length) : gvAt xs at_ = ((n : Int), (at_ : Int) + k, true) := by
  unfold gvAt
  rw [if_pos (by omega), Int.toNat_natCast, h]
theorem gvAt_none {xs : List UInt8} {at_ : Nat} (h : gv (xs.drop at_) = none) : gvAt xs at_ = (0, 0, false) := by
  unfold gvAt
  split
  · rw [Int.toNat_natCast, h]
  · rfl
theorem gvAt_out {xs : List UInt8} {z : Int} (h : z < 0 ∨ (xs.length : Int) < z) : gvAt xs z = (0, 0, false) := by
  unfold gvAt
  rw [if_neg (by omega)]
def gvV (xs : List UInt8) (z : Int) : Value := .tuple #[.int .i64 (gvAt xs z).1, .int .i64 (gvAt xs z).2.1, .bool (gvAt xs z).2.2]
theorem or_shift {n d k : Nat} (hn : n < 2 ^ k) (hk : k ≤ 28) (hd : d < 128) : bits .or .i64 (n : Int) ((d * 2 ^ k : Nat) : Int) = ((n + d * 2 ^ k : Nat) : Int) := by
  have hp : 2 ^ k ≤ 2 ^ 28 := Nat.pow_le_pow_right (by omega) hk
  have h2 : d * 2 ^ k ≤ 127 * 2 ^ 28 := Nat.mul_le_mul (by omega) hp
  rw [i64_or_nat _ _ (by omega) (by omega)]
  have := Nat.two_pow_add_eq_or_of_lt hn d
  rw [Nat.or_comm, Nat.mul_comm d, ← this]
  omega

set_option maxHeartbeats 1000000 in
theorem getVar_impl_out (A : Option Addr) (c n : Nat) (z : Int) (w : World) (hz : z < 0 ∨ (n : Int) < z) :
    Calls Tryz.prog 99 #[.slice A n c, .int .i64 z] w fun e w' => e = .returned (.tuple #[.int .i64 0, .int .i64 0, .bool false]) ∧ w = w' := by
  go_enter Tryz.func99, Tryz.ntmps99
  go_wp2_with (go_at_call 81; refine (within_no (by omega) _).mono ?_; rintro e w' ⟨rfl, rfl⟩)
  go_ret3
  exact ⟨rfl, rfl⟩
set_option maxRecDepth 100000 in
set_option maxHeartbeats 400000 in
theorem getVar_impl_in (A : Option Addr) (c : Nat) (xs : List UInt8) (at_ : Nat) (w : World) (ha : By w A xs) (hc : xs.length ≤ c) (h1 : xs.length ≤ 549755813888) (hz2 : at_ ≤ xs.length) :
    Calls Tryz.prog 99 #[.slice A xs.length c, .int .i64 at_] w fun e w' => e = .returned (gvV xs at_) ∧ w = w' := by
  go_enter Tryz.func99, Tryz.ntmps99
  go_wp2_with (first
    | (go_at_call 81; refine (within_yes (by omega) (by omega) _).mono ?_; rintro e w' ⟨rfl, rfl⟩)
    | (refine wp_slice_l rfl _ _ rfl _ _ _ _ ha hc rfl _ _ rfl at_ rfl hz2 ?_; intro A1 c1 us hus hy1 hc1))
  clear ha
  have HL : Hid (us.length + at_ = xs.length) := by show _ = _; rw [hus.out]; simp; omega
  have hl1 : us.length ≤ 549755813888 := by have := HL.out; omega
  go_loop [7, 19] (fun m i => ∃ k acc : Nat, m = .int .i64 acc ∧ i = .int .i64 k ∧ k ≤ us.length ∧ k ≤ 4 ∧ Hid (acc < 2 ^ (7 * k)) ∧ Hid (gvGo k acc (us.drop k) = gv us)) (fun _ i => us.length - (intOf i).toNat)
  case atStart => exact ⟨0, 0, rfl, rfl, Nat.zero_le _, by omega, by show _ < _; simp, rfl⟩
  case round =>
    obtain ⟨k, acc, rfl, rfl, hk, hk4, hacc, hg⟩ := hrel
    by_cases hlt : k < us.length
    · obtain ⟨b, o, rfl, hcell⟩ := hy1.pos (by omega)
      obtain ⟨x, hxk⟩ : ∃ x, us[k]? = some x := ⟨_, List.getElem?_eq_getElem hlt⟩
      have hx := hcell k _ hxk
      clear hcell
      have HX := Lib.hid hxk
      clear hxk
      have hlt' : (k : Int) < us.length := by omega
      have hb := u8_lt x
      obtain ⟨N, hN⟩ : ∃ N : Nat, N = acc + x.toNat % 128 * 2 ^ (7 * k) := ⟨_, rfl⟩
      have hpk : (2 : Nat) ^ (7 * k) ≤ 2 ^ 28 := Nat.pow_le_pow_right (by omega) (by omega)
      have hNb : Hid (N < 2 ^ (7 * (k + 1))) := by
        show _ < _
        have h0 := hacc.out
        have e : (2 : Nat) ^ (7 * (k + 1)) = 128 * 2 ^ (7 * k) := by rw [Nat.mul_add, Nat.pow_add, Nat.mul_comm]
        have h2 : x.toNat % 128 * 2 ^ (7 * k) ≤ 127 * 2 ^ (7 * k) := Nat.mul_le_mul_right _ (by omega)
        rw [e, hN]
        omega
      have hN2 : N ≤ 34359738367 := by
        have h0 := hNb.out
        have e : (2 : Nat) ^ (7 * (k + 1)) = 128 * 2 ^ (7 * k) := by rw [Nat.mul_add, Nat.pow_add, Nat.mul_comm]
        omega
      have hor : bits .or .i64 (acc : Int) (wrap64 ((x.toNat : Int) % 128 * 2 ^ (7 * k))) = (N : Int) := by
        have h2 : x.toNat % 128 * 2 ^ (7 * k) ≤ 127 * 2 ^ 28 := Nat.mul_le_mul (by omega) hpk
        have e : ((x.toNat : Int) % 128 * 2 ^ (7 * k)) = ((x.toNat % 128 * 2 ^ (7 * k) : Nat) : Int) := by simp
        rw [e, IntWalk.wrap64_in _ (by omega), or_shift hacc.out (by omega) (by omega), hN]
      have hstep : Hid (gvGo k acc (us.drop k) = if 128 ≤ x.toNat ∧ k < 4 then gvGo (k + 1) N (us.drop (k + 1)) else if 128 ≤ x.toNat ∨ (x.toNat = 0 ∧ 0 < k) ∨ 4294967295 < N then none else some (N, k + 1)) := by
        show _ = _
        have hd : us.drop k = x :: us.drop (k + 1) := by
          obtain ⟨hk', rfl⟩ := List.getElem?_eq_some_iff.1 HX.out
          exact List.drop_eq_getElem_cons hk'
        have e : (128 : Nat) ^ k = 2 ^ (7 * k) := by rw [Nat.pow_mul]
        rw [hd, gvGo, e, ← hN]
      have hor0 : x.toNat = 0 → bits .or .i64 (acc : Int) 0 = (N : Int) := by
        intro h
        rw [← hor, h]
        simp
        rw [IntWalk.wrap64_in 0 (by omega)]
      clear hN hpk hacc
      by_cases h128 : 128 ≤ x.toNat
      · have i1 : (128 : Int) ≤ x.toNat := by omega
        by_cases hk3 : k < 4
        · have i2 : (k : Int) < 4 := by omega
          go_wp2_with fail
          go_round
          case rel =>
            refine ⟨k + 1, N, rfl, by go_num, by omega, by omega, hNb, ?_⟩
            show _ = _
            rw [← hg.out, hstep.out, if_pos ⟨h128, hk3⟩]
          case measure => simp [intOf]; omega
        · have i2 : ¬ (k : Int) < 4 := by omega
          have HN : Hid (gvV xs at_ = .tuple #[.int .i64 0, .int .i64 0, .bool false]) := by
            show _ = _
            have : gv (xs.drop at_) = none := by rw [← hus.out, ← hg.out, hstep.out, if_neg (by omega), if_pos (.inl h128)]
            rw [gvV, gvAt_none this]
          go_wp2_with fail
          go_ret3
          exact ⟨by rw [HN.out]; rfl, rfl⟩
      · have i1 : ¬ (128 : Int) ≤ x.toNat := by omega
        by_cases h0 : x.toNat = 0 ∧ 0 < k
        · have i2 : ((x.toNat : Int) == 0) = true := by simp; omega
          have i3 : (0 : Int) < k := by omega
          have HN : Hid (gvV xs at_ = .tuple #[.int .i64 0, .int .i64 0, .bool false]) := by
            show _ = _
            have : gv (xs.drop at_) = none := by rw [← hus.out, ← hg.out, hstep.out, if_neg (by omega), if_pos (.inr (.inl h0))]
            rw [gvV, gvAt_none this]
          go_wp2_with fail
          go_ret3
          exact ⟨by rw [HN.out]; rfl, rfl⟩
        · by_cases hmax : N ≤ 4294967295
          · have HN : Hid (gvV xs at_ = .tuple #[.int .i64 N, .int .i64 ((at_ : Int) + k + 1), .bool true]) := by
              show _ = _
              have : gv (xs.drop at_) = some (N, k + 1) := by rw [← hus.out, ← hg.out, hstep.out, if_neg (by omega), if_neg (by omega)]
              rw [gvV, gvAt_some this hz2]
              simp [Int.add_assoc]
            by_cases hx0 : x.toNat = 0
            · obtain rfl : k = 0 := by omega
              have hx' : w.cell? ⟨b, o, none⟩ = some (B x) := hx
              have i2 : ((x.toNat : Int) == 0) = true := by simp; omega
              have i3 : ¬ (0 : Int) < ((0 : Nat) : Int) := by omega
              have hor1 := hor0 hx0
              clear hor0
              go_wp2_with (go_at_call 93; refine (isNum_yes (by omega) (by omega) _).mono ?_; rintro e w' ⟨rfl, rfl⟩)
              go_ret3
              exact ⟨by rw [HN.out]; simp, rfl⟩
            · have i2 : ((x.toNat : Int) == 0) = false := by simp; omega
              go_wp2_with (go_at_call 93; refine (isNum_yes (by omega) (by omega) _).mono ?_; rintro e w' ⟨rfl, rfl⟩)
              go_ret3
              exact ⟨by rw [HN.out]; rfl, rfl⟩
          · have HN : Hid (gvV xs at_ = .tuple #[.int .i64 0, .int .i64 0, .bool false]) := by
              show _ = _
              have : gv (xs.drop at_) = none := by rw [← hus.out, ← hg.out, hstep.out, if_neg (by omega), if_pos (.inr (.inr (by omega)))]
              rw [gvV, gvAt_none this]
            by_cases hx0 : x.toNat = 0
            · obtain rfl : k = 0 := by omega
              have hx' : w.cell? ⟨b, o, none⟩ = some (B x) := hx
              have i2 : ((x.toNat : Int) == 0) = true := by simp; omega
              have i3 : ¬ (0 : Int) < ((0 : Nat) : Int) := by omega
              have hor1 := hor0 hx0
              clear hor0
              go_wp2_with (go_at_call 93; refine (isNum_no (by omega) _).mono ?_; rintro e w' ⟨rfl, rfl⟩)
              go_ret3
              exact ⟨by rw [HN.out]; rfl, rfl⟩
            · have i2 : ((x.toNat : Int) == 0) = false := by simp; omega
              go_wp2_with (go_at_call 93; refine (isNum_no (by omega) _).mono ?_; rintro e w' ⟨rfl, rfl⟩)
              go_ret3
              exact ⟨by rw [HN.out]; rfl, rfl⟩
    · have hlt' : ¬ (k : Int) < us.length := by omega
      have HN : Hid (gvV xs at_ = .tuple #[.int .i64 0, .int .i64 0, .bool false]) := by
        show _ = _
        have : gv (xs.drop at_) = none := by
          rw [← hus.out, ← hg.out, List.drop_eq_nil_of_le (by omega)]
          rfl
        rw [gvV, gvAt_none this]
      go_wp2_with fail
      go_ret3
      exact ⟨by rw [HN.out]; rfl, rfl⟩

set_option linter.unusedVariables false

/-- The number whose digits these are, lowest first. -/
def val : List UInt8 → Nat
  | [] => 0
  | x :: r => x.toNat % 128 + 128 * val r
def High (l : List UInt8) (k : Nat) : Prop := ∀ j x, j < k → l[j]? = some x → 128 ≤ x.toNat
theorem High.tail {x : UInt8} {l : List UInt8} {k : Nat} (h : High (x :: l) (k + 1)) : 128 ≤ x.toNat ∧ High l k :=
  ⟨h 0 x (by omega) rfl, fun j y hj hy => h (j + 1) y (by omega) (by simpa using hy)⟩
theorem gvGo_high : ∀ (k i acc : Nat) (l : List UInt8), High l k → k ≤ l.length → (k = l.length ∧ i + k ≤ 5 ∨ i + k = 5) → (0 < k ∨ l = []) → gvGo i acc l = none := by
  intro k
  induction k with
  | zero =>
    intro i acc l h hk hc h0
    rcases h0 with h0 | rfl
    · omega
    · rfl
  | succ k ih =>
    intro i acc l h hk hc _
    cases l with
    | nil => simp at hk
    | cons x l =>
      obtain ⟨hx, ht⟩ := h.tail
      simp at hk hc
      rw [gvGo]
      by_cases hi : i < 4
      · rw [if_pos ⟨hx, hi⟩]
        by_cases hk0 : 0 < k
        · exact ih (i + 1) _ l ht (by omega) (by omega) (.inl hk0)
        · have : k = 0 := by omega
          subst this
          exact ih (i + 1) _ l ht (by omega) (by omega) (.inr (List.eq_nil_of_length_eq_zero (by omega)))
      · rw [if_neg (by omega), if_pos (.inl hx)]
theorem gvGo_val : ∀ (k i acc : Nat) (l : List UInt8) (x : UInt8), High l k → l[k]? = some x → x.toNat < 128 → i + k ≤ 4 →
    gvGo i acc l = if (x.toNat = 0 ∧ 0 < i + k) ∨ 4294967295 < acc + 128 ^ i * val (l.take (k + 1)) then none else some (acc + 128 ^ i * val (l.take (k + 1)), i + k + 1) := by
  intro k
  induction k with
  | zero =>
    intro i acc l x _ hx hlt hi
    cases l with
    | nil => simp at hx
    | cons y l =>
      simp at hx
      subst hx
      rw [gvGo, if_neg (by omega)]
      have e : acc + y.toNat % 128 * 128 ^ i = acc + 128 ^ i * val ((y :: l).take 1) := by simp [val, Nat.mul_comm]
      rw [e]
      by_cases hc : (y.toNat = 0 ∧ 0 < i) ∨ 4294967295 < acc + 128 ^ i * val ((y :: l).take 1)
      · rw [if_pos (.inr hc)]
        exact (if_pos hc).symm
      · rw [if_neg (by omega)]
        exact (if_neg hc).symm
  | succ k ih =>
    intro i acc l x h hx hlt hi
    cases l with
    | nil => simp at hx
    | cons y l =>
      obtain ⟨hy, ht⟩ := h.tail
      simp at hx
      rw [gvGo, if_pos ⟨hy, by omega⟩, ih (i + 1) _ l x ht hx hlt (by omega)]
      have e : acc + y.toNat % 128 * 128 ^ i + 128 ^ (i + 1) * val (l.take (k + 1)) = acc + 128 ^ i * val ((y :: l).take (k + 1 + 1)) := by
        simp only [List.take_succ_cons, val, Nat.pow_succ, Nat.mul_add]
        rw [Nat.mul_comm (y.toNat % 128), Nat.mul_assoc, Nat.add_assoc]
      rw [e, show i + 1 + k = i + (k + 1) from by omega]
theorem gv_val {k : Nat} {l : List UInt8} {x : UInt8} (h : High l k) (hx : l[k]? = some x) (hlt : x.toNat < 128) (hk : k ≤ 4) :
    gv l = if (x.toNat = 0 ∧ 0 < k) ∨ 4294967295 < val (l.take (k + 1)) then none else some (val (l.take (k + 1)), k + 1) := by
  have := gvGo_val k 0 0 l x h hx hlt (by omega)
  simpa [gv] using this
theorem val_lt : ∀ (l : List UInt8), val l < 128 ^ l.length := by
  intro l
  induction l with
  | nil => simp [val]
  | cons x l ih =>
    simp only [val, List.length_cons, Nat.pow_succ]
    have : x.toNat % 128 < 128 := Nat.mod_lt _ (by omega)
    omega
theorem ofNat_toNat (x : UInt8) : UInt8.ofNat x.toNat = x := by simp
/-- Digits are a number's own where the last of them is no idle one. -/
theorem varB_val : ∀ (k : Nat) (l : List UInt8) (x : UInt8), High l k → l[k]? = some x → x.toNat < 128 → (varB (val (l.take (k + 1))) = l.take (k + 1) ↔ ¬ (x.toNat = 0 ∧ 0 < k)) := by
  intro k
  induction k with
  | zero =>
    intro l x _ hx hlt
    cases l with
    | nil => simp at hx
    | cons y l =>
      simp at hx
      subst hx
      simp only [Nat.zero_add, List.take_succ_cons, List.take_zero, val, Nat.mul_zero, Nat.add_zero, Nat.mod_eq_of_lt hlt, varB_small hlt, ofNat_toNat]
      simp
  | succ k ih =>
    intro l x h hx hlt
    cases l with
    | nil => simp at hx
    | cons y l =>
      obtain ⟨hy, ht⟩ := h.tail
      simp at hx
      have ih' := ih l x ht hx hlt
      simp only [List.take_succ_cons, val]
      have hym := y.toNat_lt
      have hk : k < l.length := (List.getElem?_eq_some_iff.1 hx).1
      by_cases hv : val (l.take (k + 1)) = 0
      · rw [hv, varB_small (by omega)]
        have hx0 : x.toNat = 0 := by
          by_cases h0 : x.toNat = 0
          · exact h0
          · have := ih'.2 (by omega)
            rw [hv, varB_small (by omega)] at this
            have hl := congrArg List.length this
            simp at hl
            have hk0 : k = 0 := by omega
            subst hk0
            cases l with
            | nil => simp at hx
            | cons z l =>
              simp at hx
              subst hx
              simp [val] at hv
              omega
        constructor
        · intro he
          have hl := congrArg List.length he
          rw [List.length_cons, List.length_cons, List.length_take, Nat.min_eq_left (by omega)] at hl
          simp at hl
        · intro hn
          exact absurd ⟨hx0, by omega⟩ hn
      · rw [varB_big (by omega)]
        have e1 : (y.toNat % 128 + 128 * val (l.take (k + 1))) % 128 + 128 = y.toNat := by omega
        have e2 : (y.toNat % 128 + 128 * val (l.take (k + 1))) / 128 = val (l.take (k + 1)) := by omega
        rw [e1, e2, ofNat_toNat]
        constructor
        · intro he
          injection he with _ he
          have := ih'.1 he
          intro ⟨h0, _⟩
          by_cases hk0 : 0 < k
          · exact this ⟨h0, hk0⟩
          · have hk0 : k = 0 := by omega
            subst hk0
            cases l with
            | nil => simp at hx
            | cons z l =>
              simp at hx
              subst hx
              simp [val] at hv
              omega
        · intro hn
          rw [ih'.2 (by omega)]
theorem bstr_toList (l : List UInt8) : (bstr l).toList = l := by
  simp [bstr]
theorem gvGo_ex : ∀ (l : List UInt8) (i acc : Nat) (r : Nat × Nat), i ≤ 4 → gvGo i acc l = some r → ∃ j x, High l j ∧ l[j]? = some x ∧ x.toNat < 128 ∧ i + j ≤ 4 := by
  intro l
  induction l with
  | nil => intro i acc r _ h; simp [gvGo] at h
  | cons x l ih =>
    intro i acc r hi h
    rw [gvGo] at h
    by_cases hc : 128 ≤ x.toNat ∧ i < 4
    · rw [if_pos hc] at h
      obtain ⟨j, y, h1, h2, h3, h4⟩ := ih (i + 1) _ r (by omega) h
      refine ⟨j + 1, y, ?_, by simpa using h2, h3, by omega⟩
      intro m z hm hz
      cases m with
      | zero => simp at hz; subst hz; exact hc.1
      | succ m => exact h1 m z (by omega) (by simpa using hz)
    · rw [if_neg hc] at h
      by_cases h2 : 128 ≤ x.toNat
      · rw [if_pos (.inl h2)] at h; cases h
      · exact ⟨0, x, fun j y hj => by omega, rfl, by omega, by omega⟩
/-- A number that is read is the number whose bytes stand there. -/
theorem gv_some {l : List UInt8} {n k : Nat} (h : gv l = some (n, k)) : n ≤ 4294967295 ∧ 1 ≤ k ∧ k ≤ l.length ∧ k ≤ 5 ∧ l.take k = varB n := by
  obtain ⟨j, x, h1, h2, h3, h4⟩ := gvGo_ex l 0 0 _ (by omega) h
  have hj : j < l.length := (List.getElem?_eq_some_iff.1 h2).1
  have hg := gv_val h1 h2 h3 (by omega)
  rw [hg] at h
  by_cases hc : (x.toNat = 0 ∧ 0 < j) ∨ 4294967295 < val (l.take (j + 1))
  · rw [if_pos hc] at h; cases h
  · rw [if_neg hc] at h
    injection h with h
    injection h with ha hb
    subst ha hb
    exact ⟨by omega, by omega, by omega, by omega, ((varB_val j l x h1 h2 h3).2 (by omega)).symm⟩
theorem val_append_low (l : List UInt8) (x : UInt8) : val (x :: l) = val l * 128 + x.toNat % 128 := by simp [val]; omega

theorem gvAt_len {xs : List UInt8} {at_ : Nat} (h : xs.length ≤ at_) : gvAt xs at_ = (0, 0, false) := by
  by_cases h2 : at_ ≤ xs.length
  · apply gvAt_none
    rw [List.drop_eq_nil_of_le h]
    rfl
  · exact gvAt_out (.inr (by omega))
set_option maxHeartbeats 1000000 in
theorem getVar_spec_out (A : Option Addr) (c n : Nat) (z : Int) (w : World) (hz : z < 0 ∨ (n : Int) ≤ z) :
    Calls Tryz.prog 53 #[.slice A n c, .int .i64 z] w fun e w' => e = .returned (.tuple #[.int .i64 0, .int .i64 0, .bool false]) ∧ w = w' := by
  by_cases h0 : z < 0
  · go_enter Tryz.func53, Tryz.ntmps53
    go_wp2_with fail
    go_ret3
    exact ⟨rfl, rfl⟩
  · have h1 : (n : Int) ≤ z := by omega
    go_enter Tryz.func53, Tryz.ntmps53
    go_wp2_with fail
    go_ret3
    exact ⟨rfl, rfl⟩
set_option maxRecDepth 100000 in
set_option maxHeartbeats 1000000 in
theorem getVar_spec_in (A : Option Addr) (c : Nat) (xs : List UInt8) (at_ : Nat) (w : World) (ha : By w A xs) (hc : xs.length ≤ c) (h1 : xs.length ≤ 549755813888) (hz2 : at_ < xs.length) :
    Calls Tryz.prog 53 #[.slice A xs.length c, .int .i64 at_] w fun e w' => e = .returned (gvV xs at_) ∧ Below w.heap.size w w' := by
  obtain ⟨b, o, rfl, hcell⟩ := ha.pos (by omega)
  have hz3 : ¬ (xs.length : Int) ≤ at_ := by omega
  obtain ⟨us, hus⟩ : ∃ us, Hid (us = xs.drop at_) := ⟨_, rfl⟩
  have HL : Hid (us.length + at_ = xs.length) := by show _ = _; rw [hus.out]; simp; omega
  have HC : Hid (∀ j x, us[j]? = some x → w.cell? ⟨b, o + (at_ + j), none⟩ = some (B x)) := by
    intro j x hx
    rw [hus.out, List.getElem?_drop] at hx
    exact hcell _ x hx
  clear hcell
  go_enter Tryz.func53, Tryz.ntmps53
  go_wp2_with fail
  go_loop [7] (fun i => ∃ k : Nat, i = .int .i64 ((at_ : Int) + k) ∧ k ≤ us.length ∧ k ≤ 5 ∧ Hid (High us k)) (fun i => at_ + 5 - (intOf i).toNat)
  case atStart => exact ⟨0, by simp, Nat.zero_le _, by omega, fun j x hj => by omega⟩
  case round =>
    obtain ⟨k, rfl, hk, hk5, hh⟩ := hrel
    by_cases hlt : k < us.length ∧ k < 5
    · obtain ⟨hlt, hlt5⟩ := hlt
      obtain ⟨x, hxk⟩ : ∃ x, us[k]? = some x := ⟨_, List.getElem?_eq_getElem hlt⟩
      have hx := HC.out k _ hxk
      have HX := Lib.hid hxk
      clear hxk
      have hlt' : (at_ : Int) + k < xs.length := by have := HL.out; omega
      have hlt5' : (at_ : Int) + k < at_ + 5 := by omega
      have hb := u8_lt x
      by_cases h128 : 128 ≤ x.toNat
      · have i1 : (128 : Int) ≤ x.toNat := by omega
        have hh' : Hid (High us (k + 1)) := by
          intro j y hj hy
          by_cases hjk : j = k
          · subst hjk
            have := HX.out
            rw [hy] at this
            injection this with this
            rw [this]; exact h128
          · exact hh.out j y (by omega) hy
        go_wp2_with fail
        go_round
        case rel => exact ⟨k + 1, by go_num, by omega, by omega, hh'⟩
        case measure => simp [intOf]; omega
      · have i1 : ¬ (128 : Int) ≤ x.toNat := by omega
        have j1 : ((at_ : Int) + k == (xs.length : Int)) = false := by simp; omega
        have j2 : ((at_ : Int) + k == (at_ : Int) + 5) = false := by simp; omega
        have HB : Hid (val (us.take (k + 1)) < 34359738368) := by
          have h := val_lt (us.take (k + 1))
          have h2 : (us.take (k + 1)).length ≤ 5 := by rw [List.length_take]; omega
          have h3 : 128 ^ (us.take (k + 1)).length ≤ 128 ^ 5 := Nat.pow_le_pow_right (by omega) h2
          show _ < _
          omega
        go_wp2_with fail
        clear hx hlt' hlt5' i1 j1 j2
        go_loop [8, 9] (fun m i => ∃ t N : Nat, i = .int .i64 ((at_ : Int) + t - 1) ∧ m = .int .i64 N ∧ t ≤ k + 1 ∧ N ≤ 34359738368 ∧ Hid (N = val ((us.take (k + 1)).drop t))) (fun _ i => (intOf i + 1 - at_).toNat)
        case atStart => exact ⟨k + 1, 0, by go_num, rfl, Nat.le_refl _, by omega, by show _ = _; rw [List.drop_eq_nil_of_le (by rw [List.length_take]; omega)]; rfl⟩
        case round =>
          obtain ⟨t, N, rfl, rfl, ht, hN, hv⟩ := hrel
          cases t with
          | zero =>
            have i1 : ¬ (at_ : Int) ≤ at_ + ((0 : Nat) : Int) - 1 := by omega
            have hv' : Hid (N = val (us.take (k + 1))) := hv
            clear hv
            by_cases hmax : N ≤ 4294967295
            · obtain ⟨A2, c2, u2, hu2, hc2, hby2, hrun2⟩ := slice_lh_run (some ⟨b, o, none⟩) c at_ (at_ + k + 1) xs .i64 .i64 (by omega) (by have := HL.out; omega) hc
              go_wp2_with fail
              refine (putVar_specR none 0 [] N w (.inl rfl) (by simp)).mono ?_
              rintro e w1 ⟨A', c', vs, ok, hvs, hok, rfl, ho, hb⟩
              obtain rfl : ok = true := by rw [hok.out, putVarR, if_pos (by omega)]
              have hcv1 : ∀ m, (convert 28 9 (.slice A' vs.length c')).run Tryz.prog (w1.drewN m) = .ok (.string (bstr vs)) (w1.drewN m) := fun m => conv_by (ho.by_.drewN m)
              have hcv2 : ∀ m, (convert 28 9 (.slice A2 u2.length c2)).run Tryz.prog (w1.drewN m) = .ok (.string (bstr u2)) (w1.drewN m) := fun m => conv_by ((hby2 w1 (ha.below hb)).drewN m)
              have e1 : ((at_ + k + 1 : Nat) : Int) = (at_ : Int) + k + 1 := by omega
              rw [e1] at hrun2
              clear e1
              have HW : Hid (val (us.take (k + 1)) = N) := hv'.out.symm
              have HG : Hid (gv (xs.drop at_) = if x.toNat = 0 ∧ 0 < k then none else some (N, k + 1)) := by
                show _ = _
                rw [← hus.out, gv_val hh.out HX.out (by omega) (by omega), HW.out]
                by_cases h0 : x.toNat = 0 ∧ 0 < k
                · rw [if_pos (.inl h0), if_pos h0]
                · rw [if_neg (by omega), if_neg h0]
              have HE : Hid (vs = u2 ↔ ¬ (x.toNat = 0 ∧ 0 < k)) := by
                show _ ↔ _
                have h1 : u2 = us.take (k + 1) := by rw [hu2.out, ← hus.out]; congr 1; omega
                have h2 : vs = varB N := by rw [hvs.out, putVarR, if_pos (by omega)]; simp
                rw [h1, h2, ← HW.out]
                exact varB_val k us x hh.out HX.out (by omega)
              by_cases h0 : x.toNat = 0 ∧ 0 < k
              · have hne : (!(bstr vs).toList == (bstr u2).toList) = true := by
                  rw [bstr_toList, bstr_toList]
                  have : vs ≠ u2 := fun h => (HE.out.1 h) h0
                  simp [this]
                have HN : Hid (gvV xs at_ = .tuple #[.int .i64 0, .int .i64 0, .bool false]) := by
                  show _ = _
                  rw [gvV, gvAt_none (by rw [HG.out, if_pos h0])]
                clear h0
                go_wp2
                go_quiet (fail)
                go_wp2
                go_ret3
                exact ⟨by rw [HN.out]; rfl, below_drewN hb _⟩
              · have hne : (!(bstr vs).toList == (bstr u2).toList) = false := by
                  rw [bstr_toList, bstr_toList, HE.out.2 h0]
                  simp
                have HN : Hid (gvV xs at_ = .tuple #[.int .i64 N, .int .i64 ((at_ : Int) + k + 1), .bool true]) := by
                  show _ = _
                  rw [gvV, gvAt_some (by rw [HG.out, if_neg h0]) (by omega)]
                  simp [Int.add_assoc]
                clear h0
                go_wp2
                go_quiet (fail)
                go_wp2
                go_ret3
                exact ⟨by rw [HN.out]; rfl, below_drewN hb _⟩
            · have HN : Hid (gvV xs at_ = .tuple #[.int .i64 0, .int .i64 0, .bool false]) := by
                show _ = _
                have : gv (xs.drop at_) = none := by
                  rw [← hus.out, gv_val hh.out HX.out (by omega) (by omega), if_pos (.inr (by rw [← hv'.out]; omega))]
                rw [gvV, gvAt_none this]
              go_wp2_with fail
              refine (putVar_specR none 0 [] N w (.inl rfl) (by simp)).mono ?_
              rintro e w1 ⟨A', c', vs, ok, hvs, hok, rfl, ho, hb⟩
              obtain rfl : ok = false := by rw [hok.out, putVarR, if_neg (by omega)]
              go_wp2
              go_quiet (fail)
              go_wp2
              go_ret3
              exact ⟨by rw [HN.out]; rfl, below_drewN hb _⟩
          | succ t =>
            have et : ((at_ : Int) + ((t + 1 : Nat) : Int) - 1) = (at_ : Int) + t := by omega
            rw [et]
            clear et
            have i1 : (at_ : Int) ≤ at_ + t := by omega
            have i2 : (at_ : Int) + t < xs.length := by have := HL.out; omega
            obtain ⟨y, hy⟩ : ∃ y, us[t]? = some y := ⟨_, List.getElem?_eq_getElem (by omega)⟩
            have hx := HC.out t _ hy
            have hb2 := u8_lt y
            have HV : Hid (N * 128 + y.toNat % 128 = val ((us.take (k + 1)).drop t)) := by
              show _ = _
              have e : (us.take (k + 1)).drop t = y :: (us.take (k + 1)).drop (t + 1) := by
                have h2 : (us.take (k + 1))[t]? = some y := by rw [List.getElem?_take, if_pos (by omega)]; exact hy
                obtain ⟨h3, h4⟩ := List.getElem?_eq_some_iff.1 h2
                rw [List.drop_eq_getElem_cons h3, h4]
              rw [e, val_append_low, ← hv.out]
            have hN2 : N * 128 + y.toNat % 128 ≤ 34359738368 := by
              have hlt2 : val ((us.take (k + 1)).drop t) < 34359738368 := by
                have h := val_lt ((us.take (k + 1)).drop t)
                have h2 : ((us.take (k + 1)).drop t).length ≤ 5 := by rw [List.length_drop, List.length_take]; omega
                have h3 : 128 ^ ((us.take (k + 1)).drop t).length ≤ 128 ^ 5 := Nat.pow_le_pow_right (by omega) h2
                omega
              rw [HV.out]; omega
            clear hy hv
            go_wp2_with fail
            go_round
            case rel => exact ⟨t, N * 128 + y.toNat % 128, by go_num, by go_num, by omega, hN2, HV⟩
            case measure => simp [intOf]; omega
    · have HN : Hid (gvV xs at_ = .tuple #[.int .i64 0, .int .i64 0, .bool false]) := by
        show _ = _
        have : gv (xs.drop at_) = none := by
          rw [← hus.out]
          refine gvGo_high k 0 0 us hh.out hk (by omega) ?_
          by_cases h0 : 0 < k
          · exact .inl h0
          · exact .inr (List.eq_nil_of_length_eq_zero (by omega))
        rw [gvV, gvAt_none this]
      by_cases hlt5 : k < 5
      · have hlt' : ¬ (at_ : Int) + k < xs.length := by have := HL.out; omega
        have j1 : ((at_ : Int) + k == (xs.length : Int)) = true := by have := HL.out; simp; omega
        go_wp2_with fail
        go_ret3
        exact ⟨by rw [HN.out]; rfl, Below.refl _ _⟩
      · have hlt5' : ¬ (at_ : Int) + k < at_ + 5 := by omega
        have j2 : ((at_ : Int) + k == (at_ : Int) + 5) = true := by simp; omega
        by_cases hl : k < us.length
        · have hlt' : (at_ : Int) + k < xs.length := by have := HL.out; omega
          have j1 : ((at_ : Int) + k == (xs.length : Int)) = false := by simp; omega
          go_wp2_with fail
          go_ret3
          exact ⟨by rw [HN.out]; rfl, Below.refl _ _⟩
        · have hlt' : ¬ (at_ : Int) + k < xs.length := by have := HL.out; omega
          have j1 : ((at_ : Int) + k == (xs.length : Int)) = true := by have := HL.out; simp; omega
          go_wp2_with fail
          go_ret3
          exact ⟨by rw [HN.out]; rfl, Below.refl _ _⟩

set_option linter.unusedVariables false

theorem gvV_form (xs : List UInt8) (z : Int) : ∃ p q r, Hid (gvV xs z = .tuple #[.int .i64 p, .int .i64 q, .bool r]) := ⟨_, _, _, rfl⟩
theorem getVar_specR (A : Option Addr) (c : Nat) (xs : List UInt8) (z : Int) (w : World) (ha : By w A xs) (hc : xs.length ≤ c) (h1 : xs.length ≤ 549755813888) :
    Calls Tryz.prog 53 #[.slice A xs.length c, .int .i64 z] w fun e w' => e = .returned (gvV xs z) ∧ Below w.heap.size w w' := by
  by_cases hz : z < 0 ∨ (xs.length : Int) ≤ z
  · refine (getVar_spec_out A c xs.length z w hz).mono ?_
    rintro e w' ⟨rfl, rfl⟩
    refine ⟨?_, Below.refl _ _⟩
    have : gvAt xs z = (0, 0, false) := by
      rcases hz with hz | hz
      · exact gvAt_out (.inl hz)
      · obtain ⟨k, rfl⟩ := Int.eq_ofNat_of_zero_le (show 0 ≤ z by omega)
        exact gvAt_len (by omega)
    rw [gvV, this]
  · obtain ⟨k, rfl⟩ := Int.eq_ofNat_of_zero_le (show 0 ≤ z by omega)
    exact getVar_spec_in A c xs k w ha hc h1 (by omega)
theorem getVar_implR (A : Option Addr) (c : Nat) (xs : List UInt8) (z : Int) (w : World) (ha : By w A xs) (hc : xs.length ≤ c) (h1 : xs.length ≤ 549755813888) :
    Calls Tryz.prog 99 #[.slice A xs.length c, .int .i64 z] w fun e w' => e = .returned (gvV xs z) ∧ w = w' := by
  by_cases hz : z < 0 ∨ (xs.length : Int) < z
  · refine (getVar_impl_out A c xs.length z w hz).mono ?_
    rintro e w' ⟨rfl, rfl⟩
    exact ⟨by rw [gvV, gvAt_out hz], rfl⟩
  · obtain ⟨k, rfl⟩ := Int.eq_ofNat_of_zero_le (show 0 ≤ z by omega)
    exact getVar_impl_in A c xs k w ha hc h1 (by omega)

end Go.Proofs.YtpaeffmjkkikbaaGreatDoor
