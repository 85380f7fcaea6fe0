/- GetVar: the numbers read again. -/
import Derived.Test.YtbaojeiinjjlcaaP3
namespace Go.Proofs.Ytbaojeiinjjlcaa
open Go.RowKit
set_option linter.unusedVariables false

/-- The number at the head of some bytes, and how many bytes it takes. -/
def gvGo (i acc : Nat) : List UInt8 → Option (Nat × Nat)
  | [] => none
  | x :: r =>
    if 128 ≤ x.toNat ∧ i < 4 then gvGo (i + 1) (acc + x.toNat % 128 * 128 ^ i) r
    else if 128 ≤ x.toNat ∨ (x.toNat = 0 ∧ 0 < i) ∨ 4294967295 < acc + x.toNat % 128 * 128 ^ i then none
    else some (acc + x.toNat % 128 * 128 ^ i, i + 1)
def gv (l : List UInt8) : Option (Nat × Nat) := gvGo 0 0 l
/-- What GetVar answers at an offset. -/
def gvAt (xs : List UInt8) (z : Int) : Int × Int × Bool :=
  if 0 ≤ z ∧ z ≤ xs.length then
    match gv (xs.drop z.toNat) with
    | some (n, k) => ((n : Int), z + k, true)
    | none => (0, 0, false)
  else (0, 0, false)

theorem gvAt_some {xs : List UInt8} {at_ n k : Nat} (h : gv (xs.drop at_) = some (n, k)) (ha : at_ ≤ xs.length) : gvAt xs at_ = ((n : Int), (at_ : Int) + k, true) := by
  unfold gvAt
  rw [if_pos (by omega), Int.toNat_natCast, h]
theorem gvAt_none {xs : List UInt8} {at_ : Nat} (h : gv (xs.drop at_) = none) : gvAt xs at_ = (0, 0, false) := by
  unfold gvAt
  split
  · rw [Int.toNat_natCast, h]
  · rfl
theorem gvAt_out {xs : List UInt8} {z : Int} (h : z < 0 ∨ (xs.length : Int) < z) : gvAt xs z = (0, 0, false) := by
  unfold gvAt
  rw [if_neg (by omega)]
def gvV (xs : List UInt8) (z : Int) : Value := .tuple #[.int .i64 (gvAt xs z).1, .int .i64 (gvAt xs z).2.1, .bool (gvAt xs z).2.2]
theorem or_shift {n d k : Nat} (hn : n < 2 ^ k) (hk : k ≤ 28) (hd : d < 128) : bits .or .i64 (n : Int) ((d * 2 ^ k : Nat) : Int) = ((n + d * 2 ^ k : Nat) : Int) := by
  have hp : 2 ^ k ≤ 2 ^ 28 := Nat.pow_le_pow_right (by omega) hk
  have h2 : d * 2 ^ k ≤ 127 * 2 ^ 28 := Nat.mul_le_mul (by omega) hp
  rw [i64_or_nat _ _ (by omega) (by omega)]
  have := Nat.two_pow_add_eq_or_of_lt hn d
  rw [Nat.or_comm, Nat.mul_comm d, ← this]
  omega

set_option maxHeartbeats 1000000 in
theorem getVar_impl_out (A : Option Addr) (c n : Nat) (z : Int) (w : World) (hz : z < 0 ∨ (n : Int) < z) :
    Calls Try.prog 23 #[.slice A n c, .int .i64 z] w fun e w' => e = .returned (.tuple #[.int .i64 0, .int .i64 0, .bool false]) ∧ w = w' := by
  go_enter Try.func23, Try.ntmps23
  go_wp2_with (go_at_call 18; refine (within_no (by omega) _).mono ?_; rintro e w' ⟨rfl, rfl⟩)
  go_ret3
  exact ⟨rfl, rfl⟩
set_option maxRecDepth 100000 in
set_option maxHeartbeats 400000 in
theorem getVar_impl_in (A : Option Addr) (c : Nat) (xs : List UInt8) (at_ : Nat) (w : World) (ha : By w A xs) (hc : xs.length ≤ c) (h1 : xs.length ≤ 549755813888) (hz2 : at_ ≤ xs.length) :
    Calls Try.prog 23 #[.slice A xs.length c, .int .i64 at_] w fun e w' => e = .returned (gvV xs at_) ∧ w = w' := by
  go_enter Try.func23, Try.ntmps23
  go_wp2_with (first
    | (go_at_call 18; refine (within_yes (by omega) (by omega) _).mono ?_; rintro e w' ⟨rfl, rfl⟩)
    | (refine wp_slice_l rfl _ _ rfl _ _ _ _ ha hc rfl _ _ rfl at_ rfl hz2 ?_; intro A1 c1 us hus hy1 hc1))
  clear ha
  have HL : Hid (us.length + at_ = xs.length) := by show _ = _; rw [hus.out]; simp; omega
  have hl1 : us.length ≤ 549755813888 := by have := HL.out; omega
  go_loop [7, 19] (fun m i => ∃ k acc : Nat, m = .int .i64 acc ∧ i = .int .i64 k ∧ k ≤ us.length ∧ k ≤ 4 ∧ Hid (acc < 2 ^ (7 * k)) ∧ Hid (gvGo k acc (us.drop k) = gv us)) (fun _ i => us.length - (intOf i).toNat)
  case atStart => exact ⟨0, 0, rfl, rfl, Nat.zero_le _, by omega, by show _ < _; simp, rfl⟩
  case round =>
    obtain ⟨k, acc, rfl, rfl, hk, hk4, hacc, hg⟩ := hrel
    by_cases hlt : k < us.length
    · obtain ⟨b, o, rfl, hcell⟩ := hy1.pos (by omega)
      obtain ⟨x, hxk⟩ : ∃ x, us[k]? = some x := ⟨_, List.getElem?_eq_getElem hlt⟩
      have hx := hcell k _ hxk
      clear hcell
      have HX := Lib.hid hxk
      clear hxk
      have hlt' : (k : Int) < us.length := by omega
      have hb := u8_lt x
      obtain ⟨N, hN⟩ : ∃ N : Nat, N = acc + x.toNat % 128 * 2 ^ (7 * k) := ⟨_, rfl⟩
      have hpk : (2 : Nat) ^ (7 * k) ≤ 2 ^ 28 := Nat.pow_le_pow_right (by omega) (by omega)
      have hNb : Hid (N < 2 ^ (7 * (k + 1))) := by
        show _ < _
        have h0 := hacc.out
        have e : (2 : Nat) ^ (7 * (k + 1)) = 128 * 2 ^ (7 * k) := by rw [Nat.mul_add, Nat.pow_add, Nat.mul_comm]
        have h2 : x.toNat % 128 * 2 ^ (7 * k) ≤ 127 * 2 ^ (7 * k) := Nat.mul_le_mul_right _ (by omega)
        rw [e, hN]
        omega
      have hN2 : N ≤ 34359738367 := by
        have h0 := hNb.out
        have e : (2 : Nat) ^ (7 * (k + 1)) = 128 * 2 ^ (7 * k) := by rw [Nat.mul_add, Nat.pow_add, Nat.mul_comm]
        omega
      have hor : bits .or .i64 (acc : Int) (wrap64 ((x.toNat : Int) % 128 * 2 ^ (7 * k))) = (N : Int) := by
        have h2 : x.toNat % 128 * 2 ^ (7 * k) ≤ 127 * 2 ^ 28 := Nat.mul_le_mul (by omega) hpk
        have e : ((x.toNat : Int) % 128 * 2 ^ (7 * k)) = ((x.toNat % 128 * 2 ^ (7 * k) : Nat) : Int) := by simp
        rw [e, IntWalk.wrap64_in _ (by omega), or_shift hacc.out (by omega) (by omega), hN]
      have hstep : Hid (gvGo k acc (us.drop k) = if 128 ≤ x.toNat ∧ k < 4 then gvGo (k + 1) N (us.drop (k + 1)) else if 128 ≤ x.toNat ∨ (x.toNat = 0 ∧ 0 < k) ∨ 4294967295 < N then none else some (N, k + 1)) := by
        show _ = _
        have hd : us.drop k = x :: us.drop (k + 1) := by
          obtain ⟨hk', rfl⟩ := List.getElem?_eq_some_iff.1 HX.out
          exact List.drop_eq_getElem_cons hk'
        have e : (128 : Nat) ^ k = 2 ^ (7 * k) := by rw [Nat.pow_mul]
        rw [hd, gvGo, e, ← hN]
      have hor0 : x.toNat = 0 → bits .or .i64 (acc : Int) 0 = (N : Int) := by
        intro h
        rw [← hor, h]
        simp
        rw [IntWalk.wrap64_in 0 (by omega)]
      clear hN hpk hacc
      by_cases h128 : 128 ≤ x.toNat
      · have i1 : (128 : Int) ≤ x.toNat := by omega
        by_cases hk3 : k < 4
        · have i2 : (k : Int) < 4 := by omega
          go_wp2_with fail
          go_round
          case rel =>
            refine ⟨k + 1, N, rfl, by go_num, by omega, by omega, hNb, ?_⟩
            show _ = _
            rw [← hg.out, hstep.out, if_pos ⟨h128, hk3⟩]
          case measure => simp [intOf]; omega
        · have i2 : ¬ (k : Int) < 4 := by omega
          have HN : Hid (gvV xs at_ = .tuple #[.int .i64 0, .int .i64 0, .bool false]) := by
            show _ = _
            have : gv (xs.drop at_) = none := by rw [← hus.out, ← hg.out, hstep.out, if_neg (by omega), if_pos (.inl h128)]
            rw [gvV, gvAt_none this]
          go_wp2_with fail
          go_ret3
          exact ⟨by rw [HN.out]; rfl, rfl⟩
      · have i1 : ¬ (128 : Int) ≤ x.toNat := by omega
        by_cases h0 : x.toNat = 0 ∧ 0 < k
        · have i2 : ((x.toNat : Int) == 0) = true := by simp; omega
          have i3 : (0 : Int) < k := by omega
          have HN : Hid (gvV xs at_ = .tuple #[.int .i64 0, .int .i64 0, .bool false]) := by
            show _ = _
            have : gv (xs.drop at_) = none := by rw [← hus.out, ← hg.out, hstep.out, if_neg (by omega), if_pos (.inr (.inl h0))]
            rw [gvV, gvAt_none this]
          go_wp2_with fail
          go_ret3
          exact ⟨by rw [HN.out]; rfl, rfl⟩
        · by_cases hmax : N ≤ 4294967295
          · have HN : Hid (gvV xs at_ = .tuple #[.int .i64 N, .int .i64 ((at_ : Int) + k + 1), .bool true]) := by
              show _ = _
              have : gv (xs.drop at_) = some (N, k + 1) := by rw [← hus.out, ← hg.out, hstep.out, if_neg (by omega), if_neg (by omega)]
              rw [gvV, gvAt_some this hz2]
              simp [Int.add_assoc]
            by_cases hx0 : x.toNat = 0
            · obtain rfl : k = 0 := by omega
              have hx' : w.cell? ⟨b, o, none⟩ = some (B x) := hx
              have i2 : ((x.toNat : Int) == 0) = true := by simp; omega
              have i3 : ¬ (0 : Int) < ((0 : Nat) : Int) := by omega
              have hor1 := hor0 hx0
              clear hor0
              go_wp2_with (go_at_call 25; refine (isNum_yes (by omega) (by omega) _).mono ?_; rintro e w' ⟨rfl, rfl⟩)
              go_ret3
              exact ⟨by rw [HN.out]; simp, rfl⟩
            · have i2 : ((x.toNat : Int) == 0) = false := by simp; omega
              go_wp2_with (go_at_call 25; refine (isNum_yes (by omega) (by omega) _).mono ?_; rintro e w' ⟨rfl, rfl⟩)
              go_ret3
              exact ⟨by rw [HN.out]; rfl, rfl⟩
          · have HN : Hid (gvV xs at_ = .tuple #[.int .i64 0, .int .i64 0, .bool false]) := by
              show _ = _
              have : gv (xs.drop at_) = none := by rw [← hus.out, ← hg.out, hstep.out, if_neg (by omega), if_pos (.inr (.inr (by omega)))]
              rw [gvV, gvAt_none this]
            by_cases hx0 : x.toNat = 0
            · obtain rfl : k = 0 := by omega
              have hx' : w.cell? ⟨b, o, none⟩ = some (B x) := hx
              have i2 : ((x.toNat : Int) == 0) = true := by simp; omega
              have i3 : ¬ (0 : Int) < ((0 : Nat) : Int) := by omega
              have hor1 := hor0 hx0
              clear hor0
              go_wp2_with (go_at_call 25; refine (isNum_no (by omega) _).mono ?_; rintro e w' ⟨rfl, rfl⟩)
              go_ret3
              exact ⟨by rw [HN.out]; rfl, rfl⟩
            · have i2 : ((x.toNat : Int) == 0) = false := by simp; omega
              go_wp2_with (go_at_call 25; refine (isNum_no (by omega) _).mono ?_; rintro e w' ⟨rfl, rfl⟩)
              go_ret3
              exact ⟨by rw [HN.out]; rfl, rfl⟩
    · have hlt' : ¬ (k : Int) < us.length := by omega
      have HN : Hid (gvV xs at_ = .tuple #[.int .i64 0, .int .i64 0, .bool false]) := by
        show _ = _
        have : gv (xs.drop at_) = none := by
          rw [← hus.out, ← hg.out, List.drop_eq_nil_of_le (by omega)]
          rfl
        rw [gvV, gvAt_none this]
      go_wp2_with fail
      go_ret3
      exact ⟨by rw [HN.out]; rfl, rfl⟩
end Go.Proofs.Ytbaojeiinjjlcaa
