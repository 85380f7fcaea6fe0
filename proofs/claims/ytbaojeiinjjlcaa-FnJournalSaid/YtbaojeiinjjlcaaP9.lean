/- The checksum. -/
import Derived.Test.YtbaojeiinjjlcaaP8
import Derived.Laws.BitsAllLaws
namespace Go.Proofs.Ytbaojeiinjjlcaa
open Go.RowKit
set_option linter.unusedVariables false

def crcBit (r : Nat) : Nat := if r % 2 = 1 then (r / 2) ^^^ 2197175160 else r / 2
def crcBits : Nat → Nat → Nat
  | 0, r => r
  | k + 1, r => crcBit (crcBits k r)
def crcByte (r : Nat) (x : UInt8) : Nat := crcBits 8 (r ^^^ x.toNat)
def crcAll (bs : List UInt8) : Nat := bs.foldl crcByte 4294967295
def crcN (bs : List UInt8) : Nat := crcAll bs ^^^ 4294967295
theorem crcBit_lt {r : Nat} (h : r < 4294967296) : crcBit r < 4294967296 := by
  unfold crcBit
  split
  · exact Nat.xor_lt_two_pow (n := 32) (by omega) (by omega)
  · omega
theorem crcBits_lt {r : Nat} (h : r < 4294967296) : ∀ k, crcBits k r < 4294967296 := by
  intro k
  induction k with
  | zero => exact h
  | succ k ih => exact crcBit_lt ih
theorem crcByte_lt {r : Nat} (h : r < 4294967296) (x : UInt8) : crcByte r x < 4294967296 :=
  crcBits_lt (Nat.xor_lt_two_pow (n := 32) (by omega) (by have := x.toNat_lt; omega)) 8
theorem crcAll_lt (bs : List UInt8) : crcAll bs < 4294967296 := by
  have : ∀ (l : List UInt8) (r : Nat), r < 4294967296 → l.foldl crcByte r < 4294967296 := by
    intro l
    induction l with
    | nil => intro r h; exact h
    | cons x l ih => intro r h; exact ih _ (crcByte_lt h x)
  exact this bs _ (by omega)
theorem crcN_le (bs : List UInt8) : crcN bs ≤ 4294967295 := by
  have h : crcN bs < 2 ^ 32 := Nat.xor_lt_two_pow (by have := crcAll_lt bs; omega) (by omega)
  omega
set_option maxRecDepth 100000 in
set_option maxHeartbeats 1000000 in
theorem crc_impl (A : Option Addr) (c : Nat) (xs : List UInt8) (w : World) (ha : By w A xs) (h1 : xs.length ≤ 549755813888) :
    Calls Try.prog 21 #[.slice A xs.length c] w fun e w' => e = .returned (.int .i64 (crcN xs)) ∧ w = w' := by
  go_enter Try.func21, Try.ntmps21
  go_wp2_with fail
  go_loop [3, 9] (fun r i => ∃ k R : Nat, i = .int .i64 k ∧ r = .int .u32 R ∧ k ≤ xs.length ∧ R < 4294967296 ∧ Hid (R = crcAll (xs.take k))) (fun _ i => xs.length - (intOf i).toNat)
  case atStart => exact ⟨0, 4294967295, rfl, rfl, Nat.zero_le _, by omega, rfl⟩
  case round =>
    obtain ⟨k, R, rfl, rfl, hk, hR, hv⟩ := hrel
    by_cases hlt : k < xs.length
    · obtain ⟨b, o, rfl, hc⟩ := ha.pos (by omega)
      obtain ⟨x, hx⟩ : ∃ x, xs[k]? = some x := ⟨_, List.getElem?_eq_getElem hlt⟩
      have hcell := hc k x hx
      have HX := Lib.hid hx
      clear hc hx
      have hlt' : (k : Int) < xs.length := by omega
      have hb := u8_lt x
      obtain ⟨R1, hR1⟩ : ∃ R1 : Nat, R1 = R ^^^ x.toNat := ⟨_, rfl⟩
      have hxor : bits .xor .u32 (R : Int) (x.toNat : Int) = (R1 : Int) := by rw [hR1]; exact u32_xor_nat _ _ (by omega) (by omega)
      have hR1l : R1 < 4294967296 := by
        have : R1 < 2 ^ 32 := by rw [hR1]; exact Nat.xor_lt_two_pow (by omega) (by omega)
        omega
      have HR1 := Lib.hid hR1
      clear hR1
      go_wp2_with fail
      clear hcell hxor hR
      go_loop [3, 17] (fun r i => ∃ j R2 : Nat, i = .int .i64 j ∧ r = .int .u32 R2 ∧ j ≤ 8 ∧ R2 < 4294967296 ∧ Hid (R2 = crcBits j R1)) (fun _ i => 8 - (intOf i).toNat)
      case atStart => exact ⟨0, R1, rfl, rfl, by omega, hR1l, rfl⟩
      case round =>
        obtain ⟨j, R2, rfl, rfl, hj, hR2, hv2⟩ := hrel
        by_cases hj8 : j < 8
        · have i1 : (j : Int) < 8 := by omega
          have hand : bits .and .u32 (R2 : Int) 1 = ((R2 % 2 : Nat) : Int) := by
            have e := u32_and_nat R2 1 hR2 (by omega)
            rw [Nat.and_one_is_mod] at e
            exact e
          by_cases hodd : R2 % 2 = 1
          · rw [hodd] at hand
            obtain ⟨R3, hR3⟩ : ∃ R3 : Nat, R3 = (R2 / 2) ^^^ 2197175160 := ⟨_, rfl⟩
            have hxor : bits .xor .u32 ((R2 : Int) / 2) 2197175160 = (R3 : Int) := by
              have e := u32_xor_nat (R2 / 2) 2197175160 (by omega) (by omega)
              rw [hR3, ← e]
              simp
            have hb : Hid (R3 = crcBit R2) := by show _ = _; rw [crcBit, if_pos hodd, hR3]
            have hl : R3 < 4294967296 := by rw [hb.out]; exact crcBit_lt hR2
            clear hR3 hodd
            go_wp2_with fail
            go_round
            case rel => exact ⟨j + 1, R3, by go_num, rfl, by omega, hl, by show _ = _; rw [hb.out, crcBits, hv2.out]⟩
            case measure => simp [intOf]; omega
          · have h0 : R2 % 2 = 0 := by omega
            rw [h0] at hand
            have hb : Hid (R2 / 2 = crcBit R2) := by show _ = _; rw [crcBit, if_neg hodd]
            clear hodd h0
            go_wp2_with fail
            go_round
            case rel => exact ⟨j + 1, R2 / 2, by go_num, by go_num, by omega, by omega, by show _ = _; rw [hb.out, crcBits, hv2.out]⟩
            case measure => simp [intOf]; omega
        · have i1 : ¬ (j : Int) < 8 := by omega
          have HJ : Hid (j = 8) := by show _ = _; omega
          go_wp2_with fail
          go_round
          case rel =>
            refine ⟨k + 1, R2, by go_num, rfl, by omega, hR2, ?_⟩
            show _ = _
            rw [hv2.out, HJ.out, take_succ_get HX.out, crcAll, List.foldl_append, HR1.out, hv.out]
            rfl
          case measure => simp [intOf]; omega
    · have hlt' : ¬ (k : Int) < xs.length := by omega
      have HE : Hid (crcN xs = R ^^^ 4294967295) := by
        show _ = _
        rw [crcN, hv.out, List.take_of_length_le (by omega)]
      obtain ⟨R1, hR1⟩ : ∃ R1 : Nat, R1 = R ^^^ 4294967295 := ⟨_, rfl⟩
      have hxor : bits .xor .u32 IntKind.u32.max (R : Int) = (R1 : Int) := by
        have e := u32_xor_nat 4294967295 R (by omega) (by omega)
        rw [hR1, Nat.xor_comm, ← e]
        rfl
      have hR1l : R1 < 4294967296 := by
        have : R1 < 2 ^ 32 := by rw [hR1]; exact Nat.xor_lt_two_pow (by omega) (by omega)
        omega
      have HR1 := Lib.hid hR1
      clear hR1
      go_wp2_with fail
      go_ret
      exact ⟨ret_int (by rw [HE.out, ← HR1.out]; exact IntWalk.wrap64_in _ (by omega)), rfl⟩

end Go.Proofs.Ytbaojeiinjjlcaa
