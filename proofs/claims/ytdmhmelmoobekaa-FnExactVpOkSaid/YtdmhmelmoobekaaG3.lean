/- A rune read: both ways. -/
import Derived.Test.YtdmhmelmoobekaaG2
import Derived.Deep.RegionHeld3
import Derived.Deep.DeepCutAuto
namespace Go.Proofs.Ytdmhmelmoobekaa
open Go.RowKit
set_option linter.unusedVariables false
set_option maxRecDepth 100000

def tlR : Nat → List UInt8 → Option Nat
  | n, [] => some n
  | n, x :: r => if x.toNat / 64 = 2 then tlR (64 * n + x.toNat % 64) r else none
def tlV (xs : List UInt8) : Value := match tlR 0 xs with
  | some n => .tuple #[.int .i64 (n : Int), .bool true]
  | none => .tuple #[.int .i64 0, .bool false]
set_option maxHeartbeats 400000 in
theorem tails_any (A : Option Addr) (c : Nat) (xs : List UInt8) (w : World) (ha : By w A xs) (h : xs.length ≤ 2) :
    Calls Try.prog 116 #[.slice A xs.length c] w fun e w' => e = .returned (tlV xs) ∧ w = w' := by
  go_enter Try.func116, Try.ntmps116
  go_wp2_with fail
  go_loop [4, 9] (fun nv i => ∃ k n : Nat, k ≤ xs.length ∧ i = .int .i64 k ∧ nv = .int .i64 n ∧ Hid (tlR 0 xs = tlR n (xs.drop k)) ∧ n ≤ 4095 ∧ (k ≤ 1 → n ≤ 63) ∧ (k = 0 → n = 0)) (fun _ i => xs.length - (intOf i).toNat)
  case atStart => exact ⟨0, 0, Nat.zero_le _, rfl, rfl, rfl, by omega, by omega, by omega⟩
  case round =>
    obtain ⟨k, n, hk, rfl, rfl, ht, hn1, hn2, hn3⟩ := hrel
    by_cases hlt : k < xs.length
    · have hlt' : (k : Int) < xs.length := by omega
      obtain ⟨b, o, rfl, hc⟩ := ha.pos (by omega)
      have hx := hc k _ (List.getElem?_eq_getElem hlt)
      have hd : xs.drop k = xs[k] :: xs.drop (k + 1) := List.drop_eq_getElem_cons hlt
      have hT := ht.out
      rw [hd, tlR] at hT
      have h256 := u8_lt xs[k]
      clear hc hd
      by_cases hq : xs[k].toNat / 64 = 2
      · have hq' : ((xs[k].toNat : Int) / 64 != 2) = false := by simp; omega
        rw [if_pos hq] at hT
        have HT := Lib.hid hT
        have hm : xs[k].toNat % 64 ≤ 63 := by omega
        clear ht hT
        go_wp2
        go_round
        case rel =>
          refine ⟨k + 1, 64 * n + xs[k].toNat % 64, by omega, by go_num, by go_num, HT, by omega, by omega, by omega⟩
        case measure => simp [intOf]; omega
      · have hq' : ((xs[k].toNat : Int) / 64 != 2) = true := by simp; omega
        rw [if_neg hq] at hT
        have HT : Hid (tlV xs = .tuple #[.int .i64 0, .bool false]) := by show _ = _; rw [tlV, hT]
        clear ht hT
        go_wp2
        go_ret2
        exact ⟨congrArg Ending.returned HT.out.symm, rfl⟩
    · have hlt' : ¬ (k : Int) < xs.length := by omega
      have hT := ht.out
      rw [List.drop_eq_nil_of_le (by omega), tlR] at hT
      have HT : Hid (tlV xs = .tuple #[.int .i64 n, .bool true]) := by show _ = _; rw [tlV, hT]
      clear ht hT
      go_wp2
      go_ret2
      exact ⟨congrArg Ending.returned HT.out.symm, rfl⟩
/-- What reading a rune hands back. -/
def RrPost (w : World) (r : Int × Int) (e : Ending) (w' : World) : Prop :=
  ∃ a b, Hid (r = (a, b)) ∧ e = .returned (.tuple #[.int .i64 a, .int .i64 b]) ∧ Below w.heap.size w w'
theorem rr_ret {w w' : World} {r : Int × Int} {a b : Int} (h : r = (a, b)) (hb : Below w.heap.size w w') : RrPost w r (.returned (.tuple #[.int .i64 a, .int .i64 b])) w' := ⟨a, b, h, rfl, hb⟩
end Go.Proofs.Ytdmhmelmoobekaa
