/- A parser's state is valid: both ways. -/
import Derived.Test.YtdmhmelmoobekaaV1
import Derived.Test.YtdmhmelmoobekaaG7
namespace Go.Proofs.Ytdmhmelmoobekaa
open Go.RowKit
set_option linter.unusedVariables false
set_option maxRecDepth 100000

def argB (n : Int) : Bool := withinB n 0 9999
def areB (ns : List Int) : Bool := decide (ns.length ≤ 8) && ns.all argB
def vpB (S : Int) (M : Bool) (ns : List Int) (xs : List UInt8) : Bool :=
  if S = 0 then !M && decide (ns.length = 0) && (decide (xs.length = 0) || bgR xs)
  else if S = 1 then !M && decide (ns.length = 0) && decide (xs.length = 0)
  else if S = 2 ∨ S = 3 then areB ns && decide (xs.length = 0)
  else false
theorem argClosure_any (n : Int) (w : World) : Calls Try.prog 119 #[.int .i64 n] w fun e w' => e = .returned (.bool (!argB n)) ∧ w = w' := by
  go_enter Try.func119, Try.ntmps119
  go_wp2_with (go_at_call 86; refine (within_any _ _ _ _).mono ?_; rintro e w' ⟨rfl, rfl⟩)
  go_ret
  exact ⟨rfl, rfl⟩
theorem aall_bad {ns : List Int} {k : Nat} (hk : k < ns.length) (h : argB ns[k] = false) : ns.all argB = false := by
  rw [List.all_eq_false]
  exact ⟨ns[k], List.getElem_mem hk, by simp [h]⟩
theorem aall_step {ns : List Int} {k : Nat} (hk : k < ns.length) (h : (ns.take k).all argB = true) (h2 : argB ns[k] = true) : (ns.take (k + 1)).all argB = true := by
  rw [take_succ_get (List.getElem?_eq_getElem hk), List.all_append, h]
  simp [h2]
def AxPost (w : World) (ns : List Int) (e : Ending) (w' : World) : Prop :=
  ∃ z : Int, e = .returned (.int .i64 z) ∧ Hid ((ns.all argB = true ∧ z = -1) ∨ (ns.all argB = false ∧ 0 ≤ z)) ∧ w = w'
theorem argIndex_any (A : Option Addr) (c : Nat) (ns : List Int) (w : World) (ha : Cs w A (ns.map I)) (h1 : ns.length ≤ 1048576) :
    Calls Try.prog 131 #[.slice A ns.length c, .func (.func 119) #[] #[]] w (AxPost w ns) := by
  go_enter Try.func131, Try.ntmps131
  go_wp2_with fail
  go_loopw [8] (fun i wr => ∃ k : Nat, k ≤ ns.length ∧ i = .int .i64 k ∧ Hid ((ns.take k).all argB = true) ∧ w = wr) (fun i _ => ns.length - (intOf i).toNat)
  case atStart => exact ⟨0, Nat.zero_le _, rfl, by show _ = _; simp, rfl⟩
  case round =>
    obtain ⟨k, hk, rfl, ht, rfl⟩ := hrel
    by_cases hlt : k < ns.length
    · obtain ⟨b, o, rfl, x0⟩ := ha.ints hlt
      have hlt' : (k : Int) < ns.length := by omega
      cases hq : argB ns[k] with
      | true =>
        have HT := Lib.hid (aall_step hlt ht.out hq)
        have HQ := Lib.hid hq
        clear hq ht
        go_wp2_with (go_at_call 119; refine (argClosure_any ns[k] _).mono ?_; rintro e w2 ⟨he, rfl⟩; rw [HQ.out] at he; subst he)
        go_roundw
        case rel => exact ⟨k + 1, by omega, by go_num, HT, trivial⟩
        case measure => simp [intOf]; omega
      | false =>
        have HX := Lib.hid (aall_bad hlt hq)
        have HQ := Lib.hid hq
        clear hq ht
        go_wp2_with (go_at_call 119; refine (argClosure_any ns[k] _).mono ?_; rintro e w2 ⟨he, rfl⟩; rw [HQ.out] at he; subst he)
        go_ret
        exact ⟨k, rfl, .inr ⟨HX.out, by omega⟩, rfl⟩
    · have hlt' : ¬ (k : Int) < ns.length := by omega
      have hk' : k = ns.length := by omega
      rw [hk', List.take_length] at ht
      clear hk'
      go_wp2_with fail
      go_ret
      exact ⟨-1, rfl, .inl ⟨ht.out, rfl⟩, rfl⟩
theorem argContains_any (A : Option Addr) (c : Nat) (ns : List Int) (w : World) (ha : Cs w A (ns.map I)) (h1 : ns.length ≤ 1048576) :
    Calls Try.prog 118 #[.slice A ns.length c, .func (.func 119) #[] #[]] w fun e w' => e = .returned (.bool (!ns.all argB)) ∧ w = w' := by
  go_enter Try.func118, Try.ntmps118
  go_wp2_with fail
  refine (argIndex_any _ _ _ _ ha h1).mono ?_
  rintro e w1 ⟨z, rfl, hz, rfl⟩
  rcases hz.out with ⟨h2, rfl⟩ | ⟨h2, h3⟩
  · have HX := Lib.hid h2
    clear hz h2
    go_wp2_with fail
    go_ret
    exact ⟨ret_bool (by rw [HX.out]; rfl), rfl⟩
  · have HX := Lib.hid h2
    clear hz h2
    go_wp2_with fail
    go_ret
    exact ⟨ret_bool (by rw [HX.out]; simp), rfl⟩
theorem areArgs_any (A : Option Addr) (c : Nat) (ns : List Int) (w : World) (ha : Cs w A (ns.map I)) (h1 : ns.length ≤ 1048576) :
    Calls Try.prog 77 #[.slice A ns.length c] w fun e w' => e = .returned (.bool (areB ns)) ∧ w = w' := by
  by_cases h : ns.length ≤ 8
  · have h' : (ns.length : Int) ≤ 8 := by omega
    have HR : Hid (areB ns = ns.all argB) := by show _ = _; simp [areB, h]
    go_enter Try.func77, Try.ntmps77
    go_wp2_with (go_at_call 118; refine (argContains_any _ _ _ _ ha h1).mono ?_; rintro e w1 ⟨rfl, rfl⟩)
    go_ret
    exact ⟨ret_bool (by rw [HR.out]), rfl⟩
  · have h' : ¬ (ns.length : Int) ≤ 8 := by omega
    have HR : Hid (areB ns = false) := by show _ = _; simp [areB, h]
    go_enter Try.func77, Try.ntmps77
    go_wp2_with fail
    go_ret
    exact ⟨ret_bool HR.out.symm, rfl⟩
theorem keeps_any (S : Int) (w : World) : Calls Try.prog 72 #[.int .i64 S] w fun e w' => e = .returned (.bool (decide (S = 2 ∨ S = 3))) ∧ w = w' := by
  go_enter Try.func72, Try.ntmps72
  go_wp2
  all_goals (go_ret; exact ⟨ret_bool (by (try rw [Bool.eq_iff_iff]); simp; try omega), rfl⟩)
end Go.Proofs.Ytdmhmelmoobekaa
