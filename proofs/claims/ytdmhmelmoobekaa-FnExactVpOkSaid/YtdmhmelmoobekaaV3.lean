/- A parser's state is valid: the program's way. -/
import Derived.Test.YtdmhmelmoobekaaV2
namespace Go.Proofs.Ytdmhmelmoobekaa
open Go.RowKit
set_option linter.unusedVariables false
set_option maxRecDepth 100000

theorem vp_0 {M : Bool} {ns : List Int} {xs : List UInt8} : vpB 0 M ns xs = (!M && decide (ns.length = 0) && (decide (xs.length = 0) || bgR xs)) := if_pos rfl
theorem vp_1 {M : Bool} {ns : List Int} {xs : List UInt8} : vpB 1 M ns xs = (!M && decide (ns.length = 0) && decide (xs.length = 0)) := by rw [vpB, if_neg (by decide), if_pos rfl]
theorem vp_2 {S : Int} {M : Bool} {ns : List Int} {xs : List UInt8} (h : S = 2 ∨ S = 3) : vpB S M ns xs = (areB ns && decide (xs.length = 0)) := by rw [vpB, if_neg (by omega), if_neg (by omega), if_pos h]
theorem vp_no {S : Int} {M : Bool} {ns : List Int} {xs : List UInt8} (h : ¬ (0 ≤ S ∧ S ≤ 3)) : vpB S M ns xs = false := by rw [vpB, if_neg (by omega), if_neg (by omega), if_neg (by omega)]
theorem vpOk_impl (S : Int) (M : Bool) (A : Option Addr) (c : Nat) (A' : Option Addr) (c' : Nat) (ns : List Int) (xs : List UInt8) (w : World) (ha : Cs w A (ns.map I)) (hb : By w A' xs) (hc : xs.length ≤ c') (hl : ns.length ≤ 1048576) (hl' : xs.length ≤ 1048576) :
    Calls Try.prog 30 #[pV S M A ns.length c A' xs.length c'] w fun e w' => e = .returned (.bool (vpB S M ns xs)) ∧ Below w.heap.size w w' := by
  have hb0 : Below w.heap.size w (w.alloc (.cells (pC S M A ns.length c A' xs.length c') 50)) := (Below.refl _ _).alloc (Nat.le_refl _) _
  by_cases s0 : S = 0
  · subst s0
    cases M with
    | true =>
      have HR : Hid (vpB 0 true ns xs = false) := by show _ = _; rw [vp_0]; simp
      go_enter Try.func30, Try.ntmps30
      go_wp2_with (fail)
      go_ret
      exact ⟨ret_bool HR.out.symm, (by (repeat (first | exact Below.refl _ _ | (refine Below.alloc ?_ (by first | omega | (simp; done) | (simp; omega)) _) | (refine Below.drew ?_) | (refine below_drewN ?_ _) | (refine below_at1 ?_ (by first | omega | (simp; done) | (simp; omega))) | (refine Below.setCell ?_ (by first | omega | (simp; done) | (simp; omega)) _) | (refine Below.trans ?_ (Below.mono (by assumption) (by first | omega | (simp; done) | (simp; omega)))))))⟩
    | false =>
      by_cases hn : ns.length = 0
      · have hn' : ((ns.length : Int) == 0) = true := by simp [hn]
        by_cases hx : xs.length = 0
        · have hx' : ((xs.length : Int) == 0) = true := by simp [hx]
          have HR : Hid (vpB 0 false ns xs = true) := by show _ = _; rw [vp_0]; simp [hn, hx]
          clear hn hx
          go_enter Try.func30, Try.ntmps30
          go_wp2_with fail
          go_ret
          exact ⟨ret_bool HR.out.symm, (by (repeat (first | exact Below.refl _ _ | (refine Below.alloc ?_ (by first | omega | (simp; done) | (simp; omega)) _) | (refine Below.drew ?_) | (refine below_drewN ?_ _) | (refine below_at1 ?_ (by first | omega | (simp; done) | (simp; omega))) | (refine Below.setCell ?_ (by first | omega | (simp; done) | (simp; omega)) _) | (refine Below.trans ?_ (Below.mono (by assumption) (by first | omega | (simp; done) | (simp; omega)))))))⟩
        · have hx' : ((xs.length : Int) == 0) = false := by simpa using hx
          have HR : Hid (vpB 0 false ns xs = bgR xs) := by show _ = _; rw [vp_0]; simp [hn, hx]
          clear hn hx
          go_enter Try.func30, Try.ntmps30
          go_wp2_with fail
          refine (runeBegin_impl _ _ xs _ (hb.below hb0) hc (by omega)).mono ?_
          rintro e w1 ⟨rfl, hb1⟩
          go_wp2_with fail
          go_ret
          exact ⟨ret_bool HR.out.symm, hb0.trans (hb1.mono hb0.size)⟩
      · have hn' : ((ns.length : Int) == 0) = false := by simpa using hn
        have HR : Hid (vpB 0 false ns xs = false) := by show _ = _; rw [vp_0]; simp [hn]
        clear hn
        go_enter Try.func30, Try.ntmps30
        go_wp2_with fail
        go_ret
        exact ⟨ret_bool HR.out.symm, (by (repeat (first | exact Below.refl _ _ | (refine Below.alloc ?_ (by first | omega | (simp; done) | (simp; omega)) _) | (refine Below.drew ?_) | (refine below_drewN ?_ _) | (refine below_at1 ?_ (by first | omega | (simp; done) | (simp; omega))) | (refine Below.setCell ?_ (by first | omega | (simp; done) | (simp; omega)) _) | (refine Below.trans ?_ (Below.mono (by assumption) (by first | omega | (simp; done) | (simp; omega)))))))⟩
  by_cases s1 : S = 1
  · subst s1
    cases M with
    | true =>
      have HR : Hid (vpB 1 true ns xs = false) := by show _ = _; rw [vp_1]; simp
      go_enter Try.func30, Try.ntmps30
      go_wp2_with (fail)
      go_ret
      exact ⟨ret_bool HR.out.symm, (by (repeat (first | exact Below.refl _ _ | (refine Below.alloc ?_ (by first | omega | (simp; done) | (simp; omega)) _) | (refine Below.drew ?_) | (refine below_drewN ?_ _) | (refine below_at1 ?_ (by first | omega | (simp; done) | (simp; omega))) | (refine Below.setCell ?_ (by first | omega | (simp; done) | (simp; omega)) _) | (refine Below.trans ?_ (Below.mono (by assumption) (by first | omega | (simp; done) | (simp; omega)))))))⟩
    | false =>
      by_cases hn : ns.length = 0
      · have hn' : ((ns.length : Int) == 0) = true := by simp [hn]
        by_cases hx : xs.length = 0
        · have hx' : ((xs.length : Int) == 0) = true := by simp [hx]
          have HR : Hid (vpB 1 false ns xs = true) := by show _ = _; rw [vp_1]; simp [hn, hx]
          clear hn hx
          go_enter Try.func30, Try.ntmps30
          go_wp2_with fail
          go_ret
          exact ⟨ret_bool HR.out.symm, (by (repeat (first | exact Below.refl _ _ | (refine Below.alloc ?_ (by first | omega | (simp; done) | (simp; omega)) _) | (refine Below.drew ?_) | (refine below_drewN ?_ _) | (refine below_at1 ?_ (by first | omega | (simp; done) | (simp; omega))) | (refine Below.setCell ?_ (by first | omega | (simp; done) | (simp; omega)) _) | (refine Below.trans ?_ (Below.mono (by assumption) (by first | omega | (simp; done) | (simp; omega)))))))⟩
        · have hx' : ((xs.length : Int) == 0) = false := by simpa using hx
          have HR : Hid (vpB 1 false ns xs = false) := by show _ = _; rw [vp_1]; simp [hx]
          clear hn hx
          go_enter Try.func30, Try.ntmps30
          go_wp2_with fail
          go_ret
          exact ⟨ret_bool HR.out.symm, (by (repeat (first | exact Below.refl _ _ | (refine Below.alloc ?_ (by first | omega | (simp; done) | (simp; omega)) _) | (refine Below.drew ?_) | (refine below_drewN ?_ _) | (refine below_at1 ?_ (by first | omega | (simp; done) | (simp; omega))) | (refine Below.setCell ?_ (by first | omega | (simp; done) | (simp; omega)) _) | (refine Below.trans ?_ (Below.mono (by assumption) (by first | omega | (simp; done) | (simp; omega)))))))⟩
      · have hn' : ((ns.length : Int) == 0) = false := by simpa using hn
        have HR : Hid (vpB 1 false ns xs = false) := by show _ = _; rw [vp_1]; simp [hn]
        clear hn
        go_enter Try.func30, Try.ntmps30
        go_wp2_with fail
        go_ret
        exact ⟨ret_bool HR.out.symm, (by (repeat (first | exact Below.refl _ _ | (refine Below.alloc ?_ (by first | omega | (simp; done) | (simp; omega)) _) | (refine Below.drew ?_) | (refine below_drewN ?_ _) | (refine below_at1 ?_ (by first | omega | (simp; done) | (simp; omega))) | (refine Below.setCell ?_ (by first | omega | (simp; done) | (simp; omega)) _) | (refine Below.trans ?_ (Below.mono (by assumption) (by first | omega | (simp; done) | (simp; omega)))))))⟩
  have q0 : (S == 0) = false := by simpa using s0
  have q1 : (S == 1) = false := by simpa using s1
  by_cases s2 : S = 2
  · have q2 : (S == 2) = true := by simpa using s2
    have HV := Lib.hid (vp_2 (S := S) (M := M) (ns := ns) (xs := xs) (.inl s2))
    cases har : areB ns with
    | false =>
      have HA := Lib.hid har
      have HR : Hid (vpB S M ns xs = false) := by show _ = _; rw [HV.out, har]; rfl
      clear har s0 s1 s2
      go_enter Try.func30, Try.ntmps30
      go_wp2_with (go_at_call 77; refine (areArgs_any _ _ ns _ (ha.below hb0) hl).mono ?_; rintro e w1 ⟨he, rfl⟩; rw [HA.out] at he; subst he)
      go_ret
      exact ⟨ret_bool HR.out.symm, (by (repeat (first | exact Below.refl _ _ | (refine Below.alloc ?_ (by first | omega | (simp; done) | (simp; omega)) _) | (refine Below.drew ?_) | (refine below_drewN ?_ _) | (refine below_at1 ?_ (by first | omega | (simp; done) | (simp; omega))) | (refine Below.setCell ?_ (by first | omega | (simp; done) | (simp; omega)) _) | (refine Below.trans ?_ (Below.mono (by assumption) (by first | omega | (simp; done) | (simp; omega)))))))⟩
    | true =>
      have HA := Lib.hid har
      by_cases hx : xs.length = 0
      · have hx' : ((xs.length : Int) == 0) = true := by simp [hx]
        have HR : Hid (vpB S M ns xs = true) := by show _ = _; rw [HV.out, har]; simp [hx]
        clear har hx s0 s1 s2
        go_enter Try.func30, Try.ntmps30
        go_wp2_with (go_at_call 77; refine (areArgs_any _ _ ns _ (ha.below hb0) hl).mono ?_; rintro e w1 ⟨he, rfl⟩; rw [HA.out] at he; subst he)
        go_ret
        exact ⟨ret_bool HR.out.symm, (by (repeat (first | exact Below.refl _ _ | (refine Below.alloc ?_ (by first | omega | (simp; done) | (simp; omega)) _) | (refine Below.drew ?_) | (refine below_drewN ?_ _) | (refine below_at1 ?_ (by first | omega | (simp; done) | (simp; omega))) | (refine Below.setCell ?_ (by first | omega | (simp; done) | (simp; omega)) _) | (refine Below.trans ?_ (Below.mono (by assumption) (by first | omega | (simp; done) | (simp; omega)))))))⟩
      · have hx' : ((xs.length : Int) == 0) = false := by simpa using hx
        have HR : Hid (vpB S M ns xs = false) := by show _ = _; rw [HV.out, har]; simp [hx]
        clear har hx s0 s1 s2
        go_enter Try.func30, Try.ntmps30
        go_wp2_with (go_at_call 77; refine (areArgs_any _ _ ns _ (ha.below hb0) hl).mono ?_; rintro e w1 ⟨he, rfl⟩; rw [HA.out] at he; subst he)
        go_ret
        exact ⟨ret_bool HR.out.symm, (by (repeat (first | exact Below.refl _ _ | (refine Below.alloc ?_ (by first | omega | (simp; done) | (simp; omega)) _) | (refine Below.drew ?_) | (refine below_drewN ?_ _) | (refine below_at1 ?_ (by first | omega | (simp; done) | (simp; omega))) | (refine Below.setCell ?_ (by first | omega | (simp; done) | (simp; omega)) _) | (refine Below.trans ?_ (Below.mono (by assumption) (by first | omega | (simp; done) | (simp; omega)))))))⟩
  have q2 : (S == 2) = false := by simpa using s2
  by_cases s3 : S = 3
  · have q3 : (S == 3) = true := by simpa using s3
    have HV := Lib.hid (vp_2 (S := S) (M := M) (ns := ns) (xs := xs) (.inr s3))
    cases har : areB ns with
    | false =>
      have HA := Lib.hid har
      have HR : Hid (vpB S M ns xs = false) := by show _ = _; rw [HV.out, har]; rfl
      clear har s0 s1 s2 s3
      go_enter Try.func30, Try.ntmps30
      go_wp2_with (go_at_call 77; refine (areArgs_any _ _ ns _ (ha.below hb0) hl).mono ?_; rintro e w1 ⟨he, rfl⟩; rw [HA.out] at he; subst he)
      go_ret
      exact ⟨ret_bool HR.out.symm, (by (repeat (first | exact Below.refl _ _ | (refine Below.alloc ?_ (by first | omega | (simp; done) | (simp; omega)) _) | (refine Below.drew ?_) | (refine below_drewN ?_ _) | (refine below_at1 ?_ (by first | omega | (simp; done) | (simp; omega))) | (refine Below.setCell ?_ (by first | omega | (simp; done) | (simp; omega)) _) | (refine Below.trans ?_ (Below.mono (by assumption) (by first | omega | (simp; done) | (simp; omega)))))))⟩
    | true =>
      have HA := Lib.hid har
      by_cases hx : xs.length = 0
      · have hx' : ((xs.length : Int) == 0) = true := by simp [hx]
        have HR : Hid (vpB S M ns xs = true) := by show _ = _; rw [HV.out, har]; simp [hx]
        clear har hx s0 s1 s2 s3
        go_enter Try.func30, Try.ntmps30
        go_wp2_with (go_at_call 77; refine (areArgs_any _ _ ns _ (ha.below hb0) hl).mono ?_; rintro e w1 ⟨he, rfl⟩; rw [HA.out] at he; subst he)
        go_ret
        exact ⟨ret_bool HR.out.symm, (by (repeat (first | exact Below.refl _ _ | (refine Below.alloc ?_ (by first | omega | (simp; done) | (simp; omega)) _) | (refine Below.drew ?_) | (refine below_drewN ?_ _) | (refine below_at1 ?_ (by first | omega | (simp; done) | (simp; omega))) | (refine Below.setCell ?_ (by first | omega | (simp; done) | (simp; omega)) _) | (refine Below.trans ?_ (Below.mono (by assumption) (by first | omega | (simp; done) | (simp; omega)))))))⟩
      · have hx' : ((xs.length : Int) == 0) = false := by simpa using hx
        have HR : Hid (vpB S M ns xs = false) := by show _ = _; rw [HV.out, har]; simp [hx]
        clear har hx s0 s1 s2 s3
        go_enter Try.func30, Try.ntmps30
        go_wp2_with (go_at_call 77; refine (areArgs_any _ _ ns _ (ha.below hb0) hl).mono ?_; rintro e w1 ⟨he, rfl⟩; rw [HA.out] at he; subst he)
        go_ret
        exact ⟨ret_bool HR.out.symm, (by (repeat (first | exact Below.refl _ _ | (refine Below.alloc ?_ (by first | omega | (simp; done) | (simp; omega)) _) | (refine Below.drew ?_) | (refine below_drewN ?_ _) | (refine below_at1 ?_ (by first | omega | (simp; done) | (simp; omega))) | (refine Below.setCell ?_ (by first | omega | (simp; done) | (simp; omega)) _) | (refine Below.trans ?_ (Below.mono (by assumption) (by first | omega | (simp; done) | (simp; omega)))))))⟩
  have q3 : (S == 3) = false := by simpa using s3
  have HR := Lib.hid (vp_no (S := S) (M := M) (ns := ns) (xs := xs) (by omega))
  clear s0 s1 s2 s3
  go_enter Try.func30, Try.ntmps30
  go_wp2_with fail
  go_ret
  exact ⟨ret_bool HR.out.symm, (by (repeat (first | exact Below.refl _ _ | (refine Below.alloc ?_ (by first | omega | (simp; done) | (simp; omega)) _) | (refine Below.drew ?_) | (refine below_drewN ?_ _) | (refine below_at1 ?_ (by first | omega | (simp; done) | (simp; omega))) | (refine Below.setCell ?_ (by first | omega | (simp; done) | (simp; omega)) _) | (refine Below.trans ?_ (Below.mono (by assumption) (by first | omega | (simp; done) | (simp; omega)))))))⟩
end Go.Proofs.Ytdmhmelmoobekaa
