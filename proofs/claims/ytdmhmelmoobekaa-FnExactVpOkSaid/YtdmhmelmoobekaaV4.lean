/- A parser's state is valid: the reference's way. -/
import Derived.Test.YtdmhmelmoobekaaV3
namespace Go.Proofs.Ytdmhmelmoobekaa
open Go.RowKit
set_option linter.unusedVariables false
set_option maxRecDepth 100000

theorem arg_ok {n : Int} (h : argB n = true) : ¬ n < 0 ∧ ¬ 9999 < n := by simp [argB, withinB] at h; omega
theorem arg_no {n : Int} (h : argB n = false) : n < 0 ∨ (¬ n < 0 ∧ 9999 < n) := by simp [argB, withinB] at h; omega
set_option maxHeartbeats 1000000 in
theorem vpOk_spec (S : Int) (M : Bool) (A : Option Addr) (c : Nat) (A' : Option Addr) (c' : Nat) (ns : List Int) (xs : List UInt8) (w : World) (ha : Cs w A (ns.map I)) (hb : By w A' xs) (hc : xs.length ≤ c') (hl : ns.length ≤ 1048576) (hl' : xs.length ≤ 1048576) :
    Calls Try.prog 28 #[pV S M A ns.length c A' xs.length c'] w fun e w' => e = .returned (.bool (vpB S M ns xs)) ∧ Below w.heap.size w w' := by
  have hb0 : Below w.heap.size w (w.alloc (.cells (pC S M A ns.length c A' xs.length c') 50)) := (Below.refl _ _).alloc (Nat.le_refl _) _
  by_cases k1 : S < 0
  · have HR : Hid (vpB S M ns xs = false) := by show _ = _; exact vp_no (by omega)
    go_enter Try.func28, Try.ntmps28
    go_wp2_with (fail)
    go_ret
    exact ⟨ret_bool HR.out.symm, (by (repeat (first | exact Below.refl _ _ | (refine Below.alloc ?_ (by first | omega | (simp; done) | (simp; omega)) _) | (refine Below.drew ?_) | (refine below_drewN ?_ _) | (refine below_at1 ?_ (by first | omega | (simp; done) | (simp; omega))) | (refine Below.setCell ?_ (by first | omega | (simp; done) | (simp; omega)) _) | (refine Below.trans ?_ (Below.mono (by assumption) (by first | omega | (simp; done) | (simp; omega)))))))⟩
  by_cases k2 : 3 < S
  · have HR : Hid (vpB S M ns xs = false) := by show _ = _; exact vp_no (by omega)
    go_enter Try.func28, Try.ntmps28
    go_wp2_with (fail)
    go_ret
    exact ⟨ret_bool HR.out.symm, (by (repeat (first | exact Below.refl _ _ | (refine Below.alloc ?_ (by first | omega | (simp; done) | (simp; omega)) _) | (refine Below.drew ?_) | (refine below_drewN ?_ _) | (refine below_at1 ?_ (by first | omega | (simp; done) | (simp; omega))) | (refine Below.setCell ?_ (by first | omega | (simp; done) | (simp; omega)) _) | (refine Below.trans ?_ (Below.mono (by assumption) (by first | omega | (simp; done) | (simp; omega)))))))⟩
  by_cases k3 : (8 : Int) < ns.length
  · have HR : Hid (vpB S M ns xs = false) := by
      show _ = _
      have e1 : decide (ns.length = 0) = false := by simp; rintro rfl; simp at k3
      have e2 : areB ns = false := by simp [areB]; intro h; omega
      unfold vpB
      rw [e1, e2]
      (repeat' split) <;> simp
    go_enter Try.func28, Try.ntmps28
    go_wp2_with fail
    go_ret
    exact ⟨ret_bool HR.out.symm, (by (repeat (first | exact Below.refl _ _ | (refine Below.alloc ?_ (by first | omega | (simp; done) | (simp; omega)) _) | (refine Below.drew ?_) | (refine below_drewN ?_ _) | (refine below_at1 ?_ (by first | omega | (simp; done) | (simp; omega))) | (refine Below.setCell ?_ (by first | omega | (simp; done) | (simp; omega)) _) | (refine Below.trans ?_ (Below.mono (by assumption) (by first | omega | (simp; done) | (simp; omega)))))))⟩
  by_cases s0 : S = 0
  · subst s0
    have HK : Hid (decide ((0 : Int) = 2 ∨ (0 : Int) = 3) = false) := by show _ = _; decide
    cases M with
    | true =>
      have HR : Hid (vpB 0 true ns xs = false) := by show _ = _; rw [vp_0]; simp
      go_enter Try.func28, Try.ntmps28
      go_wp2_with (go_at_call 72; refine (keeps_any _ _).mono ?_; rintro e w1 ⟨he, rfl⟩; rw [HK.out] at he; subst he)
      go_ret
      exact ⟨ret_bool HR.out.symm, (by (repeat (first | exact Below.refl _ _ | (refine Below.alloc ?_ (by first | omega | (simp; done) | (simp; omega)) _) | (refine Below.drew ?_) | (refine below_drewN ?_ _) | (refine below_at1 ?_ (by first | omega | (simp; done) | (simp; omega))) | (refine Below.setCell ?_ (by first | omega | (simp; done) | (simp; omega)) _) | (refine Below.trans ?_ (Below.mono (by assumption) (by first | omega | (simp; done) | (simp; omega)))))))⟩
    | false =>
      by_cases hn : (0 : Int) < ns.length
      · have HR : Hid (vpB 0 false ns xs = false) := by show _ = _; rw [vp_0]; have e1 : decide (ns.length = 0) = false := (by simp; rintro rfl; simp at hn); rw [e1]; simp
        go_enter Try.func28, Try.ntmps28
        go_wp2_with (go_at_call 72; refine (keeps_any _ _).mono ?_; rintro e w1 ⟨he, rfl⟩; rw [HK.out] at he; subst he)
        go_ret
        exact ⟨ret_bool HR.out.symm, (by (repeat (first | exact Below.refl _ _ | (refine Below.alloc ?_ (by first | omega | (simp; done) | (simp; omega)) _) | (refine Below.drew ?_) | (refine below_drewN ?_ _) | (refine below_at1 ?_ (by first | omega | (simp; done) | (simp; omega))) | (refine Below.setCell ?_ (by first | omega | (simp; done) | (simp; omega)) _) | (refine Below.trans ?_ (Below.mono (by assumption) (by first | omega | (simp; done) | (simp; omega)))))))⟩
      have hnz : ns = [] := List.eq_nil_of_length_eq_zero (by omega)
      by_cases hx : xs.length = 0
      · have hx' : ((xs.length : Int) == 0) = true := by simp [hx]
        have HB : ns.all argB = false → Hid (vpB 0 false ns xs = false) := by intro h; rw [hnz] at h; simp at h
        have HE : ns.all argB = true → Hid (vpB 0 false ns xs = true) := by intro _; show _ = _; rw [vp_0, hnz]; simp [hx]
        clear hx hnz
        go_enter Try.func28, Try.ntmps28
        go_wp2_with (go_at_call 72; refine (keeps_any _ _).mono ?_; rintro e w1 ⟨he, rfl⟩; rw [HK.out] at he; subst he)
        go_loopw [38] (fun i wr => ∃ k : Nat, k ≤ ns.length ∧ i = .int .i64 k ∧ Hid ((ns.take k).all argB = true) ∧ wr = w.alloc (.cells (pC 0 false A ns.length c A' xs.length c') 50)) (fun i _ => ns.length - (intOf i).toNat)
        case atStart => exact ⟨0, Nat.zero_le _, rfl, by show _ = _; simp, rfl⟩
        case round =>
          obtain ⟨k, hk, rfl, ht, rfl⟩ := hrel
          by_cases hlt : k < ns.length
          · obtain ⟨b, o, rfl, x0⟩ := (ha.below hb0).ints hlt
            have hlt' : (k : Int) < ns.length := by omega
            cases hq : argB ns[k] with
            | true =>
              have HT := Lib.hid (aall_step hlt ht.out hq)
              obtain ⟨g1, g2⟩ := arg_ok hq
              clear hq ht
              go_wp2_with fail
              go_roundw
              case rel => exact ⟨k + 1, by omega, by go_num, HT, trivial⟩
              case measure => simp [intOf]; omega
            | false =>
              have HX := Lib.hid (aall_bad hlt hq)
              have HR := HB HX.out
              rcases arg_no hq with g1 | ⟨g1, g2⟩
              · clear hq ht
                go_wp2_with fail
                go_ret
                exact ⟨ret_bool HR.out.symm, hb0⟩
              · clear hq ht
                go_wp2_with fail
                go_ret
                exact ⟨ret_bool HR.out.symm, hb0⟩
          · have hlt' : ¬ (k : Int) < ns.length := by omega
            have hk' : k = ns.length := by omega
            rw [hk', List.take_length] at ht
            have HR := HE ht.out
            clear hk' ht
            go_wp2_with fail
            go_ret
            exact ⟨ret_bool HR.out.symm, hb0⟩

      · have hx' : ((xs.length : Int) == 0) = false := by simpa using hx
        have HB : ns.all argB = false → Hid (vpB 0 false ns xs = false) := by intro h; rw [hnz] at h; simp at h
        have HE : ns.all argB = true → Hid (vpB 0 false ns xs = bgR xs) := by intro _; show _ = _; rw [vp_0, hnz]; simp [hx]
        clear hx hnz
        go_enter Try.func28, Try.ntmps28
        go_wp2_with (go_at_call 72; refine (keeps_any _ _).mono ?_; rintro e w1 ⟨he, rfl⟩; rw [HK.out] at he; subst he)
        go_loopw [38] (fun i wr => ∃ k : Nat, k ≤ ns.length ∧ i = .int .i64 k ∧ Hid ((ns.take k).all argB = true) ∧ wr = w.alloc (.cells (pC 0 false A ns.length c A' xs.length c') 50)) (fun i _ => ns.length - (intOf i).toNat)
        case atStart => exact ⟨0, Nat.zero_le _, rfl, by show _ = _; simp, rfl⟩
        case round =>
          obtain ⟨k, hk, rfl, ht, rfl⟩ := hrel
          by_cases hlt : k < ns.length
          · obtain ⟨b, o, rfl, x0⟩ := (ha.below hb0).ints hlt
            have hlt' : (k : Int) < ns.length := by omega
            cases hq : argB ns[k] with
            | true =>
              have HT := Lib.hid (aall_step hlt ht.out hq)
              obtain ⟨g1, g2⟩ := arg_ok hq
              clear hq ht
              go_wp2_with fail
              go_roundw
              case rel => exact ⟨k + 1, by omega, by go_num, HT, trivial⟩
              case measure => simp [intOf]; omega
            | false =>
              have HX := Lib.hid (aall_bad hlt hq)
              have HR := HB HX.out
              rcases arg_no hq with g1 | ⟨g1, g2⟩
              · clear hq ht
                go_wp2_with fail
                go_ret
                exact ⟨ret_bool HR.out.symm, hb0⟩
              · clear hq ht
                go_wp2_with fail
                go_ret
                exact ⟨ret_bool HR.out.symm, hb0⟩
          · have hlt' : ¬ (k : Int) < ns.length := by omega
            have hk' : k = ns.length := by omega
            rw [hk', List.take_length] at ht
            have HR := HE ht.out
            clear hk' ht
            go_wp2_with fail
            refine (runeBegin_spec _ _ xs _ (hb.below hb0) hc (by omega)).mono ?_
            rintro e w1 ⟨rfl, hb1⟩
            go_wp2_with fail
            go_ret
            exact ⟨ret_bool HR.out.symm, hb0.trans (hb1.mono hb0.size)⟩

  by_cases s1 : S = 1
  · subst s1
    have HK : Hid (decide ((1 : Int) = 2 ∨ (1 : Int) = 3) = false) := by show _ = _; decide
    cases M with
    | true =>
      have HR : Hid (vpB 1 true ns xs = false) := by show _ = _; rw [vp_1]; simp
      go_enter Try.func28, Try.ntmps28
      go_wp2_with (go_at_call 72; refine (keeps_any _ _).mono ?_; rintro e w1 ⟨he, rfl⟩; rw [HK.out] at he; subst he)
      go_ret
      exact ⟨ret_bool HR.out.symm, (by (repeat (first | exact Below.refl _ _ | (refine Below.alloc ?_ (by first | omega | (simp; done) | (simp; omega)) _) | (refine Below.drew ?_) | (refine below_drewN ?_ _) | (refine below_at1 ?_ (by first | omega | (simp; done) | (simp; omega))) | (refine Below.setCell ?_ (by first | omega | (simp; done) | (simp; omega)) _) | (refine Below.trans ?_ (Below.mono (by assumption) (by first | omega | (simp; done) | (simp; omega)))))))⟩
    | false =>
      by_cases hn : (0 : Int) < ns.length
      · have HR : Hid (vpB 1 false ns xs = false) := by show _ = _; rw [vp_1]; have e1 : decide (ns.length = 0) = false := (by simp; rintro rfl; simp at hn); rw [e1]; simp
        go_enter Try.func28, Try.ntmps28
        go_wp2_with (go_at_call 72; refine (keeps_any _ _).mono ?_; rintro e w1 ⟨he, rfl⟩; rw [HK.out] at he; subst he)
        go_ret
        exact ⟨ret_bool HR.out.symm, (by (repeat (first | exact Below.refl _ _ | (refine Below.alloc ?_ (by first | omega | (simp; done) | (simp; omega)) _) | (refine Below.drew ?_) | (refine below_drewN ?_ _) | (refine below_at1 ?_ (by first | omega | (simp; done) | (simp; omega))) | (refine Below.setCell ?_ (by first | omega | (simp; done) | (simp; omega)) _) | (refine Below.trans ?_ (Below.mono (by assumption) (by first | omega | (simp; done) | (simp; omega)))))))⟩
      have hnz : ns = [] := List.eq_nil_of_length_eq_zero (by omega)
      by_cases hx : xs.length = 0
      · have hx' : ((xs.length : Int) == 0) = true := by simp [hx]
        have HB : ns.all argB = false → Hid (vpB 1 false ns xs = false) := by intro h; rw [hnz] at h; simp at h
        have HE : ns.all argB = true → Hid (vpB 1 false ns xs = true) := by intro _; show _ = _; rw [vp_1, hnz]; simp [hx]
        clear hx hnz
        go_enter Try.func28, Try.ntmps28
        go_wp2_with (go_at_call 72; refine (keeps_any _ _).mono ?_; rintro e w1 ⟨he, rfl⟩; rw [HK.out] at he; subst he)
        go_loopw [38] (fun i wr => ∃ k : Nat, k ≤ ns.length ∧ i = .int .i64 k ∧ Hid ((ns.take k).all argB = true) ∧ wr = w.alloc (.cells (pC 1 false A ns.length c A' xs.length c') 50)) (fun i _ => ns.length - (intOf i).toNat)
        case atStart => exact ⟨0, Nat.zero_le _, rfl, by show _ = _; simp, rfl⟩
        case round =>
          obtain ⟨k, hk, rfl, ht, rfl⟩ := hrel
          by_cases hlt : k < ns.length
          · obtain ⟨b, o, rfl, x0⟩ := (ha.below hb0).ints hlt
            have hlt' : (k : Int) < ns.length := by omega
            cases hq : argB ns[k] with
            | true =>
              have HT := Lib.hid (aall_step hlt ht.out hq)
              obtain ⟨g1, g2⟩ := arg_ok hq
              clear hq ht
              go_wp2_with fail
              go_roundw
              case rel => exact ⟨k + 1, by omega, by go_num, HT, trivial⟩
              case measure => simp [intOf]; omega
            | false =>
              have HX := Lib.hid (aall_bad hlt hq)
              have HR := HB HX.out
              rcases arg_no hq with g1 | ⟨g1, g2⟩
              · clear hq ht
                go_wp2_with fail
                go_ret
                exact ⟨ret_bool HR.out.symm, hb0⟩
              · clear hq ht
                go_wp2_with fail
                go_ret
                exact ⟨ret_bool HR.out.symm, hb0⟩
          · have hlt' : ¬ (k : Int) < ns.length := by omega
            have hk' : k = ns.length := by omega
            rw [hk', List.take_length] at ht
            have HR := HE ht.out
            clear hk' ht
            go_wp2_with fail
            go_ret
            exact ⟨ret_bool HR.out.symm, hb0⟩

      · have hx' : ((xs.length : Int) == 0) = false := by simpa using hx
        have HB : ns.all argB = false → Hid (vpB 1 false ns xs = false) := by intro h; rw [hnz] at h; simp at h
        have HE : ns.all argB = true → Hid (vpB 1 false ns xs = false) := by intro _; show _ = _; rw [vp_1, hnz]; simp [hx]
        clear hx hnz
        go_enter Try.func28, Try.ntmps28
        go_wp2_with (go_at_call 72; refine (keeps_any _ _).mono ?_; rintro e w1 ⟨he, rfl⟩; rw [HK.out] at he; subst he)
        go_loopw [38] (fun i wr => ∃ k : Nat, k ≤ ns.length ∧ i = .int .i64 k ∧ Hid ((ns.take k).all argB = true) ∧ wr = w.alloc (.cells (pC 1 false A ns.length c A' xs.length c') 50)) (fun i _ => ns.length - (intOf i).toNat)
        case atStart => exact ⟨0, Nat.zero_le _, rfl, by show _ = _; simp, rfl⟩
        case round =>
          obtain ⟨k, hk, rfl, ht, rfl⟩ := hrel
          by_cases hlt : k < ns.length
          · obtain ⟨b, o, rfl, x0⟩ := (ha.below hb0).ints hlt
            have hlt' : (k : Int) < ns.length := by omega
            cases hq : argB ns[k] with
            | true =>
              have HT := Lib.hid (aall_step hlt ht.out hq)
              obtain ⟨g1, g2⟩ := arg_ok hq
              clear hq ht
              go_wp2_with fail
              go_roundw
              case rel => exact ⟨k + 1, by omega, by go_num, HT, trivial⟩
              case measure => simp [intOf]; omega
            | false =>
              have HX := Lib.hid (aall_bad hlt hq)
              have HR := HB HX.out
              rcases arg_no hq with g1 | ⟨g1, g2⟩
              · clear hq ht
                go_wp2_with fail
                go_ret
                exact ⟨ret_bool HR.out.symm, hb0⟩
              · clear hq ht
                go_wp2_with fail
                go_ret
                exact ⟨ret_bool HR.out.symm, hb0⟩
          · have hlt' : ¬ (k : Int) < ns.length := by omega
            have hk' : k = ns.length := by omega
            rw [hk', List.take_length] at ht
            have HR := HE ht.out
            clear hk' ht
            go_wp2_with fail
            go_ret
            exact ⟨ret_bool HR.out.symm, hb0⟩

  have hS : S = 2 ∨ S = 3 := by omega
  have HK : Hid (decide (S = 2 ∨ S = 3) = true) := by show _ = _; simpa using hS
  have HV := Lib.hid (vp_2 (S := S) (M := M) (ns := ns) (xs := xs) hS)
  have q0 : (S == 0) = false := by simpa using s0
  have hA : ns.all argB = true → areB ns = true := by intro h; simp only [areB, h, Bool.and_true, decide_eq_true_iff]; omega
  have hA2 : ns.all argB = false → areB ns = false := by intro h; rw [areB, h, Bool.and_false]
  have HB : ns.all argB = false → Hid (vpB S M ns xs = false) := by intro h; show _ = _; rw [HV.out, hA2 h]; rfl
  clear hA2 hS s0 s1
  by_cases hx : xs.length = 0
  · have hx' : ((xs.length : Int) == 0) = true := by simp [hx]
    have HE : ns.all argB = true → Hid (vpB S M ns xs = true) := by intro h; show _ = _; rw [HV.out, hA h]; simp [hx]
    clear hx hA
    go_enter Try.func28, Try.ntmps28
    go_wp2_with (go_at_call 72; refine (keeps_any _ _).mono ?_; rintro e w1 ⟨he, rfl⟩; rw [HK.out] at he; subst he)
    go_loopw [38] (fun i wr => ∃ k : Nat, k ≤ ns.length ∧ i = .int .i64 k ∧ Hid ((ns.take k).all argB = true) ∧ wr = w.alloc (.cells (pC S M A ns.length c A' xs.length c') 50)) (fun i _ => ns.length - (intOf i).toNat)
    case atStart => exact ⟨0, Nat.zero_le _, rfl, by show _ = _; simp, rfl⟩
    case round =>
      obtain ⟨k, hk, rfl, ht, rfl⟩ := hrel
      by_cases hlt : k < ns.length
      · obtain ⟨b, o, rfl, x0⟩ := (ha.below hb0).ints hlt
        have hlt' : (k : Int) < ns.length := by omega
        cases hq : argB ns[k] with
        | true =>
          have HT := Lib.hid (aall_step hlt ht.out hq)
          obtain ⟨g1, g2⟩ := arg_ok hq
          clear hq ht
          go_wp2_with fail
          go_roundw
          case rel => exact ⟨k + 1, by omega, by go_num, HT, trivial⟩
          case measure => simp [intOf]; omega
        | false =>
          have HX := Lib.hid (aall_bad hlt hq)
          have HR := HB HX.out
          rcases arg_no hq with g1 | ⟨g1, g2⟩
          · clear hq ht
            go_wp2_with fail
            go_ret
            exact ⟨ret_bool HR.out.symm, hb0⟩
          · clear hq ht
            go_wp2_with fail
            go_ret
            exact ⟨ret_bool HR.out.symm, hb0⟩
      · have hlt' : ¬ (k : Int) < ns.length := by omega
        have hk' : k = ns.length := by omega
        rw [hk', List.take_length] at ht
        have HR := HE ht.out
        clear hk' ht
        go_wp2_with fail
        go_ret
        exact ⟨ret_bool HR.out.symm, hb0⟩

  · have hx' : ((xs.length : Int) == 0) = false := by simpa using hx
    have HE : ns.all argB = true → Hid (vpB S M ns xs = false) := by intro h; show _ = _; rw [HV.out, hA h]; simp [hx]
    clear hx hA
    go_enter Try.func28, Try.ntmps28
    go_wp2_with (go_at_call 72; refine (keeps_any _ _).mono ?_; rintro e w1 ⟨he, rfl⟩; rw [HK.out] at he; subst he)
    go_loopw [38] (fun i wr => ∃ k : Nat, k ≤ ns.length ∧ i = .int .i64 k ∧ Hid ((ns.take k).all argB = true) ∧ wr = w.alloc (.cells (pC S M A ns.length c A' xs.length c') 50)) (fun i _ => ns.length - (intOf i).toNat)
    case atStart => exact ⟨0, Nat.zero_le _, rfl, by show _ = _; simp, rfl⟩
    case round =>
      obtain ⟨k, hk, rfl, ht, rfl⟩ := hrel
      by_cases hlt : k < ns.length
      · obtain ⟨b, o, rfl, x0⟩ := (ha.below hb0).ints hlt
        have hlt' : (k : Int) < ns.length := by omega
        cases hq : argB ns[k] with
        | true =>
          have HT := Lib.hid (aall_step hlt ht.out hq)
          obtain ⟨g1, g2⟩ := arg_ok hq
          clear hq ht
          go_wp2_with fail
          go_roundw
          case rel => exact ⟨k + 1, by omega, by go_num, HT, trivial⟩
          case measure => simp [intOf]; omega
        | false =>
          have HX := Lib.hid (aall_bad hlt hq)
          have HR := HB HX.out
          rcases arg_no hq with g1 | ⟨g1, g2⟩
          · clear hq ht
            go_wp2_with fail
            go_ret
            exact ⟨ret_bool HR.out.symm, hb0⟩
          · clear hq ht
            go_wp2_with fail
            go_ret
            exact ⟨ret_bool HR.out.symm, hb0⟩
      · have hlt' : ¬ (k : Int) < ns.length := by omega
        have hk' : k = ns.length := by omega
        rw [hk', List.take_length] at ht
        have HR := HE ht.out
        clear hk' ht
        go_wp2_with fail
        go_ret
        exact ⟨ret_bool HR.out.symm, hb0⟩

end Go.Proofs.Ytdmhmelmoobekaa
