/- A rune read: the program's way, two bytes. -/
import Derived.Test.YtgodpbiojekicaaG3
namespace Go.Proofs.Ytgodpbiojekicaa
open Go.RowKit
set_option linter.unusedVariables false
set_option maxRecDepth 100000

set_option maxHeartbeats 2000000 in
theorem rr_impl2 (b o c : Nat) (xs : List UInt8) (k : Nat) (x : UInt8) (w : World) (ha : By w (some ⟨b, o, none⟩) xs) (hc : xs.length ≤ c) (h1 : xs.length ≤ 137438953472) (hz2 : (k : Int) ≤ 9223372036854775807) (hk : k < xs.length) (W1 : Hid (withinB k 0 ((xs.length : Int) - 1) = true))
    (hbt : bt xs k = x.toNat) (hcx : w.cell? ⟨b, o + k, none⟩ = some (B x)) (hcell : ∀ i y, xs[i]? = some y → w.cell? ⟨b, o + i, none⟩ = some (B y)) (h256 : (x.toNat : Int) < 256) (hA : 192 ≤ x.toNat ∧ x.toNat ≤ 223) (W2 : Hid (withinB x.toNat 192 223 = true)) (hs : szOf (x.toNat : Int) = 2) (hR : rrR xs k = if rrOk xs k 2 (vOf xs k) then (vOf xs k, ((2 : Nat) : Int)) else (0, 0)) :
    Calls Try.prog 21 #[.slice (some ⟨b, o, none⟩) xs.length c, .int .i64 k] w (RrPost w (rrR xs k)) := by
  have hk' : (k : Int) < xs.length := by omega
  by_cases hlen : (xs.length : Int) - k < 2
  · rw [if_neg (fun h => by have := h.1; omega)] at hR
    have HR := Lib.hid hR
    clear hR hs hcell
    go_enter Try.func21, Try.ntmps21
    go_wp2_with (go_at_call 46; refine (within_any _ _ _ _).mono ?_; rintro e w' ⟨he, rfl⟩; (first | rw [W1.out] at he | rw [W2.out] at he); subst he)
    go_ret2
    exact rr_ret HR.out (Below.refl _ _)
  obtain ⟨A6, c6, u6, hu6, hc6, hby6, hrun6⟩ := slice_lh_run (some ⟨b, o, none⟩) c k (k + 2) xs .i64 .i64 (by omega) (by omega) hc
  have hwr : IntKind.i64.wrap ((k : Int) + 2) = (k : Int) + 2 := by rw [IntKind.wrap_i64]; omega
  have e1 : ((k + 2 : Nat) : Int) = (k : Int) + 2 := by omega
  rw [e1] at hrun6
  have l6 : u6.length ≤ 3 := by rw [hu6.out]; simp; omega
  have E6 : Hid (u6 = (xs.drop k).take 2) := by show _ = _; rw [hu6.out]; congr 1; omega
  have hlenN : k + 2 ≤ xs.length := by omega
  have HRR := Lib.hid hR
  clear e1 hR
  obtain ⟨y, hy⟩ := get_ex (xs := xs) (k := k + 1) (by omega)
  have hcy := hcell (k + 1) _ hy
  have hby := bt_get hy
  have HY := Lib.hid hy
  have h256y := u8_lt y
  clear hy
  have hy5 : By w (some ⟨b, o + (k + 1), none⟩) [y] := .inr ⟨b, _, rfl, fun i v hi => by
    match i, hi with
    | 0, hi => simp at hi; subst hi; exact hcy⟩
  have hck : ¬ c = k + 1 := by omega
  have hck0 : ¬ c = k := by omega
  clear hcell
  by_cases hq : y.toNat / 64 = 2
  · have HT : Hid (tlV [y] = .tuple #[.int .i64 ((y.toNat : Int) - 128), .bool true]) := by
      show _ = _
      rw [tlV, tlR, if_pos hq, tlR]
      simp
      omega
    have HB : Hid (bits .or .i64 (((x.toNat : Int) - 192) * 64) ((y.toNat : Int) - 128) = vOf xs k) := by
      show _ = _
      rw [vOf_2 (by rw [hbt]; exact hs), v2, hbt, hby]
      have h := i64_or_nat ((x.toNat - 192) * 64) (y.toNat - 128) (by omega) (by omega)
      have e0 : (x.toNat - 192) * 64 ||| (y.toNat - 128) = (x.toNat - 192) * 64 + (y.toNat - 128) := by
        have h3 := Nat.two_pow_add_eq_or_of_lt (i := 6) (b := y.toNat - 128) (by omega) (x.toNat - 192)
        rw [Nat.mul_comm] at h3
        exact h3.symm
      rw [e0, show (((x.toNat - 192) * 64 : Nat) : Int) = ((x.toNat : Int) - 192) * 64 by omega, show ((y.toNat - 128 : Nat) : Int) = (y.toNat : Int) - 128 by omega] at h
      rw [h]
      omega
    by_cases hok : rb (vOf xs k) = (xs.drop k).take 2
    · have HOK : Hid ((rb (vOf xs k) == u6) = true) := by show _ = _; rw [E6.out, hok]; simp
      have HR : Hid (rrR xs k = (vOf xs k, 2)) := by show _ = _; rw [HRR.out, if_pos ⟨hlenN, hok⟩]; rfl
      clear hok
      go_enter Try.func21, Try.ntmps21
      go_wp2_with (go_at_call 46; refine (within_any _ _ _ _).mono ?_; rintro e w' ⟨he, rfl⟩; (first | rw [W1.out] at he | rw [W2.out] at he); subst he)
      refine (tails_any _ _ [y] _ hy5 (by simp)).mono ?_
      rintro e w' ⟨rfl, rfl⟩
      rw [HT.out]
      go_wp2_with fail
      go_region_held3 (fun w' => Below w.heap.size w w') (first | exact Below.drew (Below.refl _ _) | assumption) ((first | (go_at_call 13; refine (runeBytes_impl _ _).mono ?_; rintro e w3 ⟨A3, c3, u3, hu3, rfl, ho3, hb3⟩; have hbw3 : Below w.heap.size w w3 := (Below.drew (Below.refl _ _)).trans hb3; have l3 : u3.length ≤ 3 := (by rw [hu3.out]; exact rb_len _)) | (go_at_call 48; refine (seqEq_any _ _ _ _ u3 u6 _ ho3.by_ (hby6 w3 (ha.below hbw3)) (by omega) (by omega)).mono ?_; rintro e w4 ⟨he, m4, rfl⟩; rw [hu3.out, HB.out, HOK.out] at he; subst he; have hbw4 := below_drewN hbw3 m4)))
      go_wp2_with fail
      go_ret2
      exact rr_ret (by rw [HR.out, HB.out]) (below_drewN hbw3 _)
    · have HOK : Hid ((rb (vOf xs k) == u6) = false) := by show _ = _; rw [E6.out]; exact beq_eq_false_iff_ne.2 hok
      have HR : Hid (rrR xs k = (0, 0)) := by show _ = _; rw [HRR.out, if_neg (fun h => hok h.2)]
      clear hok
      go_enter Try.func21, Try.ntmps21
      go_wp2_with (go_at_call 46; refine (within_any _ _ _ _).mono ?_; rintro e w' ⟨he, rfl⟩; (first | rw [W1.out] at he | rw [W2.out] at he); subst he)
      refine (tails_any _ _ [y] _ hy5 (by simp)).mono ?_
      rintro e w' ⟨rfl, rfl⟩
      rw [HT.out]
      go_wp2_with fail
      go_region_held3 (fun w' => Below w.heap.size w w') (first | exact Below.drew (Below.refl _ _) | assumption) ((first | (go_at_call 13; refine (runeBytes_impl _ _).mono ?_; rintro e w3 ⟨A3, c3, u3, hu3, rfl, ho3, hb3⟩; have hbw3 : Below w.heap.size w w3 := (Below.drew (Below.refl _ _)).trans hb3; have l3 : u3.length ≤ 3 := (by rw [hu3.out]; exact rb_len _)) | (go_at_call 48; refine (seqEq_any _ _ _ _ u3 u6 _ ho3.by_ (hby6 w3 (ha.below hbw3)) (by omega) (by omega)).mono ?_; rintro e w4 ⟨he, m4, rfl⟩; rw [hu3.out, HB.out, HOK.out] at he; subst he; have hbw4 := below_drewN hbw3 m4)))
      go_wp2_with fail
      go_ret2
      exact rr_ret (by rw [HR.out]) (below_drewN hbw3 _)
  · have HT : Hid (tlV [y] = .tuple #[.int .i64 0, .bool false]) := by
      show _ = _
      rw [tlV, tlR, if_neg hq]
    have HR : Hid (rrR xs k = (0, 0)) := by
      show _ = _
      rw [HRR.out, if_neg]
      intro h
      have h5 := rrOk_2 h
      rw [hbt, hby] at h5
      omega
    go_enter Try.func21, Try.ntmps21
    go_wp2_with (go_at_call 46; refine (within_any _ _ _ _).mono ?_; rintro e w' ⟨he, rfl⟩; (first | rw [W1.out] at he | rw [W2.out] at he); subst he)
    refine (tails_any _ _ [y] _ hy5 (by simp)).mono ?_
    rintro e w' ⟨rfl, rfl⟩
    rw [HT.out]
    go_wp2_with fail
    go_quiet (fail)
    go_wp2_with fail
    go_ret2
    exact rr_ret HR.out (below_drewN (Below.refl _ _) _)
end Go.Proofs.Ytgodpbiojekicaa
