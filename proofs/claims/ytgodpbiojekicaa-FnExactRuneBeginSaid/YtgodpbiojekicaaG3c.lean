/- A rune read: the program's way, three bytes. -/
import Derived.Test.YtgodpbiojekicaaG3
namespace Go.Proofs.Ytgodpbiojekicaa
open Go.RowKit
set_option linter.unusedVariables false
set_option maxRecDepth 100000

set_option maxHeartbeats 2000000 in
theorem rr_impl3 (b o c : Nat) (xs : List UInt8) (k : Nat) (x : UInt8) (w : World) (ha : By w (some ⟨b, o, none⟩) xs) (hc : xs.length ≤ c) (h1 : xs.length ≤ 137438953472) (hz2 : (k : Int) ≤ 9223372036854775807) (hk : k < xs.length) (W1 : Hid (withinB k 0 ((xs.length : Int) - 1) = true))
    (hbt : bt xs k = x.toNat) (hcx : w.cell? ⟨b, o + k, none⟩ = some (B x)) (hcell : ∀ i y, xs[i]? = some y → w.cell? ⟨b, o + i, none⟩ = some (B y)) (h256 : (x.toNat : Int) < 256) (hB : 224 ≤ x.toNat ∧ x.toNat ≤ 239) (W2 : Hid (withinB x.toNat 192 223 = false)) (W3 : Hid (withinB x.toNat 224 239 = true)) (hs : szOf (x.toNat : Int) = 3) (hR : rrR xs k = if rrOk xs k 3 (vOf xs k) then (vOf xs k, ((3 : Nat) : Int)) else (0, 0)) :
    Calls Try.prog 21 #[.slice (some ⟨b, o, none⟩) xs.length c, .int .i64 k] w (RrPost w (rrR xs k)) := by
  have hk' : (k : Int) < xs.length := by omega
  by_cases hlen : (xs.length : Int) - k < 3
  · rw [if_neg (fun h => by have := h.1; omega)] at hR
    have HR := Lib.hid hR
    clear hR hs hcell
    go_enter Try.func21, Try.ntmps21
    go_wp2_with (go_at_call 46; refine (within_any _ _ _ _).mono ?_; rintro e w' ⟨he, rfl⟩; (first | rw [W1.out] at he | rw [W2.out] at he | rw [W3.out] at he); subst he)
    go_ret2
    exact rr_ret HR.out (Below.refl _ _)
  obtain ⟨A6, c6, u6, hu6, hc6, hby6, hrun6⟩ := slice_lh_run (some ⟨b, o, none⟩) c k (k + 3) xs .i64 .i64 (by omega) (by omega) hc
  have hwr : IntKind.i64.wrap ((k : Int) + 3) = (k : Int) + 3 := by rw [IntKind.wrap_i64]; omega
  have e1 : ((k + 3 : Nat) : Int) = (k : Int) + 3 := by omega
  rw [e1] at hrun6
  have l6 : u6.length ≤ 3 := by rw [hu6.out]; simp; omega
  have E6 : Hid (u6 = (xs.drop k).take 3) := by show _ = _; rw [hu6.out]; congr 1; omega
  have hlenN : k + 3 ≤ xs.length := by omega
  have HRR := Lib.hid hR
  clear e1 hR
  obtain ⟨y, hy⟩ := get_ex (xs := xs) (k := k + 1) (by omega)
  have hcy := hcell (k + 1) _ hy
  have hby := bt_get hy
  have HY := Lib.hid hy
  have h256y := u8_lt y
  clear hy
  obtain ⟨z, hz⟩ := get_ex (xs := xs) (k := k + 2) (by omega)
  have hcz := hcell (k + 2) _ hz
  have hbz := bt_get hz
  have HZ := Lib.hid hz
  have h256z := u8_lt z
  clear hz
  have hy5 : By w (some ⟨b, o + (k + 1), none⟩) [y, z] := .inr ⟨b, _, rfl, fun i v hi => by
    match i, hi with
    | 0, hi => simp at hi; subst hi; exact hcy
    | 1, hi => simp at hi; subst hi; exact hcz⟩
  have hck : ¬ c = k + 1 := by omega
  have hck0 : ¬ c = k := by omega
  clear hcell
  by_cases hq : y.toNat / 64 = 2 ∧ z.toNat / 64 = 2
  · have HT : Hid (tlV [y, z] = .tuple #[.int .i64 (64 * ((y.toNat : Int) - 128) + ((z.toNat : Int) - 128)), .bool true]) := by
      show _ = _
      rw [tlV, tlR, if_pos hq.1, tlR, if_pos hq.2, tlR]
      simp
      omega
    have HB : Hid (bits .or .i64 (((x.toNat : Int) - 224) * 4096) (64 * ((y.toNat : Int) - 128) + ((z.toNat : Int) - 128)) = vOf xs k) := by
      show _ = _
      rw [vOf_3 (by rw [hbt]; exact hs), v3, hbt, hby, hbz]
      have h := i64_or_nat ((x.toNat - 224) * 4096) (64 * (y.toNat - 128) + (z.toNat - 128)) (by omega) (by omega)
      have e0 : (x.toNat - 224) * 4096 ||| (64 * (y.toNat - 128) + (z.toNat - 128)) = (x.toNat - 224) * 4096 + (64 * (y.toNat - 128) + (z.toNat - 128)) := by
        have h3 := Nat.two_pow_add_eq_or_of_lt (i := 12) (b := 64 * (y.toNat - 128) + (z.toNat - 128)) (by omega) (x.toNat - 224)
        rw [Nat.mul_comm] at h3
        exact h3.symm
      rw [e0, show (((x.toNat - 224) * 4096 : Nat) : Int) = ((x.toNat : Int) - 224) * 4096 by omega, show ((64 * (y.toNat - 128) + (z.toNat - 128) : Nat) : Int) = 64 * ((y.toNat : Int) - 128) + ((z.toNat : Int) - 128) by omega] at h
      rw [h]
      omega
    by_cases hok : rb (vOf xs k) = (xs.drop k).take 3
    · have HOK : Hid ((rb (vOf xs k) == u6) = true) := by show _ = _; rw [E6.out, hok]; simp
      have HR : Hid (rrR xs k = (vOf xs k, 3)) := by show _ = _; rw [HRR.out, if_pos ⟨hlenN, hok⟩]; rfl
      clear hok
      go_enter Try.func21, Try.ntmps21
      go_wp2_with (go_at_call 46; refine (within_any _ _ _ _).mono ?_; rintro e w' ⟨he, rfl⟩; (first | rw [W1.out] at he | rw [W2.out] at he | rw [W3.out] at he); subst he)
      refine (tails_any _ _ [y, z] _ hy5 (by simp)).mono ?_
      rintro e w' ⟨rfl, rfl⟩
      rw [HT.out]
      go_wp2_with fail
      go_region_held3 (fun w' => Below w.heap.size w w') (first | exact Below.drew (Below.refl _ _) | assumption) ((first | (go_at_call 13; refine (runeBytes_impl _ _).mono ?_; rintro e w3 ⟨A3, c3, u3, hu3, rfl, ho3, hb3⟩; have hbw3 : Below w.heap.size w w3 := (Below.drew (Below.refl _ _)).trans hb3; have l3 : u3.length ≤ 3 := (by rw [hu3.out]; exact rb_len _)) | (go_at_call 48; refine (seqEq_any _ _ _ _ u3 u6 _ ho3.by_ (hby6 w3 (ha.below hbw3)) (by omega) (by omega)).mono ?_; rintro e w4 ⟨he, m4, rfl⟩; rw [hu3.out, HB.out, HOK.out] at he; subst he; have hbw4 := below_drewN hbw3 m4)))
      go_wp2_with fail
      go_ret2
      exact rr_ret (by rw [HR.out, HB.out]) (below_drewN hbw3 _)
    · have HOK : Hid ((rb (vOf xs k) == u6) = false) := by show _ = _; rw [E6.out]; exact beq_eq_false_iff_ne.2 hok
      have HR : Hid (rrR xs k = (0, 0)) := by show _ = _; rw [HRR.out, if_neg (fun h => hok h.2)]
      clear hok
      go_enter Try.func21, Try.ntmps21
      go_wp2_with (go_at_call 46; refine (within_any _ _ _ _).mono ?_; rintro e w' ⟨he, rfl⟩; (first | rw [W1.out] at he | rw [W2.out] at he | rw [W3.out] at he); subst he)
      refine (tails_any _ _ [y, z] _ hy5 (by simp)).mono ?_
      rintro e w' ⟨rfl, rfl⟩
      rw [HT.out]
      go_wp2_with fail
      go_region_held3 (fun w' => Below w.heap.size w w') (first | exact Below.drew (Below.refl _ _) | assumption) ((first | (go_at_call 13; refine (runeBytes_impl _ _).mono ?_; rintro e w3 ⟨A3, c3, u3, hu3, rfl, ho3, hb3⟩; have hbw3 : Below w.heap.size w w3 := (Below.drew (Below.refl _ _)).trans hb3; have l3 : u3.length ≤ 3 := (by rw [hu3.out]; exact rb_len _)) | (go_at_call 48; refine (seqEq_any _ _ _ _ u3 u6 _ ho3.by_ (hby6 w3 (ha.below hbw3)) (by omega) (by omega)).mono ?_; rintro e w4 ⟨he, m4, rfl⟩; rw [hu3.out, HB.out, HOK.out] at he; subst he; have hbw4 := below_drewN hbw3 m4)))
      go_wp2_with fail
      go_ret2
      exact rr_ret (by rw [HR.out]) (below_drewN hbw3 _)
  · have HT : Hid (tlV [y, z] = .tuple #[.int .i64 0, .bool false]) := by
      show _ = _
      by_cases hq1 : y.toNat / 64 = 2
      · rw [tlV, tlR, if_pos hq1, tlR, if_neg (fun h => hq ⟨hq1, h⟩)]
      · rw [tlV, tlR, if_neg hq1]
    have HR : Hid (rrR xs k = (0, 0)) := by
      show _ = _
      rw [HRR.out, if_neg]
      intro h
      have h5 := rrOk_3 h
      rw [hbt, hby, hbz] at h5
      omega
    go_enter Try.func21, Try.ntmps21
    go_wp2_with (go_at_call 46; refine (within_any _ _ _ _).mono ?_; rintro e w' ⟨he, rfl⟩; (first | rw [W1.out] at he | rw [W2.out] at he | rw [W3.out] at he); subst he)
    refine (tails_any _ _ [y, z] _ hy5 (by simp)).mono ?_
    rintro e w' ⟨rfl, rfl⟩
    rw [HT.out]
    go_wp2_with fail
    go_quiet (fail)
    go_wp2_with fail
    go_ret2
    exact rr_ret HR.out (below_drewN (Below.refl _ _) _)
end Go.Proofs.Ytgodpbiojekicaa
