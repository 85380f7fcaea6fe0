/- A rune read: the program's way, one byte. -/
import Derived.Test.YtgodpbiojekicaaG3
namespace Go.Proofs.Ytgodpbiojekicaa
open Go.RowKit
set_option linter.unusedVariables false
set_option maxRecDepth 100000

set_option maxHeartbeats 2000000 in
theorem rr_impl1 (b o c : Nat) (xs : List UInt8) (k : Nat) (x : UInt8) (w : World) (ha : By w (some ⟨b, o, none⟩) xs) (hc : xs.length ≤ c) (h1 : xs.length ≤ 137438953472) (hz2 : (k : Int) ≤ 9223372036854775807) (hk : k < xs.length) (W1 : Hid (withinB k 0 ((xs.length : Int) - 1) = true))
    (hbt : bt xs k = x.toNat) (hcx : w.cell? ⟨b, o + k, none⟩ = some (B x)) (hcell : ∀ i y, xs[i]? = some y → w.cell? ⟨b, o + i, none⟩ = some (B y)) (h256 : (x.toNat : Int) < 256) (hA : ¬ (192 ≤ x.toNat ∧ x.toNat ≤ 223)) (hB : ¬ (224 ≤ x.toNat ∧ x.toNat ≤ 239)) (W2 : Hid (withinB x.toNat 192 223 = false)) (W3 : Hid (withinB x.toNat 224 239 = false)) (hs : szOf (x.toNat : Int) = 1) (hR : rrR xs k = if rrOk xs k 1 (vOf xs k) then (vOf xs k, ((1 : Nat) : Int)) else (0, 0)) :
    Calls Try.prog 21 #[.slice (some ⟨b, o, none⟩) xs.length c, .int .i64 k] w (RrPost w (rrR xs k)) := by
  have hk' : (k : Int) < xs.length := by omega
  by_cases hcc : c = k + 1
  · subst hcc
    by_cases hlen : (xs.length : Int) - k < 1
    · rw [if_neg (fun h => by have := h.1; omega)] at hR
      have HR := Lib.hid hR
      clear hR hs hcell
      go_enter Try.func21, Try.ntmps21
      go_wp2_with (go_at_call 46; refine (within_any _ _ _ _).mono ?_; rintro e w' ⟨he, rfl⟩; (first | rw [W1.out] at he | rw [W2.out] at he | rw [W3.out] at he); subst he)
      go_ret2
      exact rr_ret HR.out (Below.refl _ _)
    obtain ⟨A6, c6, u6, hu6, hc6, hby6, hrun6⟩ := slice_lh_run (some ⟨b, o, none⟩) (k + 1) k (k + 1) xs .i64 .i64 (by omega) (by omega) hc
    have hwr : IntKind.i64.wrap ((k : Int) + 1) = (k : Int) + 1 := by rw [IntKind.wrap_i64]; omega
    have e1 : ((k + 1 : Nat) : Int) = (k : Int) + 1 := by omega
    rw [e1] at hrun6
    have l6 : u6.length ≤ 3 := by rw [hu6.out]; simp; omega
    have E6 : Hid (u6 = (xs.drop k).take 1) := by show _ = _; rw [hu6.out]; congr 1; omega
    have hlenN : k + 1 ≤ xs.length := by omega
    have HRR := Lib.hid hR
    clear e1 hR
    have hy5 : By w (some ⟨b, o + (k + 1), none⟩) [] := .inl rfl
    have hck : True := trivial
    have hck0 : ¬ k + 1 = k := by omega
    clear hcell
    have HT : Hid (tlV [] = .tuple #[.int .i64 0, .bool true]) := rfl
    have HB : Hid (bits .or .i64 ((x.toNat : Int)) (0) = vOf xs k) := by
      show _ = _
      rw [vOf_1 (by rw [hbt]; exact hs), v1, hbt]
      have h := i64_or_nat x.toNat 0 (by omega) (by omega)
      simpa using h
    by_cases hok : rb (vOf xs k) = (xs.drop k).take 1
    · have HOK : Hid ((rb (vOf xs k) == u6) = true) := by show _ = _; rw [E6.out, hok]; simp
      have HR : Hid (rrR xs k = (vOf xs k, 1)) := by show _ = _; rw [HRR.out, if_pos ⟨hlenN, hok⟩]; rfl
      clear hok
      go_enter Try.func21, Try.ntmps21
      go_wp2_with (go_at_call 46; refine (within_any _ _ _ _).mono ?_; rintro e w' ⟨he, rfl⟩; (first | rw [W1.out] at he | rw [W2.out] at he | rw [W3.out] at he); subst he)
      refine (tails_any _ _ [] _ (.inl rfl) (by simp)).mono ?_
      rintro e w' ⟨rfl, rfl⟩
      rw [HT.out]
      go_wp2_with fail
      go_region_held3 (fun w' => Below w.heap.size w w') (first | exact Below.drew (Below.refl _ _) | assumption) ((first | (go_at_call 13; refine (runeBytes_impl _ _).mono ?_; rintro e w3 ⟨A3, c3, u3, hu3, rfl, ho3, hb3⟩; have hbw3 : Below w.heap.size w w3 := (Below.drew (Below.refl _ _)).trans hb3; have l3 : u3.length ≤ 3 := (by rw [hu3.out]; exact rb_len _)) | (go_at_call 48; refine (seqEq_any _ _ _ _ u3 u6 _ ho3.by_ (hby6 w3 (ha.below hbw3)) (by omega) (by omega)).mono ?_; rintro e w4 ⟨he, m4, rfl⟩; rw [hu3.out, HB.out, HOK.out] at he; subst he; have hbw4 := below_drewN hbw3 m4)))
      go_wp2_with fail
      go_ret2
      exact rr_ret (by rw [HR.out, HB.out]) (below_drewN hbw3 _)
    · have HOK : Hid ((rb (vOf xs k) == u6) = false) := by show _ = _; rw [E6.out]; exact beq_eq_false_iff_ne.2 hok
      have HR : Hid (rrR xs k = (0, 0)) := by show _ = _; rw [HRR.out, if_neg (fun h => hok h.2)]
      clear hok
      go_enter Try.func21, Try.ntmps21
      go_wp2_with (go_at_call 46; refine (within_any _ _ _ _).mono ?_; rintro e w' ⟨he, rfl⟩; (first | rw [W1.out] at he | rw [W2.out] at he | rw [W3.out] at he); subst he)
      refine (tails_any _ _ [] _ (.inl rfl) (by simp)).mono ?_
      rintro e w' ⟨rfl, rfl⟩
      rw [HT.out]
      go_wp2_with fail
      go_region_held3 (fun w' => Below w.heap.size w w') (first | exact Below.drew (Below.refl _ _) | assumption) ((first | (go_at_call 13; refine (runeBytes_impl _ _).mono ?_; rintro e w3 ⟨A3, c3, u3, hu3, rfl, ho3, hb3⟩; have hbw3 : Below w.heap.size w w3 := (Below.drew (Below.refl _ _)).trans hb3; have l3 : u3.length ≤ 3 := (by rw [hu3.out]; exact rb_len _)) | (go_at_call 48; refine (seqEq_any _ _ _ _ u3 u6 _ ho3.by_ (hby6 w3 (ha.below hbw3)) (by omega) (by omega)).mono ?_; rintro e w4 ⟨he, m4, rfl⟩; rw [hu3.out, HB.out, HOK.out] at he; subst he; have hbw4 := below_drewN hbw3 m4)))
      go_wp2_with fail
      go_ret2
      exact rr_ret (by rw [HR.out]) (below_drewN hbw3 _)
  · have hcc2 : ¬ (c : Int) = k + 1 := by omega
    by_cases hlen : (xs.length : Int) - k < 1
    · rw [if_neg (fun h => by have := h.1; omega)] at hR
      have HR := Lib.hid hR
      clear hR hs hcell
      go_enter Try.func21, Try.ntmps21
      go_wp2_with (go_at_call 46; refine (within_any _ _ _ _).mono ?_; rintro e w' ⟨he, rfl⟩; (first | rw [W1.out] at he | rw [W2.out] at he | rw [W3.out] at he); subst he)
      go_ret2
      exact rr_ret HR.out (Below.refl _ _)
    obtain ⟨A6, c6, u6, hu6, hc6, hby6, hrun6⟩ := slice_lh_run (some ⟨b, o, none⟩) c k (k + 1) xs .i64 .i64 (by omega) (by omega) hc
    have hwr : IntKind.i64.wrap ((k : Int) + 1) = (k : Int) + 1 := by rw [IntKind.wrap_i64]; omega
    have e1 : ((k + 1 : Nat) : Int) = (k : Int) + 1 := by omega
    rw [e1] at hrun6
    have l6 : u6.length ≤ 3 := by rw [hu6.out]; simp; omega
    have E6 : Hid (u6 = (xs.drop k).take 1) := by show _ = _; rw [hu6.out]; congr 1; omega
    have hlenN : k + 1 ≤ xs.length := by omega
    have HRR := Lib.hid hR
    clear e1 hR
    have hy5 : By w (some ⟨b, o + (k + 1), none⟩) [] := .inl rfl
    have hck : True := trivial
    have hck0 : ¬ c = k := by omega
    clear hcell
    have HT : Hid (tlV [] = .tuple #[.int .i64 0, .bool true]) := rfl
    have HB : Hid (bits .or .i64 ((x.toNat : Int)) (0) = vOf xs k) := by
      show _ = _
      rw [vOf_1 (by rw [hbt]; exact hs), v1, hbt]
      have h := i64_or_nat x.toNat 0 (by omega) (by omega)
      simpa using h
    by_cases hok : rb (vOf xs k) = (xs.drop k).take 1
    · have HOK : Hid ((rb (vOf xs k) == u6) = true) := by show _ = _; rw [E6.out, hok]; simp
      have HR : Hid (rrR xs k = (vOf xs k, 1)) := by show _ = _; rw [HRR.out, if_pos ⟨hlenN, hok⟩]; rfl
      clear hok
      go_enter Try.func21, Try.ntmps21
      go_wp2_with (go_at_call 46; refine (within_any _ _ _ _).mono ?_; rintro e w' ⟨he, rfl⟩; (first | rw [W1.out] at he | rw [W2.out] at he | rw [W3.out] at he); subst he)
      refine (tails_any _ _ [] _ (.inl rfl) (by simp)).mono ?_
      rintro e w' ⟨rfl, rfl⟩
      rw [HT.out]
      go_wp2_with fail
      go_region_held3 (fun w' => Below w.heap.size w w') (first | exact Below.drew (Below.refl _ _) | assumption) ((first | (go_at_call 13; refine (runeBytes_impl _ _).mono ?_; rintro e w3 ⟨A3, c3, u3, hu3, rfl, ho3, hb3⟩; have hbw3 : Below w.heap.size w w3 := (Below.drew (Below.refl _ _)).trans hb3; have l3 : u3.length ≤ 3 := (by rw [hu3.out]; exact rb_len _)) | (go_at_call 48; refine (seqEq_any _ _ _ _ u3 u6 _ ho3.by_ (hby6 w3 (ha.below hbw3)) (by omega) (by omega)).mono ?_; rintro e w4 ⟨he, m4, rfl⟩; rw [hu3.out, HB.out, HOK.out] at he; subst he; have hbw4 := below_drewN hbw3 m4)))
      go_wp2_with fail
      go_ret2
      exact rr_ret (by rw [HR.out, HB.out]) (below_drewN hbw3 _)
    · have HOK : Hid ((rb (vOf xs k) == u6) = false) := by show _ = _; rw [E6.out]; exact beq_eq_false_iff_ne.2 hok
      have HR : Hid (rrR xs k = (0, 0)) := by show _ = _; rw [HRR.out, if_neg (fun h => hok h.2)]
      clear hok
      go_enter Try.func21, Try.ntmps21
      go_wp2_with (go_at_call 46; refine (within_any _ _ _ _).mono ?_; rintro e w' ⟨he, rfl⟩; (first | rw [W1.out] at he | rw [W2.out] at he | rw [W3.out] at he); subst he)
      refine (tails_any _ _ [] _ (.inl rfl) (by simp)).mono ?_
      rintro e w' ⟨rfl, rfl⟩
      rw [HT.out]
      go_wp2_with fail
      go_region_held3 (fun w' => Below w.heap.size w w') (first | exact Below.drew (Below.refl _ _) | assumption) ((first | (go_at_call 13; refine (runeBytes_impl _ _).mono ?_; rintro e w3 ⟨A3, c3, u3, hu3, rfl, ho3, hb3⟩; have hbw3 : Below w.heap.size w w3 := (Below.drew (Below.refl _ _)).trans hb3; have l3 : u3.length ≤ 3 := (by rw [hu3.out]; exact rb_len _)) | (go_at_call 48; refine (seqEq_any _ _ _ _ u3 u6 _ ho3.by_ (hby6 w3 (ha.below hbw3)) (by omega) (by omega)).mono ?_; rintro e w4 ⟨he, m4, rfl⟩; rw [hu3.out, HB.out, HOK.out] at he; subst he; have hbw4 := below_drewN hbw3 m4)))
      go_wp2_with fail
      go_ret2
      exact rr_ret (by rw [HR.out]) (below_drewN hbw3 _)
end Go.Proofs.Ytgodpbiojekicaa
