/- The laws of RuneRead and RuneBegin. -/
import Derived.Test.YtdmhmelmoobekaaG6
import Derived.Test.YtdmhmelmoobekaaG3m
import Derived.Test.YtdmhmelmoobekaaG4
namespace Go.Proofs.Ytdmhmelmoobekaa
open Go.RowKit
set_option linter.unusedVariables false
set_option maxRecDepth 100000

theorem Ob.empty {w : World} : Ob (w.alloc (.cells #[] 5)) w.heap.size (some ⟨w.heap.size, 0, none⟩) 0 [] :=
  ⟨rfl, .inr ⟨w.heap.size, 0, #[], (0, 0), rfl, Nat.le_refl _, heap_alloc_new _ _, .inl rfl, Nat.le_refl _, Nat.zero_le _, rfl, rfl⟩⟩
theorem rr_eq {r : Int × Int} {a b a' b' : Int} (h : r = (a, b)) (h' : r = (a', b')) : a = a' ∧ b = b' := by
  rw [h] at h'
  simpa using h'
theorem bgR_long {xs : List UInt8} (h : xs.length = 0 ∨ 2 < xs.length) : bgR xs = false := by
  match xs, h with
  | [], _ => rfl
  | [a], h => simp at h
  | [a, b], h => simp at h
  | _ :: _ :: _ :: _, _ => rfl
theorem bgR_iff {xs : List UInt8} (h1 : 1 ≤ xs.length) (h2 : xs.length ≤ 2) : bgR xs = true ↔ ∃ x, 128 ≤ x ∧ x < 192 ∧ BgP xs x := by
  match xs, h1, h2 with
  | [a], _, _ => exact bg_one
  | [a, b], _, _ => exact bg_two
theorem tlV_yes {y : UInt8} (hq : y.toNat / 64 = 2) : tlV [y] = .tuple #[.int .i64 ((y.toNat : Int) - 128), .bool true] := by
  rw [tlV, tlR, if_pos hq, tlR]
  simp
  omega
theorem tlV_no {y : UInt8} (hq : ¬ y.toNat / 64 = 2) : tlV [y] = .tuple #[.int .i64 0, .bool false] := by rw [tlV, tlR, if_neg hq]
theorem bgR_2 {a y : UInt8} (hq : y.toNat / 64 = 2) (h2 : 224 ≤ a.toNat) (h3 : 2048 ≤ ((a.toNat : Int) - 224) * 4096 + ((y.toNat : Int) - 128) * 64) : bgR [a, y] = showsB (((a.toNat : Int) - 224) * 4096 + ((y.toNat : Int) - 128) * 64) := by
  have e : ((y.toNat % 64 : Nat) : Int) = (y.toNat : Int) - 128 := by omega
  rw [bgR, e, decide_eq_true ⟨hq, h2, h3⟩, Bool.true_and]
theorem bgR_2no {a y : UInt8} (h : ¬ (y.toNat / 64 = 2 ∧ 224 ≤ a.toNat ∧ 2048 ≤ ((a.toNat : Int) - 224) * 4096 + ((y.toNat : Int) - 128) * 64)) : bgR [a, y] = false := by
  by_cases hq : y.toNat / 64 = 2
  · have e : ((y.toNat % 64 : Nat) : Int) = (y.toNat : Int) - 128 := by omega
    rw [bgR, e, decide_eq_false h, Bool.false_and]
  · rw [bgR, decide_eq_false (fun h => hq h.1), Bool.false_and]
set_option maxHeartbeats 1000000 in
theorem runeBegin_impl (A : Option Addr) (c : Nat) (xs : List UInt8) (w : World) (ha : By w A xs) (hc : xs.length ≤ c) (h1 : xs.length ≤ 137438953472) :
    Calls Try.prog 76 #[.slice A xs.length c] w fun e w' => e = .returned (.bool (bgR xs)) ∧ Below w.heap.size w w' := by
  match xs, ha, hc, h1 with
  | [], ha, hc, _ =>
    go_enter Try.func76, Try.ntmps76
    go_wp2_with fail
    go_ret
    exact ⟨rfl, Below.refl _ _⟩
  | [a], ha, hc, _ =>
    obtain ⟨b, o, rfl, hcell⟩ := ha.pos (by simp)
    have hcx : w.cell? ⟨b, o, none⟩ = some (B a) := by simpa using hcell 0 a rfl
    have h256 := u8_lt a
    have HR : Hid (bgR [a] = withinB a.toNat 194 239) := by
      show _ = _
      rw [Bool.eq_iff_iff]
      simp [bgR, withinB]
      omega
    clear hcell
    go_enter Try.func76, Try.ntmps76
    go_wp2_with (go_at_call 86; refine (within_any _ _ _ _).mono ?_; rintro e w' ⟨rfl, rfl⟩)
    go_ret
    exact ⟨ret_bool HR.out.symm, Below.refl _ _⟩
  | [a, y], ha, hc, _ =>
    obtain ⟨b, o, rfl, hcell⟩ := ha.pos (by simp)
    have hcx : w.cell? ⟨b, o, none⟩ = some (B a) := by simpa using hcell 0 a rfl
    have hcy : w.cell? ⟨b, o + 1, none⟩ = some (B y) := hcell 1 y rfl
    have h256 := u8_lt a
    have h256y := u8_lt y
    have hy5 : By w (some ⟨b, o + 1, none⟩) [y] := .inr ⟨b, _, rfl, fun i v hi => by
      match i, hi with
      | 0, hi => simp at hi; subst hi; exact hcy⟩
    have hc1 : ¬ c = 1 := by simp at hc; omega
    clear hcell
    by_cases hq : y.toNat / 64 = 2
    · have HT := Lib.hid (tlV_yes hq)
      by_cases h2 : 224 ≤ a.toNat
      · have h2' : (224 : Int) ≤ a.toNat := by omega
        by_cases h3 : 2048 ≤ ((a.toNat : Int) - 224) * 4096 + ((y.toNat : Int) - 128) * 64
        · have HR := Lib.hid (bgR_2 hq h2 h3)
          go_enter Try.func76, Try.ntmps76
          go_wp2_with (first | (go_at_call 116; refine (tails_any _ _ [y] _ hy5 (by simp)).mono ?_; rintro e w' ⟨he, rfl⟩; rw [HT.out] at he; subst he) | (go_at_call 117; refine (shows_impl _ _).mono ?_; rintro e w' ⟨rfl, rfl⟩))
          go_ret
          exact ⟨ret_bool HR.out.symm, Below.refl _ _⟩
        · have HR := Lib.hid (bgR_2no (a := a) (y := y) (fun h => h3 h.2.2))
          go_enter Try.func76, Try.ntmps76
          go_wp2_with (first | (go_at_call 116; refine (tails_any _ _ [y] _ hy5 (by simp)).mono ?_; rintro e w' ⟨he, rfl⟩; rw [HT.out] at he; subst he))
          go_ret
          exact ⟨ret_bool HR.out.symm, Below.refl _ _⟩
      · have h2' : ¬ (224 : Int) ≤ a.toNat := by omega
        have HR := Lib.hid (bgR_2no (a := a) (y := y) (fun h => h2 h.2.1))
        go_enter Try.func76, Try.ntmps76
        go_wp2_with (first | (go_at_call 116; refine (tails_any _ _ [y] _ hy5 (by simp)).mono ?_; rintro e w' ⟨he, rfl⟩; rw [HT.out] at he; subst he))
        go_ret
        exact ⟨ret_bool HR.out.symm, Below.refl _ _⟩
    · have HT := Lib.hid (tlV_no hq)
      have HR := Lib.hid (bgR_2no (a := a) (y := y) (fun h => hq h.1))
      go_enter Try.func76, Try.ntmps76
      go_wp2_with (first | (go_at_call 116; refine (tails_any _ _ [y] _ hy5 (by simp)).mono ?_; rintro e w' ⟨he, rfl⟩; rw [HT.out] at he; subst he))
      go_ret
      exact ⟨ret_bool HR.out.symm, Below.refl _ _⟩
  | a :: y :: v :: r, ha, hc, _ =>
    have HR : Hid (bgR (a :: y :: v :: r) = false) := rfl
    go_enter Try.func76, Try.ntmps76
    go_wp2_with fail
    go_ret
    exact ⟨ret_bool HR.out.symm, Below.refl _ _⟩
set_option maxHeartbeats 2000000 in
theorem runeBegin_spec (A : Option Addr) (c : Nat) (xs : List UInt8) (w : World) (ha : By w A xs) (hc : xs.length ≤ c) (h1 : xs.length ≤ 137438953472) :
    Calls Try.prog 73 #[.slice A xs.length c] w fun e w' => e = .returned (.bool (bgR xs)) ∧ Below w.heap.size w w' := by
  by_cases hl1 : (xs.length : Int) < 1
  · have HR := Lib.hid (bgR_long (xs := xs) (.inl (by omega)))
    go_enter Try.func73, Try.ntmps73
    go_wp2_with fail
    go_ret
    exact ⟨ret_bool HR.out.symm, Below.refl _ _⟩
  by_cases hl2 : (2 : Int) < xs.length
  · have HR := Lib.hid (bgR_long (xs := xs) (.inr (by omega)))
    go_enter Try.func73, Try.ntmps73
    go_wp2_with fail
    go_ret
    exact ⟨ret_bool HR.out.symm, Below.refl _ _⟩
  have HI := Lib.hid (bgR_iff (xs := xs) (by omega) (by omega))
  go_enter Try.func73, Try.ntmps73
  go_wp2_with fail
  go_loopw [3] (fun xv wr => ∃ x : Nat, 128 ≤ x ∧ x ≤ 192 ∧ xv = .int .i64 x ∧ Hid (∀ t, 128 ≤ t → t < x → ¬ BgP xs t) ∧ Below w.heap.size w wr) (fun xv _ => 192 - (intOf xv).toNat)
  case atStart => exact ⟨128, by omega, by omega, rfl, fun t t1 t2 => by omega, Below.refl _ _⟩
  case round =>
    obtain ⟨x, hx1, hx2, rfl, hno, hb⟩ := hrel
    have zb := hb.size
    by_cases hlt : x < 192
    · have hlt' : (x : Int) < 192 := by omega
      have hbox : Below wr.heap.size wr (wr.alloc (.cells #[] 5)) := (Below.refl _ _).alloc (Nat.le_refl _) _
      have HXY : Hid ((x : Int) = ((UInt8.ofNat x).toNat : Int)) := by show _ = _; rw [of_small (by omega)]
      go_wp2_with (first
        | (at_builtin; refine wp_appN rfl _ _ rfl wr.heap.size _ _ [] _ _ _ xs Ob.empty ((ha.below hb).below hbox) rfl rfl (by simp) (by omega) (by simp) ?_; intro A2 c2 w2 u2 hu2 ho2 hb2; have z2 := (hbox.trans hb2).size; have l2 : u2.length ≤ 2 := (by rw [hu2.out]; simp; omega))
        | (at_builtin; refine wp_app1 rfl _ _ rfl wr.heap.size _ _ u2 _ _ (UInt8.ofNat x) ho2 rfl HXY.out rfl (by omega) (by omega) ?_; intro A3 c3 w3 u3 hu3 ho3 hb3))
      have hb13 := (hbox.trans hb2).trans hb3
      have z3 := hb13.size
      have e3 : u3 = xs ++ [UInt8.ofNat x] := by rw [hu3.out, hu2.out]; simp
      have l3 : u3.length = xs.length + 1 := by rw [e3]; simp
      have E3 := Lib.hid e3
      have L3 := Lib.hid l3
      have l3' : u3.length ≤ 3 := by omega
      clear e3 l3
      refine (runeRead_spec _ _ u3 0 _ ho3.by_ ho3.le_cap (by omega) (by omega) (by omega)).mono ?_
      rintro e w4 ⟨a4, b4, hr4, rfl, hb4⟩
      have hb14 := hb13.trans (hb4.mono z3)
      have z4 := hb14.size
      have hbw4 := hb.trans (hb14.mono zb)
      have hq4 : (rrR (xs ++ [UInt8.ofNat x]) 0).2 = b4 := by rw [← E3.out, hr4.out]
      have HQ4 := Lib.hid hq4
      clear hq4
      by_cases hP1 : b4 = ((xs.length + 1 : Nat) : Int)
      · have hq : (b4 == (u3.length : Int)) = true := by rw [L3.out, hP1]; simp
        have HR : Hid (bgR xs = true) := HI.out.2 ⟨x, hx1, hlt, .inl (by rw [HQ4.out, hP1])⟩
        clear hP1
        go_wp2_with fail
        go_ret
        exact ⟨ret_bool HR.out.symm, hbw4⟩
      · have hq : (b4 == (u3.length : Int)) = false := by rw [L3.out]; simp; omega
        by_cases hone : xs.length = 1
        · have hone' : ((xs.length : Int) == 1) = true := by rw [hone]; rfl
          have HO := Lib.hid hone
          clear hone
          have hbox4 : Below wr.heap.size w4 (w4.alloc (.cells #[] 5)) := (Below.refl _ _).alloc z4 _
          have ho43 := ho3.below hb4 (Nat.le_refl _)
          go_wp2_with (first
            | (at_builtin; refine wp_appN rfl _ _ rfl w4.heap.size _ _ [] _ _ _ u3 Ob.empty ((ho3.by_.below hb4).below ((Below.refl _ _).alloc (Nat.le_refl _) _)) rfl rfl (by simp) (by omega) (by simp) ?_; intro A5 c5 w5 u5 hu5 ho5 hb5; have z5 := (((Below.refl w4.heap.size w4).alloc (Nat.le_refl _) (.cells #[] 5)).trans hb5).size; have l5 : u5.length ≤ 3 := (by rw [hu5.out]; simp; omega))
            | (at_builtin; refine wp_app1 rfl _ _ rfl w4.heap.size _ _ u5 _ _ 129 ho5 rfl rfl rfl (by omega) (by omega) ?_; intro A6 c6 w6 u6 hu6 ho6 hb6))
          have hb46 := (((Below.refl w4.heap.size w4).alloc (Nat.le_refl _) (.cells #[] 5)).trans hb5).trans hb6
          have z6 := hb46.size
          have E6 : Hid (u6 = xs ++ [UInt8.ofNat x] ++ [129]) := by show _ = _; rw [hu6.out, hu5.out, E3.out]; simp
          have l6 : u6.length ≤ 4 := by rw [hu6.out]; simp; omega
          refine (runeRead_spec _ _ u6 0 _ ho6.by_ ho6.le_cap (by omega) (by omega) (by omega)).mono ?_
          rintro e w7 ⟨a7, b7, hr7, rfl, hb7⟩
          have hbw7 := hbw4.trans ((hb46.trans (hb7.mono z6)).mono (by omega))
          have hq7 : (rrR (xs ++ [UInt8.ofNat x] ++ [129]) 0).2 = b7 := by rw [← E6.out, hr7.out]
          have HQ7 := Lib.hid hq7
          clear hq7
          by_cases hP2 : b7 = 3
          · have hq2 : (b7 == 3) = true := by rw [hP2]; rfl
            have HR : Hid (bgR xs = true) := HI.out.2 ⟨x, hx1, hlt, .inr ⟨HO.out, by rw [HQ7.out, hP2]; rfl⟩⟩
            clear hP2
            go_wp2_with fail
            go_ret
            exact ⟨ret_bool HR.out.symm, hbw7⟩
          · have hq2 : (b7 == 3) = false := by simpa using hP2
            have hno2 : Hid (∀ t, 128 ≤ t → t < x + 1 → ¬ BgP xs t) := by
              intro t t1 t2 h
              by_cases ht : t < x
              · exact hno.out t t1 ht h
              · obtain rfl : t = x := by omega
                rcases h with h | ⟨_, h⟩
                · exact hP1 (by rw [← HQ4.out, h])
                · exact hP2 (by rw [← HQ7.out, h]; rfl)
            clear hP1 hP2
            go_wp2_with fail
            go_roundw
            case rel => exact ⟨x + 1, by omega, by omega, by go_num, hno2, hbw7⟩
            case measure => simp [intOf]; omega
        · have hone' : ((xs.length : Int) == 1) = false := by simp; omega
          have hno2 : Hid (∀ t, 128 ≤ t → t < x + 1 → ¬ BgP xs t) := by
            intro t t1 t2 h
            by_cases ht : t < x
            · exact hno.out t t1 ht h
            · obtain rfl : t = x := by omega
              rcases h with h | ⟨h0, _⟩
              · exact hP1 (by rw [← HQ4.out, h])
              · exact hone h0
          clear hP1 hone
          go_wp2_with fail
          go_roundw
          case rel => exact ⟨x + 1, by omega, by omega, by go_num, hno2, hbw4⟩
          case measure => simp [intOf]; omega
    · have hlt' : ¬ (x : Int) < 192 := by omega
      have HR : Hid (bgR xs = false) := by
        show _ = _
        cases h : bgR xs with
        | false => rfl
        | true =>
          obtain ⟨t, t1, t2, h2⟩ := HI.out.1 h
          exact absurd h2 (hno.out t t1 (by omega))
      go_wp2_with fail
      go_ret
      exact ⟨ret_bool HR.out.symm, hb⟩
end Go.Proofs.Ytdmhmelmoobekaa
