/- Numbers: their bytes, put and got. -/
import Derived.Test.YtpaeffmjkkikbaaGreatDoorP1
namespace Go.Proofs.YtpaeffmjkkikbaaGreatDoor
open Go.RowKit
set_option linter.unusedVariables false

theorem within_any (n lo hi : Int) (w : World) :
    Calls Tryz.prog 81 #[.int .i64 n, .int .i64 lo, .int .i64 hi] w fun e w' => e = .returned (.bool (decide (lo ≤ n ∧ n ≤ hi))) ∧ w = w' := by
  go_enter Tryz.func81, Tryz.ntmps81
  go_wp2
  all_goals (go_ret; exact ⟨ret_bool (by (try rw [Bool.eq_iff_iff]); simp; omega), rfl⟩)
theorem within_yes {n lo hi : Int} (h1 : lo ≤ n) (h2 : n ≤ hi) (w : World) :
    Calls Tryz.prog 81 #[.int .i64 n, .int .i64 lo, .int .i64 hi] w fun e w' => e = .returned (.bool true) ∧ w = w' :=
  (within_any n lo hi w).mono fun e w' ⟨he, hw⟩ => ⟨he.trans (by simp; exact ⟨h1, h2⟩), hw⟩
theorem within_no {n lo hi : Int} (h : n < lo ∨ hi < n) (w : World) :
    Calls Tryz.prog 81 #[.int .i64 n, .int .i64 lo, .int .i64 hi] w fun e w' => e = .returned (.bool false) ∧ w = w' :=
  (within_any n lo hi w).mono fun e w' ⟨he, hw⟩ => ⟨he.trans (by simp; omega), hw⟩
theorem isNum_any (n : Int) (w : World) : Calls Tryz.prog 93 #[.int .i64 n] w fun e w' => e = .returned (.bool (decide (0 ≤ n ∧ n ≤ 4294967295))) ∧ w = w' := by
  go_enter Tryz.func93, Tryz.ntmps93
  go_wp2_with (go_at_call 81; refine (within_any _ _ _ _).mono ?_; rintro e w' ⟨rfl, rfl⟩)
  go_ret
  exact ⟨ret_bool (by simp), rfl⟩
theorem l01Num_any (n : Int) (w : World) : Calls Tryz.prog 112 #[.int .i64 n] w fun e w' => e = .returned (.bool (decide (0 ≤ n ∧ n ≤ 4294967295))) ∧ w = w' := by
  go_enter Tryz.func112, Tryz.ntmps112
  go_wp2
  all_goals (go_ret; exact ⟨ret_bool (by (try rw [Bool.eq_iff_iff]); simp; omega), rfl⟩)

theorem isNum_yes {n : Int} (h1 : 0 ≤ n) (h2 : n ≤ 4294967295) (w : World) : Calls Tryz.prog 93 #[.int .i64 n] w fun e w' => e = .returned (.bool true) ∧ w = w' :=
  (isNum_any n w).mono fun e w' ⟨he, hw⟩ => ⟨he.trans (by simp; exact ⟨h1, h2⟩), hw⟩
theorem isNum_no {n : Int} (h : n < 0 ∨ 4294967295 < n) (w : World) : Calls Tryz.prog 93 #[.int .i64 n] w fun e w' => e = .returned (.bool false) ∧ w = w' :=
  (isNum_any n w).mono fun e w' ⟨he, hw⟩ => ⟨he.trans (by simp; omega), hw⟩
theorem l01Num_yes {n : Int} (h1 : 0 ≤ n) (h2 : n ≤ 4294967295) (w : World) : Calls Tryz.prog 112 #[.int .i64 n] w fun e w' => e = .returned (.bool true) ∧ w = w' :=
  (l01Num_any n w).mono fun e w' ⟨he, hw⟩ => ⟨he.trans (by simp; exact ⟨h1, h2⟩), hw⟩
theorem l01Num_no {n : Int} (h : n < 0 ∨ 4294967295 < n) (w : World) : Calls Tryz.prog 112 #[.int .i64 n] w fun e w' => e = .returned (.bool false) ∧ w = w' :=
  (l01Num_any n w).mono fun e w' ⟨he, hw⟩ => ⟨he.trans (by simp; omega), hw⟩

/-- The bytes of a number. -/
def varB (n : Nat) : List UInt8 := if n < 128 then [UInt8.ofNat n] else UInt8.ofNat (n % 128 + 128) :: varB (n / 128)
termination_by n
decreasing_by omega
theorem varB_small {n : Nat} (h : n < 128) : varB n = [UInt8.ofNat n] := by rw [varB, if_pos h]
theorem varB_big {n : Nat} (h : ¬ n < 128) : varB n = UInt8.ofNat (n % 128 + 128) :: varB (n / 128) := by rw [varB, if_neg h]
theorem varB_len (k : Nat) : ∀ n, n < 128 ^ (k + 1) → (varB n).length ≤ k + 1 := by
  induction k with
  | zero => intro n h; rw [varB_small (by simpa using h)]; simp
  | succ k ih =>
    intro n h
    by_cases hs : n < 128
    · rw [varB_small hs]; simp
    · rw [varB_big hs]
      have := ih (n / 128) (by rw [Nat.div_lt_iff_lt_mul (by omega)]; rw [Nat.pow_succ] at h; exact h)
      simp; omega
theorem varB_len5 {n : Nat} (h : n ≤ 4294967295) : (varB n).length ≤ 5 := varB_len 4 n (by omega)

theorem b_ofNat {n : Nat} (h : n < 256) : B (UInt8.ofNat n) = .int .u8 (n : Int) := by
  show Value.int .u8 _ = _
  rw [UInt8.toNat_ofNat', Nat.mod_eq_of_lt h]

theorem u8_big {k : Nat} : ((k : Int) % 128 + 128) = ((UInt8.ofNat (k % 128 + 128)).toNat : Int) := by
  rw [UInt8.toNat_ofNat', Nat.mod_eq_of_lt (by omega)]; omega
theorem u8_small {k : Nat} (h : k < 128) : (k : Int) = ((UInt8.ofNat k).toNat : Int) := by
  rw [UInt8.toNat_ofNat', Nat.mod_eq_of_lt (by omega)]
theorem hlen_of {T : Type} {us vs : List T} (h : Hid (us = vs)) : us.length = vs.length := by rw [h.out]
theorem Ob.empty {w : World} : Ob (w.alloc (.cells #[] 5)) w.heap.size (some ⟨w.heap.size, 0, none⟩) 0 [] :=
  ⟨rfl, .inr ⟨w.heap.size, 0, #[], (0, 0), rfl, Nat.le_refl _, heap_alloc_new _ _, .inl rfl, Nat.le_refl _, Nat.zero_le _, rfl, rfl⟩⟩
set_option maxHeartbeats 1000000 in
theorem putVar_spec (A : Option Addr) (c : Nat) (xs : List UInt8) (n : Nat) (w : World) (ha : By w A xs) (h1 : xs.length ≤ 549755813888) (hn : n ≤ 4294967295) :
    Calls Tryz.prog 86 #[.slice A xs.length c, .int .i64 n] w fun e w' => ∃ A' c' us, Hid (us = xs ++ varB n) ∧ e = .returned (.tuple #[.slice A' us.length c', .bool true]) ∧ Ob w' w.heap.size A' c' us ∧ Below w.heap.size w w' := by
  go_enter Tryz.func86, Tryz.ntmps86
  go_wp2_with (first
    | (go_at_call 112; refine (l01Num_yes (by omega) (by omega) _).mono ?_; rintro e w' ⟨rfl, rfl⟩)
    | (at_builtin; refine wp_appN rfl _ _ rfl w.heap.size _ _ [] _ _ _ xs Ob.empty (ha.below ((Below.refl _ _).alloc (Nat.le_refl _) _)) rfl rfl (by simp) (by omega) (by simp) ?_; intro A1 c1 w1 us1 hus1 ha1 hb1))
  have hbw : Below w.heap.size w w1 := ((Below.refl _ _).alloc (Nat.le_refl _) _).trans hb1
  have hu1 : us1.length ≤ xs.length := by rw [hus1.out]; simp
  clear hb1 ha
  go_loopw [6, 1] (fun s m wr => ∃ (A' : Option Addr) (c' : Nat) (ys : List UInt8) (k : Nat), s = .slice A' ys.length c' ∧ m = .int .i64 k ∧ k ≤ n ∧ Ob wr w.heap.size A' c' ys ∧ Hid (ys ++ varB k = xs ++ varB n) ∧ Below w.heap.size w wr) (fun _ m _ => (intOf m).toNat)
  case atStart => exact ⟨A1, c1, us1, n, rfl, rfl, Nat.le_refl _, ha1, by show _ = _; rw [hus1.out]; rfl, hbw⟩
  case round =>
    clear ha1 hus1 hbw hu1
    obtain ⟨A', c', ys, k, rfl, rfl, hk, ha, he, hb⟩ := hrel
    have hsz := hb.size
    have hy : ys.length ≤ 549755813888 + 5 := by
      have h := congrArg List.length he.out
      have := varB_len5 hn
      simp at h
      omega
    by_cases hlt : 128 ≤ k
    · have hlt' : (128 : Int) ≤ k := by omega
      go_wp2_with (at_builtin; refine wp_app1 rfl _ _ rfl w.heap.size _ _ _ _ _ (UInt8.ofNat (k % 128 + 128)) ha rfl u8_big rfl (by omega) (by omega) ?_; intro A2 c2 w2 us hus ha2 hb2)
      go_roundw
      case rel =>
        refine ⟨A2, c2, us, k / 128, rfl, by go_num, by omega, ha2, ?_, hb.trans hb2⟩
        show _ = _
        rw [← he.out, varB_big (n := k) (by omega), hus.out]
        simp
      case measure => simp [intOf]; omega
    · have hlt' : ¬ (128 : Int) ≤ k := by omega
      go_wp2_with (at_builtin; refine wp_app1 rfl _ _ rfl w.heap.size _ _ _ _ _ (UInt8.ofNat k) ha rfl (u8_small (by omega)) rfl (by omega) (by omega) ?_; intro A2 c2 w2 us hus ha2 hb2)
      go_ret2
      refine ⟨A2, c2, us, ?_, rfl, ha2, hb.trans hb2⟩
      show _ = _
      rw [← he.out, varB_small (by omega), hus.out]
theorem putVar_spec_no (A : Option Addr) (n c : Nat) (z : Int) (w : World) (h : z < 0 ∨ 4294967295 < z) :
    Calls Tryz.prog 86 #[.slice A n c, .int .i64 z] w fun e w' => e = .returned (.tuple #[.slice none 0 0, .bool false]) ∧ w = w' := by
  go_enter Tryz.func86, Tryz.ntmps86
  go_wp2_with (go_at_call 112; refine (l01Num_no h _).mono ?_; rintro e w' ⟨rfl, rfl⟩)
  go_ret2
  exact ⟨rfl, rfl⟩
set_option maxHeartbeats 1000000 in
theorem clone_any (A : Option Addr) (c : Nat) (xs : List UInt8) (w : World) (ha : By w A xs) (h1 : xs.length ≤ 549755813888)  :
    Calls Tryz.prog 65 #[.slice A xs.length c] w fun e w' => ∃ A' c', e = .returned (.slice A' xs.length c') ∧ Ob w' w.heap.size A' c' xs ∧ Below w.heap.size w w' := by
  have hn := fun (w : World) (n : Nat) => Lib.run_eql_slice_nil (P := Tryz.prog) w 28 5 A n c 0 0 Tryz.underlying28
  cases A with
  | none =>
    have h0 : xs = [] := by
      rcases ha with h | ⟨b, o, h, _⟩
      · exact h
      · cases h
    subst h0
    go_enter Tryz.func65, Tryz.ntmps65
    go_wp2
    go_ret
    exact ⟨none, 0, rfl, ownsG_nil _ _ _ _, Below.refl _ _⟩
  | some ad =>
    go_enter Tryz.func65, Tryz.ntmps65
    go_wp2_with (at_builtin; refine wp_appN rfl _ _ rfl w.heap.size _ _ [] _ _ _ xs Ob.empty (ha.below ((Below.refl _ _).alloc (Nat.le_refl _) _)) rfl rfl (by simp) (by omega) (by simp) ?_; intro A1 c1 w1 us1 hus1 ha1 hb1)
    have he : us1 = xs := by rw [hus1.out]; rfl
    rw [he] at ha1
    go_ret
    refine ⟨A1, c1, ?_, ha1, ((Below.refl _ _).alloc (Nat.le_refl _) _).trans hb1⟩
    show Ending.returned (Value.slice A1 us1.length c1) = _
    rw [he]
end Go.Proofs.YtpaeffmjkkikbaaGreatDoor
