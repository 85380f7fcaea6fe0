/- The bytes of a rune: both ways, and the law. -/
import Derived.Test.YtnilgcahggmncaaOc
import Derived.Test.YtnilgcahggmncaaRA
namespace Go.Proofs.Ytnilgcahggmncaa
open Go.RowKit
set_option linter.unusedVariables false
set_option maxRecDepth 100000

/-- The byte of a number. -/
def ub (n : Int) : UInt8 := UInt8.ofNat n.toNat
theorem ub_B {n : Int} (h0 : 0 ≤ n) (h1 : n ≤ 255) : B (ub n) = .int .u8 n := by
  show Value.int .u8 _ = _
  congr 1
  rw [ub, UInt8.toNat_ofNat', Nat.mod_eq_of_lt (by omega)]
  omega
/-- The bytes of a rune. -/
def rb (r : Int) : List UInt8 :=
  if showsB r = false then [] else if r < 128 then [ub r] else if r < 2048 then [ub (192 + r / 64), ub (128 + r % 64)] else [ub (224 + r / 4096), ub (128 + r / 64 % 64), ub (128 + r % 64)]
theorem shows_bd {r : Int} (h : showsB r = true) : 32 ≤ r ∧ r ≤ 65535 := by
  have := of_decide_eq_true h
  omega
theorem rb_0 {r : Int} (h : showsB r = false) : rb r = [] := if_pos h
theorem rb_1 {r : Int} (h : showsB r = true) (h1 : r < 128) : rb r = [ub r] := by rw [rb, if_neg (by simp [h]), if_pos h1]
theorem rb_2 {r : Int} (h : showsB r = true) (h1 : ¬ r < 128) (h2 : r < 2048) : rb r = [ub (192 + r / 64), ub (128 + r % 64)] := by rw [rb, if_neg (by simp [h]), if_neg h1, if_pos h2]
theorem rb_3 {r : Int} (h : showsB r = true) (h1 : ¬ r < 128) (h2 : ¬ r < 2048) : rb r = [ub (224 + r / 4096), ub (128 + r / 64 % 64), ub (128 + r % 64)] := by rw [rb, if_neg (by simp [h]), if_neg h1, if_neg h2]
theorem rb_len (r : Int) : (rb r).length ≤ 3 := by
  unfold rb
  (repeat' split) <;> simp
theorem Ob.lit {w : World} {C : Array Value} {bs : List UInt8} (hC : C.toList = bs.map B) (hm : bs.length ≤ maxLen) : Ob (w.alloc (.cells C 5)) w.heap.size (some ⟨w.heap.size, 0, none⟩) bs.length bs := by
  have hs : C.size = bs.length := by have := congrArg List.length hC; simpa using this
  refine ⟨by simp, .inr ⟨w.heap.size, bs.length, C, (0, 0), rfl, Nat.le_refl _, heap_alloc_new _ _, .inl rfl, Nat.le_refl _, hm, by omega, ?_⟩⟩
  rw [hC, Nat.mul_one, List.take_of_length_le (by simp)]
def RbPost (w : World) (us : List UInt8) (e : Ending) (w' : World) : Prop :=
  ∃ A' c' vs, Hid (vs = us) ∧ e = .returned (.slice A' vs.length c') ∧ Ob w' w.heap.size A' c' vs ∧ Below w.heap.size w w'
theorem rb_lit {w : World} {C : Array Value} {us bs : List UInt8} {n : Nat} (hu : us = bs) (hn : n = bs.length) (hC : C.toList = bs.map B) (hm : bs.length ≤ maxLen) : RbPost w us (.returned (.slice (some ⟨w.heap.size, 0, none⟩) n n)) (w.alloc (.cells C 5)) := by
  subst hu hn
  exact ⟨_, _, us, rfl, rfl, Ob.lit hC hm, (Below.refl _ _).alloc (Nat.le_refl _) _⟩
theorem rb_nil {w : World} {us : List UInt8} (hu : us = []) : RbPost w us (.returned (.slice none 0 0)) w := by
  subst hu
  exact ⟨none, 0, [], rfl, rfl, ownsG_nil _ _ _ _, Below.refl _ _⟩
set_option maxHeartbeats 400000 in
theorem runeBytes_impl (r : Int) (w : World) : Calls Try.prog 116 #[.int .i64 r] w (RbPost w (rb r)) := by
  by_cases hs : showsB r = true
  · obtain ⟨hb1, hb2⟩ := shows_bd hs
    by_cases h1 : r < 128
    · have HR := Lib.hid (rb_1 hs h1)
      have HS := Lib.hid hs
      clear hs
      go_enter Try.func116, Try.ntmps116
      go_wp2_with (go_at_call 110; refine (shows_impl _ _).mono ?_; rintro e w' ⟨he, rfl⟩; rw [HS.out] at he; subst he)
      go_ret
      exact rb_lit HR.out rfl (by show [Value.int .u8 r] = [B (ub r)]; rw [ub_B (by omega) (by omega)]) (by unfold maxLen; simp)
    by_cases h2 : r < 2048
    · have HR := Lib.hid (rb_2 hs h1 h2)
      have HS := Lib.hid hs
      have a1 : 0 ≤ r / 64 := by omega
      have a2 : r / 64 ≤ 31 := by omega
      have a3 : 0 ≤ r % 64 := by omega
      have a4 : r % 64 ≤ 63 := by omega
      have e1 := ub_B (n := 192 + r / 64) (by omega) (by omega)
      have e2 := ub_B (n := 128 + r % 64) (by omega) (by omega)
      have E1 := Lib.hid e1
      have E2 := Lib.hid e2
      clear hs e1 e2
      go_enter Try.func116, Try.ntmps116
      go_wp2_with (go_at_call 110; refine (shows_impl _ _).mono ?_; rintro e w' ⟨he, rfl⟩; rw [HS.out] at he; subst he)
      go_ret
      exact rb_lit HR.out rfl (by simp [E1.out, E2.out]) (by unfold maxLen; simp)
    · have HR := Lib.hid (rb_3 hs h1 h2)
      have HS := Lib.hid hs
      have a1 : 0 ≤ r / 4096 := by omega
      have a2 : r / 4096 ≤ 15 := by omega
      have a3 : 0 ≤ r % 64 := by omega
      have a4 : r % 64 ≤ 63 := by omega
      have a5 : 0 ≤ r / 64 % 64 := by omega
      have a6 : r / 64 % 64 ≤ 63 := by omega
      have a7 : 0 ≤ r / 64 := by omega
      have E1 := Lib.hid (ub_B (n := 224 + r / 4096) (by omega) (by omega))
      have E2 := Lib.hid (ub_B (n := 128 + r / 64 % 64) (by omega) (by omega))
      have E3 := Lib.hid (ub_B (n := 128 + r % 64) (by omega) (by omega))
      clear hs
      go_enter Try.func116, Try.ntmps116
      go_wp2_with (go_at_call 110; refine (shows_impl _ _).mono ?_; rintro e w' ⟨he, rfl⟩; rw [HS.out] at he; subst he)
      go_ret
      exact rb_lit HR.out rfl (by simp [E1.out, E2.out, E3.out]) (by unfold maxLen; simp)
  · have HS : Hid (showsB r = false) := by show _ = _; simpa using hs
    have HR := Lib.hid (rb_0 HS.out)
    clear hs
    go_enter Try.func116, Try.ntmps116
    go_wp2_with (go_at_call 110; refine (shows_impl _ _).mono ?_; rintro e w' ⟨he, rfl⟩; rw [HS.out] at he; subst he)
    go_ret
    exact rb_nil HR.out
set_option maxHeartbeats 400000 in
theorem runeBytes_spec (r : Int) (w : World) : Calls Try.prog 51 #[.int .i64 r] w (RbPost w (rb r)) := by
  by_cases hs : showsB r = true
  · obtain ⟨hb1, hb2⟩ := shows_bd hs
    by_cases h1 : r < 128
    · have HR := Lib.hid (rb_1 hs h1)
      have HS := Lib.hid hs
      clear hs
      go_enter Try.func51, Try.ntmps51
      go_wp2_with (go_at_call 107; refine (shows_spec _ _).mono ?_; rintro e w' ⟨he, rfl⟩; rw [HS.out] at he; subst he)
      go_ret
      exact rb_lit HR.out rfl (by show [Value.int .u8 r] = [B (ub r)]; rw [ub_B (by omega) (by omega)]) (by unfold maxLen; simp)
    by_cases h2 : r < 2048
    · have HR := Lib.hid (rb_2 hs h1 h2)
      have HS := Lib.hid hs
      have a1 : 0 ≤ r / 64 := by omega
      have a2 : r / 64 ≤ 31 := by omega
      have a3 : 0 ≤ r % 64 := by omega
      have a4 : r % 64 ≤ 63 := by omega
      have e1 := ub_B (n := 192 + r / 64) (by omega) (by omega)
      have e2 := ub_B (n := 128 + r % 64) (by omega) (by omega)
      have E1 := Lib.hid e1
      have E2 := Lib.hid e2
      clear hs e1 e2
      go_enter Try.func51, Try.ntmps51
      go_wp2_with (go_at_call 107; refine (shows_spec _ _).mono ?_; rintro e w' ⟨he, rfl⟩; rw [HS.out] at he; subst he)
      go_ret
      exact rb_lit HR.out rfl (by simp [E1.out, E2.out]) (by unfold maxLen; simp)
    · have HR := Lib.hid (rb_3 hs h1 h2)
      have HS := Lib.hid hs
      have a1 : 0 ≤ r / 4096 := by omega
      have a2 : r / 4096 ≤ 15 := by omega
      have a3 : 0 ≤ r % 64 := by omega
      have a4 : r % 64 ≤ 63 := by omega
      have a5 : 0 ≤ r / 64 % 64 := by omega
      have a6 : r / 64 % 64 ≤ 63 := by omega
      have a7 : 0 ≤ r / 64 := by omega
      have E1 := Lib.hid (ub_B (n := 224 + r / 4096) (by omega) (by omega))
      have E2 := Lib.hid (ub_B (n := 128 + r / 64 % 64) (by omega) (by omega))
      have E3 := Lib.hid (ub_B (n := 128 + r % 64) (by omega) (by omega))
      clear hs
      go_enter Try.func51, Try.ntmps51
      go_wp2_with (go_at_call 107; refine (shows_spec _ _).mono ?_; rintro e w' ⟨he, rfl⟩; rw [HS.out] at he; subst he)
      go_ret
      exact rb_lit HR.out rfl (by simp [E1.out, E2.out, E3.out]) (by unfold maxLen; simp)
  · have HS : Hid (showsB r = false) := by show _ = _; simpa using hs
    have HR := Lib.hid (rb_0 HS.out)
    clear hs
    go_enter Try.func51, Try.ntmps51
    go_wp2_with (go_at_call 107; refine (shows_spec _ _).mono ?_; rintro e w' ⟨he, rfl⟩; rw [HS.out] at he; subst he)
    go_ret
    exact rb_nil HR.out
end Go.Proofs.Ytnilgcahggmncaa
