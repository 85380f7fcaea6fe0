/- The bytes of a rune: both ways, and the law. -/
import Derived.Test.YtgodpbiojekicaaOc
import Derived.Test.YtgodpbiojekicaaRA
namespace Go.Proofs.Ytgodpbiojekicaa
open Go.RowKit
set_option linter.unusedVariables false
set_option maxRecDepth 100000

/-- The byte of a number. -/
def ub (n : Int) : UInt8 := UInt8.ofNat n.toNat
theorem ub_B {n : Int} (h0 : 0 ≤ n) (h1 : n ≤ 255) : B (ub n) = .int .u8 n := by
  show Value.int .u8 _ = _
  congr 1
  rw [ub, UInt8.toNat_ofNat', Nat.mod_eq_of_lt (by omega)]
  omega
/-- The bytes of a rune. -/
def rb (r : Int) : List UInt8 :=
  if showsB r = false then [] else if r < 128 then [ub r] else if r < 2048 then [ub (192 + r / 64), ub (128 + r % 64)] else [ub (224 + r / 4096), ub (128 + r / 64 % 64), ub (128 + r % 64)]
theorem shows_bd {r : Int} (h : showsB r = true) : 32 ≤ r ∧ r ≤ 65535 := by
  have := of_decide_eq_true h
  omega
theorem rb_0 {r : Int} (h : showsB r = false) : rb r = [] := if_pos h
theorem rb_1 {r : Int} (h : showsB r = true) (h1 : r < 128) : rb r = [ub r] := by rw [rb, if_neg (by simp [h]), if_pos h1]
theorem rb_2 {r : Int} (h : showsB r = true) (h1 : ¬ r < 128) (h2 : r < 2048) : rb r = [ub (192 + r / 64), ub (128 + r % 64)] := by rw [rb, if_neg (by simp [h]), if_neg h1, if_pos h2]
theorem rb_3 {r : Int} (h : showsB r = true) (h1 : ¬ r < 128) (h2 : ¬ r < 2048) : rb r = [ub (224 + r / 4096), ub (128 + r / 64 % 64), ub (128 + r % 64)] := by rw [rb, if_neg (by simp [h]), if_neg h1, if_neg h2]
theorem rb_len (r : Int) : (rb r).length ≤ 3 := by
  unfold rb
  (repeat' split) <;> simp
theorem Ob.lit {w : World} {C : Array Value} {bs : List UInt8} (hC : C.toList = bs.map B) (hm : bs.length ≤ maxLen) : Ob (w.alloc (.cells C 5)) w.heap.size (some ⟨w.heap.size, 0, none⟩) bs.length bs := by
  have hs : C.size = bs.length := by have := congrArg List.length hC; simpa using this
  refine ⟨by simp, .inr ⟨w.heap.size, bs.length, C, (0, 0), rfl, Nat.le_refl _, heap_alloc_new _ _, .inl rfl, Nat.le_refl _, hm, by omega, ?_⟩⟩
  rw [hC, Nat.mul_one, List.take_of_length_le (by simp)]
def RbPost (w : World) (us : List UInt8) (e : Ending) (w' : World) : Prop :=
  ∃ A' c' vs, Hid (vs = us) ∧ e = .returned (.slice A' vs.length c') ∧ Ob w' w.heap.size A' c' vs ∧ Below w.heap.size w w'
theorem rb_lit {w : World} {C : Array Value} {us bs : List UInt8} {n : Nat} (hu : us = bs) (hn : n = bs.length) (hC : C.toList = bs.map B) (hm : bs.length ≤ maxLen) : RbPost w us (.returned (.slice (some ⟨w.heap.size, 0, none⟩) n n)) (w.alloc (.cells C 5)) := by
  subst hu hn
  exact ⟨_, _, us, rfl, rfl, Ob.lit hC hm, (Below.refl _ _).alloc (Nat.le_refl _) _⟩
theorem rb_nil {w : World} {us : List UInt8} (hu : us = []) : RbPost w us (.returned (.slice none 0 0)) w := by
  subst hu
  exact ⟨none, 0, [], rfl, rfl, ownsG_nil _ _ _ _, Below.refl _ _⟩
set_option maxHeartbeats 400000 in
theorem runeBytes_impl (r : Int) (w : World) : Calls Try.prog 13 #[.int .i64 r] w (RbPost w (rb r)) := by
  by_cases hs : showsB r = true
  · obtain ⟨hb1, hb2⟩ := shows_bd hs
    by_cases h1 : r < 128
    · have HR := Lib.hid (rb_1 hs h1)
      have HS := Lib.hid hs
      clear hs
      go_enter Try.func13, Try.ntmps13
      go_wp2_with (go_at_call 45; refine (shows_impl _ _).mono ?_; rintro e w' ⟨he, rfl⟩; rw [HS.out] at he; subst he)
      go_ret
      exact rb_lit HR.out rfl (by show [Value.int .u8 r] = [B (ub r)]; rw [ub_B (by omega) (by omega)]) (by unfold maxLen; simp)
    by_cases h2 : r < 2048
    · have HR := Lib.hid (rb_2 hs h1 h2)
      have HS := Lib.hid hs
      have a1 : 0 ≤ r / 64 := by omega
      have a2 : r / 64 ≤ 31 := by omega
      have a3 : 0 ≤ r % 64 := by omega
      have a4 : r % 64 ≤ 63 := by omega
      have e1 := ub_B (n := 192 + r / 64) (by omega) (by omega)
      have e2 := ub_B (n := 128 + r % 64) (by omega) (by omega)
      have E1 := Lib.hid e1
      have E2 := Lib.hid e2
      clear hs e1 e2
      go_enter Try.func13, Try.ntmps13
      go_wp2_with (go_at_call 45; refine (shows_impl _ _).mono ?_; rintro e w' ⟨he, rfl⟩; rw [HS.out] at he; subst he)
      go_ret
      exact rb_lit HR.out rfl (by simp [E1.out, E2.out]) (by unfold maxLen; simp)
    · have HR := Lib.hid (rb_3 hs h1 h2)
      have HS := Lib.hid hs
      have a1 : 0 ≤ r / 4096 := by omega
      have a2 : r / 4096 ≤ 15 := by omega
      have a3 : 0 ≤ r % 64 := by omega
      have a4 : r % 64 ≤ 63 := by omega
      have a5 : 0 ≤ r / 64 % 64 := by omega
      have a6 : r / 64 % 64 ≤ 63 := by omega
      have a7 : 0 ≤ r / 64 := by omega
      have E1 := Lib.hid (ub_B (n := 224 + r / 4096) (by omega) (by omega))
      have E2 := Lib.hid (ub_B (n := 128 + r / 64 % 64) (by omega) (by omega))
      have E3 := Lib.hid (ub_B (n := 128 + r % 64) (by omega) (by omega))
      clear hs
      go_enter Try.func13, Try.ntmps13
      go_wp2_with (go_at_call 45; refine (shows_impl _ _).mono ?_; rintro e w' ⟨he, rfl⟩; rw [HS.out] at he; subst he)
      go_ret
      exact rb_lit HR.out rfl (by simp [E1.out, E2.out, E3.out]) (by unfold maxLen; simp)
  · have HS : Hid (showsB r = false) := by show _ = _; simpa using hs
    have HR := Lib.hid (rb_0 HS.out)
    clear hs
    go_enter Try.func13, Try.ntmps13
    go_wp2_with (go_at_call 45; refine (shows_impl _ _).mono ?_; rintro e w' ⟨he, rfl⟩; rw [HS.out] at he; subst he)
    go_ret
    exact rb_nil HR.out
set_option maxHeartbeats 400000 in
theorem runeBytes_spec (r : Int) (w : World) : Calls Try.prog 12 #[.int .i64 r] w (RbPost w (rb r)) := by
  by_cases hs : showsB r = true
  · obtain ⟨hb1, hb2⟩ := shows_bd hs
    by_cases h1 : r < 128
    · have HR := Lib.hid (rb_1 hs h1)
      have HS := Lib.hid hs
      clear hs
      go_enter Try.func12, Try.ntmps12
      go_wp2_with (go_at_call 44; refine (shows_spec _ _).mono ?_; rintro e w' ⟨he, rfl⟩; rw [HS.out] at he; subst he)
      go_ret
      exact rb_lit HR.out rfl (by show [Value.int .u8 r] = [B (ub r)]; rw [ub_B (by omega) (by omega)]) (by unfold maxLen; simp)
    by_cases h2 : r < 2048
    · have HR := Lib.hid (rb_2 hs h1 h2)
      have HS := Lib.hid hs
      have a1 : 0 ≤ r / 64 := by omega
      have a2 : r / 64 ≤ 31 := by omega
      have a3 : 0 ≤ r % 64 := by omega
      have a4 : r % 64 ≤ 63 := by omega
      have e1 := ub_B (n := 192 + r / 64) (by omega) (by omega)
      have e2 := ub_B (n := 128 + r % 64) (by omega) (by omega)
      have E1 := Lib.hid e1
      have E2 := Lib.hid e2
      clear hs e1 e2
      go_enter Try.func12, Try.ntmps12
      go_wp2_with (go_at_call 44; refine (shows_spec _ _).mono ?_; rintro e w' ⟨he, rfl⟩; rw [HS.out] at he; subst he)
      go_ret
      exact rb_lit HR.out rfl (by simp [E1.out, E2.out]) (by unfold maxLen; simp)
    · have HR := Lib.hid (rb_3 hs h1 h2)
      have HS := Lib.hid hs
      have a1 : 0 ≤ r / 4096 := by omega
      have a2 : r / 4096 ≤ 15 := by omega
      have a3 : 0 ≤ r % 64 := by omega
      have a4 : r % 64 ≤ 63 := by omega
      have a5 : 0 ≤ r / 64 % 64 := by omega
      have a6 : r / 64 % 64 ≤ 63 := by omega
      have a7 : 0 ≤ r / 64 := by omega
      have E1 := Lib.hid (ub_B (n := 224 + r / 4096) (by omega) (by omega))
      have E2 := Lib.hid (ub_B (n := 128 + r / 64 % 64) (by omega) (by omega))
      have E3 := Lib.hid (ub_B (n := 128 + r % 64) (by omega) (by omega))
      clear hs
      go_enter Try.func12, Try.ntmps12
      go_wp2_with (go_at_call 44; refine (shows_spec _ _).mono ?_; rintro e w' ⟨he, rfl⟩; rw [HS.out] at he; subst he)
      go_ret
      exact rb_lit HR.out rfl (by simp [E1.out, E2.out, E3.out]) (by unfold maxLen; simp)
  · have HS : Hid (showsB r = false) := by show _ = _; simpa using hs
    have HR := Lib.hid (rb_0 HS.out)
    clear hs
    go_enter Try.func12, Try.ntmps12
    go_wp2_with (go_at_call 44; refine (shows_spec _ _).mono ?_; rintro e w' ⟨he, rfl⟩; rw [HS.out] at he; subst he)
    go_ret
    exact rb_nil HR.out
set_option maxHeartbeats 1000000 in
theorem walk_FnExactRuneBytes (n : Int) (w : World) (h : (Lit.int .i64 n).wf = true) :
    Calls Try.prog 3 #[.int .i64 n] w fun e w' => e = .returned (.bool true) ∧ Below w.heap.size w w' := by
  clear h
  have hl := rb_len n
  go_enter Try.func3, Try.ntmps3
  go_wp2_with fail
  refine (runeBytes_spec _ _).mono ?_
  rintro e w1 ⟨A1, c1, u1, hu1, rfl, ho1, hb1⟩
  have z1 := hb1.size
  go_wp2_with fail
  refine (runeBytes_impl _ _).mono ?_
  rintro e w2 ⟨A2, c2, u2, hu2, rfl, ho2, hb2⟩
  have z2 := hb2.size
  obtain rfl : u2 = u1 := by rw [hu1.out, hu2.out]
  have hlu : u2.length ≤ 3 := by rw [hu1.out]; exact hl
  clear hl
  have i1 := ho1.inB
  have i2 := ho2.inB
  go_wp2_with fail
  refine (eqByteS_same _ _ _ _ u2 _ ho2.by_ (ho1.by_.below hb2) (by omega)).mono ?_
  rintro e w2' ⟨rfl, m1, rfl⟩
  go_wp2_with fail
  refine (markByteS_any _ _ _ _ 1 _ (ho2.drewN m1) (by omega) (by omega) (by omega)).mono ?_
  rintro e w3 ⟨rfl, ho3, hg3⟩
  have z3 : w2.heap.size ≤ w3.heap.size := hg3.size
  have hm3 : By w3 A2 (markL 1 u2.length) := ho3.by_
  have hy1 := By.grown ((ho1.by_.below hb2).drewN m1) hg3 i2 (fun ad h _ => .inl (by have := (i1 ad h).2; omega))
  go_wp2_with fail
  refine (heldByteS_any _ _ _ 1 _ hm3 (by omega) (by omega) (by omega)).mono ?_
  rintro e w3' ⟨rfl, rfl⟩
  go_wp2_with fail
  refine (runeBytes_impl _ _).mono ?_
  rintro e w4 ⟨A4, c4, u4, hu4, rfl, ho4, hb4⟩
  obtain rfl : u4 = u2 := by rw [hu1.out, hu4.out]
  go_wp2_with fail
  refine (eqByteS_same _ _ _ _ u4 _ ho4.by_ (hy1.below hb4) (by omega)).mono ?_
  rintro e w4' ⟨rfl, m2, rfl⟩
  go_wp2_with fail
  refine (heldByteS_any _ _ _ 1 _ ((hm3.below hb4).drewN m2) (by omega) (by omega) (by omega)).mono ?_
  rintro e w5 ⟨rfl, rfl⟩
  go_wp2_with fail
  go_ret
  refine ⟨rfl, below_drewN ?_ _⟩
  have t2 : Below w.heap.size w w2 := hb1.trans (hb2.mono z1)
  have t3 : Below w.heap.size w w3 := below_grown (below_drewN t2 m1) hg3 i2 (by omega) (by show _ ≤ w2.heap.size; omega)
  exact t3.trans (hb4.mono t3.size)
end Go.Proofs.Ytgodpbiojekicaa
