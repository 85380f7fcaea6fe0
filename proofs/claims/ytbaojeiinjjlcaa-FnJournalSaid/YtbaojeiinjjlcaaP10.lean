/- Bytes joined, and a frame's bytes. -/
import Derived.Test.YtbaojeiinjjlcaaP9
import Derived.Lib.AppendZeros
namespace Go.Proofs.Ytbaojeiinjjlcaa
open Go.RowKit
set_option linter.unusedVariables false

theorem Ob.of_row {w : World} {lo g cap : Nat} {cur : Array Value} (hg : w.heap[g]? = some (.cells cur 5 (0, 0))) (hlo : lo ≤ g) (hm : cap ≤ maxLen) (hs : cur.size = cap) : Ob w lo (some ⟨g, 0, none⟩) cap [] :=
  ⟨rfl, .inr ⟨g, cap, cur, (0, 0), rfl, hlo, hg, .inl rfl, Nat.zero_le _, hm, by omega, by simp⟩⟩
set_option maxHeartbeats 1000000 in
theorem grow_nil (n : Nat) (w : World) (hn : n ≤ 1099511627776) :
    Calls Try.prog 24 #[.slice none 0 0, .int .i64 n] w fun e w' => ∃ A c, e = .returned (.slice A 0 c) ∧ Ob w' w.heap.size A c [] ∧ Below w.heap.size w w' := by
  obtain ⟨i0, hi, hz0, hz1, hz2⟩ := info_parts info_u8
  by_cases h0 : n = 0
  · subst h0
    clear hi hz0 hz1 hz2
    go_enter Try.func24, Try.ntmps24
    go_wp2
    go_ret
    exact ⟨none, 0, rfl, ownsG_nil _ _ _ _, Below.refl _ _⟩
  · have hrun := fun ty => Lib.run_append_nil_zeros (P := Try.prog) w 22 3 ty 5 i0 (.int .u8 0) .i64 .i64 Try.underlying22 Try.underlying3 hi hz0 n (by omega) (by omega) (by omega) (by rw [hz2]; omega)
    have hge := grownCap_ge w n 0 5
    have hle := grownCap_le_maxLen w n 0 5 (by unfold maxLen; omega)
    obtain ⟨K, hK⟩ : ∃ K, K = grownCap w n 0 5 := ⟨_, rfl⟩
    obtain ⟨Z, hZ, hZs⟩ : ∃ Z : Array Value, Z = (Builtin.zeroCells (Value.int .u8 0).cells n ++ Builtin.zeroCells (Value.int .u8 0).cells (grownCap w n 0 5 - n)) ∧ Z.size = K := ⟨_, rfl, by
      have hz1 : (Value.int IntKind.u8 0).cells.size = 1 := rfl
      simp only [Array.size_append, size_zeroCells, hz1]; omega⟩
    rw [← hK] at hge hle
    rw [← hZ, ← hK] at hrun
    clear hZ hK hi hz0 hz1 hz2
    have hpos : (0 : Int) < n := by omega
    have hK0 : ¬ K = 0 := by omega
    have HR := Lib.hid hrun
    clear hrun
    go_enter Try.func24, Try.ntmps24
    go_wp2_with (at_builtin; refine Lib.wpList_append_run _ rfl _ _ _ _ rfl _ _ rfl rfl _ _ (HR.out _) ?_)
    go_ret
    exact ⟨_, _, rfl, Ob.of_row (by exact heap_alloc_new _ _) (Nat.le_refl _) hle hZs, ((Below.refl _ _).alloc (Nat.le_refl _) _).drew⟩
theorem grow_nilI (z : Int) (n : Nat) (w : World) (hz : z = n) (hn : n ≤ 1099511627776) :
    Calls Try.prog 24 #[.slice none 0 0, .int .i64 z] w fun e w' => ∃ A c, e = .returned (.slice A 0 c) ∧ Ob w' w.heap.size A c [] ∧ Below w.heap.size w w' := by
  subst hz; exact grow_nil n w hn
set_option maxHeartbeats 1000000 in
theorem concat2_any (g : Nat) (A A' : Option Addr) (c c' : Nat) (xs ys : List UInt8) (w : World) (ha : By w A xs) (hb : By w A' ys) (h1 : xs.length ≤ 274877906944) (h2 : ys.length ≤ 274877906944)
    (k0 : w.cell? ⟨g, 0, none⟩ = some (.slice A xs.length c)) (k1 : w.cell? ⟨g, 1, none⟩ = some (.slice A' ys.length c')) :
    Calls Try.prog 22 #[.slice (some ⟨g, 0, none⟩) 2 2] w fun e w' => ∃ A2 c2 us, Hid (us = xs ++ ys) ∧ e = .returned (.slice A2 us.length c2) ∧ Ob w' w.heap.size A2 c2 us ∧ Below w.heap.size w w' := by
  have hg := World.block_lt_of_cell? w _ k0
  go_enter Try.func22, Try.ntmps22
  go_wp2_with fail
  refine wp_loop_rounds 3 ?_
  rw [rounds_succ]
  go_wp2_with fail
  rw [rounds_succ]
  go_wp2_with fail
  rw [rounds_succ]
  go_wp2_with fail
  refine (grow_nilI _ (xs.length + ys.length) _ (by omega) (by omega)).mono ?_
  rintro e w1 ⟨A0, c0, rfl, ho0, hb0⟩
  have z0 := hb0.size
  have hgl : g < w.heap.size := hg
  have k0' : w1.cell? ⟨g, 0, none⟩ = some (.slice A xs.length c) := (hb0.cell (p := ⟨g, 0, none⟩) hgl).trans k0
  have k1' : w1.cell? ⟨g, 1, none⟩ = some (.slice A' ys.length c') := (hb0.cell (p := ⟨g, 1, none⟩) hgl).trans k1
  clear k0 k1
  go_wp2_with fail
  refine wp_loop_rounds 3 ?_
  rw [rounds_succ]
  go_wp2_with (refine wp_appN rfl _ _ rfl w.heap.size _ _ [] _ _ _ xs ho0 (ha.below hb0) rfl rfl (by simp) (by omega) z0 ?_; intro A1 c1 w2 u1 hu1 ho1 hb1)
  have hl1 : u1.length ≤ xs.length := by rw [hu1.out]; simp
  have hb01 : Below w.heap.size w w2 := hb0.trans hb1
  have z1 := hb01.size
  have k1'' : w2.cell? ⟨g, 1, none⟩ = some (.slice A' ys.length c') := (hb1.cell (p := ⟨g, 1, none⟩) hgl).trans k1'
  clear k0' k1'
  rw [rounds_succ]
  go_wp2_with (refine wp_appN rfl _ _ rfl w.heap.size _ _ _ _ _ _ ys ho1 (hb.below hb01) rfl rfl (by omega) (by omega) z1 ?_; intro A2 c2 w3 u2 hu2 ho2 hb2)
  rw [rounds_succ]
  go_wp2_with fail
  go_ret
  exact ⟨A2, c2, u2, Lib.hid (by rw [hu2.out, hu1.out]; simp), rfl, ho2, hb01.trans hb2⟩
set_option maxHeartbeats 1000000 in
theorem sumOf_any (A A' : Option Addr) (c c' : Nat) (xs ys : List UInt8) (w : World) (ha : By w A xs) (hb : By w A' ys) (h1 : xs.length ≤ 137438953472) (h2 : ys.length ≤ 137438953472) :
    Calls Try.prog 15 #[.slice A xs.length c, .slice A' ys.length c'] w fun e w' => e = .returned (.int .i64 (crcN (xs ++ ys))) ∧ Below w.heap.size w w' := by
  go_enter Try.func15, Try.ntmps15
  go_wp2_with fail
  refine (concat2_any w.heap.size A A' c c' xs ys _ (ha.below ((Below.refl _ _).alloc (Nat.le_refl _) _)) (hb.below ((Below.refl _ _).alloc (Nat.le_refl _) _)) (by omega) (by omega) (by simp) (by simp)).mono ?_
  rintro e w1 ⟨A2, c2, us, hus, rfl, ho, hb1⟩
  have hl : us.length ≤ 274877906944 := by rw [hus.out]; simp; omega
  go_wp2_with fail
  refine (crc_impl _ _ _ _ ho.by_ (by omega)).mono ?_
  rintro e w2 ⟨rfl, rfl⟩
  go_wp2_with fail
  go_ret
  exact ⟨ret_int (by rw [hus.out]), ((Below.refl _ _).alloc (Nat.le_refl _) _).trans (hb1.mono (by simp))⟩
theorem isSeq_any (n : Int) (w : World) : Calls Try.prog 13 #[.int .i64 n] w fun e w' => e = .returned (.bool (decide (1 ≤ n ∧ n ≤ 1000000000))) ∧ w = w' := by
  go_enter Try.func13, Try.ntmps13
  go_wp2_with (go_at_call 18; refine (within_any _ _ _ _).mono ?_; rintro e w' ⟨rfl, rfl⟩)
  go_ret
  exact ⟨ret_bool (by simp), rfl⟩
theorem isSeq_yes {n : Int} (h1 : 1 ≤ n) (h2 : n ≤ 1000000000) (w : World) : Calls Try.prog 13 #[.int .i64 n] w fun e w' => e = .returned (.bool true) ∧ w = w' :=
  (isSeq_any n w).mono fun e w' ⟨he, hw⟩ => ⟨he.trans (by simp; exact ⟨h1, h2⟩), hw⟩
theorem isSeq_no {n : Int} (h : n < 1 ∨ 1000000000 < n) (w : World) : Calls Try.prog 13 #[.int .i64 n] w fun e w' => e = .returned (.bool false) ∧ w = w' :=
  (isSeq_any n w).mono fun e w' ⟨he, hw⟩ => ⟨he.trans (by simp; omega), hw⟩
/-- A frame's bytes up to the checksum. -/
def frameHead (seq : Int) (data : List UInt8) : List UInt8 := 167 :: (varB seq.toNat ++ varB data.length)
def frameB (seq : Int) (data : List UInt8) : List UInt8 := frameHead seq data ++ varB (crcN (frameHead seq data ++ data)) ++ data
def frameR (seq : Int) (data : List UInt8) : List UInt8 × Bool := if (1 ≤ seq ∧ seq ≤ 1000000000) ∧ data.length ≤ 60000 then (frameB seq data, true) else ([], false)
theorem frameHead_len {seq : Int} {data : List UInt8} (h1 : seq ≤ 1000000000) (h2 : data.length ≤ 150000) : (frameHead seq data).length ≤ 11 := by
  have a := varB_len5 (n := seq.toNat) (by omega)
  have b := varB_len5 (n := data.length) (by omega)
  simp [frameHead]; omega
theorem frameR_len (seq : Int) (data : List UInt8) : (frameR seq data).1.length ≤ data.length + 16 := by
  unfold frameR
  split
  · rename_i h
    have a := frameHead_len h.1.2 (show data.length ≤ 150000 by omega)
    have b := varB_len5 (crcN_le (frameHead seq data ++ data))
    simp [frameB]; omega
  · simp
set_option maxHeartbeats 1000000 in
theorem frameBytes_impl (A : Option Addr) (c : Nat) (xs : List UInt8) (seq : Int) (w : World) (ha : By w A xs) (h1 : xs.length ≤ 137438953472) :
    Calls Try.prog 8 #[.int .i64 seq, .slice A xs.length c] w (PutPost w (frameR seq xs)) := by
  by_cases hs : 1 ≤ seq ∧ seq ≤ 1000000000
  · by_cases hx : xs.length ≤ 60000
    · obtain ⟨n, rfl⟩ := Int.eq_ofNat_of_zero_le (show 0 ≤ seq by omega)
      have hx' : ¬ (60000 : Int) < xs.length := by omega
      obtain ⟨hs1, hs2⟩ := hs
      go_enter Try.func8, Try.ntmps8
      go_wp2_with (go_at_call 13; refine (isSeq_yes (by omega) (by omega) _).mono ?_; rintro e w' ⟨rfl, rfl⟩)
      have hbox : Below w.heap.size w (w.alloc (.cells #[.int .u8 167] 5)) := (Below.refl _ _).alloc (Nat.le_refl _) _
      refine (putVar_any w.heap.size _ _ [167] _ _ ⟨rfl, .inr ⟨w.heap.size, 1, _, (0, 0), rfl, Nat.le_refl _, heap_alloc_new _ _, .inl rfl, Nat.le_refl _, by unfold maxLen; omega, rfl, rfl⟩⟩ (by simp) (by simp) (by omega)).mono ?_
      rintro e w1 ⟨A1, c1, u1, hu1, rfl, ho1, hb1⟩
      have hl1 : u1.length ≤ 6 := by rw [hu1.out]; have := varB_len5 (n := n) (by omega); simp; omega
      have hbw1 := hbox.trans hb1
      have z1 := hbw1.size
      go_wp2_with fail
      refine (putVar_any w.heap.size _ _ _ _ _ ho1 z1 (by omega) (by omega)).mono ?_
      rintro e w2 ⟨A2, c2, u2, hu2, rfl, ho2, hb2⟩
      have hl2 : u2.length ≤ 11 := by rw [hu2.out]; have := varB_len5 (n := xs.length) (by omega); simp; omega
      have hbw2 := hbw1.trans hb2
      have z2 := hbw2.size
      go_wp2_with fail
      refine (sumOf_any _ _ _ _ _ _ _ ho2.by_ (ha.below hbw2) (by omega) (by omega)).mono ?_
      rintro e w3 ⟨rfl, hb3⟩
      have hbw3 := hbw2.trans (hb3.mono z2)
      have z3 := hbw3.size
      have hcr := crcN_le (u2 ++ xs)
      go_wp2_with fail
      refine (putVar_any w.heap.size _ _ _ _ _ (ho2.below hb3 (Nat.le_refl _)) z3 (by omega) hcr).mono ?_
      rintro e w4 ⟨A4, c4, u4, hu4, rfl, ho4, hb4⟩
      have hl4 : u4.length ≤ 16 := by rw [hu4.out]; have := varB_len5 hcr; simp; omega
      have hbw4 := hbw3.trans hb4
      have z4 := hbw4.size
      go_wp2_with (refine wp_appN rfl _ _ rfl w.heap.size _ _ _ _ _ _ xs ho4 (ha.below hbw4) rfl rfl (by omega) (by omega) z4 ?_; intro A5 c5 w5 u5 hu5 ho5 hb5)
      go_ret2
      have hH : u2 = frameHead n xs := by rw [hu2.out, hu1.out, frameHead]; simp
      refine ⟨A5, c5, u5, true, Lib.hid ?_, Lib.hid ?_, rfl, ho5, hbw4.trans hb5⟩
      · rw [hu5.out, hu4.out, hH, frameR, if_pos ⟨⟨by omega, by omega⟩, hx⟩, frameB]
      · rw [frameR, if_pos ⟨⟨by omega, by omega⟩, hx⟩]
    · have hx' : (60000 : Int) < xs.length := by omega
      go_enter Try.func8, Try.ntmps8
      go_wp2_with (go_at_call 13; refine (isSeq_yes (by omega) (by omega) _).mono ?_; rintro e w' ⟨rfl, rfl⟩)
      go_ret2
      exact ⟨none, 0, [], false, Lib.hid (by rw [frameR, if_neg (by omega)]), Lib.hid (by rw [frameR, if_neg (by omega)]), rfl, ownsG_nil _ _ _ _, Below.refl _ _⟩
  · go_enter Try.func8, Try.ntmps8
    go_wp2_with (go_at_call 13; refine (isSeq_no (by omega) _).mono ?_; rintro e w' ⟨rfl, rfl⟩)
    go_ret2
    exact ⟨none, 0, [], false, Lib.hid (by rw [frameR, if_neg (by omega)]), Lib.hid (by rw [frameR, if_neg (by omega)]), rfl, ownsG_nil _ _ _ _, Below.refl _ _⟩
end Go.Proofs.Ytbaojeiinjjlcaa
