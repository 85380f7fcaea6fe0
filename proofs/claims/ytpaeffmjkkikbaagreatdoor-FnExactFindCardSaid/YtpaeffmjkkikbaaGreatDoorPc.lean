/- Texts, put and got. The laws of PutText and GetText. The checksum. Bytes joined, and a frame's bytes. -/
import Derived.Test.YtpaeffmjkkikbaaGreatDoorPb
import Derived.Laws.BitsAllLaws
import Derived.Lib.AppendZeros
namespace Go.Proofs.YtpaeffmjkkikbaaGreatDoor
open Go.RowKit

set_option linter.unusedVariables false
set_option maxRecDepth 100000

def putTextR (xs : List UInt8) (t : ByteArray) : List UInt8 × Bool := if t.size ≤ 4000 then (xs ++ varB t.size ++ t.data.toList, true) else ([], false)
theorem putTextR_len (xs : List UInt8) (t : ByteArray) : (putTextR xs t).1.length ≤ xs.length + 4005 := by
  unfold putTextR
  split
  · have := varB_len5 (n := t.size) (by omega); have := str_len t
    simp only [List.length_append]; omega
  · simp
/-- What GetText answers. -/
def gtAt (xs : List UInt8) (z : Int) : List UInt8 × Int × Bool :=
  if (gvAt xs z).2.2 = true ∧ (gvAt xs z).1 ≤ 4000 ∧ (gvAt xs z).1 ≤ xs.length - (gvAt xs z).2.1 then
    ((xs.drop (gvAt xs z).2.1.toNat).take (gvAt xs z).1.toNat, (gvAt xs z).2.1 + (gvAt xs z).1, true) else ([], 0, false)
def gtV (xs : List UInt8) (z : Int) : Value := .tuple #[.string (bstr (gtAt xs z).1), .int .i64 (gtAt xs z).2.1, .bool (gtAt xs z).2.2]
theorem gvAt_cases (xs : List UInt8) (z : Int) : (gvAt xs z = (0, 0, false)) ∨ ∃ n q : Nat, gvAt xs z = ((n : Int), (q : Int), true) ∧ n ≤ 4294967295 ∧ q ≤ xs.length ∧ z < q ∧ (0 ≤ z ∧ gv (xs.drop z.toNat) = some (n, q - z.toNat)) := by
  by_cases hz : 0 ≤ z ∧ z ≤ xs.length
  · obtain ⟨k, rfl⟩ := Int.eq_ofNat_of_zero_le hz.1
    cases hg : gv (xs.drop k) with
    | none => exact .inl (gvAt_none hg)
    | some r =>
      obtain ⟨n, j⟩ := r
      right
      obtain ⟨h1, h2, h3, h4, _⟩ := gv_some hg
      rw [List.length_drop] at h3
      refine ⟨n, k + j, by rw [gvAt_some hg (by omega)]; simp, h1, by omega, by omega, by omega, ?_⟩
      rw [Int.toNat_natCast, hg]
      simp
  · exact .inl (gvAt_out (by omega))
set_option linter.unusedVariables false

theorem gtV_form (xs : List UInt8) (z : Int) : ∃ p q r, Hid (gtV xs z = .tuple #[.string p, .int .i64 q, .bool r]) := ⟨_, _, _, rfl⟩
set_option linter.unusedVariables false

def crcBit (r : Nat) : Nat := if r % 2 = 1 then (r / 2) ^^^ 2197175160 else r / 2
def crcBits : Nat → Nat → Nat
  | 0, r => r
  | k + 1, r => crcBit (crcBits k r)
def crcByte (r : Nat) (x : UInt8) : Nat := crcBits 8 (r ^^^ x.toNat)
def crcAll (bs : List UInt8) : Nat := bs.foldl crcByte 4294967295
def crcN (bs : List UInt8) : Nat := crcAll bs ^^^ 4294967295
theorem crcBit_lt {r : Nat} (h : r < 4294967296) : crcBit r < 4294967296 := by
  unfold crcBit
  split
  · exact Nat.xor_lt_two_pow (n := 32) (by omega) (by omega)
  · omega
theorem crcBits_lt {r : Nat} (h : r < 4294967296) : ∀ k, crcBits k r < 4294967296 := by
  intro k
  induction k with
  | zero => exact h
  | succ k ih => exact crcBit_lt ih
theorem crcByte_lt {r : Nat} (h : r < 4294967296) (x : UInt8) : crcByte r x < 4294967296 :=
  crcBits_lt (Nat.xor_lt_two_pow (n := 32) (by omega) (by have := x.toNat_lt; omega)) 8
theorem crcAll_lt (bs : List UInt8) : crcAll bs < 4294967296 := by
  have : ∀ (l : List UInt8) (r : Nat), r < 4294967296 → l.foldl crcByte r < 4294967296 := by
    intro l
    induction l with
    | nil => intro r h; exact h
    | cons x l ih => intro r h; exact ih _ (crcByte_lt h x)
  exact this bs _ (by omega)
theorem crcN_le (bs : List UInt8) : crcN bs ≤ 4294967295 := by
  have h : crcN bs < 2 ^ 32 := Nat.xor_lt_two_pow (by have := crcAll_lt bs; omega) (by omega)
  omega
set_option maxHeartbeats 1000000 in
theorem crc_spec (A : Option Addr) (c : Nat) (xs : List UInt8) (w : World) (ha : By w A xs) (h1 : xs.length ≤ 549755813888) :
    Calls Tryz.prog 87 #[.slice A xs.length c] w fun e w' => e = .returned (.int .i64 (crcN xs)) ∧ w = w' := by
  go_enter Tryz.func87, Tryz.ntmps87
  go_wp2_with fail
  go_loop [3, 4] (fun r i => ∃ k R : Nat, i = .int .i64 k ∧ r = .int .i64 R ∧ k ≤ xs.length ∧ R < 4294967296 ∧ Hid (R = crcAll (xs.take k))) (fun _ i => xs.length - (intOf i).toNat)
  case atStart => exact ⟨0, 4294967295, rfl, rfl, Nat.zero_le _, by omega, rfl⟩
  case round =>
    obtain ⟨k, R, rfl, rfl, hk, hR, hv⟩ := hrel
    by_cases hlt : k < xs.length
    · obtain ⟨b, o, rfl, hc⟩ := ha.pos (by omega)
      obtain ⟨x, hx⟩ : ∃ x, xs[k]? = some x := ⟨_, List.getElem?_eq_getElem hlt⟩
      have hcell := hc k x hx
      have HX := Lib.hid hx
      clear hc hx
      have hlt' : (k : Int) < xs.length := by omega
      have hb := u8_lt x
      obtain ⟨R1, hR1⟩ : ∃ R1 : Nat, R1 = R ^^^ x.toNat := ⟨_, rfl⟩
      have hxor : bits .xor .i64 (R : Int) (x.toNat : Int) = (R1 : Int) := by rw [hR1]; exact i64_xor_nat _ _ (by omega) (by omega)
      have hR1l : R1 < 4294967296 := by
        have : R1 < 2 ^ 32 := by rw [hR1]; exact Nat.xor_lt_two_pow (by omega) (by omega)
        omega
      have HR1 := Lib.hid hR1
      clear hR1
      go_wp2_with fail
      clear hcell hxor hR
      go_loop [3, 5] (fun r i => ∃ j R2 : Nat, i = .int .i64 j ∧ r = .int .i64 R2 ∧ j ≤ 8 ∧ R2 < 4294967296 ∧ Hid (R2 = crcBits j R1)) (fun _ i => 8 - (intOf i).toNat)
      case atStart => exact ⟨0, R1, rfl, rfl, by omega, hR1l, rfl⟩
      case round =>
        obtain ⟨j, R2, rfl, rfl, hj, hR2, hv2⟩ := hrel
        by_cases hj8 : j < 8
        · have i1 : (j : Int) < 8 := by omega
          by_cases hodd : R2 % 2 = 1
          · have i2 : ((R2 : Int) % 2 == 1) = true := by simp; omega
            obtain ⟨R3, hR3⟩ : ∃ R3 : Nat, R3 = (R2 / 2) ^^^ 2197175160 := ⟨_, rfl⟩
            have hxor : bits .xor .i64 ((R2 : Int) / 2) 2197175160 = (R3 : Int) := by
              have e := i64_xor_nat (R2 / 2) 2197175160 (by omega) (by omega)
              rw [hR3, ← e]
              simp
            have hb : Hid (R3 = crcBit R2) := by show _ = _; rw [crcBit, if_pos hodd, hR3]
            have hl : R3 < 4294967296 := by rw [hb.out]; exact crcBit_lt hR2
            clear hR3 hodd
            go_wp2_with fail
            go_round
            case rel => exact ⟨j + 1, R3, by go_num, rfl, by omega, hl, by show _ = _; rw [hb.out, crcBits, hv2.out]⟩
            case measure => simp [intOf]; omega
          · have i2 : ((R2 : Int) % 2 == 1) = false := by simp; omega
            have hb : Hid (R2 / 2 = crcBit R2) := by show _ = _; rw [crcBit, if_neg hodd]
            clear hodd
            go_wp2_with fail
            go_round
            case rel => exact ⟨j + 1, R2 / 2, by go_num, by go_num, by omega, by omega, by show _ = _; rw [hb.out, crcBits, hv2.out]⟩
            case measure => simp [intOf]; omega
        · have i1 : ¬ (j : Int) < 8 := by omega
          have HJ : Hid (j = 8) := by show _ = _; omega
          go_wp2_with fail
          go_round
          case rel =>
            refine ⟨k + 1, R2, by go_num, rfl, by omega, hR2, ?_⟩
            show _ = _
            rw [hv2.out, HJ.out, take_succ_get HX.out, crcAll, List.foldl_append, HR1.out, hv.out]
            rfl
          case measure => simp [intOf]; omega
    · have hlt' : ¬ (k : Int) < xs.length := by omega
      have HE : Hid (crcN xs = R ^^^ 4294967295) := by
        show _ = _
        rw [crcN, hv.out, List.take_of_length_le (by omega)]
      obtain ⟨R1, hR1⟩ : ∃ R1 : Nat, R1 = R ^^^ 4294967295 := ⟨_, rfl⟩
      have hxor : bits .xor .i64 (R : Int) 4294967295 = (R1 : Int) := by rw [hR1]; exact i64_xor_nat _ 4294967295 (by omega) (by omega)
      have HR1 := Lib.hid hR1
      clear hR1
      go_wp2_with fail
      go_ret
      exact ⟨ret_int (by rw [HE.out, ← HR1.out]), rfl⟩
set_option maxRecDepth 100000 in
set_option maxHeartbeats 1000000 in
theorem crc_impl (A : Option Addr) (c : Nat) (xs : List UInt8) (w : World) (ha : By w A xs) (h1 : xs.length ≤ 549755813888) :
    Calls Tryz.prog 100 #[.slice A xs.length c] w fun e w' => e = .returned (.int .i64 (crcN xs)) ∧ w = w' := by
  go_enter Tryz.func100, Tryz.ntmps100
  go_wp2_with fail
  go_loop [3, 9] (fun r i => ∃ k R : Nat, i = .int .i64 k ∧ r = .int .u32 R ∧ k ≤ xs.length ∧ R < 4294967296 ∧ Hid (R = crcAll (xs.take k))) (fun _ i => xs.length - (intOf i).toNat)
  case atStart => exact ⟨0, 4294967295, rfl, rfl, Nat.zero_le _, by omega, rfl⟩
  case round =>
    obtain ⟨k, R, rfl, rfl, hk, hR, hv⟩ := hrel
    by_cases hlt : k < xs.length
    · obtain ⟨b, o, rfl, hc⟩ := ha.pos (by omega)
      obtain ⟨x, hx⟩ : ∃ x, xs[k]? = some x := ⟨_, List.getElem?_eq_getElem hlt⟩
      have hcell := hc k x hx
      have HX := Lib.hid hx
      clear hc hx
      have hlt' : (k : Int) < xs.length := by omega
      have hb := u8_lt x
      obtain ⟨R1, hR1⟩ : ∃ R1 : Nat, R1 = R ^^^ x.toNat := ⟨_, rfl⟩
      have hxor : bits .xor .u32 (R : Int) (x.toNat : Int) = (R1 : Int) := by rw [hR1]; exact u32_xor_nat _ _ (by omega) (by omega)
      have hR1l : R1 < 4294967296 := by
        have : R1 < 2 ^ 32 := by rw [hR1]; exact Nat.xor_lt_two_pow (by omega) (by omega)
        omega
      have HR1 := Lib.hid hR1
      clear hR1
      go_wp2_with fail
      clear hcell hxor hR
      go_loop [3, 17] (fun r i => ∃ j R2 : Nat, i = .int .i64 j ∧ r = .int .u32 R2 ∧ j ≤ 8 ∧ R2 < 4294967296 ∧ Hid (R2 = crcBits j R1)) (fun _ i => 8 - (intOf i).toNat)
      case atStart => exact ⟨0, R1, rfl, rfl, by omega, hR1l, rfl⟩
      case round =>
        obtain ⟨j, R2, rfl, rfl, hj, hR2, hv2⟩ := hrel
        by_cases hj8 : j < 8
        · have i1 : (j : Int) < 8 := by omega
          have hand : bits .and .u32 (R2 : Int) 1 = ((R2 % 2 : Nat) : Int) := by
            have e := u32_and_nat R2 1 hR2 (by omega)
            rw [Nat.and_one_is_mod] at e
            exact e
          by_cases hodd : R2 % 2 = 1
          · rw [hodd] at hand
            obtain ⟨R3, hR3⟩ : ∃ R3 : Nat, R3 = (R2 / 2) ^^^ 2197175160 := ⟨_, rfl⟩
            have hxor : bits .xor .u32 ((R2 : Int) / 2) 2197175160 = (R3 : Int) := by
              have e := u32_xor_nat (R2 / 2) 2197175160 (by omega) (by omega)
              rw [hR3, ← e]
              simp
            have hb : Hid (R3 = crcBit R2) := by show _ = _; rw [crcBit, if_pos hodd, hR3]
            have hl : R3 < 4294967296 := by rw [hb.out]; exact crcBit_lt hR2
            clear hR3 hodd
            go_wp2_with fail
            go_round
            case rel => exact ⟨j + 1, R3, by go_num, rfl, by omega, hl, by show _ = _; rw [hb.out, crcBits, hv2.out]⟩
            case measure => simp [intOf]; omega
          · have h0 : R2 % 2 = 0 := by omega
            rw [h0] at hand
            have hb : Hid (R2 / 2 = crcBit R2) := by show _ = _; rw [crcBit, if_neg hodd]
            clear hodd h0
            go_wp2_with fail
            go_round
            case rel => exact ⟨j + 1, R2 / 2, by go_num, by go_num, by omega, by omega, by show _ = _; rw [hb.out, crcBits, hv2.out]⟩
            case measure => simp [intOf]; omega
        · have i1 : ¬ (j : Int) < 8 := by omega
          have HJ : Hid (j = 8) := by show _ = _; omega
          go_wp2_with fail
          go_round
          case rel =>
            refine ⟨k + 1, R2, by go_num, rfl, by omega, hR2, ?_⟩
            show _ = _
            rw [hv2.out, HJ.out, take_succ_get HX.out, crcAll, List.foldl_append, HR1.out, hv.out]
            rfl
          case measure => simp [intOf]; omega
    · have hlt' : ¬ (k : Int) < xs.length := by omega
      have HE : Hid (crcN xs = R ^^^ 4294967295) := by
        show _ = _
        rw [crcN, hv.out, List.take_of_length_le (by omega)]
      obtain ⟨R1, hR1⟩ : ∃ R1 : Nat, R1 = R ^^^ 4294967295 := ⟨_, rfl⟩
      have hxor : bits .xor .u32 IntKind.u32.max (R : Int) = (R1 : Int) := by
        have e := u32_xor_nat 4294967295 R (by omega) (by omega)
        rw [hR1, Nat.xor_comm, ← e]
        rfl
      have hR1l : R1 < 4294967296 := by
        have : R1 < 2 ^ 32 := by rw [hR1]; exact Nat.xor_lt_two_pow (by omega) (by omega)
        omega
      have HR1 := Lib.hid hR1
      clear hR1
      go_wp2_with fail
      go_ret
      exact ⟨ret_int (by rw [HE.out, ← HR1.out]; exact IntWalk.wrap64_in _ (by omega)), rfl⟩

set_option linter.unusedVariables false

theorem Ob.of_row {w : World} {lo g cap : Nat} {cur : Array Value} (hg : w.heap[g]? = some (.cells cur 5 (0, 0))) (hlo : lo ≤ g) (hm : cap ≤ maxLen) (hs : cur.size = cap) : Ob w lo (some ⟨g, 0, none⟩) cap [] :=
  ⟨rfl, .inr ⟨g, cap, cur, (0, 0), rfl, hlo, hg, .inl rfl, Nat.zero_le _, hm, by omega, by simp⟩⟩
set_option maxHeartbeats 1000000 in
theorem grow_nil (n : Nat) (w : World) (hn : n ≤ 1099511627776) :
    Calls Tryz.prog 120 #[.slice none 0 0, .int .i64 n] w fun e w' => ∃ A c, e = .returned (.slice A 0 c) ∧ Ob w' w.heap.size A c [] ∧ Below w.heap.size w w' := by
  obtain ⟨i0, hi, hz0, hz1, hz2⟩ := info_parts info_u8
  by_cases h0 : n = 0
  · subst h0
    clear hi hz0 hz1 hz2
    go_enter Tryz.func120, Tryz.ntmps120
    go_wp2
    go_ret
    exact ⟨none, 0, rfl, ownsG_nil _ _ _ _, Below.refl _ _⟩
  · have hrun := fun ty => Lib.run_append_nil_zeros (P := Tryz.prog) w 28 3 ty 5 i0 (.int .u8 0) .i64 .i64 Tryz.underlying28 Tryz.underlying3 hi hz0 n (by omega) (by omega) (by omega) (by rw [hz2]; omega)
    have hge := grownCap_ge w n 0 5
    have hle := grownCap_le_maxLen w n 0 5 (by unfold maxLen; omega)
    obtain ⟨K, hK⟩ : ∃ K, K = grownCap w n 0 5 := ⟨_, rfl⟩
    obtain ⟨Z, hZ, hZs⟩ : ∃ Z : Array Value, Z = (Builtin.zeroCells (Value.int .u8 0).cells n ++ Builtin.zeroCells (Value.int .u8 0).cells (grownCap w n 0 5 - n)) ∧ Z.size = K := ⟨_, rfl, by
      have hz1 : (Value.int IntKind.u8 0).cells.size = 1 := rfl
      simp only [Array.size_append, size_zeroCells, hz1]; omega⟩
    rw [← hK] at hge hle
    rw [← hZ, ← hK] at hrun
    clear hZ hK hi hz0 hz1 hz2
    have hpos : (0 : Int) < n := by omega
    have hK0 : ¬ K = 0 := by omega
    have HR := Lib.hid hrun
    clear hrun
    go_enter Tryz.func120, Tryz.ntmps120
    go_wp2_with (at_builtin; refine Lib.wpList_append_run _ rfl _ _ _ _ rfl _ _ rfl rfl _ _ (HR.out _) ?_)
    go_ret
    exact ⟨_, _, rfl, Ob.of_row (by exact heap_alloc_new _ _) (Nat.le_refl _) hle hZs, ((Below.refl _ _).alloc (Nat.le_refl _) _).drew⟩
theorem grow_nilI (z : Int) (n : Nat) (w : World) (hz : z = n) (hn : n ≤ 1099511627776) :
    Calls Tryz.prog 120 #[.slice none 0 0, .int .i64 z] w fun e w' => ∃ A c, e = .returned (.slice A 0 c) ∧ Ob w' w.heap.size A c [] ∧ Below w.heap.size w w' := by
  subst hz; exact grow_nil n w hn
set_option maxHeartbeats 1000000 in
theorem concat2_any (g : Nat) (A A' : Option Addr) (c c' : Nat) (xs ys : List UInt8) (w : World) (ha : By w A xs) (hb : By w A' ys) (h1 : xs.length ≤ 274877906944) (h2 : ys.length ≤ 274877906944)
    (k0 : w.cell? ⟨g, 0, none⟩ = some (.slice A xs.length c)) (k1 : w.cell? ⟨g, 1, none⟩ = some (.slice A' ys.length c')) :
    Calls Tryz.prog 101 #[.slice (some ⟨g, 0, none⟩) 2 2] w fun e w' => ∃ A2 c2 us, Hid (us = xs ++ ys) ∧ e = .returned (.slice A2 us.length c2) ∧ Ob w' w.heap.size A2 c2 us ∧ Below w.heap.size w w' := by
  have hg := World.block_lt_of_cell? w _ k0
  go_enter Tryz.func101, Tryz.ntmps101
  go_wp2_with fail
  refine wp_loop_rounds 3 ?_
  rw [rounds_succ]
  go_wp2_with fail
  rw [rounds_succ]
  go_wp2_with fail
  rw [rounds_succ]
  go_wp2_with fail
  refine (grow_nilI _ (xs.length + ys.length) _ (by omega) (by omega)).mono ?_
  rintro e w1 ⟨A0, c0, rfl, ho0, hb0⟩
  have z0 := hb0.size
  have hgl : g < w.heap.size := hg
  have k0' : w1.cell? ⟨g, 0, none⟩ = some (.slice A xs.length c) := (hb0.cell (p := ⟨g, 0, none⟩) hgl).trans k0
  have k1' : w1.cell? ⟨g, 1, none⟩ = some (.slice A' ys.length c') := (hb0.cell (p := ⟨g, 1, none⟩) hgl).trans k1
  clear k0 k1
  go_wp2_with fail
  refine wp_loop_rounds 3 ?_
  rw [rounds_succ]
  go_wp2_with (refine wp_appN rfl _ _ rfl w.heap.size _ _ [] _ _ _ xs ho0 (ha.below hb0) rfl rfl (by simp) (by omega) z0 ?_; intro A1 c1 w2 u1 hu1 ho1 hb1)
  have hl1 : u1.length ≤ xs.length := by rw [hu1.out]; simp
  have hb01 : Below w.heap.size w w2 := hb0.trans hb1
  have z1 := hb01.size
  have k1'' : w2.cell? ⟨g, 1, none⟩ = some (.slice A' ys.length c') := (hb1.cell (p := ⟨g, 1, none⟩) hgl).trans k1'
  clear k0' k1'
  rw [rounds_succ]
  go_wp2_with (refine wp_appN rfl _ _ rfl w.heap.size _ _ _ _ _ _ ys ho1 (hb.below hb01) rfl rfl (by omega) (by omega) z1 ?_; intro A2 c2 w3 u2 hu2 ho2 hb2)
  rw [rounds_succ]
  go_wp2_with fail
  go_ret
  exact ⟨A2, c2, u2, Lib.hid (by rw [hu2.out, hu1.out]; simp), rfl, ho2, hb01.trans hb2⟩
set_option maxHeartbeats 1000000 in
theorem sumOf_any (A A' : Option Addr) (c c' : Nat) (xs ys : List UInt8) (w : World) (ha : By w A xs) (hb : By w A' ys) (h1 : xs.length ≤ 137438953472) (h2 : ys.length ≤ 137438953472) :
    Calls Tryz.prog 69 #[.slice A xs.length c, .slice A' ys.length c'] w fun e w' => e = .returned (.int .i64 (crcN (xs ++ ys))) ∧ Below w.heap.size w w' := by
  go_enter Tryz.func69, Tryz.ntmps69
  go_wp2_with fail
  refine (concat2_any w.heap.size A A' c c' xs ys _ (ha.below ((Below.refl _ _).alloc (Nat.le_refl _) _)) (hb.below ((Below.refl _ _).alloc (Nat.le_refl _) _)) (by omega) (by omega) (by simp) (by simp)).mono ?_
  rintro e w1 ⟨A2, c2, us, hus, rfl, ho, hb1⟩
  have hl : us.length ≤ 274877906944 := by rw [hus.out]; simp; omega
  go_wp2_with fail
  refine (crc_impl _ _ _ _ ho.by_ (by omega)).mono ?_
  rintro e w2 ⟨rfl, rfl⟩
  go_wp2_with fail
  go_ret
  exact ⟨ret_int (by rw [hus.out]), ((Below.refl _ _).alloc (Nat.le_refl _) _).trans (hb1.mono (by simp))⟩
theorem isSeq_any (n : Int) (w : World) : Calls Tryz.prog 68 #[.int .i64 n] w fun e w' => e = .returned (.bool (decide (1 ≤ n ∧ n ≤ 1000000000))) ∧ w = w' := by
  go_enter Tryz.func68, Tryz.ntmps68
  go_wp2_with (go_at_call 81; refine (within_any _ _ _ _).mono ?_; rintro e w' ⟨rfl, rfl⟩)
  go_ret
  exact ⟨ret_bool (by simp), rfl⟩
theorem isSeq_yes {n : Int} (h1 : 1 ≤ n) (h2 : n ≤ 1000000000) (w : World) : Calls Tryz.prog 68 #[.int .i64 n] w fun e w' => e = .returned (.bool true) ∧ w = w' :=
  (isSeq_any n w).mono fun e w' ⟨he, hw⟩ => ⟨he.trans (by simp; exact ⟨h1, h2⟩), hw⟩
theorem isSeq_no {n : Int} (h : n < 1 ∨ 1000000000 < n) (w : World) : Calls Tryz.prog 68 #[.int .i64 n] w fun e w' => e = .returned (.bool false) ∧ w = w' :=
  (isSeq_any n w).mono fun e w' ⟨he, hw⟩ => ⟨he.trans (by simp; omega), hw⟩
theorem isGen_anyP (n : Int) (w : World) : Calls Tryz.prog 62 #[.int .i64 n] w fun e w' => e = .returned (.bool (decide (1 ≤ n ∧ n ≤ 1000000000))) ∧ w = w' := by
  go_enter Tryz.func62, Tryz.ntmps62
  go_wp2_with (go_at_call 81; refine (within_any _ _ _ _).mono ?_; rintro e w' ⟨rfl, rfl⟩)
  go_ret
  exact ⟨ret_bool (by simp), rfl⟩
theorem isGen_yes {n : Int} (h1 : 1 ≤ n) (h2 : n ≤ 1000000000) (w : World) : Calls Tryz.prog 62 #[.int .i64 n] w fun e w' => e = .returned (.bool true) ∧ w = w' :=
  (isGen_anyP n w).mono fun e w' ⟨he, hw⟩ => ⟨he.trans (by simp; exact ⟨h1, h2⟩), hw⟩
theorem isGen_no {n : Int} (h : n < 1 ∨ 1000000000 < n) (w : World) : Calls Tryz.prog 62 #[.int .i64 n] w fun e w' => e = .returned (.bool false) ∧ w = w' :=
  (isGen_anyP n w).mono fun e w' ⟨he, hw⟩ => ⟨he.trans (by simp; omega), hw⟩

/-- A frame's bytes up to the checksum. -/
def frameHead (seq : Int) (data : List UInt8) : List UInt8 := 167 :: (varB seq.toNat ++ varB data.length)
def frameB (seq : Int) (data : List UInt8) : List UInt8 := frameHead seq data ++ varB (crcN (frameHead seq data ++ data)) ++ data
def frameR (seq : Int) (data : List UInt8) : List UInt8 × Bool := if (1 ≤ seq ∧ seq ≤ 1000000000) ∧ data.length ≤ 60000 then (frameB seq data, true) else ([], false)
theorem frameHead_len {seq : Int} {data : List UInt8} (h1 : seq ≤ 1000000000) (h2 : data.length ≤ 150000) : (frameHead seq data).length ≤ 11 := by
  have a := varB_len5 (n := seq.toNat) (by omega)
  have b := varB_len5 (n := data.length) (by omega)
  simp [frameHead]; omega
theorem frameR_len (seq : Int) (data : List UInt8) : (frameR seq data).1.length ≤ data.length + 16 := by
  unfold frameR
  split
  · rename_i h
    have a := frameHead_len h.1.2 (show data.length ≤ 150000 by omega)
    have b := varB_len5 (crcN_le (frameHead seq data ++ data))
    simp [frameB]; omega
  · simp
/-- The reference's own way: each number put on a copy. -/
theorem putVar_specN (A : Option Addr) (c : Nat) (xs : List UInt8) (z : Int) (n : Nat) (w : World) (hz : z = n) (ha : By w A xs) (h1 : xs.length ≤ 549755813888) (hn : n ≤ 4294967295) :
    Calls Tryz.prog 86 #[.slice A xs.length c, .int .i64 z] w fun e w' => ∃ A' c' us, Hid (us = xs ++ varB n) ∧ e = .returned (.tuple #[.slice A' us.length c', .bool true]) ∧ Ob w' w.heap.size A' c' us ∧ Below w.heap.size w w' := by
  subst hz; exact putVar_spec A c xs n w ha h1 hn
set_option maxHeartbeats 1000000 in
theorem frameBytes_spec (A : Option Addr) (c : Nat) (xs : List UInt8) (seq : Int) (w : World) (ha : By w A xs) (h1 : xs.length ≤ 137438953472) :
    Calls Tryz.prog 104 #[.int .i64 seq, .slice A xs.length c] w (PutPost w (frameR seq xs)) := by
  by_cases hs : 1 ≤ seq ∧ seq ≤ 1000000000
  · by_cases hx : xs.length ≤ 60000
    · have hx' : ¬ (60000 : Int) < xs.length := by omega
      obtain ⟨hs1, hs2⟩ := hs
      go_enter Tryz.func104, Tryz.ntmps104
      go_wp2_with fail
      have hbox : Below w.heap.size w (w.alloc (.cells #[.int .u8 167] 5)) := (Below.refl _ _).alloc (Nat.le_refl _) _
      refine (putVar_specN _ _ [167] _ seq.toNat _ (by omega) (.inr ⟨w.heap.size, 0, rfl, ?_⟩) (by simp) (by omega)).mono ?_
      · intro i x hi
        cases i with
        | zero => simp at hi; subst hi; simp
        | succ i => simp at hi
      rintro e w1 ⟨A1, c1, u1, hu1, rfl, ho1, hb1⟩
      have hl1 : u1.length ≤ 6 := by rw [hu1.out]; have := varB_len5 (n := seq.toNat) (by omega); simp; omega
      have hbw1 := hbox.trans (hb1.mono (by simp))
      have z1 := hbw1.size
      go_wp2_with fail
      refine (putVar_spec _ _ _ _ _ ho1.by_ (by omega) (by omega)).mono ?_
      rintro e w2 ⟨A2, c2, u2, hu2, rfl, ho2, hb2⟩
      have hl2 : u2.length ≤ 11 := by rw [hu2.out]; have := varB_len5 (n := xs.length) (by omega); simp; omega
      have hbw2 := hbw1.trans (hb2.mono z1)
      have z2 := hbw2.size
      have hbox2 : Below w2.heap.size w2 (w2.alloc (.cells #[] 5)) := (Below.refl _ _).alloc (Nat.le_refl _) _
      go_wp2_with (first
        | (at_builtin; refine wp_appN rfl _ _ rfl w2.heap.size _ _ [] _ _ _ u2 Ob.empty (ho2.by_.below hbox2) rfl rfl (by simp) (by omega) (by simp) ?_; intro A3 c3 w3 u3 hu3 ho3 hb3; have hl3 : u3.length ≤ 11 := (by rw [hu3.out]; simpa using hl2); have hb23 := hbox2.trans hb3; have hbw3 := hbw2.trans (hb23.mono z2); have z3 := hb23.size)
        | (at_builtin; refine wp_appN rfl _ _ rfl w2.heap.size _ _ _ _ _ _ xs ho3 (ha.below hbw3) rfl rfl (by omega) (by omega) z3 ?_; intro A4 c4 w4 u4 hu4 ho4 hb4))
      have hl4 : u4.length ≤ xs.length + 11 := by rw [hu4.out]; simp; omega
      have hb24 := hb23.trans hb4
      have hbw4 := hbw2.trans (hb24.mono z2)
      have z4 := hb24.size
      go_wp2_with fail
      refine (crc_spec _ _ _ _ ho4.by_ (by omega)).mono ?_
      rintro e w4' ⟨rfl, rfl⟩
      have hcr := crcN_le u4
      go_wp2_with fail
      refine (putVar_spec _ _ _ _ _ (ho2.below hb24 (Nat.le_refl _)).by_ (by omega) hcr).mono ?_
      rintro e w5 ⟨A5, c5, u5, hu5, rfl, ho5, hb5⟩
      have hl5 : u5.length ≤ 16 := by rw [hu5.out]; have := varB_len5 hcr; simp; omega
      have hbw5 := hbw4.trans (hb5.mono (by omega))
      have z5 := hb5.size
      go_wp2_with (refine wp_appN rfl _ _ rfl w4.heap.size _ _ _ _ _ _ xs ho5 (ha.below hbw5) rfl rfl (by omega) (by omega) z5 ?_; intro A6 c6 w6 u6 hu6 ho6 hb6)
      go_ret2
      have hH : u2 = frameHead seq xs := by rw [hu2.out, hu1.out, frameHead]; simp
      have hC : u4 = u2 ++ xs := by rw [hu4.out, hu3.out]; simp
      refine ⟨A6, c6, u6, true, Lib.hid ?_, Lib.hid ?_, rfl, ho6.mono (by omega), hbw5.trans (hb6.mono (by omega))⟩
      · rw [hu6.out, hu5.out, hC, hH, frameR, if_pos ⟨⟨by omega, by omega⟩, hx⟩, frameB]
      · rw [frameR, if_pos ⟨⟨by omega, by omega⟩, hx⟩]
    · have hx' : (60000 : Int) < xs.length := by omega
      obtain ⟨hs1, hs2⟩ := hs
      go_enter Tryz.func104, Tryz.ntmps104
      go_wp2_with fail
      go_ret2
      exact ⟨none, 0, [], false, Lib.hid (by rw [frameR, if_neg (by omega)]), Lib.hid (by rw [frameR, if_neg (by omega)]), rfl, ownsG_nil _ _ _ _, Below.refl _ _⟩
  · by_cases hs1 : seq < 1
    · go_enter Tryz.func104, Tryz.ntmps104
      go_wp2_with fail
      go_ret2
      exact ⟨none, 0, [], false, Lib.hid (by rw [frameR, if_neg (by omega)]), Lib.hid (by rw [frameR, if_neg (by omega)]), rfl, ownsG_nil _ _ _ _, Below.refl _ _⟩
    · have hs2 : 1000000000 < seq := by omega
      go_enter Tryz.func104, Tryz.ntmps104
      go_wp2_with fail
      go_ret2
      exact ⟨none, 0, [], false, Lib.hid (by rw [frameR, if_neg (by omega)]), Lib.hid (by rw [frameR, if_neg (by omega)]), rfl, ownsG_nil _ _ _ _, Below.refl _ _⟩
end Go.Proofs.YtpaeffmjkkikbaaGreatDoor
