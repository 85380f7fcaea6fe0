/- The law of FrameBytes. A snapshot's bytes. The law of SnapBytes. -/
import Derived.Test.YtpaeffmjkkikbaaGreatDoorPc
import Derived.Lib.SlBytesConst
namespace Go.Proofs.YtpaeffmjkkikbaaGreatDoor
open Go.RowKit

set_option linter.unusedVariables false

set_option linter.unusedVariables false

/-- A snapshot's bytes up to the checksum. -/
def snapHead (gen seq : Int) (data : List UInt8) : List UInt8 := [83, 78, 65, 80] ++ varB gen.toNat ++ varB seq.toNat ++ varB data.length
def snapB (gen seq : Int) (data : List UInt8) : List UInt8 := snapHead gen seq data ++ varB (crcN (snapHead gen seq data ++ data)) ++ data
def snapGood (gen seq : Int) (data : List UInt8) : Prop := (1 ≤ gen ∧ gen ≤ 1000000000) ∧ (1 ≤ seq ∧ seq ≤ 1000000000) ∧ data.length ≤ 150000
instance (gen seq : Int) (data : List UInt8) : Decidable (snapGood gen seq data) := by unfold snapGood; exact inferInstance
def snapR (gen seq : Int) (data : List UInt8) : List UInt8 × Bool := if snapGood gen seq data then (snapB gen seq data, true) else ([], false)
theorem snapR_no {gen seq : Int} {data : List UInt8} (h : ¬ snapGood gen seq data) : snapR gen seq data = ([], false) := if_neg h
theorem snapR_yes {gen seq : Int} {data : List UInt8} (h : snapGood gen seq data) : snapR gen seq data = (snapB gen seq data, true) := if_pos h
theorem snapHead_len {gen seq : Int} {data : List UInt8} (h : snapGood gen seq data) : (snapHead gen seq data).length ≤ 19 := by
  obtain ⟨⟨h1, h2⟩, ⟨h3, h4⟩, h5⟩ := h
  have a := varB_len5 (n := gen.toNat) (by omega)
  have b := varB_len5 (n := seq.toNat) (by omega)
  have c := varB_len5 (n := data.length) (by omega)
  simp [snapHead]; omega
theorem snapR_len (gen seq : Int) (data : List UInt8) : (snapR gen seq data).1.length ≤ data.length + 24 := by
  by_cases h : snapGood gen seq data
  · rw [snapR_yes h]
    have a := snapHead_len h
    have b := varB_len5 (crcN_le (snapHead gen seq data ++ data))
    simp [snapB]; omega
  · rw [snapR_no h]; simp
theorem put_no {w : World} {r : List UInt8 × Bool} (hr : r = ([], false)) : PutPost w r (.returned (.tuple #[.slice none 0 0, .bool false])) w :=
  ⟨none, 0, [], false, Lib.hid (by rw [hr]), Lib.hid (by rw [hr]), rfl, ownsG_nil _ _ _ _, Below.refl _ _⟩
/-- The four bytes of the word a snapshot begins with. -/
theorem Ob.const {w : World} {C : Array Value} {bs : List UInt8} {k : Nat} (hk : k = bs.length) (hC : C.toList = bs.map B) (hm : bs.length ≤ maxLen) : Ob (w.alloc (.cells C 5 (C.size, C.size + 1))) w.heap.size (some ⟨w.heap.size, 0, none⟩) k bs := by
  have hs : C.size = bs.length := by rw [← Array.length_toList, hC, List.length_map]
  subst hk
  exact ⟨by simp, .inr ⟨w.heap.size, bs.length, C, _, rfl, Nat.le_refl _, heap_alloc_new _ _, .inr (Nat.le_refl _), Nat.le_refl _, hm, by omega, by rw [hC]; exact List.take_of_length_le (by simp)⟩⟩
set_option maxHeartbeats 1000000 in
theorem snapBytes_spec (A : Option Addr) (c : Nat) (xs : List UInt8) (gen seq : Int) (w : World) (ha : By w A xs) (h1 : xs.length ≤ 137438953472) :
    Calls Tryz.prog 54 #[.int .i64 gen, .int .i64 seq, .slice A xs.length c] w (PutPost w (snapR gen seq xs)) := by
  by_cases HG : snapGood gen seq xs
  · have HY := Lib.hid (snapR_yes HG)
    obtain ⟨⟨hg1, hg2⟩, ⟨hs1, hs2⟩, hx⟩ := HG
    have hx' : ¬ (150000 : Int) < xs.length := by omega
    have kc := fun (w : World) (C : Array Value) (n c : Nat) => Lib.run_convert_bytes_const (P := Tryz.prog) w 28 5 C n c Tryz.underlying28 Tryz.underlying5
    go_enter Tryz.func54, Tryz.ntmps54
    go_wp2_with fail
    have hbox : Below w.heap.size w (w.alloc (.cells #[B 83, B 78, B 65, B 80] 5 (4, 5))) := (Below.refl _ _).alloc (Nat.le_refl _) _
    refine (putVar_specN _ _ [83, 78, 65, 80] _ gen.toNat _ (by omega) (Ob.const (k := 4) (by rfl) (by rfl) (by unfold maxLen; simp)).by_ (by simp) (by omega)).mono ?_
    rintro e w1 ⟨A1, c1, u1, hu1, rfl, ho1, hb1⟩
    have hl1 : u1.length ≤ 9 := by rw [hu1.out]; have := varB_len5 (n := gen.toNat) (by omega); simp; omega
    have hbw1 := hbox.trans (hb1.mono (by simp))
    have z1 := hbw1.size
    go_wp2_with fail
    refine (putVar_specN _ _ _ _ seq.toNat _ (by omega) ho1.by_ (by omega) (by omega)).mono ?_
    rintro e w1b ⟨A1b, c1b, u1b, hu1b, rfl, ho1b, hb1b⟩
    have hl1b : u1b.length ≤ 14 := by rw [hu1b.out]; have := varB_len5 (n := seq.toNat) (by omega); simp; omega
    have hbw1b := hbw1.trans (hb1b.mono z1)
    have z1b := hbw1b.size
    go_wp2_with fail
    refine (putVar_spec _ _ _ _ _ ho1b.by_ (by omega) (by omega)).mono ?_
    rintro e w2 ⟨A2, c2, u2, hu2, rfl, ho2, hb2⟩
    have hl2 : u2.length ≤ 19 := by rw [hu2.out]; have := varB_len5 (n := xs.length) (by omega); simp; omega
    have hbw2 := hbw1b.trans (hb2.mono z1b)
    have z2 := hbw2.size
    have hbox2 : Below w2.heap.size w2 (w2.alloc (.cells #[] 5)) := (Below.refl _ _).alloc (Nat.le_refl _) _
    go_wp2_with (first
      | (at_builtin; refine wp_appN rfl _ _ rfl w2.heap.size _ _ [] _ _ _ u2 Ob.empty (ho2.by_.below hbox2) rfl rfl (by simp) (by omega) (by simp) ?_; intro A3 c3 w3 u3 hu3 ho3 hb3; have hl3 : u3.length ≤ 19 := (by rw [hu3.out]; simpa using hl2); have hb23 := hbox2.trans hb3; have hbw3 := hbw2.trans (hb23.mono z2); have z3 := hb23.size)
      | (at_builtin; refine wp_appN rfl _ _ rfl w2.heap.size _ _ _ _ _ _ xs ho3 (ha.below hbw3) rfl rfl (by omega) (by omega) z3 ?_; intro A4 c4 w4 u4 hu4 ho4 hb4))
    have hl4 : u4.length ≤ xs.length + 19 := by rw [hu4.out]; simp; omega
    have hb24 := hb23.trans hb4
    have hbw4 := hbw2.trans (hb24.mono z2)
    have z4 := hb24.size
    go_wp2_with fail
    refine (crc_spec _ _ _ _ ho4.by_ (by omega)).mono ?_
    rintro e w4' ⟨rfl, rfl⟩
    have hcr := crcN_le u4
    go_wp2_with fail
    refine (putVar_spec _ _ _ _ _ (ho2.below hb24 (Nat.le_refl _)).by_ (by omega) hcr).mono ?_
    rintro e w5 ⟨A5, c5, u5, hu5, rfl, ho5, hb5⟩
    have hl5 : u5.length ≤ 24 := by rw [hu5.out]; have := varB_len5 hcr; simp; omega
    have hbw5 := hbw4.trans (hb5.mono (by omega))
    have z5 := hb5.size
    go_wp2_with (refine wp_appN rfl _ _ rfl w4.heap.size _ _ _ _ _ _ xs ho5 (ha.below hbw5) rfl rfl (by omega) (by omega) z5 ?_; intro A6 c6 w6 u6 hu6 ho6 hb6)
    go_ret2
    have hH : u2 = snapHead gen seq xs := by rw [hu2.out, hu1b.out, hu1.out, snapHead]
    have hC : u4 = u2 ++ xs := by rw [hu4.out, hu3.out]; simp
    refine ⟨A6, c6, u6, true, Lib.hid ?_, Lib.hid ?_, rfl, ho6.mono (by omega), hbw5.trans (hb6.mono (by omega))⟩
    · rw [hu6.out, hu5.out, hC, hH, HY.out, snapB]
    · rw [HY.out]
  · have HN := Lib.hid (snapR_no HG)
    by_cases g1 : gen < 1
    · clear HG
      go_enter Tryz.func54, Tryz.ntmps54
      go_wp2_with fail
      go_ret2
      exact put_no HN.out
    by_cases g2 : 1000000000 < gen
    · clear HG
      go_enter Tryz.func54, Tryz.ntmps54
      go_wp2_with fail
      go_ret2
      exact put_no HN.out
    by_cases g3 : seq < 1
    · clear HG
      go_enter Tryz.func54, Tryz.ntmps54
      go_wp2_with fail
      go_ret2
      exact put_no HN.out
    by_cases g4 : 1000000000 < seq
    · clear HG
      go_enter Tryz.func54, Tryz.ntmps54
      go_wp2_with fail
      go_ret2
      exact put_no HN.out
    have g5 : (150000 : Int) < xs.length := by
      rcases Nat.lt_or_ge 150000 xs.length with h | h
      · omega
      · exact (HG ⟨⟨by omega, by omega⟩, ⟨by omega, by omega⟩, h⟩).elim
    clear HG
    go_enter Tryz.func54, Tryz.ntmps54
    go_wp2_with fail
    go_ret2
    exact put_no HN.out

set_option linter.unusedVariables false

end Go.Proofs.YtpaeffmjkkikbaaGreatDoor
