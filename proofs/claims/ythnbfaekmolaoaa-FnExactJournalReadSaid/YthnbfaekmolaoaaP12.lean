/- A snapshot's bytes. -/
import Derived.Test.YthnbfaekmolaoaaP11
import Derived.Lib.SlBytesConst
namespace Go.Proofs.Ythnbfaekmolaoaa
open Go.RowKit
set_option linter.unusedVariables false

/-- A snapshot's bytes up to the checksum. -/
def snapHead (gen seq : Int) (data : List UInt8) : List UInt8 := [83, 78, 65, 80] ++ varB gen.toNat ++ varB seq.toNat ++ varB data.length
def snapB (gen seq : Int) (data : List UInt8) : List UInt8 := snapHead gen seq data ++ varB (crcN (snapHead gen seq data ++ data)) ++ data
def snapGood (gen seq : Int) (data : List UInt8) : Prop := (1 ≤ gen ∧ gen ≤ 1000000000) ∧ (1 ≤ seq ∧ seq ≤ 1000000000) ∧ data.length ≤ 150000
instance (gen seq : Int) (data : List UInt8) : Decidable (snapGood gen seq data) := by unfold snapGood; exact inferInstance
def snapR (gen seq : Int) (data : List UInt8) : List UInt8 × Bool := if snapGood gen seq data then (snapB gen seq data, true) else ([], false)
theorem snapR_no {gen seq : Int} {data : List UInt8} (h : ¬ snapGood gen seq data) : snapR gen seq data = ([], false) := if_neg h
theorem snapR_yes {gen seq : Int} {data : List UInt8} (h : snapGood gen seq data) : snapR gen seq data = (snapB gen seq data, true) := if_pos h
theorem snapHead_len {gen seq : Int} {data : List UInt8} (h : snapGood gen seq data) : (snapHead gen seq data).length ≤ 19 := by
  obtain ⟨⟨h1, h2⟩, ⟨h3, h4⟩, h5⟩ := h
  have a := varB_len5 (n := gen.toNat) (by omega)
  have b := varB_len5 (n := seq.toNat) (by omega)
  have c := varB_len5 (n := data.length) (by omega)
  simp [snapHead]; omega
theorem snapR_len (gen seq : Int) (data : List UInt8) : (snapR gen seq data).1.length ≤ data.length + 24 := by
  by_cases h : snapGood gen seq data
  · rw [snapR_yes h]
    have a := snapHead_len h
    have b := varB_len5 (crcN_le (snapHead gen seq data ++ data))
    simp [snapB]; omega
  · rw [snapR_no h]; simp
theorem put_no {w : World} {r : List UInt8 × Bool} (hr : r = ([], false)) : PutPost w r (.returned (.tuple #[.slice none 0 0, .bool false])) w :=
  ⟨none, 0, [], false, Lib.hid (by rw [hr]), Lib.hid (by rw [hr]), rfl, ownsG_nil _ _ _ _, Below.refl _ _⟩
/-- The four bytes of the word a snapshot begins with. -/
theorem Ob.const {w : World} {C : Array Value} {bs : List UInt8} {k : Nat} (hk : k = bs.length) (hC : C.toList = bs.map B) (hm : bs.length ≤ maxLen) : Ob (w.alloc (.cells C 5 (C.size, C.size + 1))) w.heap.size (some ⟨w.heap.size, 0, none⟩) k bs := by
  have hs : C.size = bs.length := by rw [← Array.length_toList, hC, List.length_map]
  subst hk
  exact ⟨by simp, .inr ⟨w.heap.size, bs.length, C, _, rfl, Nat.le_refl _, heap_alloc_new _ _, .inr (Nat.le_refl _), Nat.le_refl _, hm, by omega, by rw [hC]; exact List.take_of_length_le (by simp)⟩⟩
theorem putVar_anyI (lo : Nat) (A : Option Addr) (c : Nat) (xs : List UInt8) (z : Int) (n : Nat) (w : World) (hz : z = n) (ha : Ob w lo A c xs) (hlo : lo ≤ w.heap.size) (h1 : xs.length ≤ 549755813888) (hn : n ≤ 4294967295) :
    Calls Try.prog 58 #[.slice A xs.length c, .int .i64 z] w fun e w' => ∃ A' c' us, Hid (us = xs ++ varB n) ∧ e = .returned (.slice A' us.length c') ∧ Ob w' lo A' c' us ∧ Below lo w w' := by
  subst hz; exact putVar_any lo _ _ _ _ _ ha hlo h1 hn
set_option maxHeartbeats 1000000 in
theorem snapBytes_impl (A : Option Addr) (c : Nat) (xs : List UInt8) (gen seq : Int) (w : World) (ha : By w A xs) (h1 : xs.length ≤ 137438953472) :
    Calls Try.prog 38 #[.int .i64 gen, .int .i64 seq, .slice A xs.length c] w (PutPost w (snapR gen seq xs)) := by
  by_cases hg : 1 ≤ gen ∧ gen ≤ 1000000000
  · by_cases hs : 1 ≤ seq ∧ seq ≤ 1000000000
    · by_cases hx : xs.length ≤ 150000
      · have HG : Hid (snapGood gen seq xs) := ⟨hg, hs, hx⟩
        have hx' : ¬ (150000 : Int) < xs.length := by omega
        obtain ⟨hs1, hs2⟩ := hs
        obtain ⟨hg1, hg2⟩ := hg
        have kc := fun (w : World) (C : Array Value) (n c : Nat) => Lib.run_convert_bytes_const (P := Try.prog) w 23 5 C n c Try.underlying23 Try.underlying5
        go_enter Try.func38, Try.ntmps38
        go_wp2_with (first
          | (go_at_call 60; refine (isSeq_yes (by omega) (by omega) _).mono ?_; rintro e w' ⟨rfl, rfl⟩)
          | (go_at_call 62; refine (isGen_yes (by omega) (by omega) _).mono ?_; rintro e w' ⟨rfl, rfl⟩))
        have hbox : Below w.heap.size w (w.alloc (.cells #[B 83, B 78, B 65, B 80] 5 (4, 5))) := (Below.refl _ _).alloc (Nat.le_refl _) _
        refine (putVar_anyI w.heap.size _ _ [83, 78, 65, 80] _ gen.toNat _ (by omega) (Ob.const (by rfl) (by rfl) (by unfold maxLen; simp)) (by simp) (by simp) (by omega)).mono ?_
        rintro e w1 ⟨A1, c1, u1, hu1, rfl, ho1, hb1⟩
        have hl1 : u1.length ≤ 9 := by rw [hu1.out]; have := varB_len5 (n := gen.toNat) (by omega); simp; omega
        have hbw1 := hbox.trans hb1
        have z1 := hbw1.size
        go_wp2_with fail
        refine (putVar_anyI w.heap.size _ _ _ _ seq.toNat _ (by omega) ho1 z1 (by omega) (by omega)).mono ?_
        rintro e w2 ⟨A2, c2, u2, hu2, rfl, ho2, hb2⟩
        have hl2 : u2.length ≤ 14 := by rw [hu2.out]; have := varB_len5 (n := seq.toNat) (by omega); simp; omega
        have hbw2 := hbw1.trans hb2
        have z2 := hbw2.size
        go_wp2_with fail
        refine (putVar_any w.heap.size _ _ _ _ _ ho2 z2 (by omega) (by omega)).mono ?_
        rintro e w2b ⟨A2b, c2b, u2b, hu2b, rfl, ho2b, hb2b⟩
        have hl2b : u2b.length ≤ 19 := by rw [hu2b.out]; have := varB_len5 (n := xs.length) (by omega); simp; omega
        have hbw2b := hbw2.trans hb2b
        have z2b := hbw2b.size
        go_wp2_with fail
        refine (sumOf_any _ _ _ _ _ _ _ ho2b.by_ (ha.below hbw2b) (by omega) (by omega)).mono ?_
        rintro e w3 ⟨rfl, hb3⟩
        have hbw3 := hbw2b.trans (hb3.mono z2b)
        have z3 := hbw3.size
        have hcr := crcN_le (u2b ++ xs)
        go_wp2_with fail
        refine (putVar_any w.heap.size _ _ _ _ _ (ho2b.below hb3 (Nat.le_refl _)) z3 (by omega) hcr).mono ?_
        rintro e w4 ⟨A4, c4, u4, hu4, rfl, ho4, hb4⟩
        have hl4 : u4.length ≤ 24 := by rw [hu4.out]; have := varB_len5 hcr; simp; omega
        have hbw4 := hbw3.trans hb4
        have z4 := hbw4.size
        go_wp2_with (refine wp_appN rfl _ _ rfl w.heap.size _ _ _ _ _ _ xs ho4 (ha.below hbw4) rfl rfl (by omega) (by omega) z4 ?_; intro A5 c5 w5 u5 hu5 ho5 hb5)
        go_ret2
        have hH : u2b = snapHead gen seq xs := by rw [hu2b.out, hu2.out, hu1.out, snapHead]
        refine ⟨A5, c5, u5, true, Lib.hid ?_, Lib.hid ?_, rfl, ho5, hbw4.trans hb5⟩
        · rw [hu5.out, hu4.out, hH, snapR_yes HG.out, snapB]
        · rw [snapR_yes HG.out]
      · have HG := snapR_no (gen := gen) (seq := seq) (data := xs) (fun h => hx h.2.2)
        have hx' : (150000 : Int) < xs.length := by omega
        go_enter Try.func38, Try.ntmps38
        go_wp2_with (first
          | (go_at_call 60; refine (isSeq_yes (by omega) (by omega) _).mono ?_; rintro e w' ⟨rfl, rfl⟩)
          | (go_at_call 62; refine (isGen_yes (by omega) (by omega) _).mono ?_; rintro e w' ⟨rfl, rfl⟩))
        go_ret2
        exact put_no HG
    · have HG := snapR_no (gen := gen) (seq := seq) (data := xs) (fun h => hs h.2.1)
      go_enter Try.func38, Try.ntmps38
      go_wp2_with (first
          | (go_at_call 60; refine (isSeq_no (by omega) _).mono ?_; rintro e w' ⟨rfl, rfl⟩)
          | (go_at_call 62; refine (isGen_yes (by omega) (by omega) _).mono ?_; rintro e w' ⟨rfl, rfl⟩))
      go_ret2
      exact put_no HG
  · have HG := snapR_no (gen := gen) (seq := seq) (data := xs) (fun h => hg h.1)
    go_enter Try.func38, Try.ntmps38
    go_wp2_with (go_at_call 62; refine (isGen_no (by omega) _).mono ?_; rintro e w' ⟨rfl, rfl⟩)
    go_ret2
    exact put_no HG
set_option maxHeartbeats 1000000 in
theorem snapBytes_spec (A : Option Addr) (c : Nat) (xs : List UInt8) (gen seq : Int) (w : World) (ha : By w A xs) (h1 : xs.length ≤ 137438953472) :
    Calls Try.prog 37 #[.int .i64 gen, .int .i64 seq, .slice A xs.length c] w (PutPost w (snapR gen seq xs)) := by
  by_cases HG : snapGood gen seq xs
  · have HY := Lib.hid (snapR_yes HG)
    obtain ⟨⟨hg1, hg2⟩, ⟨hs1, hs2⟩, hx⟩ := HG
    have hx' : ¬ (150000 : Int) < xs.length := by omega
    have kc := fun (w : World) (C : Array Value) (n c : Nat) => Lib.run_convert_bytes_const (P := Try.prog) w 23 5 C n c Try.underlying23 Try.underlying5
    go_enter Try.func37, Try.ntmps37
    go_wp2_with fail
    have hbox : Below w.heap.size w (w.alloc (.cells #[B 83, B 78, B 65, B 80] 5 (4, 5))) := (Below.refl _ _).alloc (Nat.le_refl _) _
    refine (putVar_specN _ _ [83, 78, 65, 80] _ gen.toNat _ (by omega) (Ob.const (k := 4) (by rfl) (by rfl) (by unfold maxLen; simp)).by_ (by simp) (by omega)).mono ?_
    rintro e w1 ⟨A1, c1, u1, hu1, rfl, ho1, hb1⟩
    have hl1 : u1.length ≤ 9 := by rw [hu1.out]; have := varB_len5 (n := gen.toNat) (by omega); simp; omega
    have hbw1 := hbox.trans (hb1.mono (by simp))
    have z1 := hbw1.size
    go_wp2_with fail
    refine (putVar_specN _ _ _ _ seq.toNat _ (by omega) ho1.by_ (by omega) (by omega)).mono ?_
    rintro e w1b ⟨A1b, c1b, u1b, hu1b, rfl, ho1b, hb1b⟩
    have hl1b : u1b.length ≤ 14 := by rw [hu1b.out]; have := varB_len5 (n := seq.toNat) (by omega); simp; omega
    have hbw1b := hbw1.trans (hb1b.mono z1)
    have z1b := hbw1b.size
    go_wp2_with fail
    refine (putVar_spec _ _ _ _ _ ho1b.by_ (by omega) (by omega)).mono ?_
    rintro e w2 ⟨A2, c2, u2, hu2, rfl, ho2, hb2⟩
    have hl2 : u2.length ≤ 19 := by rw [hu2.out]; have := varB_len5 (n := xs.length) (by omega); simp; omega
    have hbw2 := hbw1b.trans (hb2.mono z1b)
    have z2 := hbw2.size
    have hbox2 : Below w2.heap.size w2 (w2.alloc (.cells #[] 5)) := (Below.refl _ _).alloc (Nat.le_refl _) _
    go_wp2_with (first
      | (at_builtin; refine wp_appN rfl _ _ rfl w2.heap.size _ _ [] _ _ _ u2 Ob.empty (ho2.by_.below hbox2) rfl rfl (by simp) (by omega) (by simp) ?_; intro A3 c3 w3 u3 hu3 ho3 hb3; have hl3 : u3.length ≤ 19 := (by rw [hu3.out]; simpa using hl2); have hb23 := hbox2.trans hb3; have hbw3 := hbw2.trans (hb23.mono z2); have z3 := hb23.size)
      | (at_builtin; refine wp_appN rfl _ _ rfl w2.heap.size _ _ _ _ _ _ xs ho3 (ha.below hbw3) rfl rfl (by omega) (by omega) z3 ?_; intro A4 c4 w4 u4 hu4 ho4 hb4))
    have hl4 : u4.length ≤ xs.length + 19 := by rw [hu4.out]; simp; omega
    have hb24 := hb23.trans hb4
    have hbw4 := hbw2.trans (hb24.mono z2)
    have z4 := hb24.size
    go_wp2_with fail
    refine (crc_spec _ _ _ _ ho4.by_ (by omega)).mono ?_
    rintro e w4' ⟨rfl, rfl⟩
    have hcr := crcN_le u4
    go_wp2_with fail
    refine (putVar_spec _ _ _ _ _ (ho2.below hb24 (Nat.le_refl _)).by_ (by omega) hcr).mono ?_
    rintro e w5 ⟨A5, c5, u5, hu5, rfl, ho5, hb5⟩
    have hl5 : u5.length ≤ 24 := by rw [hu5.out]; have := varB_len5 hcr; simp; omega
    have hbw5 := hbw4.trans (hb5.mono (by omega))
    have z5 := hb5.size
    go_wp2_with (refine wp_appN rfl _ _ rfl w4.heap.size _ _ _ _ _ _ xs ho5 (ha.below hbw5) rfl rfl (by omega) (by omega) z5 ?_; intro A6 c6 w6 u6 hu6 ho6 hb6)
    go_ret2
    have hH : u2 = snapHead gen seq xs := by rw [hu2.out, hu1b.out, hu1.out, snapHead]
    have hC : u4 = u2 ++ xs := by rw [hu4.out, hu3.out]; simp
    refine ⟨A6, c6, u6, true, Lib.hid ?_, Lib.hid ?_, rfl, ho6.mono (by omega), hbw5.trans (hb6.mono (by omega))⟩
    · rw [hu6.out, hu5.out, hC, hH, HY.out, snapB]
    · rw [HY.out]
  · have HN := Lib.hid (snapR_no HG)
    by_cases g1 : gen < 1
    · clear HG
      go_enter Try.func37, Try.ntmps37
      go_wp2_with fail
      go_ret2
      exact put_no HN.out
    by_cases g2 : 1000000000 < gen
    · clear HG
      go_enter Try.func37, Try.ntmps37
      go_wp2_with fail
      go_ret2
      exact put_no HN.out
    by_cases g3 : seq < 1
    · clear HG
      go_enter Try.func37, Try.ntmps37
      go_wp2_with fail
      go_ret2
      exact put_no HN.out
    by_cases g4 : 1000000000 < seq
    · clear HG
      go_enter Try.func37, Try.ntmps37
      go_wp2_with fail
      go_ret2
      exact put_no HN.out
    have g5 : (150000 : Int) < xs.length := by
      rcases Nat.lt_or_ge 150000 xs.length with h | h
      · omega
      · exact (HG ⟨⟨by omega, by omega⟩, ⟨by omega, by omega⟩, h⟩).elim
    clear HG
    go_enter Try.func37, Try.ntmps37
    go_wp2_with fail
    go_ret2
    exact put_no HN.out
end Go.Proofs.Ythnbfaekmolaoaa
