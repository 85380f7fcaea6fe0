/- A snapshot's bytes. -/
import Derived.Test.YtbaojeiinjjlcaaDoorP11
import Derived.Lib.SlBytesConst
namespace Go.Proofs.YtbaojeiinjjlcaaDoor
open Go.RowKit
set_option linter.unusedVariables false

/-- A snapshot's bytes up to the checksum. -/
def snapHead (gen seq : Int) (data : List UInt8) : List UInt8 := [83, 78, 65, 80] ++ varB gen.toNat ++ varB seq.toNat ++ varB data.length
def snapB (gen seq : Int) (data : List UInt8) : List UInt8 := snapHead gen seq data ++ varB (crcN (snapHead gen seq data ++ data)) ++ data
def snapGood (gen seq : Int) (data : List UInt8) : Prop := (1 ≤ gen ∧ gen ≤ 1000000000) ∧ (1 ≤ seq ∧ seq ≤ 1000000000) ∧ data.length ≤ 150000
instance (gen seq : Int) (data : List UInt8) : Decidable (snapGood gen seq data) := by unfold snapGood; exact inferInstance
def snapR (gen seq : Int) (data : List UInt8) : List UInt8 × Bool := if snapGood gen seq data then (snapB gen seq data, true) else ([], false)
theorem snapR_no {gen seq : Int} {data : List UInt8} (h : ¬ snapGood gen seq data) : snapR gen seq data = ([], false) := if_neg h
theorem snapR_yes {gen seq : Int} {data : List UInt8} (h : snapGood gen seq data) : snapR gen seq data = (snapB gen seq data, true) := if_pos h
theorem snapHead_len {gen seq : Int} {data : List UInt8} (h : snapGood gen seq data) : (snapHead gen seq data).length ≤ 19 := by
  obtain ⟨⟨h1, h2⟩, ⟨h3, h4⟩, h5⟩ := h
  have a := varB_len5 (n := gen.toNat) (by omega)
  have b := varB_len5 (n := seq.toNat) (by omega)
  have c := varB_len5 (n := data.length) (by omega)
  simp [snapHead]; omega
theorem snapR_len (gen seq : Int) (data : List UInt8) : (snapR gen seq data).1.length ≤ data.length + 24 := by
  by_cases h : snapGood gen seq data
  · rw [snapR_yes h]
    have a := snapHead_len h
    have b := varB_len5 (crcN_le (snapHead gen seq data ++ data))
    simp [snapB]; omega
  · rw [snapR_no h]; simp
theorem put_no {w : World} {r : List UInt8 × Bool} (hr : r = ([], false)) : PutPost w r (.returned (.tuple #[.slice none 0 0, .bool false])) w :=
  ⟨none, 0, [], false, Lib.hid (by rw [hr]), Lib.hid (by rw [hr]), rfl, ownsG_nil _ _ _ _, Below.refl _ _⟩
/-- The four bytes of the word a snapshot begins with. -/
theorem Ob.const {w : World} {C : Array Value} {bs : List UInt8} {k : Nat} (hk : k = bs.length) (hC : C.toList = bs.map B) (hm : bs.length ≤ maxLen) : Ob (w.alloc (.cells C 5 (C.size, C.size + 1))) w.heap.size (some ⟨w.heap.size, 0, none⟩) k bs := by
  have hs : C.size = bs.length := by rw [← Array.length_toList, hC, List.length_map]
  subst hk
  exact ⟨by simp, .inr ⟨w.heap.size, bs.length, C, _, rfl, Nat.le_refl _, heap_alloc_new _ _, .inr (Nat.le_refl _), Nat.le_refl _, hm, by omega, by rw [hC]; exact List.take_of_length_le (by simp)⟩⟩
theorem putVar_anyI (lo : Nat) (A : Option Addr) (c : Nat) (xs : List UInt8) (z : Int) (n : Nat) (w : World) (hz : z = n) (ha : Ob w lo A c xs) (hlo : lo ≤ w.heap.size) (h1 : xs.length ≤ 549755813888) (hn : n ≤ 4294967295) :
    Calls Tryd.prog 21 #[.slice A xs.length c, .int .i64 z] w fun e w' => ∃ A' c' us, Hid (us = xs ++ varB n) ∧ e = .returned (.slice A' us.length c') ∧ Ob w' lo A' c' us ∧ Below lo w w' := by
  subst hz; exact putVar_any lo _ _ _ _ _ ha hlo h1 hn
set_option maxHeartbeats 1000000 in
theorem snapBytes_impl (A : Option Addr) (c : Nat) (xs : List UInt8) (gen seq : Int) (w : World) (ha : By w A xs) (h1 : xs.length ≤ 137438953472) :
    Calls Tryd.prog 13 #[.int .i64 gen, .int .i64 seq, .slice A xs.length c] w (PutPost w (snapR gen seq xs)) := by
  by_cases hg : 1 ≤ gen ∧ gen ≤ 1000000000
  · by_cases hs : 1 ≤ seq ∧ seq ≤ 1000000000
    · by_cases hx : xs.length ≤ 150000
      · have HG : Hid (snapGood gen seq xs) := ⟨hg, hs, hx⟩
        have hx' : ¬ (150000 : Int) < xs.length := by omega
        obtain ⟨hs1, hs2⟩ := hs
        obtain ⟨hg1, hg2⟩ := hg
        have kc := fun (w : World) (C : Array Value) (n c : Nat) => Lib.run_convert_bytes_const (P := Tryd.prog) w 22 5 C n c Tryd.underlying22 Tryd.underlying5
        go_enter Tryd.func13, Tryd.ntmps13
        go_wp2_with (first
          | (go_at_call 27; refine (isSeq_yes (by omega) (by omega) _).mono ?_; rintro e w' ⟨rfl, rfl⟩)
          | (go_at_call 26; refine (isGen_yes (by omega) (by omega) _).mono ?_; rintro e w' ⟨rfl, rfl⟩))
        have hbox : Below w.heap.size w (w.alloc (.cells #[B 83, B 78, B 65, B 80] 5 (4, 5))) := (Below.refl _ _).alloc (Nat.le_refl _) _
        refine (putVar_anyI w.heap.size _ _ [83, 78, 65, 80] _ gen.toNat _ (by omega) (Ob.const (by rfl) (by rfl) (by unfold maxLen; simp)) (by simp) (by simp) (by omega)).mono ?_
        rintro e w1 ⟨A1, c1, u1, hu1, rfl, ho1, hb1⟩
        have hl1 : u1.length ≤ 9 := by rw [hu1.out]; have := varB_len5 (n := gen.toNat) (by omega); simp; omega
        have hbw1 := hbox.trans hb1
        have z1 := hbw1.size
        go_wp2_with fail
        refine (putVar_anyI w.heap.size _ _ _ _ seq.toNat _ (by omega) ho1 z1 (by omega) (by omega)).mono ?_
        rintro e w2 ⟨A2, c2, u2, hu2, rfl, ho2, hb2⟩
        have hl2 : u2.length ≤ 14 := by rw [hu2.out]; have := varB_len5 (n := seq.toNat) (by omega); simp; omega
        have hbw2 := hbw1.trans hb2
        have z2 := hbw2.size
        go_wp2_with fail
        refine (putVar_any w.heap.size _ _ _ _ _ ho2 z2 (by omega) (by omega)).mono ?_
        rintro e w2b ⟨A2b, c2b, u2b, hu2b, rfl, ho2b, hb2b⟩
        have hl2b : u2b.length ≤ 19 := by rw [hu2b.out]; have := varB_len5 (n := xs.length) (by omega); simp; omega
        have hbw2b := hbw2.trans hb2b
        have z2b := hbw2b.size
        go_wp2_with fail
        refine (sumOf_any _ _ _ _ _ _ _ ho2b.by_ (ha.below hbw2b) (by omega) (by omega)).mono ?_
        rintro e w3 ⟨rfl, hb3⟩
        have hbw3 := hbw2b.trans (hb3.mono z2b)
        have z3 := hbw3.size
        have hcr := crcN_le (u2b ++ xs)
        go_wp2_with fail
        refine (putVar_any w.heap.size _ _ _ _ _ (ho2b.below hb3 (Nat.le_refl _)) z3 (by omega) hcr).mono ?_
        rintro e w4 ⟨A4, c4, u4, hu4, rfl, ho4, hb4⟩
        have hl4 : u4.length ≤ 24 := by rw [hu4.out]; have := varB_len5 hcr; simp; omega
        have hbw4 := hbw3.trans hb4
        have z4 := hbw4.size
        go_wp2_with (refine wp_appN rfl _ _ rfl w.heap.size _ _ _ _ _ _ xs ho4 (ha.below hbw4) rfl rfl (by omega) (by omega) z4 ?_; intro A5 c5 w5 u5 hu5 ho5 hb5)
        go_ret2
        have hH : u2b = snapHead gen seq xs := by rw [hu2b.out, hu2.out, hu1.out, snapHead]
        refine ⟨A5, c5, u5, true, Lib.hid ?_, Lib.hid ?_, rfl, ho5, hbw4.trans hb5⟩
        · rw [hu5.out, hu4.out, hH, snapR_yes HG.out, snapB]
        · rw [snapR_yes HG.out]
      · have HG := snapR_no (gen := gen) (seq := seq) (data := xs) (fun h => hx h.2.2)
        have hx' : (150000 : Int) < xs.length := by omega
        go_enter Tryd.func13, Tryd.ntmps13
        go_wp2_with (first
          | (go_at_call 27; refine (isSeq_yes (by omega) (by omega) _).mono ?_; rintro e w' ⟨rfl, rfl⟩)
          | (go_at_call 26; refine (isGen_yes (by omega) (by omega) _).mono ?_; rintro e w' ⟨rfl, rfl⟩))
        go_ret2
        exact put_no HG
    · have HG := snapR_no (gen := gen) (seq := seq) (data := xs) (fun h => hs h.2.1)
      go_enter Tryd.func13, Tryd.ntmps13
      go_wp2_with (first
          | (go_at_call 27; refine (isSeq_no (by omega) _).mono ?_; rintro e w' ⟨rfl, rfl⟩)
          | (go_at_call 26; refine (isGen_yes (by omega) (by omega) _).mono ?_; rintro e w' ⟨rfl, rfl⟩))
      go_ret2
      exact put_no HG
  · have HG := snapR_no (gen := gen) (seq := seq) (data := xs) (fun h => hg h.1)
    go_enter Tryd.func13, Tryd.ntmps13
    go_wp2_with (go_at_call 26; refine (isGen_no (by omega) _).mono ?_; rintro e w' ⟨rfl, rfl⟩)
    go_ret2
    exact put_no HG
end Go.Proofs.YtbaojeiinjjlcaaDoor
