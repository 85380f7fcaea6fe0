/- A snapshot's bytes. -/
import Derived.Test.YtbaojeiinjjlcaaP11
import Derived.Lib.SlBytesConst
namespace Go.Proofs.Ytbaojeiinjjlcaa
open Go.RowKit
set_option linter.unusedVariables false

/-- A snapshot's bytes up to the checksum. -/
def snapHead (gen seq : Int) (data : List UInt8) : List UInt8 := [83, 78, 65, 80] ++ varB gen.toNat ++ varB seq.toNat ++ varB data.length
def snapB (gen seq : Int) (data : List UInt8) : List UInt8 := snapHead gen seq data ++ varB (crcN (snapHead gen seq data ++ data)) ++ data
def snapGood (gen seq : Int) (data : List UInt8) : Prop := (1 ≤ gen ∧ gen ≤ 1000000000) ∧ (1 ≤ seq ∧ seq ≤ 1000000000) ∧ data.length ≤ 150000
instance (gen seq : Int) (data : List UInt8) : Decidable (snapGood gen seq data) := by unfold snapGood; exact inferInstance
def snapR (gen seq : Int) (data : List UInt8) : List UInt8 × Bool := if snapGood gen seq data then (snapB gen seq data, true) else ([], false)
theorem snapR_no {gen seq : Int} {data : List UInt8} (h : ¬ snapGood gen seq data) : snapR gen seq data = ([], false) := if_neg h
theorem snapR_yes {gen seq : Int} {data : List UInt8} (h : snapGood gen seq data) : snapR gen seq data = (snapB gen seq data, true) := if_pos h
theorem snapHead_len {gen seq : Int} {data : List UInt8} (h : snapGood gen seq data) : (snapHead gen seq data).length ≤ 19 := by
  obtain ⟨⟨h1, h2⟩, ⟨h3, h4⟩, h5⟩ := h
  have a := varB_len5 (n := gen.toNat) (by omega)
  have b := varB_len5 (n := seq.toNat) (by omega)
  have c := varB_len5 (n := data.length) (by omega)
  simp [snapHead]; omega
theorem snapR_len (gen seq : Int) (data : List UInt8) : (snapR gen seq data).1.length ≤ data.length + 24 := by
  by_cases h : snapGood gen seq data
  · rw [snapR_yes h]
    have a := snapHead_len h
    have b := varB_len5 (crcN_le (snapHead gen seq data ++ data))
    simp [snapB]; omega
  · rw [snapR_no h]; simp
theorem put_no {w : World} {r : List UInt8 × Bool} (hr : r = ([], false)) : PutPost w r (.returned (.tuple #[.slice none 0 0, .bool false])) w :=
  ⟨none, 0, [], false, Lib.hid (by rw [hr]), Lib.hid (by rw [hr]), rfl, ownsG_nil _ _ _ _, Below.refl _ _⟩
/-- The four bytes of the word a snapshot begins with. -/
theorem Ob.const {w : World} {C : Array Value} {bs : List UInt8} {k : Nat} (hk : k = bs.length) (hC : C.toList = bs.map B) (hm : bs.length ≤ maxLen) : Ob (w.alloc (.cells C 5 (C.size, C.size + 1))) w.heap.size (some ⟨w.heap.size, 0, none⟩) k bs := by
  have hs : C.size = bs.length := by rw [← Array.length_toList, hC, List.length_map]
  subst hk
  exact ⟨by simp, .inr ⟨w.heap.size, bs.length, C, _, rfl, Nat.le_refl _, heap_alloc_new _ _, .inr (Nat.le_refl _), Nat.le_refl _, hm, by omega, by rw [hC]; exact List.take_of_length_le (by simp)⟩⟩
theorem putVar_anyI (lo : Nat) (A : Option Addr) (c : Nat) (xs : List UInt8) (z : Int) (n : Nat) (w : World) (hz : z = n) (ha : Ob w lo A c xs) (hlo : lo ≤ w.heap.size) (h1 : xs.length ≤ 549755813888) (hn : n ≤ 4294967295) :
    Calls Try.prog 14 #[.slice A xs.length c, .int .i64 z] w fun e w' => ∃ A' c' us, Hid (us = xs ++ varB n) ∧ e = .returned (.slice A' us.length c') ∧ Ob w' lo A' c' us ∧ Below lo w w' := by
  subst hz; exact putVar_any lo _ _ _ _ _ ha hlo h1 hn
end Go.Proofs.Ytbaojeiinjjlcaa
