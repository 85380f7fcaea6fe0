/- The cursor over a draw's bytes: its next byte. -/
import Derived.Test.YtndmdhmghjfckaaP1
import Derived.RegionTactic
namespace Go.Proofs.Ytndmdhmghjfckaa
open Go.RowKit
set_option linter.unusedVariables false
set_option maxRecDepth 100000

/-- The cursor lies at g, over n bytes at A. -/
def Cur (w : World) (g : Nat) (A : Option Addr) (n c : Nat) : Prop := ∃ (k : Nat) (h : Int), k ≤ n ∧ (-9223372036854775808 ≤ h ∧ h ≤ 9223372036854775807) ∧ w.heap[g]? = some (.cells #[.slice A n c, .int .i64 k, .int .i64 h] 43 (0, 0))
theorem and255 (z : Int) : ∃ x : Nat, x < 256 ∧ bits .and .i64 z 255 = (x : Int) := by
  have h255 : (BitVec.ofInt 64 255).toNat = 255 := by decide
  have hb : (BitVec.ofInt 64 z &&& BitVec.ofInt 64 255).toNat < 256 := by
    rw [BitVec.toNat_and, h255]
    exact Nat.lt_of_le_of_lt Nat.and_le_right (by decide)
  refine ⟨(BitVec.ofInt 64 z &&& BitVec.ofInt 64 255).toNat, hb, ?_⟩
  show IntKind.i64.wrap (((BitVec.ofInt 64 z &&& BitVec.ofInt 64 255).toNat : Nat) : Int) = _
  rw [IntKind.wrap_i64]
  omega
theorem wrap64_bd (z : Int) : -9223372036854775808 ≤ wrap64 z ∧ wrap64 z ≤ 9223372036854775807 := by
  unfold wrap64
  omega
/-- How a call ends that hands back a byte. -/
theorem byte_end {C : Prop} {D : Prop} {z : Int} (hC : C) (hD : D) : ∃ x : Nat, x < 256 ∧ Ending.returned (Value.int .i64 (bits .and .i64 z 255)) = .returned (.int .i64 x) ∧ C ∧ D := by
  obtain ⟨x, h1, h2⟩ := and255 z
  exact ⟨x, h1, by rw [h2], hC, hD⟩
theorem grown_dr {w w' : World} {r : Option Nat} (h : w.grownBy w' r) : w.grownBy w'.drew r := ⟨h.os, h.tape, h.output, h.size, h.block⟩
set_option maxHeartbeats 1000000 in
theorem l01Byte_any (g : Nat) (A : Option Addr) (c : Nat) (xs : List UInt8) (w : World) (ha : By w A xs) (h1 : xs.length ≤ 1048576) (hne : ∀ ad, A = some ad → xs ≠ [] → ad.block < g) (hC : Cur w g A xs.length c) :
    Calls Try.prog 24 #[.pointer (some ⟨g, 0, none⟩)] w fun e w' => ∃ x : Nat, x < 256 ∧ e = .returned (.int .i64 x) ∧ Cur w' g A xs.length c ∧ w.grownBy w' (some g) := by
  obtain ⟨k, h, hk, hh, hG⟩ := hC
  have qg : ∀ i, w.cell? ⟨g, i, none⟩ = _ := fun i => cell_of_row w _ i _ _ (0, 0) hG
  have rg : ∀ i, w.frozen? ⟨g, i, none⟩ = false := fun i => by simp [World.frozen?, hG]
  have hgl := (Array.getElem?_eq_some_iff.1 hG).1
  by_cases hlt : k < xs.length
  · obtain ⟨b, o, rfl, hbs⟩ := ha.pos (by omega)
    have hbg : ¬ b = g := by
      have := hne _ rfl (by intro e; rw [e] at hlt; simp at hlt)
      dsimp only at this
      omega
    have hcb : w.cell? ⟨b, o + k, none⟩ = some (.int .u8 ((xs[k]'hlt).toNat : Int)) := hbs k _ (List.getElem?_eq_getElem hlt)
    have hlt' : (k : Int) < xs.length := by omega
    have ek : IntKind.i64.wrap (k : Int) = (k : Int) := by rw [IntKind.wrap_i64]; omega
    obtain ⟨y, hy⟩ : ∃ y, y = xs[k] := ⟨_, rfl⟩
    rw [← hy] at hcb
    have hy2 := u8_lt y
    clear hy ha hbs
    go_enter Try.func24, Try.ntmps24
    go_wp2_with fail
    go_region
    go_wp2_with fail
    go_region
    go_wp2_with fail
    go_region
    go_wp2_with fail
    go_ret
    refine byte_end ?_ ?_
    · exact ⟨k + 1, _, by omega, wrap64_bd _, heap_setCell_same _ (heap_setCell_same _ hG)⟩
    · exact grown_dr (grown_dr (grown_dr (grown_set (grown_set (World.grownBy.refl w _) _) _)))
  · have hlt' : ¬ (k : Int) < xs.length := by omega
    go_enter Try.func24, Try.ntmps24
    go_wp2_with fail
    go_region
    go_wp2_with fail
    go_region
    go_wp2_with fail
    go_ret
    refine byte_end ?_ ?_
    · exact ⟨k, _, hk, wrap64_bd _, heap_setCell_same _ hG⟩
    · exact grown_dr (grown_dr (grown_set (World.grownBy.refl w _) _))
theorem by_keep {w w' : World} {A : Option Addr} {xs : List UInt8} {B' : Nat} (h : By w A xs) (hB : ∀ ad, A = some ad → xs ≠ [] → ad.block < B') (hb : Below B' w w') : By w' A xs := by
  rcases h with h | ⟨b, o, hA, hc⟩
  · exact .inl h
  · refine .inr ⟨b, o, hA, fun i x hx => ?_⟩
    have hlt : b < B' := hB _ hA (by intro e; rw [e] at hx; simp at hx)
    exact (hb.cell (p := ⟨b, o + i, none⟩) hlt).trans (hc i x hx)
theorem by_blk {w : World} {A : Option Addr} {xs : List UInt8} (h : By w A xs) : ∀ ad, A = some ad → xs ≠ [] → ad.block < w.heap.size := by
  intro ad hA hx
  obtain ⟨b, o, hA', hc⟩ := h.pos (List.length_pos_iff.2 hx)
  rw [hA] at hA'
  injection hA' with hA'
  subst hA'
  exact World.block_lt_of_cell? w _ (hc 0 _ (List.getElem?_eq_getElem (List.length_pos_iff.2 hx)))
theorem bits_bd (op : BinOp) (a b : Int) : -9223372036854775808 ≤ bits op .i64 a b ∧ bits op .i64 a b ≤ 9223372036854775807 := by
  unfold bits
  rw [IntKind.wrap_i64]
  omega
/-- A number below n, n no greater than 256. -/
theorem l01Below_any (g : Nat) (A : Option Addr) (c : Nat) (xs : List UInt8) (n : Nat) (w : World) (ha : By w A xs) (h1 : xs.length ≤ 1048576) (hne : ∀ ad, A = some ad → xs ≠ [] → ad.block < g) (hC : Cur w g A xs.length c) (hn0 : 1 ≤ n) (hn : n ≤ 256) :
    Calls Try.prog 11 #[.pointer (some ⟨g, 0, none⟩), .int .i64 n] w fun e w' => ∃ x : Nat, x < n ∧ e = .returned (.int .i64 x) ∧ Cur w' g A xs.length c ∧ w.grownBy w' (some g) := by
  have hn0' : ¬ (n : Int) ≤ 0 := by omega
  have hn' : (n : Int) ≤ 256 := by omega
  have hnz : ¬ (n : Int) = 0 := by omega
  go_enter Try.func11, Try.ntmps11
  go_wp2_with fail
  refine (l01Byte_any g A c xs w ha h1 hne hC).mono ?_
  rintro e w1 ⟨x, hx, rfl, hC1, hg1⟩
  obtain ⟨r, hr⟩ : ∃ r, r = x % n := ⟨_, rfl⟩
  have em : Int.tmod (x : Int) (n : Int) = (r : Int) := by rw [hr]; exact (Int.ofNat_tmod _ _).symm
  have em2 : (x : Int) % (n : Int) = (r : Int) := by rw [hr]; simp
  have hrn : r < n := by rw [hr]; exact Nat.mod_lt _ (by omega)
  clear hr
  go_wp2_with fail
  go_ret
  exact ⟨r, hrn, rfl, hC1, hg1⟩
set_option maxHeartbeats 1000000 in
theorem l01New_any (A : Option Addr) (c : Nat) (xs : List UInt8) (w : World) (ha : By w A xs) (h1 : xs.length ≤ 1048576) :
    Calls Try.prog 9 #[.slice A xs.length c] w fun e w' => ∃ g, e = .returned (.pointer (some ⟨g, 0, none⟩)) ∧ w.heap.size ≤ g ∧ Cur w' g A xs.length c ∧ Below w.heap.size w w' := by
  go_enter Try.func9, Try.ntmps9
  go_wp2_with fail
  go_loopw [3, 4] (fun hh i wr => ∃ (z : Int) (k : Nat), hh = .int .i64 z ∧ i = .int .i64 k ∧ k ≤ xs.length ∧ (-9223372036854775808 ≤ z ∧ z ≤ 9223372036854775807) ∧ (∃ m, wr = w.drewN m)) (fun _ i _ => xs.length - (intOf i).toNat)
  case atStart => exact ⟨_, 0, rfl, rfl, Nat.zero_le _, by omega, ⟨0, rfl⟩⟩
  case round =>
    obtain ⟨z, k, rfl, rfl, hk, hz, m, rfl⟩ := hrel
    by_cases hlt : k < xs.length
    · by_cases hlt2 : k < 4000
      · obtain ⟨b, o, rfl, hbs⟩ := ha.pos (by omega)
        have hcb : (w.drewN m).cell? ⟨b, o + k, none⟩ = some (.int .u8 ((xs[k]'hlt).toNat : Int)) := hbs k _ (List.getElem?_eq_getElem hlt)
        have hlt' : (k : Int) < xs.length := by omega
        have hlt2' : (k : Int) < 4000 := by omega
        obtain ⟨y, hy⟩ : ∃ y, y = xs[k] := ⟨_, rfl⟩
        rw [← hy] at hcb
        have hy2 := u8_lt y
        clear hy ha hbs
        go_wp2_with fail
        refine ⟨⟨_, k + 1, rfl, by go_num, by omega, bits_bd _ _ _, ⟨m, rfl⟩⟩, ?_⟩
        simp [intOf]
        omega
      · have hlt' : (k : Int) < xs.length := by omega
        have hlt2' : ¬ (k : Int) < 4000 := by omega
        go_wp2_with fail
        go_ret
        exact ⟨w.heap.size, rfl, Nat.le_refl _, ⟨0, z, Nat.zero_le _, hz, heap_alloc_new (w.drewN m) _⟩, (by (repeat (first | exact Below.refl _ _ | (refine Below.alloc ?_ (by first | omega | (simp; done) | (simp; omega)) _) | (refine Below.drew ?_) | (refine below_drewN ?_ _) | (refine below_at1 ?_ (by first | omega | (simp; done) | (simp; omega))) | (refine Below.setCell ?_ (by first | omega | (simp; done) | (simp; omega)) _) | (refine Below.trans ?_ (Below.mono (by assumption) (by first | omega | (simp; done) | (simp; omega)))))))⟩
    · have hlt' : ¬ (k : Int) < xs.length := by omega
      go_wp2_with fail
      go_ret
      exact ⟨w.heap.size, rfl, Nat.le_refl _, ⟨0, z, Nat.zero_le _, hz, heap_alloc_new (w.drewN m) _⟩, (by (repeat (first | exact Below.refl _ _ | (refine Below.alloc ?_ (by first | omega | (simp; done) | (simp; omega)) _) | (refine Below.drew ?_) | (refine below_drewN ?_ _) | (refine below_at1 ?_ (by first | omega | (simp; done) | (simp; omega))) | (refine Below.setCell ?_ (by first | omega | (simp; done) | (simp; omega)) _) | (refine Below.trans ?_ (Below.mono (by assumption) (by first | omega | (simp; done) | (simp; omega)))))))⟩
end Go.Proofs.Ytndmdhmghjfckaa
