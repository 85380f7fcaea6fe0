/- The cursor over a draw's bytes: numbers, runes, attributes, cells. -/
import Derived.Test.YtnilgcahggmncaaC1
import Derived.Test.YtnilgcahggmncaaG15
namespace Go.Proofs.Ytnilgcahggmncaa
open Go.RowKit
set_option linter.unusedVariables false
set_option maxRecDepth 100000

theorem by_gr {w w' : World} {g : Nat} {A : Option Addr} {xs : List UInt8} (h : By w A xs) (hne : ∀ ad, A = some ad → xs ≠ [] → ad.block < g) (hg : w.grownBy w' (some g)) : By w' A xs := by
  rcases h with h | ⟨b, o, hA, hc⟩
  · exact .inl h
  · refine .inr ⟨b, o, hA, fun i x hx => ?_⟩
    have hlt : b < g := hne _ hA (by intro e; rw [e] at hx; simp at hx)
    have h1 := World.block_lt_of_cell? w _ (hc i x hx)
    exact (World.cell?_of_block (a := ⟨b, o + i, none⟩) (hg.block b h1 (by intro e; injection e with e; omega))).trans (hc i x hx)
theorem gr_trans {w w1 w2 : World} {r : Option Nat} (h : w.grownBy w1 r) (h2 : w1.grownBy w2 r) : w.grownBy w2 r :=
  ⟨h2.os.trans h.os, h2.tape.trans h.tape, h2.output.trans h.output, Nat.le_trans h.size h2.size, fun k hk hn => (h2.block k (Nat.lt_of_lt_of_le hk h.size) hn).trans (h.block k hk hn)⟩
theorem four_bd {x y z v : Nat} (hx : x < 256) (hy : y < 256) (hz : z < 256) (hv : v < 256) : x * 16777216 + y * 65536 + z * 256 + v < 4294967296 := by omega
set_option maxHeartbeats 1000000 in
/-- A number below n, n greater than 256. -/
theorem l01BelowB_any (g : Nat) (A : Option Addr) (c : Nat) (xs : List UInt8) (n : Nat) (w : World) (ha : By w A xs) (h1 : xs.length ≤ 1048576) (hne : ∀ ad, A = some ad → xs ≠ [] → ad.block < g) (hC : Cur w g A xs.length c) (hn0 : 256 < n) (hn : n ≤ 1000000) :
    Calls Try.prog 58 #[.pointer (some ⟨g, 0, none⟩), .int .i64 n] w fun e w' => ∃ x : Nat, x < n ∧ e = .returned (.int .i64 x) ∧ Cur w' g A xs.length c ∧ w.grownBy w' (some g) := by
  have hn0' : ¬ (n : Int) ≤ 0 := by omega
  have hn' : ¬ (n : Int) ≤ 256 := by omega
  have hnz : ¬ (n : Int) = 0 := by omega
  go_enter Try.func58, Try.ntmps58
  go_wp2_with fail
  refine (l01Byte_any g A c xs w ha h1 hne hC).mono ?_
  rintro e w1 ⟨x, hx, rfl, hC1, hg1⟩
  have ha1 := by_gr ha hne hg1
  go_wp2_with fail
  refine (l01Byte_any g A c xs w1 ha1 h1 hne hC1).mono ?_
  rintro e w2 ⟨y, hy, rfl, hC2, hg2⟩
  have ha2 := by_gr ha1 hne hg2
  go_wp2_with fail
  refine (l01Byte_any g A c xs w2 ha2 h1 hne hC2).mono ?_
  rintro e w3 ⟨z, hz, rfl, hC3, hg3⟩
  have ha3 := by_gr ha2 hne hg3
  go_wp2_with fail
  refine (l01Byte_any g A c xs w3 ha3 h1 hne hC3).mono ?_
  rintro e w4 ⟨v, hv, rfl, hC4, hg4⟩
  have hb := four_bd hx hy hz hv
  obtain ⟨t, ht⟩ : ∃ t, t = x * 16777216 + y * 65536 + z * 256 + v := ⟨_, rfl⟩
  rw [← ht] at hb
  have et : (x : Int) * 16777216 + (y : Int) * 65536 + (z : Int) * 256 + (v : Int) = (t : Int) := by omega
  obtain ⟨r, hr⟩ : ∃ r, r = t % n := ⟨_, rfl⟩
  have em : Int.tmod (t : Int) (n : Int) = (r : Int) := by rw [hr]; exact (Int.ofNat_tmod _ _).symm
  have em2 : (t : Int) % (n : Int) = (r : Int) := by rw [hr]; simp
  have hrn : r < n := by rw [hr]; exact Nat.mod_lt _ (by omega)
  have HM : Hid (((x : Int) * 16777216 + (y : Int) * 65536 + (z : Int) * 256 + (v : Int)) % (n : Int) = (r : Int)) := by show _ = _; rw [et]; exact em2
  clear hr ht et em em2
  go_wp2_with fail
  go_ret
  exact ⟨r, hrn, by show Ending.returned (.int .i64 (((x : Int) * 16777216 + (y : Int) * 65536 + (z : Int) * 256 + (v : Int)) % (n : Int))) = _; rw [HM.out], hC4, gr_trans (gr_trans (gr_trans hg1 hg2) hg3) hg4⟩
theorem l01BelowN_any (g : Nat) (A : Option Addr) (c : Nat) (xs : List UInt8) (n : Nat) (w : World) (ha : By w A xs) (h1 : xs.length ≤ 1048576) (hne : ∀ ad, A = some ad → xs ≠ [] → ad.block < g) (hC : Cur w g A xs.length c) (hn0 : 1 ≤ n) (hn : n ≤ 1000000) :
    Calls Try.prog 58 #[.pointer (some ⟨g, 0, none⟩), .int .i64 n] w fun e w' => ∃ x : Nat, x < n ∧ e = .returned (.int .i64 x) ∧ Cur w' g A xs.length c ∧ w.grownBy w' (some g) := by
  rcases Nat.lt_or_ge 256 n with h | h
  · exact l01BelowB_any g A c xs n w ha h1 hne hC h hn
  · exact l01Below_any g A c xs n w ha h1 hne hC hn0 h
/-- The cursor is where it was, all else too, but for new blocks. -/
def CurPost (g : Nat) (A : Option Addr) (c : Nat) (xs : List UInt8) (w w' : World) : Prop := Cur w' g A xs.length c ∧ By w' A xs ∧ w.grownBy w' (some g)
theorem Cur.lt {w : World} {g n c : Nat} {A : Option Addr} (h : Cur w g A n c) : g < w.heap.size := by
  obtain ⟨k, z, _, _, hG⟩ := h
  exact (Array.getElem?_eq_some_iff.1 hG).1
theorem Cur.keep {w w' : World} {g n c : Nat} {A : Option Addr} (h : Cur w g A n c) (hk : w'.heap[g]? = w.heap[g]?) : Cur w' g A n c := by
  obtain ⟨k, z, h1, h2, hG⟩ := h
  exact ⟨k, z, h1, h2, hk.trans hG⟩
theorem Cur.below {w w' : World} {g n c : Nat} {A : Option Addr} (h : Cur w g A n c) (hb : Below w.heap.size w w') : Cur w' g A n c := h.keep (hb.block _ h.lt)
theorem gr_below {w w' : World} {r : Option Nat} (h : Below w.heap.size w w') : w.grownBy w' r := ⟨h.os, h.tape, h.output, h.size, fun k hk _ => h.block k hk⟩
def litL : List Int := [97, 98, 99, 120, 49, 32, 46, 45, 233, 20013]
theorem lit_ok {x : Nat} (h : x < 10) : ∃ z, litL[x]? = some z ∧ showsB z = true := by
  match x, h with
  | 0, _ => exact ⟨_, rfl, by decide⟩
  | 1, _ => exact ⟨_, rfl, by decide⟩
  | 2, _ => exact ⟨_, rfl, by decide⟩
  | 3, _ => exact ⟨_, rfl, by decide⟩
  | 4, _ => exact ⟨_, rfl, by decide⟩
  | 5, _ => exact ⟨_, rfl, by decide⟩
  | 6, _ => exact ⟨_, rfl, by decide⟩
  | 7, _ => exact ⟨_, rfl, by decide⟩
  | 8, _ => exact ⟨_, rfl, by decide⟩
  | 9, _ => exact ⟨_, rfl, by decide⟩
set_option maxHeartbeats 1000000 in
theorem l06Rune_any (g : Nat) (A : Option Addr) (c : Nat) (xs : List UInt8) (w : World) (ha : By w A xs) (h1 : xs.length ≤ 1048576) (hne : ∀ ad, A = some ad → xs ≠ [] → ad.block < g) (hC : Cur w g A xs.length c) :
    Calls Try.prog 138 #[.pointer (some ⟨g, 0, none⟩)] w fun e w' => ∃ r : Int, showsB r = true ∧ e = .returned (.int .i64 r) ∧ Cur w' g A xs.length c ∧ w.grownBy w' (some g) := by
  go_enter Try.func138, Try.ntmps138
  go_wp2_with fail
  refine (l01BelowN_any g A c xs 10 w ha h1 hne hC (by omega) (by omega)).mono ?_
  rintro e w1 ⟨k, hk, rfl, hC1, hg1⟩
  have ha1 := by_gr ha hne hg1
  by_cases h7 : k < 7
  · have h7' : (k : Int) < 7 := by omega
    go_wp2_with fail
    have hb2 : Below w1.heap.size w1 (w1.alloc (.cells #[.int .i64 97, .int .i64 98, .int .i64 99, .int .i64 120, .int .i64 49, .int .i64 32, .int .i64 46, .int .i64 45, .int .i64 233, .int .i64 20013] 3)) := (Below.refl _ _).alloc (Nat.le_refl _) _
    have l0 : (w1.alloc (.cells #[.int .i64 97, .int .i64 98, .int .i64 99, .int .i64 120, .int .i64 49, .int .i64 32, .int .i64 46, .int .i64 45, .int .i64 233, .int .i64 20013] 3)).heap[w1.heap.size]? = some (.cells #[.int .i64 97, .int .i64 98, .int .i64 99, .int .i64 120, .int .i64 49, .int .i64 32, .int .i64 46, .int .i64 45, .int .i64 233, .int .i64 20013] 3 (0, 0)) := heap_alloc_new _ _
    have hg2 := gr_below (r := some g) hb2
    refine (l01BelowN_any g A c xs 10 _ (by_gr ha1 hne hg2) h1 hne (hC1.below hb2) (by omega) (by omega)).mono ?_
    rintro e w3 ⟨x, hx, rfl, hC3, hg3⟩
    have l3 := (hg3.block w1.heap.size (by simp) (by have := hC1.lt; intro e; injection e with e; omega)).trans l0
    obtain ⟨z, hz, hsz⟩ := lit_ok hx
    have hcell : w3.cell? ⟨w1.heap.size, x, none⟩ = some (.int .i64 z) := by
      rw [cell_of_row w3 _ x _ _ (0, 0) l3]
      have : (litL.map (Value.int .i64))[x]? = some (.int .i64 z) := by rw [List.getElem?_map, hz]; rfl
      simpa [litL] using this
    have hx' : (x : Int) < 10 := by omega
    have hx0 : (0 : Int) ≤ (x : Int) := Int.natCast_nonneg x
    clear l3 l0
    go_wp2_with fail
    go_ret
    exact ⟨z, hsz, rfl, hC3, gr_trans (gr_trans hg1 hg2) hg3⟩
  · have h7' : ¬ (k : Int) < 7 := by omega
    by_cases h8 : k = 7
    · have h8' : ((k : Int) == 7) = true := by simp; omega
      go_wp2_with fail
      refine (l01BelowN_any g A c xs 94 _ ha1 h1 hne hC1 (by omega) (by omega)).mono ?_
      rintro e w3 ⟨x, hx, rfl, hC3, hg3⟩
      have e1 : ∀ [Inhabited Nat], wrap64 (33 + (x : Int)) = 33 + (x : Int) := by intro _; unfold wrap64; omega
      have hsz : showsB (33 + (x : Int)) = true := decide_eq_true (by omega)
      go_wp2_with fail
      go_ret
      exact ⟨33 + (x : Int), hsz, rfl, hC3, gr_trans hg1 hg3⟩
    · have h8' : ((k : Int) == 7) = false := by simp; omega
      go_wp2_with fail
      refine (l01BelowN_any g A c xs 3000 _ ha1 h1 hne hC1 (by omega) (by omega)).mono ?_
      rintro e w3 ⟨x, hx, rfl, hC3, hg3⟩
      have e1 : ∀ [Inhabited Nat], wrap64 (160 + (x : Int)) = 160 + (x : Int) := by intro _; unfold wrap64; omega
      have hsz : showsB (160 + (x : Int)) = true := decide_eq_true (by omega)
      go_wp2_with fail
      go_ret
      exact ⟨160 + (x : Int), hsz, rfl, hC3, gr_trans hg1 hg3⟩
end Go.Proofs.Ytnilgcahggmncaa
