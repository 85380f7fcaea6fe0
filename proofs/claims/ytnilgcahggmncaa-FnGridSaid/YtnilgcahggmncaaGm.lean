/- Cells marked and held. -/
import Derived.Test.YtnilgcahggmncaaGw
namespace Go.Proofs.Ytnilgcahggmncaa
open Go.RowKit
set_option linter.unusedVariables false
set_option maxRecDepth 100000

abbrev m3 (z : Int) : Bool := z % 3 == 0
abbrev mk1 (z : Int) : Cl := (z, z + 1, z + 1 + 1, m3 (z + 1 + 1 + 1), m3 (z + 1 + 1 + 1 + 1), m3 (z + 1 + 1 + 1 + 1 + 1))
/-- The cells that marking writes. -/
def markC (k : Int) (n : Nat) : List Cl := (List.range n).map fun (i : Nat) => mk1 (k + 6 * (i : Int))
theorem markC_len (k : Int) (n : Nat) : (markC k n).length = n := by simp [markC]
theorem markC_succ (k : Int) (n : Nat) : markC k (n + 1) = markC k n ++ [mk1 (k + 6 * (n : Int))] := by simp [markC, List.range_succ]
theorem markC_get {k : Int} {n i : Nat} (h : i < (markC k n).length) : (markC k n)[i] = mk1 (k + 6 * (i : Int)) := by simp [markC]
set_option maxHeartbeats 4000000 in
theorem markCellS_any (A : Option Addr) (c lo : Nat) (cs : List Cl) (k : Int) (w : World) (ha : Og w lo A c cs) (h1 : cs.length ≤ 1048576) (hk : 0 ≤ k) (hk2 : k + 6 * (cs.length : Int) ≤ 10000000) :
    Calls Try.prog 93 #[.slice A cs.length c, .int .i64 k] w fun e w' => e = .returned (.int .i64 (k + 6 * cs.length)) ∧ Og w' lo A c (markC k cs.length) ∧ w.grownBy w' (Value.slice A cs.length c).ownBlock := by
  by_cases h0 : cs.length = 0
  · have hn : cs = [] := List.eq_nil_of_length_eq_zero h0
    subst hn
    go_enter Try.func93, Try.ntmps93
    go_wp2
    go_loopw [1, 5] (fun kk i wr => kk = .int .i64 k ∧ i = .int .i64 0 ∧ wr = w) (fun _ _ _ => 0)
    case atStart => exact ⟨rfl, rfl, rfl⟩
    case round =>
      obtain ⟨rfl, rfl, rfl⟩ := hrel
      go_wp2
      go_ret
      exact ⟨ret_int (by simp), ha, World.grownBy.refl _ _⟩
  · obtain ⟨g, rfl, hlo, hcm, hxc, hF0⟩ := ha.fill (by omega)
    clear ha
    go_enter Try.func93, Try.ntmps93
    go_wp2
    go_loopw [1, 5] (fun kk i wr => ∃ (j : Nat) (z : Int), j ≤ cs.length ∧ i = .int .i64 j ∧ Hid (z = k + 6 * j) ∧ kk = .int .i64 z ∧ Fill wr g 44 (c * 6) (cvs (markC k j)) ∧ w.grownBy wr (some g)) (fun _ i _ => cs.length - (intOf i).toNat)
    case atStart => exact ⟨0, k, Nat.zero_le _, rfl, (by show _ = _; simp), rfl, hF0, World.grownBy.refl _ _⟩
    case round =>
      clear hF0
      obtain ⟨j, z, hj, rfl, hz, rfl, hF, hb⟩ := hrel
      by_cases hlt : j < cs.length
      · have hlt' : (j : Int) < cs.length := by omega
        have hz0 : 0 ≤ z := by have := hz.out; omega
        have hz1 : z ≤ 10000000 := by have := hz.out; omega
        have w1 : wrap64 (z + 1) = z + 1 := w64 ⟨by omega, by omega⟩
        have w2 : wrap64 (z + 1 + 1) = z + 1 + 1 := w64 ⟨by omega, by omega⟩
        have w3 : wrap64 (z + 1 + 1 + 1) = z + 1 + 1 + 1 := w64 ⟨by omega, by omega⟩
        have w4 : wrap64 (z + 1 + 1 + 1 + 1) = z + 1 + 1 + 1 + 1 := w64 ⟨by omega, by omega⟩
        have w5 : wrap64 (z + 1 + 1 + 1 + 1 + 1) = z + 1 + 1 + 1 + 1 + 1 := w64 ⟨by omega, by omega⟩
        have w6 : wrap64 (z + 1 + 1 + 1 + 1 + 1 + 1) = z + 1 + 1 + 1 + 1 + 1 + 1 := w64 ⟨by omega, by omega⟩
        obtain ⟨u0, hu0⟩ := hF.cell (j * 6) (by omega)
        have hf0 := hF.frozen (j * 6) (by omega)
        obtain ⟨u1, hu1⟩ := hF.cell (j * 6 + 1) (by omega)
        have hf1 := hF.frozen (j * 6 + 1) (by omega)
        obtain ⟨u2, hu2⟩ := hF.cell (j * 6 + 2) (by omega)
        have hf2 := hF.frozen (j * 6 + 2) (by omega)
        obtain ⟨u3, hu3⟩ := hF.cell (j * 6 + 3) (by omega)
        have hf3 := hF.frozen (j * 6 + 3) (by omega)
        obtain ⟨u4, hu4⟩ := hF.cell (j * 6 + 4) (by omega)
        have hf4 := hF.frozen (j * 6 + 4) (by omega)
        obtain ⟨u5, hu5⟩ := hF.cell (j * 6 + 5) (by omega)
        have hf5 := hF.frozen (j * 6 + 5) (by omega)
        go_wp2
        clear w1 w2 w3 w4 w5 w6
        go_roundw
        case rel =>
          refine ⟨j + 1, z + 1 + 1 + 1 + 1 + 1 + 1, by omega, by go_num, (by have := hz.out; show _ = _; omega), rfl, ?_, ?_⟩
          · have e : mk1 (k + 6 * (j : Int)) = mk1 z := by rw [hz.out]
            rw [markC_succ, cvs_snoc, e]
            exact hF.six (by rw [cvs_len, markC_len]) (by omega) _ _ _ _ _ _
          · exact grown_set (grown_set (grown_set (grown_set (grown_set (grown_set hb _) _) _) _) _) _
        case measure => simp [intOf]; omega
      · have hlt' : ¬ ((j : Int) < cs.length) := by omega
        have hk' : j = cs.length := by omega
        subst hk'
        go_wp2
        go_ret
        exact ⟨ret_int hz.out, Og.of_fill (N := c) hF (by rw [markC_len]; exact hxc) hlo hcm, by simpa [Value.ownBlock] using hb⟩
set_option maxHeartbeats 4000000 in
theorem heldCellS_any (A : Option Addr) (c : Nat) (n : Nat) (k : Int) (w : World) (ha : Gs w A (markC k n)) (h1 : n ≤ 1048576) (hk : 0 ≤ k) (hk2 : k + 6 * (n : Int) ≤ 10000000) :
    Calls Try.prog 94 #[.slice A n c, .int .i64 k] w fun e w' => e = .returned (.int .i64 (k + 6 * n)) ∧ w = w' := by
  go_enter Try.func94, Try.ntmps94
  go_wp2
  go_loop [1, 5] (fun kk i => ∃ (j : Nat) (z : Int), j ≤ n ∧ i = .int .i64 j ∧ Hid (z = k + 6 * j) ∧ kk = .int .i64 z) (fun _ i => n - (intOf i).toNat)
  case atStart => exact ⟨0, k, Nat.zero_le _, rfl, (by show _ = _; simp), rfl⟩
  case round =>
    obtain ⟨j, z, hj, rfl, hz, rfl⟩ := hrel
    by_cases hlt : j < n
    · have hlt' : (j : Int) < n := by omega
      obtain ⟨b, o, rfl, hbs, x0, x1, x2, x3, x4, x5⟩ := ha.get (k := j) (by rw [markC_len]; exact hlt)
      rw [markC_get, ← hz.out] at x0 x1 x2 x3 x4 x5
      have hz0 : 0 ≤ z := by have := hz.out; omega
      have hz1 : z ≤ 10000000 := by have := hz.out; omega
      have w1 : wrap64 (z + 1) = z + 1 := w64 ⟨by omega, by omega⟩
      have w2 : wrap64 (z + 1 + 1) = z + 1 + 1 := w64 ⟨by omega, by omega⟩
      have w3 : wrap64 (z + 1 + 1 + 1) = z + 1 + 1 + 1 := w64 ⟨by omega, by omega⟩
      have w4 : wrap64 (z + 1 + 1 + 1 + 1) = z + 1 + 1 + 1 + 1 := w64 ⟨by omega, by omega⟩
      have w5 : wrap64 (z + 1 + 1 + 1 + 1 + 1) = z + 1 + 1 + 1 + 1 + 1 := w64 ⟨by omega, by omega⟩
      have w6 : wrap64 (z + 1 + 1 + 1 + 1 + 1 + 1) = z + 1 + 1 + 1 + 1 + 1 + 1 := w64 ⟨by omega, by omega⟩
      go_wp2
      clear w1 w2 w3 w4 w5 w6
      go_round
      case rel => exact ⟨j + 1, z + 1 + 1 + 1 + 1 + 1 + 1, by omega, by go_num, (by have := hz.out; show _ = _; omega), rfl⟩
      case measure => simp [intOf]; omega
    · have hlt' : ¬ ((j : Int) < n) := by omega
      have hk' : j = n := by omega
      subst hk'
      go_wp2
      go_ret
      exact ⟨ret_int hz.out, rfl⟩
theorem markGrid_any (W H : Int) (A : Option Addr) (c lo : Nat) (cs : List Cl) (k : Int) (w : World) (ha : Og w lo A c cs) (h1 : cs.length ≤ 1048576) (hk : 0 ≤ k) (hk2 : k + 6 * (cs.length : Int) ≤ 10000000) :
    Calls Try.prog 37 #[gV W H A cs.length c, .int .i64 k] w fun e w' => e = .returned (.int .i64 (k + 6 * cs.length)) ∧ Og w' lo A c (markC k cs.length) ∧ w.grownBy w' (Value.slice A cs.length c).ownBlock := by
  go_enter Try.func37, Try.ntmps37
  go_wp2_with fail
  have hg0 := World.grownBy_alloc w (.cells #[.int .i64 W, .int .i64 H, .slice A cs.length c] 29) (Value.slice A cs.length c).ownBlock
  refine (markCellS_any _ _ lo cs _ _ (ha.alloc _) h1 hk hk2).mono ?_
  rintro e w1 ⟨rfl, ho1, hg1⟩
  go_wp2_with fail
  go_ret
  exact ⟨rfl, ho1, hg0.trans hg1⟩
theorem heldGrid_any (W H : Int) (A : Option Addr) (c n : Nat) (k : Int) (w : World) (ha : Gs w A (markC k n)) (h1 : n ≤ 1048576) (hk : 0 ≤ k) (hk2 : k + 6 * (n : Int) ≤ 10000000) :
    Calls Try.prog 38 #[gV W H A n c, .int .i64 k] w fun e w' => e = .returned (.int .i64 (k + 6 * n)) ∧ Below w.heap.size w w' := by
  have hneg : ¬ k + 6 * (n : Int) < 0 := by omega
  have hb0 : Below w.heap.size w (w.alloc (.cells #[.int .i64 W, .int .i64 H, .slice A n c] 29)) := (Below.refl _ _).alloc (Nat.le_refl _) _
  go_enter Try.func38, Try.ntmps38
  go_wp2_with fail
  refine (heldCellS_any _ _ n _ _ (ha.below hb0) h1 hk hk2).mono ?_
  rintro e w1 ⟨rfl, rfl⟩
  go_wp2_with fail
  go_ret
  exact ⟨rfl, hb0⟩
/-- A block that another slice's writes have left alone. -/
theorem keep_gr {w w' : World} {A : Option Addr} {n c lo hi : Nat} (hg : w.grownBy w' (Value.slice A n c).ownBlock) (hA : InB lo hi A) {g : Nat} {t : TypeId} {cs : Array Value} (hB : w.heap[g]? = some (.cells cs t (0, 0))) (hne : g < lo ∨ hi ≤ g) :
    w'.heap[g]? = some (.cells cs t (0, 0)) ∧ (∀ i, w'.cell? ⟨g, i, none⟩ = cs[i]?) ∧ (∀ i, w'.frozen? ⟨g, i, none⟩ = false) ∧ g < w'.heap.size := by
  have hl := (Array.getElem?_eq_some_iff.1 hB).1
  have h1 : w'.heap[g]? = some (.cells cs t (0, 0)) := by
    rw [hg.block g hl]
    · exact hB
    · cases A with
      | none => simp [Value.ownBlock]
      | some ad =>
        have := hA ad rfl
        simp [Value.ownBlock]
        omega
  exact ⟨h1, fun i => cell_of_row w' g i cs t (0, 0) h1, fun i => by simp [World.frozen?, h1], Nat.lt_of_lt_of_le hl hg.size⟩
end Go.Proofs.Ytnilgcahggmncaa
