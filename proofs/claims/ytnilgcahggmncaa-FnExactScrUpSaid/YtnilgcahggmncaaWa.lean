/- The tab stops of a new screen: both ways. -/
import Derived.Test.YtnilgcahggmncaaW9
import Derived.Test.YtnilgcahggmncaaOc
namespace Go.Proofs.Ytnilgcahggmncaa
open Go.RowKit
set_option linter.unusedVariables false
set_option maxRecDepth 100000

/-- The first n tab stops. -/
def tabL (n : Nat) : List Int := (List.range n).map fun (i : Nat) => 8 * (i : Int) + 8
theorem tabL_len (n : Nat) : (tabL n).length = n := by simp [tabL]
theorem tabL_succ (n : Nat) : tabL (n + 1) = tabL n ++ [8 * (n : Int) + 8] := by simp [tabL, List.range_succ]
/-- How many a screen of this width has. -/
def tabK (W : Int) : Nat := ((W - 1) / 8).toNat
theorem Oi.of_oc {w : World} {lo c : Nat} {A : Option Addr} {ns : List Int} {vs : List Value} (h : Oc 3 w lo A c vs) (hv : vs = ns.map I) : Oi w lo A c ns := by
  subst hv
  unfold Oc at h
  rw [List.length_map] at h
  exact h
theorem Oi.oc {w : World} {lo c : Nat} {A : Option Addr} {ns : List Int} (h : Oi w lo A c ns) : Oc 3 w lo A c (ns.map I) := by
  unfold Oc
  rw [List.length_map]
  exact h
theorem tabsOf_impl (W : Int) (w : World) (h1 : 1 ≤ W) (h2 : W ≤ 120) :
    Calls Try.prog 73 #[.int .i64 W] w (IntsOwn w (tabL (tabK W))) := by
  obtain ⟨K, hK⟩ : ∃ K, Hid (K = tabK W) := ⟨_, Lib.hid rfl⟩
  rw [← hK.out]
  have hK1 : 8 * (K : Int) < W ∧ W ≤ 8 * (K : Int) + 8 := by have := hK.out; unfold tabK at this; omega
  go_enter Try.func73, Try.ntmps73
  go_wp2_with fail
  go_loopw [3, 4] (fun ov xv wr => ∃ (j c1 : Nat) (A1 : Option Addr), j ≤ K ∧ ov = .slice A1 j c1 ∧ xv = .int .i64 (8 * (j : Int) + 8) ∧ Oi wr w.heap.size A1 c1 (tabL j) ∧ Below w.heap.size w wr) (fun _ xv _ => (120 - intOf xv).toNat)
  case atStart => exact ⟨0, 0, _, Nat.zero_le _, rfl, rfl, Oc.empty, (Below.refl _ _).alloc (Nat.le_refl _) _⟩
  case round =>
    obtain ⟨j, c1, A1, hj, rfl, rfl, ho, hb⟩ := hrel
    have zb := hb.size
    by_cases hlt : j < K
    · have hlt' : 8 * (j : Int) + 8 < W := by omega
      have hl : ((tabL j).map I).length = j := by rw [List.length_map, tabL_len]
      have HL := Lib.hid hl
      clear hl
      go_wp2_with (at_builtin; refine wp_app1C 46 3 (.int .i64 0) 8 Try.underlying46 info_int (by omega) rfl rfl _ _ rfl w.heap.size A1 c1 ((tabL j).map I) _ _ (I (8 * (j : Int) + 8)) rfl ho.oc HL.out.symm rfl rfl (by rw [HL.out]; omega) zb ?_; intro A2 c2 w2 us hus ho2 hb2 _; have hul : us.length = j + 1 := (by rw [hus.out, List.length_append, HL.out]; rfl); rw [hul])
      go_roundw
      case rel =>
        refine ⟨j + 1, c2, A2, by omega, rfl, by go_num, Oi.of_oc ho2 ?_, hb.trans hb2⟩
        rw [hus.out, tabL_succ, List.map_append]
        rfl
      case measure => simp [intOf]; omega
    · have hlt' : ¬ 8 * (j : Int) + 8 < W := by omega
      obtain rfl : j = K := by omega
      go_wp2_with fail
      go_ret
      exact ⟨A1, c1, by rw [tabL_len]; rfl, ho, hb⟩
theorem tabs_spec (W : Int) (w : World) (h1 : 1 ≤ W) (h2 : W ≤ 120) :
    Calls Try.prog 72 #[.int .i64 W] w (IntsOwn w (tabL (tabK W))) := by
  obtain ⟨K, hK⟩ : ∃ K, Hid (K = tabK W) := ⟨_, Lib.hid rfl⟩
  rw [← hK.out]
  have hK1 : 8 * (K : Int) < W ∧ W ≤ 8 * (K : Int) + 8 := by have := hK.out; unfold tabK at this; omega
  go_enter Try.func72, Try.ntmps72
  go_wp2_with fail
  go_loopw [3, 4] (fun ov xv wr => ∃ (j c1 : Nat) (A1 : Option Addr), j ≤ K ∧ ov = .slice A1 j c1 ∧ xv = .int .i64 (8 * (j : Int) + 8) ∧ Oi wr w.heap.size A1 c1 (tabL j) ∧ Below w.heap.size w wr) (fun _ xv _ => (120 - intOf xv).toNat)
  case atStart => exact ⟨0, 0, _, Nat.zero_le _, rfl, rfl, Oc.empty, (Below.refl _ _).alloc (Nat.le_refl _) _⟩
  case round =>
    obtain ⟨j, c1, A1, hj, rfl, rfl, ho, hb⟩ := hrel
    have zb := hb.size
    by_cases hlt : j < K
    · have hlt' : 8 * (j : Int) + 8 < W := by omega
      have hl : ((tabL j).map I).length = j := by rw [List.length_map, tabL_len]
      have HL := Lib.hid hl
      clear hl
      go_wp2_with (at_builtin; refine wp_app1C 46 3 (.int .i64 0) 8 Try.underlying46 info_int (by omega) rfl rfl _ _ rfl w.heap.size A1 c1 ((tabL j).map I) _ _ (I (8 * (j : Int) + 8)) rfl ho.oc HL.out.symm rfl rfl (by rw [HL.out]; omega) zb ?_; intro A2 c2 w2 us hus ho2 hb2 _; have hul : us.length = j + 1 := (by rw [hus.out, List.length_append, HL.out]; rfl); rw [hul])
      go_roundw
      case rel =>
        refine ⟨j + 1, c2, A2, by omega, rfl, by go_num, Oi.of_oc ho2 ?_, hb.trans hb2⟩
        rw [hus.out, tabL_succ, List.map_append]
        rfl
      case measure => simp [intOf]; omega
    · have hlt' : ¬ 8 * (j : Int) + 8 < W := by omega
      obtain rfl : j = K := by omega
      go_wp2_with fail
      go_ret
      exact ⟨A1, c1, by rw [tabL_len]; rfl, ho, hb⟩
end Go.Proofs.Ytnilgcahggmncaa
