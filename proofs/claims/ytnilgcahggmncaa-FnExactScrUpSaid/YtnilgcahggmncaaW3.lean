/- Slices of numbers: owning, marking, holding. -/
import Derived.Test.YtnilgcahggmncaaW2
namespace Go.Proofs.Ytnilgcahggmncaa
open Go.RowKit
set_option linter.unusedVariables false
set_option maxRecDepth 100000

/-- A slice of numbers that owns its block, from block lo on. -/
def Oi (w : World) (lo : Nat) (A : Option Addr) (c : Nat) (ns : List Int) : Prop := ownsG w lo 3 1 (.slice A ns.length c) ns.length (ns.map I)
theorem Oi.cs {w : World} {lo c : Nat} {A : Option Addr} {ns : List Int} (h : Oi w lo A c ns) : Cs w A (ns.map I) := by
  rcases h.2 with ⟨h1, h2⟩ | ⟨g, cap, cur, fz, hv, _⟩
  · exact .inl (by rw [List.eq_nil_of_length_eq_zero h2]; rfl)
  · injection hv with hv _ _
    exact .inr ⟨g, 0, hv, fun i u hu => by rw [Nat.zero_add]; exact h.cells (g := g) (by rw [hv]; rfl) _ _ hu⟩
theorem Oi.chg {F : List (Option Nat)} {w w' : World} {lo c : Nat} {A : Option Addr} {ns : List Int} (h : Oi w lo A c ns) (hc : Chg F w w') (hn : ∀ k, ob A = some k → some k ∉ F) : Oi w' lo A c ns :=
  ownsG.chg h hc (by rw [ob_eq]; exact hn)
theorem Oi.ob_lt {w : World} {lo c : Nat} {A : Option Addr} {ns : List Int} (h : Oi w lo A c ns) {k : Nat} (hk : ob A = some k) : lo ≤ k ∧ k < w.heap.size := ownsG.lt h k (by rw [ob_eq]; exact hk)
theorem Oi.mono {w : World} {lo lo' c : Nat} {A : Option Addr} {ns : List Int} (h : Oi w lo A c ns) (hl : lo' ≤ lo) : Oi w lo' A c ns := ownsG.mono h hl
theorem Oi.cap {w : World} {lo c : Nat} {A : Option Addr} {ns : List Int} (h : Oi w lo A c ns) : ns.length ≤ c := by
  rcases h.2 with ⟨hv, hn⟩ | ⟨g, cap, cur, fz, hv, _, _, _, hnc, _⟩
  · omega
  · injection hv with _ _ hv3
    omega
theorem Oi.of_fill {w : World} {lo g N : Nat} {ns : List Int} (h : Fill w g 3 N (ns.map I)) (hN : ns.length ≤ N) (hlo : lo ≤ g) (hm : N ≤ maxLen) : Oi w lo (some ⟨g, 0, none⟩) N ns := by
  obtain ⟨cur, fz, h1, hz, h2, h3, h4⟩ := h
  exact ⟨by simp, .inr ⟨g, N, cur, fz, rfl, hlo, h1, hz, hN, hm, by rw [h2]; simp, by rw [← h3]; simp⟩⟩
theorem Oi.fill {w : World} {lo c : Nat} {A : Option Addr} {ns : List Int} (h : Oi w lo A c ns) (hx : 0 < ns.length) : ∃ g, A = some ⟨g, 0, none⟩ ∧ lo ≤ g ∧ c ≤ maxLen ∧ ns.length ≤ c ∧ Fill w g 3 c [] := by
  rcases h.2 with ⟨h1, h2⟩ | ⟨g, cap, cur, fz, hv, hg, hh, hz, hc1, hc2, hc3, ht⟩
  · omega
  · injection hv with hv _ hv3
    subst hv3
    exact ⟨g, hv, hg, hc2, hc1, Fill.start hh hz (by omega)⟩
def IntsOwn (w : World) (ns : List Int) (e : Ending) (w' : World) : Prop :=
  ∃ A' c', e = .returned (.slice A' ns.length c') ∧ Oi w' w.heap.size A' c' ns ∧ Below w.heap.size w w'
set_option maxHeartbeats 400000 in
theorem toIntS_own (A : Option Addr) (c : Nat) (ns : List Int) (w : World) (ha : Cs w A (ns.map I)) (hl : ns.length ≤ 1048576) :
    Calls Try.prog 86 #[.slice A ns.length c] w (IntsOwn w ns) := by
  obtain ⟨i0, hi, hz0, hz1, hz2⟩ := info_parts info_int
  go_enter Try.func86, Try.ntmps86
  go_wp2_with (at_make; refine wpList_make_full _ rfl _ _ _ rfl w.heap.size 3 i0 _ 1 Try.underlying46 hi hz0 hz1 _ _ _ _ ns.length rfl rfl rfl rfl (by rw [hz2]; omega) (by unfold maxLen; omega) (Nat.le_refl _) ?_; intro w1 hown hgrow)
  clear hi hz0 hz1 hz2
  have hF : Fill w1 w.heap.size 3 ns.length [] := by
    rcases hown.2 with ⟨hv, _⟩ | ⟨g, cap, cur, hv, _, hh, _, _, hc3, _⟩
    · cases hv
    · injection hv with hv _ hv3
      injection hv with hv
      injection hv with hv
      subst hv3 hv
      exact Fill.start hh (.inl rfl) (by omega)
  have hb1 : Below w.heap.size w w1 := (Below.refl _ _).grown hgrow (Nat.le_refl _) (by simp)
  clear hown hgrow
  go_loopw [4] (fun i wr => ∃ k : Nat, k ≤ ns.length ∧ i = .int .i64 k ∧ Fill wr w.heap.size 3 ns.length ((ns.take k).map I) ∧ Below w.heap.size w wr) (fun i _ => ns.length - (intOf i).toNat)
  case atStart => exact ⟨0, Nat.zero_le _, rfl, hF, hb1⟩
  case round =>
    clear hF hb1
    obtain ⟨k, hk, rfl, hF, hb⟩ := hrel
    by_cases hlt : k < ns.length
    · obtain ⟨b, o, rfl, hx⟩ := (ha.below hb).ints hlt
      have hlt' : (k : Int) < ns.length := by omega
      obtain ⟨u, hu⟩ := hF.cell k hlt
      have hf := hF.frozen k hlt
      go_wp2
      go_roundw
      case rel =>
        refine ⟨k + 1, by omega, by go_num, ?_, hb.setCell (Nat.le_refl _) _⟩
        rw [take_succ_get (List.getElem?_eq_getElem hlt), List.map_append]
        exact hF.step (by simp; omega) hlt _
      case measure => simp [intOf]; omega
    · have hlt' : ¬ ((k : Int) < ns.length) := by omega
      have hk' : k = ns.length := by omega
      have hF' : Fill wr w.heap.size 3 ns.length (ns.map I) := by rw [hk', List.take_length] at hF; exact hF
      clear hF hk'
      go_wp2
      go_ret
      exact ⟨_, _, rfl, Oi.of_fill hF' (Nat.le_refl _) (Nat.le_refl _) (by unfold maxLen; omega), hb⟩
/-- The numbers that marking writes. -/
def markI (k : Int) (n : Nat) : List Int := (List.range n).map fun (i : Nat) => k + (i : Int)
theorem markI_len (k : Int) (n : Nat) : (markI k n).length = n := by simp [markI]
theorem markI_succ (k : Int) (n : Nat) : markI k (n + 1) = markI k n ++ [k + (n : Int)] := by simp [markI, List.range_succ]
theorem markI_get {k : Int} {n i : Nat} (h : i < (markI k n).length) : (markI k n)[i] = k + (i : Int) := by simp [markI]
set_option maxHeartbeats 1000000 in
theorem markIntS_any (A : Option Addr) (c lo : Nat) (ns : List Int) (k : Int) (w : World) (ha : Oi w lo A c ns) (h1 : ns.length ≤ 1048576) (hk : 0 ≤ k) (hk2 : k + (ns.length : Int) ≤ 100000000) :
    Calls Try.prog 77 #[.slice A ns.length c, .int .i64 k] w fun e w' => e = .returned (.int .i64 (k + ns.length)) ∧ Oi w' lo A c (markI k ns.length) ∧ Chg [ob A] w w' := by
  by_cases h0 : ns.length = 0
  · have hn : ns = [] := List.eq_nil_of_length_eq_zero h0
    subst hn
    go_enter Try.func77, Try.ntmps77
    go_wp2
    go_loopw [1, 5] (fun kk i wr => kk = .int .i64 k ∧ i = .int .i64 0 ∧ wr = w) (fun _ _ _ => 0)
    case atStart => exact ⟨rfl, rfl, rfl⟩
    case round =>
      obtain ⟨rfl, rfl, rfl⟩ := hrel
      go_wp2
      go_ret
      exact ⟨ret_int (by simp), ha, Chg.refl _ _⟩
  · obtain ⟨g, rfl, hlo, hcm, hxc, hF0⟩ := ha.fill (by omega)
    clear ha
    go_enter Try.func77, Try.ntmps77
    go_wp2
    go_loopw [1, 5] (fun kk i wr => ∃ (j : Nat), j ≤ ns.length ∧ i = .int .i64 j ∧ kk = .int .i64 (k + j) ∧ Fill wr g 3 c ((markI k j).map I) ∧ Chg [some g] w wr) (fun _ i _ => ns.length - (intOf i).toNat)
    case atStart => exact ⟨0, Nat.zero_le _, rfl, by simp, hF0, Chg.refl _ _⟩
    case round =>
      clear hF0
      obtain ⟨j, hj, rfl, rfl, hF, hb⟩ := hrel
      by_cases hlt : j < ns.length
      · have hlt' : (j : Int) < ns.length := by omega
        obtain ⟨u0, hu0⟩ := hF.cell j (by omega)
        have hf0 := hF.frozen j (by omega)
        go_wp2
        go_roundw
        case rel =>
          refine ⟨j + 1, by omega, by go_num, by go_num, ?_, ?_⟩
          · rw [markI_succ, List.map_append]
            exact hF.step (by simp [markI_len]) (by omega) _
          · exact hb.trans ⟨rfl, rfl, rfl, by simp [World.setCell], fun q hq hn => Below.heap_setCell wr _ _ q (by rintro rfl; exact hn (List.mem_singleton.2 rfl))⟩
        case measure => simp [intOf]; omega
      · have hlt' : ¬ ((j : Int) < ns.length) := by omega
        have hk' : j = ns.length := by omega
        subst hk'
        go_wp2
        go_ret
        have hF2 := Oi.of_fill (lo := lo) (N := c) hF (by rw [markI_len]; exact hxc) hlo hcm
        exact ⟨rfl, by simpa [Oi, markI_len] using hF2, hb⟩
set_option maxHeartbeats 1000000 in
theorem heldIntS_any (A : Option Addr) (c : Nat) (n : Nat) (k : Int) (w : World) (ha : Cs w A ((markI k n).map I)) (h1 : n ≤ 1048576) (hk : 0 ≤ k) (hk2 : k + (n : Int) ≤ 100000000) :
    Calls Try.prog 79 #[.slice A n c, .int .i64 k] w fun e w' => e = .returned (.int .i64 (k + n)) ∧ ∃ m, w.drewN m = w' := by
  go_enter Try.func79, Try.ntmps79
  go_wp2
  go_loopw [1, 5] (fun kk i wr => ∃ (j m : Nat), j ≤ n ∧ i = .int .i64 j ∧ kk = .int .i64 (k + j) ∧ wr = w.drewN m) (fun _ i _ => n - (intOf i).toNat)
  case atStart => exact ⟨0, 0, Nat.zero_le _, rfl, by simp, rfl⟩
  case round =>
    obtain ⟨j, m, hj, rfl, rfl, rfl⟩ := hrel
    by_cases hlt : j < n
    · have hlt' : (j : Int) < n := by omega
      obtain ⟨b, o, rfl, hx⟩ := ha.ints (k := j) (by rw [markI_len]; exact hlt)
      rw [markI_get] at hx
      go_wp2
      try go_quiet (fail)
      try go_wp2
      go_roundw
      case rel => exact ⟨j + 1, _, by omega, by go_num, by go_num, rfl⟩
      case measure => simp [intOf]; omega
    · have hlt' : ¬ ((j : Int) < n) := by omega
      have hk' : j = n := by omega
      subst hk'
      go_wp2
      go_ret
      exact ⟨rfl, m, rfl⟩
theorem szIntS_any (A : Option Addr) (n c : Nat) (left : Int) (w : World) (hn : n ≤ maxLen) (h0 : 0 ≤ left) (h1 : left ≤ 1048576) :
    Calls Try.prog 81 #[.slice A n c, .int .i64 left] w fun e w' => e = .returned (.int .i64 (szR left n)) ∧ w = w' := by
  unfold maxLen at hn
  by_cases h : left < n
  · have HS := szR_no h
    have h' : left - n < 0 := by omega
    go_enter Try.func81, Try.ntmps81
    go_wp2
    go_ret
    exact ⟨ret_int HS.out.symm, rfl⟩
  · have HS := szR_yes h
    have h' : ¬ left - n < 0 := by omega
    go_enter Try.func81, Try.ntmps81
    go_wp2
    go_ret
    exact ⟨ret_int HS.out.symm, rfl⟩
end Go.Proofs.Ytnilgcahggmncaa
