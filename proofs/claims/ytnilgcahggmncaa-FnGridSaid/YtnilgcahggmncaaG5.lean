/- Slices of numbers: the helpers of the laws. -/
import Derived.Test.YtnilgcahggmncaaG1
import Derived.Deep.RegionHeld3
import Derived.Deep.DeepCutAuto
namespace Go.Proofs.Ytnilgcahggmncaa
open Go.RowKit
set_option linter.unusedVariables false
set_option maxRecDepth 100000

theorem info_int : (Try.prog.info? 3).map (fun i => (i.zero, i.size, i.bytes)) = some (some (.int .i64 0), 1, 8) := by kernel_rfl
theorem Cs.keep {w w' : World} {B' : Nat} {A : Option Addr} {vs : List Value} (h : Cs w A vs) (hb : Below B' w w') (hA : ∀ ad, A = some ad → ad.block < B') : Cs w' A vs := by
  rcases h with h | ⟨b, o, rfl, h⟩
  · exact .inl h
  · exact .inr ⟨b, o, rfl, fun i v hi => (hb.cell (p := ⟨b, o + i, none⟩) (hA ⟨b, o, none⟩ rfl)).trans (h i v hi)⟩
theorem Cs.ints {w : World} {A : Option Addr} {ns : List Int} (h : Cs w A (ns.map I)) {k : Nat} (hk : k < ns.length) : ∃ b o, A = some ⟨b, o, none⟩ ∧ w.cell? ⟨b, o + k, none⟩ = some (.int .i64 ns[k]) := by
  rcases h with h | ⟨b, o, hA, h⟩
  · have h2 : ns.length = 0 := by have := congrArg List.length h; rwa [List.length_map] at this
    omega
  · exact ⟨b, o, hA, h k _ (by rw [List.getElem?_map, List.getElem?_eq_getElem hk]; rfl)⟩
theorem rd_ints {w : World} {A : Option Addr} {n c : Nat} (h : Rd Try.prog w 46 [.slice A n c]) : ∃ ns : List Int, n = ns.length ∧ Cs w A (ns.map I) ∧ ns.length ≤ maxLen ∧ ∀ x, x ∈ ns → -9223372036854775808 ≤ x ∧ x ≤ 9223372036854775807 := by
  obtain ⟨A', c', ns, h1, h2, h3, h4⟩ := Rd.list (T := Int) (size := 1) (enc := fun e => [I e]) (G := fun x => -9223372036854775808 ≤ x ∧ x ≤ 9223372036854775807) Try.underlying46 cellsInt (by decide) (by
    intro es hes
    obtain ⟨x, rfl, hx⟩ := hes.int Try.underlying3
    exact ⟨x, rfl, i64_bd hx⟩) h
  injection h1 with h1 _
  injection h1 with h1 h1' h1''
  subst h1 h1' h1''
  refine ⟨ns, rfl, ?_, h2, h3⟩
  rcases h4 with rfl | ⟨b, o, hA, h⟩
  · exact .inl rfl
  · refine .inr ⟨b, o, hA, fun i x hi => ?_⟩
    rw [List.getElem?_map] at hi
    obtain ⟨e, he, rfl⟩ := Option.map_eq_some_iff.1 hi
    have := h i e he 0 (I e) rfl
    simpa using this
theorem Fill.cs {w : World} {g N : Nat} {t : TypeId} {vs : List Value} (h : Fill w g t N vs) : Cs w (some ⟨g, 0, none⟩) vs := by
  refine .inr ⟨_, 0, rfl, fun i v hi => ?_⟩
  obtain ⟨cur, fz, h1, hz, h2, h3, h4⟩ := h
  have hi' := (List.getElem?_eq_some_iff.1 hi).1
  rw [← h3, List.getElem?_take_of_lt hi'] at hi
  unfold World.cell?
  simp [h1, ← hi]
def IntsPost (w : World) (ns : List Int) (e : Ending) (w' : World) : Prop :=
  ∃ A' c', e = .returned (.slice A' ns.length c') ∧ ns.length ≤ c' ∧ Cs w' A' (ns.map I) ∧ InB w.heap.size w'.heap.size A' ∧ Below w.heap.size w w'
set_option maxHeartbeats 400000 in
theorem toIntS_any (A : Option Addr) (c : Nat) (ns : List Int) (w : World) (ha : Cs w A (ns.map I)) (hl : ns.length ≤ 1099511627776) :
    Calls Try.prog 86 #[.slice A ns.length c] w (IntsPost w ns) := by
  obtain ⟨i0, hi, hz0, hz1, hz2⟩ := info_parts info_int
  go_enter Try.func86, Try.ntmps86
  go_wp2_with (at_make; refine wpList_make_full _ rfl _ _ _ rfl w.heap.size 3 i0 _ 1 Try.underlying46 hi hz0 hz1 _ _ _ _ ns.length rfl rfl rfl rfl (by rw [hz2]; omega) (by unfold maxLen; omega) (Nat.le_refl _) ?_; intro w1 hown hgrow)
  clear hi hz0 hz1 hz2
  have hF : Fill w1 w.heap.size 3 ns.length [] := by
    rcases hown.2 with ⟨hv, _⟩ | ⟨g, cap, cur, hv, _, hh, _, _, hc3, _⟩
    · cases hv
    · injection hv with hv _ hv3
      injection hv with hv
      injection hv with hv
      subst hv3 hv
      exact Fill.start hh (.inl rfl) (by omega)
  have hb1 : Below w.heap.size w w1 := (Below.refl _ _).grown hgrow (Nat.le_refl _) (by simp)
  clear hown hgrow
  go_loopw [4] (fun i wr => ∃ k : Nat, k ≤ ns.length ∧ i = .int .i64 k ∧ Fill wr w.heap.size 3 ns.length ((ns.take k).map I) ∧ Below w.heap.size w wr) (fun i _ => ns.length - (intOf i).toNat)
  case atStart => exact ⟨0, Nat.zero_le _, rfl, hF, hb1⟩
  case round =>
    clear hF hb1
    obtain ⟨k, hk, rfl, hF, hb⟩ := hrel
    by_cases hlt : k < ns.length
    · obtain ⟨b, o, rfl, hx⟩ := (ha.below hb).ints hlt
      have hlt' : (k : Int) < ns.length := by omega
      obtain ⟨u, hu⟩ := hF.cell k hlt
      have hf := hF.frozen k hlt
      go_wp2
      go_roundw
      case rel =>
        refine ⟨k + 1, by omega, by go_num, ?_, hb.setCell (Nat.le_refl _) _⟩
        rw [take_succ_get (List.getElem?_eq_getElem hlt), List.map_append]
        exact hF.step (by simp; omega) hlt _
      case measure => simp [intOf]; omega
    · have hlt' : ¬ ((k : Int) < ns.length) := by omega
      have hk' : k = ns.length := by omega
      have hF' : Fill wr w.heap.size 3 ns.length (ns.map I) := by rw [hk', List.take_length] at hF; exact hF
      have hlt3 := hF'.lt
      clear hF hk'
      go_wp2
      go_ret
      exact ⟨_, _, rfl, Nat.le_refl _, hF'.cs, fun ad ha => by injection ha with ha; subst ha; simp; omega, hb⟩
set_option maxHeartbeats 400000 in
theorem eqIntS_same (A A' : Option Addr) (c c' : Nat) (ns : List Int) (w : World) (ha : Cs w A (ns.map I)) (hb : Cs w A' (ns.map I)) (h1 : ns.length ≤ 1099511627776) :
    Calls Try.prog 75 #[.slice A ns.length c, .slice A' ns.length c'] w fun e w' => e = .returned (.bool true) ∧ ∃ m, w.drewN m = w' := by
  go_enter Try.func75, Try.ntmps75
  go_wp2
  go_loopw [5] (fun i wr => ∃ k m : Nat, k ≤ ns.length ∧ i = .int .i64 k ∧ wr = w.drewN m) (fun i _ => ns.length - (intOf i).toNat)
  case atStart => exact ⟨0, 0, Nat.zero_le _, rfl, rfl⟩
  case round =>
    obtain ⟨k, m, hk, rfl, rfl⟩ := hrel
    by_cases hlt : k < ns.length
    · obtain ⟨b, o, rfl, hx⟩ := ha.ints hlt
      obtain ⟨b', o', rfl, hy⟩ := hb.ints hlt
      have hlt' : (k : Int) < ns.length := by omega
      go_wp2
      go_quiet (fail)
      go_wp2
      go_roundw
      case rel => exact ⟨k + 1, _, by omega, by go_num, rfl⟩
      case measure => simp [intOf]; omega
    · have hlt' : ¬ ((k : Int) < ns.length) := by omega
      go_wp2
      go_ret
      exact ⟨rfl, _, rfl⟩
end Go.Proofs.Ytnilgcahggmncaa
