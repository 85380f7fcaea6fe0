/- Texts of marks; lists of texts compared, marked, held; a text cut at its spaces: both ways. -/
import Derived.Test.YtdfcnghgolncaaaDoorQ1
import Derived.Test.YtdfcnghgolncaaaDoorOc
import Derived.Test.YtdfcnghgolncaaaDoorSh3
import Derived.RegionTactic
import Derived.Deep.RegionHeld3
import Derived.Deep.DeepCutAuto
import Derived.Deep.RegionWith
namespace Go.Proofs.YtdfcnghgolncaaaDoor
open Go.RowKit
set_option linter.unusedVariables false
set_option maxRecDepth 100000

/-- The digits of a mark. -/
def mtG : Nat → Nat → List UInt8 → List UInt8
  | 0, _, o => o
  | f + 1, k, o => if k = 0 then o else mtG f (k / 10) (UInt8.ofNat (48 + k % 10) :: o)
def mtL (k : Nat) : List UInt8 := 109 :: mtG 20 k []
abbrev sV (u : List UInt8) : Value := .string (bstr u)
theorem bapp (x y : List UInt8) : bstr x ++ bstr y = bstr (x ++ y) := ByteArray.mk_append_mk x y
theorem by_one1 {w : World} {b : Nat} {d : UInt8} (h : w.cell? ⟨b, 0, none⟩ = some (.int .u8 (d.toNat : Int))) : By w (some ⟨b, 0, none⟩) [d] := by
  refine .inr ⟨b, 0, rfl, fun i x hx => ?_⟩
  rcases i with _ | i
  · simp at hx; subst hx; simpa using h
  · simp at hx
set_option maxHeartbeats 2000000 in
theorem markText_any (k : Nat) (w : World) (h0 : 1 ≤ k) (hk : k ≤ 10000000) :
    Calls Tryd.prog 10 #[.int .i64 k] w fun e w' => e = .returned (sV (mtL k)) ∧ Below w.heap.size w w' := by
  have h0' : ¬ (k : Int) ≤ 0 := by omega
  go_enter Tryd.func10, Tryd.ntmps10
  go_wp2_with fail
  go_loopw [0, 3] (fun kv ov wr => ∃ (f k' : Nat) (o' : List UInt8), kv = .int .i64 k' ∧ ov = .string (bstr o') ∧ k' < 10 ^ f ∧ k' ≤ 10000000 ∧ f + o'.length ≤ 20 ∧ Hid (mtG f k' o' = mtG 20 k []) ∧ Below w.heap.size w wr) (fun kv _ _ => (intOf kv).toNat)
  case atStart => exact ⟨20, k, [], rfl, rfl, Nat.lt_of_le_of_lt hk (by decide), hk, by simp, rfl, Below.refl _ _⟩
  case round =>
    obtain ⟨f, k', o', rfl, rfl, hf, hk', hl, hR, hb⟩ := hrel
    by_cases hz : k' = 0
    · subst hz
      have e0 : mtG f 0 o' = o' := by cases f <;> simp [mtG]
      have HR : Hid (sV (109 :: o') = sV (mtL k)) := by show _ = _; rw [mtL, ← hR.out, e0]
      have hsz : (bstr o').size = o'.length := bstr_size o'
      clear hR e0
      go_wp2_with fail
      go_ret
      exact ⟨by rw [← HR.out]; show Ending.returned (.string (bstr [109] ++ bstr o')) = _; rw [bapp]; rfl, hb⟩
    · have hz' : (0 : Int) < (k' : Int) := by omega
      obtain ⟨f', rfl⟩ : ∃ f', f = f' + 1 := by
        cases f with
        | zero => simp at hf; omega
        | succ f' => exact ⟨f', rfl⟩
      obtain ⟨r, hr⟩ : ∃ r, r = k' % 10 := ⟨_, rfl⟩
      obtain ⟨q, hq⟩ : ∃ q, q = k' / 10 := ⟨_, rfl⟩
      have em : Int.tmod (k' : Int) 10 = (r : Int) := by rw [hr]; exact (Int.ofNat_tmod _ _).symm
      have em2 : (k' : Int) % 10 = (r : Int) := by rw [hr]; simp
      have ed : Int.tdiv (k' : Int) 10 = (q : Int) := by rw [hq]; exact (Int.ofNat_tdiv _ _).symm
      have ed2 : (k' : Int) / 10 = (q : Int) := by rw [hq]; simp
      have hr10 : r < 10 := by rw [hr]; exact Nat.mod_lt _ (by omega)
      have hqf : q < 10 ^ f' := by rw [hq]; rw [Nat.pow_succ] at hf; omega
      have hqk : q < k' := by rw [hq]; omega
      obtain ⟨d, hd⟩ : ∃ d : UInt8, Hid (d = UInt8.ofNat (48 + r)) := ⟨_, Lib.hid rfl⟩
      have hdn : d.toNat = 48 + r := by rw [hd.out]; simp; omega
      have ek : IntKind.u8.wrap (48 + (r : Int)) = 48 + (r : Int) := by rw [IntKind.wrap_u8]; omega
      have HR2 : Hid (mtG f' q (d :: o') = mtG 20 k []) := by
        have := hR.out
        rw [mtG, if_neg hz, ← hq, ← hr, ← hd.out] at this
        exact this
      have hcv : (convert 30 9 (.slice (some ⟨wr.heap.size, 0, none⟩) 1 1)).run Tryd.prog (wr.alloc (.cells #[.int .u8 (48 + (r : Int))] 5)) = .ok (.string (bstr [d])) (wr.alloc (.cells #[.int .u8 (48 + (r : Int))] 5)) :=
        conv_by (c := 1) (by_one1 (d := d) (by rw [World.cell?_alloc_new, hdn]; simp))
      have room : ¬ 9223372036854775807 < (bstr [d]).size + (bstr o').size := by rw [bstr_size, bstr_size]; simp; omega
      clear hR hr hq hdn hd
      go_wp2_with fail
      go_roundw
      case rel => exact ⟨f', q, d :: o', rfl, by rw [bapp]; rfl, hqf, by omega, by simp; omega, HR2, hb.alloc hb.size _⟩
      case measure => simp [intOf]; omega
theorem eqS_same (A B : Option Addr) (c d : Nat) (us : List (List UInt8)) (w : World) (ha : Cs w A (us.map sV)) (hb : Cs w B (us.map sV)) (hl : us.length ≤ 10000000) :
    Calls Tryd.prog 6 #[.slice A us.length c, .slice B us.length d] w fun e w' => e = .returned (.bool true) ∧ Below w.heap.size w w' := by
  go_enter Tryd.func6, Tryd.ntmps6
  go_wp2_with fail
  go_loopw [5] (fun i wr => ∃ k : Nat, k ≤ us.length ∧ i = .int .i64 k ∧ Below w.heap.size w wr) (fun i _ => us.length - (intOf i).toNat)
  case atStart => exact ⟨0, Nat.zero_le _, rfl, Below.refl _ _⟩
  case round =>
    obtain ⟨k, hk, rfl, hw⟩ := hrel
    by_cases hlt : k < us.length
    · have hlt' : (k : Int) < us.length := by omega
      have hk0 : (0 : Int) ≤ (k : Int) := Int.natCast_nonneg k
      have ha' := ha.below hw
      have hb' := hb.below hw
      have hne : (us.map sV) ≠ [] := by intro e; rw [List.map_eq_nil_iff] at e; rw [e] at hlt; simp at hlt
      obtain ⟨b1, o1, rfl, hx⟩ := ha'.resolve_left hne
      obtain ⟨b2, o2, rfl, hy⟩ := hb'.resolve_left hne
      obtain ⟨x, hxe⟩ : ∃ x, x = bstr us[k] := ⟨_, rfl⟩
      have gk : (us.map sV)[k]? = some (.string x) := by rw [List.getElem?_map, List.getElem?_eq_getElem hlt, hxe]; rfl
      have g1 := hx k _ gk
      have g2 := hy k _ gk
      clear hx hy gk hxe ha' hb' hne
      go_wp2_with fail
      go_region
      go_wp2_with fail
      go_roundw
      case rel => exact ⟨k + 1, by omega, by go_num, hw.drew⟩
      case measure => simp [intOf]; omega
    · have hlt' : ¬ (k : Int) < us.length := by omega
      go_wp2_with fail
      go_ret
      exact ⟨rfl, hw⟩
/-- The marks from k on. -/
def mkS (k n : Nat) : List Value := (List.range n).map fun i => sV (mtL (k + i))
theorem mkS_len {k n : Nat} : (mkS k n).length = n := by simp [mkS]
theorem mkS_get {k n i : Nat} (h : i < n) : (mkS k n)[i]? = some (sV (mtL (k + i))) := by simp [mkS, h]
theorem mkS_succ {k n : Nat} : mkS k (n + 1) = mkS k n ++ [sV (mtL (k + n))] := by simp [mkS, List.range_succ]
theorem Oc.fillS {w : World} {lo c : Nat} {A : Option Addr} {vs : List Value} (h : Oc 9 w lo A c vs) (hx : 0 < vs.length) : ∃ g, A = some ⟨g, 0, none⟩ ∧ lo ≤ g ∧ c ≤ maxLen ∧ vs.length ≤ c ∧ Fill w g 9 c [] := by
  rcases h.2 with ⟨h1, h2⟩ | ⟨g, cap, cur, fz, hv, hg, hh, hz, hc1, hc2, hc3, ht⟩
  · omega
  · injection hv with hv _ hv3
    subst hv3
    exact ⟨g, hv, hg, hc2, hc1, Fill.start hh hz (by omega)⟩
theorem Oc.of_fillS {w : World} {lo g c : Nat} {vs : List Value} (h : Fill w g 9 c vs) (hlo : lo ≤ g) (hm : c ≤ maxLen) : Oc 9 w lo (some ⟨g, 0, none⟩) c vs := by
  obtain ⟨cur, fz, h1, hz, h2, h3, h4⟩ := h
  exact ⟨by simp, .inr ⟨g, c, cur, fz, rfl, hlo, h1, hz, h4, hm, by omega, by rw [Nat.mul_one]; exact h3⟩⟩
def MsPost (lo : Nat) (A : Option Addr) (c k n : Nat) (w : World) (e : Ending) (w' : World) : Prop :=
  ∃ g, A = some ⟨g, 0, none⟩ ∧ lo ≤ g ∧ e = .returned (.int .i64 ((k + n : Nat) : Int)) ∧ Oc 9 w' lo A c (mkS k n) ∧ w.grownBy w' (some g)
set_option maxHeartbeats 2000000 in
theorem markS_any (lo : Nat) (A : Option Addr) (c k n : Nat) (vs : List Value) (w : World) (ha : Oc 9 w lo A c vs) (hn : vs.length = n) (h0 : 0 < n) (hk : 1 ≤ k) (hk2 : k + n ≤ 10000000) :
    Calls Tryd.prog 7 #[.slice A n c, .int .i64 k] w (MsPost lo A c k n w) := by
  obtain ⟨g, rfl, hlo, hcm, hxc, hF0⟩ := ha.fillS (by omega)
  rw [hn] at hxc
  clear ha
  go_enter Tryd.func7, Tryd.ntmps7
  go_wp2_with fail
  go_loopw [1, 5] (fun kk i wr => ∃ j : Nat, j ≤ n ∧ i = .int .i64 j ∧ kk = .int .i64 ((k + j : Nat) : Int) ∧ Fill wr g 9 c (mkS k j) ∧ w.grownBy wr (some g)) (fun _ i _ => n - (intOf i).toNat)
  case atStart => exact ⟨0, Nat.zero_le _, rfl, rfl, hF0, World.grownBy.refl _ _⟩
  case round =>
    clear hF0
    obtain ⟨j, hj, rfl, rfl, hF, hb⟩ := hrel
    by_cases hlt : j < n
    · have hlt' : (j : Int) < (n : Int) := by omega
      have hgl := hF.lt
      have hj0 : (0 : Int) ≤ (j : Int) := Int.natCast_nonneg j
      go_wp2_with (go_at_call 10; refine (markText_any (k + j) _ (by omega) (by omega)).mono ?_; rintro e w2 ⟨rfl, hb2⟩; have hF2 := hF.keep (hb2.block _ hgl); obtain ⟨u, hu⟩ := hF2.cell j (by omega); have hf := hF2.frozen j (by omega))
      have hg2 : w.grownBy w2 (some g) := ⟨hb2.os.trans hb.os, hb2.tape.trans hb.tape, hb2.output.trans hb.output, Nat.le_trans hb.size hb2.size, fun i hi hne => (hb2.block i (Nat.lt_of_lt_of_le hi hb.size)).trans (hb.block i hi hne)⟩
      go_roundw
      case rel => exact ⟨j + 1, by omega, by go_num, by go_num, by rw [mkS_succ]; exact hF2.step (by rw [mkS_len]) (by omega) _, grown_set hg2 _⟩
      case measure => simp [intOf]; omega
    · have hlt' : ¬ (j : Int) < (n : Int) := by omega
      obtain rfl : j = n := by omega
      go_wp2_with fail
      go_ret
      exact ⟨g, rfl, hlo, rfl, Oc.of_fillS hF hlo hcm, hb⟩
set_option maxHeartbeats 2000000 in
theorem heldS_any (A : Option Addr) (c k n : Nat) (w : World) (ha : Cs w A (mkS k n)) (hk : 1 ≤ k) (hk2 : k + n ≤ 10000000) :
    Calls Tryd.prog 8 #[.slice A n c, .int .i64 k] w fun e w' => e = .returned (.int .i64 ((k + n : Nat) : Int)) ∧ Below w.heap.size w w' := by
  go_enter Tryd.func8, Tryd.ntmps8
  go_wp2_with fail
  go_loopw [1, 5] (fun kk i wr => ∃ j : Nat, j ≤ n ∧ i = .int .i64 j ∧ kk = .int .i64 ((k + j : Nat) : Int) ∧ Below w.heap.size w wr) (fun _ i _ => n - (intOf i).toNat)
  case atStart => exact ⟨0, Nat.zero_le _, rfl, rfl, Below.refl _ _⟩
  case round =>
    obtain ⟨j, hj, rfl, rfl, hb⟩ := hrel
    by_cases hlt : j < n
    · have hlt' : (j : Int) < (n : Int) := by omega
      have hj0 : (0 : Int) ≤ (j : Int) := Int.natCast_nonneg j
      have ha' := ha.below hb
      obtain ⟨b1, o1, rfl, hx⟩ := ha'.resolve_left (by intro e; have := congrArg List.length e; rw [mkS_len] at this; simp at this; omega)
      have g1 := hx j _ (mkS_get hlt)
      obtain ⟨x, hxe⟩ : ∃ x, Hid (x = bstr (mtL (k + j))) := ⟨_, Lib.hid rfl⟩
      have g1' : wr.cell? ⟨b1, o1 + j, none⟩ = some (.string x) := by rw [hxe.out]; exact g1
      have HM : Hid (∀ w', Calls Tryd.prog 10 #[.int .i64 ((k + j : Nat) : Int)] w' fun e w'' => e = .returned (.string x) ∧ Below w'.heap.size w' w'') := fun w' => by
        rw [hxe.out]
        exact markText_any (k + j) w' (by omega) (by omega)
      have lb := World.block_lt_of_cell? wr _ g1'
      dsimp only at lb
      clear hx g1 ha'
      go_wp2_with fail
      first
        | (go_region_held3 (fun w' => Below wr.heap.size wr w' ∧ w'.cell? ⟨b1, o1 + j, none⟩ = some (.string x))
            (first | exact ⟨Below.drew (Below.refl _ _), by simpa using g1'⟩ | assumption | (refine ⟨?_, ?_⟩ <;> assumption))
            ((go_at_call 10; refine (HM.out _).mono ?_; rintro e w2 ⟨rfl, hb2⟩; have hbw : Below wr.heap.size wr w2 := (Below.drew (Below.refl wr.heap.size wr)).trans hb2; have hkeep := And.intro hbw ((hbw.cell (World.block_lt_of_cell? wr _ g1')).trans g1'))))
        | fail
      clear hkeep
      go_wp2_with fail
      go_roundw
      case rel => exact ⟨j + 1, by omega, by go_num, by go_num, hb.trans (hbw.mono hb.size)⟩
      case measure => simp [intOf]; omega
    · have hlt' : ¬ (j : Int) < (n : Int) := by omega
      obtain rfl : j = n := by omega
      go_wp2_with fail
      go_ret
      exact ⟨rfl, hb⟩
end Go.Proofs.YtdfcnghgolncaaaDoor
