/- Links and turns marked, and held. -/
import Derived.Test.YtfkdifgmhfdbdaaGreatDoorI5
namespace Go.Proofs.YtfkdifgmhfdbdaaGreatDoor
open Go.RowKit
set_option linter.unusedVariables false
set_option maxRecDepth 100000

/-- The digits of a mark. -/
def mtG : Nat → Nat → List UInt8 → List UInt8
  | 0, _, o => o
  | f + 1, k, o => if k = 0 then o else mtG f (k / 10) (UInt8.ofNat (48 + k % 10) :: o)
def mtL (k : Nat) : List UInt8 := 109 :: mtG 20 k []
abbrev sV (u : List UInt8) : Value := .string (bstr u)
theorem bapp (x y : List UInt8) : bstr x ++ bstr y = bstr (x ++ y) := ByteArray.mk_append_mk x y
theorem by_one1 {w : World} {b : Nat} {d : UInt8} (h : w.cell? ⟨b, 0, none⟩ = some (.int .u8 (d.toNat : Int))) : By w (some ⟨b, 0, none⟩) [d] := by
  refine .inr ⟨b, 0, rfl, fun i x hx => ?_⟩
  rcases i with _ | i
  · simp at hx; subst hx; simpa using h
  · simp at hx
set_option maxHeartbeats 2000000 in
theorem markText_any (k : Nat) (w : World) (h0 : 1 ≤ k) (hk : k ≤ 10000000) :
    Calls Tryz.prog 88 #[.int .i64 k] w fun e w' => e = .returned (sV (mtL k)) ∧ Below w.heap.size w w' := by
  have h0' : ¬ (k : Int) ≤ 0 := by omega
  go_enter Tryz.func88, Tryz.ntmps88
  go_wp2_with fail
  go_loopw [0, 3] (fun kv ov wr => ∃ (f k' : Nat) (o' : List UInt8), kv = .int .i64 k' ∧ ov = .string (bstr o') ∧ k' < 10 ^ f ∧ k' ≤ 10000000 ∧ f + o'.length ≤ 20 ∧ Hid (mtG f k' o' = mtG 20 k []) ∧ Below w.heap.size w wr) (fun kv _ _ => (intOf kv).toNat)
  case atStart => exact ⟨20, k, [], rfl, rfl, Nat.lt_of_le_of_lt hk (by decide), hk, by simp, rfl, Below.refl _ _⟩
  case round =>
    obtain ⟨f, k', o', rfl, rfl, hf, hk', hl, hR, hb⟩ := hrel
    by_cases hz : k' = 0
    · subst hz
      have e0 : mtG f 0 o' = o' := by cases f <;> simp [mtG]
      have HR : Hid (sV (109 :: o') = sV (mtL k)) := by show _ = _; rw [mtL, ← hR.out, e0]
      have hsz : (bstr o').size = o'.length := bstr_size o'
      clear hR e0
      go_wp2_with fail
      go_ret
      exact ⟨by rw [← HR.out]; show Ending.returned (.string (bstr [109] ++ bstr o')) = _; rw [bapp]; rfl, hb⟩
    · have hz' : (0 : Int) < (k' : Int) := by omega
      obtain ⟨f', rfl⟩ : ∃ f', f = f' + 1 := by
        cases f with
        | zero => simp at hf; omega
        | succ f' => exact ⟨f', rfl⟩
      obtain ⟨r, hr⟩ : ∃ r, r = k' % 10 := ⟨_, rfl⟩
      obtain ⟨q, hq⟩ : ∃ q, q = k' / 10 := ⟨_, rfl⟩
      have em : Int.tmod (k' : Int) 10 = (r : Int) := by rw [hr]; exact (Int.ofNat_tmod _ _).symm
      have em2 : (k' : Int) % 10 = (r : Int) := by rw [hr]; simp
      have ed : Int.tdiv (k' : Int) 10 = (q : Int) := by rw [hq]; exact (Int.ofNat_tdiv _ _).symm
      have ed2 : (k' : Int) / 10 = (q : Int) := by rw [hq]; simp
      have hr10 : r < 10 := by rw [hr]; exact Nat.mod_lt _ (by omega)
      have hqf : q < 10 ^ f' := by rw [hq]; rw [Nat.pow_succ] at hf; omega
      have hqk : q < k' := by rw [hq]; omega
      obtain ⟨d, hd⟩ : ∃ d : UInt8, Hid (d = UInt8.ofNat (48 + r)) := ⟨_, Lib.hid rfl⟩
      have hdn : d.toNat = 48 + r := by rw [hd.out]; simp; omega
      have ek : IntKind.u8.wrap (48 + (r : Int)) = 48 + (r : Int) := by rw [IntKind.wrap_u8]; omega
      have HR2 : Hid (mtG f' q (d :: o') = mtG 20 k []) := by
        have := hR.out
        rw [mtG, if_neg hz, ← hq, ← hr, ← hd.out] at this
        exact this
      have hcv : (convert 42 9 (.slice (some ⟨wr.heap.size, 0, none⟩) 1 1)).run Tryz.prog (wr.alloc (.cells #[.int .u8 (48 + (r : Int))] 5)) = .ok (.string (bstr [d])) (wr.alloc (.cells #[.int .u8 (48 + (r : Int))] 5)) :=
        conv_by (c := 1) (by_one1 (d := d) (by rw [World.cell?_alloc_new, hdn]; simp))
      have room : ¬ 9223372036854775807 < (bstr [d]).size + (bstr o').size := by rw [bstr_size, bstr_size]; simp; omega
      clear hR hr hq hdn hd
      go_wp2_with fail
      go_roundw
      case rel => exact ⟨f', q, d :: o', rfl, by rw [bapp]; rfl, hqf, by omega, by simp; omega, HR2, hb.alloc hb.size _⟩
      case measure => simp [intOf]; omega
theorem Kp.of_below {lo hi : Nat} {w w' : World} (h : Below w.heap.size w w') (hl : lo ≤ w.heap.size) : Kp lo hi w w' := ⟨h.mono hl, fun k _ hs => h.block k hs⟩
theorem Kp.setCell {lo hi : Nat} {w w' : World} {p : Addr} (h : Kp lo hi w w') (h1 : lo ≤ p.block) (h2 : p.block < hi) (v : Value) : Kp lo hi w (w'.setCell p v) :=
  ⟨h.1.setCell h1 v, fun k hk hs => (Below.heap_setCell w' p v k (by omega)).trans (h.2 k hk hs)⟩
theorem set_mid {T : Type} {l r : List T} {x y : T} : (l ++ x :: r).set l.length y = l ++ y :: r := by simp
/-- Links as the marks from k on have them; turns likewise. -/
def mkK (k n : Nat) : List Lk := (List.range n).map fun i => (bstr (mtL (k + 2 * i)), ((k + 2 * i + 1 : Nat) : Int))
def mkT (k n : Nat) : List Tn := (List.range n).map fun i => (((k + 4 * i : Nat) : Int), bstr (mtL (k + 4 * i + 1)), bstr (mtL (k + 4 * i + 2)), ((k + 4 * i + 3 : Nat) : Int))
theorem mkK_len (k n : Nat) : (mkK k n).length = n := by simp [mkK]
theorem mkT_len (k n : Nat) : (mkT k n).length = n := by simp [mkT]
theorem mkK_succ (k n : Nat) : mkK k (n + 1) = mkK k n ++ [(bstr (mtL (k + 2 * n)), ((k + 2 * n + 1 : Nat) : Int))] := by simp [mkK, List.range_succ]
theorem mkT_succ (k n : Nat) : mkT k (n + 1) = mkT k n ++ [(((k + 4 * n : Nat) : Int), bstr (mtL (k + 4 * n + 1)), bstr (mtL (k + 4 * n + 2)), ((k + 4 * n + 3 : Nat) : Int))] := by simp [mkT, List.range_succ]
theorem mkK_get (k n i : Nat) (h : i < n) : (mkK k n)[i]'(by rw [mkK_len]; exact h) = (bstr (mtL (k + 2 * i)), ((k + 2 * i + 1 : Nat) : Int)) := by simp [mkK]
theorem mkT_get (k n i : Nat) (h : i < n) : (mkT k n)[i]'(by rw [mkT_len]; exact h) = (((k + 4 * i : Nat) : Int), bstr (mtL (k + 4 * i + 1)), bstr (mtL (k + 4 * i + 2)), ((k + 4 * i + 3 : Nat) : Int)) := by simp [mkT]
theorem flat_set4 (y : Tn) : ∀ (xs : List Tn) (i : Nat), i < xs.length → ((((xs.flatMap tnL).set (i * 4) (.int .i64 y.1)).set (i * 4 + 1) (.string y.2.1)).set (i * 4 + 2) (.string y.2.2.1)).set (i * 4 + 3) (.int .i64 y.2.2.2) = (xs.set i y).flatMap tnL
  | [], _, h => by simp at h
  | x :: r, 0, _ => by simp
  | x :: r, i + 1, h => by
    have ih := flat_set4 y r i (by simpa using h)
    rw [show (i + 1) * 4 = i * 4 + 1 + 1 + 1 + 1 by omega]
    simp only [List.flatMap_cons, List.set_cons_succ, List.cons_append, List.nil_append]
    rw [← ih]
set_option maxHeartbeats 4000000 in
theorem markLinkS_any (lo hi : Nat) (A : Option Addr) (c : Nat) (xs : List Lk) (k : Nat) (w : World) (ha : Oe 67 2 lkL w lo A c xs) (hA : InB lo hi A) (hk : 1 ≤ k) (hk2 : k + 2 * xs.length ≤ 10000000) :
    Calls Tryz.prog 50 #[.slice A xs.length c, .int .i64 k] w fun e w' => e = .returned (.int .i64 ((k + 2 * xs.length : Nat) : Int)) ∧ Oe 67 2 lkL w' lo A c (mkK k xs.length) ∧ Kp lo hi w w' := by
  rcases Nat.eq_zero_or_pos xs.length with h0 | h0
  · have hx := List.eq_nil_of_length_eq_zero h0
    subst hx
    go_enter Tryz.func50, Tryz.ntmps50
    go_wp2_with fail
    go_loopw [1, 5] (fun kv iv wr => kv = .int .i64 k ∧ iv = .int .i64 0 ∧ wr = w) (fun _ _ _ => 0)
    case atStart => exact ⟨rfl, rfl, rfl⟩
    case round =>
      obtain ⟨rfl, rfl, rfl⟩ := hrel
      go_wp2_with fail
      go_ret
      exact ⟨rfl, by simpa [mkK] using ha, Kp.refl _ _ _⟩
  · obtain ⟨g, rfl, hlo, hcm, hcap, hF⟩ := ha.fillC lk2 h0
    have hgi := (hA _ rfl)
    obtain ⟨n, hn⟩ : ∃ n, n = xs.length := ⟨_, rfl⟩
    rw [← hn] at hk2 hcap ⊢
    have HN := Lib.hid hn
    clear hn h0 ha hA
    go_enter Tryz.func50, Tryz.ntmps50
    go_wp2_with fail
    go_loopw [1, 5] (fun kv iv wr => ∃ j : Nat, j ≤ n ∧ iv = .int .i64 j ∧ kv = .int .i64 ((k + 2 * j : Nat) : Int) ∧ Fill wr g 67 (c * 2) ((mkK k j ++ xs.drop j).flatMap lkL) ∧ Kp g (g + 1) w wr) (fun _ iv _ => n - (intOf iv).toNat)
    case atStart => exact ⟨0, Nat.zero_le _, rfl, rfl, by simpa [mkK] using hF, Kp.refl _ _ _⟩
    case round =>
      clear hF
      obtain ⟨j, hj, rfl, rfl, hF, hkp⟩ := hrel
      have zF := hF.lt
      have zz := hkp.1.size
      by_cases hjn : j < n
      case neg =>
        have hlt' : ¬ ((j : Int) < n) := by omega
        obtain rfl : j = n := by omega
        have hE : mkK k j ++ xs.drop j = mkK k j := by rw [List.drop_of_length_le (by have := HN.out; omega), List.append_nil]
        rw [hE] at hF
        have hO : Oe 67 2 lkL wr lo (some ⟨g, 0, none⟩) c (mkK k j) := Oe.of_fill lk2 hF (by rw [mkK_len]; exact hcap) hlo hcm
        clear hE hF
        go_wp2_with fail
        go_ret
        exact ⟨rfl, hO, hkp.wide hlo (by have h7 : g < hi := hgi.2; omega)⟩
      have hlt : j < xs.length := by have := HN.out; omega
      have hlt' : (j : Int) < n := by omega
      go_wp2_with (go_at_call 88; refine (markText_any (k + 2 * j) _ (by omega) (by omega)).mono ?_; rintro e w2 ⟨rfl, hb2⟩; have hF2 := hF.keep (hb2.block _ zF); obtain ⟨u0, hu0⟩ := hF2.cell (j * 2) (by omega); have hf0 := hF2.frozen (j * 2) (by omega); obtain ⟨u1, hu1⟩ := hF2.cell (j * 2 + 1) (by omega); have hf1 := hF2.frozen (j * 2 + 1) (by omega))
      have hk2 : Kp g (g + 1) w w2 := hkp.trans (Kp.of_below hb2 (by omega))
      go_roundw
      case rel =>
        refine ⟨j + 1, by omega, by go_num, by go_num, ?_, (hk2.setCell (by show g ≤ g; omega) (by show g < g + 1; omega) _).setCell (by show g ≤ g; omega) (by show g < g + 1; omega) _⟩
        have h5 := (hF2.setAt (k := j * 2) (by rw [flat_len lk2]; simp [mkK_len]; omega) (.string (bstr (mtL (k + 2 * j))))).setAt (k := j * 2 + 1) (by rw [List.length_set, flat_len lk2]; simp [mkK_len]; omega) (.int .i64 ((k + 2 * j + 1 : Nat) : Int))
        rw [flat_set2 (bstr (mtL (k + 2 * j)), ((k + 2 * j + 1 : Nat) : Int)) _ j (by simp [mkK_len]; omega)] at h5
        have h6 : (mkK k j ++ xs.drop j).set j (bstr (mtL (k + 2 * j)), ((k + 2 * j + 1 : Nat) : Int)) = mkK k (j + 1) ++ xs.drop (j + 1) := by
          rw [List.drop_eq_getElem_cons hlt, mkK_succ, List.append_assoc]
          have := @set_mid _ (mkK k j) (xs.drop (j + 1)) xs[j] (bstr (mtL (k + 2 * j)), ((k + 2 * j + 1 : Nat) : Int))
          rw [mkK_len] at this
          exact this
        rw [h6] at h5
        simpa using h5
      case measure => simp [intOf]; omega
set_option maxHeartbeats 4000000 in
theorem markTurnS_any (lo hi : Nat) (A : Option Addr) (c : Nat) (xs : List Tn) (k : Nat) (w : World) (ha : Oe 94 4 tnL w lo A c xs) (hA : InB lo hi A) (hk : 1 ≤ k) (hk2 : k + 4 * xs.length ≤ 10000000) :
    Calls Tryz.prog 51 #[.slice A xs.length c, .int .i64 k] w fun e w' => e = .returned (.int .i64 ((k + 4 * xs.length : Nat) : Int)) ∧ Oe 94 4 tnL w' lo A c (mkT k xs.length) ∧ Kp lo hi w w' := by
  rcases Nat.eq_zero_or_pos xs.length with h0 | h0
  · have hx := List.eq_nil_of_length_eq_zero h0
    subst hx
    go_enter Tryz.func51, Tryz.ntmps51
    go_wp2_with fail
    go_loopw [1, 5] (fun kv iv wr => kv = .int .i64 k ∧ iv = .int .i64 0 ∧ wr = w) (fun _ _ _ => 0)
    case atStart => exact ⟨rfl, rfl, rfl⟩
    case round =>
      obtain ⟨rfl, rfl, rfl⟩ := hrel
      go_wp2_with fail
      go_ret
      exact ⟨rfl, by simpa [mkT] using ha, Kp.refl _ _ _⟩
  · obtain ⟨g, rfl, hlo, hcm, hcap, hF⟩ := ha.fillC tn4 h0
    have hgi := (hA _ rfl)
    obtain ⟨n, hn⟩ : ∃ n, n = xs.length := ⟨_, rfl⟩
    rw [← hn] at hk2 hcap ⊢
    have HN := Lib.hid hn
    clear hn h0 ha hA
    go_enter Tryz.func51, Tryz.ntmps51
    go_wp2_with fail
    go_loopw [1, 5] (fun kv iv wr => ∃ j : Nat, j ≤ n ∧ iv = .int .i64 j ∧ kv = .int .i64 ((k + 4 * j : Nat) : Int) ∧ Fill wr g 94 (c * 4) ((mkT k j ++ xs.drop j).flatMap tnL) ∧ Kp g (g + 1) w wr) (fun _ iv _ => n - (intOf iv).toNat)
    case atStart => exact ⟨0, Nat.zero_le _, rfl, rfl, by simpa [mkT] using hF, Kp.refl _ _ _⟩
    case round =>
      clear hF
      obtain ⟨j, hj, rfl, rfl, hF, hkp⟩ := hrel
      have zF := hF.lt
      have zz := hkp.1.size
      by_cases hjn : j < n
      case neg =>
        have hlt' : ¬ ((j : Int) < n) := by omega
        obtain rfl : j = n := by omega
        have hE : mkT k j ++ xs.drop j = mkT k j := by rw [List.drop_of_length_le (by have := HN.out; omega), List.append_nil]
        rw [hE] at hF
        have hO : Oe 94 4 tnL wr lo (some ⟨g, 0, none⟩) c (mkT k j) := Oe.of_fill tn4 hF (by rw [mkT_len]; exact hcap) hlo hcm
        clear hE hF
        go_wp2_with fail
        go_ret
        exact ⟨rfl, hO, hkp.wide hlo (by have h7 : g < hi := hgi.2; omega)⟩
      have hlt : j < xs.length := by have := HN.out; omega
      have hlt' : (j : Int) < n := by omega
      have hF0 := hF
      obtain ⟨u0, hu0⟩ := hF.cell (j * 4) (by omega)
      have hf0 := hF.frozen (j * 4) (by omega)
      have hF1 := hF0.setAt (k := j * 4) (by rw [flat_len tn4]; simp [mkT_len]; omega) (.int .i64 ((k + 4 * j : Nat) : Int))
      go_wp2_with fail
      refine (markText_any (k + 4 * j + 1) _ (by omega) (by omega)).mono ?_
      rintro e w2 ⟨rfl, hb2⟩
      have hF2 := hF1.keep (hb2.block _ (by simpa using zF))
      obtain ⟨u1, hu1⟩ := hF2.cell (j * 4 + 1) (by omega)
      have hf1 := hF2.frozen (j * 4 + 1) (by omega)
      have hF3 := hF2.setAt (k := j * 4 + 1) (by rw [List.length_set, flat_len tn4]; simp [mkT_len]; omega) (.string (bstr (mtL (k + 4 * j + 1))))
      go_wp2_with fail
      refine (markText_any (k + 4 * j + 2) _ (by omega) (by omega)).mono ?_
      rintro e w3 ⟨rfl, hb3⟩
      have hz2 := hF2.lt
      have hF4 := hF3.keep (hb3.block _ (by simpa using hz2))
      obtain ⟨u2, hu2⟩ := hF4.cell (j * 4 + 2) (by omega)
      have hf2 := hF4.frozen (j * 4 + 2) (by omega)
      obtain ⟨u3, hu3⟩ := hF4.cell (j * 4 + 3) (by omega)
      have hf3 := hF4.frozen (j * 4 + 3) (by omega)
      have hk1 : Kp g (g + 1) w (wr.setCell ⟨g, j * 4, none⟩ (.int .i64 ((k + 4 * j : Nat) : Int))) := hkp.setCell (by show g ≤ g; omega) (by show g < g + 1; omega) _
      have hk2 := hk1.trans (Kp.of_below hb2 (by simp; omega))
      have hk3 := (hk2.setCell (p := ⟨g, j * 4 + 1, none⟩) (by show g ≤ g; omega) (by show g < g + 1; omega) (.string (bstr (mtL (k + 4 * j + 1))))).trans (Kp.of_below hb3 (by simp; omega))
      go_wp2_with fail
      go_roundw
      case rel =>
        refine ⟨j + 1, by omega, by go_num, by go_num, ?_, (hk3.setCell (by show g ≤ g; omega) (by show g < g + 1; omega) _).setCell (by show g ≤ g; omega) (by show g < g + 1; omega) _⟩
        have h5 := (hF4.setAt (k := j * 4 + 2) (by rw [List.length_set, List.length_set, flat_len tn4]; simp [mkT_len]; omega) (.string (bstr (mtL (k + 4 * j + 2))))).setAt (k := j * 4 + 3) (by rw [List.length_set, List.length_set, List.length_set, flat_len tn4]; simp [mkT_len]; omega) (.int .i64 ((k + 4 * j + 3 : Nat) : Int))
        rw [flat_set4 (((k + 4 * j : Nat) : Int), bstr (mtL (k + 4 * j + 1)), bstr (mtL (k + 4 * j + 2)), ((k + 4 * j + 3 : Nat) : Int)) _ j (by simp [mkT_len]; omega)] at h5
        have h6 : (mkT k j ++ xs.drop j).set j (((k + 4 * j : Nat) : Int), bstr (mtL (k + 4 * j + 1)), bstr (mtL (k + 4 * j + 2)), ((k + 4 * j + 3 : Nat) : Int)) = mkT k (j + 1) ++ xs.drop (j + 1) := by
          rw [List.drop_eq_getElem_cons hlt, mkT_succ, List.append_assoc]
          have := @set_mid _ (mkT k j) (xs.drop (j + 1)) xs[j] (((k + 4 * j : Nat) : Int), bstr (mtL (k + 4 * j + 1)), bstr (mtL (k + 4 * j + 2)), ((k + 4 * j + 3 : Nat) : Int))
          rw [mkT_len] at this
          exact this
        rw [h6] at h5
        simpa [Int.add_assoc] using h5
      case measure => simp [intOf]; omega
end Go.Proofs.YtfkdifgmhfdbdaaGreatDoor
