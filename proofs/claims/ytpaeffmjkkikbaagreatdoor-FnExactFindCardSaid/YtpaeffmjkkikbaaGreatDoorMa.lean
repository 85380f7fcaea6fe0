/- Links and turns marked, and held. Files marked; a disk marked. A disk marked; files, links, turns and disks that hold their marks. -/
import Derived.Test.YtpaeffmjkkikbaaGreatDoorVb
import Derived.Test.YtpaeffmjkkikbaaGreatDoorQb
namespace Go.Proofs.YtpaeffmjkkikbaaGreatDoor
open Go.RowKit

set_option linter.unusedVariables false
set_option maxRecDepth 100000

/-- The digits of a mark. -/
def mtG : Nat → Nat → List UInt8 → List UInt8
  | 0, _, o => o
  | f + 1, k, o => if k = 0 then o else mtG f (k / 10) (UInt8.ofNat (48 + k % 10) :: o)
def mtL (k : Nat) : List UInt8 := 109 :: mtG 20 k []
abbrev sV (u : List UInt8) : Value := .string (bstr u)
theorem bapp (x y : List UInt8) : bstr x ++ bstr y = bstr (x ++ y) := ByteArray.mk_append_mk x y
theorem by_one1 {w : World} {b : Nat} {d : UInt8} (h : w.cell? ⟨b, 0, none⟩ = some (.int .u8 (d.toNat : Int))) : By w (some ⟨b, 0, none⟩) [d] := by
  refine .inr ⟨b, 0, rfl, fun i x hx => ?_⟩
  rcases i with _ | i
  · simp at hx; subst hx; simpa using h
  · simp at hx
set_option maxHeartbeats 2000000 in
theorem markText_any (k : Nat) (w : World) (h0 : 1 ≤ k) (hk : k ≤ 10000000) :
    Calls Tryz.prog 73 #[.int .i64 k] w fun e w' => e = .returned (sV (mtL k)) ∧ Below w.heap.size w w' := by
  have h0' : ¬ (k : Int) ≤ 0 := by omega
  go_enter Tryz.func73, Tryz.ntmps73
  go_wp2_with fail
  go_loopw [0, 3] (fun kv ov wr => ∃ (f k' : Nat) (o' : List UInt8), kv = .int .i64 k' ∧ ov = .string (bstr o') ∧ k' < 10 ^ f ∧ k' ≤ 10000000 ∧ f + o'.length ≤ 20 ∧ Hid (mtG f k' o' = mtG 20 k []) ∧ Below w.heap.size w wr) (fun kv _ _ => (intOf kv).toNat)
  case atStart => exact ⟨20, k, [], rfl, rfl, Nat.lt_of_le_of_lt hk (by decide), hk, by simp, rfl, Below.refl _ _⟩
  case round =>
    obtain ⟨f, k', o', rfl, rfl, hf, hk', hl, hR, hb⟩ := hrel
    by_cases hz : k' = 0
    · subst hz
      have e0 : mtG f 0 o' = o' := by cases f <;> simp [mtG]
      have HR : Hid (sV (109 :: o') = sV (mtL k)) := by show _ = _; rw [mtL, ← hR.out, e0]
      have hsz : (bstr o').size = o'.length := bstr_size o'
      clear hR e0
      go_wp2_with fail
      go_ret
      exact ⟨by rw [← HR.out]; show Ending.returned (.string (bstr [109] ++ bstr o')) = _; rw [bapp]; rfl, hb⟩
    · have hz' : (0 : Int) < (k' : Int) := by omega
      obtain ⟨f', rfl⟩ : ∃ f', f = f' + 1 := by
        cases f with
        | zero => simp at hf; omega
        | succ f' => exact ⟨f', rfl⟩
      obtain ⟨r, hr⟩ : ∃ r, r = k' % 10 := ⟨_, rfl⟩
      obtain ⟨q, hq⟩ : ∃ q, q = k' / 10 := ⟨_, rfl⟩
      have em : Int.tmod (k' : Int) 10 = (r : Int) := by rw [hr]; exact (Int.ofNat_tmod _ _).symm
      have em2 : (k' : Int) % 10 = (r : Int) := by rw [hr]; simp
      have ed : Int.tdiv (k' : Int) 10 = (q : Int) := by rw [hq]; exact (Int.ofNat_tdiv _ _).symm
      have ed2 : (k' : Int) / 10 = (q : Int) := by rw [hq]; simp
      have hr10 : r < 10 := by rw [hr]; exact Nat.mod_lt _ (by omega)
      have hqf : q < 10 ^ f' := by rw [hq]; rw [Nat.pow_succ] at hf; omega
      have hqk : q < k' := by rw [hq]; omega
      obtain ⟨d, hd⟩ : ∃ d : UInt8, Hid (d = UInt8.ofNat (48 + r)) := ⟨_, Lib.hid rfl⟩
      have hdn : d.toNat = 48 + r := by rw [hd.out]; simp; omega
      have ek : IntKind.u8.wrap (48 + (r : Int)) = 48 + (r : Int) := by rw [IntKind.wrap_u8]; omega
      have HR2 : Hid (mtG f' q (d :: o') = mtG 20 k []) := by
        have := hR.out
        rw [mtG, if_neg hz, ← hq, ← hr, ← hd.out] at this
        exact this
      have hcv : (convert 28 9 (.slice (some ⟨wr.heap.size, 0, none⟩) 1 1)).run Tryz.prog (wr.alloc (.cells #[.int .u8 (48 + (r : Int))] 5)) = .ok (.string (bstr [d])) (wr.alloc (.cells #[.int .u8 (48 + (r : Int))] 5)) :=
        conv_by (c := 1) (by_one1 (d := d) (by rw [World.cell?_alloc_new, hdn]; simp))
      have room : ¬ 9223372036854775807 < (bstr [d]).size + (bstr o').size := by rw [bstr_size, bstr_size]; simp; omega
      clear hR hr hq hdn hd
      go_wp2_with fail
      go_roundw
      case rel => exact ⟨f', q, d :: o', rfl, by rw [bapp]; rfl, hqf, by omega, by simp; omega, HR2, hb.alloc hb.size _⟩
      case measure => simp [intOf]; omega
theorem Kp.of_below {lo hi : Nat} {w w' : World} (h : Below w.heap.size w w') (hl : lo ≤ w.heap.size) : Kp lo hi w w' := ⟨h.mono hl, fun k _ hs => h.block k hs⟩
theorem Kp.setCell {lo hi : Nat} {w w' : World} {p : Addr} (h : Kp lo hi w w') (h1 : lo ≤ p.block) (h2 : p.block < hi) (v : Value) : Kp lo hi w (w'.setCell p v) :=
  ⟨h.1.setCell h1 v, fun k hk hs => (Below.heap_setCell w' p v k (by omega)).trans (h.2 k hk hs)⟩
theorem set_mid {T : Type} {l r : List T} {x y : T} : (l ++ x :: r).set l.length y = l ++ y :: r := by simp
/-- Links as the marks from k on have them; turns likewise. -/
def mkK (k n : Nat) : List Lk := (List.range n).map fun i => (bstr (mtL (k + 2 * i)), ((k + 2 * i + 1 : Nat) : Int))
def mkT (k n : Nat) : List Tn := (List.range n).map fun i => (((k + 4 * i : Nat) : Int), bstr (mtL (k + 4 * i + 1)), bstr (mtL (k + 4 * i + 2)), ((k + 4 * i + 3 : Nat) : Int))
theorem mkK_len (k n : Nat) : (mkK k n).length = n := by simp [mkK]
theorem mkT_len (k n : Nat) : (mkT k n).length = n := by simp [mkT]
theorem mkK_succ (k n : Nat) : mkK k (n + 1) = mkK k n ++ [(bstr (mtL (k + 2 * n)), ((k + 2 * n + 1 : Nat) : Int))] := by simp [mkK, List.range_succ]
theorem mkT_succ (k n : Nat) : mkT k (n + 1) = mkT k n ++ [(((k + 4 * n : Nat) : Int), bstr (mtL (k + 4 * n + 1)), bstr (mtL (k + 4 * n + 2)), ((k + 4 * n + 3 : Nat) : Int))] := by simp [mkT, List.range_succ]
theorem mkK_get (k n i : Nat) (h : i < n) : (mkK k n)[i]'(by rw [mkK_len]; exact h) = (bstr (mtL (k + 2 * i)), ((k + 2 * i + 1 : Nat) : Int)) := by simp [mkK]
theorem mkT_get (k n i : Nat) (h : i < n) : (mkT k n)[i]'(by rw [mkT_len]; exact h) = (((k + 4 * i : Nat) : Int), bstr (mtL (k + 4 * i + 1)), bstr (mtL (k + 4 * i + 2)), ((k + 4 * i + 3 : Nat) : Int)) := by simp [mkT]
theorem flat_set4 (y : Tn) : ∀ (xs : List Tn) (i : Nat), i < xs.length → ((((xs.flatMap tnL).set (i * 4) (.int .i64 y.1)).set (i * 4 + 1) (.string y.2.1)).set (i * 4 + 2) (.string y.2.2.1)).set (i * 4 + 3) (.int .i64 y.2.2.2) = (xs.set i y).flatMap tnL
  | [], _, h => by simp at h
  | x :: r, 0, _ => by simp
  | x :: r, i + 1, h => by
    have ih := flat_set4 y r i (by simpa using h)
    rw [show (i + 1) * 4 = i * 4 + 1 + 1 + 1 + 1 by omega]
    simp only [List.flatMap_cons, List.set_cons_succ, List.cons_append, List.nil_append]
    rw [← ih]
set_option maxHeartbeats 4000000 in
theorem markLinkS_any (lo hi : Nat) (A : Option Addr) (c : Nat) (xs : List Lk) (k : Nat) (w : World) (ha : Oe 52 2 lkL w lo A c xs) (hA : InB lo hi A) (hk : 1 ≤ k) (hk2 : k + 2 * xs.length ≤ 10000000) :
    Calls Tryz.prog 38 #[.slice A xs.length c, .int .i64 k] w fun e w' => e = .returned (.int .i64 ((k + 2 * xs.length : Nat) : Int)) ∧ Oe 52 2 lkL w' lo A c (mkK k xs.length) ∧ Kp lo hi w w' := by
  rcases Nat.eq_zero_or_pos xs.length with h0 | h0
  · have hx := List.eq_nil_of_length_eq_zero h0
    subst hx
    go_enter Tryz.func38, Tryz.ntmps38
    go_wp2_with fail
    go_loopw [1, 5] (fun kv iv wr => kv = .int .i64 k ∧ iv = .int .i64 0 ∧ wr = w) (fun _ _ _ => 0)
    case atStart => exact ⟨rfl, rfl, rfl⟩
    case round =>
      obtain ⟨rfl, rfl, rfl⟩ := hrel
      go_wp2_with fail
      go_ret
      exact ⟨rfl, by simpa [mkK] using ha, Kp.refl _ _ _⟩
  · obtain ⟨g, rfl, hlo, hcm, hcap, hF⟩ := ha.fillC lk2 h0
    have hgi := (hA _ rfl)
    obtain ⟨n, hn⟩ : ∃ n, n = xs.length := ⟨_, rfl⟩
    rw [← hn] at hk2 hcap ⊢
    have HN := Lib.hid hn
    clear hn h0 ha hA
    go_enter Tryz.func38, Tryz.ntmps38
    go_wp2_with fail
    go_loopw [1, 5] (fun kv iv wr => ∃ j : Nat, j ≤ n ∧ iv = .int .i64 j ∧ kv = .int .i64 ((k + 2 * j : Nat) : Int) ∧ Fill wr g 52 (c * 2) ((mkK k j ++ xs.drop j).flatMap lkL) ∧ Kp g (g + 1) w wr) (fun _ iv _ => n - (intOf iv).toNat)
    case atStart => exact ⟨0, Nat.zero_le _, rfl, rfl, by simpa [mkK] using hF, Kp.refl _ _ _⟩
    case round =>
      clear hF
      obtain ⟨j, hj, rfl, rfl, hF, hkp⟩ := hrel
      have zF := hF.lt
      have zz := hkp.1.size
      by_cases hjn : j < n
      case neg =>
        have hlt' : ¬ ((j : Int) < n) := by omega
        obtain rfl : j = n := by omega
        have hE : mkK k j ++ xs.drop j = mkK k j := by rw [List.drop_of_length_le (by have := HN.out; omega), List.append_nil]
        rw [hE] at hF
        have hO : Oe 52 2 lkL wr lo (some ⟨g, 0, none⟩) c (mkK k j) := Oe.of_fill lk2 hF (by rw [mkK_len]; exact hcap) hlo hcm
        clear hE hF
        go_wp2_with fail
        go_ret
        exact ⟨rfl, hO, hkp.wide hlo (by have h7 : g < hi := hgi.2; omega)⟩
      have hlt : j < xs.length := by have := HN.out; omega
      have hlt' : (j : Int) < n := by omega
      go_wp2_with (go_at_call 73; refine (markText_any (k + 2 * j) _ (by omega) (by omega)).mono ?_; rintro e w2 ⟨rfl, hb2⟩; have hF2 := hF.keep (hb2.block _ zF); obtain ⟨u0, hu0⟩ := hF2.cell (j * 2) (by omega); have hf0 := hF2.frozen (j * 2) (by omega); obtain ⟨u1, hu1⟩ := hF2.cell (j * 2 + 1) (by omega); have hf1 := hF2.frozen (j * 2 + 1) (by omega))
      have hk2 : Kp g (g + 1) w w2 := hkp.trans (Kp.of_below hb2 (by omega))
      go_roundw
      case rel =>
        refine ⟨j + 1, by omega, by go_num, by go_num, ?_, (hk2.setCell (by show g ≤ g; omega) (by show g < g + 1; omega) _).setCell (by show g ≤ g; omega) (by show g < g + 1; omega) _⟩
        have h5 := (hF2.setAt (k := j * 2) (by rw [flat_len lk2]; simp [mkK_len]; omega) (.string (bstr (mtL (k + 2 * j))))).setAt (k := j * 2 + 1) (by rw [List.length_set, flat_len lk2]; simp [mkK_len]; omega) (.int .i64 ((k + 2 * j + 1 : Nat) : Int))
        rw [flat_set2 (bstr (mtL (k + 2 * j)), ((k + 2 * j + 1 : Nat) : Int)) _ j (by simp [mkK_len]; omega)] at h5
        have h6 : (mkK k j ++ xs.drop j).set j (bstr (mtL (k + 2 * j)), ((k + 2 * j + 1 : Nat) : Int)) = mkK k (j + 1) ++ xs.drop (j + 1) := by
          rw [List.drop_eq_getElem_cons hlt, mkK_succ, List.append_assoc]
          have := @set_mid _ (mkK k j) (xs.drop (j + 1)) xs[j] (bstr (mtL (k + 2 * j)), ((k + 2 * j + 1 : Nat) : Int))
          rw [mkK_len] at this
          exact this
        rw [h6] at h5
        simpa using h5
      case measure => simp [intOf]; omega
set_option maxHeartbeats 4000000 in
theorem markTurnS_any (lo hi : Nat) (A : Option Addr) (c : Nat) (xs : List Tn) (k : Nat) (w : World) (ha : Oe 92 4 tnL w lo A c xs) (hA : InB lo hi A) (hk : 1 ≤ k) (hk2 : k + 4 * xs.length ≤ 10000000) :
    Calls Tryz.prog 39 #[.slice A xs.length c, .int .i64 k] w fun e w' => e = .returned (.int .i64 ((k + 4 * xs.length : Nat) : Int)) ∧ Oe 92 4 tnL w' lo A c (mkT k xs.length) ∧ Kp lo hi w w' := by
  rcases Nat.eq_zero_or_pos xs.length with h0 | h0
  · have hx := List.eq_nil_of_length_eq_zero h0
    subst hx
    go_enter Tryz.func39, Tryz.ntmps39
    go_wp2_with fail
    go_loopw [1, 5] (fun kv iv wr => kv = .int .i64 k ∧ iv = .int .i64 0 ∧ wr = w) (fun _ _ _ => 0)
    case atStart => exact ⟨rfl, rfl, rfl⟩
    case round =>
      obtain ⟨rfl, rfl, rfl⟩ := hrel
      go_wp2_with fail
      go_ret
      exact ⟨rfl, by simpa [mkT] using ha, Kp.refl _ _ _⟩
  · obtain ⟨g, rfl, hlo, hcm, hcap, hF⟩ := ha.fillC tn4 h0
    have hgi := (hA _ rfl)
    obtain ⟨n, hn⟩ : ∃ n, n = xs.length := ⟨_, rfl⟩
    rw [← hn] at hk2 hcap ⊢
    have HN := Lib.hid hn
    clear hn h0 ha hA
    go_enter Tryz.func39, Tryz.ntmps39
    go_wp2_with fail
    go_loopw [1, 5] (fun kv iv wr => ∃ j : Nat, j ≤ n ∧ iv = .int .i64 j ∧ kv = .int .i64 ((k + 4 * j : Nat) : Int) ∧ Fill wr g 92 (c * 4) ((mkT k j ++ xs.drop j).flatMap tnL) ∧ Kp g (g + 1) w wr) (fun _ iv _ => n - (intOf iv).toNat)
    case atStart => exact ⟨0, Nat.zero_le _, rfl, rfl, by simpa [mkT] using hF, Kp.refl _ _ _⟩
    case round =>
      clear hF
      obtain ⟨j, hj, rfl, rfl, hF, hkp⟩ := hrel
      have zF := hF.lt
      have zz := hkp.1.size
      by_cases hjn : j < n
      case neg =>
        have hlt' : ¬ ((j : Int) < n) := by omega
        obtain rfl : j = n := by omega
        have hE : mkT k j ++ xs.drop j = mkT k j := by rw [List.drop_of_length_le (by have := HN.out; omega), List.append_nil]
        rw [hE] at hF
        have hO : Oe 92 4 tnL wr lo (some ⟨g, 0, none⟩) c (mkT k j) := Oe.of_fill tn4 hF (by rw [mkT_len]; exact hcap) hlo hcm
        clear hE hF
        go_wp2_with fail
        go_ret
        exact ⟨rfl, hO, hkp.wide hlo (by have h7 : g < hi := hgi.2; omega)⟩
      have hlt : j < xs.length := by have := HN.out; omega
      have hlt' : (j : Int) < n := by omega
      have hF0 := hF
      obtain ⟨u0, hu0⟩ := hF.cell (j * 4) (by omega)
      have hf0 := hF.frozen (j * 4) (by omega)
      have hF1 := hF0.setAt (k := j * 4) (by rw [flat_len tn4]; simp [mkT_len]; omega) (.int .i64 ((k + 4 * j : Nat) : Int))
      go_wp2_with fail
      refine (markText_any (k + 4 * j + 1) _ (by omega) (by omega)).mono ?_
      rintro e w2 ⟨rfl, hb2⟩
      have hF2 := hF1.keep (hb2.block _ (by simpa using zF))
      obtain ⟨u1, hu1⟩ := hF2.cell (j * 4 + 1) (by omega)
      have hf1 := hF2.frozen (j * 4 + 1) (by omega)
      have hF3 := hF2.setAt (k := j * 4 + 1) (by rw [List.length_set, flat_len tn4]; simp [mkT_len]; omega) (.string (bstr (mtL (k + 4 * j + 1))))
      go_wp2_with fail
      refine (markText_any (k + 4 * j + 2) _ (by omega) (by omega)).mono ?_
      rintro e w3 ⟨rfl, hb3⟩
      have hz2 := hF2.lt
      have hF4 := hF3.keep (hb3.block _ (by simpa using hz2))
      obtain ⟨u2, hu2⟩ := hF4.cell (j * 4 + 2) (by omega)
      have hf2 := hF4.frozen (j * 4 + 2) (by omega)
      obtain ⟨u3, hu3⟩ := hF4.cell (j * 4 + 3) (by omega)
      have hf3 := hF4.frozen (j * 4 + 3) (by omega)
      have hk1 : Kp g (g + 1) w (wr.setCell ⟨g, j * 4, none⟩ (.int .i64 ((k + 4 * j : Nat) : Int))) := hkp.setCell (by show g ≤ g; omega) (by show g < g + 1; omega) _
      have hk2 := hk1.trans (Kp.of_below hb2 (by simp; omega))
      have hk3 := (hk2.setCell (p := ⟨g, j * 4 + 1, none⟩) (by show g ≤ g; omega) (by show g < g + 1; omega) (.string (bstr (mtL (k + 4 * j + 1))))).trans (Kp.of_below hb3 (by simp; omega))
      go_wp2_with fail
      go_roundw
      case rel =>
        refine ⟨j + 1, by omega, by go_num, by go_num, ?_, (hk3.setCell (by show g ≤ g; omega) (by show g < g + 1; omega) _).setCell (by show g ≤ g; omega) (by show g < g + 1; omega) _⟩
        have h5 := (hF4.setAt (k := j * 4 + 2) (by rw [List.length_set, List.length_set, flat_len tn4]; simp [mkT_len]; omega) (.string (bstr (mtL (k + 4 * j + 2))))).setAt (k := j * 4 + 3) (by rw [List.length_set, List.length_set, List.length_set, flat_len tn4]; simp [mkT_len]; omega) (.int .i64 ((k + 4 * j + 3 : Nat) : Int))
        rw [flat_set4 (((k + 4 * j : Nat) : Int), bstr (mtL (k + 4 * j + 1)), bstr (mtL (k + 4 * j + 2)), ((k + 4 * j + 3 : Nat) : Int)) _ j (by simp [mkT_len]; omega)] at h5
        have h6 : (mkT k j ++ xs.drop j).set j (((k + 4 * j : Nat) : Int), bstr (mtL (k + 4 * j + 1)), bstr (mtL (k + 4 * j + 2)), ((k + 4 * j + 3 : Nat) : Int)) = mkT k (j + 1) ++ xs.drop (j + 1) := by
          rw [List.drop_eq_getElem_cons hlt, mkT_succ, List.append_assoc]
          have := @set_mid _ (mkT k j) (xs.drop (j + 1)) xs[j] (((k + 4 * j : Nat) : Int), bstr (mtL (k + 4 * j + 1)), bstr (mtL (k + 4 * j + 2)), ((k + 4 * j + 3 : Nat) : Int))
          rw [mkT_len] at this
          exact this
        rw [h6] at h5
        simpa [Int.add_assoc] using h5
      case measure => simp [intOf]; omega

set_option linter.unusedVariables false
set_option maxRecDepth 100000

/-- A file as the marks from p on have it. -/
def mF (p : Nat) (x : Fl) : Fl := ((p : Int), (x.2.1.1, x.2.1.2.1, markL ((p : Int) + 1) x.2.1.2.2.length), ((p + 1 + x.2.1.2.2.length : Nat) : Int))
def mkF : Nat → List Fl → List Fl
  | _, [] => []
  | k, x :: r => mF k x :: mkF (k + 2 + x.2.1.2.2.length) r
theorem mkF_len : ∀ (k : Nat) (fs : List Fl), (mkF k fs).length = fs.length
  | _, [] => rfl
  | k, x :: r => by rw [mkF, List.length_cons, mkF_len, List.length_cons]
theorem mkF_app : ∀ (k : Nat) (a b : List Fl), mkF k (a ++ b) = mkF k a ++ mkF (k + 2 * a.length + ftot a) b
  | k, [], b => by simp [mkF, ftot]
  | k, x :: r, b => by
    rw [List.cons_append, mkF, mkF_app, mkF, List.cons_append]
    have : k + 2 + x.2.1.2.2.length + 2 * r.length + ftot r = k + 2 * (x :: r).length + ftot (x :: r) := by simp [ftot]; omega
    rw [this]
theorem mkF_succ {k : Nat} {fs : List Fl} {j : Nat} (hj : j < fs.length) : mkF k (fs.take (j + 1)) = mkF k (fs.take j) ++ [mF (k + 2 * j + ftot (fs.take j)) fs[j]] := by
  rw [take_succ_get (List.getElem?_eq_getElem hj), mkF_app, List.length_take, Nat.min_eq_left (by omega)]
  rfl
theorem mkF_tot : ∀ (k : Nat) (fs : List Fl), ftot (mkF k fs) = ftot fs
  | _, [] => rfl
  | k, x :: r => by
    have := mkF_tot (k + 2 + x.2.1.2.2.length) r
    simp only [ftot, mkF, List.map_cons, List.sum_cons, mF, markL_len] at this ⊢
    omega
theorem used_bd' {es : List Fl} {k : Nat} (hk : k < es.length) : ftot (es.take k) + es[k].2.1.2.2.length ≤ ftot es := sum_get _ hk
theorem set_same {T : Type} {l : List T} {k : Nat} {v : T} (h : l[k]? = some v) : l.set k v = l := by
  obtain ⟨h1, rfl⟩ := List.getElem?_eq_some_iff.1 h
  exact List.set_getElem_self h1
set_option maxHeartbeats 4000000 in
theorem markFileS_any (lo hi : Nat) (A : Option Addr) (c : Nat) (xs : List Fl) (k : Nat) (w : World) (ha : FsO w lo hi A c xs) (hh : hi ≤ w.heap.size) (hk : 1 ≤ k) (hk2 : k + 2 * xs.length + ftot xs ≤ 10000000) :
    Calls Tryz.prog 37 #[.slice A xs.length c, .int .i64 k] w fun e w' => e = .returned (.int .i64 ((k + 2 * xs.length + ftot xs : Nat) : Int)) ∧ FsO w' lo hi A c (mkF k xs) ∧ Kp lo hi w w' := by
  rcases Nat.eq_zero_or_pos xs.length with h0 | h0
  · have hx := List.eq_nil_of_length_eq_zero h0
    subst hx
    go_enter Tryz.func37, Tryz.ntmps37
    go_wp2_with fail
    go_loopw [1, 5] (fun kv iv wr => kv = .int .i64 k ∧ iv = .int .i64 0 ∧ wr = w) (fun _ _ _ => 0)
    case atStart => exact ⟨rfl, rfl, rfl⟩
    case round =>
      obtain ⟨rfl, rfl, rfl⟩ := hrel
      go_wp2_with fail
      go_ret
      exact ⟨rfl, ha, Kp.refl _ _ _⟩
  · obtain ⟨hoe, m, hlm, hinA, hob0⟩ := ha
    obtain ⟨g, rfl, hlo, hcm, hcap, hF⟩ := hoe.fillC fl3 h0
    have hgm : g < m := (hinA _ rfl).2
    have hmh := hob0.le
    obtain ⟨n, hn⟩ : ∃ n, n = xs.length := ⟨_, rfl⟩
    rw [← hn] at hk2 hcap ⊢
    have HN := Lib.hid hn
    clear hn h0 hoe
    go_enter Tryz.func37, Tryz.ntmps37
    go_wp2_with fail
    go_loopw [1, 5] (fun kv iv wr => ∃ j : Nat, j ≤ n ∧ iv = .int .i64 j ∧ kv = .int .i64 ((k + 2 * j + ftot (xs.take j) : Nat) : Int) ∧ Fill wr g 85 (c * 3) ((mkF k (xs.take j) ++ xs.drop j).flatMap flL) ∧ Obs wr m hi ((mkF k (xs.take j) ++ xs.drop j).map fb) ∧ Kp lo hi w wr) (fun _ iv _ => n - (intOf iv).toNat)
    case atStart => exact ⟨0, Nat.zero_le _, rfl, rfl, by simpa [mkF] using hF, by simpa [mkF] using hob0, Kp.refl _ _ _⟩
    case round =>
      clear hF hob0
      obtain ⟨j, hj, rfl, rfl, hF, hob, hkp⟩ := hrel
      have zF := hF.lt
      have zz := hkp.1.size
      by_cases hjn : j < n
      case neg =>
        have hlt' : ¬ ((j : Int) < n) := by omega
        obtain rfl : j = n := by omega
        have ht : xs.take j = xs := List.take_of_length_le (by have := HN.out; omega)
        have hdr : xs.drop j = [] := List.drop_of_length_le (by have := HN.out; omega)
        rw [ht, hdr, List.append_nil] at hF hob
        rw [ht]
        have hO : FsO wr lo hi (some ⟨g, 0, none⟩) c (mkF k xs) := ⟨Oe.of_fill fl3 hF (by rw [mkF_len]; have := HN.out; omega) hlo hcm, m, hlm, hinA, hob⟩
        have hE : (mkF k xs).length = xs.length := mkF_len k xs
        clear ht hdr hF hob
        go_wp2_with fail
        go_ret
        exact ⟨rfl, hO, hkp⟩
      have hlt : j < xs.length := by have := HN.out; omega
      have hlt' : (j : Int) < n := by omega
      have hs : ftot (xs.take (j + 1)) = ftot (xs.take j) + xs[j].2.1.2.2.length := sum_succ _ hlt
      have hgt := used_bd' hlt
      obtain ⟨p, hp⟩ : ∃ p, Hid (p = k + 2 * j + ftot (xs.take j)) := ⟨_, Lib.hid rfl⟩
      rw [← hp.out]
      have hL : mkF k (xs.take j) ++ xs.drop j = mkF k (xs.take j) ++ xs[j] :: xs.drop (j + 1) := by rw [List.drop_eq_getElem_cons hlt]
      rw [hL] at hF hob
      have hml : (mkF k (xs.take j)).length = j := by rw [mkF_len, List.length_take]; omega
      have hfl : ((mkF k (xs.take j) ++ xs[j] :: xs.drop (j + 1)).flatMap flL).length = n * 3 := by
        rw [flat_len fl3, List.length_append, hml, List.length_cons, List.length_drop]
        have := HN.out
        omega
      have hgj : (mkF k (xs.take j) ++ xs[j] :: xs.drop (j + 1))[j]? = some xs[j] := by
        have := @List.getElem?_append_right _ (mkF k (xs.take j)) (xs[j] :: xs.drop (j + 1)) j (by omega)
        rw [this, hml, Nat.sub_self]
        rfl
      have y1 := flat_get fl3 _ j _ hgj 1 _ rfl
      have x1 : wr.cell? ⟨g, j * 3 + 1, none⟩ = some (.slice xs[j].2.1.1 xs[j].2.1.2.2.length xs[j].2.1.2.1) := hF.cells _ _ y1
      rw [List.map_append, List.map_cons] at hob
      obtain ⟨m1, m2, h1, h2, h3, h4, h5, h6, h7⟩ := hob.split
      have h5' : Ob wr m1 xs[j].2.1.1 xs[j].2.1.2.1 xs[j].2.1.2.2 := h5
      obtain ⟨u0, hu0⟩ := hF.cell (j * 3) (by omega)
      have hf0 := hF.frozen (j * 3) (by omega)
      have hF1 := hF.setAt (k := j * 3) (by omega) (.int .i64 (p : Int))
      have h5w : Ob (wr.setCell ⟨g, j * 3, none⟩ (.int .i64 (p : Int))) m1 xs[j].2.1.1 xs[j].2.1.2.1 xs[j].2.1.2.2 := ob_set h5' (by show g < m1; omega)
      have hpk : p + 1 + xs[j].2.1.2.2.length ≤ 10000000 := by have := HN.out; have := hp.out; omega
      clear hu0
      obtain ⟨u0, hu0⟩ := hF.cell (j * 3) (by omega)
      go_wp2_with fail
      refine (markByteS_any xs[j].2.1.1 xs[j].2.1.2.1 m1 xs[j].2.1.2.2 ((p : Int) + 1) _ h5w (by omega) (by omega) (by omega)).mono ?_
      rintro e w2 ⟨rfl, ho2, hg2⟩
      have hnb : ∀ ad, xs[j].2.1.1 = some ad → ad.block ≠ g := fun ad had => by have := (h6 ad had).1; omega
      have hbg : w2.heap[g]? = (wr.setCell ⟨g, j * 3, none⟩ (.int .i64 (p : Int))).heap[g]? := hg2.block g (by simpa using zF) (by
        intro he
        cases hq : xs[j].2.1.1 with
        | none => rw [hq] at he; simp [Value.ownBlock] at he
        | some a =>
          rw [hq] at he
          simp [Value.ownBlock] at he
          exact hnb a hq he.symm)
      have hF2 := hF1.keep hbg
      obtain ⟨u2, hu2⟩ := hF2.cell (j * 3 + 2) (by omega)
      have hf2 := hF2.frozen (j * 3 + 2) (by omega)
      have hkA : Kp lo hi wr (wr.setCell ⟨g, j * 3, none⟩ (.int .i64 (p : Int))) := (Kp.refl lo hi wr).setCell (by show lo ≤ g; omega) (by show g < hi; omega) _
      have hkB : Kp m1 m2 (wr.setCell ⟨g, j * 3, none⟩ (.int .i64 (p : Int))) w2 := Kp.of_grown hg2 h6 (by simp; have := h7.le; omega)
      have hk2' : Kp lo hi w w2 := (hkp.trans hkA).trans (hkB.wide (by omega) h3)
      go_wp2_with fail
      go_roundw
      case rel =>
        have hmf : mF p xs[j] = ((p : Int), (xs[j].2.1.1, xs[j].2.1.2.1, markL ((p : Int) + 1) xs[j].2.1.2.2.length), ((p + 1 + xs[j].2.1.2.2.length : Nat) : Int)) := rfl
        have hnew : mkF k (xs.take (j + 1)) ++ xs.drop (j + 1) = (mkF k (xs.take j) ++ xs[j] :: xs.drop (j + 1)).set j (mF p xs[j]) := by
          have h9 := @set_mid _ (mkF k (xs.take j)) (xs.drop (j + 1)) xs[j] (mF p xs[j])
          rw [hml] at h9
          rw [h9, mkF_succ hlt, ← hp.out, List.append_assoc]
          rfl
        refine ⟨j + 1, by omega, by go_num, by have := hp.out; rw [hs]; go_num, ?_, ?_, hk2'.setCell (by show lo ≤ g; omega) (by show g < hi; omega) _⟩
        · rw [hnew, ← flat_set3 (mF p xs[j]) _ j (by rw [List.length_append, hml, List.length_cons]; omega)]
          have h10 : (((mkF k (xs.take j) ++ xs[j] :: xs.drop (j + 1)).flatMap flL).set (j * 3) (.int .i64 (mF p xs[j]).1)).set (j * 3 + 1) (.slice (mF p xs[j]).2.1.1 (mF p xs[j]).2.1.2.2.length (mF p xs[j]).2.1.2.1) = ((mkF k (xs.take j) ++ xs[j] :: xs.drop (j + 1)).flatMap flL).set (j * 3) (.int .i64 (p : Int)) := by
            refine set_same ?_
            rw [List.getElem?_set_ne (by omega), y1]
            show some (Value.slice _ _ _) = some (Value.slice _ (markL _ _).length _)
            rw [markL_len]
            rfl
          rw [h10]
          have h11 := hF2.setAt (k := j * 3 + 2) (by rw [List.length_set]; omega) (.int .i64 ((p : Int) + 1 + (xs[j].2.1.2.2.length : Int)))
          have ev : (mF p xs[j]).2.2 = (p : Int) + 1 + (xs[j].2.1.2.2.length : Int) := by show ((p + 1 + xs[j].2.1.2.2.length : Nat) : Int) = _; omega
          rw [ev]
          simpa using h11
        · rw [hnew]
          have h12 : ((mkF k (xs.take j) ++ xs[j] :: xs.drop (j + 1)).set j (mF p xs[j])).map fb = (mkF k (xs.take j)).map fb ++ fb (mF p xs[j]) :: (xs.drop (j + 1)).map fb := by
            have h9 := @set_mid _ (mkF k (xs.take j)) (xs.drop (j + 1)) xs[j] (mF p xs[j])
            rw [hml] at h9
            rw [h9, List.map_append, List.map_cons]
          rw [h12]
          have hset : ∀ (q : Nat) (W : World) (v : Value) (i : Nat), m ≤ q → (W.setCell ⟨g, i, none⟩ v).heap[q]? = W.heap[q]? := fun q W v i hq => Below.heap_setCell W _ v q (by show q ≠ g; omega)
          have a1 : Obs w2 m m1 ((mkF k (xs.take j)).map fb) := (h4.keep (w' := wr.setCell ⟨g, j * 3, none⟩ (.int .i64 (p : Int))) fun q hq _ => hset q wr _ _ hq).below hkB.1 (Nat.le_refl _)
          have a2 : Obs w2 m2 hi ((xs.drop (j + 1)).map fb) := hkB.obs (h7.keep (w' := wr.setCell ⟨g, j * 3, none⟩ (.int .i64 (p : Int))) fun q hq _ => hset q wr _ _ (by omega)) (Nat.le_refl _) (by simp; omega)
          have a3 := Obs.join (e := fb (mF p xs[j])) h2 ho2 h6 a2 a1
          exact a3.keep fun q hq _ => hset q w2 _ _ hq
      case measure => simp [intOf]; omega

set_option linter.unusedVariables false
set_option maxRecDepth 100000

theorem Oe.kp {T : Type} {k : Nat} {enc : T → List Value} {e : TypeId} {w w' : World} {A : Option Addr} {xs : List T} {lo c a b l h : Nat} (ho : Oe e k enc w lo A c xs) (hk : Kp a b w w') (hi : InB l h A) (hd : h ≤ a ∨ b ≤ l) : Oe e k enc w' lo A c xs :=
  ho.keepB fun ad ha => by
    have h1 := hi ad ha
    have h2 := (ho.inB ad ha).2
    rcases hd with hd | hd
    · exact hk.1.block _ (by omega)
    · exact hk.2 _ (by omega) h2
theorem FsO.kp {w w' : World} {lo hi c a b : Nat} {A : Option Addr} {fs : List Fl} (h : FsO w lo hi A c fs) (hk : Kp a b w w') (hs : hi ≤ w.heap.size) (hd : hi ≤ a ∨ b ≤ lo) : FsO w' lo hi A c fs :=
  h.keep fun k h1 h2 => by
    rcases hd with hd | hd
    · exact hk.1.block _ (by omega)
    · exact hk.2 _ (by omega) (by omega)
/-- How far the marks of a disk reach. -/
def mEnd (k : Nat) (fs : List Fl) (kn tn : Nat) : Nat := k + 2 * fs.length + ftot fs + 2 * kn + 4 * tn
set_option maxHeartbeats 4000000 in
theorem markDisk_any (r f n : Int) (lo hi : Nat) (FA : Option Addr) (c1 : Nat) (fs : List Fl) (KA : Option Addr) (c2 : Nat) (ks : List Lk) (TA : Option Addr) (c3 : Nat) (ts : List Tn) (k : Nat) (w : World) (ho : DkO w lo hi FA c1 fs KA c2 ks TA c3 ts) (hh : hi ≤ w.heap.size) (hk : 1 ≤ k) (hk2 : mEnd k fs ks.length ts.length ≤ 10000000) :
    Calls Tryz.prog 11 #[dkV r f n FA fs.length c1 KA ks.length c2 TA ts.length c3, .int .i64 k] w fun e w' => e = .returned (.int .i64 (mEnd k fs ks.length ts.length : Nat)) ∧ DkO w' lo hi FA c1 (mkF k fs) KA c2 (mkK (k + 2 * fs.length + ftot fs) ks.length) TA c3 (mkT (k + 2 * fs.length + ftot fs + 2 * ks.length) ts.length) ∧ Kp lo hi w w' := by
  obtain ⟨m, m', h1, h2, h3, h4, h5, h6, h7⟩ := ho
  have hl := h1.le
  unfold mEnd at hk2 ⊢
  have hb0 : Below w.heap.size w (w.alloc (.cells (dkC r f n FA fs.length c1 KA ks.length c2 TA ts.length c3) 35)) := by (repeat (first | exact Below.refl _ _ | (refine Below.alloc ?_ (by first | omega | (simp; done) | (simp; omega)) _) | (refine Below.drew ?_) | (refine below_drewN ?_ _) | (refine below_at1 ?_ (by first | omega | (simp; done) | (simp; omega))) | (refine Below.setCell ?_ (by first | omega | (simp; done) | (simp; omega)) _) | (refine Below.trans ?_ (Below.mono (by assumption) (by first | omega | (simp; done) | (simp; omega))))))
  have k0 : Kp lo hi w (w.alloc (.cells (dkC r f n FA fs.length c1 KA ks.length c2 TA ts.length c3) 35)) := Kp.of_below hb0 (by omega)
  have B0 := heap_alloc_new w (.cells (dkC r f n FA fs.length c1 KA ks.length c2 TA ts.length c3) 35)
  have cF := markFileS_any lo m FA c1 fs k (w.alloc (.cells (dkC r f n FA fs.length c1 KA ks.length c2 TA ts.length c3) 35)) (h1.below hb0 (by omega)) (by simp; omega) hk (by omega)
  obtain ⟨k1, hk1⟩ : ∃ k1, Hid (k1 = k + 2 * fs.length + ftot fs) := ⟨_, Lib.hid rfl⟩
  rw [← hk1.out] at cF hk2 ⊢
  obtain ⟨k2, hk2'⟩ : ∃ k2, Hid (k2 = k1 + 2 * ks.length) := ⟨_, Lib.hid rfl⟩
  rw [← hk2'.out] at hk2 ⊢
  have h4a := h4.alloc (.cells (dkC r f n FA fs.length c1 KA ks.length c2 TA ts.length c3) 35)
  have h6a := h6.alloc (.cells (dkC r f n FA fs.length c1 KA ks.length c2 TA ts.length c3) 35)
  go_enter Tryz.func11, Tryz.ntmps11
  go_wp2_with fail
  refine cF.mono ?_
  rintro e w1 ⟨rfl, ho1, kp1⟩
  have z1 := kp1.1.size
  have z1' : w.heap.size + 1 ≤ w1.heap.size := by simpa using z1
  have B1 := (kp1.2 w.heap.size (by omega) (by simp)).trans B0
  have q4 : w1.cell? ⟨w.heap.size, 4, none⟩ = some (.slice KA ks.length c2) := cell_of_row w1 _ 4 _ _ (0, 0) B1
  have h4b := Oe.kp h4a kp1 h5 (.inr (Nat.le_refl _))
  have h6b := Oe.kp h6a kp1 h7 (.inr h2)
  have cK := markLinkS_any m m' KA c2 ks k1 w1 h4b h5 (by have := hk1.out; omega) (by have := hk2'.out; omega)
  rw [← hk2'.out] at cK
  go_wp2_with fail
  refine cK.mono ?_
  rintro e w2 ⟨rfl, ho2, kp2⟩
  have z2 := kp2.1.size
  have B2 := (kp2.2 w.heap.size (by omega) (by omega)).trans B1
  have q5 : w2.cell? ⟨w.heap.size, 5, none⟩ = some (.slice TA ts.length c3) := cell_of_row w2 _ 5 _ _ (0, 0) B2
  have h6c := Oe.kp h6b kp2 h7 (.inr (Nat.le_refl _))
  have ho1b := ho1.kp kp2 (by omega) (.inl (Nat.le_refl _))
  have cT := markTurnS_any m' hi TA c3 ts k2 w2 h6c h7 (by have := hk1.out; have := hk2'.out; omega) hk2
  go_wp2_with fail
  refine cT.mono ?_
  rintro e w3 ⟨rfl, ho3, kp3⟩
  go_wp2_with fail
  go_ret
  exact ⟨rfl, ⟨m, m', ho1b.kp kp3 (by omega) (.inl h2), h2, h3, Oe.kp ho2 kp3 h5 (.inl (Nat.le_refl _)), h5, ho3, h7⟩,
    k0.trans ((kp1.wide (Nat.le_refl _) (by omega)).trans ((kp2.wide (by omega) (by omega)).trans (kp3.wide (by omega) (Nat.le_refl _))))⟩
end Go.Proofs.YtpaeffmjkkikbaaGreatDoor
