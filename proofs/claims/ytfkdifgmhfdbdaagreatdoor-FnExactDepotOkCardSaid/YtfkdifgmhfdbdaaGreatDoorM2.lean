/- Files marked; a disk marked. -/
import Derived.Test.YtfkdifgmhfdbdaaGreatDoorM1
namespace Go.Proofs.YtfkdifgmhfdbdaaGreatDoor
open Go.RowKit
set_option linter.unusedVariables false
set_option maxRecDepth 100000

/-- A file as the marks from p on have it. -/
def mF (p : Nat) (x : Fl) : Fl := ((p : Int), (x.2.1.1, x.2.1.2.1, markL ((p : Int) + 1) x.2.1.2.2.length), ((p + 1 + x.2.1.2.2.length : Nat) : Int))
def mkF : Nat → List Fl → List Fl
  | _, [] => []
  | k, x :: r => mF k x :: mkF (k + 2 + x.2.1.2.2.length) r
theorem mkF_len : ∀ (k : Nat) (fs : List Fl), (mkF k fs).length = fs.length
  | _, [] => rfl
  | k, x :: r => by rw [mkF, List.length_cons, mkF_len, List.length_cons]
theorem mkF_app : ∀ (k : Nat) (a b : List Fl), mkF k (a ++ b) = mkF k a ++ mkF (k + 2 * a.length + ftot a) b
  | k, [], b => by simp [mkF, ftot]
  | k, x :: r, b => by
    rw [List.cons_append, mkF, mkF_app, mkF, List.cons_append]
    have : k + 2 + x.2.1.2.2.length + 2 * r.length + ftot r = k + 2 * (x :: r).length + ftot (x :: r) := by simp [ftot]; omega
    rw [this]
theorem mkF_succ {k : Nat} {fs : List Fl} {j : Nat} (hj : j < fs.length) : mkF k (fs.take (j + 1)) = mkF k (fs.take j) ++ [mF (k + 2 * j + ftot (fs.take j)) fs[j]] := by
  rw [take_succ_get (List.getElem?_eq_getElem hj), mkF_app, List.length_take, Nat.min_eq_left (by omega)]
  rfl
theorem mkF_tot : ∀ (k : Nat) (fs : List Fl), ftot (mkF k fs) = ftot fs
  | _, [] => rfl
  | k, x :: r => by
    have := mkF_tot (k + 2 + x.2.1.2.2.length) r
    simp only [ftot, mkF, List.map_cons, List.sum_cons, mF, markL_len] at this ⊢
    omega
theorem used_bd' {es : List Fl} {k : Nat} (hk : k < es.length) : ftot (es.take k) + es[k].2.1.2.2.length ≤ ftot es := sum_get _ hk
theorem set_same {T : Type} {l : List T} {k : Nat} {v : T} (h : l[k]? = some v) : l.set k v = l := by
  obtain ⟨h1, rfl⟩ := List.getElem?_eq_some_iff.1 h
  exact List.set_getElem_self h1
set_option maxHeartbeats 4000000 in
theorem markFileS_any (lo hi : Nat) (A : Option Addr) (c : Nat) (xs : List Fl) (k : Nat) (w : World) (ha : FsO w lo hi A c xs) (hh : hi ≤ w.heap.size) (hk : 1 ≤ k) (hk2 : k + 2 * xs.length + ftot xs ≤ 10000000) :
    Calls Tryz.prog 49 #[.slice A xs.length c, .int .i64 k] w fun e w' => e = .returned (.int .i64 ((k + 2 * xs.length + ftot xs : Nat) : Int)) ∧ FsO w' lo hi A c (mkF k xs) ∧ Kp lo hi w w' := by
  rcases Nat.eq_zero_or_pos xs.length with h0 | h0
  · have hx := List.eq_nil_of_length_eq_zero h0
    subst hx
    go_enter Tryz.func49, Tryz.ntmps49
    go_wp2_with fail
    go_loopw [1, 5] (fun kv iv wr => kv = .int .i64 k ∧ iv = .int .i64 0 ∧ wr = w) (fun _ _ _ => 0)
    case atStart => exact ⟨rfl, rfl, rfl⟩
    case round =>
      obtain ⟨rfl, rfl, rfl⟩ := hrel
      go_wp2_with fail
      go_ret
      exact ⟨rfl, ha, Kp.refl _ _ _⟩
  · obtain ⟨hoe, m, hlm, hinA, hob0⟩ := ha
    obtain ⟨g, rfl, hlo, hcm, hcap, hF⟩ := hoe.fillC fl3 h0
    have hgm : g < m := (hinA _ rfl).2
    have hmh := hob0.le
    obtain ⟨n, hn⟩ : ∃ n, n = xs.length := ⟨_, rfl⟩
    rw [← hn] at hk2 hcap ⊢
    have HN := Lib.hid hn
    clear hn h0 hoe
    go_enter Tryz.func49, Tryz.ntmps49
    go_wp2_with fail
    go_loopw [1, 5] (fun kv iv wr => ∃ j : Nat, j ≤ n ∧ iv = .int .i64 j ∧ kv = .int .i64 ((k + 2 * j + ftot (xs.take j) : Nat) : Int) ∧ Fill wr g 89 (c * 3) ((mkF k (xs.take j) ++ xs.drop j).flatMap flL) ∧ Obs wr m hi ((mkF k (xs.take j) ++ xs.drop j).map fb) ∧ Kp lo hi w wr) (fun _ iv _ => n - (intOf iv).toNat)
    case atStart => exact ⟨0, Nat.zero_le _, rfl, rfl, by simpa [mkF] using hF, by simpa [mkF] using hob0, Kp.refl _ _ _⟩
    case round =>
      clear hF hob0
      obtain ⟨j, hj, rfl, rfl, hF, hob, hkp⟩ := hrel
      have zF := hF.lt
      have zz := hkp.1.size
      by_cases hjn : j < n
      case neg =>
        have hlt' : ¬ ((j : Int) < n) := by omega
        obtain rfl : j = n := by omega
        have ht : xs.take j = xs := List.take_of_length_le (by have := HN.out; omega)
        have hdr : xs.drop j = [] := List.drop_of_length_le (by have := HN.out; omega)
        rw [ht, hdr, List.append_nil] at hF hob
        rw [ht]
        have hO : FsO wr lo hi (some ⟨g, 0, none⟩) c (mkF k xs) := ⟨Oe.of_fill fl3 hF (by rw [mkF_len]; have := HN.out; omega) hlo hcm, m, hlm, hinA, hob⟩
        have hE : (mkF k xs).length = xs.length := mkF_len k xs
        clear ht hdr hF hob
        go_wp2_with fail
        go_ret
        exact ⟨rfl, hO, hkp⟩
      have hlt : j < xs.length := by have := HN.out; omega
      have hlt' : (j : Int) < n := by omega
      have hs : ftot (xs.take (j + 1)) = ftot (xs.take j) + xs[j].2.1.2.2.length := sum_succ _ hlt
      have hgt := used_bd' hlt
      obtain ⟨p, hp⟩ : ∃ p, Hid (p = k + 2 * j + ftot (xs.take j)) := ⟨_, Lib.hid rfl⟩
      rw [← hp.out]
      have hL : mkF k (xs.take j) ++ xs.drop j = mkF k (xs.take j) ++ xs[j] :: xs.drop (j + 1) := by rw [List.drop_eq_getElem_cons hlt]
      rw [hL] at hF hob
      have hml : (mkF k (xs.take j)).length = j := by rw [mkF_len, List.length_take]; omega
      have hfl : ((mkF k (xs.take j) ++ xs[j] :: xs.drop (j + 1)).flatMap flL).length = n * 3 := by
        rw [flat_len fl3, List.length_append, hml, List.length_cons, List.length_drop]
        have := HN.out
        omega
      have hgj : (mkF k (xs.take j) ++ xs[j] :: xs.drop (j + 1))[j]? = some xs[j] := by
        have := @List.getElem?_append_right _ (mkF k (xs.take j)) (xs[j] :: xs.drop (j + 1)) j (by omega)
        rw [this, hml, Nat.sub_self]
        rfl
      have y1 := flat_get fl3 _ j _ hgj 1 _ rfl
      have x1 : wr.cell? ⟨g, j * 3 + 1, none⟩ = some (.slice xs[j].2.1.1 xs[j].2.1.2.2.length xs[j].2.1.2.1) := hF.cells _ _ y1
      rw [List.map_append, List.map_cons] at hob
      obtain ⟨m1, m2, h1, h2, h3, h4, h5, h6, h7⟩ := hob.split
      have h5' : Ob wr m1 xs[j].2.1.1 xs[j].2.1.2.1 xs[j].2.1.2.2 := h5
      obtain ⟨u0, hu0⟩ := hF.cell (j * 3) (by omega)
      have hf0 := hF.frozen (j * 3) (by omega)
      have hF1 := hF.setAt (k := j * 3) (by omega) (.int .i64 (p : Int))
      have h5w : Ob (wr.setCell ⟨g, j * 3, none⟩ (.int .i64 (p : Int))) m1 xs[j].2.1.1 xs[j].2.1.2.1 xs[j].2.1.2.2 := ob_set h5' (by show g < m1; omega)
      have hpk : p + 1 + xs[j].2.1.2.2.length ≤ 10000000 := by have := HN.out; have := hp.out; omega
      clear hu0
      obtain ⟨u0, hu0⟩ := hF.cell (j * 3) (by omega)
      go_wp2_with fail
      refine (markByteS_any xs[j].2.1.1 xs[j].2.1.2.1 m1 xs[j].2.1.2.2 ((p : Int) + 1) _ h5w (by omega) (by omega) (by omega)).mono ?_
      rintro e w2 ⟨rfl, ho2, hg2⟩
      have hnb : ∀ ad, xs[j].2.1.1 = some ad → ad.block ≠ g := fun ad had => by have := (h6 ad had).1; omega
      have hbg : w2.heap[g]? = (wr.setCell ⟨g, j * 3, none⟩ (.int .i64 (p : Int))).heap[g]? := hg2.block g (by simpa using zF) (by
        intro he
        cases hq : xs[j].2.1.1 with
        | none => rw [hq] at he; simp [Value.ownBlock] at he
        | some a =>
          rw [hq] at he
          simp [Value.ownBlock] at he
          exact hnb a hq he.symm)
      have hF2 := hF1.keep hbg
      obtain ⟨u2, hu2⟩ := hF2.cell (j * 3 + 2) (by omega)
      have hf2 := hF2.frozen (j * 3 + 2) (by omega)
      have hkA : Kp lo hi wr (wr.setCell ⟨g, j * 3, none⟩ (.int .i64 (p : Int))) := (Kp.refl lo hi wr).setCell (by show lo ≤ g; omega) (by show g < hi; omega) _
      have hkB : Kp m1 m2 (wr.setCell ⟨g, j * 3, none⟩ (.int .i64 (p : Int))) w2 := Kp.of_grown hg2 h6 (by simp; have := h7.le; omega)
      have hk2' : Kp lo hi w w2 := (hkp.trans hkA).trans (hkB.wide (by omega) h3)
      go_wp2_with fail
      go_roundw
      case rel =>
        have hmf : mF p xs[j] = ((p : Int), (xs[j].2.1.1, xs[j].2.1.2.1, markL ((p : Int) + 1) xs[j].2.1.2.2.length), ((p + 1 + xs[j].2.1.2.2.length : Nat) : Int)) := rfl
        have hnew : mkF k (xs.take (j + 1)) ++ xs.drop (j + 1) = (mkF k (xs.take j) ++ xs[j] :: xs.drop (j + 1)).set j (mF p xs[j]) := by
          have h9 := @set_mid _ (mkF k (xs.take j)) (xs.drop (j + 1)) xs[j] (mF p xs[j])
          rw [hml] at h9
          rw [h9, mkF_succ hlt, ← hp.out, List.append_assoc]
          rfl
        refine ⟨j + 1, by omega, by go_num, by have := hp.out; rw [hs]; go_num, ?_, ?_, hk2'.setCell (by show lo ≤ g; omega) (by show g < hi; omega) _⟩
        · rw [hnew, ← flat_set3 (mF p xs[j]) _ j (by rw [List.length_append, hml, List.length_cons]; omega)]
          have h10 : (((mkF k (xs.take j) ++ xs[j] :: xs.drop (j + 1)).flatMap flL).set (j * 3) (.int .i64 (mF p xs[j]).1)).set (j * 3 + 1) (.slice (mF p xs[j]).2.1.1 (mF p xs[j]).2.1.2.2.length (mF p xs[j]).2.1.2.1) = ((mkF k (xs.take j) ++ xs[j] :: xs.drop (j + 1)).flatMap flL).set (j * 3) (.int .i64 (p : Int)) := by
            refine set_same ?_
            rw [List.getElem?_set_ne (by omega), y1]
            show some (Value.slice _ _ _) = some (Value.slice _ (markL _ _).length _)
            rw [markL_len]
            rfl
          rw [h10]
          have h11 := hF2.setAt (k := j * 3 + 2) (by rw [List.length_set]; omega) (.int .i64 ((p : Int) + 1 + (xs[j].2.1.2.2.length : Int)))
          have ev : (mF p xs[j]).2.2 = (p : Int) + 1 + (xs[j].2.1.2.2.length : Int) := by show ((p + 1 + xs[j].2.1.2.2.length : Nat) : Int) = _; omega
          rw [ev]
          simpa using h11
        · rw [hnew]
          have h12 : ((mkF k (xs.take j) ++ xs[j] :: xs.drop (j + 1)).set j (mF p xs[j])).map fb = (mkF k (xs.take j)).map fb ++ fb (mF p xs[j]) :: (xs.drop (j + 1)).map fb := by
            have h9 := @set_mid _ (mkF k (xs.take j)) (xs.drop (j + 1)) xs[j] (mF p xs[j])
            rw [hml] at h9
            rw [h9, List.map_append, List.map_cons]
          rw [h12]
          have hset : ∀ (q : Nat) (W : World) (v : Value) (i : Nat), m ≤ q → (W.setCell ⟨g, i, none⟩ v).heap[q]? = W.heap[q]? := fun q W v i hq => Below.heap_setCell W _ v q (by show q ≠ g; omega)
          have a1 : Obs w2 m m1 ((mkF k (xs.take j)).map fb) := (h4.keep (w' := wr.setCell ⟨g, j * 3, none⟩ (.int .i64 (p : Int))) fun q hq _ => hset q wr _ _ hq).below hkB.1 (Nat.le_refl _)
          have a2 : Obs w2 m2 hi ((xs.drop (j + 1)).map fb) := hkB.obs (h7.keep (w' := wr.setCell ⟨g, j * 3, none⟩ (.int .i64 (p : Int))) fun q hq _ => hset q wr _ _ (by omega)) (Nat.le_refl _) (by simp; omega)
          have a3 := Obs.join (e := fb (mF p xs[j])) h2 ho2 h6 a2 a1
          exact a3.keep fun q hq _ => hset q w2 _ _ hq
      case measure => simp [intOf]; omega
end Go.Proofs.YtfkdifgmhfdbdaaGreatDoor
