/- Files, turns and disks that hold their marks. -/
import Derived.Test.YtljpeiflnimblaaGreatHa
namespace Go.Proofs.YtljpeiflnimblaaGreat
open Go.RowKit
set_option linter.unusedVariables false
set_option maxRecDepth 100000

theorem mkF_get : ∀ (k : Nat) (xs : List Fl) (j : Nat) (h : j < xs.length), (mkF k xs)[j]'(by rw [mkF_len]; exact h) = mF (k + 2 * j + ftot (xs.take j)) xs[j]
  | k, x :: r, 0, h => by simp [mkF, ftot]
  | k, x :: r, j + 1, h => by
    have ih := mkF_get (k + 2 + x.2.1.2.2.length) r j (by simpa using h)
    simp only [mkF, List.getElem_cons_succ, ih, List.take_succ_cons]
    have : k + 2 + x.2.1.2.2.length + 2 * j + ftot (r.take j) = k + 2 * (j + 1) + ftot (x :: r.take j) := by simp [ftot]; omega
    rw [this]
set_option maxHeartbeats 4000000 in
theorem heldFileS_any (A : Option Addr) (c : Nat) (xs : List Fl) (k : Nat) (w : World) (ha : Fs w A (mkF k xs)) (hk : 1 ≤ k) (hk2 : k + 2 * xs.length + ftot xs ≤ 10000000) :
    Calls Tryz.prog 44 #[.slice A xs.length c, .int .i64 k] w fun e w' => e = .returned (.int .i64 ((k + 2 * xs.length + ftot xs : Nat) : Int)) ∧ w = w' := by
  obtain ⟨n, hn⟩ : ∃ n, n = xs.length := ⟨_, rfl⟩
  rw [← hn] at hk2 ⊢
  have HN := Lib.hid hn
  clear hn
  go_enter Tryz.func44, Tryz.ntmps44
  go_wp2_with fail
  go_loopw [1, 5] (fun kv iv wr => ∃ j : Nat, j ≤ n ∧ iv = .int .i64 j ∧ kv = .int .i64 ((k + 2 * j + ftot (xs.take j) : Nat) : Int) ∧ w = wr) (fun _ iv _ => n - (intOf iv).toNat)
  case atStart => exact ⟨0, Nat.zero_le _, rfl, rfl, rfl⟩
  case round =>
    obtain ⟨j, hj, rfl, rfl, rfl⟩ := hrel
    by_cases hjn : j < n
    · have hlt : j < xs.length := by have := HN.out; omega
      have hlt' : (j : Int) < n := by omega
      have hs : ftot (xs.take (j + 1)) = ftot (xs.take j) + xs[j].2.1.2.2.length := sum_succ _ hlt
      have hgt := used_bd' hlt
      obtain ⟨b, o, rfl, hbs, x0, x1, x2, x3⟩ := Fs.get ha (k := j) (by rw [mkF_len]; exact hlt)
      rw [mkF_get k xs j hlt] at x0 x1 x2 x3
      obtain ⟨p, hp⟩ : ∃ p, Hid (p = k + 2 * j + ftot (xs.take j)) := ⟨_, Lib.hid rfl⟩
      rw [← hp.out] at x0 x1 x2 x3 ⊢
      obtain ⟨m, hm⟩ : ∃ m, Hid (xs[j].2.1.2.2.length = m) := ⟨_, Lib.hid rfl⟩
      have y0 : w.cell? ⟨b, o + j * 3, none⟩ = some (.int .i64 (p : Int)) := x0
      have y1 : w.cell? ⟨b, o + j * 3 + 1, none⟩ = some (.slice xs[j].2.1.1 m xs[j].2.1.2.1) := by rw [x1]; show some (Value.slice _ (markL _ _).length _) = _; rw [markL_len, hm.out]; rfl
      have y2 : w.cell? ⟨b, o + j * 3 + 2, none⟩ = some (.int .i64 ((p : Int) + 1 + (m : Int))) := by rw [x2, ← hm.out]; congr 2
      have hpk : p + 1 + m ≤ 10000000 := by have := HN.out; have := hp.out; have := hm.out; omega
      have y3 : By w xs[j].2.1.1 (markL ((p : Int) + 1) m) := by rw [← hm.out]; exact x3
      have hm0 : ¬ ((p : Int) + 1 + (m : Int) < 0) := by omega
      clear x0 x1 x2 x3
      go_wp2_with (go_at_call 14; refine (heldByteS_any _ _ m ((p : Int) + 1) _ y3 (by omega) (by omega) (by omega)).mono ?_; rintro e w2 ⟨rfl, rfl⟩)
      go_roundw
      case rel => exact ⟨j + 1, by omega, by go_num, by have := hp.out; have := hm.out; rw [hs]; go_num, trivial⟩
      case measure => simp [intOf]; omega
    · have hlt' : ¬ ((j : Int) < n) := by omega
      obtain rfl : j = n := by omega
      have ht : Hid (xs.take j = xs) := Lib.hid (List.take_of_length_le (by have := HN.out; omega))
      go_wp2_with fail
      go_ret
      rw [ht.out]
      exact ⟨rfl, rfl⟩
set_option maxHeartbeats 4000000 in
theorem heldTurnS_any (A : Option Addr) (c n : Nat) (k : Nat) (w : World) (ha : Ts w A (mkT k n)) (hk : 1 ≤ k) (hk2 : k + 4 * n ≤ 10000000) :
    Calls Tryz.prog 46 #[.slice A n c, .int .i64 k] w fun e w' => e = .returned (.int .i64 ((k + 4 * n : Nat) : Int)) ∧ Below w.heap.size w w' := by
  go_enter Tryz.func46, Tryz.ntmps46
  go_wp2_with fail
  go_loopw [1, 5] (fun kv iv wr => ∃ j : Nat, j ≤ n ∧ iv = .int .i64 j ∧ kv = .int .i64 ((k + 4 * j : Nat) : Int) ∧ Below w.heap.size w wr) (fun _ iv _ => n - (intOf iv).toNat)
  case atStart => exact ⟨0, Nat.zero_le _, rfl, rfl, Below.refl _ _⟩
  case round =>
    obtain ⟨j, hj, rfl, rfl, hb⟩ := hrel
    have zb := hb.size
    by_cases hlt : j < n
    · obtain ⟨b, o, rfl, hbs, x0, x1, x2, x3⟩ := Ts.get (ha.below hb) (k := j) (by rw [mkT_len]; exact hlt)
      rw [mkT_get k n j hlt] at x0 x1 x2 x3
      have hlt' : (j : Int) < n := by omega
      obtain ⟨tx, htx⟩ : ∃ tx, Hid (bstr (mtL (k + 4 * j + 1)) = tx) := ⟨_, Lib.hid rfl⟩
      obtain ⟨ty, hty⟩ : ∃ ty, Hid (bstr (mtL (k + 4 * j + 2)) = ty) := ⟨_, Lib.hid rfl⟩
      dsimp only at x0 x1 x2 x3
      rw [htx.out] at x1
      rw [hty.out] at x2
      obtain ⟨p, hp⟩ : ∃ p, Hid (p = k + 4 * j) := ⟨_, Lib.hid rfl⟩
      have hp1 : 1 ≤ p := by have := hp.out; omega
      have hp2 : p + 4 ≤ 10000000 := by have := hp.out; omega
      have cx : ∀ W, Calls Tryz.prog 68 #[.int .i64 ((p : Int) + 1)] W fun e w' => e = .returned (.string tx) ∧ Below W.heap.size W w' := fun W => by
        have e1 : sV (mtL (p + 1)) = .string tx := by rw [← htx.out, hp.out]
        have := markText_any (p + 1) W (by omega) (by omega)
        rwa [e1, show ((p + 1 : Nat) : Int) = (p : Int) + 1 by omega] at this
      have cy : ∀ W, Calls Tryz.prog 68 #[.int .i64 ((p : Int) + 1 + 1)] W fun e w' => e = .returned (.string ty) ∧ Below W.heap.size W w' := fun W => by
        have e1 : sV (mtL (p + 2)) = .string ty := by rw [← hty.out, hp.out]
        have := markText_any (p + 2) W (by omega) (by omega)
        rwa [e1, show ((p + 2 : Nat) : Int) = (p : Int) + 1 + 1 by omega] at this
      rw [← hp.out] at x0 x3 ⊢
      have hx3 : wr.cell? ⟨b, o + j * 4 + 3, none⟩ = some (.int .i64 ((p : Int) + 1 + 1 + 1)) := by rw [x3]; congr 2
      clear x3
      have qx1 : ∀ q : Bl wr.heap.size wr, q.val.cell? ⟨b, o + j * 4 + 1, none⟩ = some (.string tx) := fun q => q.cell x1
      go_wp2_with fail
      refine wp_region_qb (by kernel_rfl) (by kernel_rfl) ?_
      repeat (quiet_step ((go_at_call 68; exact Calls.qb (cx _))))
      refine qb_end fun w2 hb2 => ?_
      have x2' : w2.cell? ⟨b, o + j * 4 + 2, none⟩ = some (.string ty) := (hb2.cell (p := ⟨b, o + j * 4 + 2, none⟩) hbs).trans x2
      have x3' : w2.cell? ⟨b, o + j * 4 + 3, none⟩ = some (.int .i64 ((p : Int) + 1 + 1 + 1)) := (hb2.cell (p := ⟨b, o + j * 4 + 3, none⟩) hbs).trans hx3
      have hbs2 : b < w2.heap.size := Nat.lt_of_lt_of_le hbs hb2.size
      clear qx1 hx3 x0 x1 x2
      have qx2 : ∀ q : Bl w2.heap.size w2, q.val.cell? ⟨b, o + j * 4 + 2, none⟩ = some (.string ty) := fun q => q.cell x2'
      go_wp2_with fail
      refine wp_region_qb (by kernel_rfl) (by kernel_rfl) ?_
      repeat (quiet_step ((go_at_call 68; exact Calls.qb (cy _))))
      refine qb_end fun w3 hb3 => ?_
      have x3'' : w3.cell? ⟨b, o + j * 4 + 3, none⟩ = some (.int .i64 ((p : Int) + 1 + 1 + 1)) := (hb3.cell (p := ⟨b, o + j * 4 + 3, none⟩) hbs2).trans x3'
      have t3 := hb.trans ((hb2.trans (hb3.mono hb2.size)).mono zb)
      clear qx2 x2' x3'
      go_wp2_with fail
      go_roundw
      case rel => exact ⟨j + 1, by omega, by go_num, by have := hp.out; go_num, t3⟩
      case measure => simp [intOf]; omega
    · have hlt' : ¬ ((j : Int) < n) := by omega
      obtain rfl : j = n := by omega
      go_wp2_with fail
      go_ret
      exact ⟨rfl, hb⟩
set_option maxHeartbeats 4000000 in
theorem heldDisk_any (r f n : Int) (FA : Option Addr) (c1 : Nat) (fs : List Fl) (KA : Option Addr) (c2 kn : Nat) (TA : Option Addr) (c3 tn : Nat) (k : Nat) (w : World) (hF : Fs w FA (mkF k fs)) (hK : Ks w KA (mkK (k + 2 * fs.length + ftot fs) kn)) (hT : Ts w TA (mkT (k + 2 * fs.length + ftot fs + 2 * kn) tn)) (hk : 1 ≤ k) (hk2 : mEnd k fs kn tn ≤ 10000000) :
    Calls Tryz.prog 17 #[dkV r f n FA fs.length c1 KA kn c2 TA tn c3, .int .i64 k] w fun e w' => e = .returned (.int .i64 (mEnd k fs kn tn : Nat)) ∧ Below w.heap.size w w' := by
  unfold mEnd at hk2 ⊢
  have hb0 : Below w.heap.size w (w.alloc (.cells (dkC r f n FA fs.length c1 KA kn c2 TA tn c3) 35)) := by (repeat (first | exact Below.refl _ _ | (refine Below.alloc ?_ (by first | omega | (simp; done) | (simp; omega)) _) | (refine Below.drew ?_) | (refine below_drewN ?_ _) | (refine below_at1 ?_ (by first | omega | (simp; done) | (simp; omega))) | (refine Below.setCell ?_ (by first | omega | (simp; done) | (simp; omega)) _) | (refine Below.trans ?_ (Below.mono (by assumption) (by first | omega | (simp; done) | (simp; omega))))))
  have B0 := heap_alloc_new w (.cells (dkC r f n FA fs.length c1 KA kn c2 TA tn c3) 35)
  have cF := heldFileS_any FA c1 fs k (w.alloc (.cells (dkC r f n FA fs.length c1 KA kn c2 TA tn c3) 35)) (hF.below hb0) hk (by omega)
  obtain ⟨k1, hk1⟩ : ∃ k1, Hid (k1 = k + 2 * fs.length + ftot fs) := ⟨_, Lib.hid rfl⟩
  rw [← hk1.out] at cF hk2 hK hT ⊢
  obtain ⟨k2, hk2'⟩ : ∃ k2, Hid (k2 = k1 + 2 * kn) := ⟨_, Lib.hid rfl⟩
  rw [← hk2'.out] at hk2 hT ⊢
  have s1 : ¬ (k1 : Int) < 0 := by omega
  have s2 : ¬ (k2 : Int) < 0 := by omega
  have s3 : ¬ ((k2 + 4 * tn : Nat) : Int) < 0 := by omega
  go_enter Tryz.func17, Tryz.ntmps17
  go_wp2_with fail
  refine cF.mono ?_
  rintro e w1 ⟨rfl, hw1⟩
  subst hw1
  have cK := heldLinkS_any KA c2 kn k1 (w.alloc (.cells (dkC r f n FA fs.length c1 KA kn c2 TA tn c3) 35)) (SlL.below hK hb0) (by have := hk1.out; omega) (by have := hk2'.out; omega)
  rw [← hk2'.out] at cK
  go_wp2_with fail
  refine cK.mono ?_
  rintro e w2 ⟨rfl, hb2⟩
  obtain ⟨B2, q2, _, z2⟩ := keep_blk hb2 (g := w.heap.size) B0
  have q5 : w2.cell? ⟨w.heap.size, 5, none⟩ = some (.slice TA tn c3) := q2 5
  have t2 := hb0.trans (hb2.mono hb0.size)
  have cT := heldTurnS_any TA c3 tn k2 w2 (SlL.below hT t2) (by have := hk1.out; have := hk2'.out; omega) hk2
  go_wp2_with fail
  refine cT.mono ?_
  rintro e w3 ⟨rfl, hb3⟩
  go_wp2_with fail
  go_ret
  exact ⟨rfl, t2.trans (hb3.mono t2.size)⟩
end Go.Proofs.YtljpeiflnimblaaGreat
