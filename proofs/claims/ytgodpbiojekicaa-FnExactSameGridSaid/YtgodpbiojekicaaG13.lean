/- Two grids compared: both ways, and the law. -/
import Derived.Test.YtgodpbiojekicaaG12
namespace Go.Proofs.Ytgodpbiojekicaa
open Go.RowKit
set_option linter.unusedVariables false
set_option maxRecDepth 100000

theorem same_no {W H W' H' : Int} {cs ds : List Cl} (h : ¬ (W = W' ∧ H = H' ∧ cs = ds)) : sameB W H W' H' cs ds = false := decide_eq_false h
theorem same_eq {W H : Int} {cs ds : List Cl} : sameB W H W H cs ds = decide (cs = ds) := by simp [sameB]
set_option maxHeartbeats 1000000 in
theorem sameGrid_impl (W H W' H' : Int) (A A' : Option Addr) (c c' : Nat) (cs ds : List Cl) (w : World) (ha : Gs w A cs) (hb : Gs w A' ds) (h1 : cs.length ≤ 1048576) (h2 : ds.length ≤ 1048576) :
    Calls Try.prog 31 #[gV W H A cs.length c, gV W' H' A' ds.length c'] w fun e w' => e = .returned (.bool (sameB W H W' H' cs ds)) ∧ Below w.heap.size w w' := by
  by_cases e1 : W = W'
  · subst e1
    by_cases e2 : H = H'
    · subst e2
      have HR := Lib.hid (same_eq (W := W) (H := H) (cs := cs) (ds := ds))
      go_enter Try.func31, Try.ntmps31
      go_wp2_with fail
      have hb0 : Below w.heap.size w ((w.alloc (.cells #[.int .i64 W, .int .i64 H, .slice A cs.length c] 49)).alloc (.cells #[.int .i64 W, .int .i64 H, .slice A' ds.length c'] 49)) := by (repeat (first | exact Below.refl _ _ | (refine Below.alloc ?_ (by first | omega | (simp; done) | (simp; omega)) _) | (refine Below.drew ?_) | (refine below_drewN ?_ _) | (refine below_at1 ?_ (by first | omega | (simp; done) | (simp; omega))) | (refine Below.setCell ?_ (by first | omega | (simp; done) | (simp; omega)) _) | (refine Below.trans ?_ (Below.mono (by assumption) (by first | omega | (simp; done) | (simp; omega))))))
      refine (seqCells_any _ _ _ _ cs ds _ (ha.below hb0) (hb.below hb0) (by omega) (by omega)).mono ?_
      rintro e w1 ⟨rfl, m, rfl⟩
      go_wp2_with fail
      go_ret
      exact ⟨ret_bool HR.out.symm, below_drewN hb0 _⟩
    · have hq : (H == H') = false := by simpa using e2
      have HR := Lib.hid (same_no (cs := cs) (ds := ds) (W := W) (W' := W) (fun h => e2 h.2.1))
      clear e2
      go_enter Try.func31, Try.ntmps31
      go_wp2_with fail
      go_ret
      exact ⟨ret_bool HR.out.symm, (by (repeat (first | exact Below.refl _ _ | (refine Below.alloc ?_ (by first | omega | (simp; done) | (simp; omega)) _) | (refine Below.drew ?_) | (refine below_drewN ?_ _) | (refine below_at1 ?_ (by first | omega | (simp; done) | (simp; omega))) | (refine Below.setCell ?_ (by first | omega | (simp; done) | (simp; omega)) _) | (refine Below.trans ?_ (Below.mono (by assumption) (by first | omega | (simp; done) | (simp; omega)))))))⟩
  · have hq : (W == W') = false := by simpa using e1
    have HR := Lib.hid (same_no (H := H) (H' := H') (cs := cs) (ds := ds) (fun h => e1 h.1))
    clear e1
    go_enter Try.func31, Try.ntmps31
    go_wp2_with fail
    go_ret
    exact ⟨ret_bool HR.out.symm, (by (repeat (first | exact Below.refl _ _ | (refine Below.alloc ?_ (by first | omega | (simp; done) | (simp; omega)) _) | (refine Below.drew ?_) | (refine below_drewN ?_ _) | (refine below_at1 ?_ (by first | omega | (simp; done) | (simp; omega))) | (refine Below.setCell ?_ (by first | omega | (simp; done) | (simp; omega)) _) | (refine Below.trans ?_ (Below.mono (by assumption) (by first | omega | (simp; done) | (simp; omega)))))))⟩
set_option maxHeartbeats 4000000 in
theorem sameGrid_spec (W H W' H' : Int) (A A' : Option Addr) (c c' : Nat) (cs ds : List Cl) (w : World) (ha : Gs w A cs) (hb : Gs w A' ds) (h1 : cs.length ≤ 1048576) (h2 : ds.length ≤ 1048576) :
    Calls Try.prog 29 #[gV W H A cs.length c, gV W' H' A' ds.length c'] w fun e w' => e = .returned (.bool (sameB W H W' H' cs ds)) ∧ Below w.heap.size w w' := by
  by_cases e1 : W = W'
  case neg =>
    have hq : (W != W') = true := by simpa using e1
    have HR := Lib.hid (same_no (H := H) (H' := H') (cs := cs) (ds := ds) (fun h => e1 h.1))
    clear e1
    go_enter Try.func29, Try.ntmps29
    go_wp2_with fail
    go_ret
    exact ⟨ret_bool HR.out.symm, (by (repeat (first | exact Below.refl _ _ | (refine Below.alloc ?_ (by first | omega | (simp; done) | (simp; omega)) _) | (refine Below.drew ?_) | (refine below_drewN ?_ _) | (refine below_at1 ?_ (by first | omega | (simp; done) | (simp; omega))) | (refine Below.setCell ?_ (by first | omega | (simp; done) | (simp; omega)) _) | (refine Below.trans ?_ (Below.mono (by assumption) (by first | omega | (simp; done) | (simp; omega)))))))⟩
  subst e1
  by_cases e2 : H = H'
  case neg =>
    have hq : (H != H') = true := by simpa using e2
    have HR := Lib.hid (same_no (cs := cs) (ds := ds) (W := W) (W' := W) (fun h => e2 h.2.1))
    clear e2
    go_enter Try.func29, Try.ntmps29
    go_wp2_with fail
    go_ret
    exact ⟨ret_bool HR.out.symm, (by (repeat (first | exact Below.refl _ _ | (refine Below.alloc ?_ (by first | omega | (simp; done) | (simp; omega)) _) | (refine Below.drew ?_) | (refine below_drewN ?_ _) | (refine below_at1 ?_ (by first | omega | (simp; done) | (simp; omega))) | (refine Below.setCell ?_ (by first | omega | (simp; done) | (simp; omega)) _) | (refine Below.trans ?_ (Below.mono (by assumption) (by first | omega | (simp; done) | (simp; omega)))))))⟩
  subst e2
  have HRR := Lib.hid (same_eq (W := W) (H := H) (cs := cs) (ds := ds))
  by_cases hl : cs.length = ds.length
  case neg =>
    have hne : ((cs.length : Int) != (ds.length : Int)) = true := by simp; omega
    have HR : Hid (sameB W H W H cs ds = false) := by
      show _ = _
      rw [HRR.out]
      exact decide_eq_false (fun h => hl (by rw [h]))
    clear hl
    go_enter Try.func29, Try.ntmps29
    go_wp2_with fail
    go_ret
    exact ⟨ret_bool HR.out.symm, (by (repeat (first | exact Below.refl _ _ | (refine Below.alloc ?_ (by first | omega | (simp; done) | (simp; omega)) _) | (refine Below.drew ?_) | (refine below_drewN ?_ _) | (refine below_at1 ?_ (by first | omega | (simp; done) | (simp; omega))) | (refine Below.setCell ?_ (by first | omega | (simp; done) | (simp; omega)) _) | (refine Below.trans ?_ (Below.mono (by assumption) (by first | omega | (simp; done) | (simp; omega)))))))⟩
  have hne : ((cs.length : Int) != (ds.length : Int)) = false := by simp [hl]
  have HL := Lib.hid hl
  clear hl
  go_enter Try.func29, Try.ntmps29
  go_wp2_with fail
  go_loopw [30] (fun i wr => ∃ k : Nat, k ≤ cs.length ∧ i = .int .i64 k ∧ Hid (cs.take k = ds.take k) ∧ wr.heap[w.heap.size]? = some (.cells #[.int .i64 W, .int .i64 H, .slice A cs.length c] 49 (0, 0)) ∧ wr.heap[w.heap.size + 1]? = some (.cells #[.int .i64 W, .int .i64 H, .slice A' ds.length c'] 49 (0, 0)) ∧ Below w.heap.size w wr) (fun i _ => cs.length - (intOf i).toNat)
  case atStart => exact ⟨0, Nat.zero_le _, rfl, by show _ = _; simp, (by repeat (first | assumption | exact heap_alloc_at _ (by first | rfl | (simp; done) | omega) | refine heap_alloc_of _ ?_ | refine heap_setCell_of _ (by first | omega | (simp; done) | (simp; omega)) ?_ | refine heap_setCell_same _ ?_ | exact heap_at1_same (by first | omega | (simp; done) | (simp; omega)) | refine heap_at1_of (by first | omega | (simp; done) | (simp; omega)) ?_)), (by repeat (first | assumption | exact heap_alloc_at _ (by first | rfl | (simp; done) | omega) | refine heap_alloc_of _ ?_ | refine heap_setCell_of _ (by first | omega | (simp; done) | (simp; omega)) ?_ | refine heap_setCell_same _ ?_ | exact heap_at1_same (by first | omega | (simp; done) | (simp; omega)) | refine heap_at1_of (by first | omega | (simp; done) | (simp; omega)) ?_)), by (repeat (first | exact Below.refl _ _ | (refine Below.alloc ?_ (by first | omega | (simp; done) | (simp; omega)) _) | (refine Below.drew ?_) | (refine below_drewN ?_ _) | (refine below_at1 ?_ (by first | omega | (simp; done) | (simp; omega))) | (refine Below.setCell ?_ (by first | omega | (simp; done) | (simp; omega)) _) | (refine Below.trans ?_ (Below.mono (by assumption) (by first | omega | (simp; done) | (simp; omega))))))⟩
  case round =>
    obtain ⟨k, hk, rfl, ht, hgA, hgB, hbw⟩ := hrel
    have ca : wr.cell? ⟨w.heap.size, 2, none⟩ = some (.slice A cs.length c) := by simp [World.cell?, hgA]
    have cb : wr.cell? ⟨w.heap.size + 1, 2, none⟩ = some (.slice A' ds.length c') := by simp [World.cell?, hgB]
    by_cases hlt : k < cs.length
    · have hlt2 : k < ds.length := by rw [← HL.out]; exact hlt
      obtain ⟨b, o, rfl, hbs, x0, x1, x2, x3, x4, x5⟩ := (ha.below hbw).get hlt
      obtain ⟨b', o', rfl, hbs', y0, y1, y2, y3, y4, y5⟩ := (hb.below hbw).get hlt2
      have hlt' : (k : Int) < cs.length := by omega
      have hlt2' : (k : Int) < ds.length := by omega
      have HGA := Lib.hid hgA
      have HGB := Lib.hid hgB
      clear hgA hgB
      by_cases hxy : cs[k] = ds[k]
      · have HT : Hid (cs.take (k + 1) = ds.take (k + 1)) := by
          show _ = _
          rw [take_succ_get (List.getElem?_eq_getElem hlt), take_succ_get (List.getElem?_eq_getElem hlt2), ht.out, hxy]
        rw [← hxy] at y0 y1 y2 y3 y4 y5
        clear hxy ht
        go_wp2
        go_quiet (fail)
        go_wp2
        go_roundw
        case rel => exact ⟨k + 1, by omega, by go_num, HT, HGA.out, HGB.out, below_drewN hbw _⟩
        case measure => simp [intOf]; omega
      · have HX : Hid (sameB W H W H cs ds = false) := by
          show _ = _
          rw [HRR.out]
          exact decide_eq_false (fun h => hxy (by simp [h]))
        clear ht
        rcases cl_ne hxy with e1 | ⟨e1, e2⟩ | ⟨e1, e2, e3⟩ | ⟨e1, e2, e3, e4⟩ | ⟨e1, e2, e3, e4, e5⟩ | ⟨e1, e2, e3, e4, e5, e6⟩
        · have hq : (cs[k].1 == ds[k].1) = false := by simpa using e1
          clear hxy e1
          go_wp2
          go_quiet (fail)
          go_wp2
          go_ret
          exact ⟨ret_bool HX.out.symm, below_drewN hbw _⟩
        · have hq : (cs[k].2.1 == ds[k].2.1) = false := by simpa using e2
          rw [← e1] at y0
          clear hxy e1 e2
          go_wp2
          go_quiet (fail)
          go_wp2
          go_ret
          exact ⟨ret_bool HX.out.symm, below_drewN hbw _⟩
        · have hq : (cs[k].2.2.1 == ds[k].2.2.1) = false := by simpa using e3
          rw [← e1] at y0
          rw [← e2] at y1
          clear hxy e1 e2 e3
          go_wp2
          go_quiet (fail)
          go_wp2
          go_ret
          exact ⟨ret_bool HX.out.symm, below_drewN hbw _⟩
        · have hq : (cs[k].2.2.2.1 == ds[k].2.2.2.1) = false := by simpa using e4
          rw [← e1] at y0
          rw [← e2] at y1
          rw [← e3] at y2
          clear hxy e1 e2 e3 e4
          go_wp2
          go_quiet (fail)
          go_wp2
          go_ret
          exact ⟨ret_bool HX.out.symm, below_drewN hbw _⟩
        · have hq : (cs[k].2.2.2.2.1 == ds[k].2.2.2.2.1) = false := by simpa using e5
          rw [← e1] at y0
          rw [← e2] at y1
          rw [← e3] at y2
          rw [← e4] at y3
          clear hxy e1 e2 e3 e4 e5
          go_wp2
          go_quiet (fail)
          go_wp2
          go_ret
          exact ⟨ret_bool HX.out.symm, below_drewN hbw _⟩
        · have hq : (cs[k].2.2.2.2.2 == ds[k].2.2.2.2.2) = false := by simpa using e6
          rw [← e1] at y0
          rw [← e2] at y1
          rw [← e3] at y2
          rw [← e4] at y3
          rw [← e5] at y4
          clear hxy e1 e2 e3 e4 e5 e6
          go_wp2
          go_quiet (fail)
          go_wp2
          go_ret
          exact ⟨ret_bool HX.out.symm, below_drewN hbw _⟩
    · have hk' : k = cs.length := by omega
      have HX : Hid (sameB W H W H cs ds = true) := by
        have h := ht.out
        have hl := HL.out
        show _ = _
        rw [HRR.out]
        rw [hk', List.take_length, hl, List.take_length] at h
        simp [h]
      clear hk' ht
      have hlt' : ¬ ((k : Int) < cs.length) := by omega
      go_wp2
      go_ret
      exact ⟨ret_bool HX.out.symm, hbw⟩
end Go.Proofs.Ytgodpbiojekicaa
