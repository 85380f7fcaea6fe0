/- The files of a disk are valid: the program's way. -/
import Derived.Test.YtfkdifgmhfdbdaaGreatDoorI8
namespace Go.Proofs.YtfkdifgmhfdbdaaGreatDoor
open Go.RowKit
set_option linter.unusedVariables false
set_option maxRecDepth 100000

theorem fB_badI {n : Int} {es : List Fl} {k : Nat} (hk : k < es.length) (h : ¬ goodF n es k hk) : fB n (pvI (es.map fid) k) ((es.drop k).map fc) = false := fB_bad hk h
set_option maxHeartbeats 8000000 in
theorem filesOk_any (r f n : Int) (FA : Option Addr) (es : List Fl) (c1 : Nat) (KA : Option Addr) (ks : List Lk) (c2 : Nat) (TA : Option Addr) (ts : List Tn) (c3 : Nat) (w : World) (hF : SlL w FA 3 flL es) (hl : es.length ≤ 1048576) (ht : ftot es ≤ 1048576) (hn1 : 1 ≤ n) (hn2 : n ≤ 1000000) (hbd : ∀ e, e ∈ es → bd e.1 ∧ bd e.2.2) :
    Calls Tryz.prog 64 #[dkV r f n FA es.length c1 KA ks.length c2 TA ts.length c3] w fun e w' => e = .returned (.bool (fB n 0 (es.map fc) && decide ((es.length : Int) ≤ 10) && decide ((ftot es : Int) ≤ r))) ∧ Below w.heap.size w w' := by
  have hb0 : Below w.heap.size w (w.alloc (.cells (dkC r f n FA es.length c1 KA ks.length c2 TA ts.length c3) 35)) := by (repeat (first | exact Below.refl _ _ | (refine Below.alloc ?_ (by first | omega | (simp; done) | (simp; omega)) _) | (refine Below.drew ?_) | (refine below_drewN ?_ _) | (refine below_at1 ?_ (by first | omega | (simp; done) | (simp; omega))) | (refine Below.setCell ?_ (by first | omega | (simp; done) | (simp; omega)) _) | (refine Below.trans ?_ (Below.mono (by assumption) (by first | omega | (simp; done) | (simp; omega))))))
  have B0 := heap_alloc_new w (.cells (dkC r f n FA es.length c1 KA ks.length c2 TA ts.length c3) 35)
  have HM := Lib.hid (And.intro hn1 hn2)
  clear hn1 hn2
  go_enter Tryz.func64, Tryz.ntmps64
  go_wp2_with fail
  go_loopw [8] (fun i wr => ∃ k : Nat, k ≤ es.length ∧ i = .int .i64 k ∧ Hid (fB n 0 (es.map fc) = fB n (pvI (es.map fid) k) ((es.drop k).map fc)) ∧ Below w.heap.size w wr ∧ wr.heap[w.heap.size]? = some (.cells (dkC r f n FA es.length c1 KA ks.length c2 TA ts.length c3) 35 (0, 0))) (fun i _ => es.length - (intOf i).toNat)
  case atStart => exact ⟨0, Nat.zero_le _, rfl, Lib.hid rfl, hb0, B0⟩
  case round =>
    clear B0 hb0
    obtain ⟨k, hk, rfl, hg, hb, hB⟩ := hrel
    have zb := hb.size
    have zB : w.heap.size < wr.heap.size := (Array.getElem?_eq_some_iff.1 hB).1
    by_cases hlt : k < es.length
    · obtain ⟨b, o, rfl, hbs, x0, x1, x2⟩ := Fl.get (hF.below hb) hlt
      have hlt' : (k : Int) < es.length := by omega
      have q2 : wr.cell? ⟨w.heap.size, 2, none⟩ = some (.int .i64 n) := cell_of_row wr w.heap.size 2 _ _ (0, 0) hB
      have q3 : wr.cell? ⟨w.heap.size, 3, none⟩ = some (.slice (some ⟨b, o, none⟩) es.length c1) := cell_of_row wr w.heap.size 3 _ _ (0, 0) hB
      have hgb := @fB_bad n es k hlt
      have hgo := @fB_ok n es k hlt
      obtain ⟨bd0, bd2⟩ := hbd _ (List.getElem_mem hlt)
      have hwn : IntKind.i64.wrap (n - 1) = n - 1 := by have := HM.out; rw [IntKind.wrap_i64]; omega
      have HG : Hid ((¬ goodF n es k hlt) → (fB n 0 (es.map fc) && decide ((es.length : Int) ≤ 10) && decide ((ftot es : Int) ≤ r)) = false) := Lib.hid fun h => by rw [hg.out, hgb h]; rfl
      have HO : Hid (goodF n es k hlt → fB n 0 (es.map fc) = fB n (pvI (es.map fid) (k + 1)) ((es.drop (k + 1)).map fc)) := Lib.hid fun h => by rw [hg.out, hgo h]
      clear hgb hgo hg
      by_cases d1 : 1 ≤ es[k].1 ∧ es[k].1 ≤ n - 1
      case neg =>
        have W1 : Hid (decide (1 ≤ es[k].1 ∧ es[k].1 ≤ n - 1) = false) := decide_eq_false d1
        have W2 : Hid True := trivial
        have HZ : Hid ((fB n 0 (es.map fc) && decide ((es.length : Int) ≤ 10) && decide ((ftot es : Int) ≤ r)) = false) := HG.out fun h => d1 ⟨h.1, by have := h.2.1; omega⟩
        clear HG HO
        go_wp2_with fail
        first | (have e0 : (0 : Int) < k := by omega) | (have e0 : ¬ (0 : Int) < k := by omega) | skip
        first | (have e1 : 0 < k := by omega) | (have e1 : ¬ 0 < k := by omega) | skip
        first | (have e2 : es[k].1 ≤ es[j].1 := by omega) | (have e2 : ¬ es[k].1 ≤ es[j].1 := by omega) | skip
        go_quiet (first | (go_at_call_of 30 n; refine Calls.quiet_of_same (v := .bool false) ((within_any _ _ _ _).mono ?_); rintro e w9 ⟨he, hw⟩; exact ⟨he.trans (congrArg Ending.returned (congrArg Value.bool W1.out)), hw.symm⟩) | (go_at_call 30; refine Calls.quiet_of_same (v := .bool true) ((within_any _ _ _ _).mono ?_); rintro e w9 ⟨he, hw⟩; exact ⟨he.trans (congrArg Ending.returned (congrArg Value.bool W2.out)), hw.symm⟩))
        go_wp2_with fail
        go_ret
        exact ⟨ret_bool HZ.out.symm, below_drewN (hb.alloc (by first | omega | (simp; done) | (simp; omega)) _) _⟩
      case pos =>
      have W1 : Hid (decide (1 ≤ es[k].1 ∧ es[k].1 ≤ n - 1) = true) := decide_eq_true d1
      have D1 := Lib.hid d1
      clear d1
      by_cases d2 : 0 ≤ es[k].2.2 ∧ es[k].2.2 ≤ es[k].2.1.2.2.length
      case neg =>
        have W2 : Hid (decide (0 ≤ es[k].2.2 ∧ es[k].2.2 ≤ es[k].2.1.2.2.length) = false) := decide_eq_false d2
        have D2 := Lib.hid d2
        rcases Nat.eq_zero_or_pos k with hk0 | hk0
        · have hkp : ¬ (0 : Int) < k := by omega
          clear hk0 d2
          have HZ : Hid ((fB n 0 (es.map fc) && decide ((es.length : Int) ≤ 10) && decide ((ftot es : Int) ≤ r)) = false) := HG.out fun h => D2.out ⟨h.2.2.2.1, h.2.2.2.2⟩
          clear HG HO
          go_wp2_with fail
          first | (have e0 : (0 : Int) < k := by omega) | (have e0 : ¬ (0 : Int) < k := by omega) | skip
          first | (have e1 : 0 < k := by omega) | (have e1 : ¬ 0 < k := by omega) | skip
          first | (have e2 : es[k].1 ≤ es[j].1 := by omega) | (have e2 : ¬ es[k].1 ≤ es[j].1 := by omega) | skip
          go_quiet (first | (go_at_call_of 30 n; refine Calls.quiet_of_same (v := .bool true) ((within_any _ _ _ _).mono ?_); rintro e w9 ⟨he, hw⟩; exact ⟨he.trans (congrArg Ending.returned (congrArg Value.bool W1.out)), hw.symm⟩) | (go_at_call 30; refine Calls.quiet_of_same (v := .bool false) ((within_any _ _ _ _).mono ?_); rintro e w9 ⟨he, hw⟩; exact ⟨he.trans (congrArg Ending.returned (congrArg Value.bool W2.out)), hw.symm⟩))
          go_wp2_with fail
          go_ret
          exact ⟨ret_bool HZ.out.symm, below_drewN (hb.alloc (by first | omega | (simp; done) | (simp; omega)) _) _⟩
        · obtain ⟨j, hj⟩ : ∃ j, Hid (k = j + 1) := ⟨k - 1, by show k = _; omega⟩
          have hjl : j < es.length := by have := hj.out; omega
          obtain ⟨b', o', hA', _, y0, _, _⟩ := Fl.get (hF.below hb) hjl
          injection hA' with hA'
          injection hA' with e1 e2 e3
          subst e1 e2
          have hkp : (0 : Int) < k := by omega
          have hw1 : IntKind.i64.wrap ((k : Int) - 1) = (j : Int) := by have := hj.out; rw [IntKind.wrap_i64]; omega
          have hj0 : (0 : Int) ≤ j := by omega
          have hj1 : (j : Int) < es.length := by omega
          have HP : Hid (pvI (es.map fid) k = es[j].1) := by have := hj.out; subst this; exact pvI_succ es j hjl
          clear d2
          by_cases d3 : es[k].1 ≤ es[j].1
          · have HZ : Hid ((fB n 0 (es.map fc) && decide ((es.length : Int) ≤ 10) && decide ((ftot es : Int) ≤ r)) = false) := HG.out fun h => D2.out ⟨h.2.2.2.1, h.2.2.2.2⟩
            clear HG HO
            go_wp2_with fail
            first | (have e0 : (0 : Int) < k := by omega) | (have e0 : ¬ (0 : Int) < k := by omega) | skip
            first | (have e1 : 0 < k := by omega) | (have e1 : ¬ 0 < k := by omega) | skip
            first | (have e2 : es[k].1 ≤ es[j].1 := by omega) | (have e2 : ¬ es[k].1 ≤ es[j].1 := by omega) | skip
            go_quiet (first | (go_at_call_of 30 n; refine Calls.quiet_of_same (v := .bool true) ((within_any _ _ _ _).mono ?_); rintro e w9 ⟨he, hw⟩; exact ⟨he.trans (congrArg Ending.returned (congrArg Value.bool W1.out)), hw.symm⟩) | (go_at_call 30; refine Calls.quiet_of_same (v := .bool false) ((within_any _ _ _ _).mono ?_); rintro e w9 ⟨he, hw⟩; exact ⟨he.trans (congrArg Ending.returned (congrArg Value.bool W2.out)), hw.symm⟩))
            go_wp2_with fail
            go_ret
            exact ⟨ret_bool HZ.out.symm, below_drewN (hb.alloc (by first | omega | (simp; done) | (simp; omega)) _) _⟩
          · have HZ : Hid ((fB n 0 (es.map fc) && decide ((es.length : Int) ≤ 10) && decide ((ftot es : Int) ≤ r)) = false) := HG.out fun h => D2.out ⟨h.2.2.2.1, h.2.2.2.2⟩
            clear HG HO
            go_wp2_with fail
            first | (have e0 : (0 : Int) < k := by omega) | (have e0 : ¬ (0 : Int) < k := by omega) | skip
            first | (have e1 : 0 < k := by omega) | (have e1 : ¬ 0 < k := by omega) | skip
            first | (have e2 : es[k].1 ≤ es[j].1 := by omega) | (have e2 : ¬ es[k].1 ≤ es[j].1 := by omega) | skip
            go_quiet (first | (go_at_call_of 30 n; refine Calls.quiet_of_same (v := .bool true) ((within_any _ _ _ _).mono ?_); rintro e w9 ⟨he, hw⟩; exact ⟨he.trans (congrArg Ending.returned (congrArg Value.bool W1.out)), hw.symm⟩) | (go_at_call 30; refine Calls.quiet_of_same (v := .bool false) ((within_any _ _ _ _).mono ?_); rintro e w9 ⟨he, hw⟩; exact ⟨he.trans (congrArg Ending.returned (congrArg Value.bool W2.out)), hw.symm⟩))
            go_wp2_with fail
            go_ret
            exact ⟨ret_bool HZ.out.symm, below_drewN (hb.alloc (by first | omega | (simp; done) | (simp; omega)) _) _⟩
      case pos =>
      have W2 : Hid (decide (0 ≤ es[k].2.2 ∧ es[k].2.2 ≤ es[k].2.1.2.2.length) = true) := decide_eq_true d2
      have D2 := Lib.hid d2
      clear d2
      rcases Nat.eq_zero_or_pos k with hk0 | hk0
      · have HP : Hid (pvI (es.map fid) k = 0) := by rw [hk0]; exact Lib.hid rfl
        have hkp : ¬ (0 : Int) < k := by omega
        clear hk0
        have HZ : Hid (fB n 0 (es.map fc) = fB n (pvI (es.map fid) (k + 1)) ((es.drop (k + 1)).map fc)) := HO.out ⟨D1.out.1, by have := D1.out.2; omega, by rw [HP.out]; have := D1.out.1; omega, D2.out.1, D2.out.2⟩
        clear HG HO
        go_wp2_with fail
        first | (have e0 : (0 : Int) < k := by omega) | (have e0 : ¬ (0 : Int) < k := by omega) | skip
        first | (have e1 : 0 < k := by omega) | (have e1 : ¬ 0 < k := by omega) | skip
        first | (have e2 : es[k].1 ≤ es[j].1 := by omega) | (have e2 : ¬ es[k].1 ≤ es[j].1 := by omega) | skip
        go_quiet (first | (go_at_call_of 30 n; refine Calls.quiet_of_same (v := .bool true) ((within_any _ _ _ _).mono ?_); rintro e w9 ⟨he, hw⟩; exact ⟨he.trans (congrArg Ending.returned (congrArg Value.bool W1.out)), hw.symm⟩) | (go_at_call 30; refine Calls.quiet_of_same (v := .bool true) ((within_any _ _ _ _).mono ?_); rintro e w9 ⟨he, hw⟩; exact ⟨he.trans (congrArg Ending.returned (congrArg Value.bool W2.out)), hw.symm⟩))
        go_wp2_with fail
        go_roundw
        case rel => exact ⟨k + 1, by omega, by go_num, HZ, below_drewN (hb.alloc (by first | omega | (simp; done) | (simp; omega)) _) _, heap_alloc_of _ hB⟩
        case measure => simp [intOf]; omega
      · obtain ⟨j, hj⟩ : ∃ j, Hid (k = j + 1) := ⟨k - 1, by show k = _; omega⟩
        have hjl : j < es.length := by have := hj.out; omega
        obtain ⟨b', o', hA', _, y0, _, _⟩ := Fl.get (hF.below hb) hjl
        injection hA' with hA'
        injection hA' with e1 e2 e3
        subst e1 e2
        have hkp : (0 : Int) < k := by omega
        have hw1 : IntKind.i64.wrap ((k : Int) - 1) = (j : Int) := by have := hj.out; rw [IntKind.wrap_i64]; omega
        have hj0 : (0 : Int) ≤ j := by omega
        have hj1 : (j : Int) < es.length := by omega
        have HP : Hid (pvI (es.map fid) k = es[j].1) := by have := hj.out; subst this; exact pvI_succ es j hjl
        by_cases d3 : es[k].1 ≤ es[j].1
        · have HZ : Hid ((fB n 0 (es.map fc) && decide ((es.length : Int) ≤ 10) && decide ((ftot es : Int) ≤ r)) = false) := HG.out fun h => (by have h1 := h.2.2.1; rw [HP.out] at h1; omega)
          clear HG HO
          go_wp2_with fail
          first | (have e0 : (0 : Int) < k := by omega) | (have e0 : ¬ (0 : Int) < k := by omega) | skip
          first | (have e1 : 0 < k := by omega) | (have e1 : ¬ 0 < k := by omega) | skip
          first | (have e2 : es[k].1 ≤ es[j].1 := by omega) | (have e2 : ¬ es[k].1 ≤ es[j].1 := by omega) | skip
          go_quiet (first | (go_at_call_of 30 n; refine Calls.quiet_of_same (v := .bool true) ((within_any _ _ _ _).mono ?_); rintro e w9 ⟨he, hw⟩; exact ⟨he.trans (congrArg Ending.returned (congrArg Value.bool W1.out)), hw.symm⟩) | (go_at_call 30; refine Calls.quiet_of_same (v := .bool true) ((within_any _ _ _ _).mono ?_); rintro e w9 ⟨he, hw⟩; exact ⟨he.trans (congrArg Ending.returned (congrArg Value.bool W2.out)), hw.symm⟩))
          go_wp2_with fail
          go_ret
          exact ⟨ret_bool HZ.out.symm, below_drewN (hb.alloc (by first | omega | (simp; done) | (simp; omega)) _) _⟩
        · have HZ : Hid (fB n 0 (es.map fc) = fB n (pvI (es.map fid) (k + 1)) ((es.drop (k + 1)).map fc)) := HO.out ⟨D1.out.1, by have := D1.out.2; omega, by rw [HP.out]; omega, D2.out.1, D2.out.2⟩
          clear HG HO
          go_wp2_with fail
          first | (have e0 : (0 : Int) < k := by omega) | (have e0 : ¬ (0 : Int) < k := by omega) | skip
          first | (have e1 : 0 < k := by omega) | (have e1 : ¬ 0 < k := by omega) | skip
          first | (have e2 : es[k].1 ≤ es[j].1 := by omega) | (have e2 : ¬ es[k].1 ≤ es[j].1 := by omega) | skip
          go_quiet (first | (go_at_call_of 30 n; refine Calls.quiet_of_same (v := .bool true) ((within_any _ _ _ _).mono ?_); rintro e w9 ⟨he, hw⟩; exact ⟨he.trans (congrArg Ending.returned (congrArg Value.bool W1.out)), hw.symm⟩) | (go_at_call 30; refine Calls.quiet_of_same (v := .bool true) ((within_any _ _ _ _).mono ?_); rintro e w9 ⟨he, hw⟩; exact ⟨he.trans (congrArg Ending.returned (congrArg Value.bool W2.out)), hw.symm⟩))
          go_wp2_with fail
          go_roundw
          case rel => exact ⟨k + 1, by omega, by go_num, HZ, below_drewN (hb.alloc (by first | omega | (simp; done) | (simp; omega)) _) _, heap_alloc_of _ hB⟩
          case measure => simp [intOf]; omega
    · have hlt' : ¬ ((k : Int) < es.length) := by omega
      have HE : Hid (fB n 0 (es.map fc) = true) := by rw [hg.out, List.drop_of_length_le (by omega)]; exact Lib.hid rfl
      clear hg hk hlt
      have q0 : wr.cell? ⟨w.heap.size, 0, none⟩ = some (.int .i64 r) := cell_of_row wr w.heap.size 0 _ _ (0, 0) hB
      have q1 : wr.cell? ⟨w.heap.size, 1, none⟩ = some (.int .i64 f) := cell_of_row wr w.heap.size 1 _ _ (0, 0) hB
      have q2 : wr.cell? ⟨w.heap.size, 2, none⟩ = some (.int .i64 n) := cell_of_row wr w.heap.size 2 _ _ (0, 0) hB
      have q3 : wr.cell? ⟨w.heap.size, 3, none⟩ = some (.slice FA es.length c1) := cell_of_row wr w.heap.size 3 _ _ (0, 0) hB
      have q4 : wr.cell? ⟨w.heap.size, 4, none⟩ = some (.slice KA ks.length c2) := cell_of_row wr w.heap.size 4 _ _ (0, 0) hB
      have q5 : wr.cell? ⟨w.heap.size, 5, none⟩ = some (.slice TA ts.length c3) := cell_of_row wr w.heap.size 5 _ _ (0, 0) hB
      go_wp2_with fail
      have qq0 : ∀ p : Bl wr.heap.size wr, p.val.cell? ⟨w.heap.size, 0, none⟩ = some (.int .i64 r) := fun p => p.cell q0
      have qq1 : ∀ p : Bl wr.heap.size wr, p.val.cell? ⟨w.heap.size, 1, none⟩ = some (.int .i64 f) := fun p => p.cell q1
      have qq2 : ∀ p : Bl wr.heap.size wr, p.val.cell? ⟨w.heap.size, 2, none⟩ = some (.int .i64 n) := fun p => p.cell q2
      have qq3 : ∀ p : Bl wr.heap.size wr, p.val.cell? ⟨w.heap.size, 3, none⟩ = some (.slice FA es.length c1) := fun p => p.cell q3
      have qq4 : ∀ p : Bl wr.heap.size wr, p.val.cell? ⟨w.heap.size, 4, none⟩ = some (.slice KA ks.length c2) := fun p => p.cell q4
      have qq5 : ∀ p : Bl wr.heap.size wr, p.val.cell? ⟨w.heap.size, 5, none⟩ = some (.slice TA ts.length c3) := fun p => p.cell q5
      obtain ⟨u, hu⟩ : ∃ u : Int, Hid ((ftot es : Int) = u) := ⟨_, Lib.hid rfl⟩
      by_cases g1 : (es.length : Int) ≤ 10
      · by_cases g2 : u ≤ r
        · refine wp_region_qb (by kernel_rfl) (by kernel_rfl) ?_
          repeat (quiet_step ((go_at_call 94; rename_i p; exact Calls.qb ((used_impl r f n FA es c1 KA ks.length c2 TA ts.length c3 _ ((hF.below hb).below p.ok) (by omega) (by omega)).mono fun _ _ ⟨he, hb9⟩ => ⟨he.trans (ret_int hu.out), hb9⟩))))
          refine qb_end fun w9 hb9 => ?_
          clear qq0 qq1 qq2 qq3 qq4 qq5 q0 q1 q2 q3 q4 q5
          go_wp2_with fail
          go_ret
          exact ⟨ret_bool (by rw [HE.out, hu.out]; simp [g1, g2]), hb.trans (hb9.mono zb)⟩
        · refine wp_region_qb (by kernel_rfl) (by kernel_rfl) ?_
          repeat (quiet_step ((go_at_call 94; rename_i p; exact Calls.qb ((used_impl r f n FA es c1 KA ks.length c2 TA ts.length c3 _ ((hF.below hb).below p.ok) (by omega) (by omega)).mono fun _ _ ⟨he, hb9⟩ => ⟨he.trans (ret_int hu.out), hb9⟩))))
          refine qb_end fun w9 hb9 => ?_
          clear qq0 qq1 qq2 qq3 qq4 qq5 q0 q1 q2 q3 q4 q5
          go_wp2_with fail
          go_ret
          exact ⟨ret_bool (by rw [HE.out, hu.out]; simp [g2]), hb.trans (hb9.mono zb)⟩
      · refine wp_region_qb (by kernel_rfl) (by kernel_rfl) ?_
        repeat (quiet_step ((go_at_call 94; rename_i p; exact Calls.qb ((used_impl r f n FA es c1 KA ks.length c2 TA ts.length c3 _ ((hF.below hb).below p.ok) (by omega) (by omega)).mono fun _ _ ⟨he, hb9⟩ => ⟨he.trans (ret_int hu.out), hb9⟩))))
        refine qb_end fun w9 hb9 => ?_
        clear qq0 qq1 qq2 qq3 qq4 qq5 q0 q1 q2 q3 q4 q5
        go_wp2_with fail
        go_ret
        exact ⟨ret_bool (by rw [HE.out, hu.out, decide_eq_false (show ¬ (es.length : Int) ≤ 10 by omega)]; rfl), hb.trans (hb9.mono zb)⟩
end Go.Proofs.YtfkdifgmhfdbdaaGreatDoor
