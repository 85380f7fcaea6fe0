/- A depot is valid: both ways. A depot is valid: the program's way. A depot is valid: the law. -/
import Derived.Test.YtfkdifgmhfdbdaaGreatDoorDq
import Derived.Test.YtfkdifgmhfdbdaaGreatDoorKd
import Derived.Test.YtfkdifgmhfdbdaaGreatDoorTq
import Derived.Test.YtfkdifgmhfdbdaaGreatDoorHc
namespace Go.Proofs.YtfkdifgmhfdbdaaGreatDoor
open Go.RowKit

set_option linter.unusedVariables false
set_option maxRecDepth 100000

/-- A depot is valid. -/
def pdB (r f n : Int) (cs : List (Int × List UInt8 × Int)) (u : Nat) (ks : List Lk) (ts : List Tn) (g s z : Int) (st : Bool) : Bool :=
  dkB r f n cs u ks ts && decide (1 ≤ g ∧ g ≤ 1000000000) && decide (1 ≤ s ∧ s ≤ 1000000001) && decide (0 ≤ z) && (f == 0 || st || ((readV r f n cs u ks ts (bstr (nmL logS g))).isSome && decide ((((readV r f n cs u ks ts (bstr (nmL logS g))).getD []).length : Int) = z)))
set_option maxHeartbeats 4000000 in
theorem depotOk_spec (r f n : Int) (FA : Option Addr) (es fs : List Fl) (c1 : Nat) (KA : Option Addr) (ks : List Lk) (c2 : Nat) (TA : Option Addr) (ts : List Tn) (c3 : Nat) (g s z : Int) (st : Bool) (w : World) (hr : Dr w FA fs KA ks TA ts) (hd : Hid (fs.map fc = es.map fc)) (hg : Good es ks ts) (hgb : bd g) :
    Calls Tryz.prog 7 #[pdV r f n FA es.length c1 KA ks.length c2 TA ts.length c3 g s z st] w fun e w' => e = .returned (.bool (pdB r f n (es.map fc) (ftot es) ks ts g s z st)) ∧ Below w.heap.size w w' := by
  have hb0 : Below w.heap.size w (w.alloc (.cells (pdC r f n FA es.length c1 KA ks.length c2 TA ts.length c3 g s z st) 37)) := by (repeat (first | exact Below.refl _ _ | (refine Below.alloc ?_ (by first | omega | (simp; done) | (simp; omega)) _) | (refine Below.drew ?_) | (refine below_drewN ?_ _) | (refine below_at1 ?_ (by first | omega | (simp; done) | (simp; omega))) | (refine Below.setCell ?_ (by first | omega | (simp; done) | (simp; omega)) _) | (refine Below.trans ?_ (Below.mono (by assumption) (by first | omega | (simp; done) | (simp; omega))))))
  have B0 : (w.alloc (.cells (pdC r f n FA es.length c1 KA ks.length c2 TA ts.length c3 g s z st) 37)).heap[w.heap.size]? = some (.cells (pdC r f n FA es.length c1 KA ks.length c2 TA ts.length c3 g s z st) 37 (0, 0)) := heap_alloc_new _ _
  have cok := okSpec_any r f n FA es fs c1 KA ks c2 TA ts c3 _ (hr.below hb0) hd hg
  cases hv : dkB r f n (es.map fc) (ftot es) ks ts with
  | false =>
    have HV : Hid (pdB r f n (es.map fc) (ftot es) ks ts g s z st = false) := by show _ = _; rw [pdB, hv]; rfl
    rw [hv] at cok
    clear hv
    go_enter Tryz.func7, Tryz.ntmps7
    go_wp2_with ((go_at_call 25; refine cok.mono ?_; rintro e w1 ⟨rfl, hb1⟩; have t1 := hb0.trans (hb1.mono hb0.size); obtain ⟨B1, y1, _, z1⟩ := keep_blk hb1 (g := w.heap.size) B0))
    go_ret
    exact ⟨ret_bool HV.out.symm, t1⟩
  | true =>
    rw [hv] at cok
    have HDV := Lib.hid hv
    clear hv
    by_cases hg1 : 1 ≤ g
    case neg =>
      have hn : g < 1 := by omega
      have HV : Hid (pdB r f n (es.map fc) (ftot es) ks ts g s z st = false) := by
        show _ = _
        rw [pdB, HDV.out]
        simp only [Bool.true_and]
        first | (rw [show decide (1 ≤ g ∧ g ≤ 1000000000) = false from decide_eq_false (by omega)]; rfl) | (rw [show decide (1 ≤ s ∧ s ≤ 1000000001) = false from decide_eq_false (by omega)]; simp) | (rw [show decide (0 ≤ z) = false from decide_eq_false (by omega)]; simp)
      go_enter Tryz.func7, Tryz.ntmps7
      go_wp2_with ((go_at_call 25; refine cok.mono ?_; rintro e w1 ⟨rfl, hb1⟩; have t1 := hb0.trans (hb1.mono hb0.size); obtain ⟨B1, y1, _, z1⟩ := keep_blk hb1 (g := w.heap.size) B0))
      go_ret
      exact ⟨ret_bool HV.out.symm, t1⟩
    by_cases hg2 : g ≤ 1000000000
    case neg =>
      have hn : 1000000000 < g := by omega
      have nhg1 : ¬ g < 1 := by omega
      have HV : Hid (pdB r f n (es.map fc) (ftot es) ks ts g s z st = false) := by
        show _ = _
        rw [pdB, HDV.out]
        simp only [Bool.true_and]
        first | (rw [show decide (1 ≤ g ∧ g ≤ 1000000000) = false from decide_eq_false (by omega)]; rfl) | (rw [show decide (1 ≤ s ∧ s ≤ 1000000001) = false from decide_eq_false (by omega)]; simp) | (rw [show decide (0 ≤ z) = false from decide_eq_false (by omega)]; simp)
      go_enter Tryz.func7, Tryz.ntmps7
      go_wp2_with ((go_at_call 25; refine cok.mono ?_; rintro e w1 ⟨rfl, hb1⟩; have t1 := hb0.trans (hb1.mono hb0.size); obtain ⟨B1, y1, _, z1⟩ := keep_blk hb1 (g := w.heap.size) B0))
      go_ret
      exact ⟨ret_bool HV.out.symm, t1⟩
    by_cases hs1 : 1 ≤ s
    case neg =>
      have hn : s < 1 := by omega
      have nhg1 : ¬ g < 1 := by omega
      have nhg2 : ¬ 1000000000 < g := by omega
      have HV : Hid (pdB r f n (es.map fc) (ftot es) ks ts g s z st = false) := by
        show _ = _
        rw [pdB, HDV.out]
        simp only [Bool.true_and]
        first | (rw [show decide (1 ≤ g ∧ g ≤ 1000000000) = false from decide_eq_false (by omega)]; rfl) | (rw [show decide (1 ≤ s ∧ s ≤ 1000000001) = false from decide_eq_false (by omega)]; simp) | (rw [show decide (0 ≤ z) = false from decide_eq_false (by omega)]; simp)
      go_enter Tryz.func7, Tryz.ntmps7
      go_wp2_with ((go_at_call 25; refine cok.mono ?_; rintro e w1 ⟨rfl, hb1⟩; have t1 := hb0.trans (hb1.mono hb0.size); obtain ⟨B1, y1, _, z1⟩ := keep_blk hb1 (g := w.heap.size) B0))
      go_ret
      exact ⟨ret_bool HV.out.symm, t1⟩
    by_cases hs2 : s ≤ 1000000001
    case neg =>
      have hn : 1000000001 < s := by omega
      have nhg1 : ¬ g < 1 := by omega
      have nhg2 : ¬ 1000000000 < g := by omega
      have nhs1 : ¬ s < 1 := by omega
      have HV : Hid (pdB r f n (es.map fc) (ftot es) ks ts g s z st = false) := by
        show _ = _
        rw [pdB, HDV.out]
        simp only [Bool.true_and]
        first | (rw [show decide (1 ≤ g ∧ g ≤ 1000000000) = false from decide_eq_false (by omega)]; rfl) | (rw [show decide (1 ≤ s ∧ s ≤ 1000000001) = false from decide_eq_false (by omega)]; simp) | (rw [show decide (0 ≤ z) = false from decide_eq_false (by omega)]; simp)
      go_enter Tryz.func7, Tryz.ntmps7
      go_wp2_with ((go_at_call 25; refine cok.mono ?_; rintro e w1 ⟨rfl, hb1⟩; have t1 := hb0.trans (hb1.mono hb0.size); obtain ⟨B1, y1, _, z1⟩ := keep_blk hb1 (g := w.heap.size) B0))
      go_ret
      exact ⟨ret_bool HV.out.symm, t1⟩
    by_cases hz : 0 ≤ z
    case neg =>
      have hn : z < 0 := by omega
      have nhg1 : ¬ g < 1 := by omega
      have nhg2 : ¬ 1000000000 < g := by omega
      have nhs1 : ¬ s < 1 := by omega
      have nhs2 : ¬ 1000000001 < s := by omega
      have HV : Hid (pdB r f n (es.map fc) (ftot es) ks ts g s z st = false) := by
        show _ = _
        rw [pdB, HDV.out]
        simp only [Bool.true_and]
        first | (rw [show decide (1 ≤ g ∧ g ≤ 1000000000) = false from decide_eq_false (by omega)]; rfl) | (rw [show decide (1 ≤ s ∧ s ≤ 1000000001) = false from decide_eq_false (by omega)]; simp) | (rw [show decide (0 ≤ z) = false from decide_eq_false (by omega)]; simp)
      go_enter Tryz.func7, Tryz.ntmps7
      go_wp2_with ((go_at_call 25; refine cok.mono ?_; rintro e w1 ⟨rfl, hb1⟩; have t1 := hb0.trans (hb1.mono hb0.size); obtain ⟨B1, y1, _, z1⟩ := keep_blk hb1 (g := w.heap.size) B0))
      go_ret
      exact ⟨ret_bool HV.out.symm, t1⟩
    have nhg1 : ¬ g < 1 := by omega
    have nhg2 : ¬ 1000000000 < g := by omega
    have nhs1 : ¬ s < 1 := by omega
    have nhs2 : ¬ 1000000001 < s := by omega
    have nhz : ¬ z < 0 := by omega
    have HP : Hid (pdB r f n (es.map fc) (ftot es) ks ts g s z st = (f == 0 || st || ((readV r f n (es.map fc) (ftot es) ks ts (bstr (nmL logS g))).isSome && decide ((((readV r f n (es.map fc) (ftot es) ks ts (bstr (nmL logS g))).getD []).length : Int) = z)))) := by
      show _ = _
      rw [pdB, HDV.out, decide_eq_true (⟨hg1, hg2⟩ : 1 ≤ g ∧ g ≤ 1000000000), decide_eq_true (⟨hs1, hs2⟩ : 1 ≤ s ∧ s ≤ 1000000001), decide_eq_true hz]
      simp only [Bool.true_and]
    by_cases hf0 : f = 0
    · have HV : Hid (pdB r f n (es.map fc) (ftot es) ks ts g s z st = true) := by show _ = _; rw [HP.out, hf0]; rfl
      have hfb : (f == 0) = true := by rw [hf0]; rfl
      clear hf0
      go_enter Tryz.func7, Tryz.ntmps7
      go_wp2_with ((go_at_call 25; refine cok.mono ?_; rintro e w1 ⟨rfl, hb1⟩; have t1 := hb0.trans (hb1.mono hb0.size); obtain ⟨B1, y1, _, z1⟩ := keep_blk hb1 (g := w.heap.size) B0))
      go_ret
      exact ⟨ret_bool HV.out.symm, t1⟩
    have hfb : (f == 0) = false := by rw [beq_eq_false_iff_ne]; exact hf0
    have HFB := Lib.hid hfb
    cases st with
    | true =>
      have HV : Hid (pdB r f n (es.map fc) (ftot es) ks ts g s z true = true) := by show _ = _; rw [HP.out]; simp
      go_enter Tryz.func7, Tryz.ntmps7
      go_wp2_with ((go_at_call 25; refine cok.mono ?_; rintro e w1 ⟨rfl, hb1⟩; have t1 := hb0.trans (hb1.mono hb0.size); obtain ⟨B1, y1, _, z1⟩ := keep_blk hb1 (g := w.heap.size) B0))
      go_ret
      exact ⟨ret_bool HV.out.symm, t1⟩
    | false =>
      have HV : Hid (pdB r f n (es.map fc) (ftot es) ks ts g s z false = ((readV r f n (es.map fc) (ftot es) ks ts (bstr (nmL logS g))).isSome && decide ((((readV r f n (es.map fc) (ftot es) ks ts (bstr (nmL logS g))).getD []).length : Int) = z))) := by show _ = _; rw [HP.out, HFB.out]; rfl
      obtain ⟨nm, hnm⟩ : ∃ nm, Hid (bstr (nmL logS g) = nm) := ⟨_, Lib.hid rfl⟩
      rw [hnm.out] at HV
      obtain ⟨R, hR⟩ : ∃ R, Hid (readV r f n (es.map fc) (ftot es) ks ts nm = R) := ⟨_, Lib.hid rfl⟩
      rw [hR.out] at HV
      rw [HV.out]
      obtain ⟨L, hLL⟩ : ∃ L, Hid (R.getD [] = L) := ⟨_, Lib.hid rfl⟩
      obtain ⟨ok, hok⟩ : ∃ ok, Hid (R.isSome = ok) := ⟨_, Lib.hid rfl⟩
      rw [hLL.out, hok.out]
      clear HP
      go_enter Tryz.func7, Tryz.ntmps7
      go_wp2_with ((go_at_call 25; refine cok.mono ?_; rintro e w1 ⟨rfl, hb1⟩; have t1 := hb0.trans (hb1.mono hb0.size); obtain ⟨B1, y1, _, z1⟩ := keep_blk hb1 (g := w.heap.size) B0))
      have f0 : Below w1.heap.size w1 w1.drew := (Below.refl _ _).drew
      have B1d : w1.drew.heap[w.heap.size]? = some (.cells (pdC r f n FA es.length c1 KA ks.length c2 TA ts.length c3 g s z false) 37 (0, 0)) := B1
      refine wp_region_held_drew (S := fun w' => w'.heap[w.heap.size]? = some (.cells (pdC r f n FA es.length c1 KA ks.length c2 TA ts.length c3 g s z false) 37 (0, 0))) (by kernel_rfl) (B1d) (fun _ => ?_)
      refine wpAnyH_take (i := 0) (v := .pointer (some ⟨w.heap.size, 0, none⟩)) rfl (by kernel_rfl) (by kernel_rfl) (by kernel_rfl) (fun _ _ _ h => h) (Or.inl ⟨by rfl, (by intro w' hS; skip; go_simp; try first | rfl | (simp [*, Addr.add_lit]; done))⟩) (B1d) ?_
      try simp only [Act.put, List.getElem_toArray, List.getElem_cons_zero, List.setIfInBounds_toArray, List.set_cons_zero, List.set_cons_succ]
      refine wpAnyH_take (i := 1) (v := dkV r f n FA es.length c1 KA ks.length c2 TA ts.length c3) rfl (by kernel_rfl) (by kernel_rfl) (by kernel_rfl) (fun _ _ _ h => h) (Or.inl ⟨by rfl, (by intro w' hS; have q := fun i => cell_of_row w' _ i _ _ (0, 0) hS; go_simp; try first | rfl | (simp [*, Addr.add_lit]; done))⟩) (B1d) ?_
      try simp only [Act.put, List.getElem_toArray, List.getElem_cons_succ, List.getElem_cons_zero, List.setIfInBounds_toArray, List.set_cons_zero, List.set_cons_succ]
      refine wpAnyH_take (i := 2) (v := .pointer (some ⟨w.heap.size, 6, none⟩)) rfl (by kernel_rfl) (by kernel_rfl) (by kernel_rfl) (fun _ _ _ h => h) (Or.inl ⟨by rfl, (by intro w' hS; skip; go_simp; try first | rfl | (simp [*, Addr.add_lit]; done))⟩) (B1d) ?_
      try simp only [Act.put, List.getElem_toArray, List.getElem_cons_succ, List.getElem_cons_zero, List.setIfInBounds_toArray, List.set_cons_zero, List.set_cons_succ]
      refine wpAnyH_take (i := 3) (v := .int .i64 g) rfl (by kernel_rfl) (by kernel_rfl) (by kernel_rfl) (fun _ _ _ h => h) (Or.inl ⟨by rfl, (by intro w' hS; have q := fun i => cell_of_row w' _ i _ _ (0, 0) hS; go_simp; try first | rfl | (simp [*, Addr.add_lit]; done))⟩) (B1d) ?_
      try simp only [Act.put, List.getElem_toArray, List.getElem_cons_succ, List.getElem_cons_zero, List.setIfInBounds_toArray, List.set_cons_zero, List.set_cons_succ]
      refine wpAnyH_ready (rs := [4]) (by kernel_rfl) (by simp) ?_
      refine AllReadyH.cons rfl (fun K hK => ?_) AllReadyH.nil
      go_simp
      refine (logName_spec g _ hgb).mono ?_
      rintro e w2 ⟨he, hb2⟩
      rw [hnm.out] at he
      subst he
      have B2 := (hb2.block w.heap.size (by simpa using z1)).trans B1d
      have b12 : Below w1.heap.size w1 w2 := f0.trans hb2
      have t2 := t1.trans (b12.mono t1.size)
      refine hK.out _ _ (B2) (fun _ => ?_)
      clear hK K
      try simp only [Act.put, List.getElem_toArray, List.getElem_cons_succ, List.getElem_cons_zero, List.setIfInBounds_toArray, List.set_cons_zero, List.set_cons_succ]
      refine wpAnyH_ready (rs := [5]) (by kernel_rfl) (by simp) ?_
      refine AllReadyH.cons rfl (fun K hK => ?_) AllReadyH.nil
      go_simp
      refine (diskRead_spec r f n FA es fs c1 KA ks c2 TA ts c3 nm w2 (hr.below t2) hd hg).mono ?_
      rintro e w3 ⟨hb3, A3, d3, he, ho3⟩
      rw [hR.out, hLL.out, hok.out] at he
      subst he
      have B3 := (hb3.block w.heap.size (Array.getElem?_eq_some_iff.1 B2).1).trans B2
      have t3 := t2.trans (hb3.mono t2.size)
      refine hK.out _ _ (B3) (fun _ => ?_)
      clear hK K
      try simp only [Act.put, List.getElem_toArray, List.getElem_cons_succ, List.getElem_cons_zero, List.setIfInBounds_toArray, List.set_cons_zero, List.set_cons_succ]
      refine wpAnyH_take (i := 6) (v := .tuple #[.slice A3 L.length d3, .bool ok]) rfl (by kernel_rfl) (by kernel_rfl) (by kernel_rfl) (fun _ _ _ h => h) (Or.inl ⟨by rfl, (by intro w' hS; skip; go_simp; try first | rfl | (simp [*, Addr.add_lit]; done))⟩) (B3) ?_
      try simp only [Act.put, List.getElem_toArray, List.getElem_cons_succ, List.getElem_cons_zero, List.setIfInBounds_toArray, List.set_cons_zero, List.set_cons_succ]
      refine wpAnyH_take (i := 7) (v := .slice A3 L.length d3) rfl (by kernel_rfl) (by kernel_rfl) (by kernel_rfl) (fun _ _ _ h => h) (Or.inl ⟨by rfl, (by intro w' hS; skip; go_simp; try first | rfl | (simp [*, Addr.add_lit]; done))⟩) (B3) ?_
      try simp only [Act.put, List.getElem_toArray, List.getElem_cons_succ, List.getElem_cons_zero, List.setIfInBounds_toArray, List.set_cons_zero, List.set_cons_succ]
      refine wpAnyH_take (i := 8) (v := .bool ok) rfl (by kernel_rfl) (by kernel_rfl) (by kernel_rfl) (fun _ _ _ h => h) (Or.inl ⟨by rfl, (by intro w' hS; skip; go_simp; try first | rfl | (simp [*, Addr.add_lit]; done))⟩) (B3) ?_
      try simp only [Act.put, List.getElem_toArray, List.getElem_cons_succ, List.getElem_cons_zero, List.setIfInBounds_toArray, List.set_cons_zero, List.set_cons_succ]
      refine wpAnyH_take (i := 9) (v := .slice A3 L.length d3) rfl (by kernel_rfl) (by kernel_rfl) (by kernel_rfl) (fun _ _ _ h => h) (Or.inl ⟨by rfl, (by intro w' hS; skip; go_simp; try first | rfl | (simp [*, Addr.add_lit]; done))⟩) (B3) ?_
      try simp only [Act.put, List.getElem_toArray, List.getElem_cons_succ, List.getElem_cons_zero, List.setIfInBounds_toArray, List.set_cons_zero, List.set_cons_succ]
      refine wpAnyH_take (i := 10) (v := .bool ok) rfl (by kernel_rfl) (by kernel_rfl) (by kernel_rfl) (fun _ _ _ h => h) (Or.inl ⟨by rfl, (by intro w' hS; skip; go_simp; try first | rfl | (simp [*, Addr.add_lit]; done))⟩) (B3) ?_
      try simp only [Act.put, List.getElem_toArray, List.getElem_cons_succ, List.getElem_cons_zero, List.setIfInBounds_toArray, List.set_cons_zero, List.set_cons_succ]
      refine wpAnyH_done (by kernel_rfl) ?_ _
      have y3 : ∀ i, w3.cell? ⟨w.heap.size, i, none⟩ = _ := fun i => cell_of_row w3 _ i _ _ (0, 0) B3
      clear f0 B1d B2 hb2 ho3 y1
      have HQ : Hid (decide ((L.length : Int) = z) = ((L.length : Int) == z)) := by show _ = _; rw [Bool.eq_iff_iff]; simp
      cases ok with
      | false =>
        go_wp2_with fail
        go_ret
        exact ⟨rfl, t3⟩
      | true =>
        go_wp2_with fail
        go_ret
        refine ⟨ret_bool ?_, t3⟩
        rw [HQ.out]
        rfl

set_option linter.unusedVariables false
set_option maxRecDepth 100000

set_option maxHeartbeats 4000000 in
theorem depotOk_impl (r f n : Int) (FA : Option Addr) (es fs : List Fl) (c1 : Nat) (KA : Option Addr) (ks : List Lk) (c2 : Nat) (TA : Option Addr) (ts : List Tn) (c3 : Nat) (g s z : Int) (st : Bool) (w : World) (hr : Dr w FA fs KA ks TA ts) (hd : Hid (fs.map fc = es.map fc)) (hg : Good es ks ts) (hgb : bd g) (ht : Tb w) :
    Calls Tryz.prog 9 #[pdV r f n FA es.length c1 KA ks.length c2 TA ts.length c3 g s z st] w fun e w' => e = .returned (.bool (pdB r f n (es.map fc) (ftot es) ks ts g s z st)) ∧ Below w.heap.size w w' := by
  have hb0 : Below w.heap.size w (w.alloc (.cells (pdC r f n FA es.length c1 KA ks.length c2 TA ts.length c3 g s z st) 37)) := by (repeat (first | exact Below.refl _ _ | (refine Below.alloc ?_ (by first | omega | (simp; done) | (simp; omega)) _) | (refine Below.drew ?_) | (refine below_drewN ?_ _) | (refine below_at1 ?_ (by first | omega | (simp; done) | (simp; omega))) | (refine Below.setCell ?_ (by first | omega | (simp; done) | (simp; omega)) _) | (refine Below.trans ?_ (Below.mono (by assumption) (by first | omega | (simp; done) | (simp; omega))))))
  have B0 : (w.alloc (.cells (pdC r f n FA es.length c1 KA ks.length c2 TA ts.length c3 g s z st) 37)).heap[w.heap.size]? = some (.cells (pdC r f n FA es.length c1 KA ks.length c2 TA ts.length c3 g s z st) 37 (0, 0)) := heap_alloc_new _ _
  have cok := okImpl_any r f n FA es fs c1 KA ks c2 TA ts c3 _ (hr.below hb0) hd hg
  cases hv : dkB r f n (es.map fc) (ftot es) ks ts with
  | false =>
    have HV : Hid (pdB r f n (es.map fc) (ftot es) ks ts g s z st = false) := by show _ = _; rw [pdB, hv]; rfl
    rw [hv] at cok
    clear hv
    have HG : Hid (genB g = genB g) := rfl
    have HW : Hid (decide (1 ≤ s ∧ s ≤ 1000000001) = decide (1 ≤ s ∧ s ≤ 1000000001)) := rfl
    go_enter Tryz.func9, Tryz.ntmps9
    go_wp2_with (first | (go_at_call 28; refine cok.mono ?_; rintro e w1 ⟨rfl, hb1⟩; have t1 := hb0.trans (hb1.mono hb0.size); obtain ⟨B1, y1, _, z1⟩ := keep_blk hb1 (g := w.heap.size) B0) | (go_at_call 29; refine (isGen_any _ _).mono ?_; rintro e w' ⟨he, rfl⟩; rw [HG.out] at he; subst he) | (go_at_call 30; refine (within_any _ _ _ _).mono ?_; rintro e w' ⟨he, rfl⟩; rw [HW.out] at he; subst he))
    go_ret
    exact ⟨ret_bool HV.out.symm, t1⟩
  | true =>
    rw [hv] at cok
    have HDV := Lib.hid hv
    clear hv
    by_cases hg1 : 1 ≤ g
    case neg =>
      have hn : g < 1 := by omega
      have HV : Hid (pdB r f n (es.map fc) (ftot es) ks ts g s z st = false) := by
        show _ = _
        rw [pdB, HDV.out]
        simp only [Bool.true_and]
        first | (rw [show decide (1 ≤ g ∧ g ≤ 1000000000) = false from decide_eq_false (by omega)]; rfl) | (rw [show decide (1 ≤ s ∧ s ≤ 1000000001) = false from decide_eq_false (by omega)]; simp) | (rw [show decide (0 ≤ z) = false from decide_eq_false (by omega)]; simp)
      have HG : Hid (genB g = false) := decide_eq_false (by omega)
      have HW : Hid (decide (1 ≤ s ∧ s ≤ 1000000001) = decide (1 ≤ s ∧ s ≤ 1000000001)) := rfl
      go_enter Tryz.func9, Tryz.ntmps9
      go_wp2_with (first | (go_at_call 28; refine cok.mono ?_; rintro e w1 ⟨rfl, hb1⟩; have t1 := hb0.trans (hb1.mono hb0.size); obtain ⟨B1, y1, _, z1⟩ := keep_blk hb1 (g := w.heap.size) B0) | (go_at_call 29; refine (isGen_any _ _).mono ?_; rintro e w' ⟨he, rfl⟩; rw [HG.out] at he; subst he) | (go_at_call 30; refine (within_any _ _ _ _).mono ?_; rintro e w' ⟨he, rfl⟩; rw [HW.out] at he; subst he))
      go_ret
      exact ⟨ret_bool HV.out.symm, t1⟩
    by_cases hg2 : g ≤ 1000000000
    case neg =>
      have hn : 1000000000 < g := by omega
      have nhg1 : ¬ g < 1 := by omega
      have HV : Hid (pdB r f n (es.map fc) (ftot es) ks ts g s z st = false) := by
        show _ = _
        rw [pdB, HDV.out]
        simp only [Bool.true_and]
        first | (rw [show decide (1 ≤ g ∧ g ≤ 1000000000) = false from decide_eq_false (by omega)]; rfl) | (rw [show decide (1 ≤ s ∧ s ≤ 1000000001) = false from decide_eq_false (by omega)]; simp) | (rw [show decide (0 ≤ z) = false from decide_eq_false (by omega)]; simp)
      have HG : Hid (genB g = false) := decide_eq_false (by omega)
      have HW : Hid (decide (1 ≤ s ∧ s ≤ 1000000001) = decide (1 ≤ s ∧ s ≤ 1000000001)) := rfl
      go_enter Tryz.func9, Tryz.ntmps9
      go_wp2_with (first | (go_at_call 28; refine cok.mono ?_; rintro e w1 ⟨rfl, hb1⟩; have t1 := hb0.trans (hb1.mono hb0.size); obtain ⟨B1, y1, _, z1⟩ := keep_blk hb1 (g := w.heap.size) B0) | (go_at_call 29; refine (isGen_any _ _).mono ?_; rintro e w' ⟨he, rfl⟩; rw [HG.out] at he; subst he) | (go_at_call 30; refine (within_any _ _ _ _).mono ?_; rintro e w' ⟨he, rfl⟩; rw [HW.out] at he; subst he))
      go_ret
      exact ⟨ret_bool HV.out.symm, t1⟩
    by_cases hs1 : 1 ≤ s
    case neg =>
      have hn : s < 1 := by omega
      have nhg1 : ¬ g < 1 := by omega
      have nhg2 : ¬ 1000000000 < g := by omega
      have HV : Hid (pdB r f n (es.map fc) (ftot es) ks ts g s z st = false) := by
        show _ = _
        rw [pdB, HDV.out]
        simp only [Bool.true_and]
        first | (rw [show decide (1 ≤ g ∧ g ≤ 1000000000) = false from decide_eq_false (by omega)]; rfl) | (rw [show decide (1 ≤ s ∧ s ≤ 1000000001) = false from decide_eq_false (by omega)]; simp) | (rw [show decide (0 ≤ z) = false from decide_eq_false (by omega)]; simp)
      have HG : Hid (genB g = true) := decide_eq_true ⟨hg1, hg2⟩
      have HW : Hid (decide (1 ≤ s ∧ s ≤ 1000000001) = false) := by exact decide_eq_false (by omega)
      go_enter Tryz.func9, Tryz.ntmps9
      go_wp2_with (first | (go_at_call 28; refine cok.mono ?_; rintro e w1 ⟨rfl, hb1⟩; have t1 := hb0.trans (hb1.mono hb0.size); obtain ⟨B1, y1, _, z1⟩ := keep_blk hb1 (g := w.heap.size) B0) | (go_at_call 29; refine (isGen_any _ _).mono ?_; rintro e w' ⟨he, rfl⟩; rw [HG.out] at he; subst he) | (go_at_call 30; refine (within_any _ _ _ _).mono ?_; rintro e w' ⟨he, rfl⟩; rw [HW.out] at he; subst he))
      go_ret
      exact ⟨ret_bool HV.out.symm, t1⟩
    by_cases hs2 : s ≤ 1000000001
    case neg =>
      have hn : 1000000001 < s := by omega
      have nhg1 : ¬ g < 1 := by omega
      have nhg2 : ¬ 1000000000 < g := by omega
      have nhs1 : ¬ s < 1 := by omega
      have HV : Hid (pdB r f n (es.map fc) (ftot es) ks ts g s z st = false) := by
        show _ = _
        rw [pdB, HDV.out]
        simp only [Bool.true_and]
        first | (rw [show decide (1 ≤ g ∧ g ≤ 1000000000) = false from decide_eq_false (by omega)]; rfl) | (rw [show decide (1 ≤ s ∧ s ≤ 1000000001) = false from decide_eq_false (by omega)]; simp) | (rw [show decide (0 ≤ z) = false from decide_eq_false (by omega)]; simp)
      have HG : Hid (genB g = true) := decide_eq_true ⟨hg1, hg2⟩
      have HW : Hid (decide (1 ≤ s ∧ s ≤ 1000000001) = false) := by exact decide_eq_false (by omega)
      go_enter Tryz.func9, Tryz.ntmps9
      go_wp2_with (first | (go_at_call 28; refine cok.mono ?_; rintro e w1 ⟨rfl, hb1⟩; have t1 := hb0.trans (hb1.mono hb0.size); obtain ⟨B1, y1, _, z1⟩ := keep_blk hb1 (g := w.heap.size) B0) | (go_at_call 29; refine (isGen_any _ _).mono ?_; rintro e w' ⟨he, rfl⟩; rw [HG.out] at he; subst he) | (go_at_call 30; refine (within_any _ _ _ _).mono ?_; rintro e w' ⟨he, rfl⟩; rw [HW.out] at he; subst he))
      go_ret
      exact ⟨ret_bool HV.out.symm, t1⟩
    by_cases hz : 0 ≤ z
    case neg =>
      have hn : z < 0 := by omega
      have nhg1 : ¬ g < 1 := by omega
      have nhg2 : ¬ 1000000000 < g := by omega
      have nhs1 : ¬ s < 1 := by omega
      have nhs2 : ¬ 1000000001 < s := by omega
      have HV : Hid (pdB r f n (es.map fc) (ftot es) ks ts g s z st = false) := by
        show _ = _
        rw [pdB, HDV.out]
        simp only [Bool.true_and]
        first | (rw [show decide (1 ≤ g ∧ g ≤ 1000000000) = false from decide_eq_false (by omega)]; rfl) | (rw [show decide (1 ≤ s ∧ s ≤ 1000000001) = false from decide_eq_false (by omega)]; simp) | (rw [show decide (0 ≤ z) = false from decide_eq_false (by omega)]; simp)
      have HG : Hid (genB g = true) := decide_eq_true ⟨hg1, hg2⟩
      have HW : Hid (decide (1 ≤ s ∧ s ≤ 1000000001) = true) := by exact decide_eq_true (by omega)
      go_enter Tryz.func9, Tryz.ntmps9
      go_wp2_with (first | (go_at_call 28; refine cok.mono ?_; rintro e w1 ⟨rfl, hb1⟩; have t1 := hb0.trans (hb1.mono hb0.size); obtain ⟨B1, y1, _, z1⟩ := keep_blk hb1 (g := w.heap.size) B0) | (go_at_call 29; refine (isGen_any _ _).mono ?_; rintro e w' ⟨he, rfl⟩; rw [HG.out] at he; subst he) | (go_at_call 30; refine (within_any _ _ _ _).mono ?_; rintro e w' ⟨he, rfl⟩; rw [HW.out] at he; subst he))
      go_ret
      exact ⟨ret_bool HV.out.symm, t1⟩
    have nhg1 : ¬ g < 1 := by omega
    have nhg2 : ¬ 1000000000 < g := by omega
    have nhs1 : ¬ s < 1 := by omega
    have nhs2 : ¬ 1000000001 < s := by omega
    have nhz : ¬ z < 0 := by omega
    have HG : Hid (genB g = true) := decide_eq_true ⟨hg1, hg2⟩
    have HW : Hid (decide (1 ≤ s ∧ s ≤ 1000000001) = true) := by exact decide_eq_true (by omega)
    have HP : Hid (pdB r f n (es.map fc) (ftot es) ks ts g s z st = (f == 0 || st || ((readV r f n (es.map fc) (ftot es) ks ts (bstr (nmL logS g))).isSome && decide ((((readV r f n (es.map fc) (ftot es) ks ts (bstr (nmL logS g))).getD []).length : Int) = z)))) := by
      show _ = _
      rw [pdB, HDV.out, decide_eq_true (⟨hg1, hg2⟩ : 1 ≤ g ∧ g ≤ 1000000000), decide_eq_true (⟨hs1, hs2⟩ : 1 ≤ s ∧ s ≤ 1000000001), decide_eq_true hz]
      simp only [Bool.true_and]
    by_cases hf0 : f = 0
    · have HV : Hid (pdB r f n (es.map fc) (ftot es) ks ts g s z st = true) := by show _ = _; rw [HP.out, hf0]; rfl
      have hfb : (f == 0) = true := by rw [hf0]; rfl
      clear hf0
      go_enter Tryz.func9, Tryz.ntmps9
      go_wp2_with (first | (go_at_call 28; refine cok.mono ?_; rintro e w1 ⟨rfl, hb1⟩; have t1 := hb0.trans (hb1.mono hb0.size); obtain ⟨B1, y1, _, z1⟩ := keep_blk hb1 (g := w.heap.size) B0) | (go_at_call 29; refine (isGen_any _ _).mono ?_; rintro e w' ⟨he, rfl⟩; rw [HG.out] at he; subst he) | (go_at_call 30; refine (within_any _ _ _ _).mono ?_; rintro e w' ⟨he, rfl⟩; rw [HW.out] at he; subst he))
      go_ret
      exact ⟨ret_bool HV.out.symm, t1⟩
    have hfb : (f == 0) = false := by rw [beq_eq_false_iff_ne]; exact hf0
    have HFB := Lib.hid hfb
    cases st with
    | true =>
      have HV : Hid (pdB r f n (es.map fc) (ftot es) ks ts g s z true = true) := by show _ = _; rw [HP.out]; simp
      go_enter Tryz.func9, Tryz.ntmps9
      go_wp2_with (first | (go_at_call 28; refine cok.mono ?_; rintro e w1 ⟨rfl, hb1⟩; have t1 := hb0.trans (hb1.mono hb0.size); obtain ⟨B1, y1, _, z1⟩ := keep_blk hb1 (g := w.heap.size) B0) | (go_at_call 29; refine (isGen_any _ _).mono ?_; rintro e w' ⟨he, rfl⟩; rw [HG.out] at he; subst he) | (go_at_call 30; refine (within_any _ _ _ _).mono ?_; rintro e w' ⟨he, rfl⟩; rw [HW.out] at he; subst he))
      go_ret
      exact ⟨ret_bool HV.out.symm, t1⟩
    | false =>
      have HV : Hid (pdB r f n (es.map fc) (ftot es) ks ts g s z false = ((readV r f n (es.map fc) (ftot es) ks ts (bstr (nmL logS g))).isSome && decide ((((readV r f n (es.map fc) (ftot es) ks ts (bstr (nmL logS g))).getD []).length : Int) = z))) := by show _ = _; rw [HP.out, HFB.out]; rfl
      obtain ⟨nm, hnm⟩ : ∃ nm, Hid (bstr (nmL logS g) = nm) := ⟨_, Lib.hid rfl⟩
      rw [hnm.out] at HV
      obtain ⟨R, hR⟩ : ∃ R, Hid (readV r f n (es.map fc) (ftot es) ks ts nm = R) := ⟨_, Lib.hid rfl⟩
      rw [hR.out] at HV
      rw [HV.out]
      obtain ⟨L, hLL⟩ : ∃ L, Hid (R.getD [] = L) := ⟨_, Lib.hid rfl⟩
      obtain ⟨ok, hok⟩ : ∃ ok, Hid (R.isSome = ok) := ⟨_, Lib.hid rfl⟩
      rw [hLL.out, hok.out]
      clear HP
      go_enter Tryz.func9, Tryz.ntmps9
      go_wp2_with (first | (go_at_call 28; refine cok.mono ?_; rintro e w1 ⟨rfl, hb1⟩; have t1 := hb0.trans (hb1.mono hb0.size); obtain ⟨B1, y1, _, z1⟩ := keep_blk hb1 (g := w.heap.size) B0) | (go_at_call 29; refine (isGen_any _ _).mono ?_; rintro e w' ⟨he, rfl⟩; rw [HG.out] at he; subst he) | (go_at_call 30; refine (within_any _ _ _ _).mono ?_; rintro e w' ⟨he, rfl⟩; rw [HW.out] at he; subst he))
      have f0 : Below w1.heap.size w1 w1.drew := (Below.refl _ _).drew
      have B1d : w1.drew.heap[w.heap.size]? = some (.cells (pdC r f n FA es.length c1 KA ks.length c2 TA ts.length c3 g s z false) 37 (0, 0)) := B1
      refine wp_region_held_drew (S := fun w' => w'.heap[w.heap.size]? = some (.cells (pdC r f n FA es.length c1 KA ks.length c2 TA ts.length c3 g s z false) 37 (0, 0))) (by kernel_rfl) (B1d) (fun _ => ?_)
      refine wpAnyH_take (i := 0) (v := .pointer (some ⟨w.heap.size, 0, none⟩)) rfl (by kernel_rfl) (by kernel_rfl) (by kernel_rfl) (fun _ _ _ h => h) (Or.inl ⟨by rfl, (by intro w' hS; skip; go_simp; try first | rfl | (simp [*, Addr.add_lit]; done))⟩) (B1d) ?_
      try simp only [Act.put, List.getElem_toArray, List.getElem_cons_zero, List.setIfInBounds_toArray, List.set_cons_zero, List.set_cons_succ]
      refine wpAnyH_take (i := 1) (v := dkV r f n FA es.length c1 KA ks.length c2 TA ts.length c3) rfl (by kernel_rfl) (by kernel_rfl) (by kernel_rfl) (fun _ _ _ h => h) (Or.inl ⟨by rfl, (by intro w' hS; have q := fun i => cell_of_row w' _ i _ _ (0, 0) hS; go_simp; try first | rfl | (simp [*, Addr.add_lit]; done))⟩) (B1d) ?_
      try simp only [Act.put, List.getElem_toArray, List.getElem_cons_succ, List.getElem_cons_zero, List.setIfInBounds_toArray, List.set_cons_zero, List.set_cons_succ]
      refine wpAnyH_take (i := 2) (v := .pointer (some ⟨w.heap.size, 6, none⟩)) rfl (by kernel_rfl) (by kernel_rfl) (by kernel_rfl) (fun _ _ _ h => h) (Or.inl ⟨by rfl, (by intro w' hS; skip; go_simp; try first | rfl | (simp [*, Addr.add_lit]; done))⟩) (B1d) ?_
      try simp only [Act.put, List.getElem_toArray, List.getElem_cons_succ, List.getElem_cons_zero, List.setIfInBounds_toArray, List.set_cons_zero, List.set_cons_succ]
      refine wpAnyH_take (i := 3) (v := .int .i64 g) rfl (by kernel_rfl) (by kernel_rfl) (by kernel_rfl) (fun _ _ _ h => h) (Or.inl ⟨by rfl, (by intro w' hS; have q := fun i => cell_of_row w' _ i _ _ (0, 0) hS; go_simp; try first | rfl | (simp [*, Addr.add_lit]; done))⟩) (B1d) ?_
      try simp only [Act.put, List.getElem_toArray, List.getElem_cons_succ, List.getElem_cons_zero, List.setIfInBounds_toArray, List.set_cons_zero, List.set_cons_succ]
      refine wpAnyH_ready (rs := [4]) (by kernel_rfl) (by simp) ?_
      refine AllReadyH.cons rfl (fun K hK => ?_) AllReadyH.nil
      go_simp
      refine (logName_impl g _ hgb (ht.below (t1.trans (f0.mono t1.size)) (Nat.le_refl _))).mono ?_
      rintro e w2 ⟨he, hb2⟩
      rw [hnm.out] at he
      subst he
      have B2 := (hb2.block w.heap.size (by simpa using z1)).trans B1d
      have b12 : Below w1.heap.size w1 w2 := f0.trans hb2
      have t2 := t1.trans (b12.mono t1.size)
      refine hK.out _ _ (B2) (fun _ => ?_)
      clear hK K
      try simp only [Act.put, List.getElem_toArray, List.getElem_cons_succ, List.getElem_cons_zero, List.setIfInBounds_toArray, List.set_cons_zero, List.set_cons_succ]
      refine wpAnyH_ready (rs := [5]) (by kernel_rfl) (by simp) ?_
      refine AllReadyH.cons rfl (fun K hK => ?_) AllReadyH.nil
      go_simp
      refine (diskRead_impl r f n FA es fs c1 KA ks c2 TA ts c3 nm w2 (hr.below t2) hd hg).mono ?_
      rintro e w3 ⟨hb3, A3, d3, he, ho3⟩
      rw [hR.out, hLL.out, hok.out] at he
      subst he
      have B3 := (hb3.block w.heap.size (Array.getElem?_eq_some_iff.1 B2).1).trans B2
      have t3 := t2.trans (hb3.mono t2.size)
      refine hK.out _ _ (B3) (fun _ => ?_)
      clear hK K
      try simp only [Act.put, List.getElem_toArray, List.getElem_cons_succ, List.getElem_cons_zero, List.setIfInBounds_toArray, List.set_cons_zero, List.set_cons_succ]
      refine wpAnyH_take (i := 6) (v := .tuple #[.slice A3 L.length d3, .bool ok]) rfl (by kernel_rfl) (by kernel_rfl) (by kernel_rfl) (fun _ _ _ h => h) (Or.inl ⟨by rfl, (by intro w' hS; skip; go_simp; try first | rfl | (simp [*, Addr.add_lit]; done))⟩) (B3) ?_
      try simp only [Act.put, List.getElem_toArray, List.getElem_cons_succ, List.getElem_cons_zero, List.setIfInBounds_toArray, List.set_cons_zero, List.set_cons_succ]
      refine wpAnyH_take (i := 7) (v := .slice A3 L.length d3) rfl (by kernel_rfl) (by kernel_rfl) (by kernel_rfl) (fun _ _ _ h => h) (Or.inl ⟨by rfl, (by intro w' hS; skip; go_simp; try first | rfl | (simp [*, Addr.add_lit]; done))⟩) (B3) ?_
      try simp only [Act.put, List.getElem_toArray, List.getElem_cons_succ, List.getElem_cons_zero, List.setIfInBounds_toArray, List.set_cons_zero, List.set_cons_succ]
      refine wpAnyH_take (i := 8) (v := .bool ok) rfl (by kernel_rfl) (by kernel_rfl) (by kernel_rfl) (fun _ _ _ h => h) (Or.inl ⟨by rfl, (by intro w' hS; skip; go_simp; try first | rfl | (simp [*, Addr.add_lit]; done))⟩) (B3) ?_
      try simp only [Act.put, List.getElem_toArray, List.getElem_cons_succ, List.getElem_cons_zero, List.setIfInBounds_toArray, List.set_cons_zero, List.set_cons_succ]
      refine wpAnyH_take (i := 9) (v := .slice A3 L.length d3) rfl (by kernel_rfl) (by kernel_rfl) (by kernel_rfl) (fun _ _ _ h => h) (Or.inl ⟨by rfl, (by intro w' hS; skip; go_simp; try first | rfl | (simp [*, Addr.add_lit]; done))⟩) (B3) ?_
      try simp only [Act.put, List.getElem_toArray, List.getElem_cons_succ, List.getElem_cons_zero, List.setIfInBounds_toArray, List.set_cons_zero, List.set_cons_succ]
      refine wpAnyH_take (i := 10) (v := .bool ok) rfl (by kernel_rfl) (by kernel_rfl) (by kernel_rfl) (fun _ _ _ h => h) (Or.inl ⟨by rfl, (by intro w' hS; skip; go_simp; try first | rfl | (simp [*, Addr.add_lit]; done))⟩) (B3) ?_
      try simp only [Act.put, List.getElem_toArray, List.getElem_cons_succ, List.getElem_cons_zero, List.setIfInBounds_toArray, List.set_cons_zero, List.set_cons_succ]
      refine wpAnyH_done (by kernel_rfl) ?_ _
      have y3 : ∀ i, w3.cell? ⟨w.heap.size, i, none⟩ = _ := fun i => cell_of_row w3 _ i _ _ (0, 0) B3
      clear f0 B1d B2 hb2 ho3 y1
      have HQ : Hid (decide ((L.length : Int) = z) = ((L.length : Int) == z)) := by show _ = _; rw [Bool.eq_iff_iff]; simp
      cases ok with
      | false =>
        go_wp2_with fail
        go_ret
        exact ⟨rfl, t3⟩
      | true =>
        go_wp2_with fail
        go_ret
        refine ⟨ret_bool ?_, t3⟩
        rw [HQ.out]
        rfl

set_option linter.unusedVariables false
set_option maxRecDepth 100000

theorem szDepot_any (r f n : Int) (FA : Option Addr) (fs : List Fl) (fc : Nat) (KA : Option Addr) (ks : List Lk) (kc : Nat) (TA : Option Addr) (ts : List Tn) (tc : Nat) (g s z : Int) (st : Bool) (w : World)
    (hF : Fs w FA fs) (hFl : fs.length ≤ maxLen) (hFm : ∀ e, e ∈ fs → e.2.1.2.2.length ≤ maxLen) (hK : Ks w KA ks) (hKl : ks.length ≤ maxLen) (hKm : ∀ e, e ∈ ks → e.1.size ≤ maxLen) (hT : Ts w TA ts) (hTl : ts.length ≤ maxLen) (hTm : ∀ e, e ∈ ts → e.2.1.size ≤ maxLen ∧ e.2.2.1.size ≤ maxLen) :
    Calls Tryz.prog 6 #[pdV r f n FA fs.length fc KA ks.length kc TA ts.length tc g s z st, .int .i64 1048576] w fun e w' => e = .returned (.int .i64 (szR 1048576 ((fs.length + ftot fs) + (ks.length + ktot ks) + (ts.length + ttot ts)))) ∧ Below w.heap.size w w' := by
  have hb0 : Below w.heap.size w (w.alloc (.cells (pdC r f n FA fs.length fc KA ks.length kc TA ts.length tc g s z st) 28)) := by (repeat (first | exact Below.refl _ _ | (refine Below.alloc ?_ (by first | omega | (simp; done) | (simp; omega)) _) | (refine Below.drew ?_) | (refine below_drewN ?_ _) | (refine below_at1 ?_ (by first | omega | (simp; done) | (simp; omega))) | (refine Below.setCell ?_ (by first | omega | (simp; done) | (simp; omega)) _) | (refine Below.trans ?_ (Below.mono (by assumption) (by first | omega | (simp; done) | (simp; omega))))))
  have cZ := szDisk_any r f n FA fs fc KA ks kc TA ts tc (w.alloc (.cells (pdC r f n FA fs.length fc KA ks.length kc TA ts.length tc g s z st) 28)) (hF.below hb0) hFl hFm (SlL.below hK hb0) hKl hKm (SlL.below hT hb0) hTl hTm
  by_cases h : (1048576 : Int) < (fs.length + ftot fs) + (ks.length + ktot ks) + (ts.length + ttot ts)
  · have HS := szR_no h
    rw [HS.out] at cZ ⊢
    go_enter Tryz.func6, Tryz.ntmps6
    go_wp2_with fail
    refine cZ.mono ?_
    rintro e w1 ⟨rfl, hb1⟩
    go_wp2_with fail
    go_ret
    exact ⟨rfl, hb0.trans (hb1.mono hb0.size)⟩
  · have HS := szR_yes h
    obtain ⟨L, hL⟩ : ∃ L : Int, Hid (1048576 - ((fs.length + ftot fs : Int) + (ks.length + ktot ks) + (ts.length + ttot ts)) = L) := ⟨_, Lib.hid rfl⟩
    have hL0 : ¬ L < 0 := by have := hL.out; omega
    rw [HS.out, hL.out] at cZ ⊢
    clear h
    go_enter Tryz.func6, Tryz.ntmps6
    go_wp2_with fail
    refine cZ.mono ?_
    rintro e w1 ⟨rfl, hb1⟩
    go_wp2_with fail
    go_ret
    exact ⟨rfl, hb0.trans (hb1.mono hb0.size)⟩
theorem toP_any (r f n : Int) (FA : Option Addr) (es : List Fl) (c1 : Nat) (KA : Option Addr) (ks : List Lk) (c2 : Nat) (TA : Option Addr) (ts : List Tn) (c3 : Nat) (g s z : Int) (st : Bool) (w : World) (hr : Dr w FA es KA ks TA ts) (hg : Good es ks ts) :
    Calls Tryz.prog 8 #[pdV r f n FA es.length c1 KA ks.length c2 TA ts.length c3 g s z st] w (ToPPost w r f n es ks ts g s z st) :=
  toDepot_any r f n FA es c1 KA ks c2 TA ts c3 g s z st w hr.1 hr.2.1 hr.2.2 hg.el (fun e he => by have := hg.ey e he; omega) hg.kl hg.tl
theorem ld_FnExactDepotOk {w : World} (h : laidMetH Tryz.prog Rows.fnExactDepotOkRow.laid w) : Tb w := by
  rw [MakeChecks.laidMetH_plain _ _ _ (by kernel_rfl)] at h
  exact tb_met h
set_option maxHeartbeats 8000000 in
theorem walk_FnExactDepotOk (vs0 : List Value) (w : World) (h0 : Rd Tryz.prog w 28 vs0) (ht : Tb w) :
    Calls Tryz.prog 3 #[.agg vs0.toArray] w fun e w' => e = .returned (.bool true) ∧ Below w.heap.size w w' := by
  obtain ⟨ds, g, s, z, st, rfl, hds, bg, bs, bz⟩ := rd_depot h0
  obtain ⟨r, f, n, FA, es, c1, KA, ks, c2, TA, ts, c3, rfl, ⟨br, bf, bn⟩, ⟨hF, hFl, hFm⟩, ⟨hK, hKl, hKm⟩, hT, hTl, hTm⟩ := rd_disk hds
  clear h0 hds
  show Calls Tryz.prog 3 #[pdV r f n FA es.length c1 KA ks.length c2 TA ts.length c3 g s z st] w _
  have hsz := fun w' (hb : Below w.heap.size w w') => szDepot_any r f n FA es c1 KA ks c2 TA ts c3 g s z st w' (hF.below hb) hFl (fun e he => (hFm e he).2.1) (SlL.below hK hb) hKl (fun e he => (hKm e he).1) (SlL.below hT hb) hTl (fun e he => ⟨(hTm e he).2.1, (hTm e he).2.2.1⟩)
  have hr : Dr w FA es KA ks TA ts := ⟨hF, hK, hT⟩
  have t0 : Below w.heap.size w (w.alloc (.cells (pdC r f n FA es.length c1 KA ks.length c2 TA ts.length c3 g s z st) 28)) := (Below.refl _ _).alloc (Nat.le_refl _) _
  by_cases hbig : (1048576 : Int) < (es.length + ftot es) + (ks.length + ktot ks) + (ts.length + ttot ts)
  · have HS1 := szR_no hbig
    go_enter Tryz.func3, Tryz.ntmps3
    go_wp2_with fail
    refine (hsz _ t0).mono ?_
    rintro e w1 ⟨he, hb1⟩
    rw [HS1.out] at he
    subst he
    go_wp2_with fail
    go_ret
    exact ⟨rfl, t0.trans (hb1.mono t0.size)⟩
  have HS1 := szR_yes hbig
  have hg := Good.of hbig fun e he => ⟨(hFm e he).1, (hFm e he).2.2⟩
  obtain ⟨L, hL⟩ : ∃ L : Int, Hid (1048576 - ((es.length + ftot es : Int) + (ks.length + ktot ks) + (ts.length + ttot ts)) = L) := ⟨_, Lib.hid rfl⟩
  have hL0 : ¬ L < 0 := by have := hL.out; omega
  clear hF hK hT hFm hKm hTm hbig br bf bn hFl hKl hTl bs bz
  obtain ⟨R, hR⟩ : ∃ R, Hid (pdB r f n (es.map fc) (ftot es) ks ts g s z st = R) := ⟨_, Lib.hid rfl⟩
  have hne : (R != R) = false := by cases R <;> rfl
  go_enter Tryz.func3, Tryz.ntmps3
  go_wp2_with fail
  refine (hsz _ t0).mono ?_
  rintro e w1 ⟨he, hb1⟩
  rw [HS1.out, hL.out] at he
  subst he
  have t1 := t0.trans (hb1.mono t0.size)
  have BP1 : w1.heap[w.heap.size]? = some (.cells (pdC r f n FA es.length c1 KA ks.length c2 TA ts.length c3 g s z st) 28 (0, 0)) := (hb1.block _ (by simp)).trans (heap_alloc_new _ _)
  have cP1 : ∀ i, w1.cell? ⟨w.heap.size, i, none⟩ = _ := fun i => cell_of_row w1 _ i _ _ (0, 0) BP1
  clear hsz
  go_wp2_with fail
  refine (toP_any r f n FA es c1 KA ks c2 TA ts c3 g s z st _ (hr.below t1) hg).mono ?_
  rintro e w2 ⟨FA2, d1, fs2, KA2, d2, TA2, d3, rfl, hd2, ho2, hb2⟩
  have t2 := t1.trans (hb2.mono t1.size)
  have cS := depotOk_spec r f n FA2 es fs2 d1 KA2 ks d2 TA2 ts d3 g s z st w2 ho2.rd hd2 hg bg
  rw [hR.out] at cS
  go_wp2_with fail
  refine cS.mono ?_
  rintro e w3 ⟨rfl, hb3⟩
  have t3 := t2.trans (hb3.mono t2.size)
  have b13 := hb2.trans (hb3.mono hb2.size)
  have z1 := (Array.getElem?_eq_some_iff.1 BP1).1
  have BP3 := (b13.block _ z1).trans BP1
  have cP3 : ∀ i, w3.cell? ⟨w.heap.size, i, none⟩ = _ := fun i => cell_of_row w3 _ i _ _ (0, 0) BP3
  clear cP1 ho2 cS
  go_wp2_with fail
  refine (toP_any r f n FA es c1 KA ks c2 TA ts c3 g s z st _ (hr.below t3) hg).mono ?_
  rintro e w4 ⟨FA4, e1, fs4, KA4, e2, TA4, e3, rfl, hd4, ho4, hb4⟩
  have t4 := t3.trans (hb4.mono t3.size)
  have z3 := (Array.getElem?_eq_some_iff.1 BP3).1
  have BP4 := (hb4.block _ z3).trans BP3
  have b4 : Below w4.heap.size w4 (w4.alloc (.cells (pdC r f n FA4 es.length e1 KA4 ks.length e2 TA4 ts.length e3 g s z st) 37)) := (Below.refl _ _).alloc (Nat.le_refl _) _
  have t4' := t4.trans (b4.mono t4.size)
  have cI := depotOk_impl r f n FA4 es fs4 e1 KA4 ks e2 TA4 ts e3 g s z st _ (Dr.below ho4.rd b4) hd4 hg bg (ht.below t4' (Nat.le_refl _))
  rw [hR.out] at cI
  clear cP3
  go_wp2_with fail
  refine cI.mono ?_
  rintro e w5 ⟨rfl, hb5⟩
  have b45 := b4.trans (hb5.mono b4.size)
  have t5 := t4.trans (b45.mono t4.size)
  have BP5 := (b45.block _ (Array.getElem?_eq_some_iff.1 BP4).1).trans BP4
  have BX5 : w5.heap[w4.heap.size]? = some (.cells (pdC r f n FA4 es.length e1 KA4 ks.length e2 TA4 ts.length e3 g s z st) 37 (0, 0)) := (hb5.block _ (by simp)).trans (heap_alloc_new _ _)
  have hX5 : Dr w5 FA4 fs4 KA4 ks TA4 ts := Dr.below ho4.rd b45
  clear cI
  go_wp2_with fail
  have f0 : Below w5.heap.size w5 w5.drew := (Below.refl _ _).drew
  refine wp_region_held_drew (S := fun w' => Below w5.heap.size w5 w') (by kernel_rfl) (f0) (fun _ => ?_)
  refine wpAnyH_take (i := 0) (v := pdV r f n FA4 es.length e1 KA4 ks.length e2 TA4 ts.length e3 g s z st) rfl (by kernel_rfl) (by kernel_rfl) (by kernel_rfl) (fun _ _ _ h => h) (Or.inl ⟨by rfl, (by intro w' hS; have q := fun i => cell_of_row w' _ i _ _ (0, 0) ((hS.block _ (Array.getElem?_eq_some_iff.1 BX5).1).trans BX5); go_simp; try first | rfl | (simp [*, Addr.add_lit]; done))⟩) (f0) ?_
  try simp only [Act.put, List.getElem_toArray, List.getElem_cons_zero, List.setIfInBounds_toArray, List.set_cons_zero, List.set_cons_succ]
  refine wpAnyH_take (i := 1) (v := pdV r f n FA es.length c1 KA ks.length c2 TA ts.length c3 g s z st) rfl (by kernel_rfl) (by kernel_rfl) (by kernel_rfl) (fun _ _ _ h => h) (Or.inl ⟨by rfl, (by intro w' hS; have q := fun i => cell_of_row w' _ i _ _ (0, 0) ((hS.block _ (Array.getElem?_eq_some_iff.1 BP5).1).trans BP5); go_simp; try first | rfl | (simp [*, Addr.add_lit]; done))⟩) (f0) ?_
  try simp only [Act.put, List.getElem_toArray, List.getElem_cons_succ, List.getElem_cons_zero, List.setIfInBounds_toArray, List.set_cons_zero, List.set_cons_succ]
  refine wpAnyH_ready (rs := [2]) (by kernel_rfl) (by simp) ?_
  refine AllReadyH.cons rfl (fun K hK => ?_) AllReadyH.nil
  go_simp
  refine (toP_any r f n FA es c1 KA ks c2 TA ts c3 g s z st _ (hr.below (t5.trans (f0.mono t5.size))) hg).mono ?_
  rintro e w7 ⟨FA7, h1, fs7, KA7, h2, TA7, h3, rfl, hd7, ho7, hb7⟩
  have b7 : Below w5.heap.size w5 w7 := f0.trans hb7
  refine hK.out _ _ (b7) (fun _ => ?_)
  clear hK K
  try simp only [Act.put, List.getElem_toArray, List.getElem_cons_succ, List.getElem_cons_zero, List.setIfInBounds_toArray, List.set_cons_zero, List.set_cons_succ]
  refine wpAnyH_ready (rs := [3]) (by kernel_rfl) (by simp) ?_
  refine AllReadyH.cons rfl (fun K hK => ?_) AllReadyH.nil
  go_simp
  refine (eqDepot_same r f n FA4 es.length e1 KA4 e2 TA4 e3 FA7 h1 KA7 h2 TA7 h3 fs4 fs7 ks ts g s z st _ (fc_len hd4.out) (Dr.below hX5 b7).1 ho7.rd.1 (Lib.hid (hd7.out.trans hd4.out.symm)) (by have := hg.el; omega) (fun e he => by have := (hg.copy hd4.out).ey e he; omega) (Dr.below hX5 b7).2.1 ho7.rd.2.1 (by have := hg.kl; omega) (Dr.below hX5 b7).2.2 ho7.rd.2.2 (by have := hg.tl; omega)).mono ?_
  rintro e w8 ⟨rfl, hb8⟩
  have b8 := b7.trans (hb8.mono b7.size)
  refine hK.out _ _ (b8) (fun _ => ?_)
  clear hK K
  try simp only [Act.put, List.getElem_toArray, List.getElem_cons_succ, List.getElem_cons_zero, List.setIfInBounds_toArray, List.set_cons_zero, List.set_cons_succ]
  refine wpAnyH_take (i := 4) (v := .bool false) rfl (by kernel_rfl) (by kernel_rfl) (by kernel_rfl) (fun _ _ _ h => h) (Or.inl ⟨by rfl, (by intro w' hS; skip; go_simp; try first | rfl | (simp [*, Addr.add_lit]; done))⟩) (b8) ?_
  try simp only [Act.put, List.getElem_toArray, List.getElem_cons_succ, List.getElem_cons_zero, List.setIfInBounds_toArray, List.set_cons_zero, List.set_cons_succ]
  refine wpAnyH_done (by kernel_rfl) ?_ _
  go_wp2_with fail
  go_ret
  exact ⟨rfl, t5.trans (b8.mono t5.size)⟩
end Go.Proofs.YtfkdifgmhfdbdaaGreatDoor
