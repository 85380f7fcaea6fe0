/- A disk is valid: the program's way. -/
import Derived.Test.YtfkdifgmhfdbdaaGreatDoorIb
namespace Go.Proofs.YtfkdifgmhfdbdaaGreatDoor
open Go.RowKit
set_option linter.unusedVariables false
set_option maxRecDepth 100000

set_option maxHeartbeats 8000000 in
theorem diskOk_impl (r f n : Int) (FA : Option Addr) (es : List Fl) (c1 : Nat) (KA : Option Addr) (ks : List Lk) (c2 : Nat) (TA : Option Addr) (ts : List Tn) (c3 : Nat) (w : World) (hF : Fs w FA es) (hl : es.length ≤ 1048576) (ht : ftot es ≤ 1048576) (hK : Ks w KA ks) (hkl : ks.length ≤ 1048576) (hkm : ∀ x, x ∈ ks → x.1.data.toList.length ≤ 549755813888) (hT : Ts w TA ts) (htl : ts.length ≤ 1048576) (htm : ∀ x, x ∈ ts → x.2.1.data.toList.length ≤ 549755813888 ∧ x.2.2.1.data.toList.length ≤ 549755813888) (hbd : ∀ e, e ∈ es → bd e.1 ∧ bd e.2.2) :
    Calls Tryz.prog 28 #[dkV r f n FA es.length c1 KA ks.length c2 TA ts.length c3] w fun e w' => e = .returned (.bool (dkB r f n (es.map fc) (ftot es) ks ts)) ∧ Below w.heap.size w w' := by
  have hb0 : Below w.heap.size w (w.alloc (.cells (dkC r f n FA es.length c1 KA ks.length c2 TA ts.length c3) 35)) := by (repeat (first | exact Below.refl _ _ | (refine Below.alloc ?_ (by first | omega | (simp; done) | (simp; omega)) _) | (refine Below.drew ?_) | (refine below_drewN ?_ _) | (refine below_at1 ?_ (by first | omega | (simp; done) | (simp; omega))) | (refine Below.setCell ?_ (by first | omega | (simp; done) | (simp; omega)) _) | (refine Below.trans ?_ (Below.mono (by assumption) (by first | omega | (simp; done) | (simp; omega))))))
  have hm : (es.map fc).map (fun x => x.1) = es.map fid := by rw [List.map_map]; rfl
  have HD : Hid (dkB r f n (es.map fc) (ftot es) ks ts = (decide (0 ≤ r ∧ r ≤ 400000) && decide (-1 ≤ f ∧ f ≤ 1000) && decide (1 ≤ n ∧ n ≤ 1000000) && (fB n 0 (es.map fc) && decide ((es.length : Int) ≤ 10) && decide ((ftot es : Int) ≤ r)) && linkB ks ts (es.map fid))) := by
    show _ = _
    rw [dk_eq, hm, List.length_map]
  have hff := fun w' (hb : Below w.heap.size w w') (h1 : 1 ≤ n) (h2 : n ≤ 1000000) => filesOk_any r f n FA es c1 KA ks c2 TA ts c3 w' (SlL.below hF.1 hb) hl ht h1 h2 hbd
  have hll := fun w' (hb : Below w.heap.size w w') => linksOk_any r f n FA es c1 KA ks c2 TA ts c3 w' (SlL.below hF.1 hb) hl (SlL.below hK hb) hkl hkm (SlL.below hT hb) htl htm
  clear hm hF hK hT hkm htm hbd
  cases h1 : decide (0 ≤ r ∧ r ≤ 400000) with
  | false =>
    have HZ : Hid (dkB r f n (es.map fc) (ftot es) ks ts = false) := by rw [HD.out, h1]; exact Lib.hid rfl
    have W1 := Lib.hid h1
    clear h1
    go_enter Tryz.func28, Tryz.ntmps28
    go_wp2_with (go_at_call_of 30 r; refine (within_any _ _ _ _).mono ?_; rintro e w' ⟨he, hw⟩; rw [W1.out] at he; subst he hw)
    go_ret
    exact ⟨ret_bool HZ.out.symm, hb0⟩
  | true =>
  have W1 := Lib.hid h1
  cases h2 : decide (-1 ≤ f ∧ f ≤ 1000) with
  | false =>
    have HZ : Hid (dkB r f n (es.map fc) (ftot es) ks ts = false) := by rw [HD.out, h1, h2]; exact Lib.hid rfl
    have W2 := Lib.hid h2
    clear h1 h2
    go_enter Tryz.func28, Tryz.ntmps28
    go_wp2_with (first | (go_at_call_of 30 r; refine (within_any _ _ _ _).mono ?_; rintro e w' ⟨he, hw⟩; rw [W1.out] at he; subst he hw) | (go_at_call_of 30 f; refine (within_any _ _ _ _).mono ?_; rintro e w' ⟨he, hw⟩; rw [W2.out] at he; subst he hw))
    go_ret
    exact ⟨ret_bool HZ.out.symm, hb0⟩
  | true =>
  have W2 := Lib.hid h2
  cases h3 : decide (1 ≤ n ∧ n ≤ 1000000) with
  | false =>
    have HZ : Hid (dkB r f n (es.map fc) (ftot es) ks ts = false) := by rw [HD.out, h1, h2, h3]; exact Lib.hid rfl
    have W3 := Lib.hid h3
    clear h1 h2 h3
    go_enter Tryz.func28, Tryz.ntmps28
    go_wp2_with (first | (go_at_call_of 30 r; refine (within_any _ _ _ _).mono ?_; rintro e w' ⟨he, hw⟩; rw [W1.out] at he; subst he hw) | (go_at_call_of 30 f; refine (within_any _ _ _ _).mono ?_; rintro e w' ⟨he, hw⟩; rw [W2.out] at he; subst he hw) | (go_at_call_of 30 n; refine (within_any _ _ _ _).mono ?_; rintro e w' ⟨he, hw⟩; rw [W3.out] at he; subst he hw))
    go_ret
    exact ⟨ret_bool HZ.out.symm, hb0⟩
  | true =>
  have W3 := Lib.hid h3
  obtain ⟨n1, n2⟩ := of_decide_eq_true h3
  have cf := hff _ hb0 n1 n2
  cases h4 : (fB n 0 (es.map fc) && decide ((es.length : Int) ≤ 10) && decide ((ftot es : Int) ≤ r)) with
  | false =>
    have HZ : Hid (dkB r f n (es.map fc) (ftot es) ks ts = false) := by rw [HD.out, h1, h2, h3, h4]; exact Lib.hid rfl
    rw [h4] at cf
    clear h1 h2 h3 h4 n1 n2 hff hll
    go_enter Tryz.func28, Tryz.ntmps28
    go_wp2_with (first | (go_at_call 64; refine cf.mono ?_; rintro e w1 ⟨rfl, hb1⟩) | (go_at_call_of 30 r; refine (within_any _ _ _ _).mono ?_; rintro e w' ⟨he, hw⟩; rw [W1.out] at he; subst he hw) | (go_at_call_of 30 f; refine (within_any _ _ _ _).mono ?_; rintro e w' ⟨he, hw⟩; rw [W2.out] at he; subst he hw) | (go_at_call_of 30 n; refine (within_any _ _ _ _).mono ?_; rintro e w' ⟨he, hw⟩; rw [W3.out] at he; subst he hw))
    go_ret
    exact ⟨ret_bool HZ.out.symm, hb0.trans (hb1.mono hb0.size)⟩
  | true =>
    have HZ : Hid (dkB r f n (es.map fc) (ftot es) ks ts = linkB ks ts (es.map fid)) := by rw [HD.out, h1, h2, h3, h4]; exact Lib.hid rfl
    rw [h4] at cf
    rw [HZ.out]
    clear h1 h2 h3 h4 n1 n2 hff
    go_enter Tryz.func28, Tryz.ntmps28
    go_wp2_with (first | (go_at_call 64; refine cf.mono ?_; rintro e w1 ⟨rfl, hb1⟩; have t1 := hb0.trans (hb1.mono hb0.size); obtain ⟨B1, y, _, z1⟩ := keep_blk hb1 (g := w.heap.size) (heap_alloc_new w _); have q0 : w1.cell? ⟨w.heap.size, 0, none⟩ = some (.int .i64 r) := y 0; have q1 : w1.cell? ⟨w.heap.size, 1, none⟩ = some (.int .i64 f) := y 1; have q2 : w1.cell? ⟨w.heap.size, 2, none⟩ = some (.int .i64 n) := y 2; have q3 : w1.cell? ⟨w.heap.size, 3, none⟩ = some (.slice FA es.length c1) := y 3; have q4 : w1.cell? ⟨w.heap.size, 4, none⟩ = some (.slice KA ks.length c2) := y 4; have q5 : w1.cell? ⟨w.heap.size, 5, none⟩ = some (.slice TA ts.length c3) := y 5; clear y B1) | (go_at_call 65; refine (hll _ t1).mono ?_; rintro e w2 ⟨rfl, hb2⟩) | (go_at_call_of 30 r; refine (within_any _ _ _ _).mono ?_; rintro e w' ⟨he, hw⟩; rw [W1.out] at he; subst he hw) | (go_at_call_of 30 f; refine (within_any _ _ _ _).mono ?_; rintro e w' ⟨he, hw⟩; rw [W2.out] at he; subst he hw) | (go_at_call_of 30 n; refine (within_any _ _ _ _).mono ?_; rintro e w' ⟨he, hw⟩; rw [W3.out] at he; subst he hw))
    go_ret
    exact ⟨rfl, t1.trans (hb2.mono t1.size)⟩
end Go.Proofs.YtfkdifgmhfdbdaaGreatDoor
