/- The directory of a disk: the law. -/
import Derived.Test.YtfkdifgmhfdbdaaGreatDoorJa
namespace Go.Proofs.YtfkdifgmhfdbdaaGreatDoor
open Go.RowKit
set_option linter.unusedVariables false
set_option maxRecDepth 100000

theorem dk_parts {r f n : Int} {fs : List (Int × List UInt8 × Int)} {u : Nat} {ks : List Lk} {ts : List Tn} (h : dkB r f n fs u ks ts = true) : fs.length ≤ 10 ∧ ks.length ≤ 10 ∧ ts.length ≤ 30 ∧ Srt ks ∧ runI ks ts = true := by
  rw [dk_eq, linkB] at h
  simp only [Bool.and_eq_true, decide_eq_true_eq] at h
  obtain ⟨⟨_, ⟨_, h1⟩, _⟩, ⟨⟨⟨h2, h3⟩, h4⟩, h5⟩, _⟩ := h
  exact ⟨by omega, by omega, by omega, kB_srt ks _ h4, h5⟩
/-- The directory of a disk that is valid; of another: nothing. -/
def dirV (r f n : Int) (fs : List (Int × List UInt8 × Int)) (u : Nat) (ks : List Lk) (ts : List Tn) : List Lk := if dkB r f n fs u ks ts = true then dirS ks ts else []
theorem dirV_len (r f n : Int) (fs : List (Int × List UInt8 × Int)) (u : Nat) (ks : List Lk) (ts : List Tn) : (dirV r f n fs u ks ts).length ≤ 40 := by
  unfold dirV
  split
  · rename_i h
    have := dk_parts h
    have := dirS_len ks ts
    omega
  · simp
theorem dkDir_any (r f n : Int) (FA : Option Addr) (fn c1 : Nat) (KA : Option Addr) (ks : List Lk) (c2 : Nat) (TA : Option Addr) (ts : List Tn) (c3 : Nat) (w : World) (hK : Ks w KA ks) (hT : Ts w TA ts) (hkl : ks.length ≤ 100) (htl : ts.length ≤ 100) (hs : Srt ks) (hr : runI ks ts = true) :
    Calls Tryz.prog 78 #[dkV r f n FA fn c1 KA ks.length c2 TA ts.length c3] w (LkPost w (dirS ks ts)) := by
  have hb0 : Below w.heap.size w (w.alloc (.cells (dkC r f n FA fn c1 KA ks.length c2 TA ts.length c3) 35)) := by (repeat (first | exact Below.refl _ _ | (refine Below.alloc ?_ (by first | omega | (simp; done) | (simp; omega)) _) | (refine Below.drew ?_) | (refine below_drewN ?_ _) | (refine below_at1 ?_ (by first | omega | (simp; done) | (simp; omega))) | (refine Below.setCell ?_ (by first | omega | (simp; done) | (simp; omega)) _) | (refine Below.trans ?_ (Below.mono (by assumption) (by first | omega | (simp; done) | (simp; omega))))))
  go_enter Tryz.func78, Tryz.ntmps78
  go_wp2_with (go_at_call 110; refine (dirOf_any _ _ ks _ _ ts _ (SlL.below hK hb0) (SlL.below hT hb0) hkl htl hs hr).mono ?_; rintro e w2 ⟨A2, d2, rfl, ho2, hb2⟩)
  go_ret
  exact ⟨A2, d2, rfl, ho2.mono hb0.size, hb0.trans (hb2.mono hb0.size)⟩
set_option maxHeartbeats 4000000 in
theorem diskDir_spec (r f n : Int) (FA : Option Addr) (es fs : List Fl) (c1 : Nat) (KA : Option Addr) (ks : List Lk) (c2 : Nat) (TA : Option Addr) (ts : List Tn) (c3 : Nat) (w : World) (hr : Dr w FA fs KA ks TA ts) (hd : Hid (fs.map fc = es.map fc)) (hg : Good es ks ts) :
    Calls Tryz.prog 36 #[dkV r f n FA es.length c1 KA ks.length c2 TA ts.length c3] w (LkPost w (dirV r f n (es.map fc) (ftot es) ks ts)) := by
  have hb0 : Below w.heap.size w (w.alloc (.cells (dkC r f n FA es.length c1 KA ks.length c2 TA ts.length c3) 35)) := by (repeat (first | exact Below.refl _ _ | (refine Below.alloc ?_ (by first | omega | (simp; done) | (simp; omega)) _) | (refine Below.drew ?_) | (refine below_drewN ?_ _) | (refine below_at1 ?_ (by first | omega | (simp; done) | (simp; omega))) | (refine Below.setCell ?_ (by first | omega | (simp; done) | (simp; omega)) _) | (refine Below.trans ?_ (Below.mono (by assumption) (by first | omega | (simp; done) | (simp; omega))))))
  have B0 := heap_alloc_new w (.cells (dkC r f n FA es.length c1 KA ks.length c2 TA ts.length c3) 35)
  have cok := okSpec_any r f n FA es fs c1 KA ks c2 TA ts c3 _ (hr.below hb0) hd hg
  cases hv : dkB r f n (es.map fc) (ftot es) ks ts with
  | false =>
    have HV : Hid (dirV r f n (es.map fc) (ftot es) ks ts = []) := by show _ = _; rw [dirV, hv]; rfl
    rw [hv] at cok
    clear hv
    go_enter Tryz.func36, Tryz.ntmps36
    go_wp2_with (go_at_call 25; refine cok.mono ?_; rintro e w1 ⟨rfl, hb1⟩)
    go_ret
    rw [HV.out]
    exact ⟨none, 0, rfl, ownsG_nil _ _ _ _, hb0.trans (hb1.mono hb0.size)⟩
  | true =>
    have HV : Hid (dirV r f n (es.map fc) (ftot es) ks ts = dirS ks ts) := by show _ = _; rw [dirV, hv]; rfl
    obtain ⟨g0, g1, g2, g3, g4⟩ := dk_parts hv
    rw [hv] at cok
    clear hv g0
    go_enter Tryz.func36, Tryz.ntmps36
    go_wp2_with fail
    refine cok.mono ?_
    rintro e w1 ⟨rfl, hb1⟩
    have t1 := hb0.trans (hb1.mono hb0.size)
    obtain ⟨B1, y, _, z1⟩ := keep_blk hb1 (g := w.heap.size) B0
    have q0 : w1.cell? ⟨w.heap.size, 0, none⟩ = some (.int .i64 r) := y 0; have q1 : w1.cell? ⟨w.heap.size, 1, none⟩ = some (.int .i64 f) := y 1; have q2 : w1.cell? ⟨w.heap.size, 2, none⟩ = some (.int .i64 n) := y 2; have q3 : w1.cell? ⟨w.heap.size, 3, none⟩ = some (.slice FA es.length c1) := y 3; have q4 : w1.cell? ⟨w.heap.size, 4, none⟩ = some (.slice KA ks.length c2) := y 4; have q5 : w1.cell? ⟨w.heap.size, 5, none⟩ = some (.slice TA ts.length c3) := y 5
    have hr1 := hr.below t1
    clear y B1 B0 cok
    go_wp2_with (go_at_call 72; refine ((l02Dir_any r f n FA es.length c1 KA ks c2 TA ts c3 ts.length _ hr1.2.1 hr1.2.2 (by omega) (by omega) (Nat.le_refl _)).mono ?_); rintro e w2 ⟨A2, d2, he, ho2, hb2⟩; rw [List.take_length] at he ho2; subst he)
    go_ret
    rw [HV.out]
    exact ⟨A2, d2, rfl, ho2.mono t1.size, t1.trans (hb2.mono t1.size)⟩
set_option maxHeartbeats 4000000 in
theorem diskDir_impl (r f n : Int) (FA : Option Addr) (es fs : List Fl) (c1 : Nat) (KA : Option Addr) (ks : List Lk) (c2 : Nat) (TA : Option Addr) (ts : List Tn) (c3 : Nat) (w : World) (hr : Dr w FA fs KA ks TA ts) (hd : Hid (fs.map fc = es.map fc)) (hg : Good es ks ts) :
    Calls Tryz.prog 42 #[dkV r f n FA es.length c1 KA ks.length c2 TA ts.length c3] w (LkPost w (dirV r f n (es.map fc) (ftot es) ks ts)) := by
  have hb0 : Below w.heap.size w (w.alloc (.cells (dkC r f n FA es.length c1 KA ks.length c2 TA ts.length c3) 35)) := by (repeat (first | exact Below.refl _ _ | (refine Below.alloc ?_ (by first | omega | (simp; done) | (simp; omega)) _) | (refine Below.drew ?_) | (refine below_drewN ?_ _) | (refine below_at1 ?_ (by first | omega | (simp; done) | (simp; omega))) | (refine Below.setCell ?_ (by first | omega | (simp; done) | (simp; omega)) _) | (refine Below.trans ?_ (Below.mono (by assumption) (by first | omega | (simp; done) | (simp; omega))))))
  have B0 := heap_alloc_new w (.cells (dkC r f n FA es.length c1 KA ks.length c2 TA ts.length c3) 35)
  have cok := okImpl_any r f n FA es fs c1 KA ks c2 TA ts c3 _ (hr.below hb0) hd hg
  cases hv : dkB r f n (es.map fc) (ftot es) ks ts with
  | false =>
    have HV : Hid (dirV r f n (es.map fc) (ftot es) ks ts = []) := by show _ = _; rw [dirV, hv]; rfl
    rw [hv] at cok
    clear hv
    go_enter Tryz.func42, Tryz.ntmps42
    go_wp2_with (go_at_call 28; refine cok.mono ?_; rintro e w1 ⟨rfl, hb1⟩)
    go_ret
    rw [HV.out]
    exact ⟨none, 0, rfl, ownsG_nil _ _ _ _, hb0.trans (hb1.mono hb0.size)⟩
  | true =>
    have HV : Hid (dirV r f n (es.map fc) (ftot es) ks ts = dirS ks ts) := by show _ = _; rw [dirV, hv]; rfl
    obtain ⟨g0, g1, g2, g3, g4⟩ := dk_parts hv
    rw [hv] at cok
    clear hv g0
    go_enter Tryz.func42, Tryz.ntmps42
    go_wp2_with fail
    refine cok.mono ?_
    rintro e w1 ⟨rfl, hb1⟩
    have t1 := hb0.trans (hb1.mono hb0.size)
    obtain ⟨B1, y, _, z1⟩ := keep_blk hb1 (g := w.heap.size) B0
    have q0 : w1.cell? ⟨w.heap.size, 0, none⟩ = some (.int .i64 r) := y 0; have q1 : w1.cell? ⟨w.heap.size, 1, none⟩ = some (.int .i64 f) := y 1; have q2 : w1.cell? ⟨w.heap.size, 2, none⟩ = some (.int .i64 n) := y 2; have q3 : w1.cell? ⟨w.heap.size, 3, none⟩ = some (.slice FA es.length c1) := y 3; have q4 : w1.cell? ⟨w.heap.size, 4, none⟩ = some (.slice KA ks.length c2) := y 4; have q5 : w1.cell? ⟨w.heap.size, 5, none⟩ = some (.slice TA ts.length c3) := y 5
    have hr1 := hr.below t1
    clear y B1 B0 cok
    go_wp2_with (go_at_call 78; refine (dkDir_any r f n FA es.length c1 KA ks c2 TA ts c3 _ hr1.2.1 hr1.2.2 (by omega) (by omega) g3 g4).mono ?_; rintro e w2 ⟨A2, d2, rfl, ho2, hb2⟩)
    go_ret
    rw [HV.out]
    exact ⟨A2, d2, rfl, ho2.mono t1.size, t1.trans (hb2.mono t1.size)⟩
end Go.Proofs.YtfkdifgmhfdbdaaGreatDoor
