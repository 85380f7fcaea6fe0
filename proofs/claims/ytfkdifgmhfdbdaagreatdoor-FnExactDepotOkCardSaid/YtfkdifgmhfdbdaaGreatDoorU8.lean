/- A disk is valid: what is asked; its numbers, the reference. -/
import Derived.Test.YtfkdifgmhfdbdaaGreatDoorU7
import Derived.BigQuiet
namespace Go.Proofs.YtfkdifgmhfdbdaaGreatDoor
open Go.RowKit
set_option linter.unusedVariables false
set_option maxRecDepth 100000

/-- The numbers of a disk. -/
def numB (r f n : Int) (fl kl tl u : Nat) : Bool := decide ((0 ≤ r ∧ r ≤ 400000) ∧ (-1 ≤ f ∧ f ≤ 1000) ∧ (1 ≤ n ∧ n ≤ 1000000) ∧ fl ≤ 10 ∧ kl ≤ 10 ∧ tl ≤ 30 ∧ (u : Int) ≤ r)
/-- Its files: behind one of Id p. -/
def fB (n : Int) : Int → List (Int × List UInt8 × Int) → Bool
  | _, [] => true
  | p, x :: r => decide (1 ≤ x.1 ∧ x.1 < n ∧ p < x.1 ∧ 0 ≤ x.2.2 ∧ x.2.2 ≤ x.2.1.length) && fB n x.1 r
/-- Its links: behind one of name p. -/
def kB : ByteArray → List Lk → Bool
  | _, [] => true
  | p, x :: r => nmB x.1 && ltN p x.1 && kB x.1 r
/-- The turns, one after the other. -/
def runS : List Lk → List Tn → Bool
  | _, [] => true
  | d, t :: r => okS d t && runS (turnS d t) r
/-- The Ids are those of the files. -/
def idB (ids fids : List Int) : Bool := decide (ids.length = fids.length) && decide (ids.Nodup) && ids.all fun n => decide (n ∈ fids)
def dkB (r f n : Int) (fs : List (Int × List UInt8 × Int)) (u : Nat) (ks : List Lk) (ts : List Tn) : Bool :=
  numB r f n fs.length ks.length ts.length u && fB n 0 fs && kB ByteArray.empty ks && idB (idsOf ks ts) (fs.map fun x => x.1) && runS ks ts
set_option maxHeartbeats 4000000 in
theorem sd_num (r f n : Int) (FA : Option Addr) (es : List Fl) (c1 : Nat) (KA : Option Addr) (kl c2 : Nat) (TA : Option Addr) (tl c3 : Nat) (w : World) (ha : Fs w FA es) (hl : es.length ≤ 1048576) (ht : ftot es ≤ 1048576) (hkl : kl ≤ 1048576) (htl : tl ≤ 1048576) (hN : ¬ ((0 ≤ r ∧ r ≤ 400000) ∧ (-1 ≤ f ∧ f ≤ 1000) ∧ (1 ≤ n ∧ n ≤ 1000000) ∧ (es.length : Int) ≤ 10 ∧ (kl : Int) ≤ 10 ∧ (tl : Int) ≤ 30)) :
    Calls Tryz.prog 25 #[dkV r f n FA es.length c1 KA kl c2 TA tl c3] w fun e w' => e = .returned (.bool false) ∧ Below w.heap.size w w' := by
  have hb0 : Below w.heap.size w (w.alloc (.cells (dkC r f n FA es.length c1 KA kl c2 TA tl c3) 35)) := by (repeat (first | exact Below.refl _ _ | (refine Below.alloc ?_ (by first | omega | (simp; done) | (simp; omega)) _) | (refine Below.drew ?_) | (refine below_drewN ?_ _) | (refine below_at1 ?_ (by first | omega | (simp; done) | (simp; omega))) | (refine Below.setCell ?_ (by first | omega | (simp; done) | (simp; omega)) _) | (refine Below.trans ?_ (Below.mono (by assumption) (by first | omega | (simp; done) | (simp; omega))))))
  obtain ⟨w0, hw0⟩ : ∃ w0, Hid (w0 = w.alloc (.cells (dkC r f n FA es.length c1 KA kl c2 TA tl c3) 35)) := ⟨_, Lib.hid rfl⟩
  have hq : ∀ i, w0.cell? ⟨w.heap.size, i, none⟩ = (dkC r f n FA es.length c1 KA kl c2 TA tl c3)[i]? := fun i => by rw [hw0.out]; exact cell_of_row _ _ i _ _ (0, 0) (heap_alloc_new _ _)
  have q0 := hq 0
  have q1 := hq 1
  have q2 := hq 2
  have q3 := hq 3
  have q4 := hq 4
  have q5 := hq 5
  have z0 : w.heap.size < w0.heap.size := by rw [hw0.out]; simp
  rw [← hw0.out] at hb0
  clear hq
  by_cases cc0 : r < 0
  · clear hN
    go_enter Tryz.func25, Tryz.ntmps25
    go_wp2_with fail
    rw [← hw0.out]
    go_quiet (fail)
    go_wp2_with fail
    go_ret
    exact ⟨rfl, hb0.trans (below_drewN (Below.refl _ _) _)⟩
  by_cases cc1 : 400000 < r
  · clear hN
    go_enter Tryz.func25, Tryz.ntmps25
    go_wp2_with fail
    rw [← hw0.out]
    go_quiet (fail)
    go_wp2_with fail
    go_ret
    exact ⟨rfl, hb0.trans (below_drewN (Below.refl _ _) _)⟩
  by_cases cc2 : f < -1
  · clear hN
    go_enter Tryz.func25, Tryz.ntmps25
    go_wp2_with fail
    rw [← hw0.out]
    go_quiet (fail)
    go_wp2_with fail
    go_ret
    exact ⟨rfl, hb0.trans (below_drewN (Below.refl _ _) _)⟩
  by_cases cc3 : 1000 < f
  · clear hN
    go_enter Tryz.func25, Tryz.ntmps25
    go_wp2_with fail
    rw [← hw0.out]
    go_quiet (fail)
    go_wp2_with fail
    go_ret
    exact ⟨rfl, hb0.trans (below_drewN (Below.refl _ _) _)⟩
  by_cases cc4 : n < 1
  · clear hN
    go_enter Tryz.func25, Tryz.ntmps25
    go_wp2_with fail
    rw [← hw0.out]
    go_quiet (fail)
    go_wp2_with fail
    go_ret
    exact ⟨rfl, hb0.trans (below_drewN (Below.refl _ _) _)⟩
  by_cases cc5 : 1000000 < n
  · clear hN
    go_enter Tryz.func25, Tryz.ntmps25
    go_wp2_with fail
    rw [← hw0.out]
    go_quiet (fail)
    go_wp2_with fail
    go_ret
    exact ⟨rfl, hb0.trans (below_drewN (Below.refl _ _) _)⟩
  by_cases cc6 : (10 : Int) < es.length
  · clear hN
    go_enter Tryz.func25, Tryz.ntmps25
    go_wp2_with fail
    rw [← hw0.out]
    go_quiet (fail)
    go_wp2_with fail
    go_ret
    exact ⟨rfl, hb0.trans (below_drewN (Below.refl _ _) _)⟩
  by_cases cc7 : (10 : Int) < kl
  · clear hN
    go_enter Tryz.func25, Tryz.ntmps25
    go_wp2_with fail
    rw [← hw0.out]
    go_quiet (fail)
    go_wp2_with fail
    go_ret
    exact ⟨rfl, hb0.trans (below_drewN (Below.refl _ _) _)⟩
  by_cases cc8 : (30 : Int) < tl
  · clear hN
    go_enter Tryz.func25, Tryz.ntmps25
    go_wp2_with fail
    rw [← hw0.out]
    go_quiet (fail)
    go_wp2_with fail
    go_ret
    exact ⟨rfl, hb0.trans (below_drewN (Below.refl _ _) _)⟩
  exact absurd ⟨⟨by omega, by omega⟩, ⟨by omega, by omega⟩, ⟨by omega, by omega⟩, by omega, by omega, by omega⟩ hN
end Go.Proofs.YtfkdifgmhfdbdaaGreatDoor
