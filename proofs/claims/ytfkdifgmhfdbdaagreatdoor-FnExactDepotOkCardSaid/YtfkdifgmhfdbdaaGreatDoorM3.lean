/- A disk marked; files, links, turns and disks that hold their marks. -/
import Derived.Test.YtfkdifgmhfdbdaaGreatDoorM2
import Derived.Test.YtfkdifgmhfdbdaaGreatDoorQb
namespace Go.Proofs.YtfkdifgmhfdbdaaGreatDoor
open Go.RowKit
set_option linter.unusedVariables false
set_option maxRecDepth 100000

theorem Oe.kp {T : Type} {k : Nat} {enc : T → List Value} {e : TypeId} {w w' : World} {A : Option Addr} {xs : List T} {lo c a b l h : Nat} (ho : Oe e k enc w lo A c xs) (hk : Kp a b w w') (hi : InB l h A) (hd : h ≤ a ∨ b ≤ l) : Oe e k enc w' lo A c xs :=
  ho.keepB fun ad ha => by
    have h1 := hi ad ha
    have h2 := (ho.inB ad ha).2
    rcases hd with hd | hd
    · exact hk.1.block _ (by omega)
    · exact hk.2 _ (by omega) h2
theorem FsO.kp {w w' : World} {lo hi c a b : Nat} {A : Option Addr} {fs : List Fl} (h : FsO w lo hi A c fs) (hk : Kp a b w w') (hs : hi ≤ w.heap.size) (hd : hi ≤ a ∨ b ≤ lo) : FsO w' lo hi A c fs :=
  h.keep fun k h1 h2 => by
    rcases hd with hd | hd
    · exact hk.1.block _ (by omega)
    · exact hk.2 _ (by omega) (by omega)
/-- How far the marks of a disk reach. -/
def mEnd (k : Nat) (fs : List Fl) (kn tn : Nat) : Nat := k + 2 * fs.length + ftot fs + 2 * kn + 4 * tn
set_option maxHeartbeats 4000000 in
theorem markDisk_any (r f n : Int) (lo hi : Nat) (FA : Option Addr) (c1 : Nat) (fs : List Fl) (KA : Option Addr) (c2 : Nat) (ks : List Lk) (TA : Option Addr) (c3 : Nat) (ts : List Tn) (k : Nat) (w : World) (ho : DkO w lo hi FA c1 fs KA c2 ks TA c3 ts) (hh : hi ≤ w.heap.size) (hk : 1 ≤ k) (hk2 : mEnd k fs ks.length ts.length ≤ 10000000) :
    Calls Tryz.prog 17 #[dkV r f n FA fs.length c1 KA ks.length c2 TA ts.length c3, .int .i64 k] w fun e w' => e = .returned (.int .i64 (mEnd k fs ks.length ts.length : Nat)) ∧ DkO w' lo hi FA c1 (mkF k fs) KA c2 (mkK (k + 2 * fs.length + ftot fs) ks.length) TA c3 (mkT (k + 2 * fs.length + ftot fs + 2 * ks.length) ts.length) ∧ Kp lo hi w w' := by
  obtain ⟨m, m', h1, h2, h3, h4, h5, h6, h7⟩ := ho
  have hl := h1.le
  unfold mEnd at hk2 ⊢
  have hb0 : Below w.heap.size w (w.alloc (.cells (dkC r f n FA fs.length c1 KA ks.length c2 TA ts.length c3) 35)) := by (repeat (first | exact Below.refl _ _ | (refine Below.alloc ?_ (by first | omega | (simp; done) | (simp; omega)) _) | (refine Below.drew ?_) | (refine below_drewN ?_ _) | (refine below_at1 ?_ (by first | omega | (simp; done) | (simp; omega))) | (refine Below.setCell ?_ (by first | omega | (simp; done) | (simp; omega)) _) | (refine Below.trans ?_ (Below.mono (by assumption) (by first | omega | (simp; done) | (simp; omega))))))
  have k0 : Kp lo hi w (w.alloc (.cells (dkC r f n FA fs.length c1 KA ks.length c2 TA ts.length c3) 35)) := Kp.of_below hb0 (by omega)
  have B0 := heap_alloc_new w (.cells (dkC r f n FA fs.length c1 KA ks.length c2 TA ts.length c3) 35)
  have cF := markFileS_any lo m FA c1 fs k (w.alloc (.cells (dkC r f n FA fs.length c1 KA ks.length c2 TA ts.length c3) 35)) (h1.below hb0 (by omega)) (by simp; omega) hk (by omega)
  obtain ⟨k1, hk1⟩ : ∃ k1, Hid (k1 = k + 2 * fs.length + ftot fs) := ⟨_, Lib.hid rfl⟩
  rw [← hk1.out] at cF hk2 ⊢
  obtain ⟨k2, hk2'⟩ : ∃ k2, Hid (k2 = k1 + 2 * ks.length) := ⟨_, Lib.hid rfl⟩
  rw [← hk2'.out] at hk2 ⊢
  have h4a := h4.alloc (.cells (dkC r f n FA fs.length c1 KA ks.length c2 TA ts.length c3) 35)
  have h6a := h6.alloc (.cells (dkC r f n FA fs.length c1 KA ks.length c2 TA ts.length c3) 35)
  go_enter Tryz.func17, Tryz.ntmps17
  go_wp2_with fail
  refine cF.mono ?_
  rintro e w1 ⟨rfl, ho1, kp1⟩
  have z1 := kp1.1.size
  have z1' : w.heap.size + 1 ≤ w1.heap.size := by simpa using z1
  have B1 := (kp1.2 w.heap.size (by omega) (by simp)).trans B0
  have q4 : w1.cell? ⟨w.heap.size, 4, none⟩ = some (.slice KA ks.length c2) := cell_of_row w1 _ 4 _ _ (0, 0) B1
  have h4b := Oe.kp h4a kp1 h5 (.inr (Nat.le_refl _))
  have h6b := Oe.kp h6a kp1 h7 (.inr h2)
  have cK := markLinkS_any m m' KA c2 ks k1 w1 h4b h5 (by have := hk1.out; omega) (by have := hk2'.out; omega)
  rw [← hk2'.out] at cK
  go_wp2_with fail
  refine cK.mono ?_
  rintro e w2 ⟨rfl, ho2, kp2⟩
  have z2 := kp2.1.size
  have B2 := (kp2.2 w.heap.size (by omega) (by omega)).trans B1
  have q5 : w2.cell? ⟨w.heap.size, 5, none⟩ = some (.slice TA ts.length c3) := cell_of_row w2 _ 5 _ _ (0, 0) B2
  have h6c := Oe.kp h6b kp2 h7 (.inr (Nat.le_refl _))
  have ho1b := ho1.kp kp2 (by omega) (.inl (Nat.le_refl _))
  have cT := markTurnS_any m' hi TA c3 ts k2 w2 h6c h7 (by have := hk1.out; have := hk2'.out; omega) hk2
  go_wp2_with fail
  refine cT.mono ?_
  rintro e w3 ⟨rfl, ho3, kp3⟩
  go_wp2_with fail
  go_ret
  exact ⟨rfl, ⟨m, m', ho1b.kp kp3 (by omega) (.inl h2), h2, h3, Oe.kp ho2 kp3 h5 (.inl (Nat.le_refl _)), h5, ho3, h7⟩,
    k0.trans ((kp1.wide (Nat.le_refl _) (by omega)).trans ((kp2.wide (by omega) (by omega)).trans (kp3.wide (by omega) (Nat.le_refl _))))⟩
end Go.Proofs.YtfkdifgmhfdbdaaGreatDoor
