/- The law of FrameRead. -/
import Derived.Test.YthnbfaekmolaoaaP19
namespace Go.Proofs.Ythnbfaekmolaoaa
open Go.RowKit
set_option linter.unusedVariables false
set_option maxRecDepth 100000

theorem frR_len (xs : List UInt8) (z : Int) : (frR xs z).2.1.length ≤ 60000 := by
  unfold frR frB3 frT
  (repeat' split) <;> simp <;> omega
theorem fr_len {xs : List UInt8} {z : Int} {n p k : Int} {us : List UInt8} (h : frR xs z = (n, us, p, k)) : us.length ≤ 60000 := by
  have := frR_len xs z
  rw [h] at this
  exact this
theorem fr_eq {r : FrOut} {n p k n' p' k' : Int} {us us' : List UInt8} (h : r = (n, us, p, k)) (h' : r = (n', us', p', k')) : n = n' ∧ us = us' ∧ p = p' ∧ k = k' := by
  rw [h] at h'
  simpa using h'
set_option maxHeartbeats 2000000 in
theorem walk_FnExactFrameRead (A : Option Addr) (n c : Nat) (z : Int) (w : World) (h : Rd Try.prog w 23 [.slice A n c]) (hz : (Lit.int .i64 z).wf = true) :
    Calls Try.prog 15 #[.slice A n c, .int .i64 z] w fun e w' => e = .returned (.bool true) ∧ Below w.heap.size w w' := by
  obtain ⟨xs, rfl, ha, hm⟩ := rd_bytes h
  unfold maxLen at hm
  clear h
  by_cases hbig : 1048576 < xs.length
  · have hbig' : (1048576 : Int) < xs.length := by omega
    go_enter Try.func15, Try.ntmps15
    go_wp2
    go_ret
    exact ⟨rfl, Below.refl _ _⟩
  · have hbig' : ¬ (1048576 : Int) < xs.length := by omega
    go_enter Try.func15, Try.ntmps15
    go_wp2_with fail
    refine (toByteS_any _ _ _ _ ha (by omega)).mono ?_
    rintro e w1 ⟨A1, c1, rfl, ho1, hb1⟩
    go_wp2_with fail
    refine (frameRead_spec _ _ _ _ _ ho1.by_ ho1.le_cap (by omega)).mono ?_
    rintro e w2 ⟨n2, A2, c2, u2, p2, k2, hu2, rfl, ho2, hb2⟩
    have z1 := hb1.size
    have z2 := hb2.size
    go_wp2_with fail
    have ha2 := (ha.below hb1).below hb2
    refine (toByteS_any _ _ _ _ ha2 (by omega)).mono ?_
    rintro e w3 ⟨A3, c3, rfl, ho3, hb3⟩
    go_wp2_with fail
    refine (frameRead_impl _ _ _ _ _ ho3.by_ ho3.le_cap (by omega)).mono ?_
    rintro e w4 ⟨n4, A4, c4, u4, p4, k4, hu4, rfl, ho4, hb4⟩
    have z3 := hb3.size
    have z4 := hb4.size
    have hlu := fr_len hu2.out
    obtain ⟨rfl, rfl, rfl, rfl⟩ := fr_eq hu2.out hu4.out
    have HU := hu2
    clear hu4
    go_wp2_with fail
    have hy2 := (ho2.by_.below hb3).below hb4
    refine (eqByteS_same _ _ _ _ u2 _ ho4.by_ hy2 (by omega)).mono ?_
    rintro e w4' ⟨rfl, m1, rfl⟩
    go_wp2_with fail
    have ha4 := (ha2.below hb3).below hb4
    refine (toByteS_any _ _ _ _ (ha4.drewN m1) (by omega)).mono ?_
    rintro e w5 ⟨A5, c5, rfl, ho5, hb5⟩
    go_wp2_with fail
    have ho3' := ((ho3.below hb4 (Nat.le_refl _)).drewN m1).below hb5 (Nat.le_refl _)
    refine (eqByteS_same _ _ _ _ xs _ ho3'.by_ ho5.by_ (by omega)).mono ?_
    rintro e w5' ⟨rfl, m2, rfl⟩
    go_wp2_with fail
    refine (markByteS_any _ _ _ _ 1 _ (ho3'.drewN m2) (by omega) (by omega) (by omega)).mono ?_
    rintro e w6 ⟨rfl, ho3'', hg6⟩
    have i3 := ho3.inB
    have i4 := ho4.inB
    have i2 := ho2.inB
    have z5 := hb5.size
    have z5' : w4.heap.size ≤ w5.heap.size := z5
    have z6 := hg6.size
    have z6' : w5.heap.size ≤ w6.heap.size := z6
    have hy4 := ((ho4.by_.drewN m1).below hb5)
    have hy4' := By.grown (hy4.drewN m2) hg6 i3 (fun ad h _ => .inr (by have := i4 ad h; omega))
    have hy2' := By.grown (((hy2.drewN m1).below hb5).drewN m2) hg6 i3 (fun ad h _ => .inl (by have := i2 ad h; omega))
    have ho4' := Ob.grown (((ho4.drewN m1).below hb5 (Nat.le_refl _)).drewN m2) hg6 i3 i4 (.inr (Nat.le_refl _))
    have ha6 := By.grown (((ha4.drewN m1).below hb5).drewN m2) hg6 i3 (fun ad h hn => .inl (by have := ha.lt_ ad h hn; omega))
    go_wp2_with fail
    refine (eqByteS_same _ _ _ _ u2 _ hy4' hy2' (by omega)).mono ?_
    rintro e w6' ⟨rfl, m3, rfl⟩
    go_wp2_with fail
    refine (markByteS_any _ _ _ _ 1 _ (ho4'.drewN m3) (by omega) (by omega) (by omega)).mono ?_
    rintro e w7 ⟨rfl, ho4'', hg7⟩
    have z7 := hg7.size
    have z7' : w6.heap.size ≤ w7.heap.size := z7
    have hm7 : By w7 A4 (markL 1 u2.length) := ho4''.by_
    have ha7 := By.grown (ha6.drewN m3) hg7 i4 (fun ad h hn => .inl (by have := ha.lt_ ad h hn; omega))
    have hy27 := By.grown (hy2'.drewN m3) hg7 i4 (fun ad h _ => .inl (by have := i2 ad h; omega))
    go_wp2_with fail
    refine (heldByteS_any _ _ _ 1 _ hm7 (by omega) (by omega) (by omega)).mono ?_
    rintro e w7' ⟨rfl, rfl⟩
    go_wp2_with fail
    refine (toByteS_any _ _ _ _ ha7 (by omega)).mono ?_
    rintro e w8 ⟨A8, c8, rfl, ho8, hb8⟩
    go_wp2_with fail
    refine (frameRead_impl _ _ _ _ _ ho8.by_ ho8.le_cap (by omega)).mono ?_
    rintro e w9 ⟨n9, A9, c9, u9, p9, k9, hu9, rfl, ho9, hb9⟩
    have z8 := hb8.size
    have z9 := hb9.size
    obtain ⟨rfl, rfl, rfl, rfl⟩ := fr_eq HU.out hu9.out
    go_wp2_with fail
    refine (eqByteS_same _ _ _ _ _ _ ho9.by_ ((hy27.below hb8).below hb9) (by omega)).mono ?_
    rintro e w9' ⟨rfl, m4, rfl⟩
    go_wp2_with fail
    refine (heldByteS_any _ _ _ 1 _ (((hm7.below hb8).below hb9).drewN m4) (by omega) (by omega) (by omega)).mono ?_
    rintro e w9'' ⟨rfl, rfl⟩
    go_wp2_with fail
    go_ret
    refine ⟨rfl, below_drewN ?_ _⟩
    have t1 : Below w.heap.size w w5 := hb1.trans ((hb2.mono z1).trans ((hb3.mono (by omega)).trans ((hb4.mono (by omega)).trans (Below.trans (below_drewN (Below.refl _ _) m1) (hb5.mono (by show _ ≤ w4.heap.size; omega))))))
    have t2 : Below w.heap.size w w6 := below_grown (below_drewN t1 m2) hg6 i3 (by omega) (by show _ ≤ w5.heap.size; omega)
    have t3 : Below w.heap.size w w7 := below_grown (below_drewN t2 m3) hg7 i4 (by omega) (by show _ ≤ w6.heap.size; omega)
    exact t3.trans ((hb8.mono (by omega)).trans (hb9.mono (by omega)))
end Go.Proofs.Ythnbfaekmolaoaa
