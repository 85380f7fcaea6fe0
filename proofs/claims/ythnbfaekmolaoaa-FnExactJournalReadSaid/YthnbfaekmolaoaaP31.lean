/- The law of JournalRead. -/
import Derived.Test.YthnbfaekmolaoaaP30
namespace Go.Proofs.Ythnbfaekmolaoaa
open Go.RowKit
set_option linter.unusedVariables false
set_option maxRecDepth 100000

theorem tot_mem {es : List Sl} {N : Nat} (h : tot es ≤ N) : ∀ e, e ∈ es → e.2.2.length ≤ N := by
  intro e he
  obtain ⟨k, hk, rfl⟩ := List.getElem_of_mem he
  have := tot_get hk
  omega
theorem heldLoadS_N (A : Option Addr) (c n : Nat) (es : List Sl) (k : Int) (w : World) (hn : es.length = n) (ha : Ls w A (marked k es)) (hk : 0 ≤ k) (hk2 : k + tot es ≤ 1099511627776) (hl : es.length ≤ 1099511627776) :
    Calls Try.prog 53 #[.slice A n c, .int .i64 k] w fun e w' => e = .returned (.int .i64 (k + tot es)) ∧ ∃ m, w.drewN m = w' := by
  subst hn
  exact heldLoadS_any _ _ _ _ _ ha hk hk2 hl
theorem jr_eq {r : List (List UInt8) × Int} {fs gs : List Sl} {q q' : Int} (h : r = (datas fs, q)) (h' : r = (datas gs, q')) : datas fs = datas gs ∧ q = q' := by
  rw [h] at h'
  simpa using h'
set_option maxHeartbeats 4000000 in
theorem walk_FnExactJournalRead (A : Option Addr) (n c : Nat) (seq : Int) (w : World) (h : Rd Try.prog w 23 [.slice A n c]) (hseq : (Lit.int .i64 seq).wf = true) :
    Calls Try.prog 16 #[.slice A n c, .int .i64 seq] w fun e w' => e = .returned (.bool true) ∧ Below w.heap.size w w' := by
  obtain ⟨xs, rfl, ha, hm⟩ := rd_bytes h
  obtain ⟨hs1, hs2⟩ := i64_bd hseq
  unfold maxLen at hm
  clear h
  by_cases hbig : 1048576 < xs.length
  · have hbig' : (1048576 : Int) < xs.length := by omega
    go_enter Try.func16, Try.ntmps16
    go_wp2
    go_ret
    exact ⟨rfl, Below.refl _ _⟩
  · have hbig' : ¬ (1048576 : Int) < xs.length := by omega
    go_enter Try.func16, Try.ntmps16
    go_wp2_with fail
    refine (toByteS_any _ _ _ _ ha (by omega)).mono ?_
    rintro e w1 ⟨A1, c1, rfl, ho1, hb1⟩
    have z1 := hb1.size
    go_wp2_with fail
    refine (journalRead_spec _ _ _ seq _ ho1.by_ ho1.le_cap (by omega) hs1 hs2).mono ?_
    rintro e w2 ⟨A2, c2, n2, f2, q2, hr2, hn2, hN2, ht2, rfl, hdj2, hw2, hb2⟩
    have z2 := hb2.size
    go_wp2_with fail
    have ha2 := (ha.below hb1).below hb2
    refine (toByteS_any _ _ _ _ ha2 (by omega)).mono ?_
    rintro e w3 ⟨A3, c3, rfl, ho3, hb3⟩
    have z3 := hb3.size
    go_wp2_with fail
    refine (journalRead_impl _ _ _ seq _ ho3.by_ ho3.le_cap (by omega) hs1 hs2).mono ?_
    rintro e w4 ⟨A4, c4, n4, f4, q4, hr4, hn4, hN4, ht4, rfl, hdj4, hw4, hb4⟩
    have z4 := hb4.size
    obtain ⟨hd, rfl⟩ := jr_eq hr2.out hr4.out
    obtain rfl : n4 = n2 := by rw [← hn2, ← hn4, datas_len hd]
    have HD : Hid (datas f2 = datas f4) := hd
    clear hd
    have i3 : InB w2.heap.size w3.heap.size A3 := ho3.inB
    go_wp2_with fail
    have hw24 := (hw2.below hb3 (Nat.le_refl _)).below hb4 (by omega)
    refine (eqLoadS_same _ _ _ _ _ f4 f2 _ hn4 hw4.ls hw24.ls HD (by omega) (tot_mem (by omega))).mono ?_
    rintro e w5 ⟨rfl, hb5⟩
    have z5 := hb5.size
    go_wp2_with fail
    have ha5 := ((ha2.below hb3).below hb4).below hb5
    refine (toByteS_any _ _ _ _ ha5 (by omega)).mono ?_
    rintro e w6 ⟨A6, c6, rfl, ho6, hb6⟩
    have z6 := hb6.size
    have hb46 : Below w4.heap.size w4 w6 := hb5.trans (hb6.mono z5)
    have hb36 : Below w3.heap.size w3 w6 := hb4.trans (hb46.mono z4)
    go_wp2_with fail
    have ho36 := ho3.below hb36 (Nat.le_refl _)
    refine (eqByteS_same _ _ _ _ xs _ ho36.by_ ho6.by_ (by omega)).mono ?_
    rintro e w6' ⟨rfl, m1, rfl⟩
    go_wp2_with fail
    refine (markByteS_any _ _ _ _ 1 _ (ho36.drewN m1) (by omega) (by omega) (by omega)).mono ?_
    rintro e w7 ⟨rfl, ho37, hg7⟩
    have hk7 : Kp w2.heap.size w3.heap.size (w6.drewN m1) w7 := Kp.of_grown hg7 i3 (by show _ ≤ w6.heap.size; omega)
    have z7 : w6.heap.size ≤ w7.heap.size := hk7.1.size
    have hw27 := ((hw24.below hb46 (by omega)).drewN m1).below hk7.1 (Nat.le_refl _)
    have hw47 := ((hw4.below hb46 (Nat.le_refl _)).drewN m1).kp hk7 (Nat.le_refl _) (by show _ ≤ w6.heap.size; omega)
    go_wp2_with fail
    refine (eqLoadS_same _ _ _ _ _ f4 f2 _ hn4 hw47.ls hw27.ls HD (by omega) (tot_mem (by omega))).mono ?_
    rintro e w8 ⟨rfl, hb8⟩
    have z8 := hb8.size
    go_wp2_with fail
    have hw48 := hw47.below hb8 (by omega)
    have hw28 := hw27.below hb8 (by omega)
    refine (markLoadS_N _ _ _ w3.heap.size w4.heap.size f4 f4 1 _ hn4.symm rfl hw48.1 hdj4 hw48.2.2 (by omega) (by omega) (by omega) (by omega)).mono ?_
    rintro e w9 ⟨rfl, hob9, hcs9, hk9⟩
    have z9 := hk9.1.size
    have hls9 : Ls w9 A4 (marked 1 f4) := ⟨by rw [marked_map]; exact hcs9, hob9.by_⟩
    have hw29 := hw28.below hk9.1 (by omega)
    go_wp2_with fail
    refine (heldLoadS_N _ _ _ f4 1 _ hn4 hls9 (by omega) (by omega) (by omega)).mono ?_
    rintro e w9' ⟨rfl, m2, rfl⟩
    have t3 : Below w.heap.size w w3 := hb1.trans ((hb2.trans (hb3.mono z2)).mono z1)
    have t6 : Below w.heap.size w w6 := t3.trans (hb36.mono t3.size)
    have t7 : Below w.heap.size w w7 := (below_drewN t6 m1).trans (hk7.1.mono (by omega))
    have t9 : Below w.heap.size w w9 := t7.trans ((hb8.mono (by omega)).trans (hk9.1.mono (by omega)))
    have ha9 := (ha.below t9).drewN m2
    go_wp2_with fail
    refine (toByteS_any _ _ _ _ ha9 (by omega)).mono ?_
    rintro e w10 ⟨A10, c10, rfl, ho10, hb10⟩
    have hb10' : Below w9.heap.size w9 w10 := Below.trans (below_drewN (Below.refl _ _) m2) hb10
    have z10 := hb10'.size
    go_wp2_with fail
    refine (journalRead_impl _ _ _ seq _ ho10.by_ ho10.le_cap (by omega) hs1 hs2).mono ?_
    rintro e w11 ⟨A11, c11, n11, f11, q11, hr11, hn11, hN11, ht11, rfl, hdj11, hw11, hb11⟩
    have z11 := hb11.size
    obtain ⟨hd, rfl⟩ := jr_eq hr2.out hr11.out
    obtain rfl : n11 = n4 := by rw [← hn2, ← hn11, datas_len hd]
    have HD11 : Hid (datas f2 = datas f11) := hd
    clear hd
    have hb911 : Below w9.heap.size w9 w11 := hb10'.trans (hb11.mono z10)
    go_wp2_with fail
    have hw211 := hw29.below hb911 (by omega)
    refine (eqLoadS_same _ _ _ _ _ f11 f2 _ hn11 hw11.ls hw211.ls HD11 (by omega) (tot_mem (by omega))).mono ?_
    rintro e w12 ⟨rfl, hb12⟩
    go_wp2_with fail
    refine (heldLoadS_N _ _ _ f4 1 _ hn4 ((hls9.below hb911).below hb12) (by omega) (by omega) (by omega)).mono ?_
    rintro e w12' ⟨rfl, m3, rfl⟩
    go_wp2_with fail
    go_ret
    exact ⟨rfl, below_drewN (t9.trans ((hb911.mono (by omega)).trans (hb12.mono (by omega)))) _⟩
end Go.Proofs.Ythnbfaekmolaoaa
