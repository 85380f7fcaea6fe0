/- A snapshot read: the program's way, whole. -/
import Derived.Test.YtbaojeiinjjlcaaDoorP22
import Derived.Deep.RegionHeld3
import Derived.Deep.DeepCutAuto
namespace Go.Proofs.YtbaojeiinjjlcaaDoor
open Go.RowKit
set_option linter.unusedVariables false
set_option maxRecDepth 100000

theorem Cs.four {w : World} {A : Option Addr} {a b c d : Value} (h : Cs w A [a, b, c, d]) : ∃ k o, A = some ⟨k, o, none⟩ ∧ w.cell? ⟨k, o, none⟩ = some a ∧ w.cell? ⟨k, o + 1, none⟩ = some b ∧ w.cell? ⟨k, o + 2, none⟩ = some c ∧ w.cell? ⟨k, o + 3, none⟩ = some d := by
  rcases h with h | ⟨k, o, rfl, h⟩
  · cases h
  · exact ⟨k, o, rfl, h 0 _ rfl, h 1 _ rfl, h 2 _ rfl, h 3 _ rfl⟩
theorem len4 {l : List (Int × Int)} (h : l.length = 4) : ∃ a b c d, l = [d, c, b, a] := by
  match l, h with
  | [d, c, b, a], _ => exact ⟨a, b, c, d, rfl⟩
set_option maxHeartbeats 2000000 in
theorem snapRead_impl (A : Option Addr) (c : Nat) (xs : List UInt8) (w : World) (ha : By w A xs) (hc : xs.length ≤ c) (h1 : xs.length ≤ 137438953472) :
    Calls Tryd.prog 14 #[.slice A xs.length c] w (SrPost w (srR xs)) := by
  have hcv : ∀ j, (convert 22 9 (.slice A xs.length c)).run Tryd.prog (w.drewN j) = .ok (.string (bstr xs)) (w.drewN j) := fun j => conv_by (ha.drewN j)
  have hcv0 := hcv 0
  simp only [World.drewN_zero] at hcv0
  by_cases hp : xs.take 4 = [83, 78, 65, 80]
  · have hpd : Hid (decide (xs.take 4 = [83, 78, 65, 80]) = true) := by show _ = _; simp [hp]
    have HP := Lib.hid hp
    clear hp
    go_enter Tryd.func14, Tryd.ntmps14
    go_wp2_with fail
    refine (snapHP _ _ rfl _).mono ?_
    rintro e w' ⟨he, rfl⟩
    rw [hpd.out] at he
    subst he
    go_wp2_with fail
    refine (getVars_any _ _ _ _ 4 _ ha hc (by omega) (by omega)).mono ?_
    rintro e w1 ⟨hb1, hcase⟩
    have z1 := hb1.size
    rcases hcase with ⟨l, A1, c1, A2, c2, hl, hr, rfl, hs1, hs2⟩ | ⟨l, hl, hr, rfl⟩
    · obtain ⟨p1, p2, p3, p4, rfl⟩ := len4 hl
      obtain ⟨⟨⟨⟨_, g1⟩, g2⟩, g3⟩, g4⟩ := hr.out
      simp only [lastEnd] at g1 g2 g3 g4
      obtain ⟨a, p, rfl, g1, n1, b1, o1, _, v1⟩ := gvAt_true g1
      obtain ⟨s, q, rfl, g2, n2, b2, o2, _, v2⟩ := gvAt_true g2
      obtain ⟨d, r, rfl, g3, n3, b3, o3, _, v3⟩ := gvAt_true g3
      obtain ⟨m, t, rfl, g4, n4, b4, o4, _, v4⟩ := gvAt_true g4
      simp only [List.map_cons, List.map_nil, List.reverse_cons, List.reverse_nil, List.nil_append, List.cons_append] at hs1 hs2
      obtain ⟨k1, j1, rfl, d1, d2, d3, d4⟩ := hs1.four
      obtain ⟨k2, j2, rfl, f1, f2, f3, f4⟩ := hs2.four
      have HY := Lib.hid (srR_yes HP.out g1 g2 g3 g4)
      clear hr hs1 hs2 hl g1 g2 g3 g4
      have o2' : p < q := by omega
      have o3' : q < r := by omega
      have o4' : r < t := by omega
      have hab := ha.below hb1
      have hwr : IntKind.i64.wrap ((xs.length : Int) - (t : Int)) = (xs.length : Int) - (t : Int) := by rw [IntKind.wrap_i64]; omega
      by_cases hn : 1 ≤ a ∧ a ≤ 1000000000
      · have q1 : Hid (decide (1 ≤ (a : Int) ∧ (a : Int) ≤ 1000000000) = true) := by show _ = _; simp; omega
        by_cases hn2 : 1 ≤ s ∧ s ≤ 1000000000
        · have q2 : Hid (decide (1 ≤ (s : Int) ∧ (s : Int) ≤ 1000000000) = true) := by show _ = _; simp; omega
          by_cases hn3 : d + t = xs.length
          · have q3 : ((d : Int) != (xs.length : Int) - t) = false := by simp; omega
            by_cases hn4 : 150000 < d
            · have q4 : (150000 : Int) < d := by omega
              have HR := Lib.hid ((HY.out).trans (srT_3 (.inr (.inr (.inr hn4)))))
              clear HY hn3
              go_wp2_with fail
              go_quiet (first | (go_at_call 26; refine Calls.quiet_of_same (v := .bool true) ((isGen_anyP _ _).mono ?_); rintro e w' ⟨he, hw⟩; exact ⟨he.trans (congrArg Ending.returned (congrArg Value.bool q1.out)), hw.symm⟩) | (go_at_call 26; refine Calls.quiet_of_same (v := .bool false) ((isGen_anyP _ _).mono ?_); rintro e w' ⟨he, hw⟩; exact ⟨he.trans (congrArg Ending.returned (congrArg Value.bool q1.out)), hw.symm⟩) | (go_at_call 27; refine Calls.quiet_of_same (v := .bool true) ((isSeq_any _ _).mono ?_); rintro e w' ⟨he, hw⟩; exact ⟨he.trans (congrArg Ending.returned (congrArg Value.bool q2.out)), hw.symm⟩) | (go_at_call 27; refine Calls.quiet_of_same (v := .bool false) ((isSeq_any _ _).mono ?_); rintro e w' ⟨he, hw⟩; exact ⟨he.trans (congrArg Ending.returned (congrArg Value.bool q2.out)), hw.symm⟩))
              go_wp2_with fail
              ((try simp only [Exit.inBlock, Exit.then]); refine bodyPost_ret (results_tmp4 rfl _ _ _) rfl ?_)
              exact sr_no HR (below_drewN hb1 _)
            · have q4 : ¬ (150000 : Int) < d := by omega
              have h4 : ¬ (¬ (1 ≤ a ∧ a ≤ 1000000000) ∨ ¬ (1 ≤ s ∧ s ≤ 1000000000) ∨ d + t ≠ xs.length ∨ 150000 < d) := by omega
              obtain ⟨A5, c5, u5, hu5, hc5, hby5, hrun5⟩ := slice_l_run A c t xs .i64 (by omega) hc
              obtain ⟨A6, c6, u6, hu6, hc6, hby6, hrun6⟩ := slice_h_run A c r xs .i64 (by omega) hc
              have L5 : Hid (u5.length = d) := by show _ = _; rw [hu5.out]; simp; omega
              have l5 : u5.length ≤ xs.length := by rw [hu5.out]; simp
              have l6 : u6.length ≤ xs.length := by rw [hu6.out]; simp; omega
              clear hn3
              go_wp2_with fail
              go_quiet (first | (go_at_call 26; refine Calls.quiet_of_same (v := .bool true) ((isGen_anyP _ _).mono ?_); rintro e w' ⟨he, hw⟩; exact ⟨he.trans (congrArg Ending.returned (congrArg Value.bool q1.out)), hw.symm⟩) | (go_at_call 26; refine Calls.quiet_of_same (v := .bool false) ((isGen_anyP _ _).mono ?_); rintro e w' ⟨he, hw⟩; exact ⟨he.trans (congrArg Ending.returned (congrArg Value.bool q1.out)), hw.symm⟩) | (go_at_call 27; refine Calls.quiet_of_same (v := .bool true) ((isSeq_any _ _).mono ?_); rintro e w' ⟨he, hw⟩; exact ⟨he.trans (congrArg Ending.returned (congrArg Value.bool q2.out)), hw.symm⟩) | (go_at_call 27; refine Calls.quiet_of_same (v := .bool false) ((isSeq_any _ _).mono ?_); rintro e w' ⟨he, hw⟩; exact ⟨he.trans (congrArg Ending.returned (congrArg Value.bool q2.out)), hw.symm⟩))
              go_wp2_with fail
              refine (clone_any _ _ _ _ (By.drewN (hby5 w1 hab) _) (by omega)).mono ?_
              rintro e w2 ⟨A7, c7, rfl, ho7, hb7⟩
              have z2 := hb7.size
              have f3' := (hb7.cell (p := ⟨k2, j2 + 2, none⟩) (World.block_lt_of_cell? w1 _ f3)).trans f3
              have d4' := (hb7.cell (p := ⟨k1, j1 + 3, none⟩) (World.block_lt_of_cell? w1 _ d4)).trans d4
              have d1' := (hb7.cell (p := ⟨k1, j1, none⟩) (World.block_lt_of_cell? w1 _ d1)).trans d1
              have d2' := (hb7.cell (p := ⟨k1, j1 + 1, none⟩) (World.block_lt_of_cell? w1 _ d2)).trans d2
              have hab2 := (hab.drewN _).below hb7
              have hy6 := hby6 w2 hab2
              clear d1 d2 d3 d4 f1 f2 f3 f4
              by_cases h6 : crcN (u6 ++ u5) = m
              · have hq : (((crcN (u6 ++ u5) : Nat) : Int) != (m : Int)) = false := by simp [h6]
                go_wp2_with fail
                go_region_held3 (fun w' => Below w2.heap.size w2 w' ∧ w'.cell? ⟨k2, j2 + 2, none⟩ = some (I r) ∧ w'.cell? ⟨k1, j1 + 3, none⟩ = some (I m))
                  (first | exact ⟨Below.drew (Below.refl _ _), by simpa using f3', by simpa using d4'⟩ | assumption | (refine ⟨?_, ?_, ?_⟩ <;> assumption))
                  ((go_at_call 28; refine (sumOf_any _ _ _ _ _ _ _ (By.below hy6 (Below.drew (Below.refl _ _))) (By.below ho7.by_ (Below.drew (Below.refl _ _))) (by omega) (by omega)).mono ?_; rintro e w3 ⟨rfl, hb3⟩; have hbw3 : Below w2.heap.size w2 w3 := (Below.drew (Below.refl w2.heap.size w2)).trans hb3; have hkeep := And.intro hbw3 (And.intro ((hbw3.cell (World.block_lt_of_cell? w2 _ f3')).trans f3') ((hbw3.cell (World.block_lt_of_cell? w2 _ d4')).trans d4'))))
                have d1'' := (hbw3.cell (World.block_lt_of_cell? w2 _ d1')).trans d1'
                have d2'' := (hbw3.cell (World.block_lt_of_cell? w2 _ d2')).trans d2'
                clear hkeep
                go_wp2_with fail
                go_quiet (fail)
                go_wp2_with fail
                have HR := Lib.hid ((HY.out).trans (srT_0 h4 (by rw [← hu6.out, ← hu5.out]; exact h6)))
                ((try simp only [Exit.inBlock, Exit.then]); refine bodyPost_ret (results_tmp4 rfl _ _ _) rfl ?_)
                exact ⟨a, s, A7, c7, u5, _, Lib.hid (by rw [HR.out, hu5.out]), rfl, Ob.drewN ((ho7.below hbw3 (Nat.le_refl _)).mono z1) _, below_drewN ((below_drewN hb1 _).trans ((hb7.mono z1).trans (hbw3.mono (Nat.le_trans z1 z2)))) _⟩
              · have hq : (((crcN (u6 ++ u5) : Nat) : Int) != (m : Int)) = true := by simp; omega
                go_wp2_with fail
                go_region_held3 (fun w' => Below w2.heap.size w2 w' ∧ w'.cell? ⟨k2, j2 + 2, none⟩ = some (I r) ∧ w'.cell? ⟨k1, j1 + 3, none⟩ = some (I m))
                  (first | exact ⟨Below.drew (Below.refl _ _), by simpa using f3', by simpa using d4'⟩ | assumption | (refine ⟨?_, ?_, ?_⟩ <;> assumption))
                  ((go_at_call 28; refine (sumOf_any _ _ _ _ _ _ _ (By.below hy6 (Below.drew (Below.refl _ _))) (By.below ho7.by_ (Below.drew (Below.refl _ _))) (by omega) (by omega)).mono ?_; rintro e w3 ⟨rfl, hb3⟩; have hbw3 : Below w2.heap.size w2 w3 := (Below.drew (Below.refl w2.heap.size w2)).trans hb3; have hkeep := And.intro hbw3 (And.intro ((hbw3.cell (World.block_lt_of_cell? w2 _ f3')).trans f3') ((hbw3.cell (World.block_lt_of_cell? w2 _ d4')).trans d4'))))
                clear hkeep
                go_wp2_with fail
                have HR := Lib.hid ((HY.out).trans (srT_4 h4 (by rw [← hu6.out, ← hu5.out]; exact h6)))
                ((try simp only [Exit.inBlock, Exit.then]); refine bodyPost_ret (results_tmp4 rfl _ _ _) rfl ?_)
                exact sr_no HR ((below_drewN hb1 _).trans ((hb7.mono z1).trans (hbw3.mono (Nat.le_trans z1 z2))))
          · have q3 : ((d : Int) != (xs.length : Int) - t) = true := by simp; omega
            have HR := Lib.hid ((HY.out).trans (srT_3 (.inr (.inr (.inl hn3)))))
            clear HY hn3
            go_wp2_with fail
            go_quiet (first | (go_at_call 26; refine Calls.quiet_of_same (v := .bool true) ((isGen_anyP _ _).mono ?_); rintro e w' ⟨he, hw⟩; exact ⟨he.trans (congrArg Ending.returned (congrArg Value.bool q1.out)), hw.symm⟩) | (go_at_call 26; refine Calls.quiet_of_same (v := .bool false) ((isGen_anyP _ _).mono ?_); rintro e w' ⟨he, hw⟩; exact ⟨he.trans (congrArg Ending.returned (congrArg Value.bool q1.out)), hw.symm⟩) | (go_at_call 27; refine Calls.quiet_of_same (v := .bool true) ((isSeq_any _ _).mono ?_); rintro e w' ⟨he, hw⟩; exact ⟨he.trans (congrArg Ending.returned (congrArg Value.bool q2.out)), hw.symm⟩) | (go_at_call 27; refine Calls.quiet_of_same (v := .bool false) ((isSeq_any _ _).mono ?_); rintro e w' ⟨he, hw⟩; exact ⟨he.trans (congrArg Ending.returned (congrArg Value.bool q2.out)), hw.symm⟩))
            go_wp2_with fail
            ((try simp only [Exit.inBlock, Exit.then]); refine bodyPost_ret (results_tmp4 rfl _ _ _) rfl ?_)
            exact sr_no HR (below_drewN hb1 _)
        · have HR := Lib.hid ((HY.out).trans (srT_3 (.inr (.inl hn2))))
          have q2 : Hid (decide (1 ≤ (s : Int) ∧ (s : Int) ≤ 1000000000) = false) := by show _ = _; simp; omega
          clear HY
          go_wp2_with fail
          go_quiet (first | (go_at_call 26; refine Calls.quiet_of_same (v := .bool true) ((isGen_anyP _ _).mono ?_); rintro e w' ⟨he, hw⟩; exact ⟨he.trans (congrArg Ending.returned (congrArg Value.bool q1.out)), hw.symm⟩) | (go_at_call 26; refine Calls.quiet_of_same (v := .bool false) ((isGen_anyP _ _).mono ?_); rintro e w' ⟨he, hw⟩; exact ⟨he.trans (congrArg Ending.returned (congrArg Value.bool q1.out)), hw.symm⟩) | (go_at_call 27; refine Calls.quiet_of_same (v := .bool true) ((isSeq_any _ _).mono ?_); rintro e w' ⟨he, hw⟩; exact ⟨he.trans (congrArg Ending.returned (congrArg Value.bool q2.out)), hw.symm⟩) | (go_at_call 27; refine Calls.quiet_of_same (v := .bool false) ((isSeq_any _ _).mono ?_); rintro e w' ⟨he, hw⟩; exact ⟨he.trans (congrArg Ending.returned (congrArg Value.bool q2.out)), hw.symm⟩))
          go_wp2_with fail
          ((try simp only [Exit.inBlock, Exit.then]); refine bodyPost_ret (results_tmp4 rfl _ _ _) rfl ?_)
          exact sr_no HR (below_drewN hb1 _)
      · have HR := Lib.hid ((HY.out).trans (srT_3 (.inl hn)))
        have q1 : Hid (decide (1 ≤ (a : Int) ∧ (a : Int) ≤ 1000000000) = false) := by show _ = _; simp; omega
        clear HY
        go_wp2_with fail
        go_quiet (first | (go_at_call 26; refine Calls.quiet_of_same (v := .bool true) ((isGen_anyP _ _).mono ?_); rintro e w' ⟨he, hw⟩; exact ⟨he.trans (congrArg Ending.returned (congrArg Value.bool q1.out)), hw.symm⟩) | (go_at_call 26; refine Calls.quiet_of_same (v := .bool false) ((isGen_anyP _ _).mono ?_); rintro e w' ⟨he, hw⟩; exact ⟨he.trans (congrArg Ending.returned (congrArg Value.bool q1.out)), hw.symm⟩))
        go_wp2_with fail
        ((try simp only [Exit.inBlock, Exit.then]); refine bodyPost_ret (results_tmp4 rfl _ _ _) rfl ?_)
        exact sr_no HR (below_drewN hb1 _)
    · have HR := Lib.hid (srR_no HP.out hl hr.out.1 hr.out.2)
      clear hl hr
      go_wp2_with fail
      ((try simp only [Exit.inBlock, Exit.then]); refine bodyPost_ret (results_tmp4 rfl _ _ _) rfl ?_)
      exact sr_no HR hb1
  · have HR := Lib.hid (srR_1 hp)
    have hpd : Hid (decide (xs.take 4 = [83, 78, 65, 80]) = false) := by show _ = _; simp [hp]
    clear hp
    go_enter Tryd.func14, Tryd.ntmps14
    go_wp2_with fail
    refine (snapHP _ _ rfl _).mono ?_
    rintro e w' ⟨he, rfl⟩
    rw [hpd.out] at he
    subst he
    go_wp2_with fail
    ((try simp only [Exit.inBlock, Exit.then]); refine bodyPost_ret (results_tmp4 rfl _ _ _) rfl ?_)
    exact sr_no HR (Below.refl _ _)
end Go.Proofs.YtbaojeiinjjlcaaDoor
