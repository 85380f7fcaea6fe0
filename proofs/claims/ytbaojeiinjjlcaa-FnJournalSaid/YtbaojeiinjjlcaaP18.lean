/- A frame read: the program's way. -/
import Derived.Test.YtbaojeiinjjlcaaP17
import Derived.Deep.RegionHeld3
import Derived.Deep.DeepCutAuto
namespace Go.Proofs.Ytbaojeiinjjlcaa
open Go.RowKit
set_option linter.unusedVariables false
set_option maxRecDepth 100000

theorem results_tmp4 {fn : Func} {t u v x : Tmp} (h : fn.results = #[.tmp t, .tmp u, .tmp v, .tmp x]) (tmps : Array Value) (P : Program) (w : World) :
    (results fn tmps).run P w = .ok (.tuple #[tmps.getD t undef, tmps.getD u undef, tmps.getD v undef, tmps.getD x undef]) w := by
  simp [results, h]
theorem Cs.three {w : World} {A : Option Addr} {a b c : Value} (h : Cs w A [a, b, c]) : ∃ k o, A = some ⟨k, o, none⟩ ∧ w.cell? ⟨k, o, none⟩ = some a ∧ w.cell? ⟨k, o + 1, none⟩ = some b ∧ w.cell? ⟨k, o + 2, none⟩ = some c := by
  rcases h with h | ⟨k, o, rfl, h⟩
  · cases h
  · exact ⟨k, o, rfl, h 0 _ rfl, h 1 _ rfl, h 2 _ rfl⟩
theorem len3 {l : List (Int × Int)} (h : l.length = 3) : ∃ a b c, l = [c, b, a] := by
  match l, h with
  | [c, b, a], _ => exact ⟨a, b, c, rfl⟩
theorem gvAt_true {xs : List UInt8} {z : Int} {p : Int × Int} (h : gvAt xs z = (p.1, p.2, true)) : ∃ n q : Nat, p = ((n : Int), (q : Int)) ∧ gvAt xs z = ((n : Int), (q : Int), true) ∧ n ≤ 4294967295 ∧ q ≤ xs.length ∧ z < q ∧ (0 ≤ z ∧ gv (xs.drop z.toNat) = some (n, q - z.toNat)) := by
  rcases gvAt_cases xs z with h2 | ⟨n, q, h2, rest⟩
  · rw [h2] at h; simp at h
  · rw [h2] at h
    simp only [Prod.mk.injEq] at h
    exact ⟨n, q, Prod.ext h.1.symm h.2.1.symm, h2, rest⟩
set_option maxHeartbeats 2000000 in
theorem frameRead_impl (A : Option Addr) (c : Nat) (xs : List UInt8) (z : Int) (w : World) (ha : By w A xs) (hc : xs.length ≤ c) (h1 : xs.length ≤ 137438953472) :
    Calls Try.prog 12 #[.slice A xs.length c, .int .i64 z] w (FrPost w (frR xs z)) := by
  by_cases hz : z < 0 ∨ (xs.length : Int) < z
  · have HR := Lib.hid (frR_out hz)
    have hw : Hid (decide (0 ≤ z ∧ z ≤ (xs.length : Int)) = false) := by show _ = _; simp; omega
    clear hz
    go_enter Try.func12, Try.ntmps12
    go_wp2_with (go_at_call 18; refine (within_any _ _ _ _).mono ?_; rintro e w' ⟨he, rfl⟩; rw [hw.out] at he; subst he)
    ((try simp only [Exit.inBlock, Exit.then]); refine bodyPost_ret (results_tmp4 rfl _ _ _) rfl ?_)
    exact fr_no HR (Below.refl _ _)
  · obtain ⟨k, rfl⟩ := Int.eq_ofNat_of_zero_le (show 0 ≤ z by omega)
    have hk : k ≤ xs.length := by omega
    have hw : Hid (decide (0 ≤ (k : Int) ∧ (k : Int) ≤ (xs.length : Int)) = true) := by show _ = _; simp; omega
    clear hz
    by_cases hmk : xs[k]? = some 167
    · have hlt := (List.getElem?_eq_some_iff.1 hmk).1
      have e1 : ((k : Int) == (xs.length : Int)) = false := by simp; omega
      obtain ⟨b, o, rfl, hcell⟩ := ha.pos (by omega)
      have hx := hcell k _ hmk
      have HMK := Lib.hid hmk
      clear hcell hmk
      have hlt' : (k : Int) < xs.length := by omega
      go_enter Try.func12, Try.ntmps12
      go_wp2_with (go_at_call 18; refine (within_any _ _ _ _).mono ?_; rintro e w' ⟨he, rfl⟩; rw [hw.out] at he; subst he)
      refine (getVars_any _ _ _ _ 3 _ ha hc (by omega) (by omega)).mono ?_
      rintro e w1 ⟨hb1, hcase⟩
      have z1 := hb1.size
      rcases hcase with ⟨l, A1, c1, A2, c2, hl, hr, rfl, hs1, hs2⟩ | ⟨l, hl, hr, rfl⟩
      · obtain ⟨p1, p2, p3, rfl⟩ := len3 hl
        obtain ⟨⟨⟨_, g1⟩, g2⟩, g3⟩ := hr.out
        simp only [lastEnd] at g1 g2 g3
        obtain ⟨n, p, rfl, g1, n1, b1, o1, _, v1⟩ := gvAt_true g1
        obtain ⟨s, q, rfl, g2, n2, b2, o2, _, v2⟩ := gvAt_true g2
        obtain ⟨m, r, rfl, g3, n3, b3, o3, _, v3⟩ := gvAt_true g3
        simp only [List.map_cons, List.map_nil, List.reverse_cons, List.reverse_nil, List.nil_append, List.cons_append] at hs1 hs2
        obtain ⟨k1, j1, rfl, d1, d2, d3⟩ := hs1.three
        obtain ⟨k2, j2, rfl, f1, f2, f3⟩ := hs2.three
        have HY := Lib.hid (frR_yes HMK.out g1 g2 g3)
        clear hr hs1 hs2 hl g1 g2 g3
        have o2' : p < q := by omega
        have o3' : q < r := by omega
        by_cases hn : 1 ≤ n ∧ n ≤ 1000000000
        · have q1 : Hid (decide (1 ≤ (n : Int) ∧ (n : Int) ≤ 1000000000) = true) := by show _ = _; simp; omega
          by_cases hs4 : 60000 < s
          · have HR := Lib.hid ((HY.out).trans (frT_4 (.inr hs4)))
            have i4 : (60000 : Int) < s := by omega
            clear HY
            go_wp2_with (go_at_call 13; refine (isSeq_any _ _).mono ?_; rintro e w' ⟨he, rfl⟩; rw [q1.out] at he; subst he)
            ((try simp only [Exit.inBlock, Exit.then]); refine bodyPost_ret (results_tmp4 rfl _ _ _) rfl ?_)
            exact fr_no HR hb1
          · have i4 : ¬ (60000 : Int) < s := by omega
            have h4 : ¬ (¬ (1 ≤ n ∧ n ≤ 1000000000) ∨ 60000 < s) := by omega
            by_cases h5 : xs.length < r + s
            · have HR := Lib.hid ((HY.out).trans (frT_5 h4 h5))
              have i5 : (xs.length : Int) - r < s := by omega
              clear HY h4 h5
              go_wp2_with (go_at_call 13; refine (isSeq_any _ _).mono ?_; rintro e w' ⟨he, rfl⟩; rw [q1.out] at he; subst he)
              go_quiet (fail)
              go_wp2_with fail
              ((try simp only [Exit.inBlock, Exit.then]); refine bodyPost_ret (results_tmp4 rfl _ _ _) rfl ?_)
              exact fr_no HR (below_drewN hb1 _)
            · have i5 : ¬ (xs.length : Int) - r < s := by omega
              have hab := ha.below hb1
              obtain ⟨A5, c5, u5, hu5, hc5, hby5, hrun5⟩ := slice_lh_run (some ⟨b, o, none⟩) c r (r + s) xs .i64 .i64 (by omega) (by omega) hc
              obtain ⟨A6, c6, u6, hu6, hc6, hby6, hrun6⟩ := slice_lh_run (some ⟨b, o, none⟩) c k q xs .i64 .i64 (by omega) (by omega) hc
              have L5 : Hid (u5.length = s) := by show _ = _; rw [hu5.out]; simp; omega
              have l5 : u5.length ≤ xs.length := by rw [hu5.out]; simp; omega
              have l6 : u6.length ≤ xs.length := by rw [hu6.out]; simp; omega
              have e1 : ((r + s : Nat) : Int) = (r : Int) + s := by omega
              rw [e1] at hrun5
              clear e1
              go_wp2_with (go_at_call 13; refine (isSeq_any _ _).mono ?_; rintro e w' ⟨he, rfl⟩; rw [q1.out] at he; subst he)
              go_quiet (fail)
              go_wp2_with fail
              go_quiet (fail)
              go_wp2_with fail
              refine (clone_any _ _ _ _ (By.drewN (hby5 w1 hab) _) (by omega)).mono ?_
              rintro e w2 ⟨A7, c7, rfl, ho7, hb7⟩
              have z2 := hb7.size
              have f2' := (hb7.cell (p := ⟨k2, j2 + 1, none⟩) (World.block_lt_of_cell? w1 _ f2)).trans f2
              have d3' := (hb7.cell (p := ⟨k1, j1 + 2, none⟩) (World.block_lt_of_cell? w1 _ d3)).trans d3
              have hab2 := (hab.drewN _).below hb7
              have hy6 := hby6 w2 hab2
              have E5 : Hid (u5 = (xs.drop r).take s) := by show _ = _; rw [hu5.out]; congr 1; omega
              have d1' := (hb7.cell (p := ⟨k1, j1, none⟩) (World.block_lt_of_cell? w1 _ d1)).trans d1
              clear d1 d2 d3 f1 f2 f3
              by_cases h6 : crcN (u6 ++ u5) = m
              · have hq : (((crcN (u6 ++ u5) : Nat) : Int) != (m : Int)) = false := by simp [h6]
                go_wp2_with fail
                go_region_held3 (fun w' => Below w2.heap.size w2 w' ∧ w'.cell? ⟨k2, j2 + 1, none⟩ = some (I q) ∧ w'.cell? ⟨k1, j1 + 2, none⟩ = some (I m))
                  (first | exact ⟨Below.drew (Below.refl _ _), by simpa using f2', by simpa using d3'⟩ | assumption | (refine ⟨?_, ?_, ?_⟩ <;> assumption))
                  ((go_at_call 15; refine (sumOf_any _ _ _ _ _ _ _ (By.below hy6 (Below.drew (Below.refl _ _))) (By.below ho7.by_ (Below.drew (Below.refl _ _))) (by omega) (by omega)).mono ?_; rintro e w3 ⟨rfl, hb3⟩; have hbw3 : Below w2.heap.size w2 w3 := (Below.drew (Below.refl w2.heap.size w2)).trans hb3; have hkeep := And.intro hbw3 (And.intro ((hbw3.cell (World.block_lt_of_cell? w2 _ f2')).trans f2') ((hbw3.cell (World.block_lt_of_cell? w2 _ d3')).trans d3'))))
                have d1'' := (hbw3.cell (World.block_lt_of_cell? w2 _ d1')).trans d1'
                clear hkeep
                go_wp2_with fail
                have HR := Lib.hid ((HY.out).trans (frT_0 h4 h5 (by rw [← hu6.out, ← E5.out]; exact h6)))
                ((try simp only [Exit.inBlock, Exit.then]); refine bodyPost_ret (results_tmp4 rfl _ _ _) rfl ?_)
                exact ⟨n, A7, c7, u5, _, _, Lib.hid (by rw [HR.out, E5.out]), rfl, (ho7.below hbw3 (Nat.le_refl _)).mono z1, ((below_drewN hb1 _).trans ((hb7.mono z1).trans (hbw3.mono (Nat.le_trans z1 z2))))⟩
              · have hq : (((crcN (u6 ++ u5) : Nat) : Int) != (m : Int)) = true := by simp; omega
                go_wp2_with fail
                go_region_held3 (fun w' => Below w2.heap.size w2 w' ∧ w'.cell? ⟨k2, j2 + 1, none⟩ = some (I q) ∧ w'.cell? ⟨k1, j1 + 2, none⟩ = some (I m))
                  (first | exact ⟨Below.drew (Below.refl _ _), by simpa using f2', by simpa using d3'⟩ | assumption | (refine ⟨?_, ?_, ?_⟩ <;> assumption))
                  ((go_at_call 15; refine (sumOf_any _ _ _ _ _ _ _ (By.below hy6 (Below.drew (Below.refl _ _))) (By.below ho7.by_ (Below.drew (Below.refl _ _))) (by omega) (by omega)).mono ?_; rintro e w3 ⟨rfl, hb3⟩; have hbw3 : Below w2.heap.size w2 w3 := (Below.drew (Below.refl w2.heap.size w2)).trans hb3; have hkeep := And.intro hbw3 (And.intro ((hbw3.cell (World.block_lt_of_cell? w2 _ f2')).trans f2') ((hbw3.cell (World.block_lt_of_cell? w2 _ d3')).trans d3'))))
                clear hkeep
                go_wp2_with fail
                have HR := Lib.hid ((HY.out).trans (frT_6 h4 h5 (by rw [← hu6.out, ← E5.out]; exact h6)))
                ((try simp only [Exit.inBlock, Exit.then]); refine bodyPost_ret (results_tmp4 rfl _ _ _) rfl ?_)
                exact fr_no HR ((below_drewN hb1 _).trans ((hb7.mono z1).trans (hbw3.mono (Nat.le_trans z1 z2))))
        · have HR := Lib.hid ((HY.out).trans (frT_4 (.inl hn)))
          have q1 : Hid (decide (1 ≤ (n : Int) ∧ (n : Int) ≤ 1000000000) = false) := by show _ = _; simp; omega
          clear HY
          go_wp2_with (go_at_call 13; refine (isSeq_any _ _).mono ?_; rintro e w' ⟨he, rfl⟩; rw [q1.out] at he; subst he)
          ((try simp only [Exit.inBlock, Exit.then]); refine bodyPost_ret (results_tmp4 rfl _ _ _) rfl ?_)
          exact fr_no HR hb1
      · have HR := Lib.hid (frR_no HMK.out hl hr.out.1 hr.out.2)
        clear hl hr
        go_wp2_with fail
        ((try simp only [Exit.inBlock, Exit.then]); refine bodyPost_ret (results_tmp4 rfl _ _ _) rfl ?_)
        exact fr_no HR hb1
    · have HR := Lib.hid (frR_mark hk hmk)
      by_cases hke : k = xs.length
      · have e1 : ((k : Int) == (xs.length : Int)) = true := by simp; omega
        clear hmk hke
        go_enter Try.func12, Try.ntmps12
        go_wp2_with (go_at_call 18; refine (within_any _ _ _ _).mono ?_; rintro e w' ⟨he, rfl⟩; rw [hw.out] at he; subst he)
        ((try simp only [Exit.inBlock, Exit.then]); refine bodyPost_ret (results_tmp4 rfl _ _ _) rfl ?_)
        exact fr_no HR (Below.refl _ _)
      · have e1 : ((k : Int) == (xs.length : Int)) = false := by simp; omega
        obtain ⟨x, hx⟩ : ∃ x, xs[k]? = some x := ⟨_, List.getElem?_eq_getElem (by omega)⟩
        obtain ⟨b, o, rfl, hcell⟩ := ha.pos (by omega)
        have hcx := hcell k _ hx
        have e2 : ((x.toNat : Int) != 167) = true := by
          simp
          intro h
          apply hmk
          rw [hx]
          congr 1
          exact UInt8.toNat_inj.1 (by simp; omega)
        have hlt' : (k : Int) < xs.length := by omega
        clear hcell hx hmk hke
        go_enter Try.func12, Try.ntmps12
        go_wp2_with (go_at_call 18; refine (within_any _ _ _ _).mono ?_; rintro e w' ⟨he, rfl⟩; rw [hw.out] at he; subst he)
        ((try simp only [Exit.inBlock, Exit.then]); refine bodyPost_ret (results_tmp4 rfl _ _ _) rfl ?_)
        exact fr_no HR (Below.refl _ _)
end Go.Proofs.Ytbaojeiinjjlcaa
