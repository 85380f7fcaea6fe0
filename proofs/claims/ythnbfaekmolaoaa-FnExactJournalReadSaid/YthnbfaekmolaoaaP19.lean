/- A frame read: the reference's way. -/
import Derived.Test.YthnbfaekmolaoaaP18
namespace Go.Proofs.Ythnbfaekmolaoaa
open Go.RowKit
set_option linter.unusedVariables false
set_option maxRecDepth 100000

theorem gvAt_tt {xs : List UInt8} {z : Int} (h : (gvAt xs z).2.2 = true) : ∃ n q : Nat, gvAt xs z = ((n : Int), (q : Int), true) ∧ n ≤ 4294967295 ∧ q ≤ xs.length ∧ z < q ∧ (0 ≤ z ∧ gv (xs.drop z.toNat) = some (n, q - z.toNat)) := by
  rcases gvAt_cases xs z with h2 | h2
  · rw [h2] at h; simp at h
  · exact h2
theorem frameR_good {n : Nat} {d : List UInt8} (h1 : 1 ≤ n) (h2 : n ≤ 1000000000) (h3 : d.length ≤ 60000) : frameR n d = (frameB n d, true) := by
  rw [frameR, if_pos ⟨⟨by omega, by omega⟩, h3⟩]
theorem bstr_inj {a b : List UInt8} : bstr a = bstr b ↔ a = b := by
  constructor
  · intro h
    rw [← bstr_toList a, h, bstr_toList]
  · intro h
    rw [h]
set_option maxHeartbeats 2000000 in
theorem frameRead_spec (A : Option Addr) (c : Nat) (xs : List UInt8) (z : Int) (w : World) (ha : By w A xs) (hc : xs.length ≤ c) (h1 : xs.length ≤ 137438953472) :
    Calls Try.prog 50 #[.slice A xs.length c, .int .i64 z] w (FrPost w (frR xs z)) := by
  by_cases hz : z < 0
  · have HR := Lib.hid (frR_out (xs := xs) (.inl hz))
    go_enter Try.func50, Try.ntmps50
    go_wp2_with fail
    ((try simp only [Exit.inBlock, Exit.then]); refine bodyPost_ret (results_tmp4 rfl _ _ _) rfl ?_)
    exact fr_no HR (Below.refl _ _)
  by_cases hz2 : (xs.length : Int) < z
  · have HR := Lib.hid (frR_out (xs := xs) (.inr hz2))
    go_enter Try.func50, Try.ntmps50
    go_wp2_with fail
    ((try simp only [Exit.inBlock, Exit.then]); refine bodyPost_ret (results_tmp4 rfl _ _ _) rfl ?_)
    exact fr_no HR (Below.refl _ _)
  obtain ⟨k, rfl⟩ := Int.eq_ofNat_of_zero_le (show 0 ≤ z by omega)
  have hk : k ≤ xs.length := by omega
  by_cases hmk : xs[k]? = some 167
  · have hlt := (List.getElem?_eq_some_iff.1 hmk).1
    have e1 : ((k : Int) == (xs.length : Int)) = false := by simp; omega
    obtain ⟨b, o, rfl, hcell⟩ := ha.pos (by omega)
    have hx := hcell k _ hmk
    have HMK := Lib.hid hmk
    clear hcell hmk
    have hlt' : (k : Int) < xs.length := by omega
    by_cases hall : (gvAt xs (k + 1)).2.2 = true ∧ (gvAt xs (gvAt xs (k + 1)).2.1).2.2 = true ∧ (gvAt xs (gvAt xs (gvAt xs (k + 1)).2.1).2.1).2.2 = true
    · obtain ⟨t1, t2, t3⟩ := hall
      obtain ⟨n, p, g1, n1, b1, o1, _, v1⟩ := gvAt_tt t1
      rw [g1] at t2 t3
      dsimp only at t2 t3
      obtain ⟨s, q, g2, n2, b2, o2, _, v2⟩ := gvAt_tt t2
      rw [g2] at t3
      dsimp only at t3
      obtain ⟨m, r, g3, n3, b3, o3, _, v3⟩ := gvAt_tt t3
      have HY := Lib.hid (frR_yes HMK.out g1 g2 g3)
      have V1 : Hid (gvV xs (k + 1) = .tuple #[.int .i64 n, .int .i64 p, .bool true]) := by show _ = _; rw [gvV, g1]
      have V2 : Hid (gvV xs p = .tuple #[.int .i64 s, .int .i64 q, .bool true]) := by show _ = _; rw [gvV, g2]
      have V3 : Hid (gvV xs q = .tuple #[.int .i64 m, .int .i64 r, .bool true]) := by show _ = _; rw [gvV, g3]
      clear t1 t2 t3 g1 g2 g3
      have o1' : k + 1 < p := by omega
      have o2' : p < q := by omega
      have o3' : q < r := by omega
      simp only [Int.toNat_natCast, show ((k : Int) + 1).toNat = k + 1 by omega] at v1 v2 v3
      go_enter Try.func50, Try.ntmps50
      go_wp2_with fail
      refine (getVar_specR _ _ _ _ _ ha hc (by omega)).mono ?_
      rintro e w1 ⟨rfl, hb1⟩
      rw [V1.out]
      go_wp2_with fail
      refine (getVar_specR _ _ _ _ _ (ha.below hb1) hc (by omega)).mono ?_
      rintro e w2 ⟨rfl, hb2⟩
      rw [V2.out]
      go_wp2_with fail
      refine (getVar_specR _ _ _ _ _ ((ha.below hb1).below hb2) hc (by omega)).mono ?_
      rintro e w3 ⟨rfl, hb3⟩
      rw [V3.out]
      have hbw : Below w.heap.size w w3 := hb1.trans ((hb2.mono hb1.size).trans (hb3.mono (Nat.le_trans hb1.size hb2.size)))
      have ha3 := ((ha.below hb1).below hb2).below hb3
      have z3 := hbw.size
      by_cases hn1 : (n : Int) < 1
      · have HR := Lib.hid ((HY.out).trans (frT_4 (.inl (by omega))))
        clear HY
        go_wp2_with fail
        ((try simp only [Exit.inBlock, Exit.then]); refine bodyPost_ret (results_tmp4 rfl _ _ _) rfl ?_)
        exact fr_no HR hbw
      by_cases hn2 : (1000000000 : Int) < n
      · have HR := Lib.hid ((HY.out).trans (frT_4 (.inl (by omega))))
        clear HY
        go_wp2_with fail
        ((try simp only [Exit.inBlock, Exit.then]); refine bodyPost_ret (results_tmp4 rfl _ _ _) rfl ?_)
        exact fr_no HR hbw
      by_cases hs4 : (60000 : Int) < s
      · have HR := Lib.hid ((HY.out).trans (frT_4 (.inr (by omega))))
        clear HY
        go_wp2_with fail
        ((try simp only [Exit.inBlock, Exit.then]); refine bodyPost_ret (results_tmp4 rfl _ _ _) rfl ?_)
        exact fr_no HR hbw
      have h4 : ¬ (¬ (1 ≤ n ∧ n ≤ 1000000000) ∨ 60000 < s) := by omega
      by_cases i5 : (xs.length : Int) - r < s
      · have HR := Lib.hid ((HY.out).trans (frT_5 h4 (by omega)))
        clear HY h4
        go_wp2_with fail
        ((try simp only [Exit.inBlock, Exit.then]); refine bodyPost_ret (results_tmp4 rfl _ _ _) rfl ?_)
        exact fr_no HR hbw
      have h5 : ¬ xs.length < r + s := by omega
      obtain ⟨A5, c5, u5, hu5, hc5, hby5, hrun5⟩ := slice_lh_run (some ⟨b, o, none⟩) c r (r + s) xs .i64 .i64 (by omega) (by omega) hc
      obtain ⟨A6, c6, u6, hu6, hc6, hby6, hrun6⟩ := slice_lh_run (some ⟨b, o, none⟩) c k (r + s) xs .i64 .i64 (by omega) (by omega) hc
      have L5 : Hid (u5.length = s) := by show _ = _; rw [hu5.out]; simp; omega
      have l5 : u5.length ≤ 60000 := by rw [hu5.out]; simp; omega
      have l6 : u6.length ≤ xs.length := by rw [hu6.out]; simp; omega
      have E5 : Hid (u5 = (xs.drop r).take s) := by show _ = _; rw [hu5.out]; congr 1; omega
      have e2 : ((r + s : Nat) : Int) = (r : Int) + s := by omega
      rw [e2] at hrun5 hrun6
      clear e2
      have hbox : Below w3.heap.size w3 (w3.alloc (.cells #[] 5)) := (Below.refl _ _).alloc (Nat.le_refl _) _
      go_wp2_with (at_builtin; refine wp_appN rfl _ _ rfl w3.heap.size _ _ [] _ _ _ u5 Ob.empty ((hby5 w3 ha3).below hbox) rfl rfl (by simp) (by omega) (by simp) ?_; intro A7 c7 w4 u7 hu7 ho7 hb7)
      obtain rfl : u7 = u5 := by rw [hu7.out]; simp
      have hb37 := hbox.trans hb7
      have z4 := hb37.size
      refine (frameBytes_spec _ _ _ _ _ ho7.by_ (by omega)).mono ?_
      rintro e w5 ⟨A8, c8, u8, k8, hu8, hk8, rfl, ho8, hb8⟩
      have z5 := hb8.size
      rw [frameR_good (by omega) (by omega) l5] at hu8 hk8
      have ha5 := (ha3.below hb37).below hb8
      have hy6 := hby6 w5 ha5
      have hy8 := ho8.by_
      have hcv8 : ∀ j, (convert 23 9 (.slice A8 u8.length c8)).run Try.prog (w5.drewN j) = .ok (.string (bstr u8)) (w5.drewN j) := fun j => conv_by (hy8.drewN j)
      have hcv6 : ∀ j, (convert 23 9 (.slice A6 u6.length c6)).run Try.prog (w5.drewN j) = .ok (.string (bstr u6)) (w5.drewN j) := fun j => conv_by (hy6.drewN j)
      have hcv80 := hcv8 0
      have hcv60 := hcv6 0
      simp only [World.drewN_zero] at hcv80 hcv60
      have hfb := fr_bytes (s := s) HMK.out v1 v2 v3 o1' o2' o3' (by omega)
      have e6 : u6 = frameHead n u7 ++ varB m ++ u7 := by rw [hu6.out, hfb.2, E5.out]
      have e8 : u8 = frameB n u7 := hu8.out
      have e9 : u8 = u6 ↔ crcN (frameHead n u7 ++ u7) = m := by
        rw [e6, e8, frameB]
        constructor
        · intro h
          exact varB_inj (List.append_cancel_left (List.append_cancel_right h))
        · intro h
          rw [h]
      rw [← E5.out] at hfb
      rw [← hfb.1] at e9
      have hbx : Below w.heap.size w w5 := hbw.trans ((hb37.mono z3).trans (hb8.mono (Nat.le_trans z3 z4)))
      have ho9 := (ho7.below hb8 (Nat.le_refl _)).mono z3
      by_cases h6 : u8 = u6
      · have hq : ((bstr u8).toList == (bstr u6).toList) = true := by simp [h6]
        have HR := Lib.hid ((HY.out).trans (frT_0 h4 h5 (by rw [← E5.out]; exact e9.1 h6)))
        clear h6 e9 e8 e6 hfb
        go_wp2_with fail
        go_quiet (fail)
        go_wp2_with fail
        ((try simp only [Exit.inBlock, Exit.then]); refine bodyPost_ret (results_tmp4 rfl _ _ _) rfl ?_)
        exact ⟨n, A7, c7, u7, _, _, Lib.hid (by rw [HR.out, E5.out]), rfl, Ob.drewN ho9 _, below_drewN hbx _⟩
      · have hq : ((bstr u8).toList == (bstr u6).toList) = false := by
          rw [bstr_toList, bstr_toList]
          exact beq_eq_false_iff_ne.2 h6
        have HR := Lib.hid ((HY.out).trans (frT_6 h4 h5 (by rw [← E5.out]; exact fun h => h6 (e9.2 h))))
        clear h6 e9 e8 e6 hfb
        go_wp2_with fail
        go_quiet (fail)
        go_wp2_with fail
        ((try simp only [Exit.inBlock, Exit.then]); refine bodyPost_ret (results_tmp4 rfl _ _ _) rfl ?_)
        exact fr_no HR (below_drewN hbx _)
    · have HR := Lib.hid (frR_no2 HMK.out hall)
      rcases hg1 : gvAt xs (k + 1) with ⟨n, p, t1⟩
      rcases hg2 : gvAt xs p with ⟨s, q, t2⟩
      rcases hg3 : gvAt xs q with ⟨m, r, t3⟩
      rw [hg1] at hall
      simp only [hg2, hg3] at hall
      have V1 : Hid (gvV xs (k + 1) = .tuple #[.int .i64 n, .int .i64 p, .bool t1]) := by show _ = _; rw [gvV, hg1]
      have V2 : Hid (gvV xs p = .tuple #[.int .i64 s, .int .i64 q, .bool t2]) := by show _ = _; rw [gvV, hg2]
      have V3 : Hid (gvV xs q = .tuple #[.int .i64 m, .int .i64 r, .bool t3]) := by show _ = _; rw [gvV, hg3]
      clear hg1 hg2 hg3
      go_enter Try.func50, Try.ntmps50
      go_wp2_with fail
      refine (getVar_specR _ _ _ _ _ ha hc (by omega)).mono ?_
      rintro e w1 ⟨rfl, hb1⟩
      rw [V1.out]
      go_wp2_with fail
      refine (getVar_specR _ _ _ _ _ (ha.below hb1) hc (by omega)).mono ?_
      rintro e w2 ⟨rfl, hb2⟩
      rw [V2.out]
      go_wp2_with fail
      refine (getVar_specR _ _ _ _ _ ((ha.below hb1).below hb2) hc (by omega)).mono ?_
      rintro e w3 ⟨rfl, hb3⟩
      rw [V3.out]
      have hbw : Below w.heap.size w w3 := hb1.trans ((hb2.mono hb1.size).trans (hb3.mono (Nat.le_trans hb1.size hb2.size)))
      cases t1
      · go_wp2_with fail
        ((try simp only [Exit.inBlock, Exit.then]); refine bodyPost_ret (results_tmp4 rfl _ _ _) rfl ?_)
        exact fr_no HR hbw
      · cases t2
        · go_wp2_with fail
          ((try simp only [Exit.inBlock, Exit.then]); refine bodyPost_ret (results_tmp4 rfl _ _ _) rfl ?_)
          exact fr_no HR hbw
        · cases t3
          · go_wp2_with fail
            ((try simp only [Exit.inBlock, Exit.then]); refine bodyPost_ret (results_tmp4 rfl _ _ _) rfl ?_)
            exact fr_no HR hbw
          · simp at hall
  · have HR := Lib.hid (frR_mark hk hmk)
    by_cases hke : k = xs.length
    · have e1 : ((k : Int) == (xs.length : Int)) = true := by simp; omega
      clear hmk hke
      go_enter Try.func50, Try.ntmps50
      go_wp2_with fail
      ((try simp only [Exit.inBlock, Exit.then]); refine bodyPost_ret (results_tmp4 rfl _ _ _) rfl ?_)
      exact fr_no HR (Below.refl _ _)
    · have e1 : ((k : Int) == (xs.length : Int)) = false := by simp; omega
      obtain ⟨x, hx⟩ : ∃ x, xs[k]? = some x := ⟨_, List.getElem?_eq_getElem (by omega)⟩
      obtain ⟨b, o, rfl, hcell⟩ := ha.pos (by omega)
      have hcx := hcell k _ hx
      have e2 : ((x.toNat : Int) != 167) = true := by
        simp
        intro h
        apply hmk
        rw [hx]
        congr 1
        exact UInt8.toNat_inj.1 (by simp; omega)
      have hlt' : (k : Int) < xs.length := by omega
      clear hcell hx hmk hke
      go_enter Try.func50, Try.ntmps50
      go_wp2_with fail
      ((try simp only [Exit.inBlock, Exit.then]); refine bodyPost_ret (results_tmp4 rfl _ _ _) rfl ?_)
      exact fr_no HR (Below.refl _ _)
end Go.Proofs.Ythnbfaekmolaoaa
