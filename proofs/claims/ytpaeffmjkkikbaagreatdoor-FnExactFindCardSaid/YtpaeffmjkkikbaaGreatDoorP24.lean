/- A snapshot read: the reference's way. -/
import Derived.Test.YtpaeffmjkkikbaaGreatDoorPf
namespace Go.Proofs.YtpaeffmjkkikbaaGreatDoor
open Go.RowKit
set_option linter.unusedVariables false
set_option maxRecDepth 100000

theorem snapB_iff {a s m : Nat} {u8 xs ds : List UInt8} {h : List UInt8} (e8 : u8 = snapB a s ds) (e : xs = snapHead a s ds ++ varB m ++ ds) (hh : h = snapHead a s ds) : u8 = xs ↔ crcN (h ++ ds) = m := by
  rw [e, e8, snapB, hh]
  constructor
  · intro h
    exact varB_inj (List.append_cancel_left (List.append_cancel_right h))
  · intro h
    rw [h]
set_option maxHeartbeats 4000000 in
theorem snapRead_spec (A : Option Addr) (c : Nat) (xs : List UInt8) (w : World) (ha : By w A xs) (hc : xs.length ≤ c) (h1 : xs.length ≤ 137438953472) :
    Calls Tryz.prog 24 #[.slice A xs.length c] w (SrPost w (srR xs)) := by
  by_cases hlen : (xs.length : Int) < 4
  · have HR := Lib.hid (srR_1 (xs := xs) (by intro h; have := congrArg List.length h; simp at this; omega))
    go_enter Tryz.func24, Tryz.ntmps24
    go_wp2_with fail
    ((try simp only [Exit.inBlock, Exit.then]); refine bodyPost_ret (results_tmp4 rfl _ _ _) rfl ?_)
    exact sr_no HR (Below.refl _ _)
  have hL4 : (xs.take 4).length = 4 := by simp; omega
  have hy0 : By w A (xs.take 4) := by
    rcases ha with h | ⟨b, o, h, hx⟩
    · exact .inl (by simp [h])
    · refine .inr ⟨b, o, h, fun i x hi => hx i x ?_⟩
      rw [List.getElem?_take] at hi
      split at hi
      · exact hi
      · cases hi
  have hcv : (convert 28 9 (.slice A 4 c)).run Tryz.prog w = .ok (.string (bstr (xs.take 4))) w := by
    have := conv_by (c := c) hy0
    rwa [hL4] at this
  by_cases hp : xs.take 4 = [83, 78, 65, 80]
  · have hs : ((bstr (xs.take 4)).toList == [83, 78, 65, 80]) = true := by rw [bstr_toList, hp]; rfl
    by_cases hall : (gvAt xs 4).2.2 = true ∧ (gvAt xs (gvAt xs 4).2.1).2.2 = true ∧ (gvAt xs (gvAt xs (gvAt xs 4).2.1).2.1).2.2 = true ∧ (gvAt xs (gvAt xs (gvAt xs (gvAt xs 4).2.1).2.1).2.1).2.2 = true
    · obtain ⟨t1, t2, t3, t4⟩ := hall
      obtain ⟨a, p, g1, n1, b1, o1, _, v1⟩ := gvAt_tt t1
      rw [g1] at t2 t3 t4
      dsimp only at t2 t3 t4
      obtain ⟨s, q, g2, n2, b2, o2, _, v2⟩ := gvAt_tt t2
      rw [g2] at t3 t4
      dsimp only at t3 t4
      obtain ⟨d, r, g3, n3, b3, o3, _, v3⟩ := gvAt_tt t3
      rw [g3] at t4
      dsimp only at t4
      obtain ⟨m, t, g4, n4, b4, o4, _, v4⟩ := gvAt_tt t4
      have HY := Lib.hid (srR_yes hp g1 g2 g3 g4)
      have HP := Lib.hid hp
      have V1 : Hid (gvV xs 4 = .tuple #[.int .i64 a, .int .i64 p, .bool true]) := by show _ = _; rw [gvV, g1]
      have V2 : Hid (gvV xs p = .tuple #[.int .i64 s, .int .i64 q, .bool true]) := by show _ = _; rw [gvV, g2]
      have V3 : Hid (gvV xs q = .tuple #[.int .i64 d, .int .i64 r, .bool true]) := by show _ = _; rw [gvV, g3]
      have V4 : Hid (gvV xs r = .tuple #[.int .i64 m, .int .i64 t, .bool true]) := by show _ = _; rw [gvV, g4]
      clear t1 t2 t3 t4 g1 g2 g3 g4 hp
      have o1' : 4 < p := by omega
      have o2' : p < q := by omega
      have o3' : q < r := by omega
      have o4' : r < t := by omega
      simp only [Int.toNat_natCast, show (4 : Int).toNat = 4 by rfl] at v1 v2 v3 v4
      go_enter Tryz.func24, Tryz.ntmps24
      go_wp2_with fail
      refine (getVar_specR _ _ _ _ _ ha hc (by omega)).mono ?_
      rintro e w1 ⟨rfl, hb1⟩
      rw [V1.out]
      go_wp2_with fail
      refine (getVar_specR _ _ _ _ _ (ha.below hb1) hc (by omega)).mono ?_
      rintro e w2 ⟨rfl, hb2⟩
      rw [V2.out]
      go_wp2_with fail
      refine (getVar_specR _ _ _ _ _ ((ha.below hb1).below hb2) hc (by omega)).mono ?_
      rintro e w3 ⟨rfl, hb3⟩
      rw [V3.out]
      go_wp2_with fail
      refine (getVar_specR _ _ _ _ _ (((ha.below hb1).below hb2).below hb3) hc (by omega)).mono ?_
      rintro e w4 ⟨rfl, hb4⟩
      rw [V4.out]
      have hbw3 : Below w.heap.size w w3 := hb1.trans ((hb2.mono hb1.size).trans (hb3.mono (Nat.le_trans hb1.size hb2.size)))
      have hbw : Below w.heap.size w w4 := hbw3.trans (hb4.mono hbw3.size)
      have ha4 := (((ha.below hb1).below hb2).below hb3).below hb4
      have z4 := hbw.size
      by_cases hn1 : (a : Int) < 1
      · have HR := Lib.hid ((HY.out).trans (srT_3 (.inl (by omega))))
        clear HY
        go_wp2_with fail
        ((try simp only [Exit.inBlock, Exit.then]); refine bodyPost_ret (results_tmp4 rfl _ _ _) rfl ?_)
        exact sr_no HR hbw
      by_cases hn2 : (1000000000 : Int) < a
      · have HR := Lib.hid ((HY.out).trans (srT_3 (.inl (by omega))))
        clear HY
        go_wp2_with fail
        ((try simp only [Exit.inBlock, Exit.then]); refine bodyPost_ret (results_tmp4 rfl _ _ _) rfl ?_)
        exact sr_no HR hbw
      by_cases hm1 : (s : Int) < 1
      · have HR := Lib.hid ((HY.out).trans (srT_3 (.inr (.inl (by omega)))))
        clear HY
        go_wp2_with fail
        ((try simp only [Exit.inBlock, Exit.then]); refine bodyPost_ret (results_tmp4 rfl _ _ _) rfl ?_)
        exact sr_no HR hbw
      by_cases hm2 : (1000000000 : Int) < s
      · have HR := Lib.hid ((HY.out).trans (srT_3 (.inr (.inl (by omega)))))
        clear HY
        go_wp2_with fail
        ((try simp only [Exit.inBlock, Exit.then]); refine bodyPost_ret (results_tmp4 rfl _ _ _) rfl ?_)
        exact sr_no HR hbw
      by_cases hd : d + t = xs.length
      case neg =>
        have q3 : ((d : Int) != (xs.length : Int) - t) = true := by simp; omega
        have HR := Lib.hid ((HY.out).trans (srT_3 (.inr (.inr (.inl hd)))))
        clear HY hd
        go_wp2_with fail
        ((try simp only [Exit.inBlock, Exit.then]); refine bodyPost_ret (results_tmp4 rfl _ _ _) rfl ?_)
        exact sr_no HR hbw
      have q3 : ((d : Int) != (xs.length : Int) - t) = false := by simp; omega
      by_cases hs4 : (150000 : Int) < d
      · have HR := Lib.hid ((HY.out).trans (srT_3 (.inr (.inr (.inr (by omega))))))
        clear HY hd
        go_wp2_with fail
        ((try simp only [Exit.inBlock, Exit.then]); refine bodyPost_ret (results_tmp4 rfl _ _ _) rfl ?_)
        exact sr_no HR hbw
      have h4 : ¬ (¬ (1 ≤ a ∧ a ≤ 1000000000) ∨ ¬ (1 ≤ s ∧ s ≤ 1000000000) ∨ d + t ≠ xs.length ∨ 150000 < d) := by omega
      have hD := Lib.hid hd
      have ht : t ≤ xs.length := by omega
      clear hd
      obtain ⟨A5, c5, u5, hu5, hc5, hby5, hrun5⟩ := slice_l_run A c t xs .i64 ht hc
      have L5 : Hid (u5.length = d) := by show _ = _; rw [hu5.out]; simp; have := hD.out; omega
      have l5 : u5.length ≤ 150000 := by rw [L5.out]; omega
      have hbox : Below w4.heap.size w4 (w4.alloc (.cells #[] 5)) := (Below.refl _ _).alloc (Nat.le_refl _) _
      go_wp2_with (at_builtin; refine wp_appN rfl _ _ rfl w4.heap.size _ _ [] _ _ _ u5 Ob.empty ((hby5 w4 ha4).below hbox) rfl rfl (by simp) (by omega) (by simp) ?_; intro A7 c7 w5 u7 hu7 ho7 hb7)
      obtain rfl : u7 = u5 := by rw [hu7.out]; simp
      have hb37 := hbox.trans hb7
      have z5 := hb37.size
      refine (snapBytes_spec _ _ _ _ _ _ ho7.by_ (by omega)).mono ?_
      rintro e w6 ⟨A8, c8, u8, k8, hu8, hk8, rfl, ho8, hb8⟩
      have z6 := hb8.size
      rw [snapR_yes ⟨⟨by omega, by omega⟩, ⟨by omega, by omega⟩, l5⟩] at hu8 hk8
      have ha6 := (ha4.below hb37).below hb8
      have hy8 := ho8.by_
      have hcv8 : ∀ j, (convert 28 9 (.slice A8 u8.length c8)).run Tryz.prog (w6.drewN j) = .ok (.string (bstr u8)) (w6.drewN j) := fun j => conv_by (hy8.drewN j)
      have hcv6 : ∀ j, (convert 28 9 (.slice A xs.length c)).run Tryz.prog (w6.drewN j) = .ok (.string (bstr xs)) (w6.drewN j) := fun j => conv_by (ha6.drewN j)
      have hcv80 := hcv8 0
      have hcv60 := hcv6 0
      simp only [World.drewN_zero] at hcv80 hcv60
      have hfb := sr_bytes HP.out v1 v2 v3 v4 o1' o2' o3' o4' ht hD.out
      rw [← hu5.out] at hfb
      have e9 := snapB_iff (u8 := u8) (h := xs.take r) hu8.out hfb.2 hfb.1
      have hbx : Below w.heap.size w w6 := hbw.trans ((hb37.mono z4).trans (hb8.mono (Nat.le_trans z4 z5)))
      have ho9 := (ho7.below hb8 (Nat.le_refl _)).mono z4
      by_cases h6 : u8 = xs
      · have hq : ((bstr u8).toList == (bstr xs).toList) = true := by simp [h6]
        have HR := Lib.hid ((HY.out).trans (srT_0 h4 (by rw [← hu5.out]; exact e9.1 h6)))
        clear h6 e9 hfb
        go_wp2_with fail
        ((try simp only [Exit.inBlock, Exit.then]); refine bodyPost_ret (results_tmp4 rfl _ _ _) rfl ?_)
        exact ⟨a, s, A7, c7, u7, _, Lib.hid (by rw [HR.out, hu5.out]), rfl, ho9, hbx⟩
      · have hq : ((bstr u8).toList == (bstr xs).toList) = false := by
          rw [bstr_toList, bstr_toList]
          exact beq_eq_false_iff_ne.2 h6
        have HR := Lib.hid ((HY.out).trans (srT_4 h4 (by rw [← hu5.out]; exact fun h => h6 (e9.2 h))))
        clear h6 e9 hfb
        go_wp2_with fail
        ((try simp only [Exit.inBlock, Exit.then]); refine bodyPost_ret (results_tmp4 rfl _ _ _) rfl ?_)
        exact sr_no HR hbx
    · have HR := Lib.hid (srR_no2 hp hall)
      rcases hg1 : gvAt xs 4 with ⟨a, p, t1⟩
      rcases hg2 : gvAt xs p with ⟨s, q, t2⟩
      rcases hg3 : gvAt xs q with ⟨d, r, t3⟩
      rcases hg4 : gvAt xs r with ⟨m, t, t4⟩
      rw [hg1] at hall
      simp only [hg2, hg3, hg4] at hall
      have V1 : Hid (gvV xs 4 = .tuple #[.int .i64 a, .int .i64 p, .bool t1]) := by show _ = _; rw [gvV, hg1]
      have V2 : Hid (gvV xs p = .tuple #[.int .i64 s, .int .i64 q, .bool t2]) := by show _ = _; rw [gvV, hg2]
      have V3 : Hid (gvV xs q = .tuple #[.int .i64 d, .int .i64 r, .bool t3]) := by show _ = _; rw [gvV, hg3]
      have V4 : Hid (gvV xs r = .tuple #[.int .i64 m, .int .i64 t, .bool t4]) := by show _ = _; rw [gvV, hg4]
      clear hg1 hg2 hg3 hg4 hp
      go_enter Tryz.func24, Tryz.ntmps24
      go_wp2_with fail
      refine (getVar_specR _ _ _ _ _ ha hc (by omega)).mono ?_
      rintro e w1 ⟨rfl, hb1⟩
      rw [V1.out]
      go_wp2_with fail
      refine (getVar_specR _ _ _ _ _ (ha.below hb1) hc (by omega)).mono ?_
      rintro e w2 ⟨rfl, hb2⟩
      rw [V2.out]
      go_wp2_with fail
      refine (getVar_specR _ _ _ _ _ ((ha.below hb1).below hb2) hc (by omega)).mono ?_
      rintro e w3 ⟨rfl, hb3⟩
      rw [V3.out]
      go_wp2_with fail
      refine (getVar_specR _ _ _ _ _ (((ha.below hb1).below hb2).below hb3) hc (by omega)).mono ?_
      rintro e w4 ⟨rfl, hb4⟩
      rw [V4.out]
      have hbw3 : Below w.heap.size w w3 := hb1.trans ((hb2.mono hb1.size).trans (hb3.mono (Nat.le_trans hb1.size hb2.size)))
      have hbw : Below w.heap.size w w4 := hbw3.trans (hb4.mono hbw3.size)
      cases t1
      · go_wp2_with fail
        ((try simp only [Exit.inBlock, Exit.then]); refine bodyPost_ret (results_tmp4 rfl _ _ _) rfl ?_)
        exact sr_no HR hbw
      · cases t2
        · go_wp2_with fail
          ((try simp only [Exit.inBlock, Exit.then]); refine bodyPost_ret (results_tmp4 rfl _ _ _) rfl ?_)
          exact sr_no HR hbw
        · cases t3
          · go_wp2_with fail
            ((try simp only [Exit.inBlock, Exit.then]); refine bodyPost_ret (results_tmp4 rfl _ _ _) rfl ?_)
            exact sr_no HR hbw
          · cases t4
            · go_wp2_with fail
              ((try simp only [Exit.inBlock, Exit.then]); refine bodyPost_ret (results_tmp4 rfl _ _ _) rfl ?_)
              exact sr_no HR hbw
            · simp at hall
  · have HR := Lib.hid (srR_1 hp)
    have hs : ((bstr (xs.take 4)).toList == [83, 78, 65, 80]) = false := by
      rw [bstr_toList]
      exact beq_eq_false_iff_ne.2 hp
    clear hp
    go_enter Tryz.func24, Tryz.ntmps24
    go_wp2_with fail
    ((try simp only [Exit.inBlock, Exit.then]); refine bodyPost_ret (results_tmp4 rfl _ _ _) rfl ?_)
    exact sr_no HR (Below.refl _ _)
end Go.Proofs.YtpaeffmjkkikbaaGreatDoor
