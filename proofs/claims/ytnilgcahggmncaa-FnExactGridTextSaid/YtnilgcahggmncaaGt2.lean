/- The text of a grid: the reference's way. -/
import Derived.Test.YtnilgcahggmncaaGt1
import Derived.Test.YtnilgcahggmncaaGw
import Derived.Deep.RegionHeld3
import Derived.Deep.DeepCutAuto
namespace Go.Proofs.Ytnilgcahggmncaa
open Go.RowKit
set_option linter.unusedVariables false
set_option maxRecDepth 100000

set_option maxHeartbeats 4000000 in
theorem gridText_spec (W H : Int) (A : Option Addr) (c : Nat) (cs : List Cl) (w : World) (ha : Gs w A cs) (h1 : cs.length ≤ 1048576) :
    Calls Try.prog 14 #[gV W H A cs.length c] w fun e w' => e = .returned (.string (bstr (textR W H cs))) ∧ Below w.heap.size w w' := by
  have hb0 : Below w.heap.size w (w.alloc (.cells #[.int .i64 W, .int .i64 H, .slice A cs.length c] 29)) := by (repeat (first | exact Below.refl _ _ | (refine Below.alloc ?_ (by first | omega | (simp; done) | (simp; omega)) _) | (refine Below.drew ?_) | (refine below_drewN ?_ _) | (refine below_at1 ?_ (by first | omega | (simp; done) | (simp; omega))) | (refine Below.setCell ?_ (by first | omega | (simp; done) | (simp; omega)) _) | (refine Below.trans ?_ (Below.mono (by assumption) (by first | omega | (simp; done) | (simp; omega))))))
  by_cases hg : gridB W H cs = true
  case neg =>
    have HG : Hid (gridB W H cs = false) := by show _ = _; simpa using hg
    have HR : Hid (textR W H cs = []) := if_neg hg
    clear hg
    generalize textR W H cs = R at HR ⊢
    go_enter Try.func14, Try.ntmps14
    go_wp2_with fail
    have hb1 : Below w.heap.size w ((w.alloc (.cells #[.int .i64 W, .int .i64 H, .slice A cs.length c] 29)).alloc (.cells #[] 5)) := by (repeat (first | exact Below.refl _ _ | (refine Below.alloc ?_ (by first | omega | (simp; done) | (simp; omega)) _) | (refine Below.drew ?_) | (refine below_drewN ?_ _) | (refine below_at1 ?_ (by first | omega | (simp; done) | (simp; omega))) | (refine Below.setCell ?_ (by first | omega | (simp; done) | (simp; omega)) _) | (refine Below.trans ?_ (Below.mono (by assumption) (by first | omega | (simp; done) | (simp; omega))))))
    have HB1 : Hid (((w.alloc (.cells #[.int .i64 W, .int .i64 H, .slice A cs.length c] 29)).alloc (.cells #[] 5)).heap[w.heap.size]? = some (.cells #[.int .i64 W, .int .i64 H, .slice A cs.length c] 29 (0, 0))) := heap_alloc_of _ (heap_alloc_new _ _)
    generalize (w.alloc (.cells #[.int .i64 W, .int .i64 H, .slice A cs.length c] 29)).alloc (.cells #[] 5) = w1 at hb1 HB1 ⊢
    go_loopw [3, 4] (fun ov yv wr => ov = .slice (some ⟨w.heap.size + 1, 0, none⟩) 0 0 ∧ yv = .int .i64 0 ∧ w1 = wr) (fun _ _ _ => 0)
    case atStart => exact ⟨rfl, rfl, rfl⟩
    case round =>
      obtain ⟨rfl, rfl, hw⟩ := hrel
      subst hw
      have qB : ∀ i, w1.cell? ⟨w.heap.size, i, none⟩ = _ := fun i => cell_of_row w1 _ i _ _ (0, 0) HB1.out
      have rB : ∀ i, w1.frozen? ⟨w.heap.size, i, none⟩ = false := fun i => by simp [World.frozen?, HB1.out]
      have hcv : ∀ w', (convert 33 9 (.slice (some ⟨w.heap.size + 1, 0, none⟩) 0 0)).run Try.prog w' = .ok (.string (bstr [])) w' := fun w' => conv_by (xs := []) (.inl rfl)
      have hcv1 := hcv w1
      by_cases h0 : (0 : Int) < H
      · go_wp2_with fail
        refine (gridOk_spec W H _ _ cs _ (ha.below hb1) h1).mono ?_
        rintro e w2 ⟨he, hb2⟩
        rw [HG.out] at he
        subst he
        have hcv2 := hcv w2
        go_wp2_with fail
        exact bodyPost_ret (v := .string (bstr [])) (by simp [results, Try.results14, go_sem, *]) rfl ⟨by rw [HR.out], hb1.trans (hb2.mono hb1.size)⟩
      · go_wp2_with fail
        exact bodyPost_ret (v := .string (bstr [])) (by simp [results, Try.results14, go_sem, *]) rfl ⟨by rw [HR.out], hb1⟩
  obtain ⟨⟨s1, s2⟩, ⟨s3, s4⟩, s5, hl⟩ := grid_len hg
  have HR : Hid (textR W H cs = textB cs W.toNat H.toNat) := if_pos hg
  obtain ⟨a, rfl⟩ := Int.eq_ofNat_of_zero_le (show 0 ≤ W by omega)
  obtain ⟨bb, rfl⟩ := Int.eq_ofNat_of_zero_le (show 0 ≤ H by omega)
  have HG := Lib.hid hg
  have ha1 : 0 < a := by omega
  have hcl : cs.length ≤ 4000 := by omega
  have hlN : cs.length = bb * a := by
    have h : ((bb * a : Nat) : Int) = (a : Int) * bb := by rw [Int.mul_comm]; simp
    omega
  have HN2 := Lib.hid hlN
  have hcl0 : 0 < cs.length := by rw [hlN]; exact Nat.mul_pos (by omega) ha1
  have hTR : textR a bb cs = textB cs a bb := HR.out
  rw [hTR]
  clear hlN HR hTR hg hl s5
  obtain ⟨b, o, rfl, _⟩ := ha.get hcl0
  go_enter Try.func14, Try.ntmps14
  go_wp2_with fail
  have t1 : Below w.heap.size w ((w.alloc (.cells #[.int .i64 a, .int .i64 bb, .slice (some ⟨b, o, none⟩) cs.length c] 29)).alloc (.cells #[] 5)) := by (repeat (first | exact Below.refl _ _ | (refine Below.alloc ?_ (by first | omega | (simp; done) | (simp; omega)) _) | (refine Below.drew ?_) | (refine below_drewN ?_ _) | (refine below_at1 ?_ (by first | omega | (simp; done) | (simp; omega))) | (refine Below.setCell ?_ (by first | omega | (simp; done) | (simp; omega)) _) | (refine Below.trans ?_ (Below.mono (by assumption) (by first | omega | (simp; done) | (simp; omega))))))
  have HB1 : Hid (((w.alloc (.cells #[.int .i64 a, .int .i64 bb, .slice (some ⟨b, o, none⟩) cs.length c] 29)).alloc (.cells #[] 5)).heap[w.heap.size]? = some (.cells #[.int .i64 a, .int .i64 bb, .slice (some ⟨b, o, none⟩) cs.length c] 29 (0, 0))) := heap_alloc_of _ (heap_alloc_new _ _)
  have ho1 : Ob ((w.alloc (.cells #[.int .i64 a, .int .i64 bb, .slice (some ⟨b, o, none⟩) cs.length c] 29)).alloc (.cells #[] 5)) (w.heap.size + 1) (some ⟨w.heap.size + 1, 0, none⟩) 0 [] := by
    have := Ob.emptyG (w := w.alloc (.cells #[.int .i64 a, .int .i64 bb, .slice (some ⟨b, o, none⟩) cs.length c] 29))
    simpa using this
  generalize (w.alloc (.cells #[.int .i64 a, .int .i64 bb, .slice (some ⟨b, o, none⟩) cs.length c] 29)).alloc (.cells #[] 5) = w1 at t1 HB1 ho1 ⊢
  clear hb0
  go_loopw [3, 4] (fun ov yv wr => ∃ (k c1 : Nat) (A1 : Option Addr) (us : List UInt8), k ≤ bb ∧ ov = .slice A1 us.length c1 ∧ yv = .int .i64 k ∧ Hid (us = textB cs a k) ∧ Ob wr (w.heap.size + 1) A1 c1 us ∧ Hid (wr.heap[w.heap.size]? = some (.cells #[.int .i64 a, .int .i64 bb, .slice (some ⟨b, o, none⟩) cs.length c] 29 (0, 0))) ∧ Below w.heap.size w wr) (fun _ yv _ => bb - (intOf yv).toNat)
  case atStart => exact ⟨0, _, _, [], Nat.zero_le _, rfl, rfl, rfl, ho1, HB1, t1⟩
  case round =>
    clear ho1 HB1 t1
    obtain ⟨k, c1, A1, us, hk, rfl, rfl, hU, ho, hB, hb⟩ := hrel
    have zb := hb.size
    have hul := textB_len cs (a := a) (by omega) k
    rw [← hU.out] at hul
    have qB : ∀ i, wr.cell? ⟨w.heap.size, i, none⟩ = _ := fun i => cell_of_row wr _ i _ _ (0, 0) hB.out
    have rB : ∀ i, wr.frozen? ⟨w.heap.size, i, none⟩ = false := fun i => by simp [World.frozen?, hB.out]
    have zB := (Array.getElem?_eq_some_iff.1 hB.out).1
    by_cases hlt : k < bb
    · have hlt' : (k : Int) < bb := by omega
      obtain ⟨p, hp⟩ : ∃ p, p = k * a := ⟨_, rfl⟩
      have hpa : p + a ≤ cs.length := by rw [hp, HN2.out]; exact (row_bd (j := 0) hlt ha1).2
      have HE1 := Lib.hid (mul_nat hp (by omega))
      have HP := Lib.hid hp
      clear hp
      go_wp2_with fail
      refine (gridOk_spec a bb _ _ cs _ (ha.below hb) h1).mono ?_
      rintro e w2 ⟨he, hb2⟩
      rw [HG.out] at he
      subst he
      obtain ⟨B2, q2, r2, z2⟩ := keep_blk hb2 hB.out
      have t2 := hb.trans (hb2.mono zb)
      have ho2 := ho.below hb2 (Nat.le_refl _)
      clear qB rB hB ho
      go_wp2_with fail
      go_loopw [5] (fun ev wq => ∃ t : Nat, t ≤ a ∧ ev = .int .i64 t ∧ Hid (trimN cs p a = trimN cs p t) ∧ w2 = wq) (fun ev _ => (intOf ev).toNat)
      case atStart => exact ⟨a, Nat.le_refl _, rfl, rfl, rfl⟩
      case round =>
        obtain ⟨t, ht, rfl, hT, hw⟩ := hrel
        subst hw
        have hpt : p + t ≤ 4000 := by omega
        have zw := t2.size
        have hp0 : (0 : Int) ≤ (p : Int) := Int.natCast_nonneg p
        by_cases hc' : ∃ u, t = u + 1 ∧ runeAt cs (p + u) = 32
        · obtain ⟨u, rfl, h32⟩ := hc'
          obtain ⟨i, hi⟩ : ∃ i, i = p + u := ⟨_, rfl⟩
          have hil : i < cs.length := by omega
          obtain ⟨b', o', hA, _, g0, _⟩ := (ha.below t2).get hil
          obtain ⟨rfl, rfl⟩ : b = b' ∧ o = o' := by simpa using hA
          have hr : (cs[i].1 == 32) = true := by rw [runeAt_get hil, hi, h32]; rfl
          generalize cs[i].1 = rr at hr g0
          have HT2 : Hid (trimN cs p a = trimN cs p u) := by
            show _ = _
            rw [hT.out, trimN, if_pos h32]
          have hua : u ≤ a := by omega
          have hu0 : (0 : Int) ≤ (u : Int) := Int.natCast_nonneg u
          have hic : (i : Int) < cs.length := by omega
          have hi0 : (0 : Int) ≤ (i : Int) := Int.natCast_nonneg i
          have hpu : (p : Int) + ((u : Int) + 1) ≤ 4000 := by omega
          have ei : ∀ [Inhabited Nat], (p : Int) + ((u : Int) + 1) - 1 = (i : Int) := by omega
          have e1 : ∀ [Inhabited Nat], wrap64 ((k : Int) * (a : Int)) = (p : Int) := HE1.out
          clear h32 hT hi hA hpt
          go_wp2_with fail
          clear e1 ei
          refine ⟨⟨u, hua, rfl, HT2, trivial⟩, ?_⟩
          simp [intOf]
          try omega
        · have hE : Hid (trimN cs p a = t) := by
            show _ = _
            rw [hT.out]
            cases t with
            | zero => rfl
            | succ u => rw [trimN, if_neg (fun h => hc' ⟨u, rfl, h⟩)]
          clear hT
          cases t with
          | zero =>
            clear hc'
            go_wp2_with fail
            go_loopw [3, 6] (fun ov xv wq => ∃ (j c2 : Nat) (A2 : Option Addr) (vs : List UInt8), j ≤ 0 ∧ ov = .slice A2 vs.length c2 ∧ xv = .int .i64 j ∧ Hid (vs = us ++ rowB cs p j) ∧ Ob wq (w.heap.size + 1) A2 c2 vs ∧ Hid (wq.heap[w.heap.size]? = some (.cells #[.int .i64 a, .int .i64 bb, .slice (some ⟨b, o, none⟩) cs.length c] 29 (0, 0))) ∧ Below w.heap.size w wq) (fun _ xv _ => 0 - (intOf xv).toNat)
            case atStart => exact ⟨0, c1, A1, us, Nat.zero_le _, rfl, rfl, (by show _ = _; simp [rowB]), ho2, Lib.hid B2, t2⟩
            case round =>
              obtain ⟨j, c2, A2, vs, hj, rfl, rfl, hV, hov, hBv, hbv⟩ := hrel
              clear B2 q2 r2 ho2 z2
              have zv := hbv.size
              have hvl : vs.length ≤ us.length + 3 * j := by rw [hV.out, List.length_append]; have := rowB_len cs p j; omega
              have qV : ∀ i, wr.cell? ⟨w.heap.size, i, none⟩ = _ := fun i => cell_of_row wr _ i _ _ (0, 0) hBv.out
              have zB2 := (Array.getElem?_eq_some_iff.1 hBv.out).1
              by_cases hjt : j < 0
              · exact absurd hjt (Nat.not_lt_zero _)
              · have hjt' : ¬ (j : Int) < ((0 : Nat) : Int) := by omega
                have hjt2 : ¬ (j : Int) < 0 := by omega
                have HJ : Hid (j = 0) := by show _ = _; omega
                go_wp2_with (at_builtin; refine wp_app1 rfl _ _ rfl (w.heap.size + 1) _ _ vs _ _ 10 hov rfl rfl rfl (by omega) (by omega) ?_; intro A4 c4 w4 us4 hu4 ho4 hb4)
                have B4 : w4.heap[w.heap.size]? = some (.cells #[.int .i64 a, .int .i64 bb, .slice (some ⟨b, o, none⟩) cs.length c] 29 (0, 0)) := (hb4.block _ (by omega)).trans hBv.out
                refine ⟨⟨k + 1, c4, A4, us4, by omega, rfl, by go_num, ?_, ho4, B4, hbv.trans (hb4.mono (by omega))⟩, ?_⟩
                · show _ = _
                  rw [hu4.out, hV.out, hU.out, textB, HP.out.symm, hE.out, HJ.out, List.append_assoc]
                · simp [intOf]
                  omega

          | succ u =>
            obtain ⟨i, hi⟩ : ∃ i, i = p + u := ⟨_, rfl⟩
            have hil : i < cs.length := by omega
            obtain ⟨b', o', hA, _, g0, _⟩ := (ha.below t2).get hil
            obtain ⟨rfl, rfl⟩ : b = b' ∧ o = o' := by simpa using hA
            have hr : (cs[i].1 == 32) = false := by
              rw [runeAt_get hil, hi]
              simp
              intro h
              exact hc' ⟨u, rfl, h⟩
            generalize cs[i].1 = rr at hr g0
            have hu0 : (0 : Int) ≤ (u : Int) := Int.natCast_nonneg u
            have hic : (i : Int) < cs.length := by omega
            have hi0 : (0 : Int) ≤ (i : Int) := Int.natCast_nonneg i
            have hpu : (p : Int) + ((u : Int) + 1) ≤ 4000 := by omega
            have ei : ∀ [Inhabited Nat], (p : Int) + ((u : Int) + 1) - 1 = (i : Int) := by omega
            have e1 : ∀ [Inhabited Nat], wrap64 ((k : Int) * (a : Int)) = (p : Int) := HE1.out
            clear hc' hi hA
            go_wp2_with fail
            clear e1 ei
            go_loopw [3, 6] (fun ov xv wq => ∃ (j c2 : Nat) (A2 : Option Addr) (vs : List UInt8), j ≤ (u + 1) ∧ ov = .slice A2 vs.length c2 ∧ xv = .int .i64 j ∧ Hid (vs = us ++ rowB cs p j) ∧ Ob wq (w.heap.size + 1) A2 c2 vs ∧ Hid (wq.heap[w.heap.size]? = some (.cells #[.int .i64 a, .int .i64 bb, .slice (some ⟨b, o, none⟩) cs.length c] 29 (0, 0))) ∧ Below w.heap.size w wq) (fun _ xv _ => (u + 1) - (intOf xv).toNat)
            case atStart => exact ⟨0, c1, A1, us, Nat.zero_le _, rfl, rfl, (by show _ = _; simp [rowB]), ho2, Lib.hid B2, t2⟩
            case round =>
              obtain ⟨j, c2, A2, vs, hj, rfl, rfl, hV, hov, hBv, hbv⟩ := hrel
              clear B2 q2 r2 ho2 z2
              have zv := hbv.size
              have hvl : vs.length ≤ us.length + 3 * j := by rw [hV.out, List.length_append]; have := rowB_len cs p j; omega
              have qV : ∀ i, wr.cell? ⟨w.heap.size, i, none⟩ = _ := fun i => cell_of_row wr _ i _ _ (0, 0) hBv.out
              have zB2 := (Array.getElem?_eq_some_iff.1 hBv.out).1
              by_cases hjt : j < (u + 1)
              · have hjt' : (j : Int) < ((u + 1 : Nat) : Int) := by omega
                have hjt2 : (j : Int) < (u : Int) + 1 := by omega
                obtain ⟨i2, hi2⟩ : ∃ i, i = p + j := ⟨_, rfl⟩
                have hil2 : i2 < cs.length := by omega
                obtain ⟨b2, o2, hA2, _, g02, _⟩ := (ha.below hbv).get hil2
                obtain ⟨rfl, rfl⟩ : b = b2 ∧ o = o2 := by simp at hA2; exact hA2
                obtain ⟨rr2, hrr2⟩ : ∃ rr, Hid (rr = cs[i2].1) := ⟨cs[i2].1, Lib.hid rfl⟩
                rw [← hrr2.out] at g02
                have hic2 : (i2 : Int) < cs.length := by omega
                have hi20 : (0 : Int) ≤ (i2 : Int) := Int.natCast_nonneg i2
                have hpj : (p : Int) + (j : Int) ≤ 4000 := by omega
                have e3 : ∀ [Inhabited Nat], (p : Int) + (j : Int) = (i2 : Int) := by omega
                have e1 : ∀ [Inhabited Nat], wrap64 ((k : Int) * (a : Int)) = (p : Int) := HE1.out
                have HI3 := Lib.hid hi2
                clear hi2 hA2
                go_wp2_with fail
                refine (runeBytes_spec rr2 _).mono ?_
                rintro e w3 ⟨A3, c3, rs, hrs, rfl, ho3, hb3⟩
                clear e1 e3
                obtain ⟨B3, q3, r3, z3⟩ := keep_blk hb3 hBv.out
                have hov3 := hov.below hb3 (Nat.le_refl _)
                have t3 := hbv.trans (hb3.mono zv)
                have hrl : rs.length ≤ 3 := by rw [hrs.out]; exact rb_len _
                go_wp2_with (at_builtin; refine wp_appN rfl _ _ rfl (w.heap.size + 1) _ _ vs _ _ _ rs hov3 ho3.by_ rfl rfl (by omega) (by omega) (by omega) ?_; intro A4 c4 w4 us4 hu4 ho4 hb4)
                have B4 : w4.heap[w.heap.size]? = some (.cells #[.int .i64 a, .int .i64 bb, .slice (some ⟨b, o, none⟩) cs.length c] 29 (0, 0)) := (hb4.block _ (by omega)).trans B3
                have HV4 : Hid (us4 = us ++ rowB cs p (j + 1)) := by
                  show _ = _
                  rw [hu4.out, hV.out, rowB, List.append_assoc, hrs.out, hrr2.out, runeAt_get hil2, HI3.out]
                go_roundw
                case rel =>
                  have hK4 := t3.trans (hb4.mono (Nat.le_trans (by omega : w.heap.size ≤ w.heap.size + 1) (Nat.le_refl _)))
                  first
                    | exact ⟨j + 1, c4, A4, us4, by omega, rfl, by go_num, HV4, ho4, B4, hK4⟩
                    | ((repeat apply Exists.intro); exact ⟨⟨j + 1, c4, A4, us4, by omega, rfl, by go_num, HV4, ho4, B4, hK4⟩, rfl⟩)
                    | trace_state
                case measure => simp [intOf]; omega
              · have hjt' : ¬ (j : Int) < ((u + 1 : Nat) : Int) := by omega
                have hjt2 : ¬ (j : Int) < (u : Int) + 1 := by omega
                have HJ : Hid (j = (u + 1)) := by show _ = _; omega
                go_wp2_with (at_builtin; refine wp_app1 rfl _ _ rfl (w.heap.size + 1) _ _ vs _ _ 10 hov rfl rfl rfl (by omega) (by omega) ?_; intro A4 c4 w4 us4 hu4 ho4 hb4)
                have B4 : w4.heap[w.heap.size]? = some (.cells #[.int .i64 a, .int .i64 bb, .slice (some ⟨b, o, none⟩) cs.length c] 29 (0, 0)) := (hb4.block _ (by omega)).trans hBv.out
                refine ⟨⟨k + 1, c4, A4, us4, by omega, rfl, by go_num, ?_, ho4, B4, hbv.trans (hb4.mono (by omega))⟩, ?_⟩
                · show _ = _
                  rw [hu4.out, hV.out, hU.out, textB, HP.out.symm, hE.out, HJ.out, List.append_assoc]
                · simp [intOf]
                  omega

    · have hlt' : ¬ (k : Int) < bb := by omega
      obtain rfl : k = bb := by omega
      have hcv : (convert 33 9 (.slice A1 us.length c1)).run Try.prog wr = .ok (.string (bstr us)) wr := conv_by ho.by_
      go_wp2_with fail
      exact bodyPost_ret (v := .string (bstr us)) (by simp [results, Try.results14, go_sem, *]) rfl ⟨by rw [hU.out], hb⟩
end Go.Proofs.Ytnilgcahggmncaa
