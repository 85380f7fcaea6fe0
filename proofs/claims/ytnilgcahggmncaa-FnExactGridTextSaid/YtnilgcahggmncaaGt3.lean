/- The text of a grid: the program's way. -/
import Derived.Test.YtnilgcahggmncaaGt1
import Derived.Test.YtnilgcahggmncaaGw
import Derived.Deep.RegionHeld3
import Derived.Deep.DeepCutAuto
namespace Go.Proofs.Ytnilgcahggmncaa
open Go.RowKit
set_option linter.unusedVariables false
set_option maxRecDepth 100000

set_option maxHeartbeats 4000000 in
theorem runesOf_any (b o cc p t : Nat) (cs : List Cl) (w : World) (ha : Gs w (some ⟨b, o, none⟩) cs) (hpt : p + t ≤ cs.length) (h1 : cs.length ≤ 4000) (ht : t ≤ 120) :
    Calls Try.prog 54 #[.slice (some ⟨b, o + p * 6, none⟩) t cc] w (RbPost w (rowB cs p t)) := by
  go_enter Try.func54, Try.ntmps54
  go_wp2_with fail
  have ho1 : Ob (w.alloc (.cells #[] 5)) w.heap.size (some ⟨w.heap.size, 0, none⟩) 0 [] := Ob.emptyG
  have t1 : Below w.heap.size w (w.alloc (.cells #[] 5)) := (Below.refl _ _).alloc (Nat.le_refl _) _
  generalize w.alloc (.cells #[] 5) = w1 at ho1 t1 ⊢
  go_loopw [3, 9] (fun ov iv wq => ∃ (j c2 : Nat) (A2 : Option Addr) (vs : List UInt8), j ≤ t ∧ ov = .slice A2 vs.length c2 ∧ iv = .int .i64 j ∧ Hid (vs = rowB cs p j) ∧ Ob wq w.heap.size A2 c2 vs ∧ Below w.heap.size w wq) (fun _ iv _ => t - (intOf iv).toNat)
  case atStart => exact ⟨0, 0, _, [], Nat.zero_le _, rfl, rfl, rfl, ho1, t1⟩
  case round =>
    clear ho1 t1
    obtain ⟨j, c2, A2, vs, hj, rfl, rfl, hV, hov, hbv⟩ := hrel
    have zv := hbv.size
    have hvl : vs.length ≤ 3 * j := by rw [hV.out]; exact rowB_len cs p j
    by_cases hjt : j < t
    · have hjt' : (j : Int) < (t : Int) := by omega
      obtain ⟨i2, hi2⟩ : ∃ i, i = p + j := ⟨_, rfl⟩
      have hil2 : i2 < cs.length := by omega
      obtain ⟨b2, o2, hA2, _, x0, x1, x2, x3, x4, x5⟩ := (ha.below hbv).get hil2
      obtain ⟨rfl, rfl⟩ : b = b2 ∧ o = o2 := by simpa using hA2
      have eo : o + i2 * 6 = o + p * 6 + j * 6 := by omega
      rw [eo] at x0 x1 x2 x3 x4 x5
      clear eo hA2
      obtain ⟨rr2, hrr2⟩ : ∃ rr, Hid (rr = cs[i2].1) := ⟨cs[i2].1, Lib.hid rfl⟩
      rw [← hrr2.out] at x0
      have HI3 := Lib.hid hi2
      clear hi2
      go_wp2_with fail
      have v0 : Below w.heap.size w (wr.alloc (.cells #[.int .i64 rr2, .int .i64 cs[i2].2.1, .int .i64 cs[i2].2.2.1, .bool cs[i2].2.2.2.1, .bool cs[i2].2.2.2.2.1, .bool cs[i2].2.2.2.2.2] 44)) := hbv.alloc zv _
      refine (runeBytes_impl rr2 _).mono ?_
      rintro e w3 ⟨A3, c3, rs, hrs, rfl, ho3, hb3⟩
      have hov3 := (hov.alloc _).below hb3 (Nat.le_refl _)
      have t3 := v0.trans (hb3.mono v0.size)
      have hrl : rs.length ≤ 3 := by rw [hrs.out]; exact rb_len _
      have z3 := t3.size
      go_wp2_with (at_builtin; refine wp_appN rfl _ _ rfl w.heap.size _ _ vs _ _ _ rs hov3 ho3.by_ rfl rfl (by omega) (by omega) z3 ?_; intro A4 c4 w4 us4 hu4 ho4 hb4)
      go_roundw
      case rel =>
        refine ⟨j + 1, c4, A4, us4, by omega, rfl, by go_num, ?_, ho4, t3.trans hb4⟩
        show _ = _
        rw [hu4.out, hV.out, rowB, hrs.out, hrr2.out, runeAt_get hil2, HI3.out]
      case measure => simp [intOf]; omega
    · have hjt' : ¬ (j : Int) < (t : Int) := by omega
      obtain rfl : j = t := by omega
      go_wp2_with fail
      go_ret
      exact ⟨_, _, vs, hV, rfl, hov, hbv⟩
/-- A cell of a valid grid writes at least one byte. -/
theorem textR_yes {W H : Int} {cs : List Cl} (h : gridB W H cs = true) : textR W H cs = textB cs W.toNat H.toNat := if_pos h
def lenOf : Value → Nat | .slice _ n _ => n | _ => 0
set_option maxHeartbeats 8000000 in
theorem gridText_impl (W H : Int) (A : Option Addr) (c : Nat) (cs : List Cl) (w : World) (ha : Gs w A cs) (hc : cs.length ≤ c) (h1 : cs.length ≤ 1048576) :
    Calls Try.prog 16 #[gV W H A cs.length c] w fun e w' => e = .returned (.string (bstr (textR W H cs))) ∧ Below w.heap.size w w' := by
  have hb0 : Below w.heap.size w (w.alloc (.cells #[.int .i64 W, .int .i64 H, .slice A cs.length c] 29)) := by (repeat (first | exact Below.refl _ _ | (refine Below.alloc ?_ (by first | omega | (simp; done) | (simp; omega)) _) | (refine Below.drew ?_) | (refine below_drewN ?_ _) | (refine below_at1 ?_ (by first | omega | (simp; done) | (simp; omega))) | (refine Below.setCell ?_ (by first | omega | (simp; done) | (simp; omega)) _) | (refine Below.trans ?_ (Below.mono (by assumption) (by first | omega | (simp; done) | (simp; omega))))))
  by_cases hg : gridB W H cs = true
  case neg =>
    have HG : Hid (gridB W H cs = false) := by show _ = _; simpa using hg
    have HR : Hid (textR W H cs = []) := if_neg hg
    clear hg
    generalize textR W H cs = R at HR ⊢
    go_enter Try.func16, Try.ntmps16
    go_wp2_with fail
    refine (gridOk_impl W H _ _ cs _ (ha.below hb0) h1).mono ?_
    rintro e w1 ⟨he, hb1⟩
    rw [HG.out] at he
    subst he
    go_wp2_with fail
    exact bodyPost_ret (v := .string (bstr [])) (by simp [results, Try.results16, go_sem, *]; rfl) rfl ⟨by rw [HR.out], hb0.trans (hb1.mono hb0.size)⟩
  obtain ⟨⟨s1, s2⟩, ⟨s3, s4⟩, s5, hl⟩ := grid_len hg
  have HR : Hid (textR W H cs = textB cs W.toNat H.toNat) := if_pos hg
  obtain ⟨a, rfl⟩ := Int.eq_ofNat_of_zero_le (show 0 ≤ W by omega)
  obtain ⟨bb, rfl⟩ := Int.eq_ofNat_of_zero_le (show 0 ≤ H by omega)
  have HG := Lib.hid hg
  have ha1 : 0 < a := by omega
  have hcl : cs.length ≤ 4000 := by omega
  have hlN : cs.length = bb * a := by
    have h : ((bb * a : Nat) : Int) = (a : Int) * bb := by rw [Int.mul_comm]; simp
    omega
  have HN2 := Lib.hid hlN
  have hcl0 : 0 < cs.length := by rw [hlN]; exact Nat.mul_pos (by omega) ha1
  have hTR : textR a bb cs = textB cs a bb := HR.out
  rw [hTR]
  clear hlN HR hTR hg hl s5
  obtain ⟨b, o, rfl, _⟩ := ha.get hcl0
  go_enter Try.func16, Try.ntmps16
  go_wp2_with fail
  refine (gridOk_impl a bb _ _ cs _ (ha.below hb0) h1).mono ?_
  rintro e w1 ⟨he, hb1⟩
  rw [HG.out] at he
  subst he
  obtain ⟨B1, q1, r1, z1⟩ := keep_blk hb1 (g := w.heap.size) (by repeat (first | assumption | exact heap_alloc_at _ (by first | rfl | (simp; done) | omega) | refine heap_alloc_of _ ?_ | refine heap_setCell_of _ (by first | omega | (simp; done) | (simp; omega)) ?_ | refine heap_setCell_same _ ?_ | exact heap_at1_same (by first | omega | (simp; done) | (simp; omega)) | refine heap_at1_of (by first | omega | (simp; done) | (simp; omega)) ?_))
  have t1 := hb0.trans (hb1.mono hb0.size)
  go_wp2_with fail
  have ho1 : Ob (w1.alloc (.cells #[] 5)) w1.heap.size (some ⟨w1.heap.size, 0, none⟩) 0 [] := Ob.emptyG
  have ho1' : Ob (w1.alloc (.cells #[] 5)) (w.heap.size + 1) (some ⟨w1.heap.size, 0, none⟩) 0 [] := ownsG.mono ho1 (by omega)
  have B2 : (w1.alloc (.cells #[] 5)).heap[w.heap.size]? = some (.cells #[.int .i64 a, .int .i64 bb, .slice (some ⟨b, o, none⟩) cs.length c] 29 (0, 0)) := heap_alloc_of _ B1
  have t2 : Below w.heap.size w (w1.alloc (.cells #[] 5)) := t1.alloc t1.size _
  clear ho1 B1 q1 r1
  go_loopw [3, 12] (fun ov yv wr => ∃ (k c1 : Nat) (A1 : Option Addr) (us : List UInt8), k ≤ bb ∧ ov = .slice A1 us.length c1 ∧ yv = .int .i64 k ∧ Hid (us = textB cs a k) ∧ Ob wr (w.heap.size + 1) A1 c1 us ∧ Hid (wr.heap[w.heap.size]? = some (.cells #[.int .i64 a, .int .i64 bb, .slice (some ⟨b, o, none⟩) cs.length c] 29 (0, 0))) ∧ Below w.heap.size w wr) (fun _ yv _ => bb - (intOf yv).toNat)
  case atStart => exact ⟨0, _, _, [], Nat.zero_le _, rfl, rfl, rfl, ho1', Lib.hid B2, t2⟩
  case round =>
    clear ho1' B2 t2
    obtain ⟨k, c1, A1, us, hk, rfl, rfl, hU, ho, hB, hb⟩ := hrel
    have zb := hb.size
    have hul := textB_len cs (a := a) (by omega) k
    rw [← hU.out] at hul
    have qB : ∀ i, wr.cell? ⟨w.heap.size, i, none⟩ = _ := fun i => cell_of_row wr _ i _ _ (0, 0) hB.out
    have zB := (Array.getElem?_eq_some_iff.1 hB.out).1
    by_cases hlt : k < bb
    · have hlt' : (k : Int) < bb := by omega
      obtain ⟨p, hp⟩ : ∃ p, Hid (p = k * a) := ⟨_, Lib.hid rfl⟩
      obtain ⟨q, hq⟩ : ∃ q, Hid (q = (k + 1) * a) := ⟨_, Lib.hid rfl⟩
      have hqp : q = p + a := by rw [hp.out, hq.out, Nat.succ_mul]
      have hpa : p + a ≤ cs.length := by rw [hp.out, HN2.out]; exact (row_bd (j := 0) hlt ha1).2
      have hqa : q - p = a := by omega
      go_wp2_with fail
      refine (row_any a bb _ _ _ k p q _ hp hq (by omega) (by omega) hc hcl (by omega)).mono ?_
      rintro e w2 ⟨rfl, hb2⟩
      rw [hqa]
      obtain ⟨B2, q2, r2, z2⟩ := keep_blk hb2 hB.out
      have t2 := hb.trans (hb2.mono zb)
      have ho2 := ho.below hb2 (Nat.le_refl _)
      have hA : (some (⟨b, o, none⟩ : Addr)).map (·.add (p * 6)) = some ⟨b, o + p * 6, none⟩ := by simp [Addr.add_lit]
      rw [hA]
      obtain ⟨cc, hcc⟩ : ∃ cc, cc = c - p := ⟨_, rfl⟩
      rw [← hcc]
      have hcp : a ≤ cc := by omega
      clear qB hB ho hA hqa hqp hq hcc
      go_wp2_with fail
      go_loopw [5] (fun rv wq => ∃ t : Nat, t ≤ a ∧ rv = .slice (some ⟨b, o + p * 6, none⟩) t cc ∧ Hid (trimN cs p a = trimN cs p t) ∧ w2 = wq) (fun rv _ => lenOf rv)
      case atStart => exact ⟨a, Nat.le_refl _, rfl, rfl, rfl⟩
      case round =>
        obtain ⟨t, ht, rfl, hT, hw⟩ := hrel
        subst hw
        have hpt : p + t ≤ 4000 := by omega
        have zw := t2.size
        by_cases hc' : ∃ u, t = u + 1 ∧ runeAt cs (p + u) = 32
        · obtain ⟨u, rfl, h32⟩ := hc'
          obtain ⟨i, hi⟩ : ∃ i, i = p + u := ⟨_, rfl⟩
          have hil : i < cs.length := by omega
          obtain ⟨b', o', hA, _, g0, _⟩ := (ha.below t2).get hil
          obtain ⟨rfl, rfl⟩ : b = b' ∧ o = o' := by simpa using hA
          have hr : (cs[i].1 == 32) = true := by rw [runeAt_get hil, hi, h32]; rfl
          generalize cs[i].1 = rr at hr g0
          have HT2 : Hid (trimN cs p a = trimN cs p u) := by
            show _ = _
            rw [hT.out, trimN, if_pos h32]
          rw [show o + i * 6 = o + p * 6 + u * 6 by omega] at g0
          have hua : u ≤ a := by omega
          have huc : (u : Int) ≤ (cc : Int) := by omega
          have hu0 : (0 : Int) ≤ (u : Int) := Int.natCast_nonneg u
          have hu1 : (u : Int) ≤ 4000 := by omega
          clear h32 hT hi hA
          go_wp2_with fail
          refine ⟨⟨u, hua, rfl, HT2, trivial⟩, ?_⟩
          simp [lenOf]
        · have hE : Hid (trimN cs p a = t) := by
            show _ = _
            rw [hT.out]
            cases t with
            | zero => rfl
            | succ u => rw [trimN, if_neg (fun h => hc' ⟨u, rfl, h⟩)]
          clear hT
          cases t with
          | zero =>
            clear hc'
            go_wp2_with fail
            refine (runesOf_any b o cc p 0 cs _ (ha.below t2) (by omega) hcl (by omega)).mono ?_
            rintro e w3 ⟨A3, c3, rs, hrs, rfl, ho3, hb3⟩
            obtain ⟨B3, q3, r3, z3⟩ := keep_blk hb3 B2
            have ho23 := ho2.below hb3 (Nat.le_refl _)
            have t3 := t2.trans (hb3.mono zw)
            have hrl : rs.length ≤ 360 := by rw [hrs.out]; have := rowB_len cs p (0); omega
            have zz3 : w.heap.size + 1 ≤ w3.heap.size := z3
            clear B2 q2 r2 z2
            go_wp2_with (first
              | (at_builtin; refine wp_appN rfl _ _ rfl (w.heap.size + 1) _ _ us _ _ _ rs ho23 ho3.by_ rfl rfl (by omega) (by omega) zz3 ?_; intro A4 c4 w4 us4 hu4 ho4 hb4; have z4 := hb4.size; have hu4b : us4.length ≤ 100000 := (by rw [hu4.out, List.length_append]; omega))
              | (at_builtin; refine wp_app1 rfl _ _ rfl (w.heap.size + 1) _ _ us4 _ _ 10 ho4 rfl rfl rfl (by omega) (by omega) ?_; intro A5 c5 w5 us5 hu5 ho5 hb5))
            have B5 : w5.heap[w.heap.size]? = some (.cells #[.int .i64 a, .int .i64 bb, .slice (some ⟨b, o, none⟩) cs.length c] 29 (0, 0)) := (hb5.block _ (by omega)).trans ((hb4.block _ (by omega)).trans B3)
            refine ⟨⟨k + 1, c5, A5, us5, by omega, rfl, rfl, ?_, ho5, B5, t3.trans ((hb4.mono (by omega)).trans (hb5.mono (by omega)))⟩, ?_⟩
            · show _ = _
              rw [hu5.out, hu4.out, hU.out, hrs.out, textB, hp.out.symm, hE.out, List.append_assoc]
            · simp [intOf]
              omega
          | succ u =>
            obtain ⟨i, hi⟩ : ∃ i, i = p + u := ⟨_, rfl⟩
            have hil : i < cs.length := by omega
            obtain ⟨b', o', hA, _, g0, _⟩ := (ha.below t2).get hil
            obtain ⟨rfl, rfl⟩ : b = b' ∧ o = o' := by simpa using hA
            have hr : (cs[i].1 == 32) = false := by
              rw [runeAt_get hil, hi]
              simp
              intro h
              exact hc' ⟨u, rfl, h⟩
            generalize cs[i].1 = rr at hr g0
            rw [show o + i * 6 = o + p * 6 + u * 6 by omega] at g0
            have hu0 : (0 : Int) ≤ (u : Int) := Int.natCast_nonneg u
            have hu1 : (u : Int) ≤ 4000 := by omega
            clear hc' hi hA
            go_wp2_with fail
            refine (runesOf_any b o cc p (u + 1) cs _ (ha.below t2) (by omega) hcl (by omega)).mono ?_
            rintro e w3 ⟨A3, c3, rs, hrs, rfl, ho3, hb3⟩
            obtain ⟨B3, q3, r3, z3⟩ := keep_blk hb3 B2
            have ho23 := ho2.below hb3 (Nat.le_refl _)
            have t3 := t2.trans (hb3.mono zw)
            have hrl : rs.length ≤ 360 := by rw [hrs.out]; have := rowB_len cs p ((u + 1)); omega
            have zz3 : w.heap.size + 1 ≤ w3.heap.size := z3
            clear B2 q2 r2 z2
            go_wp2_with (first
              | (at_builtin; refine wp_appN rfl _ _ rfl (w.heap.size + 1) _ _ us _ _ _ rs ho23 ho3.by_ rfl rfl (by omega) (by omega) zz3 ?_; intro A4 c4 w4 us4 hu4 ho4 hb4; have z4 := hb4.size; have hu4b : us4.length ≤ 100000 := (by rw [hu4.out, List.length_append]; omega))
              | (at_builtin; refine wp_app1 rfl _ _ rfl (w.heap.size + 1) _ _ us4 _ _ 10 ho4 rfl rfl rfl (by omega) (by omega) ?_; intro A5 c5 w5 us5 hu5 ho5 hb5))
            have B5 : w5.heap[w.heap.size]? = some (.cells #[.int .i64 a, .int .i64 bb, .slice (some ⟨b, o, none⟩) cs.length c] 29 (0, 0)) := (hb5.block _ (by omega)).trans ((hb4.block _ (by omega)).trans B3)
            refine ⟨⟨k + 1, c5, A5, us5, by omega, rfl, rfl, ?_, ho5, B5, t3.trans ((hb4.mono (by omega)).trans (hb5.mono (by omega)))⟩, ?_⟩
            · show _ = _
              rw [hu5.out, hu4.out, hU.out, hrs.out, textB, hp.out.symm, hE.out, List.append_assoc]
            · simp [intOf]
              omega
    · have hlt' : ¬ (k : Int) < bb := by omega
      obtain rfl : k = bb := by omega
      have hcv : (convert 33 9 (.slice A1 us.length c1)).run Try.prog wr = .ok (.string (bstr us)) wr := conv_by ho.by_
      go_wp2_with fail
      exact bodyPost_ret (v := .string (bstr us)) (by simp [results, Try.results16, go_sem, *]) rfl ⟨by rw [hU.out], hb⟩
end Go.Proofs.Ytnilgcahggmncaa
