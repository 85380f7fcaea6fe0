/- The newest snapshot: the reference. -/
import Derived.Test.YtpaeffmjkkikbaaGreatDoorNx
import Derived.Test.YtpaeffmjkkikbaaGreatDoorKd
import Derived.Test.YtpaeffmjkkikbaaGreatDoorP24
import Derived.Test.YtpaeffmjkkikbaaGreatDoorQb
namespace Go.Proofs.YtpaeffmjkkikbaaGreatDoor
open Go.RowKit
set_option linter.unusedVariables false
set_option maxRecDepth 100000

theorem NwPost.mk {w w' : World} {n m : Int} {A' : Option Addr} {c' : Nat} {us : List UInt8} {r : Int × Int × List UInt8} (h : Hid (r = (n, m, us))) (ho : Ob w' w.heap.size A' c' us) (hb : Below w.heap.size w w') :
    NwPost w r (.returned (.tuple #[.int .i64 n, .int .i64 m, .slice A' us.length c'])) w' := ⟨n, m, A', c', us, h, rfl, ho, hb⟩
theorem nw_step4 {R : ByteArray → List UInt8} {dir : List Lk} {j : Nat} (hj : j < dir.length) {b s : Int} {us B : List UInt8} {g t k : Int} {ys : List UInt8} (h : nwR R (dir.take j) = (b, s, us)) (hB : R dir[j].1 = B) (hr : srR B = (g, t, ys, k)) :
    nwR R (dir.take (j + 1)) = if k = 0 ∧ bstr (nmL snapS g) = dir[j].1 ∧ b < g then (g, t, ys) else (b, s, us) := by
  rw [nwR_succ R dir j hj, h, nw_is (R := R) (a := (b, s, us)) (l := dir[j]) (n := g) (m := t) (k := k) (us := ys) (by rw [hB]; exact hr)]
set_option maxHeartbeats 4000000 in
theorem newest_spec (r f n : Int) (FA : Option Addr) (es fs : List Fl) (c1 : Nat) (KA : Option Addr) (ks : List Lk) (c2 : Nat) (TA : Option Addr) (ts : List Tn) (c3 : Nat) (w : World) (hr : Dr w FA fs KA ks TA ts) (hd : Hid (fs.map fc = es.map fc)) (hg : Good es ks ts) :
    Calls Tryz.prog 6 #[dkV r f n FA es.length c1 KA ks.length c2 TA ts.length c3] w (NwPost w (nwV r f n (es.map fc) (ftot es) ks ts)) := by
  have hb1 : Below w.heap.size w ((w.alloc (.cells (dkC r f n FA es.length c1 KA ks.length c2 TA ts.length c3) 35)).alloc (.cells #[] 5)) := by (repeat (first | exact Below.refl _ _ | (refine Below.alloc ?_ (by first | omega | (simp; done) | (simp; omega)) _) | (refine Below.drew ?_) | (refine below_drewN ?_ _) | (refine below_at1 ?_ (by first | omega | (simp; done) | (simp; omega))) | (refine Below.setCell ?_ (by first | omega | (simp; done) | (simp; omega)) _) | (refine Below.trans ?_ (Below.mono (by assumption) (by first | omega | (simp; done) | (simp; omega))))))
  have B0 : ((w.alloc (.cells (dkC r f n FA es.length c1 KA ks.length c2 TA ts.length c3) 35)).alloc (.cells #[] 5)).heap[w.heap.size]? = some (.cells (dkC r f n FA es.length c1 KA ks.length c2 TA ts.length c3) 35 (0, 0)) := (by repeat (first | assumption | exact heap_alloc_at _ (by first | rfl | (simp; done) | omega) | refine heap_alloc_of _ ?_ | refine heap_setCell_of _ (by first | omega | (simp; done) | (simp; omega)) ?_ | refine heap_setCell_same _ ?_ | exact heap_at1_same (by first | omega | (simp; done) | (simp; omega)) | refine heap_at1_of (by first | omega | (simp; done) | (simp; omega)) ?_))
  have O0 : Ob ((w.alloc (.cells (dkC r f n FA es.length c1 KA ks.length c2 TA ts.length c3) 35)).alloc (.cells #[] 5)) (w.heap.size + 1) (some ⟨w.heap.size + 1, 0, none⟩) 0 [] := by
    simpa using (Ob.empty (w := w.alloc (.cells (dkC r f n FA es.length c1 KA ks.length c2 TA ts.length c3) 35)))
  have cD := diskDir_spec r f n FA es fs c1 KA ks c2 TA ts c3 _ (hr.below hb1) hd hg
  have hlen := dirV_len r f n (es.map fc) (ftot es) ks ts
  have cR := fun nm W (hb : Below w.heap.size w W) => diskRead_spec r f n FA es fs c1 KA ks c2 TA ts c3 nm W (hr.below hb) hd hg
  have hbl := fun nm => bodV_len r f n es (ftot es) ks ts nm hg.ey
  obtain ⟨V, hV⟩ : ∃ V, Hid (nwV r f n (es.map fc) (ftot es) ks ts = V) := ⟨_, Lib.hid rfl⟩
  have HV := hV.out
  unfold nwV at HV
  obtain ⟨dir, hdir⟩ : ∃ dir, Hid (dirV r f n (es.map fc) (ftot es) ks ts = dir) := ⟨_, Lib.hid rfl⟩
  rw [hdir.out] at cD hlen HV
  have HV := Lib.hid HV
  rw [hV.out]
  clear hr hd hg hdir hV
  go_enter Tryz.func6, Tryz.ntmps6
  go_wp2_with fail
  refine cD.mono ?_
  rintro e w1 ⟨A1, d1, rfl, ho1, hb2⟩
  have t1 := hb1.trans (hb2.mono hb1.size)
  have z0 : w.heap.size < (((w.alloc (.cells (dkC r f n FA es.length c1 KA ks.length c2 TA ts.length c3) 35)).alloc (.cells #[] 5))).heap.size := by simp; omega
  have B1 := (hb2.block w.heap.size z0).trans B0
  have O1 : Ob w1 w.heap.size (some ⟨w.heap.size + 1, 0, none⟩) 0 [] := (O0.below hb2 (Nat.le_refl _)).mono (by omega)
  have hdr := ho1.sl lk2
  have z1 : w.heap.size < w1.heap.size := Nat.lt_of_lt_of_le z0 hb2.size
  clear B0 O0 cD hb1 hb2 z0 ho1
  go_wp2_with fail
  go_loopw [20, 5, 6, 7] (fun iv bv sv dv wr => ∃ (j : Nat) (b s : Int) (A5 : Option Addr) (c5 : Nat) (us : List UInt8), j ≤ dir.length ∧ iv = .int .i64 j ∧ bv = .int .i64 b ∧ sv = .int .i64 s ∧ dv = .slice A5 us.length c5 ∧ Ob wr w.heap.size A5 c5 us ∧ Hid (nwR (bodV r f n (es.map fc) (ftot es) ks ts) (dir.take j) = (b, s, us)) ∧ Below w1.heap.size w1 wr) (fun iv _ _ _ _ => dir.length - (intOf iv).toNat)
  case atStart => exact ⟨0, 0, 0, some ⟨w.heap.size + 1, 0, none⟩, 0, [], Nat.zero_le _, rfl, rfl, rfl, rfl, O1, Lib.hid rfl, Below.refl _ _⟩
  case round =>
    clear O1
    obtain ⟨j, b, s, A5, c5, us, hj, rfl, rfl, rfl, rfl, ho, hst, hb⟩ := hrel
    have zb := hb.size
    have hB := (hb.block _ z1).trans B1
    have zBr : w.heap.size < wr.heap.size := by omega
    have t2 := t1.trans (hb.mono t1.size)
    by_cases hlt : j < dir.length
    · obtain ⟨b', o, rfl, hbs, x0, x1⟩ := Ks.get (SlL.below hdr hb) hlt
      have hlt' : (j : Int) < dir.length := by omega
      have q0 : wr.cell? ⟨w.heap.size, 0, none⟩ = some (.int .i64 r) := cell_of_row wr w.heap.size 0 _ _ (0, 0) hB
      have q1 : wr.cell? ⟨w.heap.size, 1, none⟩ = some (.int .i64 f) := cell_of_row wr w.heap.size 1 _ _ (0, 0) hB
      have q2 : wr.cell? ⟨w.heap.size, 2, none⟩ = some (.int .i64 n) := cell_of_row wr w.heap.size 2 _ _ (0, 0) hB
      have q3 : wr.cell? ⟨w.heap.size, 3, none⟩ = some (.slice FA es.length c1) := cell_of_row wr w.heap.size 3 _ _ (0, 0) hB
      have q4 : wr.cell? ⟨w.heap.size, 4, none⟩ = some (.slice KA ks.length c2) := cell_of_row wr w.heap.size 4 _ _ (0, 0) hB
      have q5 : wr.cell? ⟨w.heap.size, 5, none⟩ = some (.slice TA ts.length c3) := cell_of_row wr w.heap.size 5 _ _ (0, 0) hB
      obtain ⟨B, hBo⟩ : ∃ B, Hid (bodV r f n (es.map fc) (ftot es) ks ts dir[j].1 = B) := ⟨_, Lib.hid rfl⟩
      have hBl := hbl dir[j].1
      rw [hBo.out] at hBl
      have hS := fun g t k ys (h : srR B = (g, t, ys, k)) => nw_step4 hlt hst.out hBo.out h
      obtain ⟨nm, hnm⟩ : ∃ nm, Hid (dir[j].1 = nm) := ⟨_, Lib.hid rfl⟩
      obtain ⟨li, hli⟩ : ∃ li, Hid (dir[j].2 = li) := ⟨_, Lib.hid rfl⟩
      have hBo2 : (readV r f n (es.map fc) (ftot es) ks ts nm).getD [] = B := by rw [← hnm.out]; exact hBo.out
      rw [hnm.out] at x0 hS
      rw [hli.out] at x1
      have cR2 := cR nm
      obtain ⟨RV, hRV⟩ : ∃ RV, Hid (readV r f n (es.map fc) (ftot es) ks ts nm = RV) := ⟨_, Lib.hid rfl⟩
      rw [hRV.out] at cR2 hBo2
      have HBo := Lib.hid hBo2
      have hb7 : Below wr.heap.size wr (wr.alloc (.cells #[.string nm, .int .i64 li] 52)) := (Below.refl _ _).alloc (Nat.le_refl _) _
      clear hBo hBo2
      go_wp2_with fail
      refine (cR2 _ (t2.trans (hb7.mono t2.size))).mono ?_
      rintro e w3 ⟨hb3, A3, d3, he, ho3⟩
      rw [HBo.out] at he ho3
      subst he
      have x3 : w3.cell? ⟨wr.heap.size, 0, none⟩ = some (.string nm) := (hb3.cell (p := ⟨wr.heap.size, 0, none⟩) (by simp)).trans (by simp)
      have b3 : Below wr.heap.size wr w3 := hb7.trans (hb3.mono (by simp))
      clear q0 q1 q2 q3 q4 q5 x0 x1 hb7
      go_wp2_with fail
      refine (snapRead_spec A3 d3 B w3 ho3.by_ ho3.le_cap (by omega)).mono ?_
      rintro e w4 ⟨g, t, A4, c4, ys, k, hsr, rfl, ho4, hb4⟩
      have hS2 := Lib.hid (hS g t k ys hsr.out)
      have hgb := (srR_gen hsr.out).1
      have x4 : w4.cell? ⟨wr.heap.size, 0, none⟩ = some (.string nm) := (hb4.cell (p := ⟨wr.heap.size, 0, none⟩) (by have := hb3.size; simp at this ⊢; omega)).trans x3
      have b4 : Below wr.heap.size wr w4 := b3.trans (hb4.mono b3.size)
      have y4 : Ob w4 w.heap.size A4 c4 ys := ho4.mono (by have := b3.size; omega)
      have oo4 : Ob w4 w.heap.size A5 c5 us := ho.below b4 (by omega)
      have z4 := b4.size
      clear hS x3 hb4 hb3 b3 ho4 ho3
      by_cases hk : k = 0
      case neg =>
        have e0 : (k == 0) = false := by rw [beq_eq_false_iff_ne]; exact hk
        have HN : Hid (nwR (bodV r f n (es.map fc) (ftot es) ks ts) (dir.take (j + 1)) = (b, s, us)) := by show _ = _; rw [hS2.out, if_neg (fun h => hk h.1)]
        clear hS2 hgb hk
        go_wp2_with fail
        refine wp_region_qb (by kernel_rfl) (by kernel_rfl) ?_
        repeat (quiet_step (fail))
        refine qb_end fun w9 hb9 => ?_
        go_wp2_with fail
        go_roundw
        case rel => exact ⟨j + 1, b, s, A5, c5, us, by omega, by go_num, rfl, rfl, rfl, oo4.below hb9 (by omega), HN, hb.trans ((b4.trans (hb9.mono z4)).mono zb)⟩
        case measure => simp [intOf]; omega
      case pos =>
        subst hk
        have hgb := hgb rfl
        have e0 : ((0 : Int) == 0) = true := rfl
        have cN := fun W => snapName_spec g W (by omega)
        obtain ⟨sn, hsn⟩ : ∃ sn, Hid (bstr (nmL snapS g) = sn) := ⟨_, Lib.hid rfl⟩
        rw [hsn.out] at cN
        have qx : ∀ p : Bl w4.heap.size w4, p.val.cell? ⟨wr.heap.size, 0, none⟩ = some (.string nm) := fun p => p.cell x4
        have hS3 := hS2.out
        rw [hsn.out] at hS3
        have HS3 := Lib.hid hS3
        clear hS3 hS2
        by_cases hnn : sn = nm
        case neg =>
          have e1 : (sn.toList == nm.toList) = false := by
            rw [beq_eq_false_iff_ne]
            intro h
            exact hnn (tl_inj h)
          have HN : Hid (nwR (bodV r f n (es.map fc) (ftot es) ks ts) (dir.take (j + 1)) = (b, s, us)) := by show _ = _; rw [HS3.out, if_neg (fun h => hnn h.2.1)]
          clear HS3 hnn
          go_wp2_with fail
          refine wp_region_qb (by kernel_rfl) (by kernel_rfl) ?_
          repeat (quiet_step ((go_at_call 25; exact Calls.qb (cN _))))
          refine qb_end fun w9 hb9 => ?_
          go_wp2_with fail
          go_roundw
          case rel => exact ⟨j + 1, b, s, A5, c5, us, by omega, by go_num, rfl, rfl, rfl, oo4.below hb9 (by omega), HN, hb.trans ((b4.trans (hb9.mono z4)).mono zb)⟩
          case measure => simp [intOf]; omega
        case pos =>
          have e1 : (sn.toList == nm.toList) = true := by rw [hnn]; simp
          by_cases hbg : b < g
          case neg =>
            have HN : Hid (nwR (bodV r f n (es.map fc) (ftot es) ks ts) (dir.take (j + 1)) = (b, s, us)) := by show _ = _; rw [HS3.out, if_neg (fun h => hbg h.2.2)]
            clear HS3 hnn
            go_wp2_with fail
            refine wp_region_qb (by kernel_rfl) (by kernel_rfl) ?_
            repeat (quiet_step ((go_at_call 25; exact Calls.qb (cN _))))
            refine qb_end fun w9 hb9 => ?_
            go_wp2_with fail
            go_roundw
            case rel => exact ⟨j + 1, b, s, A5, c5, us, by omega, by go_num, rfl, rfl, rfl, oo4.below hb9 (by omega), HN, hb.trans ((b4.trans (hb9.mono z4)).mono zb)⟩
            case measure => simp [intOf]; omega
          case pos =>
            have HN : Hid (nwR (bodV r f n (es.map fc) (ftot es) ks ts) (dir.take (j + 1)) = (g, t, ys)) := by show _ = _; rw [HS3.out, if_pos ⟨rfl, hnn, hbg⟩]
            clear HS3 hnn
            go_wp2_with fail
            refine wp_region_qb (by kernel_rfl) (by kernel_rfl) ?_
            repeat (quiet_step ((go_at_call 25; exact Calls.qb (cN _))))
            refine qb_end fun w9 hb9 => ?_
            go_wp2_with fail
            go_roundw
            case rel => exact ⟨j + 1, g, t, A4, c4, ys, by omega, by go_num, rfl, rfl, rfl, y4.below hb9 (by omega), HN, hb.trans ((b4.trans (hb9.mono z4)).mono zb)⟩
            case measure => simp [intOf]; omega
    · have hlt' : ¬ ((j : Int) < dir.length) := by omega
      obtain rfl : j = dir.length := by omega
      rw [List.take_length] at hst
      have HR : Hid (V = (b, s, us)) := by show _ = _; rw [← HV.out]; exact hst.out
      clear hst HV
      go_wp2_with fail
      ((try simp only [Exit.inBlock, Exit.then]); refine bodyPost_ret (results_tmp3 rfl _ _ _) rfl ?_)
      exact NwPost.mk HR ho t2
end Go.Proofs.YtpaeffmjkkikbaaGreatDoor
