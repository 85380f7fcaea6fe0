/- The newest snapshot: the program. -/
import Derived.Test.YtpaeffmjkkikbaaGreatDoorNw
namespace Go.Proofs.YtpaeffmjkkikbaaGreatDoor
open Go.RowKit
set_option linter.unusedVariables false
set_option maxRecDepth 100000

theorem nw_skip4 {R : ByteArray → List UInt8} {dir : List Lk} {j : Nat} (hj : j < dir.length) {b s : Int} {us xs : List UInt8} (h : nwR R (dir.take j) = (b, s, us)) (hx : dir[j].1 = bstr xs) (hs : (∀ n, ¬ gok xs n) ∨ ∃ n : Nat, gok xs n ∧ (xs ≠ nmL snapS n ∨ (n : Int) ≤ b)) :
    nwR R (dir.take (j + 1)) = (b, s, us) := by
  rw [nwR_succ R dir j hj, h, nw_skip hx hs]
theorem nw_take4 {R : ByteArray → List UInt8} {dir : List Lk} {j : Nat} (hj : j < dir.length) {b s : Int} {us xs B : List UInt8} {m : Nat} (h : nwR R (dir.take j) = (b, s, us)) (hx : dir[j].1 = bstr xs) (hn : gok xs m) (hs : xs = nmL snapS m) (hb : b < m) (hB : R dir[j].1 = B) {g t k : Int} {ys : List UInt8} (hr : srR B = (g, t, ys, k)) :
    nwR R (dir.take (j + 1)) = if k = 0 ∧ g = m then (g, t, ys) else (b, s, us) := by
  rw [nwR_succ R dir j hj, h, nw_take (R := R) (a := (b, s, us)) (l := dir[j]) (g := g) (s := t) (k := k) (us := ys) hx hn hs hb (by rw [hB]; exact hr)]
set_option maxHeartbeats 4000000 in
theorem newest_impl (r f n : Int) (FA : Option Addr) (es fs : List Fl) (c1 : Nat) (KA : Option Addr) (ks : List Lk) (c2 : Nat) (TA : Option Addr) (ts : List Tn) (c3 : Nat) (w : World) (hr : Dr w FA fs KA ks TA ts) (hd : Hid (fs.map fc = es.map fc)) (hg : Good es ks ts) (hl : Lv w) :
    Calls Tryz.prog 8 #[dkV r f n FA es.length c1 KA ks.length c2 TA ts.length c3] w (NwPost w (nwV r f n (es.map fc) (ftot es) ks ts)) := by
  have hb1 : Below w.heap.size w (w.alloc (.cells (dkC r f n FA es.length c1 KA ks.length c2 TA ts.length c3) 35)) := by (repeat (first | exact Below.refl _ _ | (refine Below.alloc ?_ (by first | omega | (simp; done) | (simp; omega)) _) | (refine Below.drew ?_) | (refine below_drewN ?_ _) | (refine below_at1 ?_ (by first | omega | (simp; done) | (simp; omega))) | (refine Below.setCell ?_ (by first | omega | (simp; done) | (simp; omega)) _) | (refine Below.trans ?_ (Below.mono (by assumption) (by first | omega | (simp; done) | (simp; omega))))))
  have B0 : (w.alloc (.cells (dkC r f n FA es.length c1 KA ks.length c2 TA ts.length c3) 35)).heap[w.heap.size]? = some (.cells (dkC r f n FA es.length c1 KA ks.length c2 TA ts.length c3) 35 (0, 0)) := heap_alloc_new _ _
  have cD := diskDir_impl r f n FA es fs c1 KA ks c2 TA ts c3 _ (hr.below hb1) hd hg
  have hlen := dirV_len r f n (es.map fc) (ftot es) ks ts
  have cR := fun nm W (hb : Below w.heap.size w W) => diskRead_impl r f n FA es fs c1 KA ks c2 TA ts c3 nm W (hr.below hb) hd hg
  have hbl := fun nm => bodV_len r f n es (ftot es) ks ts nm hg.ey
  obtain ⟨V, hV⟩ : ∃ V, Hid (nwV r f n (es.map fc) (ftot es) ks ts = V) := ⟨_, Lib.hid rfl⟩
  have HV := hV.out
  unfold nwV at HV
  obtain ⟨dir, hdir⟩ : ∃ dir, Hid (dirV r f n (es.map fc) (ftot es) ks ts = dir) := ⟨_, Lib.hid rfl⟩
  rw [hdir.out] at cD hlen HV
  have HV := Lib.hid HV
  rw [hV.out]
  have hsh : ∀ x, x ∈ dir → x.1.data.toList.length ≤ 16 := by rw [← hdir.out]; exact dir_short
  clear hr hd hg hdir hV
  go_enter Tryz.func8, Tryz.ntmps8
  go_wp2_with fail
  refine cD.mono ?_
  rintro e w1 ⟨A1, d1, rfl, ho1, hb2⟩
  have t1 := hb1.trans (hb2.mono hb1.size)
  have z0 : w.heap.size < (w.alloc (.cells (dkC r f n FA es.length c1 KA ks.length c2 TA ts.length c3) 35)).heap.size := by simp
  have B1 := (hb2.block w.heap.size z0).trans B0
  have O1 : Ob w1 w.heap.size none 0 [] := ownsG_nil _ _ _ _
  have hdr := ho1.sl lk2
  have z1 : w.heap.size < w1.heap.size := Nat.lt_of_lt_of_le z0 hb2.size
  clear B0 cD hb1 hb2 z0 ho1
  go_wp2_with fail
  go_loopw [21, 5, 6, 7] (fun iv bv sv dv wr => ∃ (j : Nat) (b s : Int) (A5 : Option Addr) (c5 : Nat) (us : List UInt8), j ≤ dir.length ∧ iv = .int .i64 j ∧ bv = .int .i64 b ∧ sv = .int .i64 s ∧ dv = .slice A5 us.length c5 ∧ Ob wr w.heap.size A5 c5 us ∧ Hid (nwR (bodV r f n (es.map fc) (ftot es) ks ts) (dir.take j) = (b, s, us)) ∧ Below w1.heap.size w1 wr) (fun iv _ _ _ _ => dir.length - (intOf iv).toNat)
  case atStart => exact ⟨0, 0, 0, none, 0, [], Nat.zero_le _, rfl, rfl, rfl, rfl, O1, Lib.hid rfl, Below.refl _ _⟩
  case round =>
    clear O1
    obtain ⟨j, b, s, A5, c5, us, hj, rfl, rfl, rfl, rfl, ho, hst, hb⟩ := hrel
    have zb := hb.size
    have hB := (hb.block _ z1).trans B1
    have zBr : w.heap.size < wr.heap.size := by omega
    have t2 := t1.trans (hb.mono t1.size)
    by_cases hlt : j < dir.length
    · obtain ⟨b', o, rfl, hbs, x0, x1⟩ := Ks.get (SlL.below hdr hb) hlt
      have hlt' : (j : Int) < dir.length := by omega
      have q0 : wr.cell? ⟨w.heap.size, 0, none⟩ = some (.int .i64 r) := cell_of_row wr w.heap.size 0 _ _ (0, 0) hB
      have q1 : wr.cell? ⟨w.heap.size, 1, none⟩ = some (.int .i64 f) := cell_of_row wr w.heap.size 1 _ _ (0, 0) hB
      have q2 : wr.cell? ⟨w.heap.size, 2, none⟩ = some (.int .i64 n) := cell_of_row wr w.heap.size 2 _ _ (0, 0) hB
      have q3 : wr.cell? ⟨w.heap.size, 3, none⟩ = some (.slice FA es.length c1) := cell_of_row wr w.heap.size 3 _ _ (0, 0) hB
      have q4 : wr.cell? ⟨w.heap.size, 4, none⟩ = some (.slice KA ks.length c2) := cell_of_row wr w.heap.size 4 _ _ (0, 0) hB
      have q5 : wr.cell? ⟨w.heap.size, 5, none⟩ = some (.slice TA ts.length c3) := cell_of_row wr w.heap.size 5 _ _ (0, 0) hB
      obtain ⟨xs, hxs⟩ : ∃ xs, Hid (dir[j].1.data.toList = xs) := ⟨_, Lib.hid rfl⟩
      have hxl := hsh _ (List.getElem_mem hlt)
      have hnm : Hid (dir[j].1 = bstr xs) := by show _ = _; rw [← hxs.out]; exact bstr_of _
      rw [hxs.out] at hxl
      obtain ⟨li, hli⟩ : ∃ li, Hid (dir[j].2 = li) := ⟨_, Lib.hid rfl⟩
      rw [hnm.out] at x0
      rw [hli.out] at x1
      obtain ⟨B, hBo⟩ : ∃ B, Hid (bodV r f n (es.map fc) (ftot es) ks ts dir[j].1 = B) := ⟨_, Lib.hid rfl⟩
      have hBl := hbl dir[j].1
      rw [hBo.out] at hBl
      have hSk := fun h => nw_skip4 hlt hst.out hnm.out h
      have hTk := fun (m : Nat) hn hs hb g t k ys (h : srR B = (g, t, ys, k)) => nw_take4 (m := m) hlt hst.out hnm.out hn hs hb hBo.out h
      have cR2 := cR (bstr xs)
      have hBo2 : (readV r f n (es.map fc) (ftot es) ks ts (bstr xs)).getD [] = B := by rw [← hnm.out]; exact hBo.out
      obtain ⟨RV, hRV⟩ : ∃ RV, Hid (readV r f n (es.map fc) (ftot es) ks ts (bstr xs) = RV) := ⟨_, Lib.hid rfl⟩
      rw [hRV.out] at cR2 hBo2
      have HBo := Lib.hid hBo2
      have HSk := Lib.hid hSk
      have HTk := Lib.hid hTk
      have hb7 : Below wr.heap.size wr (wr.alloc (.cells #[.string (bstr xs), .int .i64 li] 52)) := (Below.refl _ _).alloc (Nat.le_refl _) _
      have X7 : (wr.alloc (.cells #[.string (bstr xs), .int .i64 li] 52)).heap[wr.heap.size]? = some (.cells #[.string (bstr xs), .int .i64 li] 52 (0, 0)) := heap_alloc_new _ _
      have hl7 := hl.below (t2.trans (hb7.mono t2.size)) (Nat.le_refl _)
      have cG := genOf_impl xs (wr.alloc (.cells #[.string (bstr xs), .int .i64 li] 52)) (by omega) hl7
      have Hst := hst
      clear hBo hBo2 hSk hTk hst q0 q1 q2 q3 q4 q5
      obtain ⟨nm, hnb⟩ : ∃ nm, Hid (bstr xs = nm) := ⟨_, Lib.hid rfl⟩
      rw [hnb.out] at x0 cR2 hb7 X7 hl7 cG
      go_wp2_with fail
      refine cG.mono ?_
      rintro e w3 ⟨v, rfl, hgo, hb3⟩
      have b3 : Below wr.heap.size wr w3 := hb7.trans (hb3.mono (by simp))
      have z3 := b3.size
      have X3 := (hb3.block wr.heap.size (by simp)).trans X7
      have hB3 := (b3.block _ zBr).trans hB
      have x3 : w3.cell? ⟨wr.heap.size, 0, none⟩ = some (.string nm) := cell_of_row w3 wr.heap.size 0 _ _ (0, 0) X3
      have t3 := t2.trans (b3.mono t2.size)
      have hl3 := hl.below t3 (Nat.le_refl _)
      have o3 : Ob w3 w.heap.size A5 c5 us := ho.below b3 (by omega)
      have hbw3 : Below w1.heap.size w1 w3 := hb.trans (b3.mono zb)
      clear x0 x1 hb7 X7 hl7 cG hb3
      rcases hgo with ⟨m, hgm, rfl⟩ | ⟨hno, rfl⟩
      case inr =>
        have HN : Hid (nwR (bodV r f n (es.map fc) (ftot es) ks ts) (dir.take (j + 1)) = (b, s, us)) := HSk.out (.inl hno)
        clear hno HSk HTk
        go_wp2_with fail
        refine wp_region_qb (by kernel_rfl) (by kernel_rfl) ?_
        repeat (quiet_step (fail))
        refine qb_end fun w9 hb9 => ?_
        go_wp2_with fail
        go_roundw
        case rel => exact ⟨j + 1, b, s, A5, c5, us, by omega, by go_num, rfl, rfl, rfl, o3.below hb9 (by omega), HN, hbw3.trans (hb9.mono (by omega))⟩
        case measure => simp [intOf]; omega
      case inl =>
        have hm9 : m ≤ 1000000000 := hgm.2.1
        have qx : ∀ p : Bl w3.heap.size w3, p.val.cell? ⟨wr.heap.size, 0, none⟩ = some (.string nm) := fun p => p.cell x3
        have cN := fun (p : Bl w3.heap.size w3) => snapName_impl (m : Int) p.val (by omega) (hl3.1.below p.ok (Nat.le_refl _))
        obtain ⟨sn, hsn⟩ : ∃ sn, Hid (bstr (nmL snapS (m : Int)) = sn) := ⟨_, Lib.hid rfl⟩
        rw [hsn.out] at cN
        by_cases hnn : nm = sn
        case neg =>
          have e1 : (nm.toList == sn.toList) = false := by
            rw [beq_eq_false_iff_ne]
            intro h
            exact hnn (tl_inj h)
          have HN : Hid (nwR (bodV r f n (es.map fc) (ftot es) ks ts) (dir.take (j + 1)) = (b, s, us)) := HSk.out (.inr ⟨m, hgm, .inl fun h => hnn (by rw [← hnb.out, h, hsn.out])⟩)
          clear hnn HSk HTk hgm
          go_wp2_with fail
          refine wp_region_qb (by kernel_rfl) (by kernel_rfl) ?_
          repeat (quiet_step ((go_at_call 31; exact Calls.qb (cN _))))
          refine qb_end fun w9 hb9 => ?_
          go_wp2_with fail
          go_roundw
          case rel => exact ⟨j + 1, b, s, A5, c5, us, by omega, by go_num, rfl, rfl, rfl, o3.below hb9 (by omega), HN, hbw3.trans (hb9.mono (by omega))⟩
          case measure => simp [intOf]; omega
        case pos =>
          have e1 : (nm.toList == sn.toList) = true := by rw [hnn]; simp
          have hxn : xs = nmL snapS m := bstr_eq (by rw [hnb.out, hnn, hsn.out])
          by_cases hbg : (m : Int) ≤ b
          case pos =>
            have HN : Hid (nwR (bodV r f n (es.map fc) (ftot es) ks ts) (dir.take (j + 1)) = (b, s, us)) := HSk.out (.inr ⟨m, hgm, .inr hbg⟩)
            clear hnn HSk HTk hgm hxn
            go_wp2_with fail
            refine wp_region_qb (by kernel_rfl) (by kernel_rfl) ?_
            repeat (quiet_step ((go_at_call 31; exact Calls.qb (cN _))))
            refine qb_end fun w9 hb9 => ?_
            go_wp2_with fail
            go_roundw
            case rel => exact ⟨j + 1, b, s, A5, c5, us, by omega, by go_num, rfl, rfl, rfl, o3.below hb9 (by omega), HN, hbw3.trans (hb9.mono (by omega))⟩
            case measure => simp [intOf]; omega
          case neg =>
            have HTk2 := Lib.hid (HTk.out m hgm hxn (by omega))
            clear hnn HSk HTk hgm hxn
            go_wp2_with fail
            refine wp_region_qb (by kernel_rfl) (by kernel_rfl) ?_
            repeat (quiet_step ((go_at_call 31; exact Calls.qb (cN _))))
            refine qb_end fun w9 hb9 => ?_
            have z9 := hb9.size
            have hB9 := (hb9.block _ (by omega)).trans hB3
            have x9 : w9.cell? ⟨wr.heap.size, 0, none⟩ = some (.string nm) := (hb9.cell (World.block_lt_of_cell? w3 _ x3)).trans x3
            have q0 : w9.cell? ⟨w.heap.size, 0, none⟩ = some (.int .i64 r) := cell_of_row w9 w.heap.size 0 _ _ (0, 0) hB9
            have q1 : w9.cell? ⟨w.heap.size, 1, none⟩ = some (.int .i64 f) := cell_of_row w9 w.heap.size 1 _ _ (0, 0) hB9
            have q2 : w9.cell? ⟨w.heap.size, 2, none⟩ = some (.int .i64 n) := cell_of_row w9 w.heap.size 2 _ _ (0, 0) hB9
            have q3 : w9.cell? ⟨w.heap.size, 3, none⟩ = some (.slice FA es.length c1) := cell_of_row w9 w.heap.size 3 _ _ (0, 0) hB9
            have q4 : w9.cell? ⟨w.heap.size, 4, none⟩ = some (.slice KA ks.length c2) := cell_of_row w9 w.heap.size 4 _ _ (0, 0) hB9
            have q5 : w9.cell? ⟨w.heap.size, 5, none⟩ = some (.slice TA ts.length c3) := cell_of_row w9 w.heap.size 5 _ _ (0, 0) hB9
            have t9 := t3.trans (hb9.mono t3.size)
            have o9 := o3.below hb9 (by omega)
            have hbw9 : Below w1.heap.size w1 w9 := hbw3.trans (hb9.mono (by omega))
            clear qx cN x3 hB3 X3 hb9 hbw3 o3
            go_wp2_with fail
            refine (cR2 _ t9).mono ?_
            rintro e w10 ⟨hb10, A3, d3, he, ho10⟩
            rw [HBo.out] at he ho10
            subst he
            have z10 := hb10.size
            clear q0 q1 q2 q3 q4 q5 x9
            go_wp2_with fail
            refine (snapRead_impl A3 d3 B w10 ho10.by_ ho10.le_cap (by omega)).mono ?_
            rintro e w11 ⟨g, t, A4, c4, ys, k, hsr, rfl, ho11, hb11⟩
            have HS := Lib.hid (HTk2.out g t k ys hsr.out)
            have b11 : Below w9.heap.size w9 w11 := hb10.trans (hb11.mono z10)
            have z11 := hb11.size
            have y11 : Ob w11 w.heap.size A4 c4 ys := ho11.mono (by omega)
            have o11 : Ob w11 w.heap.size A5 c5 us := o9.below b11 (by omega)
            have hbw11 : Below w1.heap.size w1 w11 := hbw9.trans (b11.mono (by omega))
            clear HTk2 ho11 ho10 hb10 hb11
            by_cases hk : k = 0
            case neg =>
              have e0 : (k == 0) = false := by rw [beq_eq_false_iff_ne]; exact hk
              have HN : Hid (nwR (bodV r f n (es.map fc) (ftot es) ks ts) (dir.take (j + 1)) = (b, s, us)) := by show _ = _; rw [HS.out, if_neg (fun h => hk h.1)]
              clear HS hk
              go_wp2_with fail
              go_roundw
              case rel => exact ⟨j + 1, b, s, A5, c5, us, by omega, by go_num, rfl, rfl, rfl, o11, HN, hbw11⟩
              case measure => simp [intOf]; omega
            case pos =>
              subst hk
              by_cases hgm2 : g = m
              case neg =>
                have e2 : (g == (m : Int)) = false := by rw [beq_eq_false_iff_ne]; exact hgm2
                have HN : Hid (nwR (bodV r f n (es.map fc) (ftot es) ks ts) (dir.take (j + 1)) = (b, s, us)) := by show _ = _; rw [HS.out, if_neg (fun h => hgm2 h.2)]
                clear HS hgm2
                go_wp2_with fail
                go_roundw
                case rel => exact ⟨j + 1, b, s, A5, c5, us, by omega, by go_num, rfl, rfl, rfl, o11, HN, hbw11⟩
                case measure => simp [intOf]; omega
              case pos =>
                have HN : Hid (nwR (bodV r f n (es.map fc) (ftot es) ks ts) (dir.take (j + 1)) = ((m : Int), t, ys)) := by show _ = _; rw [HS.out, if_pos ⟨rfl, hgm2⟩, hgm2]
                subst hgm2
                have e2 : ((m : Int) == (m : Int)) = true := by simp
                clear HS
                go_wp2_with fail
                go_roundw
                case rel => exact ⟨j + 1, m, t, A4, c4, ys, by omega, by go_num, rfl, rfl, rfl, y11, HN, hbw11⟩
                case measure => simp [intOf]; omega
    · have hlt' : ¬ ((j : Int) < dir.length) := by omega
      obtain rfl : j = dir.length := by omega
      rw [List.take_length] at hst
      have HR : Hid (V = (b, s, us)) := by show _ = _; rw [← HV.out]; exact hst.out
      clear hst HV
      go_wp2_with fail
      ((try simp only [Exit.inBlock, Exit.then]); refine bodyPost_ret (results_tmp3 rfl _ _ _) rfl ?_)
      exact NwPost.mk HR ho t2
end Go.Proofs.YtpaeffmjkkikbaaGreatDoor
