/- DiskCrash: the reference's parts. DiskCrash: the reference's way. -/
import Derived.Test.YtljpeiflnimblaaGreatHl
namespace Go.Proofs.YtljpeiflnimblaaGreat
open Go.RowKit

set_option linter.unusedVariables false
set_option maxRecDepth 100000

theorem l02Clamp_any (n most : Int) (w : World) (h : 0 ≤ most) : Calls Tryz.prog 48 #[.int .i64 n, .int .i64 most] w fun e w' => e = .returned (.int .i64 (max 0 (min n most))) ∧ w = w' := by
  by_cases h1 : n < 0
  · have HX : Hid (max 0 (min n most) = 0) := by show _ = _; omega
    go_enter Tryz.func48, Tryz.ntmps48
    go_wp2_with fail
    go_ret
    exact ⟨ret_int HX.out.symm, rfl⟩
  · by_cases h2 : most < n
    · have HX : Hid (max 0 (min n most) = most) := by show _ = _; omega
      go_enter Tryz.func48, Tryz.ntmps48
      go_wp2_with fail
      go_ret
      exact ⟨ret_int HX.out.symm, rfl⟩
    · have HX : Hid (max 0 (min n most) = n) := by show _ = _; omega
      go_enter Tryz.func48, Tryz.ntmps48
      go_wp2_with fail
      go_ret
      exact ⟨ret_int HX.out.symm, rfl⟩
theorem mem_any (ks : List Lk) (i : Int) : decide (i ∈ idsOf ks []) = ks.any fun l => l.2 == i := by
  rw [idsOf, mkIds]
  simp only [List.filter_nil, List.map_nil, List.append_nil]
  rw [Bool.eq_iff_iff]
  simp only [decide_eq_true_eq, List.mem_map, List.any_eq_true, beq_iff_eq]
theorem keepF_succ (ks : List Lk) {fs : List Fl} {k : Nat} (h : k < fs.length) : keepF ks (fs.take (k + 1)) = keepF ks (fs.take k) ++ (if (ks.any fun l => l.2 == fs[k].1) = true then [fs[k]] else []) := by
  rw [take_succ_get (List.getElem?_eq_getElem h), keepF, List.filter_append]
  congr 1
  cases hq : ks.any fun l => l.2 == fs[k].1 with
  | true => simp [hq]
  | false => simp [hq]
set_option maxHeartbeats 4000000 in
theorem l02Only_any (r f n : Int) (FA : Option Addr) (fs : List Fl) (c1 : Nat) (KA : Option Addr) (ks : List Lk) (c2 : Nat) (w : World) (hF : SlL w FA 3 flL fs) (hK : Ks w KA ks) (hl : fs.length ≤ 1048576) (hkl : ks.length ≤ 1000) :
    Calls Tryz.prog 49 #[dkV r f n FA fs.length c1 KA ks.length c2 none 0 0] w fun e w' => ∃ A' c', e = .returned (dkV r f n A' (keepF ks fs).length c' KA ks.length c2 none 0 0) ∧ Oe 57 3 flL w' w.heap.size A' c' (keepF ks fs) ∧ Below w.heap.size w w' := by
  have hb0 : Below w.heap.size w ((w.alloc (.cells (dkC r f n FA fs.length c1 KA ks.length c2 none 0 0) 35)).alloc (.cells zDk 35)) := by (repeat (first | exact Below.refl _ _ | (refine Below.alloc ?_ (by first | omega | (simp; done) | (simp; omega)) _) | (refine Below.drew ?_) | (refine below_drewN ?_ _) | (refine below_at1 ?_ (by first | omega | (simp; done) | (simp; omega))) | (refine Below.setCell ?_ (by first | omega | (simp; done) | (simp; omega)) _) | (refine Below.trans ?_ (Below.mono (by assumption) (by first | omega | (simp; done) | (simp; omega))))))
  have hb1 := hb0.alloc hb0.size (.cells #[] 57)
  have B0 : (((w.alloc (.cells (dkC r f n FA fs.length c1 KA ks.length c2 none 0 0) 35)).alloc (.cells zDk 35)).alloc (.cells #[] 57)).heap[w.heap.size]? = some (.cells (dkC r f n FA fs.length c1 KA ks.length c2 none 0 0) 35 (0, 0)) := (by repeat (first | assumption | exact heap_alloc_at _ (by first | rfl | (simp; done) | omega) | refine heap_alloc_of _ ?_ | refine heap_setCell_of _ (by first | omega | (simp; done) | (simp; omega)) ?_ | refine heap_setCell_same _ ?_ | exact heap_at1_same (by first | omega | (simp; done) | (simp; omega)) | refine heap_at1_of (by first | omega | (simp; done) | (simp; omega)) ?_))
  have Z0 : (((w.alloc (.cells (dkC r f n FA fs.length c1 KA ks.length c2 none 0 0) 35)).alloc (.cells zDk 35)).alloc (.cells #[] 57)).heap[w.heap.size + 1]? = some (.cells zDk 35 (0, 0)) := (by repeat (first | assumption | exact heap_alloc_at _ (by first | rfl | (simp; done) | omega) | refine heap_alloc_of _ ?_ | refine heap_setCell_of _ (by first | omega | (simp; done) | (simp; omega)) ?_ | refine heap_setCell_same _ ?_ | exact heap_at1_same (by first | omega | (simp; done) | (simp; omega)) | refine heap_at1_of (by first | omega | (simp; done) | (simp; omega)) ?_))
  have hG0 : Oe 57 3 flL (((w.alloc (.cells (dkC r f n FA fs.length c1 KA ks.length c2 none 0 0) 35)).alloc (.cells zDk 35)).alloc (.cells #[] 57)) (w.heap.size + 2) (some ⟨w.heap.size + 1 + 1, 0, none⟩) 0 [] := Oe.emptyAt (by simp)
  have hI := fun W (hW : Below w.heap.size w W) => ids_spec r f n FA fs.length c1 KA ks c2 none [] 0 W (SlL.below hK hW) SlL.nil (by omega) (by simp)
  go_enter Tryz.func49, Tryz.ntmps49
  go_wp2_with fail
  go_loopw [3, 10] (fun fv iv wr => ∃ (k : Nat) (A5 : Option Addr) (c5 : Nat) (gs : List Fl), k ≤ fs.length ∧ iv = .int .i64 k ∧ fv = .slice A5 gs.length c5 ∧ Hid (gs = keepF ks (fs.take k)) ∧ gs.length ≤ k ∧ Oe 57 3 flL wr (w.heap.size + 2) A5 c5 gs ∧ Below w.heap.size w wr ∧ wr.heap[w.heap.size]? = some (.cells (dkC r f n FA fs.length c1 KA ks.length c2 none 0 0) 35 (0, 0)) ∧ wr.heap[w.heap.size + 1]? = some (.cells zDk 35 (0, 0))) (fun _ iv _ => fs.length - (intOf iv).toNat)
  case atStart => exact ⟨0, _, _, [], Nat.zero_le _, rfl, rfl, rfl, Nat.le_refl _, hG0, hb1, B0, Z0⟩
  case round =>
    clear hG0 hb1 B0 Z0 hb0
    obtain ⟨k, A5, c5, gs, hk, rfl, rfl, hgs, hgk, hG, hb, B, Z⟩ := hrel
    have zb := hb.size
    by_cases hlt : k < fs.length
    · obtain ⟨b, o, rfl, hbs, x0, x1, x2⟩ := Fl.get (hF.below hb) hlt
      have hlt' : (k : Int) < fs.length := by omega
      go_wp2_with fail
      have B1 : (wr.alloc (.cells #[.int .i64 fs[k].1, .slice fs[k].2.1.1 fs[k].2.1.2.2.length fs[k].2.1.2.1, .int .i64 fs[k].2.2] 57)).drew.heap[w.heap.size]? = some (.cells (dkC r f n (some ⟨b, o, none⟩) fs.length c1 KA ks.length c2 none 0 0) 35 (0, 0)) := heap_alloc_of _ B
      have F1 : (wr.alloc (.cells #[.int .i64 fs[k].1, .slice fs[k].2.1.1 fs[k].2.1.2.2.length fs[k].2.1.2.1, .int .i64 fs[k].2.2] 57)).drew.heap[wr.heap.size]? = some (.cells #[.int .i64 fs[k].1, .slice fs[k].2.1.1 fs[k].2.1.2.2.length fs[k].2.1.2.1, .int .i64 fs[k].2.2] 57 (0, 0)) := heap_alloc_new _ _
      have b1 : Below wr.heap.size wr (wr.alloc (.cells #[.int .i64 fs[k].1, .slice fs[k].2.1.1 fs[k].2.1.2.2.length fs[k].2.1.2.1, .int .i64 fs[k].2.2] 57)).drew := ((Below.refl _ _).alloc (Nat.le_refl _) _).drew
      have t1 := hb.trans (b1.mono zb)
      obtain ⟨ids, hids⟩ : ∃ ids, Hid (idsOf ks [] = ids) := ⟨_, Lib.hid rfl⟩
      have cI := hI _ t1
      rw [hids.out] at cI
      have hil : ids.length ≤ 1000 := by rw [← hids.out, idsOf, mkIds]; simp; omega
      have hR : decide (fs[k].1 ∈ ids) = ks.any fun l => l.2 == fs[k].1 := by rw [← hids.out]; exact mem_any ks fs[k].1
      have hsu := keepF_succ ks hlt
      rw [← hgs.out, ← hR] at hsu
      have HSU := Lib.hid hsu
      clear hR hsu x0 x1 x2
      refine wp_region_held_drew (S := fun w' => w'.heap[w.heap.size]? = some (.cells (dkC r f n (some ⟨b, o, none⟩) fs.length c1 KA ks.length c2 none 0 0) 35 (0, 0)) ∧ w'.heap[wr.heap.size]? = some (.cells #[.int .i64 fs[k].1, .slice fs[k].2.1.1 fs[k].2.1.2.2.length fs[k].2.1.2.1, .int .i64 fs[k].2.2] 57 (0, 0))) (by kernel_rfl) (⟨B1, F1⟩) (fun _ => ?_)
      refine wpAnyH_take (i := 0) (v := dkV r f n (some ⟨b, o, none⟩) fs.length c1 KA ks.length c2 none 0 0) rfl (by kernel_rfl) (by kernel_rfl) (by kernel_rfl) (fun _ _ _ h => h) (Or.inl ⟨by rfl, (by intro w' hS; have q := fun i => cell_of_row w' _ i _ _ (0, 0) hS.1; go_simp; try first | rfl | (simp [*, Addr.add_lit]; done))⟩) (⟨B1, F1⟩) ?_
      try simp only [Act.put, List.getElem_toArray, List.getElem_cons_zero, List.setIfInBounds_toArray, List.set_cons_zero, List.set_cons_succ]
      refine wpAnyH_take (i := 2) (v := .pointer (some ⟨wr.heap.size, 0, none⟩)) rfl (by kernel_rfl) (by kernel_rfl) (by kernel_rfl) (fun _ _ _ h => h) (Or.inl ⟨by rfl, (by intro w' hS; skip; go_simp; try first | rfl | (simp [*, Addr.add_lit]; done))⟩) (⟨B1, F1⟩) ?_
      try simp only [Act.put, List.getElem_toArray, List.getElem_cons_succ, List.getElem_cons_zero, List.setIfInBounds_toArray, List.set_cons_zero, List.set_cons_succ]
      refine wpAnyH_take (i := 3) (v := .int .i64 fs[k].1) rfl (by kernel_rfl) (by kernel_rfl) (by kernel_rfl) (fun _ _ _ h => h) (Or.inl ⟨by rfl, (by intro w' hS; have q := fun i => cell_of_row w' _ i _ _ (0, 0) hS.2; go_simp; try first | rfl | (simp [*, Addr.add_lit]; done))⟩) (⟨B1, F1⟩) ?_
      try simp only [Act.put, List.getElem_toArray, List.getElem_cons_succ, List.getElem_cons_zero, List.setIfInBounds_toArray, List.set_cons_zero, List.set_cons_succ]
      refine wpAnyH_ready (rs := [1]) (by kernel_rfl) (by simp) ?_
      refine AllReadyH.cons rfl (fun K hK => ?_) AllReadyH.nil
      go_simp
      refine cI.mono ?_
      rintro e w2 ⟨A2, i2, rfl, ho2, hb2⟩
      have B2 := blk_be hb2 B1
      have F2 := blk_be hb2 F1
      refine hK.out _ _ (⟨B2, F2⟩) (fun _ => ?_)
      clear hK K
      try simp only [Act.put, List.getElem_toArray, List.getElem_cons_succ, List.getElem_cons_zero, List.setIfInBounds_toArray, List.set_cons_zero, List.set_cons_succ]
      refine wpAnyH_ready (rs := [4]) (by kernel_rfl) (by simp) ?_
      refine AllReadyH.cons rfl (fun K hK => ?_) AllReadyH.nil
      go_simp
      refine (hasInt_spec A2 i2 ids fs[k].1 w2 (ints_cs (Oe.sl (fun _ => rfl) ho2)) (by omega)).mono ?_
      rintro e w3 ⟨rfl, hw3⟩
      subst hw3
      refine hK.out _ _ (⟨B2, F2⟩) (fun _ => ?_)
      clear hK K
      try simp only [Act.put, List.getElem_toArray, List.getElem_cons_succ, List.getElem_cons_zero, List.setIfInBounds_toArray, List.set_cons_zero, List.set_cons_succ]
      refine wpAnyH_done (by kernel_rfl) ?_ _
      have t2 := t1.trans (hb2.mono t1.size)
      have b2 := b1.trans (hb2.mono b1.size)
      have z2 := b2.size
      have Z2 := blk_be b2 Z
      have hG2 := Oe.below hG b2 (Nat.le_refl _)
      clear cI ho2 F1 B1 hI
      cases hq : decide (fs[k].1 ∈ ids) with
      | false =>
        rw [hq] at HSU
        have HS : Hid (gs = keepF ks (fs.take (k + 1))) := by have := HSU.out; simp only [Bool.false_eq_true, if_false, List.append_nil] at this; exact this.symm
        clear hq
        go_wp2_with fail
        go_roundw
        case rel => exact ⟨k + 1, _, _, gs, by omega, by go_num, rfl, HS, by omega, hG2, t2, B2, Z2⟩
        case measure => simp [intOf]; omega
      | true =>
        rw [hq] at HSU
        have HS : Hid (gs ++ [fs[k]] = keepF ks (fs.take (k + 1))) := by have := HSU.out; simp only [if_true] at this; exact this.symm
        clear hq
        have y2 : ∀ i, w2.cell? ⟨wr.heap.size, i, none⟩ = _ := fun i => cell_of_row w2 _ i _ _ (0, 0) F2
        obtain ⟨A9, c9, w9, hr9, ho9, hb9, hk9, hf9⟩ := appF_run 31 (w.heap.size + 2) A5 c5 gs w2 fs[k] hG2 (by omega) (by have := (Array.getElem?_eq_some_iff.1 Z).1; omega)
        go_wp2_with (at_builtin; refine Lib.wpList_append_run _ rfl _ _ _ _ rfl _ _ rfl rfl _ _ hr9 ?_)
        have zz := (Array.getElem?_eq_some_iff.1 Z).1
        have iG := hG2.inB
        have z9 := hb9.size
        have B9 := (hk9 w.heap.size (by omega) (fun ad h => by have := iG ad h; omega)).trans B2
        have Z9 := (hk9 (w.heap.size + 1) (by omega) (fun ad h => by have := iG ad h; omega)).trans Z2
        go_roundw
        case rel => exact ⟨k + 1, _, _, gs ++ [fs[k]], by omega, by go_num, by simp, HS, by simp; omega, ho9, t2.trans (hb9.mono (by omega)), B9, Z9⟩
        case measure => simp [intOf]; omega
    · have hlt' : ¬ ((k : Int) < fs.length) := by omega
      have hE : gs = keepF ks fs := by rw [hgs.out, List.take_of_length_le (by omega)]
      have HE := Lib.hid hE
      clear hE
      obtain ⟨B1, y1, f1, z1⟩ := keep_blk (Below.refl wr.heap.size wr) B
      obtain ⟨Z1, yz1, fz1, zz1⟩ := keep_blk (Below.refl wr.heap.size wr) Z
      go_wp2_with fail
      refine bodyPost_ret (v := dkV r f n A5 gs.length c5 KA ks.length c2 none 0 0) (by simp [results, Tryz.results49, go_sem, *]) rfl ?_
      rw [← HE.out]
      refine ⟨A5, c5, rfl, ?_, (((((((hb.setCell (by first | omega | (simp; done) | (simp; omega)) _).setCell (by first | omega | (simp; done) | (simp; omega)) _).setCell (by first | omega | (simp; done) | (simp; omega)) _).setCell (by first | omega | (simp; done) | (simp; omega)) _).setCell (by first | omega | (simp; done) | (simp; omega)) _).setCell (by first | omega | (simp; done) | (simp; omega)) _).setCell (by first | omega | (simp; done) | (simp; omega)) _)⟩
      refine Oe.mono (lo := w.heap.size + 2) ?_ (by omega)
      refine hG.keepB fun ad had => ?_
      have h9 := (hG.inB ad had).1
      iterate 7 refine (Below.heap_setCell _ _ _ _ (by simp; omega)).trans ?_
      rfl
/-- A file of a list of one's own, cut: a whole file stored. -/
theorem FsG.cut3 {w : World} {lo hi g c : Nat} {l1 l2 : List Fl} {x : Fl} {m : Nat} (h : FsG w lo hi (some ⟨g, 0, none⟩) c (l1 ++ x :: l2)) (hm : m ≤ x.2.1.2.2.length) :
    FsG (((w.setCell ⟨g, l1.length * 3, none⟩ (.int .i64 x.1)).setCell ⟨g, l1.length * 3 + 1, none⟩ (.slice x.2.1.1 m x.2.1.2.1)).setCell ⟨g, l1.length * 3 + 2, none⟩ (.int .i64 (m : Int))) lo hi (some ⟨g, 0, none⟩) c (l1 ++ (x.1, (x.2.1.1, x.2.1.2.1, x.2.1.2.2.take m), (m : Int)) :: l2) := by
  obtain ⟨h1, h2, h3, h4⟩ := h
  obtain ⟨y, hy⟩ : ∃ y : Fl, y = (x.1, (x.2.1.1, x.2.1.2.1, x.2.1.2.2.take m), (m : Int)) := ⟨_, rfl⟩
  rw [← hy]
  have hyl : y.2.1.2.2.length = m := by rw [hy]; show (x.2.1.2.2.take m).length = m; rw [List.length_take]; omega
  have hap := h4 _ rfl
  dsimp only at hap
  obtain ⟨g', hg', hlo, hcm, hcap, hF⟩ := h1.fillC fl3 (by rw [List.length_append, List.length_cons]; omega)
  injection hg' with hg'
  injection hg' with hg' _ _
  subst hg'
  have hfl := flat_len fl3 (l1 ++ x :: l2)
  have hL : (l1 ++ x :: l2).length = l1.length + 1 + l2.length := by simp; omega
  have hgj : (l1 ++ x :: l2)[l1.length]? = some x := by rw [List.getElem?_append_right (Nat.le_refl _), Nat.sub_self]; rfl
  have hF1 := hF.setAt (k := l1.length * 3) (by rw [hfl, hL]; omega) (.int .i64 x.1)
  have hF2' := hF1.setAt (k := l1.length * 3 + 1) (by rw [List.length_set, hfl, hL]; omega) (.slice x.2.1.1 m x.2.1.2.1)
  have hF2 := hF2'.setAt (k := l1.length * 3 + 2) (by rw [List.length_set, List.length_set, hfl, hL]; omega) (.int .i64 (m : Int))
  have hset : (l1 ++ x :: l2).set l1.length y = l1 ++ y :: l2 := set_mid
  have h3e := flat_set3 y (l1 ++ x :: l2) l1.length (by rw [hL]; omega)
  rw [hset, hyl] at h3e
  have e0 : y.1 = x.1 := by rw [hy]
  have e1 : y.2.1.1 = x.2.1.1 := by rw [hy]
  have e2 : y.2.1.2.1 = x.2.1.2.1 := by rw [hy]
  have e3 : y.2.2 = (m : Int) := by rw [hy]
  rw [e0, e1, e2, e3] at h3e
  rw [h3e] at hF2
  have hb : (l1 ++ x :: l2).map fb = l1.map fb ++ fb x :: l2.map fb := by simp
  have hb' : (l1 ++ y :: l2).map fb = l1.map fb ++ fb y :: l2.map fb := by simp
  rw [hb] at h3 hap
  have hap' : apart g (l1.map fb ++ fb y :: l2.map fb) := fun e he ad had => by
    rcases List.mem_append.1 he with h5 | h5
    · exact hap e (List.mem_append_left _ h5) ad had
    · rcases List.mem_cons.1 h5 with rfl | h5
      · have : x.2.1.1 = some ad := by rw [← e1]; exact had
        exact hap (fb x) (List.mem_append_right _ (List.mem_cons_self ..)) ad this
      · exact hap e (List.mem_append_right _ (List.mem_cons_of_mem _ h5)) ad had
  obtain ⟨m1, m2, q1, q2, q3, q4, q5, q6, q7⟩ := h3.split
  have q5' : Ob w m1 y.2.1.1 y.2.1.2.1 y.2.1.2.2 := by
    rw [hy]
    exact Ob.take (bs := x.2.1.2.2) q5 hm
  have q6' : InB m1 m2 (fb y).1 := by rw [hy]; exact q6
  have hO := Obs.join (e := fb y) q2 q5' q6' q7 q4
  refine ⟨Oe.of_fill fl3 hF2 (by rw [List.length_append, List.length_cons]; rw [List.length_append, List.length_cons] at hcap; omega) hlo hcm, h2, ?_, fun ad had => ?_⟩
  · rw [hb']
    exact ((hO.set (p := ⟨g, _, none⟩) hap').set (p := ⟨g, _, none⟩) hap').set (p := ⟨g, _, none⟩) hap'
  · injection had with had
    subst had
    rw [hb']
    exact hap'
/-- A disk that can be read wherever what lies from block lo to before block hi is as it was. -/
def DkW (w : World) (lo hi : Nat) (FA : Option Addr) (fs : List Fl) (KA : Option Addr) (ks : List Lk) (TA : Option Addr) (ts : List Tn) : Prop :=
  ∀ w', (∀ k, lo ≤ k → k < hi → w'.heap[k]? = w.heap[k]?) → Dr w' FA fs KA ks TA ts
section
variable {w w' : World} {lo hi : Nat} {FA KA TA : Option Addr} {fs : List Fl} {ks : List Lk} {ts : List Tn}
theorem DkG.dw {fc' kc tc : Nat} (h : DkG w lo hi FA fc' fs KA kc ks TA tc ts) : DkW w lo hi FA fs KA ks TA ts := fun w' hk => (h.keep hk).rd
theorem DkW.rd (h : DkW w lo hi FA fs KA ks TA ts) : Dr w FA fs KA ks TA ts := h w fun _ _ _ => rfl
theorem DkW.keep (h : DkW w lo hi FA fs KA ks TA ts) (hk : ∀ k, lo ≤ k → k < hi → w'.heap[k]? = w.heap[k]?) : DkW w' lo hi FA fs KA ks TA ts := fun w2 h2 => h w2 fun k h3 h4 => (h2 k h3 h4).trans (hk k h3 h4)
theorem DkW.below {B' : Nat} (h : DkW w lo hi FA fs KA ks TA ts) (hb : Below B' w w') (hB : hi ≤ B') : DkW w' lo hi FA fs KA ks TA ts := h.keep fun k _ h2 => hb.block k (by omega)
theorem DkW.kp {a b : Nat} (h : DkW w lo hi FA fs KA ks TA ts) (hk : Kp a b w w') (hs : hi ≤ w.heap.size) (hd : hi ≤ a ∨ b ≤ lo) : DkW w' lo hi FA fs KA ks TA ts :=
  h.keep fun k h1 h2 => by
    rcases hd with hd | hd
    · exact hk.1.block _ (by omega)
    · exact hk.2 _ (by omega) (by omega)
theorem DkW.wide {lo' hi' : Nat} (h : DkW w lo hi FA fs KA ks TA ts) (h1 : lo' ≤ lo) (h2 : hi ≤ hi') : DkW w lo' hi' FA fs KA ks TA ts := fun w' hk => h w' fun k h3 h4 => hk k (by omega) (by omega)
end
/-- A disk that can be read, and whether there is any. -/
def DWPost (w : World) (V : DV) (e : Ending) (w' : World) : Prop :=
  ∃ FA c1 fs KA c2 TA c3, e = .returned (.tuple #[dkV V.r V.f V.n FA V.cs.length c1 KA V.ks.length c2 TA V.ts.length c3, .bool V.ok]) ∧ Hid (fs.map fc = V.cs) ∧ DkW w' w.heap.size w'.heap.size FA fs KA V.ks TA V.ts ∧ Below w.heap.size w w'
theorem DOPost.dw {w w' : World} {V : DV} {e : Ending} (h : DOPost w V e w') : DWPost w V e w' := by
  obtain ⟨FA, c1, fs, KA, c2, TA, c3, h1, h2, h3, h4⟩ := h
  exact ⟨FA, c1, fs, KA, c2, TA, c3, h1, h2, h3.dw, h4⟩

set_option linter.unusedVariables false
set_option maxRecDepth 100000

set_option maxHeartbeats 8000000 in
theorem diskCrash_spec0 (turns : Int) (QA : Option Addr) (qc : Nat) (cuts : List Int) (r f n : Int) (FA : Option Addr) (es : List Fl) (c1 : Nat) (KA : Option Addr) (ks : List Lk) (c2 : Nat) (TA : Option Addr) (ts : List Tn) (c3 : Nat) (w : World) (hr : Dr w FA es KA ks TA ts) (hg : Good es ks ts) (hq : Cs w QA (cuts.map I)) (hql : cuts.length ≤ 1048576) :
    Calls Tryz.prog 18 #[dkV r f n FA es.length c1 KA ks.length c2 TA ts.length c3, .int .i64 turns, .slice QA cuts.length qc] w (DWPost w (crashV turns cuts r f n (es.map fc) (ftot es) ks ts)) := by
  have hb0 : Below w.heap.size w ((w.alloc (.cells (dkC r f n FA es.length c1 KA ks.length c2 TA ts.length c3) 35)).alloc (.cells zDk 35)) := by (repeat (first | exact Below.refl _ _ | (refine Below.alloc ?_ (by first | omega | (simp; done) | (simp; omega)) _) | (refine Below.drew ?_) | (refine below_drewN ?_ _) | (refine below_at1 ?_ (by first | omega | (simp; done) | (simp; omega))) | (refine Below.setCell ?_ (by first | omega | (simp; done) | (simp; omega)) _) | (refine Below.trans ?_ (Below.mono (by assumption) (by first | omega | (simp; done) | (simp; omega))))))
  have B0 : ((w.alloc (.cells (dkC r f n FA es.length c1 KA ks.length c2 TA ts.length c3) 35)).alloc (.cells zDk 35)).heap[w.heap.size]? = some (.cells (dkC r f n FA es.length c1 KA ks.length c2 TA ts.length c3) 35 (0, 0)) := (by repeat (first | assumption | exact heap_alloc_at _ (by first | rfl | (simp; done) | omega) | refine heap_alloc_of _ ?_ | refine heap_setCell_of _ (by first | omega | (simp; done) | (simp; omega)) ?_ | refine heap_setCell_same _ ?_ | exact heap_at1_same (by first | omega | (simp; done) | (simp; omega)) | refine heap_at1_of (by first | omega | (simp; done) | (simp; omega)) ?_))
  have Z0 : ((w.alloc (.cells (dkC r f n FA es.length c1 KA ks.length c2 TA ts.length c3) 35)).alloc (.cells zDk 35)).heap[w.heap.size + 1]? = some (.cells zDk 35 (0, 0)) := (by repeat (first | assumption | exact heap_alloc_at _ (by first | rfl | (simp; done) | omega) | refine heap_alloc_of _ ?_ | refine heap_setCell_of _ (by first | omega | (simp; done) | (simp; omega)) ?_ | refine heap_setCell_same _ ?_ | exact heap_at1_same (by first | omega | (simp; done) | (simp; omega)) | refine heap_at1_of (by first | omega | (simp; done) | (simp; omega)) ?_))
  have cO := okSpec_any r f n FA es es c1 KA ks c2 TA ts c3 _ (hr.below hb0) (Lib.hid rfl) hg
  cases hv : dkB r f n (es.map fc) (ftot es) ks ts with
  | false =>
    have HV : Hid (crashV turns cuts r f n (es.map fc) (ftot es) ks ts = DV.no) := by show _ = _; rw [crashV, hv]; rfl
    rw [hv] at cO
    clear hv
    go_enter Tryz.func18, Tryz.ntmps18
    go_wp2_with fail
    refine cO.mono ?_
    rintro e w1 ⟨rfl, hb1⟩
    have t1 := hb0.trans (hb1.mono hb0.size)
    obtain ⟨Z1, yz1, fz1, zz1⟩ := keep_blk (cs := zDk) hb1 (g := w.heap.size + 1) Z0
    go_wp2_with fail
    rw [HV.out]
    refine bodyPost_ret (v := .tuple #[dkV 0 0 0 none 0 0 none 0 0 none 0 0, .bool false]) (by simp [results, Tryz.results18, go_sem, *]) rfl ?_
    exact DOPost.dw (DOPost.no ((((((t1.setCell (by first | omega | (simp; done) | (simp; omega)) _).setCell (by first | omega | (simp; done) | (simp; omega)) _).setCell (by first | omega | (simp; done) | (simp; omega)) _).setCell (by first | omega | (simp; done) | (simp; omega)) _).setCell (by first | omega | (simp; done) | (simp; omega)) _).setCell (by first | omega | (simp; done) | (simp; omega)) _))
  | true =>
    obtain ⟨g0, g1, g2, g3, g4⟩ := dk_parts hv
    have hsafe := dk_safe hv
    obtain ⟨m, hm⟩ : ∃ m : Nat, Hid ((max 0 (min turns ts.length) : Int) = (m : Int)) := ⟨(max 0 (min turns ts.length)).toNat, Lib.hid (by omega)⟩
    have hmt : m ≤ ts.length := by have := hm.out; omega
    have hmN : (max 0 (min turns ts.length)).toNat = m := by have := hm.out; omega
    obtain ⟨dir, hdir⟩ : ∃ dir, Hid (dirS ks (ts.take m) = dir) := ⟨_, Lib.hid rfl⟩
    have HV : Hid (crashV turns cuts r f n (es.map fc) (ftot es) ks ts = ⟨r, -1, n, crC cuts 0 (keepC dir (es.map fc)), dir, [], true⟩) := by
      show _ = _
      rw [crashV, hv, hmN, hdir.out]
      rfl
    rw [hv] at cO
    have hel : es.length ≤ 10 := by rw [List.length_map] at g0; exact g0
    have hdl : dir.length ≤ 40 := by
      have := dirS_len ks (ts.take m)
      rw [hdir.out, List.length_take] at this
      omega
    have cR := fun W (hW : Below w.heap.size w W) => l02Dir_any r f n FA es.length c1 KA ks c2 TA ts c3 m W (SlL.below hr.2.1 hW) (SlL.below hr.2.2 hW) (by omega) (by omega) hmt
    rw [hdir.out] at cR
    rw [HV.out]
    have HSF : Hid (∀ x, x ∈ es.map fc → 0 ≤ x.2.2 ∧ x.2.2 ≤ x.2.1.length) := hsafe
    have HKL := Lib.hid g1
    have HTL := Lib.hid g2
    clear hv HV hsafe g0 g1 g2 g3 g4 hmN
    go_enter Tryz.func18, Tryz.ntmps18
    go_wp2_with fail
    refine cO.mono ?_
    rintro e w1 ⟨rfl, hb1⟩
    have t1 := hb0.trans (hb1.mono hb0.size)
    obtain ⟨B1, y1, f1, z1⟩ := keep_blk (cs := (dkC r f n FA es.length c1 KA ks.length c2 TA ts.length c3)) hb1 (g := w.heap.size) B0
    obtain ⟨Z1, yz1, fz1, zz1⟩ := keep_blk (cs := zDk) hb1 (g := w.heap.size + 1) Z0
    have cC := l02Copy_any r f n FA es c1 KA ks c2 TA ts c3 w1 (hr.below t1) hg
    clear cO
    go_wp2_with fail
    refine cC.mono ?_
    rintro e w3 ⟨A3, d1, fs3, K3, d2, T3, d3, rfl, hd3, ho3, hb3⟩
    have t3 := t1.trans (hb3.mono t1.size)
    have z3 := t3.size
    have s3 : w.heap.size + 2 ≤ w1.heap.size := by have := hb1.size; simpa using this
    have z13 := hb3.size
    have B3 := blk_be hb3 B1
    have Z3 := blk_be hb3 Z1
    clear y1 f1 yz1 fz1 cC
    go_wp2_with fail
    have b4 : Below w3.heap.size w3 (w3.alloc (.cells (dkC r f n A3 es.length d1 K3 ks.length d2 T3 ts.length d3) 35)) := (Below.refl _ _).alloc (Nat.le_refl _) _
    have F0 : (w3.alloc (.cells (dkC r f n A3 es.length d1 K3 ks.length d2 T3 ts.length d3) 35)).drew.heap[w.heap.size]? = some (.cells (dkC r f n FA es.length c1 KA ks.length c2 TA ts.length c3) 35 (0, 0)) := heap_alloc_of _ B3
    have O0 : (w3.alloc (.cells (dkC r f n A3 es.length d1 K3 ks.length d2 T3 ts.length d3) 35)).drew.heap[w3.heap.size]? = some (.cells (dkC r f n A3 es.length d1 K3 ks.length d2 T3 ts.length d3) 35 (0, 0)) := heap_alloc_new _ _
    have t4 := t3.trans (b4.drew.mono t3.size)
    refine wp_region_held_drew (S := fun w' => w'.heap[w.heap.size]? = some (.cells (dkC r f n FA es.length c1 KA ks.length c2 TA ts.length c3) 35 (0, 0))) (by kernel_rfl) (F0) (fun _ => ?_)
    refine wpAnyH_take (i := 0) (v := dkV r f n FA es.length c1 KA ks.length c2 TA ts.length c3) rfl (by kernel_rfl) (by kernel_rfl) (by kernel_rfl) (fun _ _ _ h => h) (Or.inl ⟨by rfl, (by intro w' hS; have q := fun i => cell_of_row w' w.heap.size i _ _ (0, 0) hS; go_simp; try first | rfl | (simp [*, Addr.add_lit]; done))⟩) (F0) ?_
    try simp only [Act.put, List.getElem_toArray, List.getElem_cons_zero, List.setIfInBounds_toArray, List.set_cons_zero, List.set_cons_succ]
    refine wpAnyH_take (i := 1) (v := .int .i64 turns) rfl (by kernel_rfl) (by kernel_rfl) (by kernel_rfl) (fun _ _ _ h => h) (Or.inl ⟨by rfl, (by intro w' hS; skip; go_simp; try first | rfl | (simp [*, Addr.add_lit]; done))⟩) (F0) ?_
    try simp only [Act.put, List.getElem_toArray, List.getElem_cons_succ, List.getElem_cons_zero, List.setIfInBounds_toArray, List.set_cons_zero, List.set_cons_succ]
    refine wpAnyH_take (i := 2) (v := .pointer (some ⟨w.heap.size, 5, none⟩)) rfl (by kernel_rfl) (by kernel_rfl) (by kernel_rfl) (fun _ _ _ h => h) (Or.inl ⟨by rfl, (by intro w' hS; skip; go_simp; try first | rfl | (simp [*, Addr.add_lit]; done))⟩) (F0) ?_
    try simp only [Act.put, List.getElem_toArray, List.getElem_cons_succ, List.getElem_cons_zero, List.setIfInBounds_toArray, List.set_cons_zero, List.set_cons_succ]
    refine wpAnyH_take (i := 3) (v := .slice TA ts.length c3) rfl (by kernel_rfl) (by kernel_rfl) (by kernel_rfl) (fun _ _ _ h => h) (Or.inl ⟨by rfl, (by intro w' hS; have q := cell_of_row w' w.heap.size 5 _ _ (0, 0) hS; go_simp; try first | rfl | (simp [*, Addr.add_lit]; done))⟩) (F0) ?_
    try simp only [Act.put, List.getElem_toArray, List.getElem_cons_succ, List.getElem_cons_zero, List.setIfInBounds_toArray, List.set_cons_zero, List.set_cons_succ]
    refine wpAnyH_take (i := 4) (v := .int .i64 ts.length) rfl (by kernel_rfl) (by kernel_rfl) (by kernel_rfl) (fun _ _ _ h => h) (Or.inl ⟨by rfl, (by intro w' hS; skip; go_simp; try first | rfl | (simp [*, Addr.add_lit]; done))⟩) (F0) ?_
    try simp only [Act.put, List.getElem_toArray, List.getElem_cons_succ, List.getElem_cons_zero, List.setIfInBounds_toArray, List.set_cons_zero, List.set_cons_succ]
    refine wpAnyH_ready (rs := [5]) (by kernel_rfl) (by simp) ?_
    refine AllReadyH.cons rfl (fun K hK => ?_) AllReadyH.nil
    go_simp
    refine (l02Clamp_any _ _ _ (by omega)).mono ?_
    rintro e w5 ⟨he, hw5⟩
    rw [hm.out] at he
    subst he
    subst hw5
    refine hK.out _ _ (F0) (fun _ => ?_)
    clear hK K
    try simp only [Act.put, List.getElem_toArray, List.getElem_cons_succ, List.getElem_cons_zero, List.setIfInBounds_toArray, List.set_cons_zero, List.set_cons_succ]
    refine wpAnyH_ready (rs := [6]) (by kernel_rfl) (by simp) ?_
    refine AllReadyH.cons rfl (fun K hK => ?_) AllReadyH.nil
    go_simp
    refine (cR _ t4).mono ?_
    rintro e w6 ⟨K6, d6, rfl, ho6, hb6⟩
    have s6 : w3.heap.size + 1 ≤ w6.heap.size := by have := hb6.size; simpa using this
    have F6 := blk_be hb6 F0
    obtain ⟨O6, y6, f6, z6⟩ := keep_blk (cs := (dkC r f n A3 es.length d1 K3 ks.length d2 T3 ts.length d3)) hb6 (g := w3.heap.size) O0
    have t6 := t4.trans (hb6.mono t4.size)
    have hne : w3.heap.size ≠ w.heap.size := by omega
    refine hK.out _ _ (F6) (fun _ => ?_)
    clear hK K
    try simp only [Act.put, List.getElem_toArray, List.getElem_cons_succ, List.getElem_cons_zero, List.setIfInBounds_toArray, List.set_cons_zero, List.set_cons_succ]
    refine wpAnyH_take (i := 7) (v := .pointer (some ⟨w3.heap.size, 4, none⟩)) rfl (by kernel_rfl) (by kernel_rfl) (by kernel_rfl) (fun _ _ _ h => h) (Or.inl ⟨by rfl, (by intro w' hS; skip; go_simp; try first | rfl | (simp [*, Addr.add_lit]; done))⟩) (F6) ?_
    try simp only [Act.put, List.getElem_toArray, List.getElem_cons_succ, List.getElem_cons_zero, List.setIfInBounds_toArray, List.set_cons_zero, List.set_cons_succ]
    refine wpAnyH_ready (rs := [8]) (by kernel_rfl) (by simp) ?_
    refine AllReadyH.cons rfl (fun K hK => ?_) AllReadyH.nil
    go_simp
    have F7 : (w6.setCell ⟨w3.heap.size, 4, none⟩ (.slice K6 dir.length d6)).heap[w.heap.size]? = some (.cells (dkC r f n FA es.length c1 KA ks.length c2 TA ts.length c3) 35 (0, 0)) := (Below.heap_setCell _ _ _ _ (by show w.heap.size ≠ w3.heap.size; omega)).trans F6
    refine hK.out _ _ (F7) (fun _ => ?_)
    clear hK K
    try simp only [Act.put, List.getElem_toArray, List.getElem_cons_succ, List.getElem_cons_zero, List.setIfInBounds_toArray, List.set_cons_zero, List.set_cons_succ]
    refine wpAnyH_done (by kernel_rfl) ?_ _
    obtain ⟨w7, hw7⟩ : ∃ w7, w7 = (((w6.setCell ⟨w3.heap.size, 4, none⟩ (.slice K6 dir.length d6)).setCell ⟨w3.heap.size, 5, none⟩ (.slice none 0 0)).setCell ⟨w3.heap.size, 1, none⟩ (.int .i64 (-1))) := ⟨_, rfl⟩
    have O7 : w7.heap[w3.heap.size]? = some (.cells (dkC r (-1) n A3 es.length d1 K6 dir.length d6 none 0 0) 35 (0, 0)) := by rw [hw7]; exact heap_setCell_same _ (heap_setCell_same _ (heap_setCell_same _ O6))
    have k7 : ∀ k, k ≠ w3.heap.size → w7.heap[k]? = w6.heap[k]? := fun k hk => by rw [hw7]; exact (Below.heap_setCell _ _ _ k hk).trans ((Below.heap_setCell _ _ _ k hk).trans (Below.heap_setCell _ _ _ k hk))
    have s7 : w7.heap.size = w6.heap.size := by rw [hw7]; simp
    have t7 : Below w.heap.size w w7 := by rw [hw7]; exact ((t6.setCell (by omega) _).setCell (by omega) _).setCell (by omega) _
    have HW7 := Lib.hid hw7
    clear hw7 F6 F7 F0 O0 O6
    have S7 := Lib.hid s7
    clear s7
    obtain ⟨mm, mm', hG3, q2, q3, _⟩ := ho3
    have b36 : Below w3.heap.size w3 w6 := b4.drew.trans (hb6.mono (by simp))
    have hG7 : FsG w7 w1.heap.size mm A3 d1 fs3 := hG3.keep fun k h1 h2 => (k7 k (by omega)).trans (b36.block k (by omega))
    have i6 := ho6.inB
    have i6' : InB (w3.heap.size + 1) w6.heap.size K6 := fun ad h => by have := i6 ad h; simpa using this
    have ho7 : Oe 83 2 lkL w7 (w3.heap.size + 1) K6 d6 dir := Oe.mono (ho6.keepB fun ad h => k7 _ (by have := i6' ad h; omega)) (by simp)
    have fl3l : fs3.length = es.length := fc_len hd3.out
    have cL := l02Only_any r (-1) n A3 fs3 d1 K6 dir d6 w7 hG7.fs.1 (ho7.sl lk2) (by omega) (by omega)
    rw [fl3l] at cL
    rw [HW7.out] at cL
    go_wp2_with fail
    refine cL.mono ?_
    rintro e w8 ⟨A9, c9, rfl, hA8, hb8⟩
    rw [← HW7.out] at hA8 hb8
    have z8 := hb8.size
    have S8 : w6.heap.size ≤ w8.heap.size := by have := S7.out; omega
    have t8 : Below w.heap.size w w8 := t7.trans (hb8.mono t7.size)
    obtain ⟨O8, y8, f8, zo8⟩ := keep_blk (cs := (dkC r (-1) n A3 es.length d1 K6 dir.length d6 none 0 0)) hb8 (g := w3.heap.size) O7
    have Z8 : w8.heap[w.heap.size + 1]? = some (.cells zDk 35 (0, 0)) := (hb8.block _ (by have := S7.out; omega)).trans ((k7 _ (by omega)).trans ((b36.block _ (by omega)).trans Z3))
    clear y6 f6 cL
    go_wp2_with fail
    obtain ⟨w9, hw9⟩ : ∃ w9, w9 = ((((((w8.setCell ⟨w3.heap.size, 0, none⟩ (.int .i64 r)).setCell ⟨w3.heap.size, 1, none⟩ (.int .i64 (-1))).setCell ⟨w3.heap.size, 2, none⟩ (.int .i64 n)).setCell ⟨w3.heap.size, 3, none⟩ (.slice A9 (keepF dir fs3).length c9)).setCell ⟨w3.heap.size, 4, none⟩ (.slice K6 dir.length d6)).setCell ⟨w3.heap.size, 5, none⟩ (.slice none 0 0)) := ⟨_, rfl⟩
    rw [← hw9]
    have O9 : w9.heap[w3.heap.size]? = some (.cells (dkC r (-1) n A9 (keepF dir fs3).length c9 K6 dir.length d6 none 0 0) 35 (0, 0)) := by rw [hw9]; exact heap_setCell_same _ (heap_setCell_same _ (heap_setCell_same _ (heap_setCell_same _ (heap_setCell_same _ (heap_setCell_same _ O8)))))
    have k9 : ∀ k, k ≠ w3.heap.size → w9.heap[k]? = w8.heap[k]? := fun k hk => by rw [hw9]; exact (Below.heap_setCell _ _ _ k hk).trans ((Below.heap_setCell _ _ _ k hk).trans ((Below.heap_setCell _ _ _ k hk).trans ((Below.heap_setCell _ _ _ k hk).trans ((Below.heap_setCell _ _ _ k hk).trans (Below.heap_setCell _ _ _ k hk)))))
    have s9 : Hid (w9.heap.size = w8.heap.size) := by show _ = _; rw [hw9]; simp
    have t9 : Below w.heap.size w w9 := by rw [hw9]; exact (((((t8.setCell (by omega) _).setCell (by omega) _).setCell (by omega) _).setCell (by omega) _).setCell (by omega) _).setCell (by omega) _
    clear hw9 O8 y8 f8 O7
    have iA := hA8.inB
    have hs7 := S7.out
    have hA9 : Oe 57 3 flL w9 w7.heap.size A9 c9 (keepF dir fs3) := hA8.keepB fun ad had => k9 _ (by have := iA ad had; omega)
    have hsub : ((keepF dir fs3).map fb).Sublist (fs3.map fb) := (List.filter_sublist ..).map _
    have hOb : Obs w9 w1.heap.size w8.heap.size ((keepF dir fs3).map fb) := Obs.widen (by omega) (Obs.sub hsub (hG7.2.2.1.keep fun k h1 h2 => (k9 k (by omega)).trans (hb8.block k (by omega))))
    have hG9 : FsG w9 w1.heap.size w8.heap.size A9 c9 (keepF dir fs3) := ⟨Oe.mono hA9 (by omega), fun ad had => by have := iA ad had; omega, hOb, fun ad had e he ad' had' => by have h1 := iA ad had; have h2 := (hG7.2.2.1.inB e (hsub.subset he) ad' had'); omega⟩
    have ho9 : Oe 83 2 lkL w9 (w3.heap.size + 1) K6 d6 dir := ho7.keepB fun ad h => (k9 _ (by have := i6' ad h; omega)).trans (hb8.block _ (by have := i6' ad h; omega))
    have Z9 := (k9 (w.heap.size + 1) (by omega)).trans Z8
    have hgl : (keepF dir fs3).length ≤ es.length := by rw [← fl3l]; exact List.length_filter_le ..
    have hgx : ∀ x, x ∈ keepF dir fs3 → (0 ≤ x.2.2 ∧ x.2.2 ≤ x.2.1.2.2.length) ∧ x.2.1.2.2.length ≤ 1048576 := fun x hx => by
      have h1 : x ∈ fs3 := (List.filter_sublist ..).subset hx
      have h2 : fc x ∈ es.map fc := by rw [← hd3.out]; exact List.mem_map_of_mem h1
      obtain ⟨y, hy, hye⟩ := List.mem_map.1 h2
      have h3 := HSF.out _ h2
      refine ⟨h3, ?_⟩
      have h4 := hg.ey y hy
      simp only [fc, Prod.mk.injEq] at hye
      rw [← hye.2.1]
      exact h4
    have HC : Hid ((keepF dir fs3).map fc = keepC dir (es.map fc)) := by show _ = _; rw [keepF_fc, hd3.out]
    obtain ⟨gs, hgs⟩ : ∃ gs, Hid (keepF dir fs3 = gs) := ⟨_, Lib.hid rfl⟩
    rw [hgs.out] at O9 hG9 hgl hgx HC ⊢
    have HGX := Lib.hid hgx
    clear hgx hG7 ho7 hG3 ho6 hA9 hA8 hOb hsub Z8
    obtain ⟨nn, hnn⟩ : ∃ nn, nn = gs.length := ⟨_, rfl⟩
    rw [← hnn] at O9 hgl ⊢
    have HN := Lib.hid hnn
    clear hnn hs7
    go_loopw [34] (fun iv wr => ∃ j : Nat, j ≤ nn ∧ iv = .int .i64 j ∧ FsG wr w1.heap.size w8.heap.size A9 c9 (crF cuts 0 (gs.take j) ++ gs.drop j) ∧ wr.heap[w3.heap.size]? = some (.cells (dkC r (-1) n A9 nn c9 K6 dir.length d6 none 0 0) 35 (0, 0)) ∧ wr.heap[w.heap.size + 1]? = some (.cells zDk 35 (0, 0)) ∧ Oe 83 2 lkL wr (w3.heap.size + 1) K6 d6 dir ∧ w8.heap.size ≤ wr.heap.size ∧ Below w.heap.size w wr) (fun iv _ => nn - (intOf iv).toNat)
    case atStart => exact ⟨0, Nat.zero_le _, rfl, by simpa [crF] using hG9, O9, Z9, ho9, by have := s9.out; omega, t9⟩
    case round =>
      clear hG9 O9 Z9 ho9 t9 k9
      obtain ⟨j, hj, rfl, hG, OO, ZZ, hoK, sr, t9⟩ := hrel
      have z9 := t9.size
      have zO := (Array.getElem?_eq_some_iff.1 OO).1
      have zZ := (Array.getElem?_eq_some_iff.1 ZZ).1
      by_cases hlt : j < nn
      · have hlt' : (j : Int) < nn := by omega
        have hjx : j < gs.length := by have := HN.out; omega
        have hL : crF cuts 0 (gs.take j) ++ gs.drop j = crF cuts 0 (gs.take j) ++ gs[j] :: gs.drop (j + 1) := by rw [List.drop_eq_getElem_cons hjx]
        rw [hL] at hG
        have hml : (crF cuts 0 (gs.take j)).length = j := by rw [crF_len, List.length_take]; omega
        obtain ⟨g, hA9, hlog, hcm, hcap, hF⟩ := hG.1.fillC fl3 (by rw [List.length_append, List.length_cons]; omega)
        have hgj : (crF cuts 0 (gs.take j) ++ gs[j] :: gs.drop (j + 1))[j]? = some gs[j] := by
          have := @List.getElem?_append_right _ (crF cuts 0 (gs.take j)) (gs[j] :: gs.drop (j + 1)) j (by omega)
          rw [this, hml, Nat.sub_self]
          rfl
        have hfl := flat_len fl3 (crF cuts 0 (gs.take j) ++ gs[j] :: gs.drop (j + 1))
        have hll : j * 3 + 3 ≤ (crF cuts 0 (gs.take j) ++ gs[j] :: gs.drop (j + 1)).length * 3 := by rw [List.length_append, List.length_cons]; omega
        have hcap2 : j * 3 + 3 ≤ c9 * 3 := by rw [List.length_append, List.length_cons] at hcap; omega
        have x0 : wr.cell? ⟨g, j * 3, none⟩ = some (.int .i64 gs[j].1) := hF.cells _ _ (flat_get fl3 _ j _ hgj 0 _ rfl)
        have x1 : wr.cell? ⟨g, j * 3 + 1, none⟩ = some (.slice gs[j].2.1.1 gs[j].2.1.2.2.length gs[j].2.1.2.1) := hF.cells _ _ (flat_get fl3 _ j _ hgj 1 _ rfl)
        have x2 : wr.cell? ⟨g, j * 3 + 2, none⟩ = some (.int .i64 gs[j].2.2) := hF.cells _ _ (flat_get fl3 _ j _ hgj 2 _ rfl)
        have ff0 := hF.frozen (j * 3) (by omega)
        have ff1 := hF.frozen (j * 3 + 1) (by omega)
        have ff2 := hF.frozen (j * 3 + 2) (by omega)
        have zg := hF.lt
        have hgm : g < w8.heap.size := by have := hG.2.1 _ hA9; exact this.2
        have hgO : w3.heap.size < g := by have h5 := (iA _ hA9).1; have := S7.out; dsimp only at h5; omega
        have hg7 : w6.heap.size ≤ g := by have h5 := (iA _ hA9).1; have := S7.out; dsimp only at h5; omega
        have hobj : gs[j].2.1.2.2.length ≤ gs[j].2.1.2.1 := by
          obtain ⟨u1, u2, _, _, _, _, u5, _, _⟩ := (by have h := hG.2.2.1; rw [List.map_append, List.map_cons] at h; exact h.split : ∃ m m', _)
          exact Ob.le_cap (bs := gs[j].2.1.2.2) u5
        obtain ⟨⟨hs0, hs1⟩, hlb⟩ := HGX.out _ (List.getElem_mem hjx)
        have hcn := cutN_eq (k := cutK cuts j) (x := fc gs[j]) hs0
        have hcl := cutN_le (k := cutK cuts j) (x := fc gs[j]) hs1
        have hcut : cutFl (cutK cuts j) gs[j] = (gs[j].1, (gs[j].2.1.1, gs[j].2.1.2.1, gs[j].2.1.2.2.take (cutN (cutK cuts j) (fc gs[j]))), (cutN (cutK cuts j) (fc gs[j]) : Int)) := rfl
        have hsucc := crF_succ cuts hjx
        rw [hcut] at hsucc
        obtain ⟨cn, hcnn⟩ : ∃ cn : Nat, Hid (cutN (cutK cuts j) (fc gs[j]) = cn) := ⟨_, Lib.hid rfl⟩
        rw [hcnn.out] at hcn hcl hsucc
        have hcn' : gs[j].2.2 + max 0 (min (cutK cuts j) ((gs[j].2.1.2.2.length : Int) - gs[j].2.2)) = (cn : Int) := hcn
        have hcl' : cn ≤ gs[j].2.1.2.2.length := hcl
        have HCL := Lib.hid hcl'
        have HML := Lib.hid hml
        clear hml
        rw [hA9] at hG
        have HG := Lib.hid hG
        clear hG
        have HSU := Lib.hid hsucc
        obtain ⟨bl, hbl⟩ : ∃ bl : Nat, Hid (gs[j].2.1.2.2.length = bl) := ⟨_, Lib.hid rfl⟩
        rw [hbl.out] at x1 hcn' hcl' hs1 hlb hobj
        obtain ⟨sf, hsf⟩ : ∃ sf : Int, Hid (gs[j].2.2 = sf) := ⟨_, Lib.hid rfl⟩
        rw [hsf.out] at x2 hcn' hs0 hs1
        obtain ⟨idn, hidn⟩ : ∃ idn : Int, Hid (gs[j].1 = idn) := ⟨_, Lib.hid rfl⟩
        rw [hidn.out] at x0
        obtain ⟨kk, hkk⟩ : ∃ kk : Int, Hid (cutK cuts j = kk) := ⟨_, Lib.hid rfl⟩
        rw [hkk.out] at hcn'
        have hs1' : sf ≤ (bl : Int) := by have := hbl.out; have := hsf.out; omega
        have E14 : Hid (IntKind.i64.wrap ((bl : Int) - sf) = (bl : Int) - sf) := by show _ = _; rw [IntKind.wrap_i64]; omega
        have E17 : Hid (IntKind.i64.wrap (sf + max 0 (min kk ((bl : Int) - sf))) = (cn : Int)) := by show _ = _; rw [hcn', IntKind.wrap_i64]; omega
        have hj0 : (0 : Int) ≤ (j : Int) := by omega
        clear hcn hcl hsucc hcut hfl hgj hL hcn' hs1 hF hll
        subst hA9
        have hcc : (cuts = [] ∧ kk = 0) ∨ (0 < cuts.length ∧ ∃ b o, QA = some ⟨b, o, none⟩ ∧ wr.cell? ⟨b, o + j % cuts.length, none⟩ = some (.int .i64 kk)) := by
          rw [← hkk.out, cutK]
          by_cases hc : cuts = []
          · exact .inl ⟨hc, if_pos hc⟩
          · right
            have h0 : 0 < cuts.length := List.length_pos_iff.2 hc
            have hmod := Nat.mod_lt j h0
            rcases hq with h | ⟨b, o, hA, h⟩
            · exact absurd (List.map_eq_nil_iff.1 h) hc
            · refine ⟨h0, b, o, hA, ?_⟩
              have h2 := h (j % cuts.length) (I cuts[j % cuts.length]) (by simp [hmod])
              have h3 := (t9.cell (World.block_lt_of_cell? w _ h2)).trans h2
              rw [h3, if_neg hc, List.getElem?_eq_getElem hmod]
              rfl
        clear hq
        rcases hcc with ⟨hc, rfl⟩ | ⟨hc, b, o, rfl, hx⟩
        · have h0 : ¬ (0 : Int) < cuts.length := by rw [hc]; simp
          clear hc
          have e14 := E14.out
          have e17 := E17.out
          go_wp2_with fail
          have P0 : (wr.alloc (.cells #[.int .i64 idn, .slice gs[j].2.1.1 bl gs[j].2.1.2.1, .int .i64 sf] 57)).drew.heap[wr.heap.size]? = some (.cells #[.int .i64 idn, .slice gs[j].2.1.1 bl gs[j].2.1.2.1, .int .i64 sf] 57 (0, 0)) := heap_alloc_new _ _
          refine wp_region_held_drew (S := fun w' => w'.heap[wr.heap.size]? = some (.cells #[.int .i64 idn, .slice gs[j].2.1.1 bl gs[j].2.1.2.1, .int .i64 sf] 57 (0, 0))) (by kernel_rfl) (P0) (fun _ => ?_)
          refine wpAnyH_take (i := 0) (v := .pointer (some ⟨wr.heap.size, 2, none⟩)) rfl (by kernel_rfl) (by kernel_rfl) (by kernel_rfl) (fun _ _ _ h => h) (Or.inl ⟨by rfl, (by intro w' hS; skip; go_simp; try first | rfl | (simp [*, Addr.add_lit]; done))⟩) (P0) ?_
          try simp only [Act.put, List.getElem_toArray, List.getElem_cons_zero, List.setIfInBounds_toArray, List.set_cons_zero, List.set_cons_succ]
          refine wpAnyH_take (i := 1) (v := .int .i64 sf) rfl (by kernel_rfl) (by kernel_rfl) (by kernel_rfl) (fun _ _ _ h => h) (Or.inl ⟨by rfl, (by intro w' hS; have q := cell_of_row w' wr.heap.size 2 _ _ (0, 0) hS; go_simp; try first | rfl | (simp [*, Addr.add_lit]; done))⟩) (P0) ?_
          try simp only [Act.put, List.getElem_toArray, List.getElem_cons_succ, List.getElem_cons_zero, List.setIfInBounds_toArray, List.set_cons_zero, List.set_cons_succ]
          refine wpAnyH_take (i := 2) (v := .int .i64 (0 : Int)) rfl (by kernel_rfl) (by kernel_rfl) (by kernel_rfl) (fun _ _ _ h => h) (Or.inl ⟨by rfl, (by intro w' hS; skip; go_simp; try first | rfl | (simp [*, Addr.add_lit]; done))⟩) (P0) ?_
          try simp only [Act.put, List.getElem_toArray, List.getElem_cons_succ, List.getElem_cons_zero, List.setIfInBounds_toArray, List.set_cons_zero, List.set_cons_succ]
          refine wpAnyH_take (i := 3) (v := .pointer (some ⟨wr.heap.size, 1, none⟩)) rfl (by kernel_rfl) (by kernel_rfl) (by kernel_rfl) (fun _ _ _ h => h) (Or.inl ⟨by rfl, (by intro w' hS; skip; go_simp; try first | rfl | (simp [*, Addr.add_lit]; done))⟩) (P0) ?_
          try simp only [Act.put, List.getElem_toArray, List.getElem_cons_succ, List.getElem_cons_zero, List.setIfInBounds_toArray, List.set_cons_zero, List.set_cons_succ]
          refine wpAnyH_take (i := 4) (v := .slice gs[j].2.1.1 bl gs[j].2.1.2.1) rfl (by kernel_rfl) (by kernel_rfl) (by kernel_rfl) (fun _ _ _ h => h) (Or.inl ⟨by rfl, (by intro w' hS; have q := cell_of_row w' wr.heap.size 1 _ _ (0, 0) hS; go_simp; try first | rfl | (simp [*, Addr.add_lit]; done))⟩) (P0) ?_
          try simp only [Act.put, List.getElem_toArray, List.getElem_cons_succ, List.getElem_cons_zero, List.setIfInBounds_toArray, List.set_cons_zero, List.set_cons_succ]
          refine wpAnyH_take (i := 5) (v := .int .i64 bl) rfl (by kernel_rfl) (by kernel_rfl) (by kernel_rfl) (fun _ _ _ h => h) (Or.inl ⟨by rfl, (by intro w' hS; skip; go_simp; try first | rfl | (simp [*, Addr.add_lit]; done))⟩) (P0) ?_
          try simp only [Act.put, List.getElem_toArray, List.getElem_cons_succ, List.getElem_cons_zero, List.setIfInBounds_toArray, List.set_cons_zero, List.set_cons_succ]
          refine wpAnyH_take (i := 6) (v := .pointer (some ⟨wr.heap.size, 2, none⟩)) rfl (by kernel_rfl) (by kernel_rfl) (by kernel_rfl) (fun _ _ _ h => h) (Or.inl ⟨by rfl, (by intro w' hS; skip; go_simp; try first | rfl | (simp [*, Addr.add_lit]; done))⟩) (P0) ?_
          try simp only [Act.put, List.getElem_toArray, List.getElem_cons_succ, List.getElem_cons_zero, List.setIfInBounds_toArray, List.set_cons_zero, List.set_cons_succ]
          refine wpAnyH_take (i := 7) (v := .int .i64 sf) rfl (by kernel_rfl) (by kernel_rfl) (by kernel_rfl) (fun _ _ _ h => h) (Or.inl ⟨by rfl, (by intro w' hS; have q := cell_of_row w' wr.heap.size 2 _ _ (0, 0) hS; go_simp; try first | rfl | (simp [*, Addr.add_lit]; done))⟩) (P0) ?_
          try simp only [Act.put, List.getElem_toArray, List.getElem_cons_succ, List.getElem_cons_zero, List.setIfInBounds_toArray, List.set_cons_zero, List.set_cons_succ]
          refine wpAnyH_take (i := 8) (v := .int .i64 ((bl : Int) - sf)) rfl (by kernel_rfl) (by kernel_rfl) (by kernel_rfl) (fun _ _ _ h => h) (Or.inl ⟨by rfl, (by intro w' hS; skip; go_simp; try first | rfl | (simp [*, Addr.add_lit]; done))⟩) (P0) ?_
          try simp only [Act.put, List.getElem_toArray, List.getElem_cons_succ, List.getElem_cons_zero, List.setIfInBounds_toArray, List.set_cons_zero, List.set_cons_succ]
          refine wpAnyH_ready (rs := [9]) (by kernel_rfl) (by simp) ?_
          refine AllReadyH.cons rfl (fun K hK => ?_) AllReadyH.nil
          go_simp
          refine (l02Clamp_any (0 : Int) ((bl : Int) - sf) _ (by omega)).mono ?_
          rintro e w5 ⟨rfl, hw5⟩
          subst hw5
          refine hK.out _ _ (P0) (fun _ => ?_)
          clear hK K
          try simp only [Act.put, List.getElem_toArray, List.getElem_cons_succ, List.getElem_cons_zero, List.setIfInBounds_toArray, List.set_cons_zero, List.set_cons_succ]
          refine wpAnyH_take (i := 10) (v := .int .i64 (cn : Int)) rfl (by kernel_rfl) (by kernel_rfl) (by kernel_rfl) (fun _ _ _ h => h) (Or.inl ⟨by rfl, (by intro w' hS; skip; go_simp; try first | rfl | (simp [*, Addr.add_lit]; done))⟩) (P0) ?_
          try simp only [Act.put, List.getElem_toArray, List.getElem_cons_succ, List.getElem_cons_zero, List.setIfInBounds_toArray, List.set_cons_zero, List.set_cons_succ]
          refine wpAnyH_take (i := 11) (v := .int .i64 (cn : Int)) rfl (by kernel_rfl) (by kernel_rfl) (by kernel_rfl) (fun _ _ _ h => h) (Or.inl ⟨by rfl, (by intro w' hS; skip; go_simp; try first | rfl | (simp [*, Addr.add_lit]; done))⟩) (P0) ?_
          try simp only [Act.put, List.getElem_toArray, List.getElem_cons_succ, List.getElem_cons_zero, List.setIfInBounds_toArray, List.set_cons_zero, List.set_cons_succ]
          refine wpAnyH_done (by kernel_rfl) ?_ _
          clear P0 e14 e17
          go_wp2_with fail
          have P1 : (wr.alloc (.cells #[.int .i64 idn, .slice gs[j].2.1.1 bl gs[j].2.1.2.1, .int .i64 sf] 57)).drew.drew.heap[wr.heap.size]? = some (.cells #[.int .i64 idn, .slice gs[j].2.1.1 bl gs[j].2.1.2.1, .int .i64 sf] 57 (0, 0)) := heap_alloc_new _ _
          have Q1 : (wr.alloc (.cells #[.int .i64 idn, .slice gs[j].2.1.1 bl gs[j].2.1.2.1, .int .i64 sf] 57)).drew.drew.heap[w3.heap.size]? = some (.cells (dkC r (-1) n (some ⟨g, 0, none⟩) nn c9 K6 dir.length d6 none 0 0) 35 (0, 0)) := heap_alloc_of _ OO
          have hc1 : (0 : Int) ≤ (cn : Int) := by omega
          have hc2 : (cn : Int) ≤ gs[j].2.1.2.1 := by omega
          refine wp_region_held_drew (S := fun w' => w'.heap[w3.heap.size]? = some (.cells (dkC r (-1) n (some ⟨g, 0, none⟩) nn c9 K6 dir.length d6 none 0 0) 35 (0, 0)) ∧ w'.heap[wr.heap.size]? = some (.cells #[.int .i64 idn, .slice gs[j].2.1.1 bl gs[j].2.1.2.1, .int .i64 sf] 57 (0, 0))) (by kernel_rfl) (⟨Q1, P1⟩) (fun _ => ?_)
          refine wpAnyH_take (i := 0) (v := .pointer (some ⟨w3.heap.size, 3, none⟩)) rfl (by kernel_rfl) (by kernel_rfl) (by kernel_rfl) (fun _ _ _ h => h) (Or.inl ⟨by rfl, (by intro w' hS; skip; go_simp; try first | rfl | (simp [*, Addr.add_lit]; done))⟩) (⟨Q1, P1⟩) ?_
          try simp only [Act.put, List.getElem_toArray, List.getElem_cons_zero, List.setIfInBounds_toArray, List.set_cons_zero, List.set_cons_succ]
          refine wpAnyH_take (i := 1) (v := .slice (some ⟨g, 0, none⟩) nn c9) rfl (by kernel_rfl) (by kernel_rfl) (by kernel_rfl) (fun _ _ _ h => h) (Or.inl ⟨by rfl, (by intro w' hS; have q := cell_of_row w' w3.heap.size 3 _ _ (0, 0) hS.1; go_simp; try first | rfl | (simp [*, Addr.add_lit]; done))⟩) (⟨Q1, P1⟩) ?_
          try simp only [Act.put, List.getElem_toArray, List.getElem_cons_succ, List.getElem_cons_zero, List.setIfInBounds_toArray, List.set_cons_zero, List.set_cons_succ]
          refine wpAnyH_take (i := 2) (v := .int .i64 j) rfl (by kernel_rfl) (by kernel_rfl) (by kernel_rfl) (fun _ _ _ h => h) (Or.inl ⟨by rfl, (by intro w' hS; skip; go_simp; try first | rfl | (simp [*, Addr.add_lit]; done))⟩) (⟨Q1, P1⟩) ?_
          try simp only [Act.put, List.getElem_toArray, List.getElem_cons_succ, List.getElem_cons_zero, List.setIfInBounds_toArray, List.set_cons_zero, List.set_cons_succ]
          refine wpAnyH_take (i := 3) (v := .pointer (some ⟨wr.heap.size, 0, none⟩)) rfl (by kernel_rfl) (by kernel_rfl) (by kernel_rfl) (fun _ _ _ h => h) (Or.inl ⟨by rfl, (by intro w' hS; skip; go_simp; try first | rfl | (simp [*, Addr.add_lit]; done))⟩) (⟨Q1, P1⟩) ?_
          try simp only [Act.put, List.getElem_toArray, List.getElem_cons_succ, List.getElem_cons_zero, List.setIfInBounds_toArray, List.set_cons_zero, List.set_cons_succ]
          refine wpAnyH_take (i := 4) (v := .int .i64 idn) rfl (by kernel_rfl) (by kernel_rfl) (by kernel_rfl) (fun _ _ _ h => h) (Or.inl ⟨by rfl, (by intro w' hS; have q := cell_of_row w' wr.heap.size 0 _ _ (0, 0) hS.2; go_simp; try first | rfl | (simp [*, Addr.add_lit]; done))⟩) (⟨Q1, P1⟩) ?_
          try simp only [Act.put, List.getElem_toArray, List.getElem_cons_succ, List.getElem_cons_zero, List.setIfInBounds_toArray, List.set_cons_zero, List.set_cons_succ]
          refine wpAnyH_take (i := 5) (v := .pointer (some ⟨wr.heap.size, 1, none⟩)) rfl (by kernel_rfl) (by kernel_rfl) (by kernel_rfl) (fun _ _ _ h => h) (Or.inl ⟨by rfl, (by intro w' hS; skip; go_simp; try first | rfl | (simp [*, Addr.add_lit]; done))⟩) (⟨Q1, P1⟩) ?_
          try simp only [Act.put, List.getElem_toArray, List.getElem_cons_succ, List.getElem_cons_zero, List.setIfInBounds_toArray, List.set_cons_zero, List.set_cons_succ]
          refine wpAnyH_take (i := 6) (v := .slice gs[j].2.1.1 bl gs[j].2.1.2.1) rfl (by kernel_rfl) (by kernel_rfl) (by kernel_rfl) (fun _ _ _ h => h) (Or.inl ⟨by rfl, (by intro w' hS; have q := cell_of_row w' wr.heap.size 1 _ _ (0, 0) hS.2; go_simp; try first | rfl | (simp [*, Addr.add_lit]; done))⟩) (⟨Q1, P1⟩) ?_
          try simp only [Act.put, List.getElem_toArray, List.getElem_cons_succ, List.getElem_cons_zero, List.setIfInBounds_toArray, List.set_cons_zero, List.set_cons_succ]
          refine wpAnyH_take (i := 7) (v := .int .i64 (cn : Int)) rfl (by kernel_rfl) (by kernel_rfl) (by kernel_rfl) (fun _ _ _ h => h) (Or.inl ⟨by rfl, (by intro w' hS; skip; go_simp; try first | rfl | (simp [*, Addr.add_lit]; done))⟩) (⟨Q1, P1⟩) ?_
          try simp only [Act.put, List.getElem_toArray, List.getElem_cons_succ, List.getElem_cons_zero, List.setIfInBounds_toArray, List.set_cons_zero, List.set_cons_succ]
          refine wpAnyH_take (i := 9) (v := .int .i64 (cn : Int)) rfl (by kernel_rfl) (by kernel_rfl) (by kernel_rfl) (fun _ _ _ h => h) (Or.inl ⟨by rfl, (by intro w' hS; skip; go_simp; try first | rfl | (simp [*, Addr.add_lit]; done))⟩) (⟨Q1, P1⟩) ?_
          try simp only [Act.put, List.getElem_toArray, List.getElem_cons_succ, List.getElem_cons_zero, List.setIfInBounds_toArray, List.set_cons_zero, List.set_cons_succ]
          refine wpAnyH_ready (rs := [8]) (by kernel_rfl) (by simp) ?_
          refine AllReadyH.cons rfl (fun K hK => ?_) AllReadyH.nil
          go_simp
          refine hK.out _ _ (⟨Q1, P1⟩) (fun _ => ?_)
          clear hK K
          try simp only [Act.put, List.getElem_toArray, List.getElem_cons_succ, List.getElem_cons_zero, List.setIfInBounds_toArray, List.set_cons_zero, List.set_cons_succ]
          refine wpAnyH_take (i := 10) (v := .agg #[.int .i64 idn, .slice gs[j].2.1.1 cn gs[j].2.1.2.1, .int .i64 (cn : Int)]) rfl (by kernel_rfl) (by kernel_rfl) (by kernel_rfl) (fun _ _ _ h => h) (Or.inl ⟨by rfl, (by intro w' hS; skip; go_simp; try first | rfl | (simp [*, Addr.add_lit]; done))⟩) (⟨Q1, P1⟩) ?_
          try simp only [Act.put, List.getElem_toArray, List.getElem_cons_succ, List.getElem_cons_zero, List.setIfInBounds_toArray, List.set_cons_zero, List.set_cons_succ]
          refine wpAnyH_take (i := 11) (v := .pointer (some ⟨g, j * 3, none⟩)) rfl (by kernel_rfl) (by kernel_rfl) (by kernel_rfl) (fun _ _ _ h => h) (Or.inl ⟨by rfl, (by intro w' hS; skip; go_simp; try first | rfl | (simp [*, Addr.add_lit]; done))⟩) (⟨Q1, P1⟩) ?_
          try simp only [Act.put, List.getElem_toArray, List.getElem_cons_succ, List.getElem_cons_zero, List.setIfInBounds_toArray, List.set_cons_zero, List.set_cons_succ]
          refine wpAnyH_ready (rs := [12]) (by kernel_rfl) (by simp) ?_
          refine AllReadyH.cons rfl (fun K hK => ?_) AllReadyH.nil
          go_simp
          obtain ⟨ch, hch⟩ : ∃ ch, ch = (((wr.setCell ⟨g, j * 3, none⟩ (.int .i64 idn)).setCell ⟨g, j * 3 + 1, none⟩ (.slice gs[j].2.1.1 cn gs[j].2.1.2.1)).setCell ⟨g, j * 3 + 2, none⟩ (.int .i64 (cn : Int))) := ⟨_, rfl⟩
          rw [← hch]
          have hcs : ch.heap.size = wr.heap.size := by rw [hch]; simp
          have hne : ∀ k, k ≠ g → ch.heap[k]? = wr.heap[k]? := fun k hk => by rw [hch]; exact (Below.heap_setCell _ _ _ k hk).trans ((Below.heap_setCell _ _ _ k hk).trans (Below.heap_setCell _ _ _ k hk))
          have HGC : FsG ch w1.heap.size w8.heap.size (some ⟨g, 0, none⟩) c9 (crF cuts 0 (gs.take j) ++ (gs[j].1, (gs[j].2.1.1, gs[j].2.1.2.1, gs[j].2.1.2.2.take cn), (cn : Int)) :: gs.drop (j + 1)) := by
            have h := FsG.cut3 (x := gs[j]) HG.out HCL.out
            rw [HML.out, hidn.out] at h
            rw [hch, hidn.out]
            exact h
          have tC : Below w.heap.size w ch := by rw [hch]; exact ((t9.setCell (by show w.heap.size ≤ g; omega) _).setCell (by show w.heap.size ≤ g; omega) _).setCell (by show w.heap.size ≤ g; omega) _
          clear hch
          have HCS := Lib.hid hcs
          clear hcs
          obtain ⟨V, hV⟩ : ∃ V, V = (ch.alloc (.cells #[.int .i64 idn, .slice gs[j].2.1.1 bl gs[j].2.1.2.1, .int .i64 sf] 57)).drew.drew := ⟨_, rfl⟩
          rw [← hV]
          have hVa : ∀ k, k < wr.heap.size → V.heap[k]? = ch.heap[k]? := fun k hk => by rw [hV]; exact Below.heap_alloc ch _ k (by rw [HCS.out]; exact hk)
          have hVs : wr.heap.size ≤ V.heap.size := by rw [hV]; have := HCS.out; simp; omega
          have PV : V.heap[wr.heap.size]? = some (.cells #[.int .i64 idn, .slice gs[j].2.1.1 bl gs[j].2.1.2.1, .int .i64 sf] 57 (0, 0)) := by rw [hV, ← HCS.out]; exact heap_alloc_new _ _
          have QV : V.heap[w3.heap.size]? = some (.cells (dkC r (-1) n (some ⟨g, 0, none⟩) nn c9 K6 dir.length d6 none 0 0) 35 (0, 0)) := (hVa _ zO).trans ((hne _ (by omega)).trans OO)
          have tV : Below w.heap.size w V := by rw [hV]; exact (tC.alloc (by rw [HCS.out]; exact z9) _).drew.drew
          have iK := hoK.inB
          have hoV : Oe 83 2 lkL V (w3.heap.size + 1) K6 d6 dir := hoK.keepB fun ad had => (hVa _ (iK ad had).2).trans (hne _ (by have := i6' ad had; omega))
          clear hV
          refine hK.out _ _ (⟨QV, PV⟩) (fun _ => ?_)
          clear hK K
          try simp only [Act.put, List.getElem_toArray, List.getElem_cons_succ, List.getElem_cons_zero, List.setIfInBounds_toArray, List.set_cons_zero, List.set_cons_succ]
          refine wpAnyH_done (by kernel_rfl) ?_ _
          clear P1 Q1 PV
          go_wp2_with fail
          go_roundw
          case rel => exact ⟨j + 1, by omega, by go_num, by rw [HSU.out, List.append_assoc]; exact HGC.keep fun k _ hk => hVa k (by omega), QV, (hVa _ zZ).trans ((hne _ (by omega)).trans ZZ), hoV, by omega, tV⟩
          case measure => simp [intOf]; omega
        · have h0 : (0 : Int) < cuts.length := by omega
          obtain ⟨p, hp⟩ : ∃ p : Nat, Hid (j % cuts.length = p) := ⟨_, Lib.hid rfl⟩
          have hpl : p < cuts.length := by rw [← hp.out]; exact Nat.mod_lt j hc
          rw [hp.out] at hx
          have hbz : b < wr.heap.size := World.block_lt_of_cell? wr _ hx
          have em : Int.tmod (j : Int) (cuts.length : Int) = (p : Int) := by rw [← hp.out]; exact (Int.ofNat_tmod _ _).symm
          have em2 : (j : Int) % (cuts.length : Int) = (p : Int) := by rw [← hp.out]; simp
          have hn0 : ¬ (cuts.length : Int) = 0 := by omega
          have hp0 : (0 : Int) ≤ (p : Int) := by omega
          have hp1 : (p : Int) < cuts.length := by omega
          have e14 := E14.out
          have e17 := E17.out
          go_wp2_with fail
          have P0 : (wr.alloc (.cells #[.int .i64 idn, .slice gs[j].2.1.1 bl gs[j].2.1.2.1, .int .i64 sf] 57)).drew.heap[wr.heap.size]? = some (.cells #[.int .i64 idn, .slice gs[j].2.1.1 bl gs[j].2.1.2.1, .int .i64 sf] 57 (0, 0)) := heap_alloc_new _ _
          refine wp_region_held_drew (S := fun w' => w'.heap[wr.heap.size]? = some (.cells #[.int .i64 idn, .slice gs[j].2.1.1 bl gs[j].2.1.2.1, .int .i64 sf] 57 (0, 0))) (by kernel_rfl) (P0) (fun _ => ?_)
          refine wpAnyH_take (i := 0) (v := .pointer (some ⟨wr.heap.size, 2, none⟩)) rfl (by kernel_rfl) (by kernel_rfl) (by kernel_rfl) (fun _ _ _ h => h) (Or.inl ⟨by rfl, (by intro w' hS; skip; go_simp; try first | rfl | (simp [*, Addr.add_lit]; done))⟩) (P0) ?_
          try simp only [Act.put, List.getElem_toArray, List.getElem_cons_zero, List.setIfInBounds_toArray, List.set_cons_zero, List.set_cons_succ]
          refine wpAnyH_take (i := 1) (v := .int .i64 sf) rfl (by kernel_rfl) (by kernel_rfl) (by kernel_rfl) (fun _ _ _ h => h) (Or.inl ⟨by rfl, (by intro w' hS; have q := cell_of_row w' wr.heap.size 2 _ _ (0, 0) hS; go_simp; try first | rfl | (simp [*, Addr.add_lit]; done))⟩) (P0) ?_
          try simp only [Act.put, List.getElem_toArray, List.getElem_cons_succ, List.getElem_cons_zero, List.setIfInBounds_toArray, List.set_cons_zero, List.set_cons_succ]
          refine wpAnyH_take (i := 2) (v := .int .i64 kk) rfl (by kernel_rfl) (by kernel_rfl) (by kernel_rfl) (fun _ _ _ h => h) (Or.inl ⟨by rfl, (by intro w' hS; skip; go_simp; try first | rfl | (simp [*, Addr.add_lit]; done))⟩) (P0) ?_
          try simp only [Act.put, List.getElem_toArray, List.getElem_cons_succ, List.getElem_cons_zero, List.setIfInBounds_toArray, List.set_cons_zero, List.set_cons_succ]
          refine wpAnyH_take (i := 3) (v := .pointer (some ⟨wr.heap.size, 1, none⟩)) rfl (by kernel_rfl) (by kernel_rfl) (by kernel_rfl) (fun _ _ _ h => h) (Or.inl ⟨by rfl, (by intro w' hS; skip; go_simp; try first | rfl | (simp [*, Addr.add_lit]; done))⟩) (P0) ?_
          try simp only [Act.put, List.getElem_toArray, List.getElem_cons_succ, List.getElem_cons_zero, List.setIfInBounds_toArray, List.set_cons_zero, List.set_cons_succ]
          refine wpAnyH_take (i := 4) (v := .slice gs[j].2.1.1 bl gs[j].2.1.2.1) rfl (by kernel_rfl) (by kernel_rfl) (by kernel_rfl) (fun _ _ _ h => h) (Or.inl ⟨by rfl, (by intro w' hS; have q := cell_of_row w' wr.heap.size 1 _ _ (0, 0) hS; go_simp; try first | rfl | (simp [*, Addr.add_lit]; done))⟩) (P0) ?_
          try simp only [Act.put, List.getElem_toArray, List.getElem_cons_succ, List.getElem_cons_zero, List.setIfInBounds_toArray, List.set_cons_zero, List.set_cons_succ]
          refine wpAnyH_take (i := 5) (v := .int .i64 bl) rfl (by kernel_rfl) (by kernel_rfl) (by kernel_rfl) (fun _ _ _ h => h) (Or.inl ⟨by rfl, (by intro w' hS; skip; go_simp; try first | rfl | (simp [*, Addr.add_lit]; done))⟩) (P0) ?_
          try simp only [Act.put, List.getElem_toArray, List.getElem_cons_succ, List.getElem_cons_zero, List.setIfInBounds_toArray, List.set_cons_zero, List.set_cons_succ]
          refine wpAnyH_take (i := 6) (v := .pointer (some ⟨wr.heap.size, 2, none⟩)) rfl (by kernel_rfl) (by kernel_rfl) (by kernel_rfl) (fun _ _ _ h => h) (Or.inl ⟨by rfl, (by intro w' hS; skip; go_simp; try first | rfl | (simp [*, Addr.add_lit]; done))⟩) (P0) ?_
          try simp only [Act.put, List.getElem_toArray, List.getElem_cons_succ, List.getElem_cons_zero, List.setIfInBounds_toArray, List.set_cons_zero, List.set_cons_succ]
          refine wpAnyH_take (i := 7) (v := .int .i64 sf) rfl (by kernel_rfl) (by kernel_rfl) (by kernel_rfl) (fun _ _ _ h => h) (Or.inl ⟨by rfl, (by intro w' hS; have q := cell_of_row w' wr.heap.size 2 _ _ (0, 0) hS; go_simp; try first | rfl | (simp [*, Addr.add_lit]; done))⟩) (P0) ?_
          try simp only [Act.put, List.getElem_toArray, List.getElem_cons_succ, List.getElem_cons_zero, List.setIfInBounds_toArray, List.set_cons_zero, List.set_cons_succ]
          refine wpAnyH_take (i := 8) (v := .int .i64 ((bl : Int) - sf)) rfl (by kernel_rfl) (by kernel_rfl) (by kernel_rfl) (fun _ _ _ h => h) (Or.inl ⟨by rfl, (by intro w' hS; skip; go_simp; try first | rfl | (simp [*, Addr.add_lit]; done))⟩) (P0) ?_
          try simp only [Act.put, List.getElem_toArray, List.getElem_cons_succ, List.getElem_cons_zero, List.setIfInBounds_toArray, List.set_cons_zero, List.set_cons_succ]
          refine wpAnyH_ready (rs := [9]) (by kernel_rfl) (by simp) ?_
          refine AllReadyH.cons rfl (fun K hK => ?_) AllReadyH.nil
          go_simp
          refine (l02Clamp_any kk ((bl : Int) - sf) _ (by omega)).mono ?_
          rintro e w5 ⟨rfl, hw5⟩
          subst hw5
          refine hK.out _ _ (P0) (fun _ => ?_)
          clear hK K
          try simp only [Act.put, List.getElem_toArray, List.getElem_cons_succ, List.getElem_cons_zero, List.setIfInBounds_toArray, List.set_cons_zero, List.set_cons_succ]
          refine wpAnyH_take (i := 10) (v := .int .i64 (cn : Int)) rfl (by kernel_rfl) (by kernel_rfl) (by kernel_rfl) (fun _ _ _ h => h) (Or.inl ⟨by rfl, (by intro w' hS; skip; go_simp; try first | rfl | (simp [*, Addr.add_lit]; done))⟩) (P0) ?_
          try simp only [Act.put, List.getElem_toArray, List.getElem_cons_succ, List.getElem_cons_zero, List.setIfInBounds_toArray, List.set_cons_zero, List.set_cons_succ]
          refine wpAnyH_take (i := 11) (v := .int .i64 (cn : Int)) rfl (by kernel_rfl) (by kernel_rfl) (by kernel_rfl) (fun _ _ _ h => h) (Or.inl ⟨by rfl, (by intro w' hS; skip; go_simp; try first | rfl | (simp [*, Addr.add_lit]; done))⟩) (P0) ?_
          try simp only [Act.put, List.getElem_toArray, List.getElem_cons_succ, List.getElem_cons_zero, List.setIfInBounds_toArray, List.set_cons_zero, List.set_cons_succ]
          refine wpAnyH_done (by kernel_rfl) ?_ _
          clear P0 e14 e17
          go_wp2_with fail
          have P1 : (wr.alloc (.cells #[.int .i64 idn, .slice gs[j].2.1.1 bl gs[j].2.1.2.1, .int .i64 sf] 57)).drew.drew.heap[wr.heap.size]? = some (.cells #[.int .i64 idn, .slice gs[j].2.1.1 bl gs[j].2.1.2.1, .int .i64 sf] 57 (0, 0)) := heap_alloc_new _ _
          have Q1 : (wr.alloc (.cells #[.int .i64 idn, .slice gs[j].2.1.1 bl gs[j].2.1.2.1, .int .i64 sf] 57)).drew.drew.heap[w3.heap.size]? = some (.cells (dkC r (-1) n (some ⟨g, 0, none⟩) nn c9 K6 dir.length d6 none 0 0) 35 (0, 0)) := heap_alloc_of _ OO
          have hc1 : (0 : Int) ≤ (cn : Int) := by omega
          have hc2 : (cn : Int) ≤ gs[j].2.1.2.1 := by omega
          refine wp_region_held_drew (S := fun w' => w'.heap[w3.heap.size]? = some (.cells (dkC r (-1) n (some ⟨g, 0, none⟩) nn c9 K6 dir.length d6 none 0 0) 35 (0, 0)) ∧ w'.heap[wr.heap.size]? = some (.cells #[.int .i64 idn, .slice gs[j].2.1.1 bl gs[j].2.1.2.1, .int .i64 sf] 57 (0, 0))) (by kernel_rfl) (⟨Q1, P1⟩) (fun _ => ?_)
          refine wpAnyH_take (i := 0) (v := .pointer (some ⟨w3.heap.size, 3, none⟩)) rfl (by kernel_rfl) (by kernel_rfl) (by kernel_rfl) (fun _ _ _ h => h) (Or.inl ⟨by rfl, (by intro w' hS; skip; go_simp; try first | rfl | (simp [*, Addr.add_lit]; done))⟩) (⟨Q1, P1⟩) ?_
          try simp only [Act.put, List.getElem_toArray, List.getElem_cons_zero, List.setIfInBounds_toArray, List.set_cons_zero, List.set_cons_succ]
          refine wpAnyH_take (i := 1) (v := .slice (some ⟨g, 0, none⟩) nn c9) rfl (by kernel_rfl) (by kernel_rfl) (by kernel_rfl) (fun _ _ _ h => h) (Or.inl ⟨by rfl, (by intro w' hS; have q := cell_of_row w' w3.heap.size 3 _ _ (0, 0) hS.1; go_simp; try first | rfl | (simp [*, Addr.add_lit]; done))⟩) (⟨Q1, P1⟩) ?_
          try simp only [Act.put, List.getElem_toArray, List.getElem_cons_succ, List.getElem_cons_zero, List.setIfInBounds_toArray, List.set_cons_zero, List.set_cons_succ]
          refine wpAnyH_take (i := 2) (v := .int .i64 j) rfl (by kernel_rfl) (by kernel_rfl) (by kernel_rfl) (fun _ _ _ h => h) (Or.inl ⟨by rfl, (by intro w' hS; skip; go_simp; try first | rfl | (simp [*, Addr.add_lit]; done))⟩) (⟨Q1, P1⟩) ?_
          try simp only [Act.put, List.getElem_toArray, List.getElem_cons_succ, List.getElem_cons_zero, List.setIfInBounds_toArray, List.set_cons_zero, List.set_cons_succ]
          refine wpAnyH_take (i := 3) (v := .pointer (some ⟨wr.heap.size, 0, none⟩)) rfl (by kernel_rfl) (by kernel_rfl) (by kernel_rfl) (fun _ _ _ h => h) (Or.inl ⟨by rfl, (by intro w' hS; skip; go_simp; try first | rfl | (simp [*, Addr.add_lit]; done))⟩) (⟨Q1, P1⟩) ?_
          try simp only [Act.put, List.getElem_toArray, List.getElem_cons_succ, List.getElem_cons_zero, List.setIfInBounds_toArray, List.set_cons_zero, List.set_cons_succ]
          refine wpAnyH_take (i := 4) (v := .int .i64 idn) rfl (by kernel_rfl) (by kernel_rfl) (by kernel_rfl) (fun _ _ _ h => h) (Or.inl ⟨by rfl, (by intro w' hS; have q := cell_of_row w' wr.heap.size 0 _ _ (0, 0) hS.2; go_simp; try first | rfl | (simp [*, Addr.add_lit]; done))⟩) (⟨Q1, P1⟩) ?_
          try simp only [Act.put, List.getElem_toArray, List.getElem_cons_succ, List.getElem_cons_zero, List.setIfInBounds_toArray, List.set_cons_zero, List.set_cons_succ]
          refine wpAnyH_take (i := 5) (v := .pointer (some ⟨wr.heap.size, 1, none⟩)) rfl (by kernel_rfl) (by kernel_rfl) (by kernel_rfl) (fun _ _ _ h => h) (Or.inl ⟨by rfl, (by intro w' hS; skip; go_simp; try first | rfl | (simp [*, Addr.add_lit]; done))⟩) (⟨Q1, P1⟩) ?_
          try simp only [Act.put, List.getElem_toArray, List.getElem_cons_succ, List.getElem_cons_zero, List.setIfInBounds_toArray, List.set_cons_zero, List.set_cons_succ]
          refine wpAnyH_take (i := 6) (v := .slice gs[j].2.1.1 bl gs[j].2.1.2.1) rfl (by kernel_rfl) (by kernel_rfl) (by kernel_rfl) (fun _ _ _ h => h) (Or.inl ⟨by rfl, (by intro w' hS; have q := cell_of_row w' wr.heap.size 1 _ _ (0, 0) hS.2; go_simp; try first | rfl | (simp [*, Addr.add_lit]; done))⟩) (⟨Q1, P1⟩) ?_
          try simp only [Act.put, List.getElem_toArray, List.getElem_cons_succ, List.getElem_cons_zero, List.setIfInBounds_toArray, List.set_cons_zero, List.set_cons_succ]
          refine wpAnyH_take (i := 7) (v := .int .i64 (cn : Int)) rfl (by kernel_rfl) (by kernel_rfl) (by kernel_rfl) (fun _ _ _ h => h) (Or.inl ⟨by rfl, (by intro w' hS; skip; go_simp; try first | rfl | (simp [*, Addr.add_lit]; done))⟩) (⟨Q1, P1⟩) ?_
          try simp only [Act.put, List.getElem_toArray, List.getElem_cons_succ, List.getElem_cons_zero, List.setIfInBounds_toArray, List.set_cons_zero, List.set_cons_succ]
          refine wpAnyH_take (i := 9) (v := .int .i64 (cn : Int)) rfl (by kernel_rfl) (by kernel_rfl) (by kernel_rfl) (fun _ _ _ h => h) (Or.inl ⟨by rfl, (by intro w' hS; skip; go_simp; try first | rfl | (simp [*, Addr.add_lit]; done))⟩) (⟨Q1, P1⟩) ?_
          try simp only [Act.put, List.getElem_toArray, List.getElem_cons_succ, List.getElem_cons_zero, List.setIfInBounds_toArray, List.set_cons_zero, List.set_cons_succ]
          refine wpAnyH_ready (rs := [8]) (by kernel_rfl) (by simp) ?_
          refine AllReadyH.cons rfl (fun K hK => ?_) AllReadyH.nil
          go_simp
          refine hK.out _ _ (⟨Q1, P1⟩) (fun _ => ?_)
          clear hK K
          try simp only [Act.put, List.getElem_toArray, List.getElem_cons_succ, List.getElem_cons_zero, List.setIfInBounds_toArray, List.set_cons_zero, List.set_cons_succ]
          refine wpAnyH_take (i := 10) (v := .agg #[.int .i64 idn, .slice gs[j].2.1.1 cn gs[j].2.1.2.1, .int .i64 (cn : Int)]) rfl (by kernel_rfl) (by kernel_rfl) (by kernel_rfl) (fun _ _ _ h => h) (Or.inl ⟨by rfl, (by intro w' hS; skip; go_simp; try first | rfl | (simp [*, Addr.add_lit]; done))⟩) (⟨Q1, P1⟩) ?_
          try simp only [Act.put, List.getElem_toArray, List.getElem_cons_succ, List.getElem_cons_zero, List.setIfInBounds_toArray, List.set_cons_zero, List.set_cons_succ]
          refine wpAnyH_take (i := 11) (v := .pointer (some ⟨g, j * 3, none⟩)) rfl (by kernel_rfl) (by kernel_rfl) (by kernel_rfl) (fun _ _ _ h => h) (Or.inl ⟨by rfl, (by intro w' hS; skip; go_simp; try first | rfl | (simp [*, Addr.add_lit]; done))⟩) (⟨Q1, P1⟩) ?_
          try simp only [Act.put, List.getElem_toArray, List.getElem_cons_succ, List.getElem_cons_zero, List.setIfInBounds_toArray, List.set_cons_zero, List.set_cons_succ]
          refine wpAnyH_ready (rs := [12]) (by kernel_rfl) (by simp) ?_
          refine AllReadyH.cons rfl (fun K hK => ?_) AllReadyH.nil
          go_simp
          obtain ⟨ch, hch⟩ : ∃ ch, ch = (((wr.setCell ⟨g, j * 3, none⟩ (.int .i64 idn)).setCell ⟨g, j * 3 + 1, none⟩ (.slice gs[j].2.1.1 cn gs[j].2.1.2.1)).setCell ⟨g, j * 3 + 2, none⟩ (.int .i64 (cn : Int))) := ⟨_, rfl⟩
          rw [← hch]
          have hcs : ch.heap.size = wr.heap.size := by rw [hch]; simp
          have hne : ∀ k, k ≠ g → ch.heap[k]? = wr.heap[k]? := fun k hk => by rw [hch]; exact (Below.heap_setCell _ _ _ k hk).trans ((Below.heap_setCell _ _ _ k hk).trans (Below.heap_setCell _ _ _ k hk))
          have HGC : FsG ch w1.heap.size w8.heap.size (some ⟨g, 0, none⟩) c9 (crF cuts 0 (gs.take j) ++ (gs[j].1, (gs[j].2.1.1, gs[j].2.1.2.1, gs[j].2.1.2.2.take cn), (cn : Int)) :: gs.drop (j + 1)) := by
            have h := FsG.cut3 (x := gs[j]) HG.out HCL.out
            rw [HML.out, hidn.out] at h
            rw [hch, hidn.out]
            exact h
          have tC : Below w.heap.size w ch := by rw [hch]; exact ((t9.setCell (by show w.heap.size ≤ g; omega) _).setCell (by show w.heap.size ≤ g; omega) _).setCell (by show w.heap.size ≤ g; omega) _
          clear hch
          have HCS := Lib.hid hcs
          clear hcs
          obtain ⟨V, hV⟩ : ∃ V, V = (ch.alloc (.cells #[.int .i64 idn, .slice gs[j].2.1.1 bl gs[j].2.1.2.1, .int .i64 sf] 57)).drew.drew := ⟨_, rfl⟩
          rw [← hV]
          have hVa : ∀ k, k < wr.heap.size → V.heap[k]? = ch.heap[k]? := fun k hk => by rw [hV]; exact Below.heap_alloc ch _ k (by rw [HCS.out]; exact hk)
          have hVs : wr.heap.size ≤ V.heap.size := by rw [hV]; have := HCS.out; simp; omega
          have PV : V.heap[wr.heap.size]? = some (.cells #[.int .i64 idn, .slice gs[j].2.1.1 bl gs[j].2.1.2.1, .int .i64 sf] 57 (0, 0)) := by rw [hV, ← HCS.out]; exact heap_alloc_new _ _
          have QV : V.heap[w3.heap.size]? = some (.cells (dkC r (-1) n (some ⟨g, 0, none⟩) nn c9 K6 dir.length d6 none 0 0) 35 (0, 0)) := (hVa _ zO).trans ((hne _ (by omega)).trans OO)
          have tV : Below w.heap.size w V := by rw [hV]; exact (tC.alloc (by rw [HCS.out]; exact z9) _).drew.drew
          have iK := hoK.inB
          have hoV : Oe 83 2 lkL V (w3.heap.size + 1) K6 d6 dir := hoK.keepB fun ad had => (hVa _ (iK ad had).2).trans (hne _ (by have := i6' ad had; omega))
          clear hV
          refine hK.out _ _ (⟨QV, PV⟩) (fun _ => ?_)
          clear hK K
          try simp only [Act.put, List.getElem_toArray, List.getElem_cons_succ, List.getElem_cons_zero, List.setIfInBounds_toArray, List.set_cons_zero, List.set_cons_succ]
          refine wpAnyH_done (by kernel_rfl) ?_ _
          clear P1 Q1 PV
          go_wp2_with fail
          go_roundw
          case rel => exact ⟨j + 1, by omega, by go_num, by rw [HSU.out, List.append_assoc]; exact HGC.keep fun k _ hk => hVa k (by omega), QV, (hVa _ zZ).trans ((hne _ (by omega)).trans ZZ), hoV, by omega, tV⟩
          case measure => simp [intOf]; omega
      · have hlt' : ¬ ((j : Int) < nn) := by omega
        obtain rfl : j = nn := by omega
        have ht : gs.take j = gs := List.take_of_length_le (by have := HN.out; omega)
        have hdr : gs.drop j = [] := List.drop_of_length_le (by have := HN.out; omega)
        rw [ht, hdr, List.append_nil] at hG
        have hd9 : Hid ((crF cuts 0 gs).map fc = crC cuts 0 (keepC dir (es.map fc))) := by show _ = _; rw [crF_fc, HC.out]
        have hl9 : Hid ((crC cuts 0 (keepC dir (es.map fc))).length = j) := by show _ = _; rw [← hd9.out, List.length_map, crF_len]; exact HN.out.symm
        have hD : DkW wr w1.heap.size wr.heap.size A9 (crF cuts 0 gs) K6 dir none [] := fun w' hk => ⟨(hG.keep fun k h1 h2 => hk k h1 (by omega)).fs, (hoK.keepB fun ad had => hk _ (by have := i6' ad had; omega) (by have := i6' ad had; omega)).sl lk2, SlL.nil⟩
        obtain ⟨ZZ', yzz, fzz, zzz⟩ := keep_blk (cs := zDk) (Below.refl wr.heap.size wr) ZZ
        obtain ⟨OO', yoo, foo, zoo⟩ := keep_blk (cs := (dkC r (-1) n A9 j c9 K6 dir.length d6 none 0 0)) (Below.refl wr.heap.size wr) OO
        clear ht hdr hG hoK ZZ' OO'
        go_wp2_with fail
        refine bodyPost_ret (v := .tuple #[dkV r (-1) n A9 j c9 K6 dir.length d6 none 0 0, .bool true]) (by simp [results, Tryz.results18, go_sem, *]) rfl ?_
        refine ⟨A9, c9, crF cuts 0 gs, K6, d6, none, 0, by dsimp only; rw [hl9.out]; rfl, hd9, ?_, ((((((t9.setCell (by first | omega | (simp; done) | (simp; omega)) _).setCell (by first | omega | (simp; done) | (simp; omega)) _).setCell (by first | omega | (simp; done) | (simp; omega)) _).setCell (by first | omega | (simp; done) | (simp; omega)) _).setCell (by first | omega | (simp; done) | (simp; omega)) _).setCell (by first | omega | (simp; done) | (simp; omega)) _)⟩
        refine DkW.wide (lo := w1.heap.size) (hi := wr.heap.size) (DkW.keep hD fun k h1 h2 => ?_) (by omega) (by simp)
        iterate 6 refine (Below.heap_setCell _ _ _ _ (by simp; omega)).trans ?_
        rfl
end Go.Proofs.YtljpeiflnimblaaGreat
