/- DiskCrash: the reference's parts. DiskCrash: the reference's way. -/
import Derived.Test.YtndmdhmghjfckaaHl
namespace Go.Proofs.Ytndmdhmghjfckaa
open Go.RowKit

set_option linter.unusedVariables false
set_option maxRecDepth 100000

theorem mem_any (ks : List Lk) (i : Int) : decide (i ∈ idsOf ks []) = ks.any fun l => l.2 == i := by
  rw [idsOf, mkIds]
  simp only [List.filter_nil, List.map_nil, List.append_nil]
  rw [Bool.eq_iff_iff]
  simp only [decide_eq_true_eq, List.mem_map, List.any_eq_true, beq_iff_eq]
theorem keepF_succ (ks : List Lk) {fs : List Fl} {k : Nat} (h : k < fs.length) : keepF ks (fs.take (k + 1)) = keepF ks (fs.take k) ++ (if (ks.any fun l => l.2 == fs[k].1) = true then [fs[k]] else []) := by
  rw [take_succ_get (List.getElem?_eq_getElem h), keepF, List.filter_append]
  congr 1
  cases hq : ks.any fun l => l.2 == fs[k].1 with
  | true => simp [hq]
  | false => simp [hq]
set_option maxHeartbeats 4000000 in
theorem l02Only_any (r f n : Int) (FA : Option Addr) (fs : List Fl) (c1 : Nat) (KA : Option Addr) (ks : List Lk) (c2 : Nat) (w : World) (hF : SlL w FA 3 flL fs) (hK : Ks w KA ks) (hl : fs.length ≤ 1048576) (hkl : ks.length ≤ 1000) :
    Calls Try.prog 48 #[dkV r f n FA fs.length c1 KA ks.length c2 none 0 0] w fun e w' => ∃ A' c', e = .returned (dkV r f n A' (keepF ks fs).length c' KA ks.length c2 none 0 0) ∧ Oe 36 3 flL w' w.heap.size A' c' (keepF ks fs) ∧ Below w.heap.size w w' := by
  have hb0 : Below w.heap.size w ((w.alloc (.cells (dkC r f n FA fs.length c1 KA ks.length c2 none 0 0) 27)).alloc (.cells zDk 27)) := by (repeat (first | exact Below.refl _ _ | (refine Below.alloc ?_ (by first | omega | (simp; done) | (simp; omega)) _) | (refine Below.drew ?_) | (refine below_drewN ?_ _) | (refine below_at1 ?_ (by first | omega | (simp; done) | (simp; omega))) | (refine Below.setCell ?_ (by first | omega | (simp; done) | (simp; omega)) _) | (refine Below.trans ?_ (Below.mono (by assumption) (by first | omega | (simp; done) | (simp; omega))))))
  have hb1 := hb0.alloc hb0.size (.cells #[] 36)
  have B0 : (((w.alloc (.cells (dkC r f n FA fs.length c1 KA ks.length c2 none 0 0) 27)).alloc (.cells zDk 27)).alloc (.cells #[] 36)).heap[w.heap.size]? = some (.cells (dkC r f n FA fs.length c1 KA ks.length c2 none 0 0) 27 (0, 0)) := (by repeat (first | assumption | exact heap_alloc_at _ (by first | rfl | (simp; done) | omega) | refine heap_alloc_of _ ?_ | refine heap_setCell_of _ (by first | omega | (simp; done) | (simp; omega)) ?_ | refine heap_setCell_same _ ?_ | exact heap_at1_same (by first | omega | (simp; done) | (simp; omega)) | refine heap_at1_of (by first | omega | (simp; done) | (simp; omega)) ?_))
  have Z0 : (((w.alloc (.cells (dkC r f n FA fs.length c1 KA ks.length c2 none 0 0) 27)).alloc (.cells zDk 27)).alloc (.cells #[] 36)).heap[w.heap.size + 1]? = some (.cells zDk 27 (0, 0)) := (by repeat (first | assumption | exact heap_alloc_at _ (by first | rfl | (simp; done) | omega) | refine heap_alloc_of _ ?_ | refine heap_setCell_of _ (by first | omega | (simp; done) | (simp; omega)) ?_ | refine heap_setCell_same _ ?_ | exact heap_at1_same (by first | omega | (simp; done) | (simp; omega)) | refine heap_at1_of (by first | omega | (simp; done) | (simp; omega)) ?_))
  have hG0 : Oe 36 3 flL (((w.alloc (.cells (dkC r f n FA fs.length c1 KA ks.length c2 none 0 0) 27)).alloc (.cells zDk 27)).alloc (.cells #[] 36)) (w.heap.size + 2) (some ⟨w.heap.size + 1 + 1, 0, none⟩) 0 [] := Oe.emptyAt (by simp)
  have hI := fun W (hW : Below w.heap.size w W) => ids_spec r f n FA fs.length c1 KA ks c2 none [] 0 W (SlL.below hK hW) SlL.nil (by omega) (by simp)
  go_enter Try.func48, Try.ntmps48
  go_wp2_with fail
  go_loopw [3, 10] (fun fv iv wr => ∃ (k : Nat) (A5 : Option Addr) (c5 : Nat) (gs : List Fl), k ≤ fs.length ∧ iv = .int .i64 k ∧ fv = .slice A5 gs.length c5 ∧ Hid (gs = keepF ks (fs.take k)) ∧ gs.length ≤ k ∧ Oe 36 3 flL wr (w.heap.size + 2) A5 c5 gs ∧ Below w.heap.size w wr ∧ wr.heap[w.heap.size]? = some (.cells (dkC r f n FA fs.length c1 KA ks.length c2 none 0 0) 27 (0, 0)) ∧ wr.heap[w.heap.size + 1]? = some (.cells zDk 27 (0, 0))) (fun _ iv _ => fs.length - (intOf iv).toNat)
  case atStart => exact ⟨0, _, _, [], Nat.zero_le _, rfl, rfl, rfl, Nat.le_refl _, hG0, hb1, B0, Z0⟩
  case round =>
    clear hG0 hb1 B0 Z0 hb0
    obtain ⟨k, A5, c5, gs, hk, rfl, rfl, hgs, hgk, hG, hb, B, Z⟩ := hrel
    have zb := hb.size
    by_cases hlt : k < fs.length
    · obtain ⟨b, o, rfl, hbs, x0, x1, x2⟩ := Fl.get (hF.below hb) hlt
      have hlt' : (k : Int) < fs.length := by omega
      go_wp2_with fail
      have B1 : (wr.alloc (.cells #[.int .i64 fs[k].1, .slice fs[k].2.1.1 fs[k].2.1.2.2.length fs[k].2.1.2.1, .int .i64 fs[k].2.2] 36)).drew.heap[w.heap.size]? = some (.cells (dkC r f n (some ⟨b, o, none⟩) fs.length c1 KA ks.length c2 none 0 0) 27 (0, 0)) := heap_alloc_of _ B
      have F1 : (wr.alloc (.cells #[.int .i64 fs[k].1, .slice fs[k].2.1.1 fs[k].2.1.2.2.length fs[k].2.1.2.1, .int .i64 fs[k].2.2] 36)).drew.heap[wr.heap.size]? = some (.cells #[.int .i64 fs[k].1, .slice fs[k].2.1.1 fs[k].2.1.2.2.length fs[k].2.1.2.1, .int .i64 fs[k].2.2] 36 (0, 0)) := heap_alloc_new _ _
      have b1 : Below wr.heap.size wr (wr.alloc (.cells #[.int .i64 fs[k].1, .slice fs[k].2.1.1 fs[k].2.1.2.2.length fs[k].2.1.2.1, .int .i64 fs[k].2.2] 36)).drew := ((Below.refl _ _).alloc (Nat.le_refl _) _).drew
      have t1 := hb.trans (b1.mono zb)
      obtain ⟨ids, hids⟩ : ∃ ids, Hid (idsOf ks [] = ids) := ⟨_, Lib.hid rfl⟩
      have cI := hI _ t1
      rw [hids.out] at cI
      have hil : ids.length ≤ 1000 := by rw [← hids.out, idsOf, mkIds]; simp; omega
      have hR : decide (fs[k].1 ∈ ids) = ks.any fun l => l.2 == fs[k].1 := by rw [← hids.out]; exact mem_any ks fs[k].1
      have hsu := keepF_succ ks hlt
      rw [← hgs.out, ← hR] at hsu
      have HSU := Lib.hid hsu
      clear hR hsu x0 x1 x2
      refine wp_region_held_drew (S := fun w' => w'.heap[w.heap.size]? = some (.cells (dkC r f n (some ⟨b, o, none⟩) fs.length c1 KA ks.length c2 none 0 0) 27 (0, 0)) ∧ w'.heap[wr.heap.size]? = some (.cells #[.int .i64 fs[k].1, .slice fs[k].2.1.1 fs[k].2.1.2.2.length fs[k].2.1.2.1, .int .i64 fs[k].2.2] 36 (0, 0))) (by kernel_rfl) (⟨B1, F1⟩) (fun _ => ?_)
      refine wpAnyH_take (i := 0) (v := dkV r f n (some ⟨b, o, none⟩) fs.length c1 KA ks.length c2 none 0 0) rfl (by kernel_rfl) (by kernel_rfl) (by kernel_rfl) (fun _ _ _ h => h) (Or.inl ⟨by rfl, (by intro w' hS; have q := fun i => cell_of_row w' _ i _ _ (0, 0) hS.1; go_simp; try first | rfl | (simp [*, Addr.add_lit]; done))⟩) (⟨B1, F1⟩) ?_
      try simp only [Act.put, List.getElem_toArray, List.getElem_cons_zero, List.setIfInBounds_toArray, List.set_cons_zero, List.set_cons_succ]
      refine wpAnyH_take (i := 2) (v := .pointer (some ⟨wr.heap.size, 0, none⟩)) rfl (by kernel_rfl) (by kernel_rfl) (by kernel_rfl) (fun _ _ _ h => h) (Or.inl ⟨by rfl, (by intro w' hS; skip; go_simp; try first | rfl | (simp [*, Addr.add_lit]; done))⟩) (⟨B1, F1⟩) ?_
      try simp only [Act.put, List.getElem_toArray, List.getElem_cons_succ, List.getElem_cons_zero, List.setIfInBounds_toArray, List.set_cons_zero, List.set_cons_succ]
      refine wpAnyH_take (i := 3) (v := .int .i64 fs[k].1) rfl (by kernel_rfl) (by kernel_rfl) (by kernel_rfl) (fun _ _ _ h => h) (Or.inl ⟨by rfl, (by intro w' hS; have q := fun i => cell_of_row w' _ i _ _ (0, 0) hS.2; go_simp; try first | rfl | (simp [*, Addr.add_lit]; done))⟩) (⟨B1, F1⟩) ?_
      try simp only [Act.put, List.getElem_toArray, List.getElem_cons_succ, List.getElem_cons_zero, List.setIfInBounds_toArray, List.set_cons_zero, List.set_cons_succ]
      refine wpAnyH_ready (rs := [1]) (by kernel_rfl) (by simp) ?_
      refine AllReadyH.cons rfl (fun K hK => ?_) AllReadyH.nil
      go_simp
      refine cI.mono ?_
      rintro e w2 ⟨A2, i2, rfl, ho2, hb2⟩
      have B2 := blk_be hb2 B1
      have F2 := blk_be hb2 F1
      refine hK.out _ _ (⟨B2, F2⟩) (fun _ => ?_)
      clear hK K
      try simp only [Act.put, List.getElem_toArray, List.getElem_cons_succ, List.getElem_cons_zero, List.setIfInBounds_toArray, List.set_cons_zero, List.set_cons_succ]
      refine wpAnyH_ready (rs := [4]) (by kernel_rfl) (by simp) ?_
      refine AllReadyH.cons rfl (fun K hK => ?_) AllReadyH.nil
      go_simp
      refine (hasInt_spec A2 i2 ids fs[k].1 w2 (ints_cs (Oe.sl (fun _ => rfl) ho2)) (by omega)).mono ?_
      rintro e w3 ⟨rfl, hw3⟩
      subst hw3
      refine hK.out _ _ (⟨B2, F2⟩) (fun _ => ?_)
      clear hK K
      try simp only [Act.put, List.getElem_toArray, List.getElem_cons_succ, List.getElem_cons_zero, List.setIfInBounds_toArray, List.set_cons_zero, List.set_cons_succ]
      refine wpAnyH_done (by kernel_rfl) ?_ _
      have t2 := t1.trans (hb2.mono t1.size)
      have b2 := b1.trans (hb2.mono b1.size)
      have z2 := b2.size
      have Z2 := blk_be b2 Z
      have hG2 := Oe.below hG b2 (Nat.le_refl _)
      clear cI ho2 F1 B1 hI
      cases hq : decide (fs[k].1 ∈ ids) with
      | false =>
        rw [hq] at HSU
        have HS : Hid (gs = keepF ks (fs.take (k + 1))) := by have := HSU.out; simp only [Bool.false_eq_true, if_false, List.append_nil] at this; exact this.symm
        clear hq
        go_wp2_with fail
        go_roundw
        case rel => exact ⟨k + 1, _, _, gs, by omega, by go_num, rfl, HS, by omega, hG2, t2, B2, Z2⟩
        case measure => simp [intOf]; omega
      | true =>
        rw [hq] at HSU
        have HS : Hid (gs ++ [fs[k]] = keepF ks (fs.take (k + 1))) := by have := HSU.out; simp only [if_true] at this; exact this.symm
        clear hq
        have y2 : ∀ i, w2.cell? ⟨wr.heap.size, i, none⟩ = _ := fun i => cell_of_row w2 _ i _ _ (0, 0) F2
        obtain ⟨A9, c9, w9, hr9, ho9, hb9, hk9, hf9⟩ := appF_run 23 (w.heap.size + 2) A5 c5 gs w2 fs[k] hG2 (by omega) (by have := (Array.getElem?_eq_some_iff.1 Z).1; omega)
        go_wp2_with (at_builtin; refine Lib.wpList_append_run _ rfl _ _ _ _ rfl _ _ rfl rfl _ _ hr9 ?_)
        have zz := (Array.getElem?_eq_some_iff.1 Z).1
        have iG := hG2.inB
        have z9 := hb9.size
        have B9 := (hk9 w.heap.size (by omega) (fun ad h => by have := iG ad h; omega)).trans B2
        have Z9 := (hk9 (w.heap.size + 1) (by omega) (fun ad h => by have := iG ad h; omega)).trans Z2
        go_roundw
        case rel => exact ⟨k + 1, _, _, gs ++ [fs[k]], by omega, by go_num, by simp, HS, by simp; omega, ho9, t2.trans (hb9.mono (by omega)), B9, Z9⟩
        case measure => simp [intOf]; omega
    · have hlt' : ¬ ((k : Int) < fs.length) := by omega
      have hE : gs = keepF ks fs := by rw [hgs.out, List.take_of_length_le (by omega)]
      have HE := Lib.hid hE
      clear hE
      obtain ⟨B1, y1, f1, z1⟩ := keep_blk (Below.refl wr.heap.size wr) B
      obtain ⟨Z1, yz1, fz1, zz1⟩ := keep_blk (Below.refl wr.heap.size wr) Z
      go_wp2_with fail
      refine bodyPost_ret (v := dkV r f n A5 gs.length c5 KA ks.length c2 none 0 0) (by simp [results, Try.results48, go_sem, *]) rfl ?_
      rw [← HE.out]
      refine ⟨A5, c5, rfl, ?_, (((((((hb.setCell (by first | omega | (simp; done) | (simp; omega)) _).setCell (by first | omega | (simp; done) | (simp; omega)) _).setCell (by first | omega | (simp; done) | (simp; omega)) _).setCell (by first | omega | (simp; done) | (simp; omega)) _).setCell (by first | omega | (simp; done) | (simp; omega)) _).setCell (by first | omega | (simp; done) | (simp; omega)) _).setCell (by first | omega | (simp; done) | (simp; omega)) _)⟩
      refine Oe.mono (lo := w.heap.size + 2) ?_ (by omega)
      refine hG.keepB fun ad had => ?_
      have h9 := (hG.inB ad had).1
      iterate 7 refine (Below.heap_setCell _ _ _ _ (by simp; omega)).trans ?_
      rfl
/-- A file of a list of one's own, cut: a whole file stored. -/
theorem FsG.cut3 {w : World} {lo hi g c : Nat} {l1 l2 : List Fl} {x : Fl} {m : Nat} (h : FsG w lo hi (some ⟨g, 0, none⟩) c (l1 ++ x :: l2)) (hm : m ≤ x.2.1.2.2.length) :
    FsG (((w.setCell ⟨g, l1.length * 3, none⟩ (.int .i64 x.1)).setCell ⟨g, l1.length * 3 + 1, none⟩ (.slice x.2.1.1 m x.2.1.2.1)).setCell ⟨g, l1.length * 3 + 2, none⟩ (.int .i64 (m : Int))) lo hi (some ⟨g, 0, none⟩) c (l1 ++ (x.1, (x.2.1.1, x.2.1.2.1, x.2.1.2.2.take m), (m : Int)) :: l2) := by
  obtain ⟨h1, h2, h3, h4⟩ := h
  obtain ⟨y, hy⟩ : ∃ y : Fl, y = (x.1, (x.2.1.1, x.2.1.2.1, x.2.1.2.2.take m), (m : Int)) := ⟨_, rfl⟩
  rw [← hy]
  have hyl : y.2.1.2.2.length = m := by rw [hy]; show (x.2.1.2.2.take m).length = m; rw [List.length_take]; omega
  have hap := h4 _ rfl
  dsimp only at hap
  obtain ⟨g', hg', hlo, hcm, hcap, hF⟩ := h1.fillC fl3 (by rw [List.length_append, List.length_cons]; omega)
  injection hg' with hg'
  injection hg' with hg' _ _
  subst hg'
  have hfl := flat_len fl3 (l1 ++ x :: l2)
  have hL : (l1 ++ x :: l2).length = l1.length + 1 + l2.length := by simp; omega
  have hgj : (l1 ++ x :: l2)[l1.length]? = some x := by rw [List.getElem?_append_right (Nat.le_refl _), Nat.sub_self]; rfl
  have hF1 := hF.setAt (k := l1.length * 3) (by rw [hfl, hL]; omega) (.int .i64 x.1)
  have hF2' := hF1.setAt (k := l1.length * 3 + 1) (by rw [List.length_set, hfl, hL]; omega) (.slice x.2.1.1 m x.2.1.2.1)
  have hF2 := hF2'.setAt (k := l1.length * 3 + 2) (by rw [List.length_set, List.length_set, hfl, hL]; omega) (.int .i64 (m : Int))
  have hset : (l1 ++ x :: l2).set l1.length y = l1 ++ y :: l2 := set_mid
  have h3e := flat_set3 y (l1 ++ x :: l2) l1.length (by rw [hL]; omega)
  rw [hset, hyl] at h3e
  have e0 : y.1 = x.1 := by rw [hy]
  have e1 : y.2.1.1 = x.2.1.1 := by rw [hy]
  have e2 : y.2.1.2.1 = x.2.1.2.1 := by rw [hy]
  have e3 : y.2.2 = (m : Int) := by rw [hy]
  rw [e0, e1, e2, e3] at h3e
  rw [h3e] at hF2
  have hb : (l1 ++ x :: l2).map fb = l1.map fb ++ fb x :: l2.map fb := by simp
  have hb' : (l1 ++ y :: l2).map fb = l1.map fb ++ fb y :: l2.map fb := by simp
  rw [hb] at h3 hap
  have hap' : apart g (l1.map fb ++ fb y :: l2.map fb) := fun e he ad had => by
    rcases List.mem_append.1 he with h5 | h5
    · exact hap e (List.mem_append_left _ h5) ad had
    · rcases List.mem_cons.1 h5 with rfl | h5
      · have : x.2.1.1 = some ad := by rw [← e1]; exact had
        exact hap (fb x) (List.mem_append_right _ (List.mem_cons_self ..)) ad this
      · exact hap e (List.mem_append_right _ (List.mem_cons_of_mem _ h5)) ad had
  obtain ⟨m1, m2, q1, q2, q3, q4, q5, q6, q7⟩ := h3.split
  have q5' : Ob w m1 y.2.1.1 y.2.1.2.1 y.2.1.2.2 := by
    rw [hy]
    exact Ob.take (bs := x.2.1.2.2) q5 hm
  have q6' : InB m1 m2 (fb y).1 := by rw [hy]; exact q6
  have hO := Obs.join (e := fb y) q2 q5' q6' q7 q4
  refine ⟨Oe.of_fill fl3 hF2 (by rw [List.length_append, List.length_cons]; rw [List.length_append, List.length_cons] at hcap; omega) hlo hcm, h2, ?_, fun ad had => ?_⟩
  · rw [hb']
    exact ((hO.set (p := ⟨g, _, none⟩) hap').set (p := ⟨g, _, none⟩) hap').set (p := ⟨g, _, none⟩) hap'
  · injection had with had
    subst had
    rw [hb']
    exact hap'
/-- A disk that can be read wherever what lies from block lo to before block hi is as it was. -/
def DkW (w : World) (lo hi : Nat) (FA : Option Addr) (fs : List Fl) (KA : Option Addr) (ks : List Lk) (TA : Option Addr) (ts : List Tn) : Prop :=
  ∀ w', (∀ k, lo ≤ k → k < hi → w'.heap[k]? = w.heap[k]?) → Dr w' FA fs KA ks TA ts
section
variable {w w' : World} {lo hi : Nat} {FA KA TA : Option Addr} {fs : List Fl} {ks : List Lk} {ts : List Tn}
theorem DkG.dw {fc' kc tc : Nat} (h : DkG w lo hi FA fc' fs KA kc ks TA tc ts) : DkW w lo hi FA fs KA ks TA ts := fun w' hk => (h.keep hk).rd
theorem DkW.rd (h : DkW w lo hi FA fs KA ks TA ts) : Dr w FA fs KA ks TA ts := h w fun _ _ _ => rfl
theorem DkW.keep (h : DkW w lo hi FA fs KA ks TA ts) (hk : ∀ k, lo ≤ k → k < hi → w'.heap[k]? = w.heap[k]?) : DkW w' lo hi FA fs KA ks TA ts := fun w2 h2 => h w2 fun k h3 h4 => (h2 k h3 h4).trans (hk k h3 h4)
theorem DkW.below {B' : Nat} (h : DkW w lo hi FA fs KA ks TA ts) (hb : Below B' w w') (hB : hi ≤ B') : DkW w' lo hi FA fs KA ks TA ts := h.keep fun k _ h2 => hb.block k (by omega)
theorem DkW.kp {a b : Nat} (h : DkW w lo hi FA fs KA ks TA ts) (hk : Kp a b w w') (hs : hi ≤ w.heap.size) (hd : hi ≤ a ∨ b ≤ lo) : DkW w' lo hi FA fs KA ks TA ts :=
  h.keep fun k h1 h2 => by
    rcases hd with hd | hd
    · exact hk.1.block _ (by omega)
    · exact hk.2 _ (by omega) (by omega)
theorem DkW.wide {lo' hi' : Nat} (h : DkW w lo hi FA fs KA ks TA ts) (h1 : lo' ≤ lo) (h2 : hi ≤ hi') : DkW w lo' hi' FA fs KA ks TA ts := fun w' hk => h w' fun k h3 h4 => hk k (by omega) (by omega)
end
/-- A disk that can be read, and whether there is any. -/
def DWPost (w : World) (V : DV) (e : Ending) (w' : World) : Prop :=
  ∃ FA c1 fs KA c2 TA c3, e = .returned (.tuple #[dkV V.r V.f V.n FA V.cs.length c1 KA V.ks.length c2 TA V.ts.length c3, .bool V.ok]) ∧ Hid (fs.map fc = V.cs) ∧ DkW w' w.heap.size w'.heap.size FA fs KA V.ks TA V.ts ∧ Below w.heap.size w w'
theorem DOPost.dw {w w' : World} {V : DV} {e : Ending} (h : DOPost w V e w') : DWPost w V e w' := by
  obtain ⟨FA, c1, fs, KA, c2, TA, c3, h1, h2, h3, h4⟩ := h
  exact ⟨FA, c1, fs, KA, c2, TA, c3, h1, h2, h3.dw, h4⟩

set_option linter.unusedVariables false
set_option maxRecDepth 100000

end Go.Proofs.Ytndmdhmghjfckaa
