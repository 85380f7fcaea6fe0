/- DiskSet: the law. -/
import Derived.Test.YtljpeiflnimblaaGreatHg
namespace Go.Proofs.YtljpeiflnimblaaGreat
open Go.RowKit
set_option linter.unusedVariables false
set_option maxRecDepth 100000

set_option maxHeartbeats 8000000 in
theorem walk_FnExactDiskSet (vs0 : List Value) (room fuse : Int) (w : World) (h0 : Rd Tryz.prog w 26 vs0) (hx : (Lit.int .i64 room).wf = true) (hy : (Lit.int .i64 fuse).wf = true) :
    Calls Tryz.prog 4 #[.agg vs0.toArray, .int .i64 room, .int .i64 fuse] w fun e w' => e = .returned (.bool true) ∧ Below w.heap.size w w' := by
  obtain ⟨r, f, n, FA, es, c1, KA, ks, c2, TA, ts, c3, rfl, ⟨br, bf, bn⟩, ⟨hF, hFl, hFm⟩, ⟨hK, hKl, hKm⟩, hT, hTl, hTm⟩ := rd_disk h0
  clear h0
  have hsz := fun w' (hb : Below w.heap.size w w') => szDisk_any r f n FA es c1 KA ks c2 TA ts c3 w' (hF.below hb) hFl (fun e he => (hFm e he).2.1) (SlL.below hK hb) hKl (fun e he => (hKm e he).1) (SlL.below hT hb) hTl (fun e he => ⟨(hTm e he).2.1, (hTm e he).2.2.1⟩)
  have hr : Dr w FA es KA ks TA ts := ⟨hF, hK, hT⟩
  have t0 : Below w.heap.size w (w.alloc (.cells (dkC r f n FA es.length c1 KA ks.length c2 TA ts.length c3) 26)) := (Below.refl _ _).alloc (Nat.le_refl _) _
  by_cases hbig : (1048576 : Int) < (es.length + ftot es) + (ks.length + ktot ks) + (ts.length + ttot ts)
  · have HS1 := szR_no hbig
    go_enter Tryz.func4, Tryz.ntmps4
    go_wp2_with fail
    refine (hsz _ t0).mono ?_
    rintro e w1 ⟨he, hb1⟩
    rw [HS1.out] at he
    subst he
    go_wp2_with fail
    go_ret
    exact ⟨rfl, t0.trans (hb1.mono t0.size)⟩
  have HS1 := szR_yes hbig
  have hg := Good.of hbig fun e he => ⟨(hFm e he).1, (hFm e he).2.2⟩
  obtain ⟨L, hL⟩ : ∃ L : Int, Hid (1048576 - ((es.length + ftot es : Int) + (ks.length + ktot ks) + (ts.length + ttot ts)) = L) := ⟨_, Lib.hid rfl⟩
  have hL0 : ¬ L < 0 := by have := hL.out; omega
  have HB := Lib.hid hbig
  clear hF hK hT hFm hKm hTm hbig br bf bn hFl hKl hTl
  obtain ⟨V, hV⟩ : ∃ V, Hid (setV room fuse r f n (es.map fc) (ftot es) ks ts = V) := ⟨_, Lib.hid rfl⟩
  have hVb : DVB V := by rw [← hV.out]; exact setV_bd HB.out hg.ey
  obtain ⟨vr, vf, vn, cs, vk, vt, ok⟩ := V
  obtain ⟨vcl, vcb, vkl, vtl, vmk⟩ := hVb
  dsimp only at vcl vcb vkl vtl vmk
  have hne : (ok != ok) = false := by cases ok <;> rfl
  have VMK := Lib.hid vmk
  have VCB := Lib.hid vcb
  clear vmk vcb
  go_enter Tryz.func4, Tryz.ntmps4
  go_wp2_with fail
  refine (hsz _ t0).mono ?_
  rintro e w1 ⟨he, hb1⟩
  rw [HS1.out, hL.out] at he
  subst he
  have t1 := t0.trans (hb1.mono t0.size)
  have BP1 : w1.heap[w.heap.size]? = some (.cells (dkC r f n FA es.length c1 KA ks.length c2 TA ts.length c3) 26 (0, 0)) := blk_be hb1 (heap_alloc_new _ _)
  clear hsz
  have cP1 : ∀ i, w1.cell? ⟨w.heap.size, i, none⟩ = _ := fun i => cell_of_row w1 _ i _ _ (0, 0) BP1
  have yP1 : w.heap.size < w1.heap.size := (Array.getElem?_eq_some_iff.1 BP1).1
  go_wp2_with fail
  refine (toD_any r f n FA es c1 KA ks c2 TA ts c3 _ (hr.below t1) hg).mono ?_
  rintro e w2 ⟨FA2, d1, fs2, KA2, d2, TA2, d3, rfl, hd2, ho2, hb2⟩
  have t2 := t1.trans (hb2.mono t1.size)
  have BP2 := blk_be hb2 BP1
  clear cP1
  have cS := diskSet_spec room fuse r f n FA2 es fs2 d1 KA2 ks d2 TA2 ts d3 w2 ho2.rd hd2 hg
  rw [hV.out] at cS
  go_wp2_with fail
  refine cS.mono ?_
  rintro e w3 ⟨FW, a1, fsW, KW, a2, TW, a3, he, hdW, hoW, hb3⟩
  dsimp only at he hdW hoW
  subst he
  have t3 := t2.trans (hb3.mono t2.size)
  have BP3 := blk_be hb3 BP2
  clear cS ho2
  have z2 := t2.size
  have z23 := hb3.size
  have b3 : Below w3.heap.size w3 (w3.alloc (.cells (dkC vr vf vn FW cs.length a1 KW vk.length a2 TW vt.length a3) 35)) := (Below.refl _ _).alloc (Nat.le_refl _) _
  have t3' := t3.trans (b3.mono t3.size)
  have cP3 : ∀ i, w3.cell? ⟨w.heap.size, i, none⟩ = _ := fun i => cell_of_row w3 _ i _ _ (0, 0) BP3
  have yP3 : w.heap.size < w3.heap.size := (Array.getElem?_eq_some_iff.1 BP3).1
  go_wp2_with fail
  refine (toD_any r f n FA es c1 KA ks c2 TA ts c3 _ (hr.below t3') hg).mono ?_
  rintro e w4 ⟨FA4, e1, fs4, KA4, e2, TA4, e3, rfl, hd4, ho4, hb4⟩
  have t4 := t3'.trans (hb4.mono t3'.size)
  have s4 : w3.heap.size + 1 ≤ w4.heap.size := by have := hb4.size; simpa using this
  have BP4 := blk_be hb4 (heap_alloc_of _ BP3)
  have BW4 : w4.heap[w3.heap.size]? = some (.cells (dkC vr vf vn FW cs.length a1 KW vk.length a2 TW vt.length a3) 35 (0, 0)) := blk_be hb4 (heap_alloc_new _ _)
  have hoX4 : DkG w4 (w3.heap.size + 1) w4.heap.size FA4 e1 fs4 KA4 e2 ks TA4 e3 ts := ho4.g.lower (by simp)
  have b34 := b3.trans (hb4.mono b3.size)
  have hoW4 := hoW.below b34 (Nat.le_refl _)
  clear cP3 ho4
  have b4 : Below w4.heap.size w4 (w4.alloc (.cells (dkC r f n FA4 es.length e1 KA4 ks.length e2 TA4 ts.length e3) 35)) := (Below.refl _ _).alloc (Nat.le_refl _) _
  have t4' := t4.trans (b4.mono t4.size)
  have cI := diskSet_impl room fuse r f n FA4 es fs4 e1 KA4 ks e2 TA4 ts e3 (w4.alloc (.cells (dkC r f n FA4 es.length e1 KA4 ks.length e2 TA4 ts.length e3) 35)) (Dr.below hoX4.rd b4) hd4 hg
  rw [hV.out] at cI
  go_wp2_with fail
  refine cI.mono ?_
  rintro e w5 ⟨FG, g1, fsG, KG, g2, TG, g3, he, hdG, hoG, hb5⟩
  dsimp only at he hdG hoG
  subst he
  have b45 := b4.trans (hb5.mono b4.size)
  have s5 : w4.heap.size + 1 ≤ w5.heap.size := by have := hb5.size; simpa using this
  have BX5 : w5.heap[w4.heap.size]? = some (.cells (dkC r f n FA4 es.length e1 KA4 ks.length e2 TA4 ts.length e3) 35 (0, 0)) := blk_be hb5 (heap_alloc_new _ _)
  have hoG5 : DkG w5 (w4.heap.size + 1) w5.heap.size FG g1 fsG KG g2 vk TG g3 vt := hoG.lower (by simp)
  have t5 := t4.trans (b45.mono t4.size)
  have BP5 := blk_be b45 BP4
  have BW5 := blk_be b45 BW4
  have hoW5 := hoW4.below b45 (by omega)
  have hoX5 := hoX4.below b45 (Nat.le_refl _)
  clear cI hoG hoW4 hoX4 hoW
  have b5 : Below w5.heap.size w5 (w5.alloc (.cells (dkC vr vf vn FG cs.length g1 KG vk.length g2 TG vt.length g3) 35)) := (Below.refl _ _).alloc (Nat.le_refl _) _
  have cW5 : ∀ i, w5.cell? ⟨w3.heap.size, i, none⟩ = _ := fun i => cell_of_row w5 _ i _ _ (0, 0) BW5
  have yW5 : w3.heap.size < w5.heap.size := (Array.getElem?_eq_some_iff.1 BW5).1
  go_wp2_with fail
  refine (eqDV_any vr vf vn FG cs.length g1 KG g2 TG g3 FW a1 KW a2 TW a3 cs fsG fsW vk vt _ rfl hdG hdW (Dr.below hoG5.rd b5) (Dr.below hoW5.rd b5) vcl VCB.out vkl vtl).mono ?_
  rintro e w6 ⟨rfl, hb6⟩
  have b56 := b5.trans (hb6.mono b5.size)
  have t6 := t5.trans (b56.mono t5.size)
  have s6 : w5.heap.size + 1 ≤ w6.heap.size := by have := hb6.size; simpa using this
  have BP6 := blk_be b56 BP5
  have BW6 := blk_be b56 BW5
  have BX6 := blk_be b56 BX5
  have BG6 : w6.heap[w5.heap.size]? = some (.cells (dkC vr vf vn FG cs.length g1 KG vk.length g2 TG vt.length g3) 35 (0, 0)) := blk_be hb6 (heap_alloc_new _ _)
  have hoW6 := hoW5.below b56 (by omega)
  have hoX6 := hoX5.below b56 (by omega)
  have hoG6 := hoG5.below b56 (Nat.le_refl _)
  clear cW5 hoW5 hoX5 hoG5
  go_wp2_with fail
  have f0 : Below w6.heap.size w6 w6.drew := (Below.refl _ _).drew
  refine wp_region_held_drew (S := fun w' => Below w6.heap.size w6 w') (by kernel_rfl) (f0) (fun _ => ?_)
  refine wpAnyH_take (i := 0) (v := dkV r f n FA4 es.length e1 KA4 ks.length e2 TA4 ts.length e3) rfl (by kernel_rfl) (by kernel_rfl) (by kernel_rfl) (fun _ _ _ h => h) (Or.inl ⟨by rfl, (by intro w' hS; have q := fun i => cell_of_row w' _ i _ _ (0, 0) (blk_be hS BX6); go_simp; try first | rfl | (simp [*, Addr.add_lit]; done))⟩) (f0) ?_
  try simp only [Act.put, List.getElem_toArray, List.getElem_cons_zero, List.setIfInBounds_toArray, List.set_cons_zero, List.set_cons_succ]
  refine wpAnyH_take (i := 1) (v := dkV r f n FA es.length c1 KA ks.length c2 TA ts.length c3) rfl (by kernel_rfl) (by kernel_rfl) (by kernel_rfl) (fun _ _ _ h => h) (Or.inl ⟨by rfl, (by intro w' hS; have q := fun i => cell_of_row w' _ i _ _ (0, 0) (blk_be hS BP6); go_simp; try first | rfl | (simp [*, Addr.add_lit]; done))⟩) (f0) ?_
  try simp only [Act.put, List.getElem_toArray, List.getElem_cons_succ, List.getElem_cons_zero, List.setIfInBounds_toArray, List.set_cons_zero, List.set_cons_succ]
  refine wpAnyH_ready (rs := [2]) (by kernel_rfl) (by simp) ?_
  refine AllReadyH.cons rfl (fun K hK => ?_) AllReadyH.nil
  go_simp
  refine (toD_any r f n FA es c1 KA ks c2 TA ts c3 _ (hr.below (t6.trans (f0.mono t6.size))) hg).mono ?_
  rintro e w7 ⟨FA7, h1, fs7, KA7, h2, TA7, h3, rfl, hd7, ho7, hb7⟩
  have b7 : Below w6.heap.size w6 w7 := f0.trans hb7
  refine hK.out _ _ (b7) (fun _ => ?_)
  clear hK K
  try simp only [Act.put, List.getElem_toArray, List.getElem_cons_succ, List.getElem_cons_zero, List.setIfInBounds_toArray, List.set_cons_zero, List.set_cons_succ]
  refine wpAnyH_ready (rs := [3]) (by kernel_rfl) (by simp) ?_
  refine AllReadyH.cons rfl (fun K hK => ?_) AllReadyH.nil
  go_simp
  refine (eqDV_any r f n FA4 es.length e1 KA4 e2 TA4 e3 FA7 h1 KA7 h2 TA7 h3 (es.map fc) fs4 fs7 ks ts _ (List.length_map ..).symm hd4 hd7 (Dr.below hoX6.rd b7) ho7.rd (by rw [List.length_map]; exact hg.el) (fun x hx => by obtain ⟨y, hy, rfl⟩ := List.mem_map.1 hx; exact hg.ey y hy) hg.kl hg.tl).mono ?_
  rintro e w8 ⟨rfl, hb8⟩
  have b8 := b7.trans (hb8.mono b7.size)
  refine hK.out _ _ (b8) (fun _ => ?_)
  clear hK K
  try simp only [Act.put, List.getElem_toArray, List.getElem_cons_succ, List.getElem_cons_zero, List.setIfInBounds_toArray, List.set_cons_zero, List.set_cons_succ]
  refine wpAnyH_take (i := 4) (v := .bool false) rfl (by kernel_rfl) (by kernel_rfl) (by kernel_rfl) (fun _ _ _ h => h) (Or.inl ⟨by rfl, (by intro w' hS; skip; go_simp; try first | rfl | (simp [*, Addr.add_lit]; done))⟩) (b8) ?_
  try simp only [Act.put, List.getElem_toArray, List.getElem_cons_succ, List.getElem_cons_zero, List.setIfInBounds_toArray, List.set_cons_zero, List.set_cons_succ]
  refine wpAnyH_done (by kernel_rfl) ?_ _
  clear f0 ho7 hb7 b7 hb8
  have t8 := t6.trans (b8.mono t6.size)
  have z8 := b8.size
  have BP8 := blk_be b8 BP6
  have BW8 := blk_be b8 BW6
  have BX8 := blk_be b8 BX6
  have BG8 := blk_be b8 BG6
  have hoW8 := hoW6.below b8 (by omega)
  have hoX8 := hoX6.below b8 (by omega)
  have hoG8 := hoG6.below b8 (by omega)
  clear hoW6 hoX6 hoG6
  have cX8 : ∀ i, w8.cell? ⟨w4.heap.size, i, none⟩ = _ := fun i => cell_of_row w8 _ i _ _ (0, 0) BX8
  have yX8 : w4.heap.size < w8.heap.size := (Array.getElem?_eq_some_iff.1 BX8).1
  have cM := markDV_any r f n (w3.heap.size + 1) w4.heap.size es.length FA4 e1 fs4 KA4 e2 ks TA4 e3 ts 1 w8 hoX8 (fc_len hd4.out) (by omega) (Nat.le_refl _) (by rw [mEnd, fc_len hd4.out, fc_tot hd4.out]; have := HB.out; omega)
  obtain ⟨M, hM⟩ : ∃ M : Nat, Hid (mEnd 1 fs4 ks.length ts.length = M) := ⟨_, Lib.hid rfl⟩
  rw [hM.out] at cM
  have hM0 : ¬ (M : Int) < 0 := by omega
  go_wp2_with fail
  refine cM.mono ?_
  rintro e w9 ⟨rfl, _, kp9⟩
  have z89 := kp9.1.size
  have BP9 := blk_kp kp9 BP8 (.inl (by omega))
  have BW9 := blk_kp kp9 BW8 (.inl (by omega))
  have BG9 := blk_kp kp9 BG8 (.inr (by omega))
  have hoW9 := hoW8.kp kp9 (by omega) (.inl (by omega))
  have hoG9 := hoG8.kp kp9 (by omega) (.inr (by omega))
  have t9 : Below w.heap.size w w9 := t8.trans (kp9.1.mono (by omega))
  clear cM cX8 hoW8 hoX8 hoG8
  have cW9 : ∀ i, w9.cell? ⟨w3.heap.size, i, none⟩ = _ := fun i => cell_of_row w9 _ i _ _ (0, 0) BW9
  have yW9 : w3.heap.size < w9.heap.size := (Array.getElem?_eq_some_iff.1 BW9).1
  have cG9 : ∀ i, w9.cell? ⟨w5.heap.size, i, none⟩ = _ := fun i => cell_of_row w9 _ i _ _ (0, 0) BG9
  have yG9 : w5.heap.size < w9.heap.size := (Array.getElem?_eq_some_iff.1 BG9).1
  go_wp2_with fail
  refine (eqDV_any vr vf vn FG cs.length g1 KG g2 TG g3 FW a1 KW a2 TW a3 cs fsG fsW vk vt _ rfl hdG hdW hoG9.rd hoW9.rd vcl VCB.out vkl vtl).mono ?_
  rintro e w10 ⟨rfl, hb10⟩
  have z10 := hb10.size
  have t10 := t9.trans (hb10.mono t9.size)
  have BP10 := blk_be hb10 BP9
  have BW10 := blk_be hb10 BW9
  have BG10 := blk_be hb10 BG9
  have hoW10 := hoW9.below hb10 (by omega)
  have hoG10 := hoG9.below hb10 (by omega)
  clear cW9 cG9 hoW9 hoG9
  have cG10 : ∀ i, w10.cell? ⟨w5.heap.size, i, none⟩ = _ := fun i => cell_of_row w10 _ i _ _ (0, 0) BG10
  have yG10 : w5.heap.size < w10.heap.size := (Array.getElem?_eq_some_iff.1 BG10).1
  have hGl : fsG.length = cs.length := by rw [← hdG.out, List.length_map]
  have cG := markDV_any vr vf vn (w4.heap.size + 1) w5.heap.size cs.length FG g1 fsG KG g2 vk TG g3 vt 1 w10 hoG10 hGl (by omega) (Nat.le_refl _) (by rw [mEnd_cs hdG.out]; exact VMK.out)
  have hE2 : mEnd 1 fsG vk.length vt.length ≤ 10000000 := by rw [mEnd_cs hdG.out]; exact VMK.out
  have HGL := Lib.hid hGl
  clear hGl
  obtain ⟨E, hE⟩ : ∃ E : Nat, Hid (mEnd 1 fsG vk.length vt.length = E) := ⟨_, Lib.hid rfl⟩
  rw [hE.out] at cG
  have hE0 : ¬ (E : Int) < 0 := by omega
  have HE2 := Lib.hid hE2
  clear hE2
  go_wp2_with fail
  refine cG.mono ?_
  rintro e w11 ⟨rfl, hoG11, kp11⟩
  have z11 := kp11.1.size
  have BP11 := blk_kp kp11 BP10 (.inl (by omega))
  have BW11 := blk_kp kp11 BW10 (.inl (by omega))
  have BG11 := blk_kp kp11 BG10 (.inr (by omega))
  have hoW11 := hoW10.kp kp11 (by omega) (.inl (by omega))
  have t11 : Below w.heap.size w w11 := t10.trans (kp11.1.mono (by omega))
  clear cG cG10 hoW10 hoG10
  have cG11 : ∀ i, w11.cell? ⟨w5.heap.size, i, none⟩ = _ := fun i => cell_of_row w11 _ i _ _ (0, 0) BG11
  have yG11 : w5.heap.size < w11.heap.size := (Array.getElem?_eq_some_iff.1 BG11).1
  have cH : ∀ W, Below w11.heap.size w11 W → Calls Tryz.prog 17 #[dkV vr vf vn FG cs.length g1 KG vk.length g2 TG vt.length g3, .int .i64 1] W fun e w' => e = .returned (.int .i64 (E : Int)) ∧ Below W.heap.size W w' := fun W hW => by
    have := heldDV_any vr vf vn (w4.heap.size + 1) w5.heap.size cs.length FG g1 fsG KG g2 vk.length TG g3 vt.length 1 W (hoG11.below hW (by omega)) HGL.out (Nat.le_refl _) HE2.out
    rwa [hE.out] at this
  go_wp2_with fail
  refine (cH _ (Below.refl _ _)).mono ?_
  rintro e w12 ⟨rfl, hb12⟩
  have z12 := hb12.size
  have t12 := t11.trans (hb12.mono t11.size)
  have BP12 := blk_be hb12 BP11
  have BW12 := blk_be hb12 BW11
  have BG12 := blk_be hb12 BG11
  have hoW12 := hoW11.below hb12 (by omega)
  clear cG11
  have cP12 : ∀ i, w12.cell? ⟨w.heap.size, i, none⟩ = _ := fun i => cell_of_row w12 _ i _ _ (0, 0) BP12
  have yP12 : w.heap.size < w12.heap.size := (Array.getElem?_eq_some_iff.1 BP12).1
  go_wp2_with fail
  refine (toD_any r f n FA es c1 KA ks c2 TA ts c3 _ (hr.below t12) hg).mono ?_
  rintro e w13 ⟨FA13, k1, fs13, KA13, k2, TA13, k3, rfl, hd13, ho13, hb13⟩
  have z13 := hb13.size
  have t13 := t12.trans (hb13.mono t12.size)
  have cJ := diskSet_impl room fuse r f n FA13 es fs13 k1 KA13 ks k2 TA13 ts k3 w13 ho13.rd hd13 hg
  rw [hV.out] at cJ
  clear cP12
  go_wp2_with fail
  refine cJ.mono ?_
  rintro e w14 ⟨FH, m1, fsH, KH, m2, TH, m3, he, hdH, hoH, hb14⟩
  dsimp only at he hdH hoH
  subst he
  have b1214 := hb13.trans (hb14.mono hb13.size)
  have t14 := t12.trans (b1214.mono t12.size)
  have z14 := b1214.size
  have BW14 := blk_be b1214 BW12
  have BG14 := blk_be b1214 BG12
  have hoW14 := hoW12.below b1214 (by omega)
  clear cJ
  have cW14 : ∀ i, w14.cell? ⟨w3.heap.size, i, none⟩ = _ := fun i => cell_of_row w14 _ i _ _ (0, 0) BW14
  have yW14 : w3.heap.size < w14.heap.size := (Array.getElem?_eq_some_iff.1 BW14).1
  have b14 : Below w14.heap.size w14 (w14.alloc (.cells (dkC vr vf vn FH cs.length m1 KH vk.length m2 TH vt.length m3) 35)) := (Below.refl _ _).alloc (Nat.le_refl _) _
  go_wp2_with fail
  refine (eqDV_any vr vf vn FH cs.length m1 KH m2 TH m3 FW a1 KW a2 TW a3 cs fsH fsW vk vt _ rfl hdH hdW (Dr.below hoH.rd b14) (Dr.below hoW14.rd b14) vcl VCB.out vkl vtl).mono ?_
  rintro e w15 ⟨rfl, hb15⟩
  have b1415 := b14.trans (hb15.mono b14.size)
  have t15 := t14.trans (b1415.mono t14.size)
  have BG15 := blk_be b1415 BG14
  clear cW14
  have cG15 : ∀ i, w15.cell? ⟨w5.heap.size, i, none⟩ = _ := fun i => cell_of_row w15 _ i _ _ (0, 0) BG15
  have yG15 : w5.heap.size < w15.heap.size := (Array.getElem?_eq_some_iff.1 BG15).1
  go_wp2_with fail
  refine (cH _ ((hb12.trans (b1214.mono hb12.size)).trans (b1415.mono (by omega)))).mono ?_
  rintro e w16 ⟨rfl, hb16⟩
  go_wp2_with fail
  go_ret
  exact ⟨rfl, t15.trans (hb16.mono t15.size)⟩
end Go.Proofs.YtljpeiflnimblaaGreat
