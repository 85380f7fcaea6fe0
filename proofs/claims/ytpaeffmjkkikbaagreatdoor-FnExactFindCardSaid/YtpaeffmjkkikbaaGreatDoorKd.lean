/- DiskRead: the reference. -/
import Derived.Test.YtpaeffmjkkikbaaGreatDoorKf
import Derived.Test.YtpaeffmjkkikbaaGreatDoorHc
namespace Go.Proofs.YtpaeffmjkkikbaaGreatDoor
open Go.RowKit
set_option linter.unusedVariables false
set_option maxRecDepth 100000

set_option maxHeartbeats 4000000 in
theorem diskRead_spec (r f n : Int) (FA : Option Addr) (es fs : List Fl) (c1 : Nat) (KA : Option Addr) (ks : List Lk) (c2 : Nat) (TA : Option Addr) (ts : List Tn) (c3 : Nat) (nm : ByteArray) (w : World) (hr : Dr w FA fs KA ks TA ts) (hd : Hid (fs.map fc = es.map fc)) (hg : Good es ks ts) :
    Calls Tryz.prog 23 #[dkV r f n FA es.length c1 KA ks.length c2 TA ts.length c3, .string nm] w (ByPost w (readV r f n (es.map fc) (ftot es) ks ts nm)) := by
  have hb0 : Below w.heap.size w (w.alloc (.cells (dkC r f n FA es.length c1 KA ks.length c2 TA ts.length c3) 35)) := by (repeat (first | exact Below.refl _ _ | (refine Below.alloc ?_ (by first | omega | (simp; done) | (simp; omega)) _) | (refine Below.drew ?_) | (refine below_drewN ?_ _) | (refine below_at1 ?_ (by first | omega | (simp; done) | (simp; omega))) | (refine Below.setCell ?_ (by first | omega | (simp; done) | (simp; omega)) _) | (refine Below.trans ?_ (Below.mono (by assumption) (by first | omega | (simp; done) | (simp; omega))))))
  have B0 := heap_alloc_new w (.cells (dkC r f n FA es.length c1 KA ks.length c2 TA ts.length c3) 35)
  have cD := diskDir_spec r f n FA es fs c1 KA ks c2 TA ts c3 _ (hr.below hb0) hd hg
  have hgc := hg.copy hd.out
  have hel : es.length = fs.length := (fc_len hd.out).symm
  rw [hel] at cD hb0 B0 ⊢
  have hcs : (findS (dirV r f n (es.map fc) (ftot es) ks ts) nm = 0 ∧ readV r f n (es.map fc) (ftot es) ks ts nm = none) ∨
    ∃ k, ∃ hk : k < fs.length, ¬ findS (dirV r f n (es.map fc) (ftot es) ks ts) nm = 0 ∧ ixV (fun x : Fl => x.1 == findS (dirV r f n (es.map fc) (ftot es) ks ts) nm) fs = (k : Int) ∧ readV r f n (es.map fc) (ftot es) ks ts nm = some fs[k].2.1.2.2 := by
    cases hv : dkB r f n (es.map fc) (ftot es) ks ts with
    | false => exact .inl ⟨by rw [dirV, hv]; rfl, by rw [readV, hv]; rfl⟩
    | true =>
      rw [dirV, if_pos hv, ← hd.out]
      rw [← hd.out] at hv
      rcases read_cases hv nm with ⟨h1, _, h2⟩ | ⟨k, hk, h1, h2, _, h3⟩
      · exact .inl ⟨h1, h2⟩
      · exact .inr ⟨k, hk, h1, h2, h3⟩
  have hlen := dirV_len r f n (es.map fc) (ftot es) ks ts
  obtain ⟨dir, hdir⟩ : ∃ dir, Hid (dirV r f n (es.map fc) (ftot es) ks ts = dir) := ⟨_, Lib.hid rfl⟩
  rw [hdir.out] at hcs cD hlen
  have heb := hgc.ey
  have hfl := hgc.el
  rcases hcs with ⟨h1, hR⟩ | ⟨k, hk, h1, h2, hR⟩
  · have HR := Lib.hid hR
    have H1 := Lib.hid h1
    clear hR h1
    go_enter Tryz.func23, Tryz.ntmps23
    go_wp2_with fail
    refine cD.mono ?_
    rintro e w1 ⟨A1, d1, rfl, ho1, hb1⟩
    have t1 := hb0.trans (hb1.mono hb0.size)
    have cF := find_spec A1 d1 dir nm w1 (ho1.sl lk2) (by omega)
    rw [H1.out] at cF
    go_wp2_with fail
    refine cF.mono ?_
    rintro e w2 ⟨rfl, hb2⟩
    go_wp2_with fail
    go_ret2
    rw [HR.out]
    exact ByPost.no (t1.trans (hb2.mono t1.size))
  · have HR := Lib.hid hR
    obtain ⟨id, hid⟩ : ∃ id, Hid (findS dir nm = id) := ⟨_, Lib.hid rfl⟩
    rw [hid.out] at h1 h2
    have H2 := Lib.hid h2
    clear hR h2
    go_enter Tryz.func23, Tryz.ntmps23
    go_wp2_with fail
    refine cD.mono ?_
    rintro e w1 ⟨A1, d1, rfl, ho1, hb1⟩
    have t1 := hb0.trans (hb1.mono hb0.size)
    have cF := find_spec A1 d1 dir nm w1 (ho1.sl lk2) (by omega)
    rw [hid.out] at cF
    obtain ⟨B1, _, _, z1⟩ := keep_blk hb1 (g := w.heap.size) B0
    go_wp2_with fail
    refine cF.mono ?_
    rintro e w2 ⟨rfl, hb2⟩
    have t2 := t1.trans (hb2.mono t1.size)
    obtain ⟨B2, y, _, z2⟩ := keep_blk hb2 (g := w.heap.size) B1
    have q0 : w2.cell? ⟨w.heap.size, 0, none⟩ = some (.int .i64 r) := y 0; have q1 : w2.cell? ⟨w.heap.size, 1, none⟩ = some (.int .i64 f) := y 1; have q2 : w2.cell? ⟨w.heap.size, 2, none⟩ = some (.int .i64 n) := y 2; have q3 : w2.cell? ⟨w.heap.size, 3, none⟩ = some (.slice FA fs.length c1) := y 3; have q4 : w2.cell? ⟨w.heap.size, 4, none⟩ = some (.slice KA ks.length c2) := y 4; have q5 : w2.cell? ⟨w.heap.size, 5, none⟩ = some (.slice TA ts.length c3) := y 5
    have hr2 := hr.below t2
    clear y cF cD B0 B1
    have cA := fun W (hW : Below w2.heap.size w2 W) => l02At_any r f n FA fs c1 KA ks.length c2 TA ts.length c3 id W (hr2.below hW).1.1 (by omega)
    rw [H2.out] at cA
    obtain ⟨b, o, rfl, hbs, x0, x1, x2, xb⟩ := Fs.get hr2.1 hk
    have hx : fs[k].2.1.2.2.length ≤ 549755813888 := by have := heb _ (List.getElem_mem hk); omega
    have hk' : (k : Int) < fs.length := by omega
    have hk0 : (0 : Int) ≤ k := by omega
    clear x0 x2 q0 q1 q2 q3 q4 q5
    go_wp2_with fail
    have b0 : Below w2.heap.size w2 w2.drew := (Below.refl _ _).drew
    refine wp_region_held_drew (S := fun w' => Below w2.heap.size w2 w') (by kernel_rfl) (b0) (fun _ => ?_)
    refine wpAnyH_take (i := 1) (v := .pointer (some ⟨w.heap.size, 3, none⟩)) rfl (by kernel_rfl) (by kernel_rfl) (by kernel_rfl) (fun _ _ _ h => h) (Or.inl ⟨by rfl, (by intro w' hS; skip; go_simp; try first | rfl | (simp [*, Addr.add_lit]; done))⟩) (b0) ?_
    try simp only [Act.put, List.getElem_toArray, List.getElem_cons_succ, List.getElem_cons_zero, List.setIfInBounds_toArray, List.set_cons_zero, List.set_cons_succ]
    refine wpAnyH_take (i := 2) (v := .slice (some ⟨b, o, none⟩) fs.length c1) rfl (by kernel_rfl) (by kernel_rfl) (by kernel_rfl) (fun _ _ _ h => h) (Or.inl ⟨by rfl, (by intro w' hS; have q : ∀ i, w'.cell? ⟨w.heap.size, i, none⟩ = _ := fun i => cell_of_row w' _ i _ _ (0, 0) ((hS.block _ z2).trans B2); go_simp; try first | rfl | (simp [*, Addr.add_lit]; done))⟩) (b0) ?_
    try simp only [Act.put, List.getElem_toArray, List.getElem_cons_succ, List.getElem_cons_zero, List.setIfInBounds_toArray, List.set_cons_zero, List.set_cons_succ]
    refine wpAnyH_take (i := 3) (v := dkV r f n (some ⟨b, o, none⟩) fs.length c1 KA ks.length c2 TA ts.length c3) rfl (by kernel_rfl) (by kernel_rfl) (by kernel_rfl) (fun _ _ _ h => h) (Or.inl ⟨by rfl, (by intro w' hS; have q : ∀ i, w'.cell? ⟨w.heap.size, i, none⟩ = _ := fun i => cell_of_row w' _ i _ _ (0, 0) ((hS.block _ z2).trans B2); go_simp; try first | rfl | (simp [*, Addr.add_lit]; done))⟩) (b0) ?_
    try simp only [Act.put, List.getElem_toArray, List.getElem_cons_succ, List.getElem_cons_zero, List.setIfInBounds_toArray, List.set_cons_zero, List.set_cons_succ]
    refine wpAnyH_take (i := 4) (v := .int .i64 id) rfl (by kernel_rfl) (by kernel_rfl) (by kernel_rfl) (fun _ _ _ h => h) (Or.inl ⟨by rfl, (by intro w' hS; skip; go_simp; try first | rfl | (simp [*, Addr.add_lit]; done))⟩) (b0) ?_
    try simp only [Act.put, List.getElem_toArray, List.getElem_cons_succ, List.getElem_cons_zero, List.setIfInBounds_toArray, List.set_cons_zero, List.set_cons_succ]
    refine wpAnyH_ready (rs := [0, 5]) (by kernel_rfl) (by simp) ?_
    refine AllReadyH.cons rfl (fun K hK => ?_) (AllReadyH.cons rfl (fun K hK => ?_) AllReadyH.nil)
    · go_simp
      have b1 : Below w2.heap.size w2 (w2.drew.alloc (.cells #[] 5)) := b0.alloc (Nat.le_refl _) _
      refine hK.out _ _ (b1) (fun _ => ?_)
      clear hK K
      try simp only [Act.put, List.getElem_toArray, List.getElem_cons_succ, List.getElem_cons_zero, List.setIfInBounds_toArray, List.set_cons_zero, List.set_cons_succ]
      refine wpAnyH_ready (rs := [5]) (by kernel_rfl) (by simp) ?_
      refine AllReadyH.cons rfl (fun K hK => ?_) AllReadyH.nil
      go_simp
      refine (cA _ b1).mono ?_
      rintro e w3 ⟨rfl, hb3⟩
      have b3 := b1.trans (hb3.mono b1.size)
      refine hK.out _ _ (b3) (fun _ => ?_)
      clear hK K
      try simp only [Act.put, List.getElem_toArray, List.getElem_cons_succ, List.getElem_cons_zero, List.setIfInBounds_toArray, List.set_cons_zero, List.set_cons_succ]
      refine wpAnyH_take (i := 6) (v := .pointer (some ⟨b, o + k * 3, none⟩)) rfl (by kernel_rfl) (by kernel_rfl) (by kernel_rfl) (fun _ _ _ h => h) (Or.inl ⟨by rfl, (by intro w' hS; skip; go_simp; try first | rfl | (simp [*, Addr.add_lit]; done))⟩) (b3) ?_
      try simp only [Act.put, List.getElem_toArray, List.getElem_cons_succ, List.getElem_cons_zero, List.setIfInBounds_toArray, List.set_cons_zero, List.set_cons_succ]
      refine wpAnyH_take (i := 7) (v := .pointer (some ⟨b, o + k * 3 + 1, none⟩)) rfl (by kernel_rfl) (by kernel_rfl) (by kernel_rfl) (fun _ _ _ h => h) (Or.inl ⟨by rfl, (by intro w' hS; skip; go_simp; try first | rfl | (simp [*, Addr.add_lit]; done))⟩) (b3) ?_
      try simp only [Act.put, List.getElem_toArray, List.getElem_cons_succ, List.getElem_cons_zero, List.setIfInBounds_toArray, List.set_cons_zero, List.set_cons_succ]
      refine wpAnyH_take (i := 8) (v := .slice fs[k].2.1.1 fs[k].2.1.2.2.length fs[k].2.1.2.1) rfl (by kernel_rfl) (by kernel_rfl) (by kernel_rfl) (fun _ _ _ h => h) (Or.inl ⟨by rfl, (by intro w' hS; have q := (hS.cell (World.block_lt_of_cell? w2 _ x1)).trans x1; go_simp; try first | rfl | (simp [*, Addr.add_lit]; done))⟩) (b3) ?_
      try simp only [Act.put, List.getElem_toArray, List.getElem_cons_succ, List.getElem_cons_zero, List.setIfInBounds_toArray, List.set_cons_zero, List.set_cons_succ]
      have hO : Ob w3 w2.heap.size (some ⟨w2.heap.size, 0, none⟩) 0 [] := Ob.below (w := w2.drew.alloc (.cells #[] 5)) Ob.empty hb3 (Nat.le_refl _)
      obtain ⟨A9, d9, w9, hr9, ho9, hb9, _, _⟩ := appB_run 28 w2.heap.size (some ⟨w2.heap.size, 0, none⟩) 0 [] w3 fs[k].2.1.1 fs[k].2.1.2.1 fs[k].2.1.2.2 hO (xb.below b3) (by simp) (by omega) b3.size
      refine wpAnyH_ready (rs := [9]) (by kernel_rfl) (by simp) ?_
      refine AllReadyH.cons rfl (fun K hK => ?_) AllReadyH.nil
      refine step_run rfl _ _ rfl rfl rfl hr9 ?_
      have b9 := b3.trans (hb9.mono (Nat.le_refl _))
      refine hK.out _ _ (b9) (fun _ => ?_)
      clear hK K
      try simp only [Act.put, List.getElem_toArray, List.getElem_cons_succ, List.getElem_cons_zero, List.setIfInBounds_toArray, List.set_cons_zero, List.set_cons_succ]
      rw [List.nil_append] at ho9
      refine wpAnyH_take (i := 10) (v := .slice A9 fs[k].2.1.2.2.length d9) rfl (by kernel_rfl) (by kernel_rfl) (by kernel_rfl) (fun _ _ _ h => h) (Or.inl ⟨by rfl, (by intro w' hS; skip; go_simp; try first | rfl | (simp [*, Addr.add_lit]; done))⟩) (b9) ?_
      try simp only [Act.put, List.getElem_toArray, List.getElem_cons_succ, List.getElem_cons_zero, List.setIfInBounds_toArray, List.set_cons_zero, List.set_cons_succ]
      refine wpAnyH_take (i := 11) (v := .bool true) rfl (by kernel_rfl) (by kernel_rfl) (by kernel_rfl) (fun _ _ _ h => h) (Or.inl ⟨by rfl, (by intro w' hS; skip; go_simp; try first | rfl | (simp [*, Addr.add_lit]; done))⟩) (b9) ?_
      try simp only [Act.put, List.getElem_toArray, List.getElem_cons_succ, List.getElem_cons_zero, List.setIfInBounds_toArray, List.set_cons_zero, List.set_cons_succ]
      refine wpAnyH_done (by kernel_rfl) ?_ _
      go_wp2_with fail
      go_ret2
      rw [HR.out]
      exact ByPost.yes (t2.trans (b9.mono t2.size)) (ho9.mono t2.size)
    · go_simp
      refine (cA _ b0).mono ?_
      rintro e w3 ⟨rfl, hb3⟩
      have b3 := b0.trans (hb3.mono b0.size)
      refine hK.out _ _ (b3) (fun _ => ?_)
      clear hK K
      try simp only [Act.put, List.getElem_toArray, List.getElem_cons_succ, List.getElem_cons_zero, List.setIfInBounds_toArray, List.set_cons_zero, List.set_cons_succ]
      refine wpAnyH_take (i := 6) (v := .pointer (some ⟨b, o + k * 3, none⟩)) rfl (by kernel_rfl) (by kernel_rfl) (by kernel_rfl) (fun _ _ _ h => h) (Or.inl ⟨by rfl, (by intro w' hS; skip; go_simp; try first | rfl | (simp [*, Addr.add_lit]; done))⟩) (b3) ?_
      try simp only [Act.put, List.getElem_toArray, List.getElem_cons_succ, List.getElem_cons_zero, List.setIfInBounds_toArray, List.set_cons_zero, List.set_cons_succ]
      refine wpAnyH_take (i := 7) (v := .pointer (some ⟨b, o + k * 3 + 1, none⟩)) rfl (by kernel_rfl) (by kernel_rfl) (by kernel_rfl) (fun _ _ _ h => h) (Or.inl ⟨by rfl, (by intro w' hS; skip; go_simp; try first | rfl | (simp [*, Addr.add_lit]; done))⟩) (b3) ?_
      try simp only [Act.put, List.getElem_toArray, List.getElem_cons_succ, List.getElem_cons_zero, List.setIfInBounds_toArray, List.set_cons_zero, List.set_cons_succ]
      refine wpAnyH_take (i := 8) (v := .slice fs[k].2.1.1 fs[k].2.1.2.2.length fs[k].2.1.2.1) rfl (by kernel_rfl) (by kernel_rfl) (by kernel_rfl) (fun _ _ _ h => h) (Or.inl ⟨by rfl, (by intro w' hS; have q := (hS.cell (World.block_lt_of_cell? w2 _ x1)).trans x1; go_simp; try first | rfl | (simp [*, Addr.add_lit]; done))⟩) (b3) ?_
      try simp only [Act.put, List.getElem_toArray, List.getElem_cons_succ, List.getElem_cons_zero, List.setIfInBounds_toArray, List.set_cons_zero, List.set_cons_succ]
      refine wpAnyH_ready (rs := [0]) (by kernel_rfl) (by simp) ?_
      refine AllReadyH.cons rfl (fun K hK => ?_) AllReadyH.nil
      go_simp
      have b4 : Below w2.heap.size w2 (w3.alloc (.cells #[] 5)) := b3.alloc b3.size _
      refine hK.out _ _ (b4) (fun _ => ?_)
      clear hK K
      try simp only [Act.put, List.getElem_toArray, List.getElem_cons_succ, List.getElem_cons_zero, List.setIfInBounds_toArray, List.set_cons_zero, List.set_cons_succ]
      obtain ⟨A9, d9, w9, hr9, ho9, hb9, _, _⟩ := appB_run 28 w3.heap.size (some ⟨w3.heap.size, 0, none⟩) 0 [] (w3.alloc (.cells #[] 5)) fs[k].2.1.1 fs[k].2.1.2.1 fs[k].2.1.2.2 Ob.empty (xb.below b4) (by simp) (by omega) (by simp)
      refine wpAnyH_ready (rs := [9]) (by kernel_rfl) (by simp) ?_
      refine AllReadyH.cons rfl (fun K hK => ?_) AllReadyH.nil
      refine step_run rfl _ _ rfl rfl rfl hr9 ?_
      have b9 := b4.trans (hb9.mono b3.size)
      refine hK.out _ _ (b9) (fun _ => ?_)
      clear hK K
      try simp only [Act.put, List.getElem_toArray, List.getElem_cons_succ, List.getElem_cons_zero, List.setIfInBounds_toArray, List.set_cons_zero, List.set_cons_succ]
      rw [List.nil_append] at ho9
      refine wpAnyH_take (i := 10) (v := .slice A9 fs[k].2.1.2.2.length d9) rfl (by kernel_rfl) (by kernel_rfl) (by kernel_rfl) (fun _ _ _ h => h) (Or.inl ⟨by rfl, (by intro w' hS; skip; go_simp; try first | rfl | (simp [*, Addr.add_lit]; done))⟩) (b9) ?_
      try simp only [Act.put, List.getElem_toArray, List.getElem_cons_succ, List.getElem_cons_zero, List.setIfInBounds_toArray, List.set_cons_zero, List.set_cons_succ]
      refine wpAnyH_take (i := 11) (v := .bool true) rfl (by kernel_rfl) (by kernel_rfl) (by kernel_rfl) (fun _ _ _ h => h) (Or.inl ⟨by rfl, (by intro w' hS; skip; go_simp; try first | rfl | (simp [*, Addr.add_lit]; done))⟩) (b9) ?_
      try simp only [Act.put, List.getElem_toArray, List.getElem_cons_succ, List.getElem_cons_zero, List.setIfInBounds_toArray, List.set_cons_zero, List.set_cons_succ]
      refine wpAnyH_done (by kernel_rfl) ?_ _
      go_wp2_with fail
      go_ret2
      rw [HR.out]
      exact ByPost.yes (t2.trans (b9.mono t2.size)) (ho9.mono (t2.trans (b3.mono t2.size)).size)
end Go.Proofs.YtpaeffmjkkikbaaGreatDoor
