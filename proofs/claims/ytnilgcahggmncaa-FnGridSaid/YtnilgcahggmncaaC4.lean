/- A grid drawn. -/
import Derived.Test.YtnilgcahggmncaaC3
import Derived.Test.YtnilgcahggmncaaKz
import Derived.Test.YtnilgcahggmncaaGw
namespace Go.Proofs.Ytnilgcahggmncaa
open Go.RowKit
set_option linter.unusedVariables false
set_option maxRecDepth 100000

theorem gr_new6 (w : World) (gm j : Nat) (cl : Cl) : w.grownBy ((((((w.setCell ⟨gm, j * 6, none⟩ (.int .i64 cl.1)).setCell ⟨gm, j * 6 + 1, none⟩ (.int .i64 cl.2.1)).setCell ⟨gm, j * 6 + 2, none⟩ (.int .i64 cl.2.2.1)).setCell ⟨gm, j * 6 + 3, none⟩ (.bool cl.2.2.2.1)).setCell ⟨gm, j * 6 + 4, none⟩ (.bool cl.2.2.2.2.1)).setCell ⟨gm, j * 6 + 5, none⟩ (.bool cl.2.2.2.2.2)) (some gm) :=
  grown_set (grown_set (grown_set (grown_set (grown_set (grown_set (World.grownBy.refl w _) _) _) _) _) _) _
theorem by_far {w w' : World} {g gm : Nat} {A : Option Addr} {xs : List UInt8} (h : By w A xs) (hne : ∀ ad, A = some ad → xs ≠ [] → ad.block < g) (hg : w.grownBy w' (some gm)) (hgm : g < gm) : By w' A xs := by
  rcases h with h | ⟨b, o, hA, hc⟩
  · exact .inl h
  · refine .inr ⟨b, o, hA, fun i x hx => ?_⟩
    have hlt : b < g := hne _ hA (by intro e; rw [e] at hx; simp at hx)
    have h1 := World.block_lt_of_cell? w _ (hc i x hx)
    exact (World.cell?_of_block (a := ⟨b, o + i, none⟩) (hg.block b h1 (by intro e; injection e with e; omega))).trans (hc i x hx)
theorem gr_far {w w1 w2 : World} {r : Option Nat} {gm : Nat} (h : w.grownBy w1 r) (h9 : w1.grownBy w2 (some gm)) (hgm : w.heap.size ≤ gm) : w.grownBy w2 r :=
  ⟨h9.os.trans h.os, h9.tape.trans h.tape, h9.output.trans h.output, Nat.le_trans h.size h9.size, fun k hk hn => (h9.block k (Nat.lt_of_lt_of_le hk h.size) (by intro e; injection e with e; omega)).trans (h.block k hk hn)⟩
theorem Og.gr {w w' : World} {lo g c : Nat} {A : Option Addr} {cs : List Cl} (h : Og w lo A c cs) (hg : w.grownBy w' (some g)) (hlo : g < lo) : Og w' lo A c cs := by
  refine ownsG.kept (row := some g) h hg ?_
  cases A with
  | none => exact .inl rfl
  | some ad =>
    refine .inr ?_
    have := (h.lt ad.block rfl).1
    simp [Value.ownBlock]
    omega
theorem gn_small {W H : Int} (h1 : 1 ≤ W ∧ W ≤ 7) (h2 : 1 ≤ H ∧ H ≤ 4) : gnR W H = ((W, H, List.replicate (W * H).toNat bk), true) ∧ gridB W H (List.replicate (W * H).toNat bk) = true ∧ 1 ≤ (W * H).toNat ∧ (W * H).toNat ≤ 28 := by
  obtain ⟨a, rfl⟩ := Int.eq_ofNat_of_zero_le (show 0 ≤ W by omega)
  obtain ⟨b, rfl⟩ := Int.eq_ofNat_of_zero_le (show 0 ≤ H by omega)
  have e : (a : Int) * (b : Int) = ((a * b : Nat) : Int) := (Int.natCast_mul a b).symm
  have k1 : a * b ≤ 7 * 4 := Nat.mul_le_mul (by omega) (by omega)
  have k2 : 1 * 1 ≤ a * b := Nat.mul_le_mul (by omega) (by omega)
  have hs : sizeB (a : Int) (b : Int) = true := decide_eq_true ⟨by omega, by omega, by omega, by omega, by rw [e]; omega⟩
  refine ⟨?_, ?_, ?_, ?_⟩
  · unfold gnR
    rw [if_pos ⟨by omega, by omega, by rw [e]; omega⟩]
  · have hall : (List.replicate ((a : Int) * (b : Int)).toNat bk).all cellB = true := List.all_eq_true.2 fun x hx => by rw [(List.mem_replicate.1 hx).2]; decide
    rw [gridB, hs, hall, List.length_replicate, e]
    simp
    rw [e]
    omega
  · rw [e]; simp; omega
  · rw [e]; simp; omega
theorem grid_set1 {W H : Int} {cs : List Cl} {i : Nat} {x : Cl} (h : gridB W H cs = true) (hx : cellB x = true) : gridB W H (cs.set i x) = true := by
  rw [gridB, Bool.and_eq_true, Bool.and_eq_true] at h ⊢
  refine ⟨⟨h.1.1, by rw [List.length_set]; exact h.1.2⟩, List.all_eq_true.2 fun y hy => ?_⟩
  rcases List.mem_or_eq_of_mem_set hy with h1 | h1
  · exact List.all_eq_true.1 h.2 y h1
  · rw [h1]; exact hx
/-- A grid is drawn. -/
def DrPost (g : Nat) (w : World) (e : Ending) (w' : World) : Prop :=
  ∃ (W H : Int) (A' : Option Addr) (c' : Nat) (cs : List Cl), (1 ≤ W ∧ W ≤ 7) ∧ (1 ≤ H ∧ H ≤ 4) ∧ gridB W H cs = true ∧ e = .returned (gV W H A' cs.length c') ∧ Og w' w.heap.size A' c' cs ∧ w.grownBy w' (some g)
abbrev gZ : Array Value := #[.int .i64 0, .int .i64 0, .slice none 0 0]
set_option maxHeartbeats 4000000 in
theorem l07Draw_any (g : Nat) (A : Option Addr) (c : Nat) (xs : List UInt8) (w : World) (ha : By w A xs) (h1 : xs.length ≤ 1048576) (hne : ∀ ad, A = some ad → xs ≠ [] → ad.block < g) (hC : Cur w g A xs.length c) :
    Calls Try.prog 57 #[.pointer (some ⟨g, 0, none⟩)] w (DrPost g w) := by
  have hb0 : Below w.heap.size w (w.alloc (.cells gZ 29)) := (Below.refl _ _).alloc (Nat.le_refl _) _
  have hg0 := gr_below (r := some g) hb0
  have hgl := hC.lt
  go_enter Try.func57, Try.ntmps57
  go_wp2_with fail
  refine (l01BelowN_any g A c xs 7 _ (by_gr ha hne hg0) h1 hne (hC.below hb0) (by omega) (by omega)).mono ?_
  rintro e w1 ⟨x, hx, rfl, hC1, hg1⟩
  have hB1 := by_gr (by_gr ha hne hg0) hne hg1
  go_wp2_with fail
  refine (l01BelowN_any g A c xs 4 _ hB1 h1 hne hC1 (by omega) (by omega)).mono ?_
  rintro e w2 ⟨y, hy, rfl, hC2, hg2⟩
  have hB2 := by_gr hB1 hne hg2
  obtain ⟨W, hW⟩ : ∃ W : Int, Hid (W = 1 + (x : Int)) := ⟨_, Lib.hid rfl⟩
  obtain ⟨H, hH⟩ : ∃ H : Int, Hid (H = 1 + (y : Int)) := ⟨_, Lib.hid rfl⟩
  have hWb : 1 ≤ W ∧ W ≤ 7 := by rw [hW.out]; omega
  have hHb : 1 ≤ H ∧ H ≤ 4 := by rw [hH.out]; omega
  obtain ⟨hgn, hok, hN1, hN2⟩ := gn_small hWb hHb
  have hnew := gridNew_spec W H w2
  rw [hgn, hW.out, hH.out] at hnew
  have HNW := Lib.hid hnew
  have HOK := Lib.hid hok
  clear hnew hgn hok
  go_wp2_with fail
  refine HNW.out.mono ?_
  rw [← hW.out, ← hH.out]
  rintro e w3 ⟨A3, c3, rfl, hOg3, hb3⟩
  obtain ⟨N, hN⟩ : ∃ N, Hid (N = (W * H).toNat) := ⟨_, Lib.hid rfl⟩
  rw [← hN.out] at hN1 hN2
  simp only at hOg3 ⊢
  have hlen0 : (List.replicate (W * H).toNat bk).length = N := by rw [List.length_replicate, hN.out]
  rw [hlen0]
  obtain ⟨gm, rfl, hgm2, _, hc3, _⟩ := hOg3.fill (by rw [hlen0]; omega)
  rw [hlen0] at hc3
  have y2 := (gr_trans (gr_trans hg0 hg1) hg2).size
  have y2' : w.heap.size < w2.heap.size := by have h5 := hg1.size; have h6 := hg2.size; rw [World.size_alloc] at h5; omega
  have y3 := hb3.size
  have zgm := (hOg3.lt gm rfl).2
  have hgm : g < gm := by omega
  have HO3 := Lib.hid hOg3
  have G3 := Lib.hid (gr_trans (gr_trans (gr_trans hg0 hg1) hg2) (gr_below hb3))
  have C3' := Lib.hid (hC2.below hb3)
  have B3 := Lib.hid (by_gr hB2 hne (gr_below hb3))
  have R3 : Hid (w3.heap[w.heap.size]? = some (.cells gZ 29 (0, 0))) := (hb3.block _ y2').trans (((gr_trans hg1 hg2).block _ (by simp) (by intro e; injection e with e; omega)).trans (heap_alloc_new _ _))
  clear hOg3 hb3 hg1 hg2 hC1 hC2 hB1 hB2 hg0 hb0
  go_wp2_with fail
  have hb4 : Below w3.heap.size w3 (w3.alloc (.cells #[.int .i64 W, .int .i64 H, .slice (some ⟨gm, 0, none⟩) N c3] 29)) := (Below.refl _ _).alloc (Nat.le_refl _) _
  obtain ⟨w4, hw4⟩ : ∃ v, v = w3.alloc (.cells #[.int .i64 W, .int .i64 H, .slice (some ⟨gm, 0, none⟩) N c3] 29) := ⟨_, rfl⟩
  have b4 : w4.heap[w3.heap.size]? = some (.cells #[.int .i64 W, .int .i64 H, .slice (some ⟨gm, 0, none⟩) N c3] 29 (0, 0)) := by rw [hw4]; exact heap_alloc_new _ _
  rw [← hw4] at hb4 ⊢
  clear hw4
  obtain ⟨gb, hgb⟩ : ∃ gb, gb = w3.heap.size := ⟨_, rfl⟩
  have zb4 := (Array.getElem?_eq_some_iff.1 b4).1
  rw [← hgb] at b4 zb4 ⊢
  have hgmb : gm < gb := by omega
  have hgbg : g < gb := by omega
  have hwb : w.heap.size < gb := by omega
  refine (l01BelowN_any g A c xs 12 w4 (by_gr B3.out hne (gr_below hb4)) h1 hne (C3'.out.below hb4) (by omega) (by omega)).mono ?_
  rintro e w5 ⟨n, hn, rfl, hC5, hg5⟩
  have hg45 := gr_trans (gr_below (r := some g) hb4) hg5
  have R5 := (hg45.block _ (by omega) (by intro e; injection e with e; omega)).trans R3.out
  have b5 := (hg5.block _ zb4 (by intro e; injection e with e; omega)).trans b4
  have B5 := by_gr B3.out hne hg45
  have O5 := HO3.out.gr hg45 (by omega)
  have G5 := gr_trans G3.out hg45
  clear hgb
  go_wp2_with fail
  go_loopw [5] (fun nv wr => ∃ (k : Nat) (cs : List Cl), nv = .int .i64 k ∧ k ≤ 12 ∧ Hid (cs.length = N) ∧ Hid (gridB W H cs = true) ∧ wr.heap[gb]? = some (.cells #[.int .i64 W, .int .i64 H, .slice (some ⟨gm, 0, none⟩) N c3] 29 (0, 0)) ∧ wr.heap[w.heap.size]? = some (.cells gZ 29 (0, 0)) ∧ Og wr w2.heap.size (some ⟨gm, 0, none⟩) c3 cs ∧ Cur wr g A xs.length c ∧ By wr A xs ∧ w.grownBy wr (some g)) (fun nv _ => (intOf nv).toNat)
  case atStart => exact ⟨n, _, rfl, by omega, hlen0, HOK, b5, R5, O5, hC5, B5, G5⟩
  case round =>
    obtain ⟨k, cs, rfl, hk12, hlen, hok, bG, bR, hOg, hCu, hBy, hgr⟩ := hrel
    have zgb := (Array.getElem?_eq_some_iff.1 bG).1
    have zrz := (Array.getElem?_eq_some_iff.1 bR).1
    cases k with
    | zero =>
      have q9 : ∀ i, wr.cell? ⟨gb, i, none⟩ = _ := fun i => cell_of_row wr _ i _ _ (0, 0) bG
      have p9 : ∀ i, wr.cell? ⟨w.heap.size, i, none⟩ = _ := fun i => cell_of_row wr _ i _ _ (0, 0) bR
      have r9 : ∀ i, wr.frozen? ⟨w.heap.size, i, none⟩ = false := fun i => by simp [World.frozen?, bR]
      clear bG bR
      go_wp2_with fail
      refine bodyPost_ret (v := gV W H (some ⟨gm, 0, none⟩) N c3) (by simp [results, Try.results57, go_sem, *]) rfl ?_
      refine ⟨W, H, some ⟨gm, 0, none⟩, c3, cs, hWb, hHb, hok.out, by rw [hlen.out], ?_, gr_new (gr_new (gr_new hgr (Nat.le_refl _) _) (Nat.le_refl _) _) (Nat.le_refl _) _⟩
      exact (((hOg.setCell (by show w.heap.size < _; omega) _).setCell (by show w.heap.size < _; omega) _).setCell (by show w.heap.size < _; omega) _).mono (by omega)
    | succ u =>
      have hu0 : (0 : Int) < ((u + 1 : Nat) : Int) := by omega
      go_wp2_with fail
      refine wp_regionK (fun w' => w'.heap[gb]? = some (.cells #[.int .i64 W, .int .i64 H, .slice (some ⟨gm, 0, none⟩) N c3] 29 (0, 0))) 10 (by kernel_rfl) ?_
      have bd : wr.drew.heap[gb]? = some (.cells #[.int .i64 W, .int .i64 H, .slice (some ⟨gm, 0, none⟩) N c3] 29 (0, 0)) := bG
      refine wpAnyK_free (i := 0) (v := .pointer (some ⟨gb, 2, none⟩)) rfl (by kernel_rfl) (by kernel_rfl) (by kernel_rfl) (fun _ _ _ h => h) (by decide) (Or.inl ⟨by rfl, (by intro w' _; go_simp; try first | rfl | (simp [*, Addr.add_lit]; done))⟩) (fun _ => bd) ?_
      try simp only [Act.put, List.getElem_toArray, List.getElem_cons_zero, List.setIfInBounds_toArray, List.set_cons_zero, List.set_cons_succ]
      refine wpAnyK_take (i := 1) (v := .slice (some ⟨gm, 0, none⟩) N c3) rfl (by kernel_rfl) (by kernel_rfl) (by kernel_rfl) (fun _ _ _ h => h) (by kernel_rfl) (by kernel_rfl) (by decide) (Or.inl ⟨by rfl, (by intro w' hSw; have q : ∀ i, w'.cell? ⟨gb, i, none⟩ = _ := fun i => cell_of_row w' _ i _ _ (0, 0) hSw; go_simp; try first | rfl | simp [q])⟩) (bd) ?_
      try simp only [Act.put, List.getElem_toArray, List.getElem_cons_succ, List.getElem_cons_zero, List.setIfInBounds_toArray, List.set_cons_zero, List.set_cons_succ]
      refine wpAnyK_free (i := 2) (v := .pointer (some ⟨g, 0, none⟩)) rfl (by kernel_rfl) (by kernel_rfl) (by kernel_rfl) (fun _ _ _ h => h) (by decide) (Or.inl ⟨by rfl, (by intro w' _; go_simp; try first | rfl | (simp [*, Addr.add_lit]; done))⟩) (fun _ => bd) ?_
      try simp only [Act.put, List.getElem_toArray, List.getElem_cons_succ, List.getElem_cons_zero, List.setIfInBounds_toArray, List.set_cons_zero, List.set_cons_succ]
      refine wpAnyK_free (i := 3) (v := .pointer (some ⟨gb, 2, none⟩)) rfl (by kernel_rfl) (by kernel_rfl) (by kernel_rfl) (fun _ _ _ h => h) (by decide) (Or.inl ⟨by rfl, (by intro w' _; go_simp; try first | rfl | (simp [*, Addr.add_lit]; done))⟩) (fun _ => bd) ?_
      try simp only [Act.put, List.getElem_toArray, List.getElem_cons_succ, List.getElem_cons_zero, List.setIfInBounds_toArray, List.set_cons_zero, List.set_cons_succ]
      refine wpAnyK_take (i := 4) (v := .slice (some ⟨gm, 0, none⟩) N c3) rfl (by kernel_rfl) (by kernel_rfl) (by kernel_rfl) (fun _ _ _ h => h) (by kernel_rfl) (by kernel_rfl) (by decide) (Or.inl ⟨by rfl, (by intro w' hSw; have q : ∀ i, w'.cell? ⟨gb, i, none⟩ = _ := fun i => cell_of_row w' _ i _ _ (0, 0) hSw; go_simp; try first | rfl | simp [q])⟩) (bd) ?_
      try simp only [Act.put, List.getElem_toArray, List.getElem_cons_succ, List.getElem_cons_zero, List.setIfInBounds_toArray, List.set_cons_zero, List.set_cons_succ]
      refine wpAnyK_free (i := 5) (v := .int .i64 N) rfl (by kernel_rfl) (by kernel_rfl) (by kernel_rfl) (fun _ _ _ h => h) (by decide) (Or.inl ⟨by rfl, (by intro w' _; go_simp; try first | rfl | (simp [*, Addr.add_lit]; done))⟩) (fun _ => bd) ?_
      try simp only [Act.put, List.getElem_toArray, List.getElem_cons_succ, List.getElem_cons_zero, List.setIfInBounds_toArray, List.set_cons_zero, List.set_cons_succ]
      refine wpAnyK_free (i := 7) (v := .pointer (some ⟨g, 0, none⟩)) rfl (by kernel_rfl) (by kernel_rfl) (by kernel_rfl) (fun _ _ _ h => h) (by decide) (Or.inl ⟨by rfl, (by intro w' _; go_simp; try first | rfl | (simp [*, Addr.add_lit]; done))⟩) (fun _ => bd) ?_
      try simp only [Act.put, List.getElem_toArray, List.getElem_cons_succ, List.getElem_cons_zero, List.setIfInBounds_toArray, List.set_cons_zero, List.set_cons_succ]
      refine wpAnyK_ready (rs := [6]) (by kernel_rfl) (by simp) ?_
      refine AllReadyK.cons rfl (fun K hK => ?_) AllReadyK.nil
      go_simp
      refine (l01BelowN_any g A c xs N wr.drew hBy h1 hne hCu (by omega) (by omega)).mono ?_
      rintro e w7 ⟨j, hj, rfl, hC7, hg7⟩
      have hg7' : wr.grownBy w7 (some g) := gr_trans (gr_below (Below.refl _ _).drew) hg7
      have b7 := (hg7'.block _ zgb (by intro e; injection e with e; omega)).trans bG
      have hB7 := by_gr hBy hne hg7'
      refine hK.out _ _ (fun _ => b7) ?_
      clear hK K
      try simp only [Act.put, List.getElem_toArray, List.getElem_cons_succ, List.getElem_cons_zero, List.setIfInBounds_toArray, List.set_cons_zero, List.set_cons_succ]
      refine wpAnyK_ready (rs := [8]) (by kernel_rfl) (by simp) ?_
      refine AllReadyK.cons rfl (fun K hK => ?_) AllReadyK.nil
      go_simp
      refine (l07Cell_any g A c xs w7 hB7 h1 hne hC7).mono ?_
      rintro e w8 ⟨cl, hcl, rfl, hC8, hg8⟩
      have hg8' := gr_trans hg7' hg8
      have b8 := (hg8'.block _ zgb (by intro e; injection e with e; omega)).trans bG
      have hB8 := by_gr hBy hne hg8'
      have o8 : Og w8 w2.heap.size (some ⟨gm, 0, none⟩) c3 cs := hOg.gr hg8' (by omega)
      refine hK.out _ _ (fun _ => b8) ?_
      clear hK K
      try simp only [Act.put, List.getElem_toArray, List.getElem_cons_succ, List.getElem_cons_zero, List.setIfInBounds_toArray, List.set_cons_zero, List.set_cons_succ]
      have hjN : (j : Int) < (N : Int) := by omega
      have hj0 : (0 : Int) ≤ (j : Int) := Int.natCast_nonneg j
      refine wpAnyK_free (i := 9) (v := .pointer (some ⟨gm, j * 6, none⟩)) rfl (by kernel_rfl) (by kernel_rfl) (by kernel_rfl) (fun _ _ _ h => h) (by decide) (Or.inl ⟨by rfl, (by intro w' _; go_simp; try first | rfl | (simp [*, Addr.add_lit]; done))⟩) (fun _ => b8) ?_
      try simp only [Act.put, List.getElem_toArray, List.getElem_cons_succ, List.getElem_cons_zero, List.setIfInBounds_toArray, List.set_cons_zero, List.set_cons_succ]
      have hjl : j < cs.length := by have := hlen.out; omega
      obtain ⟨⟨e0, x0⟩, ⟨e1, x1⟩, ⟨e2, x2⟩, ⟨e3, x3⟩, ⟨e4, x4⟩, ⟨e5, x5⟩, f0, f1, f2, f3, f4, f5⟩ := o8.getB hjl
      refine wpAnyK_ready (rs := [10]) (by kernel_rfl) (by simp) ?_
      refine AllReadyK.cons rfl (fun K hK => ?_) AllReadyK.nil
      go_simp
      obtain ⟨v9, hv9⟩ : ∃ v, v = ((((((w8.setCell ⟨gm, j * 6, none⟩ (.int .i64 cl.1)).setCell ⟨gm, j * 6 + 1, none⟩ (.int .i64 cl.2.1)).setCell ⟨gm, j * 6 + 2, none⟩ (.int .i64 cl.2.2.1)).setCell ⟨gm, j * 6 + 3, none⟩ (.bool cl.2.2.2.1)).setCell ⟨gm, j * 6 + 4, none⟩ (.bool cl.2.2.2.2.1)).setCell ⟨gm, j * 6 + 5, none⟩ (.bool cl.2.2.2.2.2)) := ⟨_, rfl⟩
      rw [← hv9]
      have b9 : v9.heap[gb]? = some (.cells #[.int .i64 W, .int .i64 H, .slice (some ⟨gm, 0, none⟩) N c3] 29 (0, 0)) := by rw [hv9]; exact heap_six b8 (by omega) _ _ _ _ _ _
      have o9 : Og v9 w2.heap.size (some ⟨gm, 0, none⟩) c3 (cs.set j cl) := by rw [hv9]; exact o8.set hjl cl
      have g9 : w8.grownBy v9 (some gm) := by rw [hv9]; exact gr_new6 w8 gm j cl
      refine hK.out _ _ (late (by kernel_rfl)) ?_
      clear hK K hv9 x0 x1 x2 x3 x4 x5 f0 f1 f2 f3 f4 f5
      try simp only [Act.put, List.getElem_toArray, List.getElem_cons_succ, List.getElem_cons_zero, List.setIfInBounds_toArray, List.set_cons_zero, List.set_cons_succ]
      refine wpAnyK_done (by kernel_rfl) ?_ _
      have C9 : Cur v9 g A xs.length c := hC8.keep (g9.block _ hC8.lt (by intro e; injection e with e; omega))
      have hBy9 : By v9 A xs := by_far hB8 hne g9 hgm
      have z9 := (g9.block _ (by have := hg8'.size; omega) (by intro e; injection e with e; omega)).trans ((hg8'.block _ zrz (by intro e; injection e with e; omega)).trans bR)
      have G9 := gr_far (gr_trans hgr hg8') g9 (by omega)
      go_wp2_with fail
      go_roundw
      case rel => exact ⟨u, cs.set j cl, by go_num, by omega, by show _ = _; rw [List.length_set]; exact hlen.out, grid_set1 hok.out hcl, b9, z9, o9, C9, hBy9, G9⟩
      case measure => simp [intOf]
end Go.Proofs.Ytnilgcahggmncaa
