/- The law of grids: scrolling, shifting, copying. -/
import Derived.Test.YtnilgcahggmncaaC5
import Derived.Test.YtnilgcahggmncaaC6
import Derived.Test.YtnilgcahggmncaaKz
import Derived.Test.YtnilgcahggmncaaRo5
import Derived.Test.YtnilgcahggmncaaGs1
import Derived.Test.YtnilgcahggmncaaPa4
import Derived.Test.YtnilgcahggmncaaG13
import Derived.Laws.Rows
import Derived.Laws.Tables
namespace Go.Proofs.Ytnilgcahggmncaa
open Go.RowKit
set_option linter.unusedVariables false
set_option maxRecDepth 100000

theorem wp_store_gO {o : Oper} {a : Act} {w : World} {K : Act → World → Prop} {Q : Exit → Act → World → Prop} (ty : TypeId) (x y : Operand) (ho : o.op = .store ty x y)
    (g : Nat) (cells : Array Value) (hx : a.eval x = .pointer (some ⟨g, 0, none⟩)) (hy : a.eval y = .agg cells)
    (t : TypeId) (old : Array Value) (hg : w.heap[g]? = some (.cells old t (0, 0))) (hi : (Try.prog.info? ty).map (·.size) = some cells.size)
    (hold : old.size = cells.size) (h1 : cells.all (·.oneCell') = true)
    (h : ∀ w', w'.heap[g]? = some (.cells cells t (0, 0)) → w.grownBy w' (some g) → w'.heap.size = w.heap.size → K (a.put o.dst undef) w') : o.wp Try.prog a w K Q :=
  wp_store_row ty x y ho g cells hx hy t old hg hi hold h1 (h _ (setRow_heap w g old cells t (0, 0) hg) ⟨rfl, rfl, rfl, by simp, fun q hq hn => setRow_other w g q cells (by rintro rfl; exact hn rfl)⟩ (by simp))
theorem ro_val {a b : Nat} {cs : List Cl} (n : Int) (h : gridB a b cs = true) : roR a b cs 0 ((b : Int) - 1) n = ((a : Int), (b : Int), roL cs a 0 (b - 1) n) := by
  obtain ⟨⟨a1, _⟩, ⟨b1, _⟩, hl, hall⟩ := grid_nat h
  unfold roR
  rw [if_pos ⟨h, by omega, by omega, by omega⟩, Int.toNat_natCast, show ((b : Int) - 1).toNat = b - 1 by omega]
  rfl
theorem ro_val0 {a b : Nat} {cs : List Cl} (h : gridB a b cs = true) : roR a b cs 0 0 0 = ((a : Int), (b : Int), cs) := by
  obtain ⟨⟨a1, _⟩, ⟨b1, _⟩, hl, hall⟩ := grid_nat h
  unfold roR
  rw [if_pos ⟨h, by omega, by omega, by omega⟩, Int.toNat_natCast]
  show ((a : Int), (b : Int), roL cs a 0 0 0) = _
  rw [roL_zero h]
theorem sh_val {a b y : Nat} {cs : List Cl} (n : Int) (h : gridB a b cs = true) (hy : y < b) : shR a b cs 0 y n = ((a : Int), (b : Int), shL cs (y * a) 0 a n) := by
  obtain ⟨⟨a1, _⟩, ⟨b1, _⟩, hl, hall⟩ := grid_nat h
  unfold shR
  rw [if_pos ⟨h, by omega, by omega⟩, ← Int.natCast_mul, Int.toNat_natCast, Int.toNat_natCast]
  rfl
theorem below_row {w w' : World} {B g : Nat} (h : w.grownBy w' (some g)) (hg : B ≤ g) (hB : B ≤ w.heap.size) : Below B w w' := (Below.refl B w).grown h hB (fun k hk => by injection hk with hk; omega)
theorem Gs.get1 {w : World} {A : Option Addr} {cs : List Cl} (h : Gs w A cs) {k : Nat} (hk : k < cs.length) (x : Cl) (hx : cs.getD k cl0 = x) : ∃ bb oo, A = some ⟨bb, oo, none⟩ ∧ w.cell? ⟨bb, oo + k * 6, none⟩ = some (.int .i64 x.1) ∧ w.cell? ⟨bb, oo + k * 6 + 1, none⟩ = some (.int .i64 x.2.1) ∧ w.cell? ⟨bb, oo + k * 6 + 2, none⟩ = some (.int .i64 x.2.2.1) ∧ w.cell? ⟨bb, oo + k * 6 + 3, none⟩ = some (.bool x.2.2.2.1) ∧ w.cell? ⟨bb, oo + k * 6 + 4, none⟩ = some (.bool x.2.2.2.2.1) ∧ w.cell? ⟨bb, oo + k * 6 + 5, none⟩ = some (.bool x.2.2.2.2.2) := by
  obtain ⟨bb, oo, hA, _, x0, x1, x2, x3, x4, x5⟩ := h.get hk
  have e : cs[k] = x := by rw [← hx, List.getD_eq_getElem?_getD, List.getElem?_eq_getElem hk]; rfl
  rw [e] at x0 x1 x2 x3 x4 x5
  exact ⟨bb, oo, hA, x0, x1, x2, x3, x4, x5⟩
set_option maxHeartbeats 8000000 in
theorem walk_FnGrid (A : Option Addr) (n c : Nat) (w : World) (h : Rd Try.prog w 33 [.slice A n c]) :
    Calls Try.prog 4 #[.slice A n c] w fun e w' => e = .returned (.bool true) ∧ Below w.heap.size w w' := by
  obtain ⟨xs, rfl, ha, hm⟩ := rd_bytes h
  unfold maxLen at hm
  clear h
  by_cases hbig : 1048576 < xs.length
  · have hbig' : (1048576 : Int) < xs.length := by omega
    go_enter Try.func4, Try.ntmps4
    go_wp2_with fail
    go_ret
    exact ⟨rfl, Below.refl _ _⟩
  have h1 : xs.length ≤ 1048576 := by omega
  have hbig' : ¬ (1048576 : Int) < xs.length := by omega
  go_enter Try.func4, Try.ntmps4
  go_wp2_with fail
  refine (makeGrid_any A c xs w ha h1).mono ?_
  rintro e w1 ⟨W, H, A1, c1, cs, hW, hH, hok, rfl, hO1, t1⟩
  obtain ⟨a, rfl⟩ := Int.eq_ofNat_of_zero_le (show 0 ≤ W by omega)
  obtain ⟨b, rfl⟩ := Int.eq_ofNat_of_zero_le (show 0 ≤ H by omega)
  obtain ⟨⟨ha1, _⟩, ⟨hb1, _⟩, hl, _⟩ := grid_nat hok
  have hN28 : cs.length ≤ 28 := by rw [hl]; exact Nat.le_trans (Nat.mul_le_mul (show b ≤ 4 by omega) (show a ≤ 7 by omega)) (by omega)
  have hOK := Lib.hid hok
  have hL := Lib.hid hl
  have hcap := hO1.cap
  clear hok hl
  go_wp2_with fail
  have e2 : Below w1.heap.size w1 (w1.alloc (.cells #[.int .i64 (a : Int), .int .i64 (b : Int), .slice A1 cs.length c1] 29)) := (Below.refl _ _).alloc (Nat.le_refl _) _
  obtain ⟨w2, hw2⟩ : ∃ v, v = w1.alloc (.cells #[.int .i64 (a : Int), .int .i64 (b : Int), .slice A1 cs.length c1] 29) := ⟨_, rfl⟩
  have b2 : w2.heap[w1.heap.size]? = some (.cells #[.int .i64 (a : Int), .int .i64 (b : Int), .slice A1 cs.length c1] 29 (0, 0)) := by rw [hw2]; exact heap_alloc_new _ _
  rw [← hw2] at e2 ⊢
  clear hw2
  obtain ⟨gb, hgb⟩ : ∃ gb, Hid (gb = w1.heap.size) := ⟨_, Lib.hid rfl⟩
  rw [← hgb.out] at b2 ⊢
  have t2 := t1.trans (e2.mono t1.size)
  have O2 := hO1.below e2 (Nat.le_refl _)
  have hgbl : w.heap.size ≤ gb := by rw [hgb.out]; exact t1.size
  refine (makeNum_any A c xs 3 w2 (by_gr ha (by_blk ha) (gr_below t2)) h1 (by omega) (by omega)).mono ?_
  rintro e w3 ⟨n, hn, rfl, e3⟩
  have b3 := (e3.block _ (Array.getElem?_eq_some_iff.1 b2).1).trans b2
  have t3 := t2.trans (e3.mono t2.size)
  have O3 := O2.below e3 (Nat.le_refl _)
  have q3 : ∀ i, w3.cell? ⟨gb, i, none⟩ = _ := fun i => cell_of_row w3 _ i _ _ (0, 0) b3
  go_wp2_with fail
  refine (makeNum_any A c xs b w3 (by_gr ha (by_blk ha) (gr_below t3)) h1 (by omega) (by omega)).mono ?_
  rintro e w4 ⟨y, hy, rfl, e4⟩
  have b4 := (e4.block _ (Array.getElem?_eq_some_iff.1 b3).1).trans b3
  have t4 := t3.trans (e4.mono t3.size)
  have O4 := O3.below e4 (Nat.le_refl _)
  clear b2 b3 q3 e2 e3 e4 O2 O3 hO1 t1 t2 t3
  go_wp2_with fail
  obtain ⟨X, hX⟩ : ∃ X, Hid (X = roL cs a 0 (b - 1) n) := ⟨_, Lib.hid rfl⟩
  obtain ⟨U, hU⟩ : ∃ U, Hid (U = roL X a 0 (b - 1) (-(n : Int))) := ⟨_, Lib.hid rfl⟩
  obtain ⟨V1, hV1⟩ : ∃ V1, Hid (V1 = shL cs (y * a) 0 a (-(n : Int))) := ⟨_, Lib.hid rfl⟩
  obtain ⟨V, hV⟩ : ∃ V, Hid (V = shL V1 (y * a) 0 a n) := ⟨_, Lib.hid rfl⟩
  have hp : y * a + a ≤ cs.length := by
    have := Nat.mul_le_mul_right a (show y + 1 ≤ b by omega)
    rw [Nat.add_mul, Nat.one_mul] at this
    rw [hL.out]
    exact this
  have XL : Hid (X.length = cs.length) := by show _ = _; rw [hX.out]; unfold roL; exact upd_len
  have UL : Hid (U.length = cs.length) := by show _ = _; rw [hU.out]; unfold roL; rw [upd_len]; exact XL.out
  have V1L : Hid (V1.length = cs.length) := by show _ = _; rw [hV1.out]; unfold shL; exact upd_len
  have VL : Hid (V.length = cs.length) := by show _ = _; rw [hV.out]; unfold shL; rw [upd_len]; exact V1L.out
  have XG : Hid (gridB a b X = true) := by show _ = _; rw [hX.out]; exact roL_grid _ hOK.out
  have UG : Hid (gridB a b U = true) := by show _ = _; rw [hU.out]; exact roL_grid _ XG.out
  have V1G : Hid (gridB a b V1 = true) := by show _ = _; rw [hV1.out]; exact shL_grid _ hOK.out hp
  have VG : Hid (gridB a b V = true) := by show _ = _; rw [hV.out]; exact shL_grid _ V1G.out (by rw [V1L.out]; exact hp)
  have HR1 : Hid (∀ w', Gs w' A1 cs → Calls Try.prog 20 #[gV a b A1 cs.length c1, .int .i64 0, .int .i64 ((b : Int) - 1), .int .i64 (n : Int)] w' (GridPost w' a b X)) := fun w' hg => by
    have := gridRoll_impl a b A1 c1 cs 0 ((b : Int) - 1) n w' hg hcap (by omega)
    rw [ro_val _ hOK.out, ← hX.out] at this
    exact this
  have HR2 : Hid (∀ w' A' c', Gs w' A' X → X.length ≤ c' → Calls Try.prog 20 #[gV a b A' X.length c', .int .i64 0, .int .i64 ((b : Int) - 1), .int .i64 (-(n : Int))] w' (GridPost w' a b U)) := fun w' A' c' hg hc => by
    have := gridRoll_impl a b A' c' X 0 ((b : Int) - 1) (-(n : Int)) w' hg hc (by rw [XL.out]; omega)
    rw [ro_val _ XG.out, ← hU.out] at this
    exact this
  have HS1 : Hid (∀ w', Gs w' A1 cs → Calls Try.prog 21 #[gV a b A1 cs.length c1, .int .i64 0, .int .i64 (y : Int), .int .i64 (-(n : Int))] w' (GridPost w' a b V1)) := fun w' hg => by
    have := gridShift_impl a b A1 c1 cs 0 y (-(n : Int)) w' hg hcap (by omega)
    rw [sh_val _ hOK.out hy, ← hV1.out] at this
    exact this
  have HS2 : Hid (∀ w' A' c', Gs w' A' V1 → V1.length ≤ c' → Calls Try.prog 21 #[gV a b A' V1.length c', .int .i64 0, .int .i64 (y : Int), .int .i64 (n : Int)] w' (GridPost w' a b V)) := fun w' A' c' hg hc => by
    have := gridShift_impl a b A' c' V1 0 y n w' hg hc (by rw [V1L.out]; omega)
    rw [sh_val _ V1G.out hy, ← hV.out] at this
    exact this
  have HR0 : Hid (∀ w', Gs w' A1 cs → Calls Try.prog 20 #[gV a b A1 cs.length c1, .int .i64 0, .int .i64 0, .int .i64 0] w' (GridPost w' a b cs)) := fun w' hg => by
    have := gridRoll_impl a b A1 c1 cs 0 0 0 w' hg hcap (by omega)
    rw [ro_val0 hOK.out] at this
    exact this
  have HS0 : Hid (∀ w', Gs w' A1 cs → Calls Try.prog 21 #[gV a b A1 cs.length c1, .int .i64 0, .int .i64 (y : Int), .int .i64 0] w' (GridPost w' a b cs)) := fun w' hg => by
    have := gridShift_impl a b A1 c1 cs 0 y 0 w' hg hcap (by omega)
    rw [sh_val _ hOK.out hy, shL_zero] at this
    exact this
  have HSA : Hid (∀ w' A' c', Gs w' A' cs → Gs w' A1 cs → Calls Try.prog 24 #[gV a b A' cs.length c', gV a b A1 cs.length c1] w' fun e w'' => e = .returned (.bool true) ∧ Below w'.heap.size w' w'') := fun w' A' c' hg hg' => by
    have := sameGrid_impl a b a b A' A1 c' c1 cs cs w' hg hg' (by omega) (by omega)
    rw [show sameB a b a b cs cs = true from decide_eq_true ⟨rfl, rfl, rfl⟩] at this
    exact this
  have ewb : IntKind.i64.wrap ((b : Int) - 1) = (b : Int) - 1 := by rw [IntKind.wrap_i64]; omega
  have ewn : IntKind.i64.wrap (-(n : Int)) = -(n : Int) := by rw [IntKind.wrap_i64]; omega
  have zgb := (Array.getElem?_eq_some_iff.1 b4).1
  have bd : w4.drew.heap[gb]? = some (.cells #[.int .i64 (a : Int), .int .i64 (b : Int), .slice A1 cs.length c1] 29 (0, 0)) := b4
  refine wp_regionK (fun w' => w'.heap[gb]? = some (.cells #[.int .i64 (a : Int), .int .i64 (b : Int), .slice A1 cs.length c1] 29 (0, 0))) 13 (by kernel_rfl) ?_
  refine wpAnyK_take (i := 0) (v := gV (a : Int) (b : Int) A1 cs.length c1) rfl (by kernel_rfl) (by kernel_rfl) (by kernel_rfl) (fun _ _ _ h => h) (by kernel_rfl) (by kernel_rfl) (by decide) (Or.inl ⟨by rfl, (by intro w' hSw; have q : ∀ i, w'.cell? ⟨gb, i, none⟩ = _ := fun i => cell_of_row w' _ i _ _ (0, 0) hSw; go_simp; try first | rfl | simp [q])⟩) (bd) ?_
  try simp only [Act.put, List.getElem_toArray, List.getElem_cons_zero, List.setIfInBounds_toArray, List.set_cons_zero, List.set_cons_succ]
  refine wpAnyK_free (i := 1) (v := .pointer (some ⟨gb, 1, none⟩)) rfl (by kernel_rfl) (by kernel_rfl) (by kernel_rfl) (fun _ _ _ h => h) (by decide) (Or.inl ⟨by rfl, (by intro w' _; go_simp; try first | rfl | (simp [*]; done))⟩) (fun _ => bd) ?_
  try simp only [Act.put, List.getElem_toArray, List.getElem_cons_succ, List.getElem_cons_zero, List.setIfInBounds_toArray, List.set_cons_zero, List.set_cons_succ]
  refine wpAnyK_take (i := 2) (v := .int .i64 (b : Int)) rfl (by kernel_rfl) (by kernel_rfl) (by kernel_rfl) (fun _ _ _ h => h) (by kernel_rfl) (by kernel_rfl) (by decide) (Or.inl ⟨by rfl, (by intro w' hSw; have q : ∀ i, w'.cell? ⟨gb, i, none⟩ = _ := fun i => cell_of_row w' _ i _ _ (0, 0) hSw; go_simp; try first | rfl | simp [q])⟩) (bd) ?_
  try simp only [Act.put, List.getElem_toArray, List.getElem_cons_succ, List.getElem_cons_zero, List.setIfInBounds_toArray, List.set_cons_zero, List.set_cons_succ]
  refine wpAnyK_free (i := 3) (v := .int .i64 ((b : Int) - 1)) rfl (by kernel_rfl) (by kernel_rfl) (by kernel_rfl) (fun _ _ _ h => h) (by decide) (Or.inl ⟨by rfl, (by intro w' _; go_simp; try first | rfl | (simp [*]; done))⟩) (fun _ => bd) ?_
  try simp only [Act.put, List.getElem_toArray, List.getElem_cons_succ, List.getElem_cons_zero, List.setIfInBounds_toArray, List.set_cons_zero, List.set_cons_succ]
  refine wpAnyK_free (i := 4) (v := .int .i64 (n : Int)) rfl (by kernel_rfl) (by kernel_rfl) (by kernel_rfl) (fun _ _ _ h => h) (by decide) (Or.inl ⟨by rfl, (by intro w' _; go_simp; try first | rfl | (simp [*]; done))⟩) (fun _ => bd) ?_
  try simp only [Act.put, List.getElem_toArray, List.getElem_cons_succ, List.getElem_cons_zero, List.setIfInBounds_toArray, List.set_cons_zero, List.set_cons_succ]
  refine wpAnyK_free (i := 6) (v := .pointer (some ⟨gb, 1, none⟩)) rfl (by kernel_rfl) (by kernel_rfl) (by kernel_rfl) (fun _ _ _ h => h) (by decide) (Or.inl ⟨by rfl, (by intro w' _; go_simp; try first | rfl | (simp [*]; done))⟩) (fun _ => bd) ?_
  try simp only [Act.put, List.getElem_toArray, List.getElem_cons_succ, List.getElem_cons_zero, List.setIfInBounds_toArray, List.set_cons_zero, List.set_cons_succ]
  refine wpAnyK_take (i := 7) (v := .int .i64 (b : Int)) rfl (by kernel_rfl) (by kernel_rfl) (by kernel_rfl) (fun _ _ _ h => h) (by kernel_rfl) (by kernel_rfl) (by decide) (Or.inl ⟨by rfl, (by intro w' hSw; have q : ∀ i, w'.cell? ⟨gb, i, none⟩ = _ := fun i => cell_of_row w' _ i _ _ (0, 0) hSw; go_simp; try first | rfl | simp [q])⟩) (bd) ?_
  try simp only [Act.put, List.getElem_toArray, List.getElem_cons_succ, List.getElem_cons_zero, List.setIfInBounds_toArray, List.set_cons_zero, List.set_cons_succ]
  refine wpAnyK_free (i := 8) (v := .int .i64 ((b : Int) - 1)) rfl (by kernel_rfl) (by kernel_rfl) (by kernel_rfl) (fun _ _ _ h => h) (by decide) (Or.inl ⟨by rfl, (by intro w' _; go_simp; try first | rfl | (simp [*]; done))⟩) (fun _ => bd) ?_
  try simp only [Act.put, List.getElem_toArray, List.getElem_cons_succ, List.getElem_cons_zero, List.setIfInBounds_toArray, List.set_cons_zero, List.set_cons_succ]
  refine wpAnyK_free (i := 9) (v := .int .i64 (n : Int)) rfl (by kernel_rfl) (by kernel_rfl) (by kernel_rfl) (fun _ _ _ h => h) (by decide) (Or.inl ⟨by rfl, (by intro w' _; go_simp; try first | rfl | (simp [*]; done))⟩) (fun _ => bd) ?_
  try simp only [Act.put, List.getElem_toArray, List.getElem_cons_succ, List.getElem_cons_zero, List.setIfInBounds_toArray, List.set_cons_zero, List.set_cons_succ]
  refine wpAnyK_free (i := 10) (v := .int .i64 (-(n : Int))) rfl (by kernel_rfl) (by kernel_rfl) (by kernel_rfl) (fun _ _ _ h => h) (by decide) (Or.inl ⟨by rfl, (by intro w' _; go_simp; try first | rfl | (simp [*]; done))⟩) (fun _ => bd) ?_
  try simp only [Act.put, List.getElem_toArray, List.getElem_cons_succ, List.getElem_cons_zero, List.setIfInBounds_toArray, List.set_cons_zero, List.set_cons_succ]
  refine wpAnyK_ready (rs := [5, 12]) (by kernel_rfl) (by simp) ?_
  refine AllReadyK.cons rfl (fun K hK => ?_) (AllReadyK.cons rfl (fun K hK => ?_) AllReadyK.nil)
  · go_simp
    refine (HR1.out _ (O4.below (Below.drew (Below.refl w4.heap.size w4)) (Nat.le_refl _)).gs).mono ?_
    rintro e w5 ⟨A5, c5, rfl, oX, gX, _, e5⟩
    have E5 : Below w4.heap.size w4 w5 := (Below.drew (Below.refl w4.heap.size w4)).trans (e5.mono (Below.drew (Below.refl w4.heap.size w4)).size)
    have b5 := (E5.block _ zgb).trans b4
    have capX := oX.cap
    refine hK.out _ _ (fun _ => b5) ?_
    clear hK K
    try simp only [Act.put, List.getElem_toArray, List.getElem_cons_succ, List.getElem_cons_zero, List.setIfInBounds_toArray, List.set_cons_zero, List.set_cons_succ]
    refine wpAnyK_ready (rs := [11, 12]) (by kernel_rfl) (by simp) ?_
    refine AllReadyK.cons rfl (fun K hK => ?_) (AllReadyK.cons rfl (fun K hK => ?_) AllReadyK.nil)
    · go_simp
      refine (HR2.out _ _ _ gX capX).mono ?_
      rintro e w6 ⟨A6, c6, rfl, oU, gU, _, e6⟩
      have E6 : Below w4.heap.size w4 w6 := (E5).trans (e6.mono (E5).size)
      have b6 := (E6.block _ zgb).trans b4
      refine hK.out _ _ (fun _ => b6) ?_
      clear hK K
      try simp only [Act.put, List.getElem_toArray, List.getElem_cons_succ, List.getElem_cons_zero, List.setIfInBounds_toArray, List.set_cons_zero, List.set_cons_succ]
      refine wpAnyK_ready (rs := [12]) (by kernel_rfl) (by simp) ?_
      refine AllReadyK.cons rfl (fun K hK => ?_) AllReadyK.nil
      go_simp
      obtain ⟨va, hva⟩ : ∃ v, v = w6.alloc (.cells #[.int .i64 0, .int .i64 0, .slice none 0 0] 29) := ⟨_, rfl⟩
      have bz : va.heap[w6.heap.size]? = some (.cells #[.int .i64 0, .int .i64 0, .slice none 0 0] 29 (0, 0)) := by rw [hva]; exact heap_alloc_new _ _
      have ea : Below w6.heap.size w6 va := by rw [hva]; exact (Below.refl _ _).alloc (Nat.le_refl _) _
      rw [← hva]
      clear hva
      have Ea : Below w4.heap.size w4 va := (E6).trans (ea.mono (E6).size)
      have ba := (Ea.block _ zgb).trans b4
      obtain ⟨gu, hgu⟩ : ∃ gu, Hid (gu = w6.heap.size) := ⟨_, Lib.hid rfl⟩
      have hguE : w4.heap.size ≤ gu := by rw [hgu.out]; exact (E6).size
      rw [← hgu.out] at bz
      rw [show w6.heap.size = gu from hgu.out.symm]
      have gUa := gU.below ea
      refine hK.out _ _ (fun _ => ba) ?_
      clear hK K
      try simp only [Act.put, List.getElem_toArray, List.getElem_cons_succ, List.getElem_cons_zero, List.setIfInBounds_toArray, List.set_cons_zero, List.set_cons_succ]
      refine wpAnyK_ready (rs := [13]) (by kernel_rfl) (by simp) ?_
      refine AllReadyK.cons rfl (fun K hK => ?_) AllReadyK.nil
      rw [if_pos (by rfl)]
      refine wp_store_gO 29 _ _ rfl gu #[.int .i64 (a : Int), .int .i64 (b : Int), .slice A6 U.length c6] rfl rfl 29 #[.int .i64 0, .int .i64 0, .slice none 0 0] bz (by kernel_rfl) rfl (by simp [Value.oneCell']) ?_
      intro w7 U7 gr7 s7
      refine hK.out _ _ (late (by kernel_rfl)) ?_
      clear hK K
      try simp only [Act.put, List.getElem_toArray, List.getElem_cons_succ, List.getElem_cons_zero]
      refine wpAnyK_done (by kernel_rfl) ?_ _
      have E7 : Below w4.heap.size w4 w7 := (Ea).grown gr7 (Ea).size (fun k hk => by injection hk with hk; omega)
      have b7 := (E7.block _ zgb).trans b4
      have t7 := t4.trans (E7.mono t4.size)
      have G7 : Gs w7 A1 cs := (O4.below E7 (Nat.le_refl _)).gs
      have GU7 : Gs w7 A6 U := gU.below (ea.grown gr7 ea.size (fun k hk => by injection hk with hk; have := hgu.out; omega))
      have q7 : ∀ i, w7.cell? ⟨gb, i, none⟩ = _ := fun i => cell_of_row w7 _ i _ _ (0, 0) b7
      clear bd b4 O4 t4 s7 gr7 zgb E7
      go_wp2_with fail
      refine (HS1.out _ G7).mono ?_
      rintro e w8 ⟨A8, c8, rfl, oV1, gV1, _, e8⟩
      have capV := oV1.cap
      go_wp2_with fail
      refine (HS2.out _ _ _ gV1 capV).mono ?_
      rintro e w9 ⟨A9, c9, rfl, oV, gV9, _, e9⟩
      have e9' : Below w7.heap.size w7 w9 := e8.trans (e9.mono e8.size)
      have b9 := (e9'.block _ (Array.getElem?_eq_some_iff.1 b7).1).trans b7
      have U9 := (e9'.block _ (Array.getElem?_eq_some_iff.1 U7).1).trans U7
      have q9 : ∀ i, w9.cell? ⟨gb, i, none⟩ = _ := fun i => cell_of_row w9 _ i _ _ (0, 0) b9
      clear q7
      have zb9 := (Array.getElem?_eq_some_iff.1 b9).1
      obtain ⟨hgn, hgk, _, _⟩ := gn_small hW hH
      obtain ⟨BL, hBL⟩ : ∃ BL, Hid (BL = List.replicate ((a : Int) * (b : Int)).toNat bk) := ⟨_, Lib.hid rfl⟩
      rw [← hBL.out] at hgn hgk
      have BG := Lib.hid hgk
      have HN : Hid (∀ w', Calls Try.prog 22 #[.int .i64 (a : Int), .int .i64 (b : Int)] w' (GnPost w' (((a : Int), (b : Int), BL), true))) := fun w' => by
        have := gridNew_impl a b w'
        rwa [hgn] at this
      clear hgn hgk
      have HPA : Hid (∀ w' A11 c11, Gs w' A11 BL → BL.length ≤ c11 → Gs w' A1 cs → Calls Try.prog 25 #[gV a b A11 BL.length c11, gV a b A1 cs.length c1, .int .i64 0, .int .i64 0] w' (GridPost w' a b cs)) := fun w' A11 c11 hg hc hg' => by
        have := gridPaste_impl a b A11 c11 BL a b A1 c1 cs 0 0 w' hg hg' hc hcap (by rw [hBL.out, List.length_replicate]; have := (gn_small hW hH).2.2.2; omega) (by omega)
        rw [pa_same hOK.out BG.out] at this
        exact this
      go_wp2_with fail
      obtain ⟨w10, hw10⟩ : ∃ v, v = w9.alloc (.cells #[.int .i64 (a : Int), .int .i64 (b : Int), .slice A9 V.length c9] 29) := ⟨_, rfl⟩
      have e10 : Below w9.heap.size w9 w10 := by rw [hw10]; exact (Below.refl _ _).alloc (Nat.le_refl _) _
      have V10 : w10.heap[w9.heap.size]? = some (.cells #[.int .i64 (a : Int), .int .i64 (b : Int), .slice A9 V.length c9] 29 (0, 0)) := by rw [hw10]; exact heap_alloc_new _ _
      have b10 := (e10.block _ zb9).trans b9
      have U10 := (e10.block _ (Array.getElem?_eq_some_iff.1 U9).1).trans U9
      obtain ⟨gl, hgl⟩ : ∃ gl, Hid (gl = w9.heap.size) := ⟨_, Lib.hid rfl⟩
      rw [← hw10]
      clear hw10
      rw [← hgl.out] at V10 ⊢
      have E10 : Below w7.heap.size w7 w10 := e9'.trans (e10.mono e9'.size)
      have GV10 := gV9.below e10
      refine (HN.out w10).mono ?_
      rintro e w11 ⟨A11, c11, rfl, oB, e11⟩
      simp only at oB ⊢
      have b11 := (e11.block _ (Array.getElem?_eq_some_iff.1 b10).1).trans b10
      have U11 := (e11.block _ (Array.getElem?_eq_some_iff.1 U10).1).trans U10
      have V11 := (e11.block _ (Array.getElem?_eq_some_iff.1 V10).1).trans V10
      clear q9 zb9
      go_wp2_with fail
      obtain ⟨w12, hw12⟩ : ∃ v, v = w11.alloc (.cells #[.int .i64 (a : Int), .int .i64 (b : Int), .slice A11 BL.length c11] 29) := ⟨_, rfl⟩
      have e12 : Below w11.heap.size w11 w12 := by rw [hw12]; exact (Below.refl _ _).alloc (Nat.le_refl _) _
      have K12 : w12.heap[w11.heap.size]? = some (.cells #[.int .i64 (a : Int), .int .i64 (b : Int), .slice A11 BL.length c11] 29 (0, 0)) := by rw [hw12]; exact heap_alloc_new _ _
      have b12 := (e12.block _ (Array.getElem?_eq_some_iff.1 b11).1).trans b11
      have U12 := (e12.block _ (Array.getElem?_eq_some_iff.1 U11).1).trans U11
      have V12 := (e12.block _ (Array.getElem?_eq_some_iff.1 V11).1).trans V11
      obtain ⟨gk, hgk⟩ : ∃ gk, Hid (gk = w11.heap.size) := ⟨_, Lib.hid rfl⟩
      rw [← hw12]
      clear hw12
      rw [← hgk.out] at K12 ⊢
      have E12 : Below w10.heap.size w10 w12 := e11.trans (e12.mono e11.size)
      have E712 : Below w7.heap.size w7 w12 := E10.trans (E12.mono E10.size)
      have t12 := t7.trans (E712.mono t7.size)
      have G12 := G7.below E712
      have GU12 := GU7.below E712
      have GV12 := GV10.below E12
      have GB12 := oB.gs.below e12
      have capB := oB.cap
      clear b7 b9 b10 b11 U7 U9 U10 U11 V10 V11 e8 e9 e9' e10 e11 e12 E10 E12 E712 oV1 gV1 oV gV9 oB t7 G7 GU7 GV10
      refine wp_region_held_drew (S := fun w' => w'.heap[gb]? = some (.cells #[.int .i64 (a : Int), .int .i64 (b : Int), .slice A1 cs.length c1] 29 (0, 0)) ∧ w'.heap[gu]? = some (.cells #[.int .i64 (a : Int), .int .i64 (b : Int), .slice A6 U.length c6] 29 (0, 0)) ∧ w'.heap[gl]? = some (.cells #[.int .i64 (a : Int), .int .i64 (b : Int), .slice A9 V.length c9] 29 (0, 0)) ∧ w'.heap[gk]? = some (.cells #[.int .i64 (a : Int), .int .i64 (b : Int), .slice A11 BL.length c11] 29 (0, 0))) (by kernel_rfl) ⟨b12, U12, V12, K12⟩ (fun hHeld => ?_)
      refine wpAnyH_take (i := 0) (v := .bool true) rfl (by kernel_rfl) (by kernel_rfl) (by kernel_rfl) (fun _ _ _ h => h) (Or.inl ⟨by rfl, (by intro w' hSw; go_simp; try first | rfl | assumption | (simp [*]; done))⟩) (by assumption) ?_
      try simp only [Act.put, List.getElem_toArray, List.getElem_cons_zero, List.setIfInBounds_toArray, List.set_cons_zero, List.set_cons_succ]
      refine wpAnyH_take (i := 1) (v := .bool false) rfl (by kernel_rfl) (by kernel_rfl) (by kernel_rfl) (fun _ _ _ h => h) (Or.inl ⟨by rfl, (by intro w' hSw; go_simp; try first | rfl | assumption | (simp [*]; done))⟩) (by assumption) ?_
      try simp only [Act.put, List.getElem_toArray, List.getElem_cons_succ, List.getElem_cons_zero, List.setIfInBounds_toArray, List.set_cons_zero, List.set_cons_succ]
      refine wpAnyH_take (i := 2) (v := .bool false) rfl (by kernel_rfl) (by kernel_rfl) (by kernel_rfl) (fun _ _ _ h => h) (Or.inl ⟨by rfl, (by intro w' hSw; go_simp; try first | rfl | assumption | (simp [*]; done))⟩) (by assumption) ?_
      try simp only [Act.put, List.getElem_toArray, List.getElem_cons_succ, List.getElem_cons_zero, List.setIfInBounds_toArray, List.set_cons_zero, List.set_cons_succ]
      refine wpAnyH_take (i := 3) (v := gV (a : Int) (b : Int) A6 U.length c6) rfl (by kernel_rfl) (by kernel_rfl) (by kernel_rfl) (fun _ _ _ h => h) (Or.inl ⟨by rfl, (by intro w' hSw; have q : ∀ i, w'.cell? ⟨gu, i, none⟩ = _ := fun i => cell_of_row w' _ i _ _ (0, 0) hSw.2.1; go_simp; try first | rfl | simp [q])⟩) (by assumption) ?_
      try simp only [Act.put, List.getElem_toArray, List.getElem_cons_succ, List.getElem_cons_zero, List.setIfInBounds_toArray, List.set_cons_zero, List.set_cons_succ]
      refine wpAnyH_ready (rs := [4]) (by kernel_rfl) (by simp) ?_
      refine AllReadyH.cons rfl (fun K hK => ?_) AllReadyH.nil
      go_simp
      refine (gridOk_impl a b A6 c6 U _ (GU12.below ((Below.refl w12.heap.size w12).drew)) (by rw [UL.out]; omega)).mono ?_
      rintro e w13 ⟨he, e13⟩
      rw [UG.out] at he
      subst he
      have E13 : Below w12.heap.size w12 w13 := ((Below.refl w12.heap.size w12).drew).trans (e13.mono ((Below.refl w12.heap.size w12).drew).size)
      have b13 := (E13.block _ (Array.getElem?_eq_some_iff.1 b12).1).trans b12
      have U13 := (E13.block _ (Array.getElem?_eq_some_iff.1 U12).1).trans U12
      have V13 := (E13.block _ (Array.getElem?_eq_some_iff.1 V12).1).trans V12
      have K13 := (E13.block _ (Array.getElem?_eq_some_iff.1 K12).1).trans K12
      refine hK.out _ _ ⟨b13, U13, V13, K13⟩ (fun hHeld => ?_)
      clear hK K
      try simp only [Act.put, List.getElem_toArray, List.getElem_cons_succ, List.getElem_cons_zero, List.setIfInBounds_toArray, List.set_cons_zero, List.set_cons_succ]
      refine wpAnyH_take (i := 5) (v := .bool false) rfl (by kernel_rfl) (by kernel_rfl) (by kernel_rfl) (fun _ _ _ h => h) (Or.inl ⟨by rfl, (by intro w' hSw; go_simp; try first | rfl | assumption | (simp [*]; done))⟩) (by assumption) ?_
      try simp only [Act.put, List.getElem_toArray, List.getElem_cons_succ, List.getElem_cons_zero, List.setIfInBounds_toArray, List.set_cons_zero, List.set_cons_succ]
      refine wpAnyH_take (i := 6) (v := .bool false) rfl (by kernel_rfl) (by kernel_rfl) (by kernel_rfl) (fun _ _ _ h => h) (Or.inl ⟨by rfl, (by intro w' hSw; go_simp; try first | rfl | assumption | (simp [*]; done))⟩) (by assumption) ?_
      try simp only [Act.put, List.getElem_toArray, List.getElem_cons_succ, List.getElem_cons_zero, List.setIfInBounds_toArray, List.set_cons_zero, List.set_cons_succ]
      refine wpAnyH_take (i := 7) (v := .bool false) rfl (by kernel_rfl) (by kernel_rfl) (by kernel_rfl) (fun _ _ _ h => h) (Or.inl ⟨by rfl, (by intro w' hSw; go_simp; try first | rfl | assumption | (simp [*]; done))⟩) (by assumption) ?_
      try simp only [Act.put, List.getElem_toArray, List.getElem_cons_succ, List.getElem_cons_zero, List.setIfInBounds_toArray, List.set_cons_zero, List.set_cons_succ]
      refine wpAnyH_take (i := 8) (v := gV (a : Int) (b : Int) A9 V.length c9) rfl (by kernel_rfl) (by kernel_rfl) (by kernel_rfl) (fun _ _ _ h => h) (Or.inl ⟨by rfl, (by intro w' hSw; have q : ∀ i, w'.cell? ⟨gl, i, none⟩ = _ := fun i => cell_of_row w' _ i _ _ (0, 0) hSw.2.2.1; go_simp; try first | rfl | simp [q])⟩) (by assumption) ?_
      try simp only [Act.put, List.getElem_toArray, List.getElem_cons_succ, List.getElem_cons_zero, List.setIfInBounds_toArray, List.set_cons_zero, List.set_cons_succ]
      refine wpAnyH_ready (rs := [9]) (by kernel_rfl) (by simp) ?_
      refine AllReadyH.cons rfl (fun K hK => ?_) AllReadyH.nil
      go_simp
      refine (gridOk_impl a b A9 c9 V _ (GV12.below (E13)) (by rw [VL.out]; omega)).mono ?_
      rintro e w14 ⟨he, e14⟩
      rw [VG.out] at he
      subst he
      have E14 : Below w12.heap.size w12 w14 := (E13).trans (e14.mono (E13).size)
      have b14 := (E14.block _ (Array.getElem?_eq_some_iff.1 b12).1).trans b12
      have U14 := (E14.block _ (Array.getElem?_eq_some_iff.1 U12).1).trans U12
      have V14 := (E14.block _ (Array.getElem?_eq_some_iff.1 V12).1).trans V12
      have K14 := (E14.block _ (Array.getElem?_eq_some_iff.1 K12).1).trans K12
      refine hK.out _ _ ⟨b14, U14, V14, K14⟩ (fun hHeld => ?_)
      clear hK K
      try simp only [Act.put, List.getElem_toArray, List.getElem_cons_succ, List.getElem_cons_zero, List.setIfInBounds_toArray, List.set_cons_zero, List.set_cons_succ]
      refine wpAnyH_take (i := 10) (v := .bool false) rfl (by kernel_rfl) (by kernel_rfl) (by kernel_rfl) (fun _ _ _ h => h) (Or.inl ⟨by rfl, (by intro w' hSw; go_simp; try first | rfl | assumption | (simp [*]; done))⟩) (by assumption) ?_
      try simp only [Act.put, List.getElem_toArray, List.getElem_cons_succ, List.getElem_cons_zero, List.setIfInBounds_toArray, List.set_cons_zero, List.set_cons_succ]
      refine wpAnyH_take (i := 11) (v := .bool false) rfl (by kernel_rfl) (by kernel_rfl) (by kernel_rfl) (fun _ _ _ h => h) (Or.inl ⟨by rfl, (by intro w' hSw; go_simp; try first | rfl | assumption | (simp [*]; done))⟩) (by assumption) ?_
      try simp only [Act.put, List.getElem_toArray, List.getElem_cons_succ, List.getElem_cons_zero, List.setIfInBounds_toArray, List.set_cons_zero, List.set_cons_succ]
      refine wpAnyH_take (i := 12) (v := .bool false) rfl (by kernel_rfl) (by kernel_rfl) (by kernel_rfl) (fun _ _ _ h => h) (Or.inl ⟨by rfl, (by intro w' hSw; go_simp; try first | rfl | assumption | (simp [*]; done))⟩) (by assumption) ?_
      try simp only [Act.put, List.getElem_toArray, List.getElem_cons_succ, List.getElem_cons_zero, List.setIfInBounds_toArray, List.set_cons_zero, List.set_cons_succ]
      refine wpAnyH_take (i := 13) (v := gV (a : Int) (b : Int) A11 BL.length c11) rfl (by kernel_rfl) (by kernel_rfl) (by kernel_rfl) (fun _ _ _ h => h) (Or.inl ⟨by rfl, (by intro w' hSw; have q : ∀ i, w'.cell? ⟨gk, i, none⟩ = _ := fun i => cell_of_row w' _ i _ _ (0, 0) hSw.2.2.2; go_simp; try first | rfl | simp [q])⟩) (by assumption) ?_
      try simp only [Act.put, List.getElem_toArray, List.getElem_cons_succ, List.getElem_cons_zero, List.setIfInBounds_toArray, List.set_cons_zero, List.set_cons_succ]
      refine wpAnyH_take (i := 14) (v := gV (a : Int) (b : Int) A1 cs.length c1) rfl (by kernel_rfl) (by kernel_rfl) (by kernel_rfl) (fun _ _ _ h => h) (Or.inl ⟨by rfl, (by intro w' hSw; have q : ∀ i, w'.cell? ⟨gb, i, none⟩ = _ := fun i => cell_of_row w' _ i _ _ (0, 0) hSw.1; go_simp; try first | rfl | simp [q])⟩) (by assumption) ?_
      try simp only [Act.put, List.getElem_toArray, List.getElem_cons_succ, List.getElem_cons_zero, List.setIfInBounds_toArray, List.set_cons_zero, List.set_cons_succ]
      refine wpAnyH_take (i := 16) (v := gV (a : Int) (b : Int) A1 cs.length c1) rfl (by kernel_rfl) (by kernel_rfl) (by kernel_rfl) (fun _ _ _ h => h) (Or.inl ⟨by rfl, (by intro w' hSw; have q : ∀ i, w'.cell? ⟨gb, i, none⟩ = _ := fun i => cell_of_row w' _ i _ _ (0, 0) hSw.1; go_simp; try first | rfl | simp [q])⟩) (by assumption) ?_
      try simp only [Act.put, List.getElem_toArray, List.getElem_cons_succ, List.getElem_cons_zero, List.setIfInBounds_toArray, List.set_cons_zero, List.set_cons_succ]
      refine wpAnyH_ready (rs := [15]) (by kernel_rfl) (by simp) ?_
      refine AllReadyH.cons rfl (fun K hK => ?_) AllReadyH.nil
      go_simp
      refine (HPA.out _ A11 c11 (GB12.below (E14)) capB (G12.below (E14))).mono ?_
      rintro e w15 ⟨AP, cP, rfl, oP, gP, _, e15⟩
      have E15 : Below w12.heap.size w12 w15 := (E14).trans (e15.mono (E14).size)
      have b15 := (E15.block _ (Array.getElem?_eq_some_iff.1 b12).1).trans b12
      have U15 := (E15.block _ (Array.getElem?_eq_some_iff.1 U12).1).trans U12
      have V15 := (E15.block _ (Array.getElem?_eq_some_iff.1 V12).1).trans V12
      have K15 := (E15.block _ (Array.getElem?_eq_some_iff.1 K12).1).trans K12
      refine hK.out _ _ ⟨b15, U15, V15, K15⟩ (fun hHeld => ?_)
      clear hK K
      try simp only [Act.put, List.getElem_toArray, List.getElem_cons_succ, List.getElem_cons_zero, List.setIfInBounds_toArray, List.set_cons_zero, List.set_cons_succ]
      refine wpAnyH_ready (rs := [17]) (by kernel_rfl) (by simp) ?_
      refine AllReadyH.cons rfl (fun K hK => ?_) AllReadyH.nil
      go_simp
      refine (HSA.out _ AP cP gP (G12.below (E15))).mono ?_
      rintro e w16 ⟨rfl, e16⟩
      have E16 : Below w12.heap.size w12 w16 := (E15).trans (e16.mono (E15).size)
      have b16 := (E16.block _ (Array.getElem?_eq_some_iff.1 b12).1).trans b12
      have U16 := (E16.block _ (Array.getElem?_eq_some_iff.1 U12).1).trans U12
      have V16 := (E16.block _ (Array.getElem?_eq_some_iff.1 V12).1).trans V12
      have K16 := (E16.block _ (Array.getElem?_eq_some_iff.1 K12).1).trans K12
      refine hK.out _ _ ⟨b16, U16, V16, K16⟩ (fun hHeld => ?_)
      clear hK K
      try simp only [Act.put, List.getElem_toArray, List.getElem_cons_succ, List.getElem_cons_zero, List.setIfInBounds_toArray, List.set_cons_zero, List.set_cons_succ]
      refine wpAnyH_take (i := 18) (v := .bool false) rfl (by kernel_rfl) (by kernel_rfl) (by kernel_rfl) (fun _ _ _ h => h) (Or.inl ⟨by rfl, (by intro w' hSw; go_simp; try first | rfl | assumption | (simp [*]; done))⟩) (by assumption) ?_
      try simp only [Act.put, List.getElem_toArray, List.getElem_cons_succ, List.getElem_cons_zero, List.setIfInBounds_toArray, List.set_cons_zero, List.set_cons_succ]
      refine wpAnyH_take (i := 19) (v := .bool false) rfl (by kernel_rfl) (by kernel_rfl) (by kernel_rfl) (fun _ _ _ h => h) (Or.inl ⟨by rfl, (by intro w' hSw; go_simp; try first | rfl | assumption | (simp [*]; done))⟩) (by assumption) ?_
      try simp only [Act.put, List.getElem_toArray, List.getElem_cons_succ, List.getElem_cons_zero, List.setIfInBounds_toArray, List.set_cons_zero, List.set_cons_succ]
      refine wpAnyH_take (i := 20) (v := .bool false) rfl (by kernel_rfl) (by kernel_rfl) (by kernel_rfl) (fun _ _ _ h => h) (Or.inl ⟨by rfl, (by intro w' hSw; go_simp; try first | rfl | assumption | (simp [*]; done))⟩) (by assumption) ?_
      try simp only [Act.put, List.getElem_toArray, List.getElem_cons_succ, List.getElem_cons_zero, List.setIfInBounds_toArray, List.set_cons_zero, List.set_cons_succ]
      refine wpAnyH_take (i := 21) (v := gV (a : Int) (b : Int) A1 cs.length c1) rfl (by kernel_rfl) (by kernel_rfl) (by kernel_rfl) (fun _ _ _ h => h) (Or.inl ⟨by rfl, (by intro w' hSw; have q : ∀ i, w'.cell? ⟨gb, i, none⟩ = _ := fun i => cell_of_row w' _ i _ _ (0, 0) hSw.1; go_simp; try first | rfl | simp [q])⟩) (by assumption) ?_
      try simp only [Act.put, List.getElem_toArray, List.getElem_cons_succ, List.getElem_cons_zero, List.setIfInBounds_toArray, List.set_cons_zero, List.set_cons_succ]
      refine wpAnyH_take (i := 23) (v := gV (a : Int) (b : Int) A1 cs.length c1) rfl (by kernel_rfl) (by kernel_rfl) (by kernel_rfl) (fun _ _ _ h => h) (Or.inl ⟨by rfl, (by intro w' hSw; have q : ∀ i, w'.cell? ⟨gb, i, none⟩ = _ := fun i => cell_of_row w' _ i _ _ (0, 0) hSw.1; go_simp; try first | rfl | simp [q])⟩) (by assumption) ?_
      try simp only [Act.put, List.getElem_toArray, List.getElem_cons_succ, List.getElem_cons_zero, List.setIfInBounds_toArray, List.set_cons_zero, List.set_cons_succ]
      refine wpAnyH_ready (rs := [22]) (by kernel_rfl) (by simp) ?_
      refine AllReadyH.cons rfl (fun K hK => ?_) AllReadyH.nil
      go_simp
      refine (HR0.out _ (G12.below (E16))).mono ?_
      rintro e w17 ⟨AQ, cQ, rfl, oQ, gQ, _, e17⟩
      have E17 : Below w12.heap.size w12 w17 := (E16).trans (e17.mono (E16).size)
      have b17 := (E17.block _ (Array.getElem?_eq_some_iff.1 b12).1).trans b12
      have U17 := (E17.block _ (Array.getElem?_eq_some_iff.1 U12).1).trans U12
      have V17 := (E17.block _ (Array.getElem?_eq_some_iff.1 V12).1).trans V12
      have K17 := (E17.block _ (Array.getElem?_eq_some_iff.1 K12).1).trans K12
      refine hK.out _ _ ⟨b17, U17, V17, K17⟩ (fun hHeld => ?_)
      clear hK K
      try simp only [Act.put, List.getElem_toArray, List.getElem_cons_succ, List.getElem_cons_zero, List.setIfInBounds_toArray, List.set_cons_zero, List.set_cons_succ]
      refine wpAnyH_ready (rs := [24]) (by kernel_rfl) (by simp) ?_
      refine AllReadyH.cons rfl (fun K hK => ?_) AllReadyH.nil
      go_simp
      refine (HSA.out _ AQ cQ gQ (G12.below (E17))).mono ?_
      rintro e w18 ⟨rfl, e18⟩
      have E18 : Below w12.heap.size w12 w18 := (E17).trans (e18.mono (E17).size)
      have b18 := (E18.block _ (Array.getElem?_eq_some_iff.1 b12).1).trans b12
      have U18 := (E18.block _ (Array.getElem?_eq_some_iff.1 U12).1).trans U12
      have V18 := (E18.block _ (Array.getElem?_eq_some_iff.1 V12).1).trans V12
      have K18 := (E18.block _ (Array.getElem?_eq_some_iff.1 K12).1).trans K12
      refine hK.out _ _ ⟨b18, U18, V18, K18⟩ (fun hHeld => ?_)
      clear hK K
      try simp only [Act.put, List.getElem_toArray, List.getElem_cons_succ, List.getElem_cons_zero, List.setIfInBounds_toArray, List.set_cons_zero, List.set_cons_succ]
      refine wpAnyH_take (i := 25) (v := .bool false) rfl (by kernel_rfl) (by kernel_rfl) (by kernel_rfl) (fun _ _ _ h => h) (Or.inl ⟨by rfl, (by intro w' hSw; go_simp; try first | rfl | assumption | (simp [*]; done))⟩) (by assumption) ?_
      try simp only [Act.put, List.getElem_toArray, List.getElem_cons_succ, List.getElem_cons_zero, List.setIfInBounds_toArray, List.set_cons_zero, List.set_cons_succ]
      refine wpAnyH_take (i := 26) (v := .bool false) rfl (by kernel_rfl) (by kernel_rfl) (by kernel_rfl) (fun _ _ _ h => h) (Or.inl ⟨by rfl, (by intro w' hSw; go_simp; try first | rfl | assumption | (simp [*]; done))⟩) (by assumption) ?_
      try simp only [Act.put, List.getElem_toArray, List.getElem_cons_succ, List.getElem_cons_zero, List.setIfInBounds_toArray, List.set_cons_zero, List.set_cons_succ]
      refine wpAnyH_take (i := 27) (v := .bool false) rfl (by kernel_rfl) (by kernel_rfl) (by kernel_rfl) (fun _ _ _ h => h) (Or.inl ⟨by rfl, (by intro w' hSw; go_simp; try first | rfl | assumption | (simp [*]; done))⟩) (by assumption) ?_
      try simp only [Act.put, List.getElem_toArray, List.getElem_cons_succ, List.getElem_cons_zero, List.setIfInBounds_toArray, List.set_cons_zero, List.set_cons_succ]
      refine wpAnyH_take (i := 28) (v := gV (a : Int) (b : Int) A1 cs.length c1) rfl (by kernel_rfl) (by kernel_rfl) (by kernel_rfl) (fun _ _ _ h => h) (Or.inl ⟨by rfl, (by intro w' hSw; have q : ∀ i, w'.cell? ⟨gb, i, none⟩ = _ := fun i => cell_of_row w' _ i _ _ (0, 0) hSw.1; go_simp; try first | rfl | simp [q])⟩) (by assumption) ?_
      try simp only [Act.put, List.getElem_toArray, List.getElem_cons_succ, List.getElem_cons_zero, List.setIfInBounds_toArray, List.set_cons_zero, List.set_cons_succ]
      refine wpAnyH_take (i := 29) (v := .int .i64 (y : Int)) rfl (by kernel_rfl) (by kernel_rfl) (by kernel_rfl) (fun _ _ _ h => h) (Or.inl ⟨by rfl, (by intro w' hSw; go_simp; try first | rfl | assumption | (simp [*]; done))⟩) (by assumption) ?_
      try simp only [Act.put, List.getElem_toArray, List.getElem_cons_succ, List.getElem_cons_zero, List.setIfInBounds_toArray, List.set_cons_zero, List.set_cons_succ]
      refine wpAnyH_take (i := 31) (v := gV (a : Int) (b : Int) A1 cs.length c1) rfl (by kernel_rfl) (by kernel_rfl) (by kernel_rfl) (fun _ _ _ h => h) (Or.inl ⟨by rfl, (by intro w' hSw; have q : ∀ i, w'.cell? ⟨gb, i, none⟩ = _ := fun i => cell_of_row w' _ i _ _ (0, 0) hSw.1; go_simp; try first | rfl | simp [q])⟩) (by assumption) ?_
      try simp only [Act.put, List.getElem_toArray, List.getElem_cons_succ, List.getElem_cons_zero, List.setIfInBounds_toArray, List.set_cons_zero, List.set_cons_succ]
      refine wpAnyH_ready (rs := [30]) (by kernel_rfl) (by simp) ?_
      refine AllReadyH.cons rfl (fun K hK => ?_) AllReadyH.nil
      go_simp
      refine (HS0.out _ (G12.below (E18))).mono ?_
      rintro e w19 ⟨AR, cR, rfl, oR, gR, _, e19⟩
      have E19 : Below w12.heap.size w12 w19 := (E18).trans (e19.mono (E18).size)
      have b19 := (E19.block _ (Array.getElem?_eq_some_iff.1 b12).1).trans b12
      have U19 := (E19.block _ (Array.getElem?_eq_some_iff.1 U12).1).trans U12
      have V19 := (E19.block _ (Array.getElem?_eq_some_iff.1 V12).1).trans V12
      have K19 := (E19.block _ (Array.getElem?_eq_some_iff.1 K12).1).trans K12
      refine hK.out _ _ ⟨b19, U19, V19, K19⟩ (fun hHeld => ?_)
      clear hK K
      try simp only [Act.put, List.getElem_toArray, List.getElem_cons_succ, List.getElem_cons_zero, List.setIfInBounds_toArray, List.set_cons_zero, List.set_cons_succ]
      refine wpAnyH_ready (rs := [32]) (by kernel_rfl) (by simp) ?_
      refine AllReadyH.cons rfl (fun K hK => ?_) AllReadyH.nil
      go_simp
      refine (HSA.out _ AR cR gR (G12.below (E19))).mono ?_
      rintro e w20 ⟨rfl, e20⟩
      have E20 : Below w12.heap.size w12 w20 := (E19).trans (e20.mono (E19).size)
      have b20 := (E20.block _ (Array.getElem?_eq_some_iff.1 b12).1).trans b12
      have U20 := (E20.block _ (Array.getElem?_eq_some_iff.1 U12).1).trans U12
      have V20 := (E20.block _ (Array.getElem?_eq_some_iff.1 V12).1).trans V12
      have K20 := (E20.block _ (Array.getElem?_eq_some_iff.1 K12).1).trans K12
      refine hK.out _ _ ⟨b20, U20, V20, K20⟩ (fun hHeld => ?_)
      clear hK K
      try simp only [Act.put, List.getElem_toArray, List.getElem_cons_succ, List.getElem_cons_zero, List.setIfInBounds_toArray, List.set_cons_zero, List.set_cons_succ]
      refine wpAnyH_take (i := 33) (v := .bool false) rfl (by kernel_rfl) (by kernel_rfl) (by kernel_rfl) (fun _ _ _ h => h) (Or.inl ⟨by rfl, (by intro w' hSw; go_simp; try first | rfl | assumption | (simp [*]; done))⟩) (by assumption) ?_
      try simp only [Act.put, List.getElem_toArray, List.getElem_cons_succ, List.getElem_cons_zero, List.setIfInBounds_toArray, List.set_cons_zero, List.set_cons_succ]
      refine wpAnyH_take (i := 34) (v := .bool false) rfl (by kernel_rfl) (by kernel_rfl) (by kernel_rfl) (fun _ _ _ h => h) (Or.inl ⟨by rfl, (by intro w' hSw; go_simp; try first | rfl | assumption | (simp [*]; done))⟩) (by assumption) ?_
      try simp only [Act.put, List.getElem_toArray, List.getElem_cons_succ, List.getElem_cons_zero, List.setIfInBounds_toArray, List.set_cons_zero, List.set_cons_succ]
      refine wpAnyH_done (by kernel_rfl) ?_ _
      clear hHeld
      have t20 := t12.trans (E20.mono t12.size)
      have G20 := G12.below E20
      have GU20 := GU12.below E20
      have GV20 := GV12.below E20
      clear e13 E13 e14 E14 e15 E15 e16 E16 e17 E17 e18 E18 e19 E19 b12 U12 V12 K12 b13 U13 V13 K13 b14 U14 V14 K14 b15 U15 V15 K15 b16 U16 V16 K16 b17 U17 V17 K17 b18 U18 V18 K18 b19 U19 V19 K19 oP gP oQ gQ oR gR G12 GU12 GV12 GB12 t12
      have q20 : ∀ i, w20.cell? ⟨gb, i, none⟩ = _ := fun i => cell_of_row w20 _ i _ _ (0, 0) b20
      go_wp2_with fail
      clear q20
      go_loopw [90] (fun iv wr => ∃ k : Nat, k ≤ cs.length ∧ iv = .int .i64 k ∧ Below w20.heap.size w20 wr) (fun iv _ => cs.length - (intOf iv).toNat)
      case atStart => exact ⟨0, Nat.zero_le _, rfl, Below.refl _ _⟩
      case round =>
        obtain ⟨k, hk, rfl, hb9⟩ := hrel
        by_cases hlt : k < cs.length
        · have hlt' : (k : Int) < cs.length := by omega
          have bR := (hb9.block _ (Array.getElem?_eq_some_iff.1 b20).1).trans b20
          have UR := (hb9.block _ (Array.getElem?_eq_some_iff.1 U20).1).trans U20
          have VR := (hb9.block _ (Array.getElem?_eq_some_iff.1 V20).1).trans V20
          have lb := (Array.getElem?_eq_some_iff.1 bR).1
          have lu := (Array.getElem?_eq_some_iff.1 UR).1
          have lv := (Array.getElem?_eq_some_iff.1 VR).1
          have qb : ∀ i, wr.cell? ⟨gb, i, none⟩ = _ := fun i => cell_of_row wr _ i _ _ (0, 0) bR
          have qu : ∀ i, wr.cell? ⟨gu, i, none⟩ = _ := fun i => cell_of_row wr _ i _ _ (0, 0) UR
          have qv : ∀ i, wr.cell? ⟨gl, i, none⟩ = _ := fun i => cell_of_row wr _ i _ _ (0, 0) VR
          obtain ⟨⟨x0, x1, x2, x3, x4, x5⟩, hx⟩ : ∃ x, Hid (cs.getD k cl0 = x) := ⟨_, Lib.hid rfl⟩
          have hUk := roll_back (n := n) (i := k) hOK.out (by rw [← hL.out]; exact hlt)
          rw [← hX.out, ← hU.out, hx.out] at hUk
          have hVk := shift_back (n := n) (i := k) hp hlt
          rw [← hV1.out, ← hV.out, hx.out] at hVk
          have HUk := Lib.hid hUk
          have HVk := Lib.hid hVk
          clear hUk hVk
          obtain ⟨hrow, hrr⟩ := row_of (i := k) (show 0 < a by omega)
          obtain ⟨qq, hqq⟩ : ∃ q, q = k / a := ⟨_, rfl⟩
          obtain ⟨rr, hrr2⟩ : ∃ r, r = k % a := ⟨_, rfl⟩
          have eq1 : Int.tdiv (k : Int) (a : Int) = (qq : Int) := by rw [hqq]; exact (Int.ofNat_tdiv _ _).symm
          have eq2 : (k : Int) / (a : Int) = (qq : Int) := by rw [hqq]; simp
          have er1 : Int.tmod (k : Int) (a : Int) = (rr : Int) := by rw [hrr2]; exact (Int.ofNat_tmod _ _).symm
          have er2 : (k : Int) % (a : Int) = (rr : Int) := by rw [hrr2]; simp
          have hin : (y * a ≤ k ∧ k < y * a + a) ↔ qq = y := by
            rw [hqq]
            constructor
            · intro h
              have hrw := (at_div (a := a) (q := y) (r := k - y * a) (by omega)).1
              rwa [show y * a + (k - y * a) = k by omega] at hrw
            · intro h
              rw [h] at hrow
              omega
          have hkp : qq = y → k - y * a = rr := fun h => by rw [hqq] at h; rw [h, ← hrr2] at hrow; omega
          rw [← hqq] at HUk
          have haz : ¬ (a : Int) = 0 := by omega
          have hqn : (qq : Int) ≤ 28 := (by have h5 : qq ≤ k := (by rw [hqq]; exact Nat.div_le_self _ _); omega)
          clear hrow hqq hrr2 hrr
          have GRx := (G20.below hb9).get1 hlt _ hx.out
          by_cases h1 : qq < n
          · by_cases h2 : qq = y
            · by_cases h3 : rr < n
              · have hUc : U.getD k cl0 = (32, 0, 0, false, false, false) := by rw [HUk.out]; exact if_pos h1
                have hVc : V.getD k cl0 = (32, 0, 0, false, false, false) := by rw [HVk.out]; exact if_pos ⟨hin.2 h2, by rw [hkp h2]; exact h3⟩
                have GRu := (GU20.below hb9).get1 (by rw [UL.out]; exact hlt) _ hUc
                have GRv := (GV20.below hb9).get1 (by rw [VL.out]; exact hlt) _ hVc
                obtain ⟨b1_, o1_, rfl, g0, g1, g2, g3, g4, g5⟩ := GRx
                obtain ⟨b2_, o2_, rfl, u0, u1, u2, u3, u4, u5⟩ := GRu
                obtain ⟨b3_, o3_, rfl, v0, v1, v2, v3, v4, v5⟩ := GRv
                dsimp only at g0 g1 g2 g3 g4 g5 u0 u1 u2 u3 u4 u5 v0 v1 v2 v3 v4 v5
                have l1 := World.block_lt_of_cell? wr _ g0
                have l2 := World.block_lt_of_cell? wr _ u0
                have l3 := World.block_lt_of_cell? wr _ v0
                dsimp only at l1 l2 l3
                have hUL : (k : Int) < (U.length : Int) := by rw [UL.out]; exact hlt'
                have hVL : (k : Int) < (V.length : Int) := by rw [VL.out]; exact hlt'
                have c1_ : (qq : Int) < (n : Int) := by omega
                have c2_ : ((qq : Int) == (y : Int)) = true := by simp; omega
                have c3_ : (rr : Int) < (n : Int) := by omega
                clear hUc hVc hin hkp
                go_wp2_with fail
                go_region
                go_wp2_with fail
                go_roundw
                case rel => exact ⟨k + 1, by omega, by go_num, (by first | exact hb9.trans ((((Below.refl _ _).alloc hb9.size _).alloc (by simp; have := hb9.size; omega) _).drew) | exact hb9.trans (((Below.refl _ _).alloc hb9.size _).alloc (by simp; have := hb9.size; omega) _))⟩
                case measure => simp [intOf]; omega
              · have hUc : U.getD k cl0 = (32, 0, 0, false, false, false) := by rw [HUk.out]; exact if_pos h1
                have hVc : V.getD k cl0 = (x0, x1, x2, x3, x4, x5) := by rw [HVk.out]; exact if_neg (fun h => h3 (by rw [← hkp h2]; exact h.2))
                have GRu := (GU20.below hb9).get1 (by rw [UL.out]; exact hlt) _ hUc
                have GRv := (GV20.below hb9).get1 (by rw [VL.out]; exact hlt) _ hVc
                obtain ⟨b1_, o1_, rfl, g0, g1, g2, g3, g4, g5⟩ := GRx
                obtain ⟨b2_, o2_, rfl, u0, u1, u2, u3, u4, u5⟩ := GRu
                obtain ⟨b3_, o3_, rfl, v0, v1, v2, v3, v4, v5⟩ := GRv
                dsimp only at g0 g1 g2 g3 g4 g5 u0 u1 u2 u3 u4 u5 v0 v1 v2 v3 v4 v5
                have l1 := World.block_lt_of_cell? wr _ g0
                have l2 := World.block_lt_of_cell? wr _ u0
                have l3 := World.block_lt_of_cell? wr _ v0
                dsimp only at l1 l2 l3
                have hUL : (k : Int) < (U.length : Int) := by rw [UL.out]; exact hlt'
                have hVL : (k : Int) < (V.length : Int) := by rw [VL.out]; exact hlt'
                have c1_ : (qq : Int) < (n : Int) := by omega
                have c2_ : ((qq : Int) == (y : Int)) = true := by simp; omega
                have c3_ : ¬ (rr : Int) < (n : Int) := by omega
                clear hUc hVc hin hkp
                go_wp2_with fail
                go_region
                go_wp2_with fail
                go_roundw
                case rel => exact ⟨k + 1, by omega, by go_num, (by first | exact hb9.trans ((((Below.refl _ _).alloc hb9.size _).alloc (by simp; have := hb9.size; omega) _).drew) | exact hb9.trans (((Below.refl _ _).alloc hb9.size _).alloc (by simp; have := hb9.size; omega) _))⟩
                case measure => simp [intOf]; omega
            · have hUc : U.getD k cl0 = (32, 0, 0, false, false, false) := by rw [HUk.out]; exact if_pos h1
              have hVc : V.getD k cl0 = (x0, x1, x2, x3, x4, x5) := by rw [HVk.out]; exact if_neg (fun h => h2 (hin.1 h.1))
              have GRu := (GU20.below hb9).get1 (by rw [UL.out]; exact hlt) _ hUc
              have GRv := (GV20.below hb9).get1 (by rw [VL.out]; exact hlt) _ hVc
              obtain ⟨b1_, o1_, rfl, g0, g1, g2, g3, g4, g5⟩ := GRx
              obtain ⟨b2_, o2_, rfl, u0, u1, u2, u3, u4, u5⟩ := GRu
              obtain ⟨b3_, o3_, rfl, v0, v1, v2, v3, v4, v5⟩ := GRv
              dsimp only at g0 g1 g2 g3 g4 g5 u0 u1 u2 u3 u4 u5 v0 v1 v2 v3 v4 v5
              have l1 := World.block_lt_of_cell? wr _ g0
              have l2 := World.block_lt_of_cell? wr _ u0
              have l3 := World.block_lt_of_cell? wr _ v0
              dsimp only at l1 l2 l3
              have hUL : (k : Int) < (U.length : Int) := by rw [UL.out]; exact hlt'
              have hVL : (k : Int) < (V.length : Int) := by rw [VL.out]; exact hlt'
              have c1_ : (qq : Int) < (n : Int) := by omega
              have c2_ : ((qq : Int) == (y : Int)) = false := by simp; omega
              clear hUc hVc hin hkp
              go_wp2_with fail
              go_region
              go_wp2_with fail
              go_roundw
              case rel => exact ⟨k + 1, by omega, by go_num, (by first | exact hb9.trans ((((Below.refl _ _).alloc hb9.size _).alloc (by simp; have := hb9.size; omega) _).drew) | exact hb9.trans (((Below.refl _ _).alloc hb9.size _).alloc (by simp; have := hb9.size; omega) _))⟩
              case measure => simp [intOf]; omega
          · by_cases h2 : qq = y
            · by_cases h3 : rr < n
              · have hUc : U.getD k cl0 = (x0, x1, x2, x3, x4, x5) := by rw [HUk.out]; exact if_neg h1
                have hVc : V.getD k cl0 = (32, 0, 0, false, false, false) := by rw [HVk.out]; exact if_pos ⟨hin.2 h2, by rw [hkp h2]; exact h3⟩
                have GRu := (GU20.below hb9).get1 (by rw [UL.out]; exact hlt) _ hUc
                have GRv := (GV20.below hb9).get1 (by rw [VL.out]; exact hlt) _ hVc
                obtain ⟨b1_, o1_, rfl, g0, g1, g2, g3, g4, g5⟩ := GRx
                obtain ⟨b2_, o2_, rfl, u0, u1, u2, u3, u4, u5⟩ := GRu
                obtain ⟨b3_, o3_, rfl, v0, v1, v2, v3, v4, v5⟩ := GRv
                dsimp only at g0 g1 g2 g3 g4 g5 u0 u1 u2 u3 u4 u5 v0 v1 v2 v3 v4 v5
                have l1 := World.block_lt_of_cell? wr _ g0
                have l2 := World.block_lt_of_cell? wr _ u0
                have l3 := World.block_lt_of_cell? wr _ v0
                dsimp only at l1 l2 l3
                have hUL : (k : Int) < (U.length : Int) := by rw [UL.out]; exact hlt'
                have hVL : (k : Int) < (V.length : Int) := by rw [VL.out]; exact hlt'
                have c1_ : ¬ (qq : Int) < (n : Int) := by omega
                have c2_ : ((qq : Int) == (y : Int)) = true := by simp; omega
                have c3_ : (rr : Int) < (n : Int) := by omega
                clear hUc hVc hin hkp
                go_wp2_with fail
                go_region
                go_wp2_with fail
                go_roundw
                case rel => exact ⟨k + 1, by omega, by go_num, (by first | exact hb9.trans ((((Below.refl _ _).alloc hb9.size _).alloc (by simp; have := hb9.size; omega) _).drew) | exact hb9.trans (((Below.refl _ _).alloc hb9.size _).alloc (by simp; have := hb9.size; omega) _))⟩
                case measure => simp [intOf]; omega
              · have hUc : U.getD k cl0 = (x0, x1, x2, x3, x4, x5) := by rw [HUk.out]; exact if_neg h1
                have hVc : V.getD k cl0 = (x0, x1, x2, x3, x4, x5) := by rw [HVk.out]; exact if_neg (fun h => h3 (by rw [← hkp h2]; exact h.2))
                have GRu := (GU20.below hb9).get1 (by rw [UL.out]; exact hlt) _ hUc
                have GRv := (GV20.below hb9).get1 (by rw [VL.out]; exact hlt) _ hVc
                obtain ⟨b1_, o1_, rfl, g0, g1, g2, g3, g4, g5⟩ := GRx
                obtain ⟨b2_, o2_, rfl, u0, u1, u2, u3, u4, u5⟩ := GRu
                obtain ⟨b3_, o3_, rfl, v0, v1, v2, v3, v4, v5⟩ := GRv
                dsimp only at g0 g1 g2 g3 g4 g5 u0 u1 u2 u3 u4 u5 v0 v1 v2 v3 v4 v5
                have l1 := World.block_lt_of_cell? wr _ g0
                have l2 := World.block_lt_of_cell? wr _ u0
                have l3 := World.block_lt_of_cell? wr _ v0
                dsimp only at l1 l2 l3
                have hUL : (k : Int) < (U.length : Int) := by rw [UL.out]; exact hlt'
                have hVL : (k : Int) < (V.length : Int) := by rw [VL.out]; exact hlt'
                have c1_ : ¬ (qq : Int) < (n : Int) := by omega
                have c2_ : ((qq : Int) == (y : Int)) = true := by simp; omega
                have c3_ : ¬ (rr : Int) < (n : Int) := by omega
                clear hUc hVc hin hkp
                go_wp2_with fail
                go_region
                go_wp2_with fail
                go_roundw
                case rel => exact ⟨k + 1, by omega, by go_num, (by first | exact hb9.trans ((((Below.refl _ _).alloc hb9.size _).alloc (by simp; have := hb9.size; omega) _).drew) | exact hb9.trans (((Below.refl _ _).alloc hb9.size _).alloc (by simp; have := hb9.size; omega) _))⟩
                case measure => simp [intOf]; omega
            · have hUc : U.getD k cl0 = (x0, x1, x2, x3, x4, x5) := by rw [HUk.out]; exact if_neg h1
              have hVc : V.getD k cl0 = (x0, x1, x2, x3, x4, x5) := by rw [HVk.out]; exact if_neg (fun h => h2 (hin.1 h.1))
              have GRu := (GU20.below hb9).get1 (by rw [UL.out]; exact hlt) _ hUc
              have GRv := (GV20.below hb9).get1 (by rw [VL.out]; exact hlt) _ hVc
              obtain ⟨b1_, o1_, rfl, g0, g1, g2, g3, g4, g5⟩ := GRx
              obtain ⟨b2_, o2_, rfl, u0, u1, u2, u3, u4, u5⟩ := GRu
              obtain ⟨b3_, o3_, rfl, v0, v1, v2, v3, v4, v5⟩ := GRv
              dsimp only at g0 g1 g2 g3 g4 g5 u0 u1 u2 u3 u4 u5 v0 v1 v2 v3 v4 v5
              have l1 := World.block_lt_of_cell? wr _ g0
              have l2 := World.block_lt_of_cell? wr _ u0
              have l3 := World.block_lt_of_cell? wr _ v0
              dsimp only at l1 l2 l3
              have hUL : (k : Int) < (U.length : Int) := by rw [UL.out]; exact hlt'
              have hVL : (k : Int) < (V.length : Int) := by rw [VL.out]; exact hlt'
              have c1_ : ¬ (qq : Int) < (n : Int) := by omega
              have c2_ : ((qq : Int) == (y : Int)) = false := by simp; omega
              clear hUc hVc hin hkp
              go_wp2_with fail
              go_region
              go_wp2_with fail
              go_roundw
              case rel => exact ⟨k + 1, by omega, by go_num, (by first | exact hb9.trans ((((Below.refl _ _).alloc hb9.size _).alloc (by simp; have := hb9.size; omega) _).drew) | exact hb9.trans (((Below.refl _ _).alloc hb9.size _).alloc (by simp; have := hb9.size; omega) _))⟩
              case measure => simp [intOf]; omega
        · have hlt' : ¬ (k : Int) < cs.length := by omega
          go_wp2_with fail
          go_ret
          exact ⟨rfl, t20.trans (hb9.mono t20.size)⟩
    · go_simp
      obtain ⟨va, hva⟩ : ∃ v, v = w5.alloc (.cells #[.int .i64 0, .int .i64 0, .slice none 0 0] 29) := ⟨_, rfl⟩
      have bz : va.heap[w5.heap.size]? = some (.cells #[.int .i64 0, .int .i64 0, .slice none 0 0] 29 (0, 0)) := by rw [hva]; exact heap_alloc_new _ _
      have ea : Below w5.heap.size w5 va := by rw [hva]; exact (Below.refl _ _).alloc (Nat.le_refl _) _
      rw [← hva]
      clear hva
      have Ea : Below w4.heap.size w4 va := (E5).trans (ea.mono (E5).size)
      have ba := (Ea.block _ zgb).trans b4
      obtain ⟨gu, hgu⟩ : ∃ gu, Hid (gu = w5.heap.size) := ⟨_, Lib.hid rfl⟩
      have hguE : w4.heap.size ≤ gu := by rw [hgu.out]; exact (E5).size
      rw [← hgu.out] at bz
      rw [show w5.heap.size = gu from hgu.out.symm]
      have gXa := gX.below ea
      refine hK.out _ _ (fun _ => ba) ?_
      clear hK K
      try simp only [Act.put, List.getElem_toArray, List.getElem_cons_succ, List.getElem_cons_zero, List.setIfInBounds_toArray, List.set_cons_zero, List.set_cons_succ]
      refine wpAnyK_ready (rs := [11]) (by kernel_rfl) (by simp) ?_
      refine AllReadyK.cons rfl (fun K hK => ?_) AllReadyK.nil
      go_simp
      refine (HR2.out _ _ _ gXa capX).mono ?_
      rintro e w6 ⟨A6, c6, rfl, oU, gU, _, e6⟩
      have E6 : Below w4.heap.size w4 w6 := (Ea).trans (e6.mono (Ea).size)
      have b6 := (E6.block _ zgb).trans b4
      have bz6 := (e6.block _ (Array.getElem?_eq_some_iff.1 bz).1).trans bz
      refine hK.out _ _ (fun _ => b6) ?_
      clear hK K
      try simp only [Act.put, List.getElem_toArray, List.getElem_cons_succ, List.getElem_cons_zero, List.setIfInBounds_toArray, List.set_cons_zero, List.set_cons_succ]
      refine wpAnyK_ready (rs := [13]) (by kernel_rfl) (by simp) ?_
      refine AllReadyK.cons rfl (fun K hK => ?_) AllReadyK.nil
      rw [if_pos (by rfl)]
      refine wp_store_gO 29 _ _ rfl gu #[.int .i64 (a : Int), .int .i64 (b : Int), .slice A6 U.length c6] rfl rfl 29 #[.int .i64 0, .int .i64 0, .slice none 0 0] bz6 (by kernel_rfl) rfl (by simp [Value.oneCell']) ?_
      intro w7 U7 gr7 s7
      refine hK.out _ _ (late (by kernel_rfl)) ?_
      clear hK K
      try simp only [Act.put, List.getElem_toArray, List.getElem_cons_succ, List.getElem_cons_zero]
      refine wpAnyK_done (by kernel_rfl) ?_ _
      have E7 : Below w4.heap.size w4 w7 := (E6).grown gr7 (E6).size (fun k hk => by injection hk with hk; omega)
      have b7 := (E7.block _ zgb).trans b4
      have t7 := t4.trans (E7.mono t4.size)
      have G7 : Gs w7 A1 cs := (O4.below E7 (Nat.le_refl _)).gs
      have GU7 : Gs w7 A6 U := (oU.gr gr7 (by have := ea.size; have hz := (Array.getElem?_eq_some_iff.1 bz).1; omega)).gs
      have q7 : ∀ i, w7.cell? ⟨gb, i, none⟩ = _ := fun i => cell_of_row w7 _ i _ _ (0, 0) b7
      clear bd b4 O4 t4 s7 gr7 zgb E7
      go_wp2_with fail
      refine (HS1.out _ G7).mono ?_
      rintro e w8 ⟨A8, c8, rfl, oV1, gV1, _, e8⟩
      have capV := oV1.cap
      go_wp2_with fail
      refine (HS2.out _ _ _ gV1 capV).mono ?_
      rintro e w9 ⟨A9, c9, rfl, oV, gV9, _, e9⟩
      have e9' : Below w7.heap.size w7 w9 := e8.trans (e9.mono e8.size)
      have b9 := (e9'.block _ (Array.getElem?_eq_some_iff.1 b7).1).trans b7
      have U9 := (e9'.block _ (Array.getElem?_eq_some_iff.1 U7).1).trans U7
      have q9 : ∀ i, w9.cell? ⟨gb, i, none⟩ = _ := fun i => cell_of_row w9 _ i _ _ (0, 0) b9
      clear q7
      have zb9 := (Array.getElem?_eq_some_iff.1 b9).1
      obtain ⟨hgn, hgk, _, _⟩ := gn_small hW hH
      obtain ⟨BL, hBL⟩ : ∃ BL, Hid (BL = List.replicate ((a : Int) * (b : Int)).toNat bk) := ⟨_, Lib.hid rfl⟩
      rw [← hBL.out] at hgn hgk
      have BG := Lib.hid hgk
      have HN : Hid (∀ w', Calls Try.prog 22 #[.int .i64 (a : Int), .int .i64 (b : Int)] w' (GnPost w' (((a : Int), (b : Int), BL), true))) := fun w' => by
        have := gridNew_impl a b w'
        rwa [hgn] at this
      clear hgn hgk
      have HPA : Hid (∀ w' A11 c11, Gs w' A11 BL → BL.length ≤ c11 → Gs w' A1 cs → Calls Try.prog 25 #[gV a b A11 BL.length c11, gV a b A1 cs.length c1, .int .i64 0, .int .i64 0] w' (GridPost w' a b cs)) := fun w' A11 c11 hg hc hg' => by
        have := gridPaste_impl a b A11 c11 BL a b A1 c1 cs 0 0 w' hg hg' hc hcap (by rw [hBL.out, List.length_replicate]; have := (gn_small hW hH).2.2.2; omega) (by omega)
        rw [pa_same hOK.out BG.out] at this
        exact this
      go_wp2_with fail
      obtain ⟨w10, hw10⟩ : ∃ v, v = w9.alloc (.cells #[.int .i64 (a : Int), .int .i64 (b : Int), .slice A9 V.length c9] 29) := ⟨_, rfl⟩
      have e10 : Below w9.heap.size w9 w10 := by rw [hw10]; exact (Below.refl _ _).alloc (Nat.le_refl _) _
      have V10 : w10.heap[w9.heap.size]? = some (.cells #[.int .i64 (a : Int), .int .i64 (b : Int), .slice A9 V.length c9] 29 (0, 0)) := by rw [hw10]; exact heap_alloc_new _ _
      have b10 := (e10.block _ zb9).trans b9
      have U10 := (e10.block _ (Array.getElem?_eq_some_iff.1 U9).1).trans U9
      obtain ⟨gl, hgl⟩ : ∃ gl, Hid (gl = w9.heap.size) := ⟨_, Lib.hid rfl⟩
      rw [← hw10]
      clear hw10
      rw [← hgl.out] at V10 ⊢
      have E10 : Below w7.heap.size w7 w10 := e9'.trans (e10.mono e9'.size)
      have GV10 := gV9.below e10
      refine (HN.out w10).mono ?_
      rintro e w11 ⟨A11, c11, rfl, oB, e11⟩
      simp only at oB ⊢
      have b11 := (e11.block _ (Array.getElem?_eq_some_iff.1 b10).1).trans b10
      have U11 := (e11.block _ (Array.getElem?_eq_some_iff.1 U10).1).trans U10
      have V11 := (e11.block _ (Array.getElem?_eq_some_iff.1 V10).1).trans V10
      clear q9 zb9
      go_wp2_with fail
      obtain ⟨w12, hw12⟩ : ∃ v, v = w11.alloc (.cells #[.int .i64 (a : Int), .int .i64 (b : Int), .slice A11 BL.length c11] 29) := ⟨_, rfl⟩
      have e12 : Below w11.heap.size w11 w12 := by rw [hw12]; exact (Below.refl _ _).alloc (Nat.le_refl _) _
      have K12 : w12.heap[w11.heap.size]? = some (.cells #[.int .i64 (a : Int), .int .i64 (b : Int), .slice A11 BL.length c11] 29 (0, 0)) := by rw [hw12]; exact heap_alloc_new _ _
      have b12 := (e12.block _ (Array.getElem?_eq_some_iff.1 b11).1).trans b11
      have U12 := (e12.block _ (Array.getElem?_eq_some_iff.1 U11).1).trans U11
      have V12 := (e12.block _ (Array.getElem?_eq_some_iff.1 V11).1).trans V11
      obtain ⟨gk, hgk⟩ : ∃ gk, Hid (gk = w11.heap.size) := ⟨_, Lib.hid rfl⟩
      rw [← hw12]
      clear hw12
      rw [← hgk.out] at K12 ⊢
      have E12 : Below w10.heap.size w10 w12 := e11.trans (e12.mono e11.size)
      have E712 : Below w7.heap.size w7 w12 := E10.trans (E12.mono E10.size)
      have t12 := t7.trans (E712.mono t7.size)
      have G12 := G7.below E712
      have GU12 := GU7.below E712
      have GV12 := GV10.below E12
      have GB12 := oB.gs.below e12
      have capB := oB.cap
      clear b7 b9 b10 b11 U7 U9 U10 U11 V10 V11 e8 e9 e9' e10 e11 e12 E10 E12 E712 oV1 gV1 oV gV9 oB t7 G7 GU7 GV10
      refine wp_region_held_drew (S := fun w' => w'.heap[gb]? = some (.cells #[.int .i64 (a : Int), .int .i64 (b : Int), .slice A1 cs.length c1] 29 (0, 0)) ∧ w'.heap[gu]? = some (.cells #[.int .i64 (a : Int), .int .i64 (b : Int), .slice A6 U.length c6] 29 (0, 0)) ∧ w'.heap[gl]? = some (.cells #[.int .i64 (a : Int), .int .i64 (b : Int), .slice A9 V.length c9] 29 (0, 0)) ∧ w'.heap[gk]? = some (.cells #[.int .i64 (a : Int), .int .i64 (b : Int), .slice A11 BL.length c11] 29 (0, 0))) (by kernel_rfl) ⟨b12, U12, V12, K12⟩ (fun hHeld => ?_)
      refine wpAnyH_take (i := 0) (v := .bool true) rfl (by kernel_rfl) (by kernel_rfl) (by kernel_rfl) (fun _ _ _ h => h) (Or.inl ⟨by rfl, (by intro w' hSw; go_simp; try first | rfl | assumption | (simp [*]; done))⟩) (by assumption) ?_
      try simp only [Act.put, List.getElem_toArray, List.getElem_cons_zero, List.setIfInBounds_toArray, List.set_cons_zero, List.set_cons_succ]
      refine wpAnyH_take (i := 1) (v := .bool false) rfl (by kernel_rfl) (by kernel_rfl) (by kernel_rfl) (fun _ _ _ h => h) (Or.inl ⟨by rfl, (by intro w' hSw; go_simp; try first | rfl | assumption | (simp [*]; done))⟩) (by assumption) ?_
      try simp only [Act.put, List.getElem_toArray, List.getElem_cons_succ, List.getElem_cons_zero, List.setIfInBounds_toArray, List.set_cons_zero, List.set_cons_succ]
      refine wpAnyH_take (i := 2) (v := .bool false) rfl (by kernel_rfl) (by kernel_rfl) (by kernel_rfl) (fun _ _ _ h => h) (Or.inl ⟨by rfl, (by intro w' hSw; go_simp; try first | rfl | assumption | (simp [*]; done))⟩) (by assumption) ?_
      try simp only [Act.put, List.getElem_toArray, List.getElem_cons_succ, List.getElem_cons_zero, List.setIfInBounds_toArray, List.set_cons_zero, List.set_cons_succ]
      refine wpAnyH_take (i := 3) (v := gV (a : Int) (b : Int) A6 U.length c6) rfl (by kernel_rfl) (by kernel_rfl) (by kernel_rfl) (fun _ _ _ h => h) (Or.inl ⟨by rfl, (by intro w' hSw; have q : ∀ i, w'.cell? ⟨gu, i, none⟩ = _ := fun i => cell_of_row w' _ i _ _ (0, 0) hSw.2.1; go_simp; try first | rfl | simp [q])⟩) (by assumption) ?_
      try simp only [Act.put, List.getElem_toArray, List.getElem_cons_succ, List.getElem_cons_zero, List.setIfInBounds_toArray, List.set_cons_zero, List.set_cons_succ]
      refine wpAnyH_ready (rs := [4]) (by kernel_rfl) (by simp) ?_
      refine AllReadyH.cons rfl (fun K hK => ?_) AllReadyH.nil
      go_simp
      refine (gridOk_impl a b A6 c6 U _ (GU12.below ((Below.refl w12.heap.size w12).drew)) (by rw [UL.out]; omega)).mono ?_
      rintro e w13 ⟨he, e13⟩
      rw [UG.out] at he
      subst he
      have E13 : Below w12.heap.size w12 w13 := ((Below.refl w12.heap.size w12).drew).trans (e13.mono ((Below.refl w12.heap.size w12).drew).size)
      have b13 := (E13.block _ (Array.getElem?_eq_some_iff.1 b12).1).trans b12
      have U13 := (E13.block _ (Array.getElem?_eq_some_iff.1 U12).1).trans U12
      have V13 := (E13.block _ (Array.getElem?_eq_some_iff.1 V12).1).trans V12
      have K13 := (E13.block _ (Array.getElem?_eq_some_iff.1 K12).1).trans K12
      refine hK.out _ _ ⟨b13, U13, V13, K13⟩ (fun hHeld => ?_)
      clear hK K
      try simp only [Act.put, List.getElem_toArray, List.getElem_cons_succ, List.getElem_cons_zero, List.setIfInBounds_toArray, List.set_cons_zero, List.set_cons_succ]
      refine wpAnyH_take (i := 5) (v := .bool false) rfl (by kernel_rfl) (by kernel_rfl) (by kernel_rfl) (fun _ _ _ h => h) (Or.inl ⟨by rfl, (by intro w' hSw; go_simp; try first | rfl | assumption | (simp [*]; done))⟩) (by assumption) ?_
      try simp only [Act.put, List.getElem_toArray, List.getElem_cons_succ, List.getElem_cons_zero, List.setIfInBounds_toArray, List.set_cons_zero, List.set_cons_succ]
      refine wpAnyH_take (i := 6) (v := .bool false) rfl (by kernel_rfl) (by kernel_rfl) (by kernel_rfl) (fun _ _ _ h => h) (Or.inl ⟨by rfl, (by intro w' hSw; go_simp; try first | rfl | assumption | (simp [*]; done))⟩) (by assumption) ?_
      try simp only [Act.put, List.getElem_toArray, List.getElem_cons_succ, List.getElem_cons_zero, List.setIfInBounds_toArray, List.set_cons_zero, List.set_cons_succ]
      refine wpAnyH_take (i := 7) (v := .bool false) rfl (by kernel_rfl) (by kernel_rfl) (by kernel_rfl) (fun _ _ _ h => h) (Or.inl ⟨by rfl, (by intro w' hSw; go_simp; try first | rfl | assumption | (simp [*]; done))⟩) (by assumption) ?_
      try simp only [Act.put, List.getElem_toArray, List.getElem_cons_succ, List.getElem_cons_zero, List.setIfInBounds_toArray, List.set_cons_zero, List.set_cons_succ]
      refine wpAnyH_take (i := 8) (v := gV (a : Int) (b : Int) A9 V.length c9) rfl (by kernel_rfl) (by kernel_rfl) (by kernel_rfl) (fun _ _ _ h => h) (Or.inl ⟨by rfl, (by intro w' hSw; have q : ∀ i, w'.cell? ⟨gl, i, none⟩ = _ := fun i => cell_of_row w' _ i _ _ (0, 0) hSw.2.2.1; go_simp; try first | rfl | simp [q])⟩) (by assumption) ?_
      try simp only [Act.put, List.getElem_toArray, List.getElem_cons_succ, List.getElem_cons_zero, List.setIfInBounds_toArray, List.set_cons_zero, List.set_cons_succ]
      refine wpAnyH_ready (rs := [9]) (by kernel_rfl) (by simp) ?_
      refine AllReadyH.cons rfl (fun K hK => ?_) AllReadyH.nil
      go_simp
      refine (gridOk_impl a b A9 c9 V _ (GV12.below (E13)) (by rw [VL.out]; omega)).mono ?_
      rintro e w14 ⟨he, e14⟩
      rw [VG.out] at he
      subst he
      have E14 : Below w12.heap.size w12 w14 := (E13).trans (e14.mono (E13).size)
      have b14 := (E14.block _ (Array.getElem?_eq_some_iff.1 b12).1).trans b12
      have U14 := (E14.block _ (Array.getElem?_eq_some_iff.1 U12).1).trans U12
      have V14 := (E14.block _ (Array.getElem?_eq_some_iff.1 V12).1).trans V12
      have K14 := (E14.block _ (Array.getElem?_eq_some_iff.1 K12).1).trans K12
      refine hK.out _ _ ⟨b14, U14, V14, K14⟩ (fun hHeld => ?_)
      clear hK K
      try simp only [Act.put, List.getElem_toArray, List.getElem_cons_succ, List.getElem_cons_zero, List.setIfInBounds_toArray, List.set_cons_zero, List.set_cons_succ]
      refine wpAnyH_take (i := 10) (v := .bool false) rfl (by kernel_rfl) (by kernel_rfl) (by kernel_rfl) (fun _ _ _ h => h) (Or.inl ⟨by rfl, (by intro w' hSw; go_simp; try first | rfl | assumption | (simp [*]; done))⟩) (by assumption) ?_
      try simp only [Act.put, List.getElem_toArray, List.getElem_cons_succ, List.getElem_cons_zero, List.setIfInBounds_toArray, List.set_cons_zero, List.set_cons_succ]
      refine wpAnyH_take (i := 11) (v := .bool false) rfl (by kernel_rfl) (by kernel_rfl) (by kernel_rfl) (fun _ _ _ h => h) (Or.inl ⟨by rfl, (by intro w' hSw; go_simp; try first | rfl | assumption | (simp [*]; done))⟩) (by assumption) ?_
      try simp only [Act.put, List.getElem_toArray, List.getElem_cons_succ, List.getElem_cons_zero, List.setIfInBounds_toArray, List.set_cons_zero, List.set_cons_succ]
      refine wpAnyH_take (i := 12) (v := .bool false) rfl (by kernel_rfl) (by kernel_rfl) (by kernel_rfl) (fun _ _ _ h => h) (Or.inl ⟨by rfl, (by intro w' hSw; go_simp; try first | rfl | assumption | (simp [*]; done))⟩) (by assumption) ?_
      try simp only [Act.put, List.getElem_toArray, List.getElem_cons_succ, List.getElem_cons_zero, List.setIfInBounds_toArray, List.set_cons_zero, List.set_cons_succ]
      refine wpAnyH_take (i := 13) (v := gV (a : Int) (b : Int) A11 BL.length c11) rfl (by kernel_rfl) (by kernel_rfl) (by kernel_rfl) (fun _ _ _ h => h) (Or.inl ⟨by rfl, (by intro w' hSw; have q : ∀ i, w'.cell? ⟨gk, i, none⟩ = _ := fun i => cell_of_row w' _ i _ _ (0, 0) hSw.2.2.2; go_simp; try first | rfl | simp [q])⟩) (by assumption) ?_
      try simp only [Act.put, List.getElem_toArray, List.getElem_cons_succ, List.getElem_cons_zero, List.setIfInBounds_toArray, List.set_cons_zero, List.set_cons_succ]
      refine wpAnyH_take (i := 14) (v := gV (a : Int) (b : Int) A1 cs.length c1) rfl (by kernel_rfl) (by kernel_rfl) (by kernel_rfl) (fun _ _ _ h => h) (Or.inl ⟨by rfl, (by intro w' hSw; have q : ∀ i, w'.cell? ⟨gb, i, none⟩ = _ := fun i => cell_of_row w' _ i _ _ (0, 0) hSw.1; go_simp; try first | rfl | simp [q])⟩) (by assumption) ?_
      try simp only [Act.put, List.getElem_toArray, List.getElem_cons_succ, List.getElem_cons_zero, List.setIfInBounds_toArray, List.set_cons_zero, List.set_cons_succ]
      refine wpAnyH_take (i := 16) (v := gV (a : Int) (b : Int) A1 cs.length c1) rfl (by kernel_rfl) (by kernel_rfl) (by kernel_rfl) (fun _ _ _ h => h) (Or.inl ⟨by rfl, (by intro w' hSw; have q : ∀ i, w'.cell? ⟨gb, i, none⟩ = _ := fun i => cell_of_row w' _ i _ _ (0, 0) hSw.1; go_simp; try first | rfl | simp [q])⟩) (by assumption) ?_
      try simp only [Act.put, List.getElem_toArray, List.getElem_cons_succ, List.getElem_cons_zero, List.setIfInBounds_toArray, List.set_cons_zero, List.set_cons_succ]
      refine wpAnyH_ready (rs := [15]) (by kernel_rfl) (by simp) ?_
      refine AllReadyH.cons rfl (fun K hK => ?_) AllReadyH.nil
      go_simp
      refine (HPA.out _ A11 c11 (GB12.below (E14)) capB (G12.below (E14))).mono ?_
      rintro e w15 ⟨AP, cP, rfl, oP, gP, _, e15⟩
      have E15 : Below w12.heap.size w12 w15 := (E14).trans (e15.mono (E14).size)
      have b15 := (E15.block _ (Array.getElem?_eq_some_iff.1 b12).1).trans b12
      have U15 := (E15.block _ (Array.getElem?_eq_some_iff.1 U12).1).trans U12
      have V15 := (E15.block _ (Array.getElem?_eq_some_iff.1 V12).1).trans V12
      have K15 := (E15.block _ (Array.getElem?_eq_some_iff.1 K12).1).trans K12
      refine hK.out _ _ ⟨b15, U15, V15, K15⟩ (fun hHeld => ?_)
      clear hK K
      try simp only [Act.put, List.getElem_toArray, List.getElem_cons_succ, List.getElem_cons_zero, List.setIfInBounds_toArray, List.set_cons_zero, List.set_cons_succ]
      refine wpAnyH_ready (rs := [17]) (by kernel_rfl) (by simp) ?_
      refine AllReadyH.cons rfl (fun K hK => ?_) AllReadyH.nil
      go_simp
      refine (HSA.out _ AP cP gP (G12.below (E15))).mono ?_
      rintro e w16 ⟨rfl, e16⟩
      have E16 : Below w12.heap.size w12 w16 := (E15).trans (e16.mono (E15).size)
      have b16 := (E16.block _ (Array.getElem?_eq_some_iff.1 b12).1).trans b12
      have U16 := (E16.block _ (Array.getElem?_eq_some_iff.1 U12).1).trans U12
      have V16 := (E16.block _ (Array.getElem?_eq_some_iff.1 V12).1).trans V12
      have K16 := (E16.block _ (Array.getElem?_eq_some_iff.1 K12).1).trans K12
      refine hK.out _ _ ⟨b16, U16, V16, K16⟩ (fun hHeld => ?_)
      clear hK K
      try simp only [Act.put, List.getElem_toArray, List.getElem_cons_succ, List.getElem_cons_zero, List.setIfInBounds_toArray, List.set_cons_zero, List.set_cons_succ]
      refine wpAnyH_take (i := 18) (v := .bool false) rfl (by kernel_rfl) (by kernel_rfl) (by kernel_rfl) (fun _ _ _ h => h) (Or.inl ⟨by rfl, (by intro w' hSw; go_simp; try first | rfl | assumption | (simp [*]; done))⟩) (by assumption) ?_
      try simp only [Act.put, List.getElem_toArray, List.getElem_cons_succ, List.getElem_cons_zero, List.setIfInBounds_toArray, List.set_cons_zero, List.set_cons_succ]
      refine wpAnyH_take (i := 19) (v := .bool false) rfl (by kernel_rfl) (by kernel_rfl) (by kernel_rfl) (fun _ _ _ h => h) (Or.inl ⟨by rfl, (by intro w' hSw; go_simp; try first | rfl | assumption | (simp [*]; done))⟩) (by assumption) ?_
      try simp only [Act.put, List.getElem_toArray, List.getElem_cons_succ, List.getElem_cons_zero, List.setIfInBounds_toArray, List.set_cons_zero, List.set_cons_succ]
      refine wpAnyH_take (i := 20) (v := .bool false) rfl (by kernel_rfl) (by kernel_rfl) (by kernel_rfl) (fun _ _ _ h => h) (Or.inl ⟨by rfl, (by intro w' hSw; go_simp; try first | rfl | assumption | (simp [*]; done))⟩) (by assumption) ?_
      try simp only [Act.put, List.getElem_toArray, List.getElem_cons_succ, List.getElem_cons_zero, List.setIfInBounds_toArray, List.set_cons_zero, List.set_cons_succ]
      refine wpAnyH_take (i := 21) (v := gV (a : Int) (b : Int) A1 cs.length c1) rfl (by kernel_rfl) (by kernel_rfl) (by kernel_rfl) (fun _ _ _ h => h) (Or.inl ⟨by rfl, (by intro w' hSw; have q : ∀ i, w'.cell? ⟨gb, i, none⟩ = _ := fun i => cell_of_row w' _ i _ _ (0, 0) hSw.1; go_simp; try first | rfl | simp [q])⟩) (by assumption) ?_
      try simp only [Act.put, List.getElem_toArray, List.getElem_cons_succ, List.getElem_cons_zero, List.setIfInBounds_toArray, List.set_cons_zero, List.set_cons_succ]
      refine wpAnyH_take (i := 23) (v := gV (a : Int) (b : Int) A1 cs.length c1) rfl (by kernel_rfl) (by kernel_rfl) (by kernel_rfl) (fun _ _ _ h => h) (Or.inl ⟨by rfl, (by intro w' hSw; have q : ∀ i, w'.cell? ⟨gb, i, none⟩ = _ := fun i => cell_of_row w' _ i _ _ (0, 0) hSw.1; go_simp; try first | rfl | simp [q])⟩) (by assumption) ?_
      try simp only [Act.put, List.getElem_toArray, List.getElem_cons_succ, List.getElem_cons_zero, List.setIfInBounds_toArray, List.set_cons_zero, List.set_cons_succ]
      refine wpAnyH_ready (rs := [22]) (by kernel_rfl) (by simp) ?_
      refine AllReadyH.cons rfl (fun K hK => ?_) AllReadyH.nil
      go_simp
      refine (HR0.out _ (G12.below (E16))).mono ?_
      rintro e w17 ⟨AQ, cQ, rfl, oQ, gQ, _, e17⟩
      have E17 : Below w12.heap.size w12 w17 := (E16).trans (e17.mono (E16).size)
      have b17 := (E17.block _ (Array.getElem?_eq_some_iff.1 b12).1).trans b12
      have U17 := (E17.block _ (Array.getElem?_eq_some_iff.1 U12).1).trans U12
      have V17 := (E17.block _ (Array.getElem?_eq_some_iff.1 V12).1).trans V12
      have K17 := (E17.block _ (Array.getElem?_eq_some_iff.1 K12).1).trans K12
      refine hK.out _ _ ⟨b17, U17, V17, K17⟩ (fun hHeld => ?_)
      clear hK K
      try simp only [Act.put, List.getElem_toArray, List.getElem_cons_succ, List.getElem_cons_zero, List.setIfInBounds_toArray, List.set_cons_zero, List.set_cons_succ]
      refine wpAnyH_ready (rs := [24]) (by kernel_rfl) (by simp) ?_
      refine AllReadyH.cons rfl (fun K hK => ?_) AllReadyH.nil
      go_simp
      refine (HSA.out _ AQ cQ gQ (G12.below (E17))).mono ?_
      rintro e w18 ⟨rfl, e18⟩
      have E18 : Below w12.heap.size w12 w18 := (E17).trans (e18.mono (E17).size)
      have b18 := (E18.block _ (Array.getElem?_eq_some_iff.1 b12).1).trans b12
      have U18 := (E18.block _ (Array.getElem?_eq_some_iff.1 U12).1).trans U12
      have V18 := (E18.block _ (Array.getElem?_eq_some_iff.1 V12).1).trans V12
      have K18 := (E18.block _ (Array.getElem?_eq_some_iff.1 K12).1).trans K12
      refine hK.out _ _ ⟨b18, U18, V18, K18⟩ (fun hHeld => ?_)
      clear hK K
      try simp only [Act.put, List.getElem_toArray, List.getElem_cons_succ, List.getElem_cons_zero, List.setIfInBounds_toArray, List.set_cons_zero, List.set_cons_succ]
      refine wpAnyH_take (i := 25) (v := .bool false) rfl (by kernel_rfl) (by kernel_rfl) (by kernel_rfl) (fun _ _ _ h => h) (Or.inl ⟨by rfl, (by intro w' hSw; go_simp; try first | rfl | assumption | (simp [*]; done))⟩) (by assumption) ?_
      try simp only [Act.put, List.getElem_toArray, List.getElem_cons_succ, List.getElem_cons_zero, List.setIfInBounds_toArray, List.set_cons_zero, List.set_cons_succ]
      refine wpAnyH_take (i := 26) (v := .bool false) rfl (by kernel_rfl) (by kernel_rfl) (by kernel_rfl) (fun _ _ _ h => h) (Or.inl ⟨by rfl, (by intro w' hSw; go_simp; try first | rfl | assumption | (simp [*]; done))⟩) (by assumption) ?_
      try simp only [Act.put, List.getElem_toArray, List.getElem_cons_succ, List.getElem_cons_zero, List.setIfInBounds_toArray, List.set_cons_zero, List.set_cons_succ]
      refine wpAnyH_take (i := 27) (v := .bool false) rfl (by kernel_rfl) (by kernel_rfl) (by kernel_rfl) (fun _ _ _ h => h) (Or.inl ⟨by rfl, (by intro w' hSw; go_simp; try first | rfl | assumption | (simp [*]; done))⟩) (by assumption) ?_
      try simp only [Act.put, List.getElem_toArray, List.getElem_cons_succ, List.getElem_cons_zero, List.setIfInBounds_toArray, List.set_cons_zero, List.set_cons_succ]
      refine wpAnyH_take (i := 28) (v := gV (a : Int) (b : Int) A1 cs.length c1) rfl (by kernel_rfl) (by kernel_rfl) (by kernel_rfl) (fun _ _ _ h => h) (Or.inl ⟨by rfl, (by intro w' hSw; have q : ∀ i, w'.cell? ⟨gb, i, none⟩ = _ := fun i => cell_of_row w' _ i _ _ (0, 0) hSw.1; go_simp; try first | rfl | simp [q])⟩) (by assumption) ?_
      try simp only [Act.put, List.getElem_toArray, List.getElem_cons_succ, List.getElem_cons_zero, List.setIfInBounds_toArray, List.set_cons_zero, List.set_cons_succ]
      refine wpAnyH_take (i := 29) (v := .int .i64 (y : Int)) rfl (by kernel_rfl) (by kernel_rfl) (by kernel_rfl) (fun _ _ _ h => h) (Or.inl ⟨by rfl, (by intro w' hSw; go_simp; try first | rfl | assumption | (simp [*]; done))⟩) (by assumption) ?_
      try simp only [Act.put, List.getElem_toArray, List.getElem_cons_succ, List.getElem_cons_zero, List.setIfInBounds_toArray, List.set_cons_zero, List.set_cons_succ]
      refine wpAnyH_take (i := 31) (v := gV (a : Int) (b : Int) A1 cs.length c1) rfl (by kernel_rfl) (by kernel_rfl) (by kernel_rfl) (fun _ _ _ h => h) (Or.inl ⟨by rfl, (by intro w' hSw; have q : ∀ i, w'.cell? ⟨gb, i, none⟩ = _ := fun i => cell_of_row w' _ i _ _ (0, 0) hSw.1; go_simp; try first | rfl | simp [q])⟩) (by assumption) ?_
      try simp only [Act.put, List.getElem_toArray, List.getElem_cons_succ, List.getElem_cons_zero, List.setIfInBounds_toArray, List.set_cons_zero, List.set_cons_succ]
      refine wpAnyH_ready (rs := [30]) (by kernel_rfl) (by simp) ?_
      refine AllReadyH.cons rfl (fun K hK => ?_) AllReadyH.nil
      go_simp
      refine (HS0.out _ (G12.below (E18))).mono ?_
      rintro e w19 ⟨AR, cR, rfl, oR, gR, _, e19⟩
      have E19 : Below w12.heap.size w12 w19 := (E18).trans (e19.mono (E18).size)
      have b19 := (E19.block _ (Array.getElem?_eq_some_iff.1 b12).1).trans b12
      have U19 := (E19.block _ (Array.getElem?_eq_some_iff.1 U12).1).trans U12
      have V19 := (E19.block _ (Array.getElem?_eq_some_iff.1 V12).1).trans V12
      have K19 := (E19.block _ (Array.getElem?_eq_some_iff.1 K12).1).trans K12
      refine hK.out _ _ ⟨b19, U19, V19, K19⟩ (fun hHeld => ?_)
      clear hK K
      try simp only [Act.put, List.getElem_toArray, List.getElem_cons_succ, List.getElem_cons_zero, List.setIfInBounds_toArray, List.set_cons_zero, List.set_cons_succ]
      refine wpAnyH_ready (rs := [32]) (by kernel_rfl) (by simp) ?_
      refine AllReadyH.cons rfl (fun K hK => ?_) AllReadyH.nil
      go_simp
      refine (HSA.out _ AR cR gR (G12.below (E19))).mono ?_
      rintro e w20 ⟨rfl, e20⟩
      have E20 : Below w12.heap.size w12 w20 := (E19).trans (e20.mono (E19).size)
      have b20 := (E20.block _ (Array.getElem?_eq_some_iff.1 b12).1).trans b12
      have U20 := (E20.block _ (Array.getElem?_eq_some_iff.1 U12).1).trans U12
      have V20 := (E20.block _ (Array.getElem?_eq_some_iff.1 V12).1).trans V12
      have K20 := (E20.block _ (Array.getElem?_eq_some_iff.1 K12).1).trans K12
      refine hK.out _ _ ⟨b20, U20, V20, K20⟩ (fun hHeld => ?_)
      clear hK K
      try simp only [Act.put, List.getElem_toArray, List.getElem_cons_succ, List.getElem_cons_zero, List.setIfInBounds_toArray, List.set_cons_zero, List.set_cons_succ]
      refine wpAnyH_take (i := 33) (v := .bool false) rfl (by kernel_rfl) (by kernel_rfl) (by kernel_rfl) (fun _ _ _ h => h) (Or.inl ⟨by rfl, (by intro w' hSw; go_simp; try first | rfl | assumption | (simp [*]; done))⟩) (by assumption) ?_
      try simp only [Act.put, List.getElem_toArray, List.getElem_cons_succ, List.getElem_cons_zero, List.setIfInBounds_toArray, List.set_cons_zero, List.set_cons_succ]
      refine wpAnyH_take (i := 34) (v := .bool false) rfl (by kernel_rfl) (by kernel_rfl) (by kernel_rfl) (fun _ _ _ h => h) (Or.inl ⟨by rfl, (by intro w' hSw; go_simp; try first | rfl | assumption | (simp [*]; done))⟩) (by assumption) ?_
      try simp only [Act.put, List.getElem_toArray, List.getElem_cons_succ, List.getElem_cons_zero, List.setIfInBounds_toArray, List.set_cons_zero, List.set_cons_succ]
      refine wpAnyH_done (by kernel_rfl) ?_ _
      clear hHeld
      have t20 := t12.trans (E20.mono t12.size)
      have G20 := G12.below E20
      have GU20 := GU12.below E20
      have GV20 := GV12.below E20
      clear e13 E13 e14 E14 e15 E15 e16 E16 e17 E17 e18 E18 e19 E19 b12 U12 V12 K12 b13 U13 V13 K13 b14 U14 V14 K14 b15 U15 V15 K15 b16 U16 V16 K16 b17 U17 V17 K17 b18 U18 V18 K18 b19 U19 V19 K19 oP gP oQ gQ oR gR G12 GU12 GV12 GB12 t12
      have q20 : ∀ i, w20.cell? ⟨gb, i, none⟩ = _ := fun i => cell_of_row w20 _ i _ _ (0, 0) b20
      go_wp2_with fail
      clear q20
      go_loopw [90] (fun iv wr => ∃ k : Nat, k ≤ cs.length ∧ iv = .int .i64 k ∧ Below w20.heap.size w20 wr) (fun iv _ => cs.length - (intOf iv).toNat)
      case atStart => exact ⟨0, Nat.zero_le _, rfl, Below.refl _ _⟩
      case round =>
        obtain ⟨k, hk, rfl, hb9⟩ := hrel
        by_cases hlt : k < cs.length
        · have hlt' : (k : Int) < cs.length := by omega
          have bR := (hb9.block _ (Array.getElem?_eq_some_iff.1 b20).1).trans b20
          have UR := (hb9.block _ (Array.getElem?_eq_some_iff.1 U20).1).trans U20
          have VR := (hb9.block _ (Array.getElem?_eq_some_iff.1 V20).1).trans V20
          have lb := (Array.getElem?_eq_some_iff.1 bR).1
          have lu := (Array.getElem?_eq_some_iff.1 UR).1
          have lv := (Array.getElem?_eq_some_iff.1 VR).1
          have qb : ∀ i, wr.cell? ⟨gb, i, none⟩ = _ := fun i => cell_of_row wr _ i _ _ (0, 0) bR
          have qu : ∀ i, wr.cell? ⟨gu, i, none⟩ = _ := fun i => cell_of_row wr _ i _ _ (0, 0) UR
          have qv : ∀ i, wr.cell? ⟨gl, i, none⟩ = _ := fun i => cell_of_row wr _ i _ _ (0, 0) VR
          obtain ⟨⟨x0, x1, x2, x3, x4, x5⟩, hx⟩ : ∃ x, Hid (cs.getD k cl0 = x) := ⟨_, Lib.hid rfl⟩
          have hUk := roll_back (n := n) (i := k) hOK.out (by rw [← hL.out]; exact hlt)
          rw [← hX.out, ← hU.out, hx.out] at hUk
          have hVk := shift_back (n := n) (i := k) hp hlt
          rw [← hV1.out, ← hV.out, hx.out] at hVk
          have HUk := Lib.hid hUk
          have HVk := Lib.hid hVk
          clear hUk hVk
          obtain ⟨hrow, hrr⟩ := row_of (i := k) (show 0 < a by omega)
          obtain ⟨qq, hqq⟩ : ∃ q, q = k / a := ⟨_, rfl⟩
          obtain ⟨rr, hrr2⟩ : ∃ r, r = k % a := ⟨_, rfl⟩
          have eq1 : Int.tdiv (k : Int) (a : Int) = (qq : Int) := by rw [hqq]; exact (Int.ofNat_tdiv _ _).symm
          have eq2 : (k : Int) / (a : Int) = (qq : Int) := by rw [hqq]; simp
          have er1 : Int.tmod (k : Int) (a : Int) = (rr : Int) := by rw [hrr2]; exact (Int.ofNat_tmod _ _).symm
          have er2 : (k : Int) % (a : Int) = (rr : Int) := by rw [hrr2]; simp
          have hin : (y * a ≤ k ∧ k < y * a + a) ↔ qq = y := by
            rw [hqq]
            constructor
            · intro h
              have hrw := (at_div (a := a) (q := y) (r := k - y * a) (by omega)).1
              rwa [show y * a + (k - y * a) = k by omega] at hrw
            · intro h
              rw [h] at hrow
              omega
          have hkp : qq = y → k - y * a = rr := fun h => by rw [hqq] at h; rw [h, ← hrr2] at hrow; omega
          rw [← hqq] at HUk
          have haz : ¬ (a : Int) = 0 := by omega
          have hqn : (qq : Int) ≤ 28 := (by have h5 : qq ≤ k := (by rw [hqq]; exact Nat.div_le_self _ _); omega)
          clear hrow hqq hrr2 hrr
          have GRx := (G20.below hb9).get1 hlt _ hx.out
          by_cases h1 : qq < n
          · by_cases h2 : qq = y
            · by_cases h3 : rr < n
              · have hUc : U.getD k cl0 = (32, 0, 0, false, false, false) := by rw [HUk.out]; exact if_pos h1
                have hVc : V.getD k cl0 = (32, 0, 0, false, false, false) := by rw [HVk.out]; exact if_pos ⟨hin.2 h2, by rw [hkp h2]; exact h3⟩
                have GRu := (GU20.below hb9).get1 (by rw [UL.out]; exact hlt) _ hUc
                have GRv := (GV20.below hb9).get1 (by rw [VL.out]; exact hlt) _ hVc
                obtain ⟨b1_, o1_, rfl, g0, g1, g2, g3, g4, g5⟩ := GRx
                obtain ⟨b2_, o2_, rfl, u0, u1, u2, u3, u4, u5⟩ := GRu
                obtain ⟨b3_, o3_, rfl, v0, v1, v2, v3, v4, v5⟩ := GRv
                dsimp only at g0 g1 g2 g3 g4 g5 u0 u1 u2 u3 u4 u5 v0 v1 v2 v3 v4 v5
                have l1 := World.block_lt_of_cell? wr _ g0
                have l2 := World.block_lt_of_cell? wr _ u0
                have l3 := World.block_lt_of_cell? wr _ v0
                dsimp only at l1 l2 l3
                have hUL : (k : Int) < (U.length : Int) := by rw [UL.out]; exact hlt'
                have hVL : (k : Int) < (V.length : Int) := by rw [VL.out]; exact hlt'
                have c1_ : (qq : Int) < (n : Int) := by omega
                have c2_ : ((qq : Int) == (y : Int)) = true := by simp; omega
                have c3_ : (rr : Int) < (n : Int) := by omega
                clear hUc hVc hin hkp
                go_wp2_with fail
                go_region
                go_wp2_with fail
                go_roundw
                case rel => exact ⟨k + 1, by omega, by go_num, (by first | exact hb9.trans ((((Below.refl _ _).alloc hb9.size _).alloc (by simp; have := hb9.size; omega) _).drew) | exact hb9.trans (((Below.refl _ _).alloc hb9.size _).alloc (by simp; have := hb9.size; omega) _))⟩
                case measure => simp [intOf]; omega
              · have hUc : U.getD k cl0 = (32, 0, 0, false, false, false) := by rw [HUk.out]; exact if_pos h1
                have hVc : V.getD k cl0 = (x0, x1, x2, x3, x4, x5) := by rw [HVk.out]; exact if_neg (fun h => h3 (by rw [← hkp h2]; exact h.2))
                have GRu := (GU20.below hb9).get1 (by rw [UL.out]; exact hlt) _ hUc
                have GRv := (GV20.below hb9).get1 (by rw [VL.out]; exact hlt) _ hVc
                obtain ⟨b1_, o1_, rfl, g0, g1, g2, g3, g4, g5⟩ := GRx
                obtain ⟨b2_, o2_, rfl, u0, u1, u2, u3, u4, u5⟩ := GRu
                obtain ⟨b3_, o3_, rfl, v0, v1, v2, v3, v4, v5⟩ := GRv
                dsimp only at g0 g1 g2 g3 g4 g5 u0 u1 u2 u3 u4 u5 v0 v1 v2 v3 v4 v5
                have l1 := World.block_lt_of_cell? wr _ g0
                have l2 := World.block_lt_of_cell? wr _ u0
                have l3 := World.block_lt_of_cell? wr _ v0
                dsimp only at l1 l2 l3
                have hUL : (k : Int) < (U.length : Int) := by rw [UL.out]; exact hlt'
                have hVL : (k : Int) < (V.length : Int) := by rw [VL.out]; exact hlt'
                have c1_ : (qq : Int) < (n : Int) := by omega
                have c2_ : ((qq : Int) == (y : Int)) = true := by simp; omega
                have c3_ : ¬ (rr : Int) < (n : Int) := by omega
                clear hUc hVc hin hkp
                go_wp2_with fail
                go_region
                go_wp2_with fail
                go_roundw
                case rel => exact ⟨k + 1, by omega, by go_num, (by first | exact hb9.trans ((((Below.refl _ _).alloc hb9.size _).alloc (by simp; have := hb9.size; omega) _).drew) | exact hb9.trans (((Below.refl _ _).alloc hb9.size _).alloc (by simp; have := hb9.size; omega) _))⟩
                case measure => simp [intOf]; omega
            · have hUc : U.getD k cl0 = (32, 0, 0, false, false, false) := by rw [HUk.out]; exact if_pos h1
              have hVc : V.getD k cl0 = (x0, x1, x2, x3, x4, x5) := by rw [HVk.out]; exact if_neg (fun h => h2 (hin.1 h.1))
              have GRu := (GU20.below hb9).get1 (by rw [UL.out]; exact hlt) _ hUc
              have GRv := (GV20.below hb9).get1 (by rw [VL.out]; exact hlt) _ hVc
              obtain ⟨b1_, o1_, rfl, g0, g1, g2, g3, g4, g5⟩ := GRx
              obtain ⟨b2_, o2_, rfl, u0, u1, u2, u3, u4, u5⟩ := GRu
              obtain ⟨b3_, o3_, rfl, v0, v1, v2, v3, v4, v5⟩ := GRv
              dsimp only at g0 g1 g2 g3 g4 g5 u0 u1 u2 u3 u4 u5 v0 v1 v2 v3 v4 v5
              have l1 := World.block_lt_of_cell? wr _ g0
              have l2 := World.block_lt_of_cell? wr _ u0
              have l3 := World.block_lt_of_cell? wr _ v0
              dsimp only at l1 l2 l3
              have hUL : (k : Int) < (U.length : Int) := by rw [UL.out]; exact hlt'
              have hVL : (k : Int) < (V.length : Int) := by rw [VL.out]; exact hlt'
              have c1_ : (qq : Int) < (n : Int) := by omega
              have c2_ : ((qq : Int) == (y : Int)) = false := by simp; omega
              clear hUc hVc hin hkp
              go_wp2_with fail
              go_region
              go_wp2_with fail
              go_roundw
              case rel => exact ⟨k + 1, by omega, by go_num, (by first | exact hb9.trans ((((Below.refl _ _).alloc hb9.size _).alloc (by simp; have := hb9.size; omega) _).drew) | exact hb9.trans (((Below.refl _ _).alloc hb9.size _).alloc (by simp; have := hb9.size; omega) _))⟩
              case measure => simp [intOf]; omega
          · by_cases h2 : qq = y
            · by_cases h3 : rr < n
              · have hUc : U.getD k cl0 = (x0, x1, x2, x3, x4, x5) := by rw [HUk.out]; exact if_neg h1
                have hVc : V.getD k cl0 = (32, 0, 0, false, false, false) := by rw [HVk.out]; exact if_pos ⟨hin.2 h2, by rw [hkp h2]; exact h3⟩
                have GRu := (GU20.below hb9).get1 (by rw [UL.out]; exact hlt) _ hUc
                have GRv := (GV20.below hb9).get1 (by rw [VL.out]; exact hlt) _ hVc
                obtain ⟨b1_, o1_, rfl, g0, g1, g2, g3, g4, g5⟩ := GRx
                obtain ⟨b2_, o2_, rfl, u0, u1, u2, u3, u4, u5⟩ := GRu
                obtain ⟨b3_, o3_, rfl, v0, v1, v2, v3, v4, v5⟩ := GRv
                dsimp only at g0 g1 g2 g3 g4 g5 u0 u1 u2 u3 u4 u5 v0 v1 v2 v3 v4 v5
                have l1 := World.block_lt_of_cell? wr _ g0
                have l2 := World.block_lt_of_cell? wr _ u0
                have l3 := World.block_lt_of_cell? wr _ v0
                dsimp only at l1 l2 l3
                have hUL : (k : Int) < (U.length : Int) := by rw [UL.out]; exact hlt'
                have hVL : (k : Int) < (V.length : Int) := by rw [VL.out]; exact hlt'
                have c1_ : ¬ (qq : Int) < (n : Int) := by omega
                have c2_ : ((qq : Int) == (y : Int)) = true := by simp; omega
                have c3_ : (rr : Int) < (n : Int) := by omega
                clear hUc hVc hin hkp
                go_wp2_with fail
                go_region
                go_wp2_with fail
                go_roundw
                case rel => exact ⟨k + 1, by omega, by go_num, (by first | exact hb9.trans ((((Below.refl _ _).alloc hb9.size _).alloc (by simp; have := hb9.size; omega) _).drew) | exact hb9.trans (((Below.refl _ _).alloc hb9.size _).alloc (by simp; have := hb9.size; omega) _))⟩
                case measure => simp [intOf]; omega
              · have hUc : U.getD k cl0 = (x0, x1, x2, x3, x4, x5) := by rw [HUk.out]; exact if_neg h1
                have hVc : V.getD k cl0 = (x0, x1, x2, x3, x4, x5) := by rw [HVk.out]; exact if_neg (fun h => h3 (by rw [← hkp h2]; exact h.2))
                have GRu := (GU20.below hb9).get1 (by rw [UL.out]; exact hlt) _ hUc
                have GRv := (GV20.below hb9).get1 (by rw [VL.out]; exact hlt) _ hVc
                obtain ⟨b1_, o1_, rfl, g0, g1, g2, g3, g4, g5⟩ := GRx
                obtain ⟨b2_, o2_, rfl, u0, u1, u2, u3, u4, u5⟩ := GRu
                obtain ⟨b3_, o3_, rfl, v0, v1, v2, v3, v4, v5⟩ := GRv
                dsimp only at g0 g1 g2 g3 g4 g5 u0 u1 u2 u3 u4 u5 v0 v1 v2 v3 v4 v5
                have l1 := World.block_lt_of_cell? wr _ g0
                have l2 := World.block_lt_of_cell? wr _ u0
                have l3 := World.block_lt_of_cell? wr _ v0
                dsimp only at l1 l2 l3
                have hUL : (k : Int) < (U.length : Int) := by rw [UL.out]; exact hlt'
                have hVL : (k : Int) < (V.length : Int) := by rw [VL.out]; exact hlt'
                have c1_ : ¬ (qq : Int) < (n : Int) := by omega
                have c2_ : ((qq : Int) == (y : Int)) = true := by simp; omega
                have c3_ : ¬ (rr : Int) < (n : Int) := by omega
                clear hUc hVc hin hkp
                go_wp2_with fail
                go_region
                go_wp2_with fail
                go_roundw
                case rel => exact ⟨k + 1, by omega, by go_num, (by first | exact hb9.trans ((((Below.refl _ _).alloc hb9.size _).alloc (by simp; have := hb9.size; omega) _).drew) | exact hb9.trans (((Below.refl _ _).alloc hb9.size _).alloc (by simp; have := hb9.size; omega) _))⟩
                case measure => simp [intOf]; omega
            · have hUc : U.getD k cl0 = (x0, x1, x2, x3, x4, x5) := by rw [HUk.out]; exact if_neg h1
              have hVc : V.getD k cl0 = (x0, x1, x2, x3, x4, x5) := by rw [HVk.out]; exact if_neg (fun h => h2 (hin.1 h.1))
              have GRu := (GU20.below hb9).get1 (by rw [UL.out]; exact hlt) _ hUc
              have GRv := (GV20.below hb9).get1 (by rw [VL.out]; exact hlt) _ hVc
              obtain ⟨b1_, o1_, rfl, g0, g1, g2, g3, g4, g5⟩ := GRx
              obtain ⟨b2_, o2_, rfl, u0, u1, u2, u3, u4, u5⟩ := GRu
              obtain ⟨b3_, o3_, rfl, v0, v1, v2, v3, v4, v5⟩ := GRv
              dsimp only at g0 g1 g2 g3 g4 g5 u0 u1 u2 u3 u4 u5 v0 v1 v2 v3 v4 v5
              have l1 := World.block_lt_of_cell? wr _ g0
              have l2 := World.block_lt_of_cell? wr _ u0
              have l3 := World.block_lt_of_cell? wr _ v0
              dsimp only at l1 l2 l3
              have hUL : (k : Int) < (U.length : Int) := by rw [UL.out]; exact hlt'
              have hVL : (k : Int) < (V.length : Int) := by rw [VL.out]; exact hlt'
              have c1_ : ¬ (qq : Int) < (n : Int) := by omega
              have c2_ : ((qq : Int) == (y : Int)) = false := by simp; omega
              clear hUc hVc hin hkp
              go_wp2_with fail
              go_region
              go_wp2_with fail
              go_roundw
              case rel => exact ⟨k + 1, by omega, by go_num, (by first | exact hb9.trans ((((Below.refl _ _).alloc hb9.size _).alloc (by simp; have := hb9.size; omega) _).drew) | exact hb9.trans (((Below.refl _ _).alloc hb9.size _).alloc (by simp; have := hb9.size; omega) _))⟩
              case measure => simp [intOf]; omega
        · have hlt' : ¬ (k : Int) < cs.length := by omega
          go_wp2_with fail
          go_ret
          exact ⟨rfl, t20.trans (hb9.mono t20.size)⟩
  · go_simp
    obtain ⟨va, hva⟩ : ∃ v, v = (w4.alloc (.cells #[.int .i64 0, .int .i64 0, .slice none 0 0] 29)).drew := ⟨_, rfl⟩
    have bz : va.heap[w4.heap.size]? = some (.cells #[.int .i64 0, .int .i64 0, .slice none 0 0] 29 (0, 0)) := by rw [hva]; exact heap_alloc_new _ _
    have ea : Below w4.heap.size w4 va := by rw [hva]; exact ((Below.refl _ _).alloc (Nat.le_refl _) _).drew
    rw [← hva]
    clear hva
    have Ea := ea
    have ba := (Ea.block _ zgb).trans b4
    obtain ⟨gu, hgu⟩ : ∃ gu, Hid (gu = w4.heap.size) := ⟨_, Lib.hid rfl⟩
    have hguE : w4.heap.size ≤ gu := by rw [hgu.out]; exact Nat.le_refl _
    rw [← hgu.out] at bz
    rw [show w4.heap.size = gu from hgu.out.symm]
    refine hK.out _ _ (fun _ => ba) ?_
    clear hK K
    try simp only [Act.put, List.getElem_toArray, List.getElem_cons_succ, List.getElem_cons_zero, List.setIfInBounds_toArray, List.set_cons_zero, List.set_cons_succ]
    refine wpAnyK_ready (rs := [5]) (by kernel_rfl) (by simp) ?_
    refine AllReadyK.cons rfl (fun K hK => ?_) AllReadyK.nil
    go_simp
    refine (HR1.out _ (O4.below (Ea) (Nat.le_refl _)).gs).mono ?_
    rintro e w5 ⟨A5, c5, rfl, oX, gX, _, e5⟩
    have E5 : Below w4.heap.size w4 w5 := (Ea).trans (e5.mono (Ea).size)
    have b5 := (E5.block _ zgb).trans b4
    have capX := oX.cap
    have bz5 := (e5.block _ (Array.getElem?_eq_some_iff.1 bz).1).trans bz
    refine hK.out _ _ (fun _ => b5) ?_
    clear hK K
    try simp only [Act.put, List.getElem_toArray, List.getElem_cons_succ, List.getElem_cons_zero, List.setIfInBounds_toArray, List.set_cons_zero, List.set_cons_succ]
    refine wpAnyK_ready (rs := [11]) (by kernel_rfl) (by simp) ?_
    refine AllReadyK.cons rfl (fun K hK => ?_) AllReadyK.nil
    go_simp
    refine (HR2.out _ _ _ gX capX).mono ?_
    rintro e w6 ⟨A6, c6, rfl, oU, gU, _, e6⟩
    have E6 : Below w4.heap.size w4 w6 := (E5).trans (e6.mono (E5).size)
    have b6 := (E6.block _ zgb).trans b4
    have bz6 := (e6.block _ (Array.getElem?_eq_some_iff.1 bz5).1).trans bz5
    refine hK.out _ _ (fun _ => b6) ?_
    clear hK K
    try simp only [Act.put, List.getElem_toArray, List.getElem_cons_succ, List.getElem_cons_zero, List.setIfInBounds_toArray, List.set_cons_zero, List.set_cons_succ]
    refine wpAnyK_ready (rs := [13]) (by kernel_rfl) (by simp) ?_
    refine AllReadyK.cons rfl (fun K hK => ?_) AllReadyK.nil
    rw [if_pos (by rfl)]
    refine wp_store_gO 29 _ _ rfl gu #[.int .i64 (a : Int), .int .i64 (b : Int), .slice A6 U.length c6] rfl rfl 29 #[.int .i64 0, .int .i64 0, .slice none 0 0] bz6 (by kernel_rfl) rfl (by simp [Value.oneCell']) ?_
    intro w7 U7 gr7 s7
    refine hK.out _ _ (late (by kernel_rfl)) ?_
    clear hK K
    try simp only [Act.put, List.getElem_toArray, List.getElem_cons_succ, List.getElem_cons_zero]
    refine wpAnyK_done (by kernel_rfl) ?_ _
    have E7 : Below w4.heap.size w4 w7 := (E6).grown gr7 (E6).size (fun k hk => by injection hk with hk; omega)
    have b7 := (E7.block _ zgb).trans b4
    have t7 := t4.trans (E7.mono t4.size)
    have G7 : Gs w7 A1 cs := (O4.below E7 (Nat.le_refl _)).gs
    have GU7 : Gs w7 A6 U := (oU.gr gr7 (by have := ea.size; have hz := (Array.getElem?_eq_some_iff.1 bz).1; have := e5.size; omega)).gs
    have q7 : ∀ i, w7.cell? ⟨gb, i, none⟩ = _ := fun i => cell_of_row w7 _ i _ _ (0, 0) b7
    clear bd b4 O4 t4 s7 gr7 zgb E7
    go_wp2_with fail
    refine (HS1.out _ G7).mono ?_
    rintro e w8 ⟨A8, c8, rfl, oV1, gV1, _, e8⟩
    have capV := oV1.cap
    go_wp2_with fail
    refine (HS2.out _ _ _ gV1 capV).mono ?_
    rintro e w9 ⟨A9, c9, rfl, oV, gV9, _, e9⟩
    have e9' : Below w7.heap.size w7 w9 := e8.trans (e9.mono e8.size)
    have b9 := (e9'.block _ (Array.getElem?_eq_some_iff.1 b7).1).trans b7
    have U9 := (e9'.block _ (Array.getElem?_eq_some_iff.1 U7).1).trans U7
    have q9 : ∀ i, w9.cell? ⟨gb, i, none⟩ = _ := fun i => cell_of_row w9 _ i _ _ (0, 0) b9
    clear q7
    have zb9 := (Array.getElem?_eq_some_iff.1 b9).1
    obtain ⟨hgn, hgk, _, _⟩ := gn_small hW hH
    obtain ⟨BL, hBL⟩ : ∃ BL, Hid (BL = List.replicate ((a : Int) * (b : Int)).toNat bk) := ⟨_, Lib.hid rfl⟩
    rw [← hBL.out] at hgn hgk
    have BG := Lib.hid hgk
    have HN : Hid (∀ w', Calls Try.prog 22 #[.int .i64 (a : Int), .int .i64 (b : Int)] w' (GnPost w' (((a : Int), (b : Int), BL), true))) := fun w' => by
      have := gridNew_impl a b w'
      rwa [hgn] at this
    clear hgn hgk
    have HPA : Hid (∀ w' A11 c11, Gs w' A11 BL → BL.length ≤ c11 → Gs w' A1 cs → Calls Try.prog 25 #[gV a b A11 BL.length c11, gV a b A1 cs.length c1, .int .i64 0, .int .i64 0] w' (GridPost w' a b cs)) := fun w' A11 c11 hg hc hg' => by
      have := gridPaste_impl a b A11 c11 BL a b A1 c1 cs 0 0 w' hg hg' hc hcap (by rw [hBL.out, List.length_replicate]; have := (gn_small hW hH).2.2.2; omega) (by omega)
      rw [pa_same hOK.out BG.out] at this
      exact this
    go_wp2_with fail
    obtain ⟨w10, hw10⟩ : ∃ v, v = w9.alloc (.cells #[.int .i64 (a : Int), .int .i64 (b : Int), .slice A9 V.length c9] 29) := ⟨_, rfl⟩
    have e10 : Below w9.heap.size w9 w10 := by rw [hw10]; exact (Below.refl _ _).alloc (Nat.le_refl _) _
    have V10 : w10.heap[w9.heap.size]? = some (.cells #[.int .i64 (a : Int), .int .i64 (b : Int), .slice A9 V.length c9] 29 (0, 0)) := by rw [hw10]; exact heap_alloc_new _ _
    have b10 := (e10.block _ zb9).trans b9
    have U10 := (e10.block _ (Array.getElem?_eq_some_iff.1 U9).1).trans U9
    obtain ⟨gl, hgl⟩ : ∃ gl, Hid (gl = w9.heap.size) := ⟨_, Lib.hid rfl⟩
    rw [← hw10]
    clear hw10
    rw [← hgl.out] at V10 ⊢
    have E10 : Below w7.heap.size w7 w10 := e9'.trans (e10.mono e9'.size)
    have GV10 := gV9.below e10
    refine (HN.out w10).mono ?_
    rintro e w11 ⟨A11, c11, rfl, oB, e11⟩
    simp only at oB ⊢
    have b11 := (e11.block _ (Array.getElem?_eq_some_iff.1 b10).1).trans b10
    have U11 := (e11.block _ (Array.getElem?_eq_some_iff.1 U10).1).trans U10
    have V11 := (e11.block _ (Array.getElem?_eq_some_iff.1 V10).1).trans V10
    clear q9 zb9
    go_wp2_with fail
    obtain ⟨w12, hw12⟩ : ∃ v, v = w11.alloc (.cells #[.int .i64 (a : Int), .int .i64 (b : Int), .slice A11 BL.length c11] 29) := ⟨_, rfl⟩
    have e12 : Below w11.heap.size w11 w12 := by rw [hw12]; exact (Below.refl _ _).alloc (Nat.le_refl _) _
    have K12 : w12.heap[w11.heap.size]? = some (.cells #[.int .i64 (a : Int), .int .i64 (b : Int), .slice A11 BL.length c11] 29 (0, 0)) := by rw [hw12]; exact heap_alloc_new _ _
    have b12 := (e12.block _ (Array.getElem?_eq_some_iff.1 b11).1).trans b11
    have U12 := (e12.block _ (Array.getElem?_eq_some_iff.1 U11).1).trans U11
    have V12 := (e12.block _ (Array.getElem?_eq_some_iff.1 V11).1).trans V11
    obtain ⟨gk, hgk⟩ : ∃ gk, Hid (gk = w11.heap.size) := ⟨_, Lib.hid rfl⟩
    rw [← hw12]
    clear hw12
    rw [← hgk.out] at K12 ⊢
    have E12 : Below w10.heap.size w10 w12 := e11.trans (e12.mono e11.size)
    have E712 : Below w7.heap.size w7 w12 := E10.trans (E12.mono E10.size)
    have t12 := t7.trans (E712.mono t7.size)
    have G12 := G7.below E712
    have GU12 := GU7.below E712
    have GV12 := GV10.below E12
    have GB12 := oB.gs.below e12
    have capB := oB.cap
    clear b7 b9 b10 b11 U7 U9 U10 U11 V10 V11 e8 e9 e9' e10 e11 e12 E10 E12 E712 oV1 gV1 oV gV9 oB t7 G7 GU7 GV10
    refine wp_region_held_drew (S := fun w' => w'.heap[gb]? = some (.cells #[.int .i64 (a : Int), .int .i64 (b : Int), .slice A1 cs.length c1] 29 (0, 0)) ∧ w'.heap[gu]? = some (.cells #[.int .i64 (a : Int), .int .i64 (b : Int), .slice A6 U.length c6] 29 (0, 0)) ∧ w'.heap[gl]? = some (.cells #[.int .i64 (a : Int), .int .i64 (b : Int), .slice A9 V.length c9] 29 (0, 0)) ∧ w'.heap[gk]? = some (.cells #[.int .i64 (a : Int), .int .i64 (b : Int), .slice A11 BL.length c11] 29 (0, 0))) (by kernel_rfl) ⟨b12, U12, V12, K12⟩ (fun hHeld => ?_)
    refine wpAnyH_take (i := 0) (v := .bool true) rfl (by kernel_rfl) (by kernel_rfl) (by kernel_rfl) (fun _ _ _ h => h) (Or.inl ⟨by rfl, (by intro w' hSw; go_simp; try first | rfl | assumption | (simp [*]; done))⟩) (by assumption) ?_
    try simp only [Act.put, List.getElem_toArray, List.getElem_cons_zero, List.setIfInBounds_toArray, List.set_cons_zero, List.set_cons_succ]
    refine wpAnyH_take (i := 1) (v := .bool false) rfl (by kernel_rfl) (by kernel_rfl) (by kernel_rfl) (fun _ _ _ h => h) (Or.inl ⟨by rfl, (by intro w' hSw; go_simp; try first | rfl | assumption | (simp [*]; done))⟩) (by assumption) ?_
    try simp only [Act.put, List.getElem_toArray, List.getElem_cons_succ, List.getElem_cons_zero, List.setIfInBounds_toArray, List.set_cons_zero, List.set_cons_succ]
    refine wpAnyH_take (i := 2) (v := .bool false) rfl (by kernel_rfl) (by kernel_rfl) (by kernel_rfl) (fun _ _ _ h => h) (Or.inl ⟨by rfl, (by intro w' hSw; go_simp; try first | rfl | assumption | (simp [*]; done))⟩) (by assumption) ?_
    try simp only [Act.put, List.getElem_toArray, List.getElem_cons_succ, List.getElem_cons_zero, List.setIfInBounds_toArray, List.set_cons_zero, List.set_cons_succ]
    refine wpAnyH_take (i := 3) (v := gV (a : Int) (b : Int) A6 U.length c6) rfl (by kernel_rfl) (by kernel_rfl) (by kernel_rfl) (fun _ _ _ h => h) (Or.inl ⟨by rfl, (by intro w' hSw; have q : ∀ i, w'.cell? ⟨gu, i, none⟩ = _ := fun i => cell_of_row w' _ i _ _ (0, 0) hSw.2.1; go_simp; try first | rfl | simp [q])⟩) (by assumption) ?_
    try simp only [Act.put, List.getElem_toArray, List.getElem_cons_succ, List.getElem_cons_zero, List.setIfInBounds_toArray, List.set_cons_zero, List.set_cons_succ]
    refine wpAnyH_ready (rs := [4]) (by kernel_rfl) (by simp) ?_
    refine AllReadyH.cons rfl (fun K hK => ?_) AllReadyH.nil
    go_simp
    refine (gridOk_impl a b A6 c6 U _ (GU12.below ((Below.refl w12.heap.size w12).drew)) (by rw [UL.out]; omega)).mono ?_
    rintro e w13 ⟨he, e13⟩
    rw [UG.out] at he
    subst he
    have E13 : Below w12.heap.size w12 w13 := ((Below.refl w12.heap.size w12).drew).trans (e13.mono ((Below.refl w12.heap.size w12).drew).size)
    have b13 := (E13.block _ (Array.getElem?_eq_some_iff.1 b12).1).trans b12
    have U13 := (E13.block _ (Array.getElem?_eq_some_iff.1 U12).1).trans U12
    have V13 := (E13.block _ (Array.getElem?_eq_some_iff.1 V12).1).trans V12
    have K13 := (E13.block _ (Array.getElem?_eq_some_iff.1 K12).1).trans K12
    refine hK.out _ _ ⟨b13, U13, V13, K13⟩ (fun hHeld => ?_)
    clear hK K
    try simp only [Act.put, List.getElem_toArray, List.getElem_cons_succ, List.getElem_cons_zero, List.setIfInBounds_toArray, List.set_cons_zero, List.set_cons_succ]
    refine wpAnyH_take (i := 5) (v := .bool false) rfl (by kernel_rfl) (by kernel_rfl) (by kernel_rfl) (fun _ _ _ h => h) (Or.inl ⟨by rfl, (by intro w' hSw; go_simp; try first | rfl | assumption | (simp [*]; done))⟩) (by assumption) ?_
    try simp only [Act.put, List.getElem_toArray, List.getElem_cons_succ, List.getElem_cons_zero, List.setIfInBounds_toArray, List.set_cons_zero, List.set_cons_succ]
    refine wpAnyH_take (i := 6) (v := .bool false) rfl (by kernel_rfl) (by kernel_rfl) (by kernel_rfl) (fun _ _ _ h => h) (Or.inl ⟨by rfl, (by intro w' hSw; go_simp; try first | rfl | assumption | (simp [*]; done))⟩) (by assumption) ?_
    try simp only [Act.put, List.getElem_toArray, List.getElem_cons_succ, List.getElem_cons_zero, List.setIfInBounds_toArray, List.set_cons_zero, List.set_cons_succ]
    refine wpAnyH_take (i := 7) (v := .bool false) rfl (by kernel_rfl) (by kernel_rfl) (by kernel_rfl) (fun _ _ _ h => h) (Or.inl ⟨by rfl, (by intro w' hSw; go_simp; try first | rfl | assumption | (simp [*]; done))⟩) (by assumption) ?_
    try simp only [Act.put, List.getElem_toArray, List.getElem_cons_succ, List.getElem_cons_zero, List.setIfInBounds_toArray, List.set_cons_zero, List.set_cons_succ]
    refine wpAnyH_take (i := 8) (v := gV (a : Int) (b : Int) A9 V.length c9) rfl (by kernel_rfl) (by kernel_rfl) (by kernel_rfl) (fun _ _ _ h => h) (Or.inl ⟨by rfl, (by intro w' hSw; have q : ∀ i, w'.cell? ⟨gl, i, none⟩ = _ := fun i => cell_of_row w' _ i _ _ (0, 0) hSw.2.2.1; go_simp; try first | rfl | simp [q])⟩) (by assumption) ?_
    try simp only [Act.put, List.getElem_toArray, List.getElem_cons_succ, List.getElem_cons_zero, List.setIfInBounds_toArray, List.set_cons_zero, List.set_cons_succ]
    refine wpAnyH_ready (rs := [9]) (by kernel_rfl) (by simp) ?_
    refine AllReadyH.cons rfl (fun K hK => ?_) AllReadyH.nil
    go_simp
    refine (gridOk_impl a b A9 c9 V _ (GV12.below (E13)) (by rw [VL.out]; omega)).mono ?_
    rintro e w14 ⟨he, e14⟩
    rw [VG.out] at he
    subst he
    have E14 : Below w12.heap.size w12 w14 := (E13).trans (e14.mono (E13).size)
    have b14 := (E14.block _ (Array.getElem?_eq_some_iff.1 b12).1).trans b12
    have U14 := (E14.block _ (Array.getElem?_eq_some_iff.1 U12).1).trans U12
    have V14 := (E14.block _ (Array.getElem?_eq_some_iff.1 V12).1).trans V12
    have K14 := (E14.block _ (Array.getElem?_eq_some_iff.1 K12).1).trans K12
    refine hK.out _ _ ⟨b14, U14, V14, K14⟩ (fun hHeld => ?_)
    clear hK K
    try simp only [Act.put, List.getElem_toArray, List.getElem_cons_succ, List.getElem_cons_zero, List.setIfInBounds_toArray, List.set_cons_zero, List.set_cons_succ]
    refine wpAnyH_take (i := 10) (v := .bool false) rfl (by kernel_rfl) (by kernel_rfl) (by kernel_rfl) (fun _ _ _ h => h) (Or.inl ⟨by rfl, (by intro w' hSw; go_simp; try first | rfl | assumption | (simp [*]; done))⟩) (by assumption) ?_
    try simp only [Act.put, List.getElem_toArray, List.getElem_cons_succ, List.getElem_cons_zero, List.setIfInBounds_toArray, List.set_cons_zero, List.set_cons_succ]
    refine wpAnyH_take (i := 11) (v := .bool false) rfl (by kernel_rfl) (by kernel_rfl) (by kernel_rfl) (fun _ _ _ h => h) (Or.inl ⟨by rfl, (by intro w' hSw; go_simp; try first | rfl | assumption | (simp [*]; done))⟩) (by assumption) ?_
    try simp only [Act.put, List.getElem_toArray, List.getElem_cons_succ, List.getElem_cons_zero, List.setIfInBounds_toArray, List.set_cons_zero, List.set_cons_succ]
    refine wpAnyH_take (i := 12) (v := .bool false) rfl (by kernel_rfl) (by kernel_rfl) (by kernel_rfl) (fun _ _ _ h => h) (Or.inl ⟨by rfl, (by intro w' hSw; go_simp; try first | rfl | assumption | (simp [*]; done))⟩) (by assumption) ?_
    try simp only [Act.put, List.getElem_toArray, List.getElem_cons_succ, List.getElem_cons_zero, List.setIfInBounds_toArray, List.set_cons_zero, List.set_cons_succ]
    refine wpAnyH_take (i := 13) (v := gV (a : Int) (b : Int) A11 BL.length c11) rfl (by kernel_rfl) (by kernel_rfl) (by kernel_rfl) (fun _ _ _ h => h) (Or.inl ⟨by rfl, (by intro w' hSw; have q : ∀ i, w'.cell? ⟨gk, i, none⟩ = _ := fun i => cell_of_row w' _ i _ _ (0, 0) hSw.2.2.2; go_simp; try first | rfl | simp [q])⟩) (by assumption) ?_
    try simp only [Act.put, List.getElem_toArray, List.getElem_cons_succ, List.getElem_cons_zero, List.setIfInBounds_toArray, List.set_cons_zero, List.set_cons_succ]
    refine wpAnyH_take (i := 14) (v := gV (a : Int) (b : Int) A1 cs.length c1) rfl (by kernel_rfl) (by kernel_rfl) (by kernel_rfl) (fun _ _ _ h => h) (Or.inl ⟨by rfl, (by intro w' hSw; have q : ∀ i, w'.cell? ⟨gb, i, none⟩ = _ := fun i => cell_of_row w' _ i _ _ (0, 0) hSw.1; go_simp; try first | rfl | simp [q])⟩) (by assumption) ?_
    try simp only [Act.put, List.getElem_toArray, List.getElem_cons_succ, List.getElem_cons_zero, List.setIfInBounds_toArray, List.set_cons_zero, List.set_cons_succ]
    refine wpAnyH_take (i := 16) (v := gV (a : Int) (b : Int) A1 cs.length c1) rfl (by kernel_rfl) (by kernel_rfl) (by kernel_rfl) (fun _ _ _ h => h) (Or.inl ⟨by rfl, (by intro w' hSw; have q : ∀ i, w'.cell? ⟨gb, i, none⟩ = _ := fun i => cell_of_row w' _ i _ _ (0, 0) hSw.1; go_simp; try first | rfl | simp [q])⟩) (by assumption) ?_
    try simp only [Act.put, List.getElem_toArray, List.getElem_cons_succ, List.getElem_cons_zero, List.setIfInBounds_toArray, List.set_cons_zero, List.set_cons_succ]
    refine wpAnyH_ready (rs := [15]) (by kernel_rfl) (by simp) ?_
    refine AllReadyH.cons rfl (fun K hK => ?_) AllReadyH.nil
    go_simp
    refine (HPA.out _ A11 c11 (GB12.below (E14)) capB (G12.below (E14))).mono ?_
    rintro e w15 ⟨AP, cP, rfl, oP, gP, _, e15⟩
    have E15 : Below w12.heap.size w12 w15 := (E14).trans (e15.mono (E14).size)
    have b15 := (E15.block _ (Array.getElem?_eq_some_iff.1 b12).1).trans b12
    have U15 := (E15.block _ (Array.getElem?_eq_some_iff.1 U12).1).trans U12
    have V15 := (E15.block _ (Array.getElem?_eq_some_iff.1 V12).1).trans V12
    have K15 := (E15.block _ (Array.getElem?_eq_some_iff.1 K12).1).trans K12
    refine hK.out _ _ ⟨b15, U15, V15, K15⟩ (fun hHeld => ?_)
    clear hK K
    try simp only [Act.put, List.getElem_toArray, List.getElem_cons_succ, List.getElem_cons_zero, List.setIfInBounds_toArray, List.set_cons_zero, List.set_cons_succ]
    refine wpAnyH_ready (rs := [17]) (by kernel_rfl) (by simp) ?_
    refine AllReadyH.cons rfl (fun K hK => ?_) AllReadyH.nil
    go_simp
    refine (HSA.out _ AP cP gP (G12.below (E15))).mono ?_
    rintro e w16 ⟨rfl, e16⟩
    have E16 : Below w12.heap.size w12 w16 := (E15).trans (e16.mono (E15).size)
    have b16 := (E16.block _ (Array.getElem?_eq_some_iff.1 b12).1).trans b12
    have U16 := (E16.block _ (Array.getElem?_eq_some_iff.1 U12).1).trans U12
    have V16 := (E16.block _ (Array.getElem?_eq_some_iff.1 V12).1).trans V12
    have K16 := (E16.block _ (Array.getElem?_eq_some_iff.1 K12).1).trans K12
    refine hK.out _ _ ⟨b16, U16, V16, K16⟩ (fun hHeld => ?_)
    clear hK K
    try simp only [Act.put, List.getElem_toArray, List.getElem_cons_succ, List.getElem_cons_zero, List.setIfInBounds_toArray, List.set_cons_zero, List.set_cons_succ]
    refine wpAnyH_take (i := 18) (v := .bool false) rfl (by kernel_rfl) (by kernel_rfl) (by kernel_rfl) (fun _ _ _ h => h) (Or.inl ⟨by rfl, (by intro w' hSw; go_simp; try first | rfl | assumption | (simp [*]; done))⟩) (by assumption) ?_
    try simp only [Act.put, List.getElem_toArray, List.getElem_cons_succ, List.getElem_cons_zero, List.setIfInBounds_toArray, List.set_cons_zero, List.set_cons_succ]
    refine wpAnyH_take (i := 19) (v := .bool false) rfl (by kernel_rfl) (by kernel_rfl) (by kernel_rfl) (fun _ _ _ h => h) (Or.inl ⟨by rfl, (by intro w' hSw; go_simp; try first | rfl | assumption | (simp [*]; done))⟩) (by assumption) ?_
    try simp only [Act.put, List.getElem_toArray, List.getElem_cons_succ, List.getElem_cons_zero, List.setIfInBounds_toArray, List.set_cons_zero, List.set_cons_succ]
    refine wpAnyH_take (i := 20) (v := .bool false) rfl (by kernel_rfl) (by kernel_rfl) (by kernel_rfl) (fun _ _ _ h => h) (Or.inl ⟨by rfl, (by intro w' hSw; go_simp; try first | rfl | assumption | (simp [*]; done))⟩) (by assumption) ?_
    try simp only [Act.put, List.getElem_toArray, List.getElem_cons_succ, List.getElem_cons_zero, List.setIfInBounds_toArray, List.set_cons_zero, List.set_cons_succ]
    refine wpAnyH_take (i := 21) (v := gV (a : Int) (b : Int) A1 cs.length c1) rfl (by kernel_rfl) (by kernel_rfl) (by kernel_rfl) (fun _ _ _ h => h) (Or.inl ⟨by rfl, (by intro w' hSw; have q : ∀ i, w'.cell? ⟨gb, i, none⟩ = _ := fun i => cell_of_row w' _ i _ _ (0, 0) hSw.1; go_simp; try first | rfl | simp [q])⟩) (by assumption) ?_
    try simp only [Act.put, List.getElem_toArray, List.getElem_cons_succ, List.getElem_cons_zero, List.setIfInBounds_toArray, List.set_cons_zero, List.set_cons_succ]
    refine wpAnyH_take (i := 23) (v := gV (a : Int) (b : Int) A1 cs.length c1) rfl (by kernel_rfl) (by kernel_rfl) (by kernel_rfl) (fun _ _ _ h => h) (Or.inl ⟨by rfl, (by intro w' hSw; have q : ∀ i, w'.cell? ⟨gb, i, none⟩ = _ := fun i => cell_of_row w' _ i _ _ (0, 0) hSw.1; go_simp; try first | rfl | simp [q])⟩) (by assumption) ?_
    try simp only [Act.put, List.getElem_toArray, List.getElem_cons_succ, List.getElem_cons_zero, List.setIfInBounds_toArray, List.set_cons_zero, List.set_cons_succ]
    refine wpAnyH_ready (rs := [22]) (by kernel_rfl) (by simp) ?_
    refine AllReadyH.cons rfl (fun K hK => ?_) AllReadyH.nil
    go_simp
    refine (HR0.out _ (G12.below (E16))).mono ?_
    rintro e w17 ⟨AQ, cQ, rfl, oQ, gQ, _, e17⟩
    have E17 : Below w12.heap.size w12 w17 := (E16).trans (e17.mono (E16).size)
    have b17 := (E17.block _ (Array.getElem?_eq_some_iff.1 b12).1).trans b12
    have U17 := (E17.block _ (Array.getElem?_eq_some_iff.1 U12).1).trans U12
    have V17 := (E17.block _ (Array.getElem?_eq_some_iff.1 V12).1).trans V12
    have K17 := (E17.block _ (Array.getElem?_eq_some_iff.1 K12).1).trans K12
    refine hK.out _ _ ⟨b17, U17, V17, K17⟩ (fun hHeld => ?_)
    clear hK K
    try simp only [Act.put, List.getElem_toArray, List.getElem_cons_succ, List.getElem_cons_zero, List.setIfInBounds_toArray, List.set_cons_zero, List.set_cons_succ]
    refine wpAnyH_ready (rs := [24]) (by kernel_rfl) (by simp) ?_
    refine AllReadyH.cons rfl (fun K hK => ?_) AllReadyH.nil
    go_simp
    refine (HSA.out _ AQ cQ gQ (G12.below (E17))).mono ?_
    rintro e w18 ⟨rfl, e18⟩
    have E18 : Below w12.heap.size w12 w18 := (E17).trans (e18.mono (E17).size)
    have b18 := (E18.block _ (Array.getElem?_eq_some_iff.1 b12).1).trans b12
    have U18 := (E18.block _ (Array.getElem?_eq_some_iff.1 U12).1).trans U12
    have V18 := (E18.block _ (Array.getElem?_eq_some_iff.1 V12).1).trans V12
    have K18 := (E18.block _ (Array.getElem?_eq_some_iff.1 K12).1).trans K12
    refine hK.out _ _ ⟨b18, U18, V18, K18⟩ (fun hHeld => ?_)
    clear hK K
    try simp only [Act.put, List.getElem_toArray, List.getElem_cons_succ, List.getElem_cons_zero, List.setIfInBounds_toArray, List.set_cons_zero, List.set_cons_succ]
    refine wpAnyH_take (i := 25) (v := .bool false) rfl (by kernel_rfl) (by kernel_rfl) (by kernel_rfl) (fun _ _ _ h => h) (Or.inl ⟨by rfl, (by intro w' hSw; go_simp; try first | rfl | assumption | (simp [*]; done))⟩) (by assumption) ?_
    try simp only [Act.put, List.getElem_toArray, List.getElem_cons_succ, List.getElem_cons_zero, List.setIfInBounds_toArray, List.set_cons_zero, List.set_cons_succ]
    refine wpAnyH_take (i := 26) (v := .bool false) rfl (by kernel_rfl) (by kernel_rfl) (by kernel_rfl) (fun _ _ _ h => h) (Or.inl ⟨by rfl, (by intro w' hSw; go_simp; try first | rfl | assumption | (simp [*]; done))⟩) (by assumption) ?_
    try simp only [Act.put, List.getElem_toArray, List.getElem_cons_succ, List.getElem_cons_zero, List.setIfInBounds_toArray, List.set_cons_zero, List.set_cons_succ]
    refine wpAnyH_take (i := 27) (v := .bool false) rfl (by kernel_rfl) (by kernel_rfl) (by kernel_rfl) (fun _ _ _ h => h) (Or.inl ⟨by rfl, (by intro w' hSw; go_simp; try first | rfl | assumption | (simp [*]; done))⟩) (by assumption) ?_
    try simp only [Act.put, List.getElem_toArray, List.getElem_cons_succ, List.getElem_cons_zero, List.setIfInBounds_toArray, List.set_cons_zero, List.set_cons_succ]
    refine wpAnyH_take (i := 28) (v := gV (a : Int) (b : Int) A1 cs.length c1) rfl (by kernel_rfl) (by kernel_rfl) (by kernel_rfl) (fun _ _ _ h => h) (Or.inl ⟨by rfl, (by intro w' hSw; have q : ∀ i, w'.cell? ⟨gb, i, none⟩ = _ := fun i => cell_of_row w' _ i _ _ (0, 0) hSw.1; go_simp; try first | rfl | simp [q])⟩) (by assumption) ?_
    try simp only [Act.put, List.getElem_toArray, List.getElem_cons_succ, List.getElem_cons_zero, List.setIfInBounds_toArray, List.set_cons_zero, List.set_cons_succ]
    refine wpAnyH_take (i := 29) (v := .int .i64 (y : Int)) rfl (by kernel_rfl) (by kernel_rfl) (by kernel_rfl) (fun _ _ _ h => h) (Or.inl ⟨by rfl, (by intro w' hSw; go_simp; try first | rfl | assumption | (simp [*]; done))⟩) (by assumption) ?_
    try simp only [Act.put, List.getElem_toArray, List.getElem_cons_succ, List.getElem_cons_zero, List.setIfInBounds_toArray, List.set_cons_zero, List.set_cons_succ]
    refine wpAnyH_take (i := 31) (v := gV (a : Int) (b : Int) A1 cs.length c1) rfl (by kernel_rfl) (by kernel_rfl) (by kernel_rfl) (fun _ _ _ h => h) (Or.inl ⟨by rfl, (by intro w' hSw; have q : ∀ i, w'.cell? ⟨gb, i, none⟩ = _ := fun i => cell_of_row w' _ i _ _ (0, 0) hSw.1; go_simp; try first | rfl | simp [q])⟩) (by assumption) ?_
    try simp only [Act.put, List.getElem_toArray, List.getElem_cons_succ, List.getElem_cons_zero, List.setIfInBounds_toArray, List.set_cons_zero, List.set_cons_succ]
    refine wpAnyH_ready (rs := [30]) (by kernel_rfl) (by simp) ?_
    refine AllReadyH.cons rfl (fun K hK => ?_) AllReadyH.nil
    go_simp
    refine (HS0.out _ (G12.below (E18))).mono ?_
    rintro e w19 ⟨AR, cR, rfl, oR, gR, _, e19⟩
    have E19 : Below w12.heap.size w12 w19 := (E18).trans (e19.mono (E18).size)
    have b19 := (E19.block _ (Array.getElem?_eq_some_iff.1 b12).1).trans b12
    have U19 := (E19.block _ (Array.getElem?_eq_some_iff.1 U12).1).trans U12
    have V19 := (E19.block _ (Array.getElem?_eq_some_iff.1 V12).1).trans V12
    have K19 := (E19.block _ (Array.getElem?_eq_some_iff.1 K12).1).trans K12
    refine hK.out _ _ ⟨b19, U19, V19, K19⟩ (fun hHeld => ?_)
    clear hK K
    try simp only [Act.put, List.getElem_toArray, List.getElem_cons_succ, List.getElem_cons_zero, List.setIfInBounds_toArray, List.set_cons_zero, List.set_cons_succ]
    refine wpAnyH_ready (rs := [32]) (by kernel_rfl) (by simp) ?_
    refine AllReadyH.cons rfl (fun K hK => ?_) AllReadyH.nil
    go_simp
    refine (HSA.out _ AR cR gR (G12.below (E19))).mono ?_
    rintro e w20 ⟨rfl, e20⟩
    have E20 : Below w12.heap.size w12 w20 := (E19).trans (e20.mono (E19).size)
    have b20 := (E20.block _ (Array.getElem?_eq_some_iff.1 b12).1).trans b12
    have U20 := (E20.block _ (Array.getElem?_eq_some_iff.1 U12).1).trans U12
    have V20 := (E20.block _ (Array.getElem?_eq_some_iff.1 V12).1).trans V12
    have K20 := (E20.block _ (Array.getElem?_eq_some_iff.1 K12).1).trans K12
    refine hK.out _ _ ⟨b20, U20, V20, K20⟩ (fun hHeld => ?_)
    clear hK K
    try simp only [Act.put, List.getElem_toArray, List.getElem_cons_succ, List.getElem_cons_zero, List.setIfInBounds_toArray, List.set_cons_zero, List.set_cons_succ]
    refine wpAnyH_take (i := 33) (v := .bool false) rfl (by kernel_rfl) (by kernel_rfl) (by kernel_rfl) (fun _ _ _ h => h) (Or.inl ⟨by rfl, (by intro w' hSw; go_simp; try first | rfl | assumption | (simp [*]; done))⟩) (by assumption) ?_
    try simp only [Act.put, List.getElem_toArray, List.getElem_cons_succ, List.getElem_cons_zero, List.setIfInBounds_toArray, List.set_cons_zero, List.set_cons_succ]
    refine wpAnyH_take (i := 34) (v := .bool false) rfl (by kernel_rfl) (by kernel_rfl) (by kernel_rfl) (fun _ _ _ h => h) (Or.inl ⟨by rfl, (by intro w' hSw; go_simp; try first | rfl | assumption | (simp [*]; done))⟩) (by assumption) ?_
    try simp only [Act.put, List.getElem_toArray, List.getElem_cons_succ, List.getElem_cons_zero, List.setIfInBounds_toArray, List.set_cons_zero, List.set_cons_succ]
    refine wpAnyH_done (by kernel_rfl) ?_ _
    clear hHeld
    have t20 := t12.trans (E20.mono t12.size)
    have G20 := G12.below E20
    have GU20 := GU12.below E20
    have GV20 := GV12.below E20
    clear e13 E13 e14 E14 e15 E15 e16 E16 e17 E17 e18 E18 e19 E19 b12 U12 V12 K12 b13 U13 V13 K13 b14 U14 V14 K14 b15 U15 V15 K15 b16 U16 V16 K16 b17 U17 V17 K17 b18 U18 V18 K18 b19 U19 V19 K19 oP gP oQ gQ oR gR G12 GU12 GV12 GB12 t12
    have q20 : ∀ i, w20.cell? ⟨gb, i, none⟩ = _ := fun i => cell_of_row w20 _ i _ _ (0, 0) b20
    go_wp2_with fail
    clear q20
    go_loopw [90] (fun iv wr => ∃ k : Nat, k ≤ cs.length ∧ iv = .int .i64 k ∧ Below w20.heap.size w20 wr) (fun iv _ => cs.length - (intOf iv).toNat)
    case atStart => exact ⟨0, Nat.zero_le _, rfl, Below.refl _ _⟩
    case round =>
      obtain ⟨k, hk, rfl, hb9⟩ := hrel
      by_cases hlt : k < cs.length
      · have hlt' : (k : Int) < cs.length := by omega
        have bR := (hb9.block _ (Array.getElem?_eq_some_iff.1 b20).1).trans b20
        have UR := (hb9.block _ (Array.getElem?_eq_some_iff.1 U20).1).trans U20
        have VR := (hb9.block _ (Array.getElem?_eq_some_iff.1 V20).1).trans V20
        have lb := (Array.getElem?_eq_some_iff.1 bR).1
        have lu := (Array.getElem?_eq_some_iff.1 UR).1
        have lv := (Array.getElem?_eq_some_iff.1 VR).1
        have qb : ∀ i, wr.cell? ⟨gb, i, none⟩ = _ := fun i => cell_of_row wr _ i _ _ (0, 0) bR
        have qu : ∀ i, wr.cell? ⟨gu, i, none⟩ = _ := fun i => cell_of_row wr _ i _ _ (0, 0) UR
        have qv : ∀ i, wr.cell? ⟨gl, i, none⟩ = _ := fun i => cell_of_row wr _ i _ _ (0, 0) VR
        obtain ⟨⟨x0, x1, x2, x3, x4, x5⟩, hx⟩ : ∃ x, Hid (cs.getD k cl0 = x) := ⟨_, Lib.hid rfl⟩
        have hUk := roll_back (n := n) (i := k) hOK.out (by rw [← hL.out]; exact hlt)
        rw [← hX.out, ← hU.out, hx.out] at hUk
        have hVk := shift_back (n := n) (i := k) hp hlt
        rw [← hV1.out, ← hV.out, hx.out] at hVk
        have HUk := Lib.hid hUk
        have HVk := Lib.hid hVk
        clear hUk hVk
        obtain ⟨hrow, hrr⟩ := row_of (i := k) (show 0 < a by omega)
        obtain ⟨qq, hqq⟩ : ∃ q, q = k / a := ⟨_, rfl⟩
        obtain ⟨rr, hrr2⟩ : ∃ r, r = k % a := ⟨_, rfl⟩
        have eq1 : Int.tdiv (k : Int) (a : Int) = (qq : Int) := by rw [hqq]; exact (Int.ofNat_tdiv _ _).symm
        have eq2 : (k : Int) / (a : Int) = (qq : Int) := by rw [hqq]; simp
        have er1 : Int.tmod (k : Int) (a : Int) = (rr : Int) := by rw [hrr2]; exact (Int.ofNat_tmod _ _).symm
        have er2 : (k : Int) % (a : Int) = (rr : Int) := by rw [hrr2]; simp
        have hin : (y * a ≤ k ∧ k < y * a + a) ↔ qq = y := by
          rw [hqq]
          constructor
          · intro h
            have hrw := (at_div (a := a) (q := y) (r := k - y * a) (by omega)).1
            rwa [show y * a + (k - y * a) = k by omega] at hrw
          · intro h
            rw [h] at hrow
            omega
        have hkp : qq = y → k - y * a = rr := fun h => by rw [hqq] at h; rw [h, ← hrr2] at hrow; omega
        rw [← hqq] at HUk
        have haz : ¬ (a : Int) = 0 := by omega
        have hqn : (qq : Int) ≤ 28 := (by have h5 : qq ≤ k := (by rw [hqq]; exact Nat.div_le_self _ _); omega)
        clear hrow hqq hrr2 hrr
        have GRx := (G20.below hb9).get1 hlt _ hx.out
        by_cases h1 : qq < n
        · by_cases h2 : qq = y
          · by_cases h3 : rr < n
            · have hUc : U.getD k cl0 = (32, 0, 0, false, false, false) := by rw [HUk.out]; exact if_pos h1
              have hVc : V.getD k cl0 = (32, 0, 0, false, false, false) := by rw [HVk.out]; exact if_pos ⟨hin.2 h2, by rw [hkp h2]; exact h3⟩
              have GRu := (GU20.below hb9).get1 (by rw [UL.out]; exact hlt) _ hUc
              have GRv := (GV20.below hb9).get1 (by rw [VL.out]; exact hlt) _ hVc
              obtain ⟨b1_, o1_, rfl, g0, g1, g2, g3, g4, g5⟩ := GRx
              obtain ⟨b2_, o2_, rfl, u0, u1, u2, u3, u4, u5⟩ := GRu
              obtain ⟨b3_, o3_, rfl, v0, v1, v2, v3, v4, v5⟩ := GRv
              dsimp only at g0 g1 g2 g3 g4 g5 u0 u1 u2 u3 u4 u5 v0 v1 v2 v3 v4 v5
              have l1 := World.block_lt_of_cell? wr _ g0
              have l2 := World.block_lt_of_cell? wr _ u0
              have l3 := World.block_lt_of_cell? wr _ v0
              dsimp only at l1 l2 l3
              have hUL : (k : Int) < (U.length : Int) := by rw [UL.out]; exact hlt'
              have hVL : (k : Int) < (V.length : Int) := by rw [VL.out]; exact hlt'
              have c1_ : (qq : Int) < (n : Int) := by omega
              have c2_ : ((qq : Int) == (y : Int)) = true := by simp; omega
              have c3_ : (rr : Int) < (n : Int) := by omega
              clear hUc hVc hin hkp
              go_wp2_with fail
              go_region
              go_wp2_with fail
              go_roundw
              case rel => exact ⟨k + 1, by omega, by go_num, (by first | exact hb9.trans ((((Below.refl _ _).alloc hb9.size _).alloc (by simp; have := hb9.size; omega) _).drew) | exact hb9.trans (((Below.refl _ _).alloc hb9.size _).alloc (by simp; have := hb9.size; omega) _))⟩
              case measure => simp [intOf]; omega
            · have hUc : U.getD k cl0 = (32, 0, 0, false, false, false) := by rw [HUk.out]; exact if_pos h1
              have hVc : V.getD k cl0 = (x0, x1, x2, x3, x4, x5) := by rw [HVk.out]; exact if_neg (fun h => h3 (by rw [← hkp h2]; exact h.2))
              have GRu := (GU20.below hb9).get1 (by rw [UL.out]; exact hlt) _ hUc
              have GRv := (GV20.below hb9).get1 (by rw [VL.out]; exact hlt) _ hVc
              obtain ⟨b1_, o1_, rfl, g0, g1, g2, g3, g4, g5⟩ := GRx
              obtain ⟨b2_, o2_, rfl, u0, u1, u2, u3, u4, u5⟩ := GRu
              obtain ⟨b3_, o3_, rfl, v0, v1, v2, v3, v4, v5⟩ := GRv
              dsimp only at g0 g1 g2 g3 g4 g5 u0 u1 u2 u3 u4 u5 v0 v1 v2 v3 v4 v5
              have l1 := World.block_lt_of_cell? wr _ g0
              have l2 := World.block_lt_of_cell? wr _ u0
              have l3 := World.block_lt_of_cell? wr _ v0
              dsimp only at l1 l2 l3
              have hUL : (k : Int) < (U.length : Int) := by rw [UL.out]; exact hlt'
              have hVL : (k : Int) < (V.length : Int) := by rw [VL.out]; exact hlt'
              have c1_ : (qq : Int) < (n : Int) := by omega
              have c2_ : ((qq : Int) == (y : Int)) = true := by simp; omega
              have c3_ : ¬ (rr : Int) < (n : Int) := by omega
              clear hUc hVc hin hkp
              go_wp2_with fail
              go_region
              go_wp2_with fail
              go_roundw
              case rel => exact ⟨k + 1, by omega, by go_num, (by first | exact hb9.trans ((((Below.refl _ _).alloc hb9.size _).alloc (by simp; have := hb9.size; omega) _).drew) | exact hb9.trans (((Below.refl _ _).alloc hb9.size _).alloc (by simp; have := hb9.size; omega) _))⟩
              case measure => simp [intOf]; omega
          · have hUc : U.getD k cl0 = (32, 0, 0, false, false, false) := by rw [HUk.out]; exact if_pos h1
            have hVc : V.getD k cl0 = (x0, x1, x2, x3, x4, x5) := by rw [HVk.out]; exact if_neg (fun h => h2 (hin.1 h.1))
            have GRu := (GU20.below hb9).get1 (by rw [UL.out]; exact hlt) _ hUc
            have GRv := (GV20.below hb9).get1 (by rw [VL.out]; exact hlt) _ hVc
            obtain ⟨b1_, o1_, rfl, g0, g1, g2, g3, g4, g5⟩ := GRx
            obtain ⟨b2_, o2_, rfl, u0, u1, u2, u3, u4, u5⟩ := GRu
            obtain ⟨b3_, o3_, rfl, v0, v1, v2, v3, v4, v5⟩ := GRv
            dsimp only at g0 g1 g2 g3 g4 g5 u0 u1 u2 u3 u4 u5 v0 v1 v2 v3 v4 v5
            have l1 := World.block_lt_of_cell? wr _ g0
            have l2 := World.block_lt_of_cell? wr _ u0
            have l3 := World.block_lt_of_cell? wr _ v0
            dsimp only at l1 l2 l3
            have hUL : (k : Int) < (U.length : Int) := by rw [UL.out]; exact hlt'
            have hVL : (k : Int) < (V.length : Int) := by rw [VL.out]; exact hlt'
            have c1_ : (qq : Int) < (n : Int) := by omega
            have c2_ : ((qq : Int) == (y : Int)) = false := by simp; omega
            clear hUc hVc hin hkp
            go_wp2_with fail
            go_region
            go_wp2_with fail
            go_roundw
            case rel => exact ⟨k + 1, by omega, by go_num, (by first | exact hb9.trans ((((Below.refl _ _).alloc hb9.size _).alloc (by simp; have := hb9.size; omega) _).drew) | exact hb9.trans (((Below.refl _ _).alloc hb9.size _).alloc (by simp; have := hb9.size; omega) _))⟩
            case measure => simp [intOf]; omega
        · by_cases h2 : qq = y
          · by_cases h3 : rr < n
            · have hUc : U.getD k cl0 = (x0, x1, x2, x3, x4, x5) := by rw [HUk.out]; exact if_neg h1
              have hVc : V.getD k cl0 = (32, 0, 0, false, false, false) := by rw [HVk.out]; exact if_pos ⟨hin.2 h2, by rw [hkp h2]; exact h3⟩
              have GRu := (GU20.below hb9).get1 (by rw [UL.out]; exact hlt) _ hUc
              have GRv := (GV20.below hb9).get1 (by rw [VL.out]; exact hlt) _ hVc
              obtain ⟨b1_, o1_, rfl, g0, g1, g2, g3, g4, g5⟩ := GRx
              obtain ⟨b2_, o2_, rfl, u0, u1, u2, u3, u4, u5⟩ := GRu
              obtain ⟨b3_, o3_, rfl, v0, v1, v2, v3, v4, v5⟩ := GRv
              dsimp only at g0 g1 g2 g3 g4 g5 u0 u1 u2 u3 u4 u5 v0 v1 v2 v3 v4 v5
              have l1 := World.block_lt_of_cell? wr _ g0
              have l2 := World.block_lt_of_cell? wr _ u0
              have l3 := World.block_lt_of_cell? wr _ v0
              dsimp only at l1 l2 l3
              have hUL : (k : Int) < (U.length : Int) := by rw [UL.out]; exact hlt'
              have hVL : (k : Int) < (V.length : Int) := by rw [VL.out]; exact hlt'
              have c1_ : ¬ (qq : Int) < (n : Int) := by omega
              have c2_ : ((qq : Int) == (y : Int)) = true := by simp; omega
              have c3_ : (rr : Int) < (n : Int) := by omega
              clear hUc hVc hin hkp
              go_wp2_with fail
              go_region
              go_wp2_with fail
              go_roundw
              case rel => exact ⟨k + 1, by omega, by go_num, (by first | exact hb9.trans ((((Below.refl _ _).alloc hb9.size _).alloc (by simp; have := hb9.size; omega) _).drew) | exact hb9.trans (((Below.refl _ _).alloc hb9.size _).alloc (by simp; have := hb9.size; omega) _))⟩
              case measure => simp [intOf]; omega
            · have hUc : U.getD k cl0 = (x0, x1, x2, x3, x4, x5) := by rw [HUk.out]; exact if_neg h1
              have hVc : V.getD k cl0 = (x0, x1, x2, x3, x4, x5) := by rw [HVk.out]; exact if_neg (fun h => h3 (by rw [← hkp h2]; exact h.2))
              have GRu := (GU20.below hb9).get1 (by rw [UL.out]; exact hlt) _ hUc
              have GRv := (GV20.below hb9).get1 (by rw [VL.out]; exact hlt) _ hVc
              obtain ⟨b1_, o1_, rfl, g0, g1, g2, g3, g4, g5⟩ := GRx
              obtain ⟨b2_, o2_, rfl, u0, u1, u2, u3, u4, u5⟩ := GRu
              obtain ⟨b3_, o3_, rfl, v0, v1, v2, v3, v4, v5⟩ := GRv
              dsimp only at g0 g1 g2 g3 g4 g5 u0 u1 u2 u3 u4 u5 v0 v1 v2 v3 v4 v5
              have l1 := World.block_lt_of_cell? wr _ g0
              have l2 := World.block_lt_of_cell? wr _ u0
              have l3 := World.block_lt_of_cell? wr _ v0
              dsimp only at l1 l2 l3
              have hUL : (k : Int) < (U.length : Int) := by rw [UL.out]; exact hlt'
              have hVL : (k : Int) < (V.length : Int) := by rw [VL.out]; exact hlt'
              have c1_ : ¬ (qq : Int) < (n : Int) := by omega
              have c2_ : ((qq : Int) == (y : Int)) = true := by simp; omega
              have c3_ : ¬ (rr : Int) < (n : Int) := by omega
              clear hUc hVc hin hkp
              go_wp2_with fail
              go_region
              go_wp2_with fail
              go_roundw
              case rel => exact ⟨k + 1, by omega, by go_num, (by first | exact hb9.trans ((((Below.refl _ _).alloc hb9.size _).alloc (by simp; have := hb9.size; omega) _).drew) | exact hb9.trans (((Below.refl _ _).alloc hb9.size _).alloc (by simp; have := hb9.size; omega) _))⟩
              case measure => simp [intOf]; omega
          · have hUc : U.getD k cl0 = (x0, x1, x2, x3, x4, x5) := by rw [HUk.out]; exact if_neg h1
            have hVc : V.getD k cl0 = (x0, x1, x2, x3, x4, x5) := by rw [HVk.out]; exact if_neg (fun h => h2 (hin.1 h.1))
            have GRu := (GU20.below hb9).get1 (by rw [UL.out]; exact hlt) _ hUc
            have GRv := (GV20.below hb9).get1 (by rw [VL.out]; exact hlt) _ hVc
            obtain ⟨b1_, o1_, rfl, g0, g1, g2, g3, g4, g5⟩ := GRx
            obtain ⟨b2_, o2_, rfl, u0, u1, u2, u3, u4, u5⟩ := GRu
            obtain ⟨b3_, o3_, rfl, v0, v1, v2, v3, v4, v5⟩ := GRv
            dsimp only at g0 g1 g2 g3 g4 g5 u0 u1 u2 u3 u4 u5 v0 v1 v2 v3 v4 v5
            have l1 := World.block_lt_of_cell? wr _ g0
            have l2 := World.block_lt_of_cell? wr _ u0
            have l3 := World.block_lt_of_cell? wr _ v0
            dsimp only at l1 l2 l3
            have hUL : (k : Int) < (U.length : Int) := by rw [UL.out]; exact hlt'
            have hVL : (k : Int) < (V.length : Int) := by rw [VL.out]; exact hlt'
            have c1_ : ¬ (qq : Int) < (n : Int) := by omega
            have c2_ : ((qq : Int) == (y : Int)) = false := by simp; omega
            clear hUc hVc hin hkp
            go_wp2_with fail
            go_region
            go_wp2_with fail
            go_roundw
            case rel => exact ⟨k + 1, by omega, by go_num, (by first | exact hb9.trans ((((Below.refl _ _).alloc hb9.size _).alloc (by simp; have := hb9.size; omega) _).drew) | exact hb9.trans (((Below.refl _ _).alloc hb9.size _).alloc (by simp; have := hb9.size; omega) _))⟩
            case measure => simp [intOf]; omega
      · have hlt' : ¬ (k : Int) < cs.length := by omega
        go_wp2_with fail
        go_ret
        exact ⟨rfl, t20.trans (hb9.mono t20.size)⟩
end Go.Proofs.Ytnilgcahggmncaa
