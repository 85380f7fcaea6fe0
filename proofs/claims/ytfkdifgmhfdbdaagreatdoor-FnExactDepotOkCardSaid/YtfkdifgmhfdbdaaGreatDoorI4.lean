/- slices.Insert at links: one link put at its place. -/
import Derived.Test.YtfkdifgmhfdbdaaGreatDoorI3
import Derived.Laws.Externs
import Derived.Laws.NewBlocks
import Derived.Deep.RegionHeld3
namespace Go.Proofs.YtfkdifgmhfdbdaaGreatDoor
open Go.RowKit
set_option linter.unusedVariables false
set_option maxRecDepth 100000

section
variable {T : Type} {k : Nat} {enc : T → List Value} {w w' : World} {A : Option Addr} {xs : List T} {e : TypeId} {lo c : Nat}
theorem Oe.fillC (hk : ∀ x, (enc x).length = k) (h : Oe e k enc w lo A c xs) (hx : 0 < xs.length) : ∃ g, A = some ⟨g, 0, none⟩ ∧ lo ≤ g ∧ c ≤ maxLen ∧ xs.length ≤ c ∧ Fill w g e (c * k) (xs.flatMap enc) := by
  rcases h.2 with ⟨h1, h2⟩ | ⟨g, cap, cur, fz, hv, hg, hh, hz, hc1, hc2, hc3, ht⟩
  · omega
  · injection hv with hv _ hv3
    subst hv3
    exact ⟨g, hv, hg, hc2, hc1, cur, fz, hh, hz, hc3, by rw [flat_len hk]; exact ht, by rw [flat_len hk]; exact Nat.mul_le_mul_right _ hc1⟩
theorem Fill.cells {g N : Nat} {t : TypeId} {L : List Value} (h : Fill w g t N L) : ∀ j u, L[j]? = some u → w.cell? ⟨g, j, none⟩ = some u := by
  obtain ⟨cur, fz, h1, hz, h2, h3, h4⟩ := h
  intro j u hu
  have hj := (List.getElem?_eq_some_iff.1 hu).1
  rw [cell_of_row w g j cur t fz h1]
  rw [← h3, List.getElem?_take_of_lt hj] at hu
  simpa using hu
theorem flat_sub (hk : ∀ x, (enc x).length = k) {i : Nat} (hi : i ≤ xs.length) : ((xs.flatMap enc).take (i * k)) = (xs.take i).flatMap enc := flat_take hk xs i hi
end
theorem step_copyE {P : Program} {ops : Array Oper} {o : Oper} {a : Act} {w : World} {K : Act → World → Prop} {Q : Exit → Act → World → Prop} {E : Prop}
    (hg : o.guard = none) (d x : Operand) (dT sT : TypeId) (hop : o.op = Op.call { callee := Callee.builtin Builtin.copy, args := #[d, x], argTypes := #[dT, sT] })
    (v u : Value) (hd : a.eval d = v) (hx : a.eval x = u) {v' : Value} {w' : World} (hr : (Builtin.copy_ #[dT, sT] o.type #[v, u]).run P w = .ok v' w') (hK : K (a.put o.dst v') w') :
    if Region.wanted o (yielded ops a.tmps) = true then Oper.wp P o a w K Q else E := by
  have hw : Region.wanted o (yielded ops a.tmps) = true := by simp [Region.wanted, hg]
  rw [if_pos hw]
  unfold Oper.wp
  simp [execOp, hop, resolve, invoke, builtin, hd, hx, hr, Result.andThen]
  exact hK
theorem wpList_copyE {P : Program} (w : World) {ops : Array Oper} {rest : List Oper} {o : Oper} {a : Act} {Q : Exit → Act → World → Prop} (hgd : o.guard = none) (d s : Operand) (t t' : TypeId)
    (ho : o.op = .call { callee := .builtin .copy, args := #[d, s], argTypes := #[t, t'] }) (v u : Value) (hd : a.eval d = v) (hs : a.eval s = u) {v' : Value} {w' : World}
    (hr : (Builtin.copy_ #[t, t'] o.type #[v, u]).run P w = .ok v' w') (h : wpList P ops Q rest (a.put o.dst v') w') : wpList P ops Q (o :: rest) a w :=
  wpList_plain hgd fun _ hK => by
    unfold Oper.wp execOp
    simp only [ho, resolve, invoke, builtin, Sem.run_bind, Sem.run_pure, Result.andThen_ok, List.map_toArray, List.map_cons, List.map_nil, hd, hs, hr]
    exact hK _ _ h
/-- A link put at place i. -/
def insL (xs : List Lk) (i : Nat) (l : Lk) : List Lk := xs.take i ++ [l] ++ xs.drop i
theorem insL_len (xs : List Lk) (i : Nat) (l : Lk) : (insL xs i l).length = xs.length + 1 := by
  have := congrArg List.length (List.take_append_drop i xs)
  simp only [insL, List.length_append, List.length_singleton] at this ⊢
  omega
/-- What answers links of one's own, from block lo on; blocks ahead of lo stay. -/
def OwPost (lo : Nat) (w : World) (us : List Lk) (e : Ending) (w' : World) : Prop :=
  ∃ A' c', e = .returned (.slice A' us.length c') ∧ Oe 67 2 lkL w' lo A' c' us ∧ Below lo w w'
theorem info_link2 : (Tryz.prog.info? 67).map (·.size) = some 2 := by kernel_rfl
set_option maxHeartbeats 4000000 in
theorem insL_end (lo : Nat) (A : Option Addr) (c n : Nat) (xs : List Lk) (l : Lk) (vb vc : Nat) (w : World) (h : Oe 67 2 lkL w lo A c xs) (hl : xs.length ≤ 1000) (hlo : lo ≤ w.heap.size) (hn : Hid (n = xs.length))
    (hv : w.heap[vb]? = some (.cells (lkL l).toArray 67 (0, 0))) :
    Calls Tryz.prog 136 #[.slice A n c, .int .i64 n, .slice (some ⟨vb, 0, none⟩) 1 vc] w (OwPost lo w (xs ++ [l])) := by
  have hy : SlL w (some ⟨vb, 0, none⟩) 2 lkL [l] := SlL.of_cells lk2 fun j u hu => by
    rw [Nat.zero_add, cell_of_row w vb j _ _ (0, 0) hv]
    simpa using hu
  have hn1 : (n : Int) ≤ c := by have := hn.out; have := h.cap; omega
  have hn0 : n ≤ 1000 := by have := hn.out; omega
  go_enter Tryz.func136, Tryz.ntmps136
  go_wp2_with (at_builtin; refine wp_appE 32 67 _ _ Tryz.underlying32 info_link (by decide) rfl (by decide) lk2 lk_one rfl _ _ rfl lo A c xs _ n ⟨vb, 0, none⟩ 1 vc [l] h hy hn.out rfl rfl rfl (by omega) (by simp) hlo ?_; intro A2 c2 w2 us hus ho2 hb2 hk2)
  all_goals (
    go_ret
    have hE := hus.out
    subst hE
    exact ⟨A2, c2, rfl, ho2, hb2⟩)
set_option maxHeartbeats 8000000 in
theorem insL_shift (lo : Nat) (A : Option Addr) (c n i : Nat) (xs : List Lk) (l : Lk) (vb vc : Nat) (w : World) (h : Oe 67 2 lkL w lo A c xs) (hl : n ≤ 1000) (hn : Hid (n = xs.length)) (hi : i < n) (hroom : n + 1 ≤ c)
    (hv : w.heap[vb]? = some (.cells (lkL l).toArray 67 (0, 0))) (hvb : ∀ ad, A = some ad → ad.block ≠ vb) :
    Calls Tryz.prog 136 #[.slice A n c, .int .i64 i, .slice (some ⟨vb, 0, none⟩) 1 vc] w (OwPost lo w (insL xs i l)) := by
  obtain ⟨g, rfl, hlo, hcm, _, hF⟩ := h.fillC lk2 (by have := hn.out; omega)
  have hne : g ≠ vb := hvb _ rfl
  have hcv : c ≤ 9223372036854775807 := by unfold maxLen at hcm; omega
  have hlen : (xs.flatMap lkL).length = n * 2 := by rw [flat_len lk2, ← hn.out]
  have hdl : ((xs.drop i).flatMap lkL).length = (n - i) * 2 := by rw [flat_len lk2, List.length_drop, ← hn.out]
  have hgs := hF.lt
  have hvs : vb < w.heap.size := (Array.getElem?_eq_some_iff.1 hv).1
  obtain ⟨ty9, hty9⟩ : ∃ ty : TypeId, ty = 3 := ⟨_, rfl⟩
  obtain ⟨W1, hr1, hF1, hg1⟩ := copy_fillE (P := Tryz.prog) w.drew 32 32 3 67 2 (n - i) g ((i + 1) * 2) (n + 1 - (i + 1)) (c - (i + 1)) (c * 2) ⟨g, i * 2, none⟩ (n + 1 - i) (c - i) 67 (xs.flatMap lkL) ((xs.drop i).flatMap lkL) Tryz.underlying32 info_link2
    hF (by simp only [Nat.min_def]; split <;> omega) hdl (fun j v hj => by
      rw [Addr.add_lit]
      refine hF.cells _ _ ?_
      rw [← flat_drop lk2 xs i (by have := hn.out; omega), List.getElem?_drop] at hj
      exact hj) (by omega) (by omega) (flat_one lk_one _)
  have hv1 : W1.heap[vb]? = some (.cells (lkL l).toArray 67 (0, 0)) := (hg1.block vb hvs (by simpa using fun h => hne h.symm)).trans hv
  obtain ⟨W2, hr2, hF2, hg2⟩ := copy_fillE (P := Tryz.prog) W1 32 32 3 67 2 1 g (i * 2) (n + 1 - i) (c - i) (c * 2) ⟨vb, 0, none⟩ 1 vc 67 _ (lkL l) Tryz.underlying32 info_link2
    hF1 (by simp only [Nat.min_def]; split <;> omega) rfl (fun j v hj => by
      rw [Addr.add_lit, Nat.zero_add, cell_of_row W1 vb j _ _ (0, 0) hv1]
      simpa using hj) (by simp only [List.length_append, List.length_take, hlen]; omega) (by simp; omega) (lk_one l)
  have hE : (((xs.flatMap lkL).take ((i + 1) * 2) ++ (xs.drop i).flatMap lkL ++ (xs.flatMap lkL).drop ((i + 1) * 2 + ((xs.drop i).flatMap lkL).length)).take (i * 2) ++ lkL l ++ ((xs.flatMap lkL).take ((i + 1) * 2) ++ (xs.drop i).flatMap lkL ++ (xs.flatMap lkL).drop ((i + 1) * 2 + ((xs.drop i).flatMap lkL).length)).drop (i * 2 + (lkL l).length)) = (insL xs i l).flatMap lkL := by
    have e1 : (xs.flatMap lkL).drop ((i + 1) * 2 + ((xs.drop i).flatMap lkL).length) = [] := List.drop_of_length_le (by omega)
    rw [e1, List.append_nil, List.take_append_of_le_length (by simp only [List.length_take, hlen]; omega), List.take_take, Nat.min_eq_left (by omega), flat_take lk2 xs i (by have := hn.out; omega)]
    rw [show i * 2 + (lkL l).length = (i + 1) * 2 from by simp; omega, List.drop_append_of_le_length (by simp only [List.length_take, hlen]; omega), List.drop_take, Nat.sub_self, List.take_zero, List.nil_append]
    rw [insL, List.flatMap_append, List.flatMap_append]
    simp
  rw [hE] at hF2
  have hown : Oe 67 2 lkL W2 lo (some ⟨g, 0, none⟩) c (insL xs i l) := Oe.of_fill lk2 hF2 (by rw [insL_len, ← hn.out]; omega) hlo hcm
  have hbel : Below lo w W2 := ((Below.refl lo w).drew.grown hg1 (by show lo ≤ w.heap.size; omega) (by intro k hk; injection hk with hk; omega)).grown hg2 (by have := hg1.size; show lo ≤ _; have h2 : w.heap.size ≤ W1.heap.size := this; omega) (by intro k hk; injection hk with hk; omega)
  have HO := Lib.hid (And.intro hown hbel)
  have hL : Hid ((insL xs i l).length = n + 1) := by show _ = _; rw [insL_len, ← hn.out]
  have hsa : w.shape? vb = some (67, 2) := by simp [World.shape?, hv]
  have hsb : w.shape? g = some (67, c * 2) := by
    obtain ⟨cur, fz, h1, hz, h2, _⟩ := hF
    simp [World.shape?, h1, h2]
  have hfa : w.frozen? ⟨vb, 0, none⟩ = false := by simp [World.frozen?, hv]
  have hfe : w.frozen? ⟨vb, 2, none⟩ = false := by simp [World.frozen?, hv]
  have hov : ∀ lb cb, (callFunc 161 #[.slice (some ⟨vb, 0, none⟩) 1 vc, .slice (some ⟨g, (i + 1) * 2, none⟩) lb cb]).run Tryz.prog w = .ok (.value (.bool false)) w := fun lb cb => by
    rw [run_callFunc_extern Tryz.func161 (by kernel_rfl) (by kernel_rfl) (by kernel_rfl) (e := Extern.SlicesOverlaps.overlaps #[32, 32] #[4]) (by kernel_rfl),
      Lib.run_overlaps_apart w 32 4 67 Tryz.underlying32 2 (fun w => by kernel_rfl) ⟨vb, 0, none⟩ ⟨g, (i + 1) * 2, none⟩ 1 vc lb cb (fun h => hne h.symm) 67 67 2 (c * 2) hsa hsb (by omega) hfa hfe]
    rfl
  have hz2 : ¬ ((i : Int) = (n : Int)) := by omega
  have hw1 : IntKind.i64.wrap ((i : Int) + 1) = (i : Int) + 1 := by rw [IntKind.wrap_i64]; omega
  have hw2 : IntKind.i64.wrap ((n : Int) + 1) = (n : Int) + 1 := by rw [IntKind.wrap_i64]; omega
  have hb1 : (0 : Int) ≤ (i : Int) + 1 := by omega
  have hb0 : (0 : Int) ≤ (n : Int) + 1 := by omega
  have hin : i ≤ n := by omega
  have htn : ((i : Int) + 1).toNat = i + 1 := by omega
  have htm : ((n : Int) + 1).toNat = n + 1 := by omega
  have hb2 : ¬ (c = i + 1) := by omega
  have hb3 : (i : Int) ≤ (n : Int) + 1 := by omega
  have hb4 : ¬ (c = i) := by omega
  have hb5 : (n : Int) + 1 ≤ c := by omega
  have hb6 : ¬ (c : Int) < (n : Int) + 1 := by omega
  have hb7 : (i : Int) + 1 ≤ (n : Int) + 1 := by omega
  have hb8 : (n : Int) ≤ c := by omega
  have hb9 : (i : Int) ≤ n := by omega
  clear hown hbel hF hF1 hF2 hg1 hg2 hE hlen hdl hsa hsb hfa hfe hv hv1 hcm h
  go_enter Tryz.func136, Tryz.ntmps136
  go_wp2_with (simp only [hov])
  go_region_law (refine step_copyE rfl _ _ 32 32 rfl _ _ (by simp [Act.eval, Act.put]) (by simp [Act.eval, Act.put]) hr1 ?_)
  go_wp2_with (at_builtin; refine wpList_copyE _ rfl _ _ 32 32 rfl _ _ rfl rfl hr2 ?_)
  go_ret
  obtain ⟨h1, h2⟩ := HO.out
  exact ⟨some ⟨g, 0, none⟩, c, by rw [hL.out]; rfl, h1, h2⟩
set_option maxHeartbeats 8000000 in
theorem insL_grow (lo : Nat) (A : Option Addr) (n i : Nat) (xs : List Lk) (l : Lk) (vb vc : Nat) (w : World) (h : Oe 67 2 lkL w lo A n xs) (hl : n ≤ 1000) (hn : Hid (n = xs.length)) (hi : i < n) (hlo0 : lo ≤ w.heap.size)
    (hv : w.heap[vb]? = some (.cells (lkL l).toArray 67 (0, 0))) :
    Calls Tryz.prog 136 #[.slice A n n, .int .i64 i, .slice (some ⟨vb, 0, none⟩) 1 vc] w (OwPost lo w (insL xs i l)) := by
  obtain ⟨g, rfl, hlo, hcm, _, hF⟩ := h.fillC lk2 (by have := hn.out; omega)
  obtain ⟨i0, hi0, hz0, hzs, hzb⟩ := info_parts info_link
  have hlen : (xs.flatMap lkL).length = n * 2 := by rw [flat_len lk2, ← hn.out]
  have hdl : ((xs.drop i).flatMap lkL).length = (n - i) * 2 := by rw [flat_len lk2, List.length_drop, ← hn.out]
  have htl : ((xs.take i).flatMap lkL).length = i * 2 := by rw [flat_len lk2, List.length_take, ← hn.out, Nat.min_eq_left (by omega)]
  have hvs : vb < w.heap.size := (Array.getElem?_eq_some_iff.1 hv).1
  have hgs := hF.lt
  have hold : (Builtin.firstCells i0.size i (.slice (some ⟨g, 0, none⟩) i n)).run Tryz.prog w.drew = .ok ((xs.take i).flatMap lkL).toArray w.drew := by
    rw [hzs]
    exact run_firstCells_some w.drew 2 i ⟨g, 0, none⟩ i n _ htl (fun j v hj => by
      rw [Addr.add_lit, Nat.zero_add]
      refine hF.cells _ _ ?_
      have hjl := (List.getElem?_eq_some_iff.1 hj).1
      rw [← flat_take lk2 xs i (by have := hn.out; omega), List.getElem?_take_of_lt (by omega)] at hj
      exact hj)
  have hkk : (n : Int) + 1 - (i : Int) = ((n + 1 - i : Nat) : Int) := by omega
  have hik : i + (n + 1 - i) = n + 1 := by omega
  obtain ⟨G, hG⟩ : ∃ G, G = grownCap w (n + 1) n 67 := ⟨_, rfl⟩
  have hGn : n + 1 ≤ G := by rw [hG]; exact grownCap_ge w _ _ _
  have hGm : G ≤ maxLen := by rw [hG]; exact grownCap_le_maxLen w (n + 1) n 67 (by unfold maxLen; omega)
  obtain ⟨ROW, hROW⟩ : ∃ ROW : Array Value, ROW = ((xs.take i).flatMap lkL).toArray ++ Builtin.zeroCells (Value.agg #[.string ByteArray.empty, .int .i64 0]).cells (n + 1 - i) ++ Builtin.zeroCells (Value.agg #[.string ByteArray.empty, .int .i64 0]).cells (G - (n + 1)) := ⟨_, rfl⟩
  have hrz : ∀ ty, (Builtin.append_ #[32, 3] ty #[.slice (some ⟨g, 0, none⟩) i n, .int .i64 ((n : Int) + 1 - (i : Int))]).run Tryz.prog w =
      .ok (.slice (some ⟨w.heap.size, 0, none⟩) (n + 1) G) (w.drew.alloc (.cells ROW 67)) := fun ty => by
    have h := Lib.run_append_grow_zeros (P := Tryz.prog) w 32 3 ty 67 i0 _ .i64 .i64 Tryz.underlying32 Tryz.underlying3 hi0 hz0 (some ⟨g, 0, none⟩) i n _ hold (n + 1 - i) (by omega) (by omega) (by omega) (by omega) (by rw [hzb]; omega) (by rw [hzb, hik]; exact growslice_fits (by omega) (by omega))
    rw [hik] at h
    rw [hkk, hROW, hG]
    exact h
  have hRs : ROW.size = G * 2 := by
    rw [hROW]
    simp only [Array.size_append, List.size_toArray, size_zeroCells, htl]
    have : (Value.agg #[.string ByteArray.empty, .int .i64 0]).cells.size = 2 := rfl
    rw [this]
    omega
  obtain ⟨W0, hW0⟩ : ∃ W0, W0 = (w.alloc (.cells ROW 67)).drew := ⟨_, rfl⟩
  have hF0 : Fill W0 w.heap.size 67 (G * 2) ((xs.take i).flatMap lkL) := by
    rw [hW0]
    refine ⟨ROW, (0, 0), heap_alloc_new w.drew _, .inl rfl, hRs, ?_, by omega⟩
    rw [hROW, Array.toList_append, Array.toList_append, List.append_assoc]
    exact List.take_left
  have hb0 : Below w.heap.size w W0 := by rw [hW0]; exact ((Below.refl _ w).alloc (Nat.le_refl _) _).drew
  have hv0 : W0.heap[vb]? = some (.cells (lkL l).toArray 67 (0, 0)) := (hb0.block vb hvs).trans hv
  obtain ⟨W1, hr1, hF1, hg1⟩ := copy_fillE (P := Tryz.prog) W0 32 32 3 67 2 1 w.heap.size (i * 2) (n + 1 - i) (G - i) (G * 2) ⟨vb, 0, none⟩ 1 vc 67 _ (lkL l) Tryz.underlying32 info_link2
    hF0 (by simp only [Nat.min_def]; split <;> omega) rfl (fun j v hj => by
      rw [Addr.add_lit, Nat.zero_add, cell_of_row W0 vb j _ _ (0, 0) hv0]
      simpa using hj) (by omega) (by simp; omega) (lk_one l)
  have hL1 : ((xs.take i).flatMap lkL).take (i * 2) ++ lkL l ++ ((xs.take i).flatMap lkL).drop (i * 2 + (lkL l).length) = (xs.take i).flatMap lkL ++ lkL l := by
    rw [List.take_of_length_le (by omega), List.drop_of_length_le (by omega), List.append_nil]
  rw [hL1] at hF1
  have hb1 : Below w.heap.size w W1 := hb0.grown hg1 hb0.size (by intro k hk; injection hk with hk; omega)
  obtain ⟨W2, hr2, hF2, hg2⟩ := copy_fillE (P := Tryz.prog) W1.drew 32 32 3 67 2 (n - i) w.heap.size ((i + 1) * 2) (n + 1 - (i + 1)) (G - (i + 1)) (G * 2) ⟨g, i * 2, none⟩ (n - i) (n - i) 67 _ ((xs.drop i).flatMap lkL) Tryz.underlying32 info_link2
    hF1 (by simp only [Nat.min_def]; split <;> omega) hdl (fun j v hj => by
      rw [Addr.add_lit]
      have h3 : W1.cell? ⟨g, i * 2 + j, none⟩ = w.cell? ⟨g, i * 2 + j, none⟩ := hb1.cell (p := ⟨g, i * 2 + j, none⟩) hgs
      show W1.cell? _ = _
      rw [h3]
      refine hF.cells _ _ ?_
      rw [← flat_drop lk2 xs i (by have := hn.out; omega), List.getElem?_drop] at hj
      exact hj) (by simp only [List.length_append, htl]; simp; omega) (by omega) (flat_one lk_one _)
  have hL2 : ((xs.take i).flatMap lkL ++ lkL l).take ((i + 1) * 2) ++ (xs.drop i).flatMap lkL ++ ((xs.take i).flatMap lkL ++ lkL l).drop ((i + 1) * 2 + ((xs.drop i).flatMap lkL).length) = (insL xs i l).flatMap lkL := by
    have h4 : ((xs.take i).flatMap lkL ++ lkL l).length = (i + 1) * 2 := by simp only [List.length_append, htl]; simp; omega
    have h5 : ((xs.take i).flatMap lkL ++ lkL l).drop ((i + 1) * 2 + ((xs.drop i).flatMap lkL).length) = [] := List.drop_of_length_le (by omega)
    rw [List.take_of_length_le (by omega), h5, List.append_nil, insL, List.flatMap_append, List.flatMap_append]
    simp
  rw [hL2] at hF2
  have hb2 : Below w.heap.size w W2 := hb1.drew.grown hg2 hb1.drew.size (by intro k hk; injection hk with hk; omega)
  have hown : Oe 67 2 lkL W2 lo (some ⟨w.heap.size, 0, none⟩) G (insL xs i l) := Oe.of_fill lk2 hF2 (by rw [insL_len, ← hn.out]; omega) hlo0 hGm
  have HO := Lib.hid (And.intro hown (hb2.mono hlo0))
  have hL : Hid ((insL xs i l).length = n + 1) := by show _ = _; rw [insL_len, ← hn.out]
  have hz2 : ¬ ((i : Int) = (n : Int)) := by omega
  have hw1 : IntKind.i64.wrap ((i : Int) + 1) = (i : Int) + 1 := by rw [IntKind.wrap_i64]; omega
  have hw2 : IntKind.i64.wrap ((n : Int) + 1) = (n : Int) + 1 := by rw [IntKind.wrap_i64]; omega
  have hw3 : IntKind.i64.wrap ((n : Int) + 1 - (i : Int)) = (n : Int) + 1 - (i : Int) := by rw [IntKind.wrap_i64]; omega
  have hz1 : (0 : Int) ≤ (i : Int) + 1 := by omega
  have hin : i ≤ n := by omega
  have htn : ((i : Int) + 1).toNat = i + 1 := by omega
  have hc2 : ¬ (G = i + 1) := by omega
  have hc4 : ¬ (G = i) := by omega
  have hc5 : ¬ (n = i) := by omega
  have hc3 : (i : Int) ≤ (n : Int) + 1 := by omega
  have hc6 : (n : Int) < (n : Int) + 1 := by omega
  have hc7 : (i : Int) + 1 ≤ (n : Int) + 1 := by omega
  have hc9 : (i : Int) ≤ n := by omega
  clear hown hb0 hb1 hb2 hF hF0 hF1 hF2 hg1 hg2 hL1 hL2 hlen hdl htl hv hv0 hcm h hold hkk hik hRs hROW hG hi0 hz0 hzs hzb
  subst hW0
  go_enter Tryz.func136, Tryz.ntmps136
  go_wp2_with (first
    | (at_builtin; refine Lib.wpList_append_run _ rfl _ _ _ _ rfl _ _ rfl rfl _ _ (hrz _) ?_)
    | (at_builtin; refine wpList_copyE _ rfl _ _ 32 32 rfl _ _ rfl rfl hr1 ?_))
  go_region_law (refine step_copyE rfl _ _ 32 32 rfl (.slice (some ⟨w.heap.size, (i + 1) * 2, none⟩) (n + 1 - (i + 1)) (G - (i + 1))) (.slice (some ⟨g, i * 2, none⟩) (n - i) (n - i)) (by simp [Act.eval, Act.put]) (by simp [Act.eval, Act.put]) hr2 ?_)
  go_wp2_with fail
  go_ret
  obtain ⟨h1, h2⟩ := HO.out
  exact ⟨some ⟨w.heap.size, 0, none⟩, G, by rw [hL.out]; rfl, h1, h2⟩
theorem insL_any (lo : Nat) (A : Option Addr) (c : Nat) (xs : List Lk) (i : Nat) (l : Lk) (vb vc : Nat) (w : World) (h : Oe 67 2 lkL w lo A c xs) (hl : xs.length ≤ 1000) (hi : i ≤ xs.length) (hlo : lo ≤ w.heap.size)
    (hv : w.heap[vb]? = some (.cells (lkL l).toArray 67 (0, 0))) (hvb : ∀ ad, A = some ad → ad.block ≠ vb) :
    Calls Tryz.prog 136 #[.slice A xs.length c, .int .i64 i, .slice (some ⟨vb, 0, none⟩) 1 vc] w (OwPost lo w (insL xs i l)) := by
  rcases Nat.lt_or_ge i xs.length with h1 | h1
  · by_cases h2 : xs.length + 1 ≤ c
    · exact insL_shift lo A c _ i xs l vb vc w h hl (Lib.hid rfl) h1 h2 hv hvb
    · obtain rfl : c = xs.length := by have := h.cap; omega
      exact insL_grow lo A _ i xs l vb vc w h hl (Lib.hid rfl) h1 hlo hv
  · obtain rfl : i = xs.length := by omega
    have := insL_end lo A c _ xs l vb vc w h hl hlo (Lib.hid rfl) hv
    rwa [show insL xs xs.length l = xs ++ [l] from by simp [insL]]
end Go.Proofs.YtfkdifgmhfdbdaaGreatDoor
