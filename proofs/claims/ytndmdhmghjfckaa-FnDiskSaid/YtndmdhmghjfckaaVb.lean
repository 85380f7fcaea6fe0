/- slices.Insert at links: one link put at its place. slices.DeleteFunc at links and files, whatever predicate: what is left. -/
import Derived.Test.YtndmdhmghjfckaaVa
import Derived.Laws.Externs
import Derived.Laws.NewBlocks
import Derived.Deep.RegionHeld3
namespace Go.Proofs.Ytndmdhmghjfckaa
open Go.RowKit

set_option linter.unusedVariables false
set_option maxRecDepth 100000

section
variable {T : Type} {k : Nat} {enc : T → List Value} {w w' : World} {A : Option Addr} {xs : List T} {e : TypeId} {lo c : Nat}
theorem Oe.fillC (hk : ∀ x, (enc x).length = k) (h : Oe e k enc w lo A c xs) (hx : 0 < xs.length) : ∃ g, A = some ⟨g, 0, none⟩ ∧ lo ≤ g ∧ c ≤ maxLen ∧ xs.length ≤ c ∧ Fill w g e (c * k) (xs.flatMap enc) := by
  rcases h.2 with ⟨h1, h2⟩ | ⟨g, cap, cur, fz, hv, hg, hh, hz, hc1, hc2, hc3, ht⟩
  · omega
  · injection hv with hv _ hv3
    subst hv3
    exact ⟨g, hv, hg, hc2, hc1, cur, fz, hh, hz, hc3, by rw [flat_len hk]; exact ht, by rw [flat_len hk]; exact Nat.mul_le_mul_right _ hc1⟩
theorem Fill.cells {g N : Nat} {t : TypeId} {L : List Value} (h : Fill w g t N L) : ∀ j u, L[j]? = some u → w.cell? ⟨g, j, none⟩ = some u := by
  obtain ⟨cur, fz, h1, hz, h2, h3, h4⟩ := h
  intro j u hu
  have hj := (List.getElem?_eq_some_iff.1 hu).1
  rw [cell_of_row w g j cur t fz h1]
  rw [← h3, List.getElem?_take_of_lt hj] at hu
  simpa using hu
theorem flat_sub (hk : ∀ x, (enc x).length = k) {i : Nat} (hi : i ≤ xs.length) : ((xs.flatMap enc).take (i * k)) = (xs.take i).flatMap enc := flat_take hk xs i hi
end
theorem step_copyE {P : Program} {ops : Array Oper} {o : Oper} {a : Act} {w : World} {K : Act → World → Prop} {Q : Exit → Act → World → Prop} {E : Prop}
    (hg : o.guard = none) (d x : Operand) (dT sT : TypeId) (hop : o.op = Op.call { callee := Callee.builtin Builtin.copy, args := #[d, x], argTypes := #[dT, sT] })
    (v u : Value) (hd : a.eval d = v) (hx : a.eval x = u) {v' : Value} {w' : World} (hr : (Builtin.copy_ #[dT, sT] o.type #[v, u]).run P w = .ok v' w') (hK : K (a.put o.dst v') w') :
    if Region.wanted o (yielded ops a.tmps) = true then Oper.wp P o a w K Q else E := by
  have hw : Region.wanted o (yielded ops a.tmps) = true := by simp [Region.wanted, hg]
  rw [if_pos hw]
  unfold Oper.wp
  simp [execOp, hop, resolve, invoke, builtin, hd, hx, hr, Result.andThen]
  exact hK
theorem wpList_copyE {P : Program} (w : World) {ops : Array Oper} {rest : List Oper} {o : Oper} {a : Act} {Q : Exit → Act → World → Prop} (hgd : o.guard = none) (d s : Operand) (t t' : TypeId)
    (ho : o.op = .call { callee := .builtin .copy, args := #[d, s], argTypes := #[t, t'] }) (v u : Value) (hd : a.eval d = v) (hs : a.eval s = u) {v' : Value} {w' : World}
    (hr : (Builtin.copy_ #[t, t'] o.type #[v, u]).run P w = .ok v' w') (h : wpList P ops Q rest (a.put o.dst v') w') : wpList P ops Q (o :: rest) a w :=
  wpList_plain hgd fun _ hK => by
    unfold Oper.wp execOp
    simp only [ho, resolve, invoke, builtin, Sem.run_bind, Sem.run_pure, Result.andThen_ok, List.map_toArray, List.map_cons, List.map_nil, hd, hs, hr]
    exact hK _ _ h
/-- A link put at place i. -/
def insL (xs : List Lk) (i : Nat) (l : Lk) : List Lk := xs.take i ++ [l] ++ xs.drop i
theorem insL_len (xs : List Lk) (i : Nat) (l : Lk) : (insL xs i l).length = xs.length + 1 := by
  have := congrArg List.length (List.take_append_drop i xs)
  simp only [insL, List.length_append, List.length_singleton] at this ⊢
  omega
/-- What answers links of one's own, from block lo on; blocks ahead of lo stay. -/
def OwPost (lo : Nat) (w : World) (us : List Lk) (e : Ending) (w' : World) : Prop :=
  ∃ A' c', e = .returned (.slice A' us.length c') ∧ Oe 63 2 lkL w' lo A' c' us ∧ Below lo w w'
theorem info_link2 : (Try.prog.info? 63).map (·.size) = some 2 := by kernel_rfl
set_option maxHeartbeats 4000000 in
theorem insL_end (lo : Nat) (A : Option Addr) (c n : Nat) (xs : List Lk) (l : Lk) (vb vc : Nat) (w : World) (h : Oe 63 2 lkL w lo A c xs) (hl : xs.length ≤ 1000) (hlo : lo ≤ w.heap.size) (hn : Hid (n = xs.length))
    (hv : w.heap[vb]? = some (.cells (lkL l).toArray 63 (0, 0))) :
    Calls Try.prog 68 #[.slice A n c, .int .i64 n, .slice (some ⟨vb, 0, none⟩) 1 vc] w (OwPost lo w (xs ++ [l])) := by
  have hy : SlL w (some ⟨vb, 0, none⟩) 2 lkL [l] := SlL.of_cells lk2 fun j u hu => by
    rw [Nat.zero_add, cell_of_row w vb j _ _ (0, 0) hv]
    simpa using hu
  have hn1 : (n : Int) ≤ c := by have := hn.out; have := h.cap; omega
  have hn0 : n ≤ 1000 := by have := hn.out; omega
  go_enter Try.func68, Try.ntmps68
  go_wp2_with (at_builtin; refine wp_appE 24 63 _ _ Try.underlying24 info_link (by decide) rfl (by decide) lk2 lk_one rfl _ _ rfl lo A c xs _ n ⟨vb, 0, none⟩ 1 vc [l] h hy hn.out rfl rfl rfl (by omega) (by simp) hlo ?_; intro A2 c2 w2 us hus ho2 hb2 hk2)
  all_goals (
    go_ret
    have hE := hus.out
    subst hE
    exact ⟨A2, c2, rfl, ho2, hb2⟩)
set_option maxHeartbeats 8000000 in
theorem insL_shift (lo : Nat) (A : Option Addr) (c n i : Nat) (xs : List Lk) (l : Lk) (vb vc : Nat) (w : World) (h : Oe 63 2 lkL w lo A c xs) (hl : n ≤ 1000) (hn : Hid (n = xs.length)) (hi : i < n) (hroom : n + 1 ≤ c)
    (hv : w.heap[vb]? = some (.cells (lkL l).toArray 63 (0, 0))) (hvb : ∀ ad, A = some ad → ad.block ≠ vb) :
    Calls Try.prog 68 #[.slice A n c, .int .i64 i, .slice (some ⟨vb, 0, none⟩) 1 vc] w (OwPost lo w (insL xs i l)) := by
  obtain ⟨g, rfl, hlo, hcm, _, hF⟩ := h.fillC lk2 (by have := hn.out; omega)
  have hne : g ≠ vb := hvb _ rfl
  have hcv : c ≤ 9223372036854775807 := by unfold maxLen at hcm; omega
  have hlen : (xs.flatMap lkL).length = n * 2 := by rw [flat_len lk2, ← hn.out]
  have hdl : ((xs.drop i).flatMap lkL).length = (n - i) * 2 := by rw [flat_len lk2, List.length_drop, ← hn.out]
  have hgs := hF.lt
  have hvs : vb < w.heap.size := (Array.getElem?_eq_some_iff.1 hv).1
  obtain ⟨ty9, hty9⟩ : ∃ ty : TypeId, ty = 3 := ⟨_, rfl⟩
  obtain ⟨W1, hr1, hF1, hg1⟩ := copy_fillE (P := Try.prog) w.drew 24 24 3 63 2 (n - i) g ((i + 1) * 2) (n + 1 - (i + 1)) (c - (i + 1)) (c * 2) ⟨g, i * 2, none⟩ (n + 1 - i) (c - i) 63 (xs.flatMap lkL) ((xs.drop i).flatMap lkL) Try.underlying24 info_link2
    hF (by simp only [Nat.min_def]; split <;> omega) hdl (fun j v hj => by
      rw [Addr.add_lit]
      refine hF.cells _ _ ?_
      rw [← flat_drop lk2 xs i (by have := hn.out; omega), List.getElem?_drop] at hj
      exact hj) (by omega) (by omega) (flat_one lk_one _)
  have hv1 : W1.heap[vb]? = some (.cells (lkL l).toArray 63 (0, 0)) := (hg1.block vb hvs (by simpa using fun h => hne h.symm)).trans hv
  obtain ⟨W2, hr2, hF2, hg2⟩ := copy_fillE (P := Try.prog) W1 24 24 3 63 2 1 g (i * 2) (n + 1 - i) (c - i) (c * 2) ⟨vb, 0, none⟩ 1 vc 63 _ (lkL l) Try.underlying24 info_link2
    hF1 (by simp only [Nat.min_def]; split <;> omega) rfl (fun j v hj => by
      rw [Addr.add_lit, Nat.zero_add, cell_of_row W1 vb j _ _ (0, 0) hv1]
      simpa using hj) (by simp only [List.length_append, List.length_take, hlen]; omega) (by simp; omega) (lk_one l)
  have hE : (((xs.flatMap lkL).take ((i + 1) * 2) ++ (xs.drop i).flatMap lkL ++ (xs.flatMap lkL).drop ((i + 1) * 2 + ((xs.drop i).flatMap lkL).length)).take (i * 2) ++ lkL l ++ ((xs.flatMap lkL).take ((i + 1) * 2) ++ (xs.drop i).flatMap lkL ++ (xs.flatMap lkL).drop ((i + 1) * 2 + ((xs.drop i).flatMap lkL).length)).drop (i * 2 + (lkL l).length)) = (insL xs i l).flatMap lkL := by
    have e1 : (xs.flatMap lkL).drop ((i + 1) * 2 + ((xs.drop i).flatMap lkL).length) = [] := List.drop_of_length_le (by omega)
    rw [e1, List.append_nil, List.take_append_of_le_length (by simp only [List.length_take, hlen]; omega), List.take_take, Nat.min_eq_left (by omega), flat_take lk2 xs i (by have := hn.out; omega)]
    rw [show i * 2 + (lkL l).length = (i + 1) * 2 from by simp; omega, List.drop_append_of_le_length (by simp only [List.length_take, hlen]; omega), List.drop_take, Nat.sub_self, List.take_zero, List.nil_append]
    rw [insL, List.flatMap_append, List.flatMap_append]
    simp
  rw [hE] at hF2
  have hown : Oe 63 2 lkL W2 lo (some ⟨g, 0, none⟩) c (insL xs i l) := Oe.of_fill lk2 hF2 (by rw [insL_len, ← hn.out]; omega) hlo hcm
  have hbel : Below lo w W2 := ((Below.refl lo w).drew.grown hg1 (by show lo ≤ w.heap.size; omega) (by intro k hk; injection hk with hk; omega)).grown hg2 (by have := hg1.size; show lo ≤ _; have h2 : w.heap.size ≤ W1.heap.size := this; omega) (by intro k hk; injection hk with hk; omega)
  have HO := Lib.hid (And.intro hown hbel)
  have hL : Hid ((insL xs i l).length = n + 1) := by show _ = _; rw [insL_len, ← hn.out]
  have hsa : w.shape? vb = some (63, 2) := by simp [World.shape?, hv]
  have hsb : w.shape? g = some (63, c * 2) := by
    obtain ⟨cur, fz, h1, hz, h2, _⟩ := hF
    simp [World.shape?, h1, h2]
  have hfa : w.frozen? ⟨vb, 0, none⟩ = false := by simp [World.frozen?, hv]
  have hfe : w.frozen? ⟨vb, 2, none⟩ = false := by simp [World.frozen?, hv]
  have hov : ∀ lb cb, (callFunc 86 #[.slice (some ⟨vb, 0, none⟩) 1 vc, .slice (some ⟨g, (i + 1) * 2, none⟩) lb cb]).run Try.prog w = .ok (.value (.bool false)) w := fun lb cb => by
    rw [run_callFunc_extern Try.func86 (by kernel_rfl) (by kernel_rfl) (by kernel_rfl) (e := Extern.SlicesOverlaps.overlaps #[24, 24] #[4]) (by kernel_rfl),
      Lib.run_overlaps_apart w 24 4 63 Try.underlying24 2 (fun w => by kernel_rfl) ⟨vb, 0, none⟩ ⟨g, (i + 1) * 2, none⟩ 1 vc lb cb (fun h => hne h.symm) 63 63 2 (c * 2) hsa hsb (by omega) hfa hfe]
    rfl
  have hz2 : ¬ ((i : Int) = (n : Int)) := by omega
  have hw1 : IntKind.i64.wrap ((i : Int) + 1) = (i : Int) + 1 := by rw [IntKind.wrap_i64]; omega
  have hw2 : IntKind.i64.wrap ((n : Int) + 1) = (n : Int) + 1 := by rw [IntKind.wrap_i64]; omega
  have hb1 : (0 : Int) ≤ (i : Int) + 1 := by omega
  have hb0 : (0 : Int) ≤ (n : Int) + 1 := by omega
  have hin : i ≤ n := by omega
  have htn : ((i : Int) + 1).toNat = i + 1 := by omega
  have htm : ((n : Int) + 1).toNat = n + 1 := by omega
  have hb2 : ¬ (c = i + 1) := by omega
  have hb3 : (i : Int) ≤ (n : Int) + 1 := by omega
  have hb4 : ¬ (c = i) := by omega
  have hb5 : (n : Int) + 1 ≤ c := by omega
  have hb6 : ¬ (c : Int) < (n : Int) + 1 := by omega
  have hb7 : (i : Int) + 1 ≤ (n : Int) + 1 := by omega
  have hb8 : (n : Int) ≤ c := by omega
  have hb9 : (i : Int) ≤ n := by omega
  clear hown hbel hF hF1 hF2 hg1 hg2 hE hlen hdl hsa hsb hfa hfe hv hv1 hcm h
  go_enter Try.func68, Try.ntmps68
  go_wp2_with (simp only [hov])
  go_region_law (refine step_copyE rfl _ _ 24 24 rfl _ _ (by simp [Act.eval, Act.put]) (by simp [Act.eval, Act.put]) hr1 ?_)
  go_wp2_with (at_builtin; refine wpList_copyE _ rfl _ _ 24 24 rfl _ _ rfl rfl hr2 ?_)
  go_ret
  obtain ⟨h1, h2⟩ := HO.out
  exact ⟨some ⟨g, 0, none⟩, c, by rw [hL.out]; rfl, h1, h2⟩
set_option maxHeartbeats 8000000 in
theorem insL_grow (lo : Nat) (A : Option Addr) (n i : Nat) (xs : List Lk) (l : Lk) (vb vc : Nat) (w : World) (h : Oe 63 2 lkL w lo A n xs) (hl : n ≤ 1000) (hn : Hid (n = xs.length)) (hi : i < n) (hlo0 : lo ≤ w.heap.size)
    (hv : w.heap[vb]? = some (.cells (lkL l).toArray 63 (0, 0))) :
    Calls Try.prog 68 #[.slice A n n, .int .i64 i, .slice (some ⟨vb, 0, none⟩) 1 vc] w (OwPost lo w (insL xs i l)) := by
  obtain ⟨g, rfl, hlo, hcm, _, hF⟩ := h.fillC lk2 (by have := hn.out; omega)
  obtain ⟨i0, hi0, hz0, hzs, hzb⟩ := info_parts info_link
  have hlen : (xs.flatMap lkL).length = n * 2 := by rw [flat_len lk2, ← hn.out]
  have hdl : ((xs.drop i).flatMap lkL).length = (n - i) * 2 := by rw [flat_len lk2, List.length_drop, ← hn.out]
  have htl : ((xs.take i).flatMap lkL).length = i * 2 := by rw [flat_len lk2, List.length_take, ← hn.out, Nat.min_eq_left (by omega)]
  have hvs : vb < w.heap.size := (Array.getElem?_eq_some_iff.1 hv).1
  have hgs := hF.lt
  have hold : (Builtin.firstCells i0.size i (.slice (some ⟨g, 0, none⟩) i n)).run Try.prog w.drew = .ok ((xs.take i).flatMap lkL).toArray w.drew := by
    rw [hzs]
    exact run_firstCells_some w.drew 2 i ⟨g, 0, none⟩ i n _ htl (fun j v hj => by
      rw [Addr.add_lit, Nat.zero_add]
      refine hF.cells _ _ ?_
      have hjl := (List.getElem?_eq_some_iff.1 hj).1
      rw [← flat_take lk2 xs i (by have := hn.out; omega), List.getElem?_take_of_lt (by omega)] at hj
      exact hj)
  have hkk : (n : Int) + 1 - (i : Int) = ((n + 1 - i : Nat) : Int) := by omega
  have hik : i + (n + 1 - i) = n + 1 := by omega
  obtain ⟨G, hG⟩ : ∃ G, G = grownCap w (n + 1) n 63 := ⟨_, rfl⟩
  have hGn : n + 1 ≤ G := by rw [hG]; exact grownCap_ge w _ _ _
  have hGm : G ≤ maxLen := by rw [hG]; exact grownCap_le_maxLen w (n + 1) n 63 (by unfold maxLen; omega)
  obtain ⟨ROW, hROW⟩ : ∃ ROW : Array Value, ROW = ((xs.take i).flatMap lkL).toArray ++ Builtin.zeroCells (Value.agg #[.string ByteArray.empty, .int .i64 0]).cells (n + 1 - i) ++ Builtin.zeroCells (Value.agg #[.string ByteArray.empty, .int .i64 0]).cells (G - (n + 1)) := ⟨_, rfl⟩
  have hrz : ∀ ty, (Builtin.append_ #[24, 3] ty #[.slice (some ⟨g, 0, none⟩) i n, .int .i64 ((n : Int) + 1 - (i : Int))]).run Try.prog w =
      .ok (.slice (some ⟨w.heap.size, 0, none⟩) (n + 1) G) (w.drew.alloc (.cells ROW 63)) := fun ty => by
    have h := Lib.run_append_grow_zeros (P := Try.prog) w 24 3 ty 63 i0 _ .i64 .i64 Try.underlying24 Try.underlying3 hi0 hz0 (some ⟨g, 0, none⟩) i n _ hold (n + 1 - i) (by omega) (by omega) (by omega) (by omega) (by rw [hzb]; omega) (by rw [hzb, hik]; exact growslice_fits (by omega) (by omega))
    rw [hik] at h
    rw [hkk, hROW, hG]
    exact h
  have hRs : ROW.size = G * 2 := by
    rw [hROW]
    simp only [Array.size_append, List.size_toArray, size_zeroCells, htl]
    have : (Value.agg #[.string ByteArray.empty, .int .i64 0]).cells.size = 2 := rfl
    rw [this]
    omega
  obtain ⟨W0, hW0⟩ : ∃ W0, W0 = (w.alloc (.cells ROW 63)).drew := ⟨_, rfl⟩
  have hF0 : Fill W0 w.heap.size 63 (G * 2) ((xs.take i).flatMap lkL) := by
    rw [hW0]
    refine ⟨ROW, (0, 0), heap_alloc_new w.drew _, .inl rfl, hRs, ?_, by omega⟩
    rw [hROW, Array.toList_append, Array.toList_append, List.append_assoc]
    exact List.take_left
  have hb0 : Below w.heap.size w W0 := by rw [hW0]; exact ((Below.refl _ w).alloc (Nat.le_refl _) _).drew
  have hv0 : W0.heap[vb]? = some (.cells (lkL l).toArray 63 (0, 0)) := (hb0.block vb hvs).trans hv
  obtain ⟨W1, hr1, hF1, hg1⟩ := copy_fillE (P := Try.prog) W0 24 24 3 63 2 1 w.heap.size (i * 2) (n + 1 - i) (G - i) (G * 2) ⟨vb, 0, none⟩ 1 vc 63 _ (lkL l) Try.underlying24 info_link2
    hF0 (by simp only [Nat.min_def]; split <;> omega) rfl (fun j v hj => by
      rw [Addr.add_lit, Nat.zero_add, cell_of_row W0 vb j _ _ (0, 0) hv0]
      simpa using hj) (by omega) (by simp; omega) (lk_one l)
  have hL1 : ((xs.take i).flatMap lkL).take (i * 2) ++ lkL l ++ ((xs.take i).flatMap lkL).drop (i * 2 + (lkL l).length) = (xs.take i).flatMap lkL ++ lkL l := by
    rw [List.take_of_length_le (by omega), List.drop_of_length_le (by omega), List.append_nil]
  rw [hL1] at hF1
  have hb1 : Below w.heap.size w W1 := hb0.grown hg1 hb0.size (by intro k hk; injection hk with hk; omega)
  obtain ⟨W2, hr2, hF2, hg2⟩ := copy_fillE (P := Try.prog) W1.drew 24 24 3 63 2 (n - i) w.heap.size ((i + 1) * 2) (n + 1 - (i + 1)) (G - (i + 1)) (G * 2) ⟨g, i * 2, none⟩ (n - i) (n - i) 63 _ ((xs.drop i).flatMap lkL) Try.underlying24 info_link2
    hF1 (by simp only [Nat.min_def]; split <;> omega) hdl (fun j v hj => by
      rw [Addr.add_lit]
      have h3 : W1.cell? ⟨g, i * 2 + j, none⟩ = w.cell? ⟨g, i * 2 + j, none⟩ := hb1.cell (p := ⟨g, i * 2 + j, none⟩) hgs
      show W1.cell? _ = _
      rw [h3]
      refine hF.cells _ _ ?_
      rw [← flat_drop lk2 xs i (by have := hn.out; omega), List.getElem?_drop] at hj
      exact hj) (by simp only [List.length_append, htl]; simp; omega) (by omega) (flat_one lk_one _)
  have hL2 : ((xs.take i).flatMap lkL ++ lkL l).take ((i + 1) * 2) ++ (xs.drop i).flatMap lkL ++ ((xs.take i).flatMap lkL ++ lkL l).drop ((i + 1) * 2 + ((xs.drop i).flatMap lkL).length) = (insL xs i l).flatMap lkL := by
    have h4 : ((xs.take i).flatMap lkL ++ lkL l).length = (i + 1) * 2 := by simp only [List.length_append, htl]; simp; omega
    have h5 : ((xs.take i).flatMap lkL ++ lkL l).drop ((i + 1) * 2 + ((xs.drop i).flatMap lkL).length) = [] := List.drop_of_length_le (by omega)
    rw [List.take_of_length_le (by omega), h5, List.append_nil, insL, List.flatMap_append, List.flatMap_append]
    simp
  rw [hL2] at hF2
  have hb2 : Below w.heap.size w W2 := hb1.drew.grown hg2 hb1.drew.size (by intro k hk; injection hk with hk; omega)
  have hown : Oe 63 2 lkL W2 lo (some ⟨w.heap.size, 0, none⟩) G (insL xs i l) := Oe.of_fill lk2 hF2 (by rw [insL_len, ← hn.out]; omega) hlo0 hGm
  have HO := Lib.hid (And.intro hown (hb2.mono hlo0))
  have hL : Hid ((insL xs i l).length = n + 1) := by show _ = _; rw [insL_len, ← hn.out]
  have hz2 : ¬ ((i : Int) = (n : Int)) := by omega
  have hw1 : IntKind.i64.wrap ((i : Int) + 1) = (i : Int) + 1 := by rw [IntKind.wrap_i64]; omega
  have hw2 : IntKind.i64.wrap ((n : Int) + 1) = (n : Int) + 1 := by rw [IntKind.wrap_i64]; omega
  have hw3 : IntKind.i64.wrap ((n : Int) + 1 - (i : Int)) = (n : Int) + 1 - (i : Int) := by rw [IntKind.wrap_i64]; omega
  have hz1 : (0 : Int) ≤ (i : Int) + 1 := by omega
  have hin : i ≤ n := by omega
  have htn : ((i : Int) + 1).toNat = i + 1 := by omega
  have hc2 : ¬ (G = i + 1) := by omega
  have hc4 : ¬ (G = i) := by omega
  have hc5 : ¬ (n = i) := by omega
  have hc3 : (i : Int) ≤ (n : Int) + 1 := by omega
  have hc6 : (n : Int) < (n : Int) + 1 := by omega
  have hc7 : (i : Int) + 1 ≤ (n : Int) + 1 := by omega
  have hc9 : (i : Int) ≤ n := by omega
  clear hown hb0 hb1 hb2 hF hF0 hF1 hF2 hg1 hg2 hL1 hL2 hlen hdl htl hv hv0 hcm h hold hkk hik hRs hROW hG hi0 hz0 hzs hzb
  subst hW0
  go_enter Try.func68, Try.ntmps68
  go_wp2_with (first
    | (at_builtin; refine Lib.wpList_append_run _ rfl _ _ _ _ rfl _ _ rfl rfl _ _ (hrz _) ?_)
    | (at_builtin; refine wpList_copyE _ rfl _ _ 24 24 rfl _ _ rfl rfl hr1 ?_))
  go_region_law (refine step_copyE rfl _ _ 24 24 rfl (.slice (some ⟨w.heap.size, (i + 1) * 2, none⟩) (n + 1 - (i + 1)) (G - (i + 1))) (.slice (some ⟨g, i * 2, none⟩) (n - i) (n - i)) (by simp [Act.eval, Act.put]) (by simp [Act.eval, Act.put]) hr2 ?_)
  go_wp2_with fail
  go_ret
  obtain ⟨h1, h2⟩ := HO.out
  exact ⟨some ⟨w.heap.size, 0, none⟩, G, by rw [hL.out]; rfl, h1, h2⟩
theorem insL_any (lo : Nat) (A : Option Addr) (c : Nat) (xs : List Lk) (i : Nat) (l : Lk) (vb vc : Nat) (w : World) (h : Oe 63 2 lkL w lo A c xs) (hl : xs.length ≤ 1000) (hi : i ≤ xs.length) (hlo : lo ≤ w.heap.size)
    (hv : w.heap[vb]? = some (.cells (lkL l).toArray 63 (0, 0))) (hvb : ∀ ad, A = some ad → ad.block ≠ vb) :
    Calls Try.prog 68 #[.slice A xs.length c, .int .i64 i, .slice (some ⟨vb, 0, none⟩) 1 vc] w (OwPost lo w (insL xs i l)) := by
  rcases Nat.lt_or_ge i xs.length with h1 | h1
  · by_cases h2 : xs.length + 1 ≤ c
    · exact insL_shift lo A c _ i xs l vb vc w h hl (Lib.hid rfl) h1 h2 hv hvb
    · obtain rfl : c = xs.length := by have := h.cap; omega
      exact insL_grow lo A _ i xs l vb vc w h hl (Lib.hid rfl) h1 hlo hv
  · obtain rfl : i = xs.length := by omega
    have := insL_end lo A c _ xs l vb vc w h hl hlo (Lib.hid rfl) hv
    rwa [show insL xs xs.length l = xs ++ [l] from by simp [insL]]

set_option linter.unusedVariables false
set_option maxRecDepth 100000

theorem Fill.setAt {w : World} {g N k : Nat} {t : TypeId} {L : List Value} (h : Fill w g t N L) (hk : k < L.length) (u : Value) : Fill (w.setCell ⟨g, k, none⟩ u) g t N (L.set k u) := by
  obtain ⟨cur, fz, h1, hz, h2, h3, h4⟩ := h
  refine ⟨cur.setIfInBounds k u, fz, heap_setCell_same u h1, hz.imp id (by rw [Array.size_setIfInBounds]; exact id), by rw [Array.size_setIfInBounds]; exact h2, ?_, by rw [List.length_set]; exact h4⟩
  rw [List.length_set, Array.toList_setIfInBounds, List.take_set, h3]
theorem Fill.front {w : World} {g N : Nat} {t : TypeId} {L : List Value} (h : Fill w g t N L) (k : Nat) : Fill w g t N (L.take k) := by
  obtain ⟨cur, fz, h1, hz, h2, h3, h4⟩ := h
  refine ⟨cur, fz, h1, hz, h2, ?_, by rw [List.length_take]; omega⟩
  rw [List.length_take, ← List.take_take, h3]
theorem flat_set2 (y : Lk) : ∀ (xs : List Lk) (i : Nat), i < xs.length → ((xs.flatMap lkL).set (i * 2) (.string y.1)).set (i * 2 + 1) (.int .i64 y.2) = (xs.set i y).flatMap lkL
  | [], _, h => by simp at h
  | x :: r, 0, _ => by simp
  | x :: r, i + 1, h => by
    have ih := flat_set2 y r i (by simpa using h)
    rw [show (i + 1) * 2 = i * 2 + 1 + 1 by omega]
    simp only [List.flatMap_cons, List.set_cons_succ, List.cons_append, List.nil_append]
    rw [← ih]
theorem flat_set3 (y : Fl) : ∀ (xs : List Fl) (i : Nat), i < xs.length → (((xs.flatMap flL).set (i * 3) (.int .i64 y.1)).set (i * 3 + 1) (.slice y.2.1.1 y.2.1.2.2.length y.2.1.2.1)).set (i * 3 + 2) (.int .i64 y.2.2) = (xs.set i y).flatMap flL
  | [], _, h => by simp at h
  | x :: r, 0, _ => by simp
  | x :: r, i + 1, h => by
    have ih := flat_set3 y r i (by simpa using h)
    rw [show (i + 1) * 3 = i * 3 + 1 + 1 + 1 by omega]
    simp only [List.flatMap_cons, List.set_cons_succ, List.cons_append, List.nil_append]
    rw [← ih]
theorem set_take {T : Type} {ys : List T} {i : Nat} (hi : i < ys.length) (x : T) : (ys.set i x).take (i + 1) = ys.take i ++ [x] := by
  have e : (ys.set i x)[i]? = some x := by simp [hi]
  rw [take_succ_get e]
  congr 1
  apply List.ext_getElem?
  intro j
  rw [List.getElem?_take, List.getElem?_take]
  split
  · rw [List.getElem?_set_ne (by omega)]
  · rfl
theorem filt_succ {T : Type} (q : T → Bool) {xs : List T} {j : Nat} (hj : j < xs.length) : (xs.take (j + 1)).filter q = (xs.take j).filter q ++ if q xs[j] then [xs[j]] else [] := by
  rw [take_succ_get (List.getElem?_eq_getElem hj), List.filter_append]
  congr 1
  cases h : q xs[j] <;> simp [h]
theorem filt_len {T : Type} (q : T → Bool) (xs : List T) (j : Nat) : ((xs.take j).filter q).length ≤ j := Nat.le_trans (List.length_filter_le _ _) (by rw [List.length_take]; omega)
theorem drop_get {T : Type} {xs ys : List T} {j : Nat} (h : ys.drop j = xs.drop j) (hx : j < xs.length) (hy : j < ys.length) : ys[j] = xs[j] := by
  have := congrArg (fun l => l[0]?) h
  simpa [hx, hy] using this
/-- clear(s): what lies ahead of it stays. -/
theorem clear_fillE {P : Program} (w : World) (t e ty t' : TypeId) (z : Value) (g o n c N : Nat) (L : List Value) (ht : P.underlying t = some (.slice e)) (hv : ∀ w, (zeroValue e).run P w = .ok z w) (h1 : ∀ v ∈ z.cells, v.oneCell' = true) (hp : 0 < z.cells.size)
    (hF : Fill w g t' N L) (hn : 0 < n) (ho : o ≤ L.length) (hfit : o + n * z.cells.size ≤ N) :
    ∃ w', (Builtin.clear_ #[t] ty #[.slice (some ⟨g, o, none⟩) n c]).run P w = .ok (.tuple #[]) w' ∧ Fill w' g t' N (L.take o) ∧ w.grownBy w' (some g) := by
  obtain ⟨cur, fz, hh, hzz, hsz, htk, hd⟩ := hF
  have hl : (Builtin.zeroCells z.cells n).toList.length = n * z.cells.size := by rw [Array.length_toList, size_zeroCells]
  have hone : ∀ v ∈ (Builtin.zeroCells z.cells n).toList, v.oneCell' = true := by
    intro v hv
    simp only [Builtin.zeroCells, Array.toList_map, List.mem_map] at hv
    obtain ⟨i, _, rfl⟩ := hv
    have hm := Nat.mod_lt i hp
    rw [getElem!_pos z.cells _ hm]
    exact h1 _ (Array.getElem_mem hm)
  have hst := run_storeCells_atD P g o t' fz (Builtin.zeroCells z.cells n).toList 0 cur w hh hzz (by rw [hl, hsz]; simpa using hfit) hone
  obtain ⟨m, rfl⟩ : ∃ m, n = m + 1 := ⟨n - 1, by omega⟩
  refine ⟨w.setRow g (cur.toList.take o ++ (Builtin.zeroCells z.cells (m + 1)).toList ++ cur.toList.drop (o + (Builtin.zeroCells z.cells (m + 1)).toList.length)).toArray, by simp [Builtin.clear_, run_underlying ht, hv, hst], ?_, ?_⟩
  · have hcur : cur.toList.length = N := by rw [Array.length_toList]; exact hsz
    have hsz2 : (cur.toList.take o ++ (Builtin.zeroCells z.cells (m + 1)).toList ++ cur.toList.drop (o + (Builtin.zeroCells z.cells (m + 1)).toList.length)).toArray.size = cur.size := by
      simp only [List.size_toArray, List.length_append, List.length_take, List.length_drop, Array.length_toList, size_zeroCells]
      omega
    refine ⟨_, fz, setRow_heap w g cur _ _ _ hh, hzz.imp id (by rw [hsz2]; exact id), by rw [hsz2]; exact hsz, ?_, by rw [List.length_take]; omega⟩
    rw [List.toList_toArray, List.length_take, Nat.min_eq_left ho, List.append_assoc, List.take_append_of_le_length (by rw [List.length_take]; omega), List.take_take, Nat.min_self, ← htk, List.take_take, Nat.min_eq_left ho]
  · exact ⟨rfl, rfl, rfl, by simp, fun i _ hne => setRow_other w g i _ (by rintro rfl; exact hne rfl)⟩
theorem wpList_clearE {P : Program} (w : World) {ops : Array Oper} {rest : List Oper} {o : Oper} {a : Act} {Q : Exit → Act → World → Prop} (hgd : o.guard = none) (s : Operand) (t : TypeId)
    (ho : o.op = .call { callee := .builtin .clear, args := #[s], argTypes := #[t] }) (v : Value) (hs : a.eval s = v) {v' : Value} {w' : World}
    (hr : (Builtin.clear_ #[t] o.type #[v]).run P w = .ok v' w') (h : wpList P ops Q rest (a.put o.dst v') w') : wpList P ops Q (o :: rest) a w :=
  wpList_plain hgd fun _ hK => by
    unfold Oper.wp execOp
    simp only [ho, resolve, invoke, builtin, Sem.run_bind, Sem.run_pure, Result.andThen_ok, List.map_toArray, List.map_cons, List.map_nil, hs, hr]
    exact hK _ _ h
def DelPost {T : Type} (E : TypeId) (k : Nat) (enc : T → List Value) (lo : Nat) (A : Option Addr) (c : Nat) (w : World) (us : List T) (e : Ending) (w' : World) : Prop :=
  e = .returned (.slice A us.length c) ∧ Oe E k enc w' lo A c us ∧ Below lo w w'
set_option maxHeartbeats 8000000 in
theorem delLink_any (gf : Nat) (lb : Array Value) (eg : ∀ args w, (callFunc gf args).run Try.prog w = .ok (.enter gf args) w) (p : Lk → Bool) (B lo : Nat) (A : Option Addr) (c : Nat) (xs : List Lk) (w : World) (ha : Oe 63 2 lkL w lo A c xs) (hl : xs.length ≤ 1000) (hlo : lo ≤ w.heap.size) (hB : B ≤ lo) (hp : PredB B w gf lb lkV p) :
    Calls Try.prog 69 #[.slice A xs.length c, .func (.func gf) #[] lb] w (DelPost 63 2 lkL lo A c w (xs.filter fun x => !p x)) := by
  have hix := ixLink_any gf lb eg p A c xs w (ha.sl lk2) (by omega) (hp.mono (Below.refl _ _) (by omega))
  have hfl := @List.findIdx_lt_length _ p xs
  by_cases hany : xs.findIdx p < xs.length
  case neg =>
    have hno : ∀ x ∈ xs, p x = false := fun x hx => by
      cases h : p x with
      | false => rfl
      | true => exact absurd (hfl.2 ⟨x, hx, h⟩) hany
    have hE : Hid (xs.filter (fun x => !p x) = xs) := List.filter_eq_self.2 fun x hx => by rw [hno x hx]; rfl
    have hv : ixV p xs = -1 := if_neg hany
    rw [hv] at hix
    rw [hE.out]
    clear hno hany hfl hv hE
    go_enter Try.func69, Try.ntmps69
    go_wp2_with (go_at_call 54; refine hix.mono ?_; rintro e w1 ⟨rfl, hb1⟩)
    go_ret
    exact ⟨rfl, ha.below hb1 (Nat.le_refl _), hb1.mono hlo⟩
  case pos =>
    obtain ⟨i0, hi0⟩ : ∃ i0, i0 = xs.findIdx p := ⟨_, rfl⟩
    have hv : ixV p xs = (i0 : Int) := by rw [ixV, if_pos hany, hi0]
    have hil : i0 < xs.length := by omega
    have hpi : p xs[i0] = true := by subst hi0; exact List.findIdx_getElem
    have hno : ∀ j (hj : j < xs.length), j < i0 → p xs[j] = false := fun j hj h => by
      subst hi0
      cases h9 : p xs[j] with
      | false => rfl
      | true => exact absurd h9 (by simpa using List.not_of_lt_findIdx h)
    have h00 : (xs.take (i0 + 1)).filter (fun x => !p x) = xs.take i0 := by
      rw [filt_succ _ hil, hpi]
      simp only [Bool.not_true, Bool.false_eq_true, if_false, List.append_nil]
      refine List.filter_eq_self.2 fun x hx => ?_
      obtain ⟨j, hj, rfl⟩ := List.getElem_of_mem hx
      rw [List.length_take] at hj
      rw [List.getElem_take, hno j (by omega) (by omega)]
      rfl
    rw [hv] at hix
    obtain ⟨g, rfl, hlog, hcm, hcap, hF⟩ := ha.fillC lk2 (by omega)
    have hcv : c ≤ 9223372036854775807 := by unfold maxLen at hcm; omega
    have H00 := Lib.hid h00
    have hle0 : (i0 : Int) < 1000 := by omega
    have hi1 : ((i0 : Int) == -1) = false := by rw [beq_eq_false_iff_ne]; omega
    have hwi : IntKind.i64.wrap ((i0 : Int) + 1) = (i0 : Int) + 1 := by rw [IntKind.wrap_i64]; omega
    obtain ⟨n, hn⟩ : ∃ n, n = xs.length := ⟨_, rfl⟩
    rw [← hn] at hl hil hcap ⊢
    have HN := Lib.hid hn
    clear hno hany hfl hv hi0 hpi h00 hn
    rw [← HN.out] at hix
    go_enter Try.func69, Try.ntmps69
    go_wp2_with (go_at_call 54; refine hix.mono ?_; rintro e w1 ⟨rfl, hb1⟩)
    have hF1 : Fill w1 g 63 (c * 2) (xs.flatMap lkL) := hF.keep (hb1.block g hF.lt)
    have hlo1 : lo ≤ w1.heap.size := Nat.le_trans hlo hb1.size
    have hb1' := hb1.mono hlo
    clear hix hi1 hwi hF ha
    go_loopw [5, 6] (fun iv jv wr => ∃ (j : Nat) (ys us : List Lk), us.length < j ∧ j ≤ n ∧ iv = .int .i64 us.length ∧ jv = .int .i64 j ∧ ys.length = n ∧ Hid (us = (xs.take j).filter fun x => !p x) ∧ Hid (ys.take us.length = us) ∧ Hid (ys.drop j = xs.drop j) ∧ Fill wr g 63 (c * 2) (ys.flatMap lkL) ∧ Below lo w wr) (fun _ jv _ => n - (intOf jv).toNat)
    case atStart => exact ⟨i0 + 1, xs, xs.take i0, by rw [List.length_take, ← HN.out]; omega, by omega, by rw [List.length_take, ← HN.out, Nat.min_eq_left (by omega)], rfl, HN.out.symm, Lib.hid H00.out.symm, Lib.hid (by rw [List.length_take, ← HN.out, Nat.min_eq_left (by omega)]), Lib.hid rfl, hF1, hb1'⟩
    case round =>
      clear hF1 hlo1 hb1' hb1 hil hle0
      obtain ⟨j, ys, us, huj, hjn, rfl, rfl, hyl, hu, ht, hd, hF, hb⟩ := hrel
      have zF := hF.lt
      have zb := hb.size
      have zlo : lo ≤ wr.heap.size := Nat.le_trans hlo zb
      by_cases hlt : j < n
      · have hlt' : (j : Int) < n := by omega
        have hjx : j < xs.length := by have := HN.out; omega
        have hjy : j < ys.length := by omega
        have hyj := drop_get hd.out hjx hjy
        have x0 : wr.cell? ⟨g, j * 2, none⟩ = some (.string xs[j].1) := by
          have := hF.cells (j * 2 + 0) _ (flat_get lk2 ys j _ (List.getElem?_eq_getElem hjy) 0 _ rfl)
          rw [hyj] at this
          exact this
        have x1 : wr.cell? ⟨g, j * 2 + 1, none⟩ = some (.int .i64 xs[j].2) := by
          have := hF.cells (j * 2 + 1) _ (flat_get lk2 ys j _ (List.getElem?_eq_getElem hjy) 1 _ rfl)
          rw [hyj] at this
          exact this
        have hcall := hp (wr.alloc (.cells (lkL xs[j]).toArray 63)) xs[j] ((hb.mono hB).alloc (by omega) _)
        have hb7 : Below wr.heap.size wr (wr.alloc (.cells (lkL xs[j]).toArray 63)) := (Below.refl _ _).alloc (Nat.le_refl _) _
        have hsx := filt_succ (fun x => !p x) hjx
        cases hq : p xs[j] with
        | true =>
          rw [hq] at hcall
          have HU : Hid (us = (xs.take (j + 1)).filter fun x => !p x) := by
            show _ = _
            rw [hsx, hq, ← hu.out]
            simp
          have HD : Hid (ys.drop (j + 1) = xs.drop (j + 1)) := by
            have := congrArg (List.drop 1) hd.out
            show _ = _
            simpa [List.drop_drop] using this
          clear hq hsx hu hd hyj
          go_wp2_with (go_at_fn gf; refine hcall.mono ?_; rintro e w2 ⟨rfl, hb2⟩)
          have hF2 : Fill w2 g 63 (c * 2) (ys.flatMap lkL) := hF.keep ((hb2.block g (by simp; omega)).trans (Below.heap_alloc wr _ g zF))
          go_roundw
          case rel => exact ⟨j + 1, ys, us, by omega, by omega, rfl, by go_num, hyl, HU, ht, HD, hF2, hb.trans ((hb7.trans (hb2.mono hb7.size)).mono zlo)⟩
          case measure => simp [intOf]; omega
        | false =>
          rw [hq] at hcall
          have HU : Hid (us ++ [xs[j]] = (xs.take (j + 1)).filter fun x => !p x) := by
            show _ = _
            rw [hsx, hq, ← hu.out]
            simp
          have HD : Hid ((ys.set us.length xs[j]).drop (j + 1) = xs.drop (j + 1)) := by
            have := congrArg (List.drop 1) hd.out
            show _ = _
            rw [List.drop_set_of_lt (by omega)]
            simpa [List.drop_drop] using this
          have HT : Hid ((ys.set us.length xs[j]).take (us.length + 1) = us ++ [xs[j]]) := by
            show _ = _
            rw [set_take (by omega), ht.out]
          have hul : us.length < n := by omega
          have hul' : (us.length : Int) < n := by omega
          have hu0 : (0 : Int) ≤ (us.length : Int) := by omega
          have hwu : IntKind.i64.wrap ((us.length : Int) + 1) = (us.length : Int) + 1 := by rw [IntKind.wrap_i64]; omega
          clear hq hsx hu hd hyj ht
          go_wp2_with (go_at_fn gf; refine hcall.mono ?_; rintro e w2 ⟨rfl, hb2⟩; have hF2 : Fill w2 g 63 (c * 2) (ys.flatMap lkL) := hF.keep ((hb2.block g (by simp; omega)).trans (Below.heap_alloc wr _ g zF)); obtain ⟨B2, hyq, _, zy⟩ := keep_blk hb2 (g := wr.heap.size) (heap_alloc_new wr _); have y0 : w2.cell? ⟨wr.heap.size, 0, none⟩ = some (.string xs[j].1) := hyq 0; have y1 : w2.cell? ⟨wr.heap.size, 1, none⟩ = some (.int .i64 xs[j].2) := hyq 1; obtain ⟨u0, hu0⟩ := hF2.cell (us.length * 2) (by omega); have hf0 := hF2.frozen (us.length * 2) (by omega); obtain ⟨u1, hu1⟩ := hF2.cell (us.length * 2 + 1) (by omega); have hf1 := hF2.frozen (us.length * 2 + 1) (by omega); clear B2 hyq)
          go_roundw
          case rel =>
            refine ⟨j + 1, ys.set us.length xs[j], us ++ [xs[j]], by simp; omega, by omega, by simp, by go_num, by rw [List.length_set]; exact hyl, HU, by rw [List.length_append]; exact HT, HD, ?_, ?_⟩
            · rw [← flat_set2 xs[j] ys us.length (by omega)]
              exact ((hF2.setAt (k := us.length * 2) (by simp only [flat_len lk2, hyl]; omega) (.string xs[j].1)).setAt (k := us.length * 2 + 1) (by simp only [List.length_set, flat_len lk2, hyl]; omega) (.int .i64 xs[j].2))
            · exact (((hb.trans ((hb7.trans (hb2.mono hb7.size)).mono zlo)).setCell (by show lo ≤ g; omega) _).setCell (by show lo ≤ g; omega) _)
          case measure => simp [intOf]; omega
      · have hlt' : ¬ ((j : Int) < n) := by omega
        obtain rfl : j = n := by omega
        have HU : Hid (us = xs.filter fun x => !p x) := by
          show _ = _
          rw [hu.out, List.take_of_length_le (by have := HN.out; omega)]
        have hcu : ¬ c = us.length := by omega
        have hu0 : (0 : Int) ≤ (us.length : Int) := by omega
        have hu1 : (us.length : Int) ≤ j := by omega
        have hu2 : (us.length : Int) ≤ c := by omega
        obtain ⟨W1, hr1, hF2, hg1⟩ := clear_fillE (P := Try.prog) wr 24 63 0 63 (.agg #[.string ByteArray.empty, .int .i64 0]) g (us.length * 2) (j - us.length) (c - us.length) (c * 2) (ys.flatMap lkL) Try.underlying24 (fun w => by kernel_rfl) (by decide) (by decide) hF (by omega) (by rw [flat_len lk2]; omega) (by show us.length * 2 + (j - us.length) * 2 ≤ c * 2; omega)
        have hpre : (ys.flatMap lkL).take (us.length * 2) = us.flatMap lkL := by rw [flat_take lk2 ys _ (by omega), ht.out]
        rw [hpre] at hF2
        have HO := Lib.hid (And.intro (Oe.of_fill (lo := lo) lk2 hF2 (by omega) hlog hcm) (hb.grown hg1 zlo (by intro k hk; injection hk with hk; omega)))
        clear hu ht hd hpre hF2 hg1 hF hyl
        go_wp2_with (at_builtin; refine wpList_clearE _ rfl _ 24 rfl _ rfl hr1 ?_)
        go_ret
        obtain ⟨h1, h2⟩ := HO.out
        rw [← HU.out]
        exact ⟨rfl, h1, h2⟩
set_option maxHeartbeats 8000000 in
theorem delFile_any (gf : Nat) (lb : Array Value) (eg : ∀ args w, (callFunc gf args).run Try.prog w = .ok (.enter gf args) w) (p : Fl → Bool) (B lo : Nat) (A : Option Addr) (c : Nat) (xs : List Fl) (w : World) (ha : Oe 36 3 flL w lo A c xs) (hl : xs.length ≤ 1000) (hlo : lo ≤ w.heap.size) (hB : B ≤ lo) (hp : PredB B w gf lb flV p) :
    Calls Try.prog 30 #[.slice A xs.length c, .func (.func gf) #[] lb] w (DelPost 36 3 flL lo A c w (xs.filter fun x => !p x)) := by
  have hix := ixFile_any gf lb eg p A c xs w (ha.sl fl3) (by omega) (hp.mono (Below.refl _ _) (by omega))
  have hfl := @List.findIdx_lt_length _ p xs
  by_cases hany : xs.findIdx p < xs.length
  case neg =>
    have hno : ∀ x ∈ xs, p x = false := fun x hx => by
      cases h : p x with
      | false => rfl
      | true => exact absurd (hfl.2 ⟨x, hx, h⟩) hany
    have hE : Hid (xs.filter (fun x => !p x) = xs) := List.filter_eq_self.2 fun x hx => by rw [hno x hx]; rfl
    have hv : ixV p xs = -1 := if_neg hany
    rw [hv] at hix
    rw [hE.out]
    clear hno hany hfl hv hE
    go_enter Try.func30, Try.ntmps30
    go_wp2_with (go_at_call 53; refine hix.mono ?_; rintro e w1 ⟨rfl, hb1⟩)
    go_ret
    exact ⟨rfl, ha.below hb1 (Nat.le_refl _), hb1.mono hlo⟩
  case pos =>
    obtain ⟨i0, hi0⟩ : ∃ i0, i0 = xs.findIdx p := ⟨_, rfl⟩
    have hv : ixV p xs = (i0 : Int) := by rw [ixV, if_pos hany, hi0]
    have hil : i0 < xs.length := by omega
    have hpi : p xs[i0] = true := by subst hi0; exact List.findIdx_getElem
    have hno : ∀ j (hj : j < xs.length), j < i0 → p xs[j] = false := fun j hj h => by
      subst hi0
      cases h9 : p xs[j] with
      | false => rfl
      | true => exact absurd h9 (by simpa using List.not_of_lt_findIdx h)
    have h00 : (xs.take (i0 + 1)).filter (fun x => !p x) = xs.take i0 := by
      rw [filt_succ _ hil, hpi]
      simp only [Bool.not_true, Bool.false_eq_true, if_false, List.append_nil]
      refine List.filter_eq_self.2 fun x hx => ?_
      obtain ⟨j, hj, rfl⟩ := List.getElem_of_mem hx
      rw [List.length_take] at hj
      rw [List.getElem_take, hno j (by omega) (by omega)]
      rfl
    rw [hv] at hix
    obtain ⟨g, rfl, hlog, hcm, hcap, hF⟩ := ha.fillC fl3 (by omega)
    have hcv : c ≤ 9223372036854775807 := by unfold maxLen at hcm; omega
    have H00 := Lib.hid h00
    have hle0 : (i0 : Int) < 1000 := by omega
    have hi1 : ((i0 : Int) == -1) = false := by rw [beq_eq_false_iff_ne]; omega
    have hwi : IntKind.i64.wrap ((i0 : Int) + 1) = (i0 : Int) + 1 := by rw [IntKind.wrap_i64]; omega
    obtain ⟨n, hn⟩ : ∃ n, n = xs.length := ⟨_, rfl⟩
    rw [← hn] at hl hil hcap ⊢
    have HN := Lib.hid hn
    clear hno hany hfl hv hi0 hpi h00 hn
    rw [← HN.out] at hix
    go_enter Try.func30, Try.ntmps30
    go_wp2_with (go_at_call 53; refine hix.mono ?_; rintro e w1 ⟨rfl, hb1⟩)
    have hF1 : Fill w1 g 36 (c * 3) (xs.flatMap flL) := hF.keep (hb1.block g hF.lt)
    have hlo1 : lo ≤ w1.heap.size := Nat.le_trans hlo hb1.size
    have hb1' := hb1.mono hlo
    clear hix hi1 hwi hF ha
    go_loopw [5, 6] (fun iv jv wr => ∃ (j : Nat) (ys us : List Fl), us.length < j ∧ j ≤ n ∧ iv = .int .i64 us.length ∧ jv = .int .i64 j ∧ ys.length = n ∧ Hid (us = (xs.take j).filter fun x => !p x) ∧ Hid (ys.take us.length = us) ∧ Hid (ys.drop j = xs.drop j) ∧ Fill wr g 36 (c * 3) (ys.flatMap flL) ∧ Below lo w wr) (fun _ jv _ => n - (intOf jv).toNat)
    case atStart => exact ⟨i0 + 1, xs, xs.take i0, by rw [List.length_take, ← HN.out]; omega, by omega, by rw [List.length_take, ← HN.out, Nat.min_eq_left (by omega)], rfl, HN.out.symm, Lib.hid H00.out.symm, Lib.hid (by rw [List.length_take, ← HN.out, Nat.min_eq_left (by omega)]), Lib.hid rfl, hF1, hb1'⟩
    case round =>
      clear hF1 hlo1 hb1' hb1 hil hle0
      obtain ⟨j, ys, us, huj, hjn, rfl, rfl, hyl, hu, ht, hd, hF, hb⟩ := hrel
      have zF := hF.lt
      have zb := hb.size
      have zlo : lo ≤ wr.heap.size := Nat.le_trans hlo zb
      by_cases hlt : j < n
      · have hlt' : (j : Int) < n := by omega
        have hjx : j < xs.length := by have := HN.out; omega
        have hjy : j < ys.length := by omega
        have hyj := drop_get hd.out hjx hjy
        have x0 : wr.cell? ⟨g, j * 3, none⟩ = some (.int .i64 xs[j].1) := by
          have := hF.cells (j * 3 + 0) _ (flat_get fl3 ys j _ (List.getElem?_eq_getElem hjy) 0 _ rfl)
          rw [hyj] at this
          exact this
        have x1 : wr.cell? ⟨g, j * 3 + 1, none⟩ = some (.slice xs[j].2.1.1 xs[j].2.1.2.2.length xs[j].2.1.2.1) := by
          have := hF.cells (j * 3 + 1) _ (flat_get fl3 ys j _ (List.getElem?_eq_getElem hjy) 1 _ rfl)
          rw [hyj] at this
          exact this
        have x2 : wr.cell? ⟨g, j * 3 + 2, none⟩ = some (.int .i64 xs[j].2.2) := by
          have := hF.cells (j * 3 + 2) _ (flat_get fl3 ys j _ (List.getElem?_eq_getElem hjy) 2 _ rfl)
          rw [hyj] at this
          exact this
        have hcall := hp (wr.alloc (.cells (flL xs[j]).toArray 36)) xs[j] ((hb.mono hB).alloc (by omega) _)
        have hb7 : Below wr.heap.size wr (wr.alloc (.cells (flL xs[j]).toArray 36)) := (Below.refl _ _).alloc (Nat.le_refl _) _
        have hsx := filt_succ (fun x => !p x) hjx
        cases hq : p xs[j] with
        | true =>
          rw [hq] at hcall
          have HU : Hid (us = (xs.take (j + 1)).filter fun x => !p x) := by
            show _ = _
            rw [hsx, hq, ← hu.out]
            simp
          have HD : Hid (ys.drop (j + 1) = xs.drop (j + 1)) := by
            have := congrArg (List.drop 1) hd.out
            show _ = _
            simpa [List.drop_drop] using this
          clear hq hsx hu hd hyj
          go_wp2_with (go_at_fn gf; refine hcall.mono ?_; rintro e w2 ⟨rfl, hb2⟩)
          have hF2 : Fill w2 g 36 (c * 3) (ys.flatMap flL) := hF.keep ((hb2.block g (by simp; omega)).trans (Below.heap_alloc wr _ g zF))
          go_roundw
          case rel => exact ⟨j + 1, ys, us, by omega, by omega, rfl, by go_num, hyl, HU, ht, HD, hF2, hb.trans ((hb7.trans (hb2.mono hb7.size)).mono zlo)⟩
          case measure => simp [intOf]; omega
        | false =>
          rw [hq] at hcall
          have HU : Hid (us ++ [xs[j]] = (xs.take (j + 1)).filter fun x => !p x) := by
            show _ = _
            rw [hsx, hq, ← hu.out]
            simp
          have HD : Hid ((ys.set us.length xs[j]).drop (j + 1) = xs.drop (j + 1)) := by
            have := congrArg (List.drop 1) hd.out
            show _ = _
            rw [List.drop_set_of_lt (by omega)]
            simpa [List.drop_drop] using this
          have HT : Hid ((ys.set us.length xs[j]).take (us.length + 1) = us ++ [xs[j]]) := by
            show _ = _
            rw [set_take (by omega), ht.out]
          have hul : us.length < n := by omega
          have hul' : (us.length : Int) < n := by omega
          have hu0 : (0 : Int) ≤ (us.length : Int) := by omega
          have hwu : IntKind.i64.wrap ((us.length : Int) + 1) = (us.length : Int) + 1 := by rw [IntKind.wrap_i64]; omega
          clear hq hsx hu hd hyj ht
          go_wp2_with (go_at_fn gf; refine hcall.mono ?_; rintro e w2 ⟨rfl, hb2⟩; have hF2 : Fill w2 g 36 (c * 3) (ys.flatMap flL) := hF.keep ((hb2.block g (by simp; omega)).trans (Below.heap_alloc wr _ g zF)); obtain ⟨B2, hyq, _, zy⟩ := keep_blk hb2 (g := wr.heap.size) (heap_alloc_new wr _); have y0 : w2.cell? ⟨wr.heap.size, 0, none⟩ = some (.int .i64 xs[j].1) := hyq 0; have y1 : w2.cell? ⟨wr.heap.size, 1, none⟩ = some (.slice xs[j].2.1.1 xs[j].2.1.2.2.length xs[j].2.1.2.1) := hyq 1; have y2 : w2.cell? ⟨wr.heap.size, 2, none⟩ = some (.int .i64 xs[j].2.2) := hyq 2; obtain ⟨u0, hu0⟩ := hF2.cell (us.length * 3) (by omega); have hf0 := hF2.frozen (us.length * 3) (by omega); obtain ⟨u1, hu1⟩ := hF2.cell (us.length * 3 + 1) (by omega); have hf1 := hF2.frozen (us.length * 3 + 1) (by omega); obtain ⟨u2, hu2⟩ := hF2.cell (us.length * 3 + 2) (by omega); have hf2 := hF2.frozen (us.length * 3 + 2) (by omega); clear B2 hyq)
          go_roundw
          case rel =>
            refine ⟨j + 1, ys.set us.length xs[j], us ++ [xs[j]], by simp; omega, by omega, by simp, by go_num, by rw [List.length_set]; exact hyl, HU, by rw [List.length_append]; exact HT, HD, ?_, ?_⟩
            · rw [← flat_set3 xs[j] ys us.length (by omega)]
              exact (((hF2.setAt (k := us.length * 3) (by simp only [flat_len fl3, hyl]; omega) (.int .i64 xs[j].1)).setAt (k := us.length * 3 + 1) (by simp only [List.length_set, flat_len fl3, hyl]; omega) (.slice xs[j].2.1.1 xs[j].2.1.2.2.length xs[j].2.1.2.1)).setAt (k := us.length * 3 + 2) (by simp only [List.length_set, flat_len fl3, hyl]; omega) (.int .i64 xs[j].2.2))
            · exact ((((hb.trans ((hb7.trans (hb2.mono hb7.size)).mono zlo)).setCell (by show lo ≤ g; omega) _).setCell (by show lo ≤ g; omega) _).setCell (by show lo ≤ g; omega) _)
          case measure => simp [intOf]; omega
      · have hlt' : ¬ ((j : Int) < n) := by omega
        obtain rfl : j = n := by omega
        have HU : Hid (us = xs.filter fun x => !p x) := by
          show _ = _
          rw [hu.out, List.take_of_length_le (by have := HN.out; omega)]
        have hcu : ¬ c = us.length := by omega
        have hu0 : (0 : Int) ≤ (us.length : Int) := by omega
        have hu1 : (us.length : Int) ≤ j := by omega
        have hu2 : (us.length : Int) ≤ c := by omega
        obtain ⟨W1, hr1, hF2, hg1⟩ := clear_fillE (P := Try.prog) wr 23 36 0 36 (.agg #[.int .i64 0, .slice none 0 0, .int .i64 0]) g (us.length * 3) (j - us.length) (c - us.length) (c * 3) (ys.flatMap flL) Try.underlying23 (fun w => by kernel_rfl) (by decide) (by decide) hF (by omega) (by rw [flat_len fl3]; omega) (by show us.length * 3 + (j - us.length) * 3 ≤ c * 3; omega)
        have hpre : (ys.flatMap flL).take (us.length * 3) = us.flatMap flL := by rw [flat_take fl3 ys _ (by omega), ht.out]
        rw [hpre] at hF2
        have HO := Lib.hid (And.intro (Oe.of_fill (lo := lo) fl3 hF2 (by omega) hlog hcm) (hb.grown hg1 zlo (by intro k hk; injection hk with hk; omega)))
        clear hu ht hd hpre hF2 hg1 hF hyl
        go_wp2_with (at_builtin; refine wpList_clearE _ rfl _ 23 rfl _ rfl hr1 ?_)
        go_ret
        obtain ⟨h1, h2⟩ := HO.out
        rw [← HU.out]
        exact ⟨rfl, h1, h2⟩
end Go.Proofs.Ytndmdhmghjfckaa
