/- slices.Delete at rows: the first row goes. The rows kept, scrolled, the cursor moved down: the program's way. -/
import Derived.Test.YtnilgcahggmncaaY1
import Derived.Lib.SliceRun
import Derived.Deep.RegionLaw
import Derived.Test.YtnilgcahggmncaaY4
namespace Go.Proofs.Ytnilgcahggmncaa
open Go.RowKit

set_option linter.unusedVariables false
set_option maxRecDepth 100000

theorem Fill.many {g N : Nat} {t : TypeId} : ∀ (vs : List Value) {w : World} {done : List Value}, Fill w g t N done → done.length + vs.length ≤ N → Fill (w.setCells g done.length vs) g t N (done ++ vs)
  | [], w, done, h, _ => by rw [List.append_nil]; exact h
  | v :: r, w, done, h, hl => by
    have h1 := h.step (k := done.length) rfl (by simp at hl; omega) v
    have h2 := Fill.many r h1 (by simp at hl ⊢; omega)
    simp only [List.length_append, List.length_singleton, List.append_assoc, List.singleton_append] at h2
    exact h2
theorem Fill.pre {w : World} {g N : Nat} {t : TypeId} {xs ys : List Value} (h : Fill w g t N (xs ++ ys)) : Fill w g t N xs := by
  obtain ⟨cur, fz, h1, hz, h2, h3, h4⟩ := h
  refine ⟨cur, fz, h1, hz, h2, ?_, by simp at h4; omega⟩
  have := congrArg (List.take xs.length) h3
  simpa [List.take_take] using this
theorem Chg.cells (g : Nat) : ∀ (vs : List Value) (o : Nat) (w : World), Chg [some g] w (w.setCells g o vs)
  | [], _, w => Chg.refl _ w
  | v :: r, o, w => ((Chg.refl [some g] w).setCell (p := ⟨g, o, none⟩) (by simp) v).trans (Chg.cells g r (o + 1) _)
theorem Or.fillR {w : World} {lo c : Nat} {A : Option Addr} {es : List Rw} (h : Or w lo A c es) (hx : 0 < es.length) : ∃ g, A = some ⟨g, 0, none⟩ ∧ lo ≤ g ∧ c ≤ maxLen ∧ es.length ≤ c ∧ Fill w g 99 c [] ∧ ∀ j u, (es.map rv)[j]? = some u → w.cell? ⟨g, j, none⟩ = some u := by
  rcases h.2 with ⟨h1, h2⟩ | ⟨g, cap, cur, fz, hv, hg, hh, hz, hc1, hc2, hc3, ht⟩
  · omega
  · injection hv with hv _ hv3
    subst hv3
    exact ⟨g, hv, hg, hc2, hc1, Fill.start hh hz (by omega), fun j u hu => h.cells (g := g) (by rw [hv]; rfl) j u hu⟩
theorem run_clear_row1 (w : World) (b o c : Nat) (ty : TypeId) (x : Value) (hc : w.cell? ⟨b, o, none⟩ = some x) (hf : w.frozen? ⟨b, o, none⟩ = false) :
    (Builtin.clear_ #[47] ty #[.slice (some ⟨b, o, none⟩) 1 c]).run Try.prog w = .ok (.tuple #[]) (w.setCell ⟨b, o, none⟩ (.slice none 0 0)) := by
  obtain ⟨i0, hi0, hz0, hz1, hz2⟩ := info_parts info_row
  have hv : (zeroValue 99).run Try.prog w = .ok (.agg #[.slice none 0 0]) w := by simp [zeroValue, typeInfo, hi0, hz0]
  have hzc : (Builtin.zeroCells (Value.agg #[.slice none 0 0]).cells 1).toList = [.slice none 0 0] := by
    have hvc : (Value.agg #[.slice none 0 0]).cells = #[.slice none 0 0] := by simp [Value.cells]
    simp [Builtin.zeroCells, hvc, List.range_succ]
  have hs := run_store Try.prog w ⟨b, o, none⟩ (.slice none 0 0) .plain rfl
  simp [Builtin.clear_, run_underlying Try.underlying47, hv, hzc, storeCells, show (⟨b, o, none⟩ : Addr).add 0 = ⟨b, o, none⟩ from by simp [Addr.add], hs, hc, hf]
theorem Or.of_fillR {w : World} {lo g c : Nat} {es : List Rw} {vs : List Value} (h : Fill w g 99 c (es.map rv ++ vs)) (hlo : lo ≤ g) (hm : c ≤ maxLen) : Or w lo (some ⟨g, 0, none⟩) c es := by
  have h1 := h.pre
  have h2 : es.length ≤ c := by obtain ⟨_, _, _, _, _, _, h4⟩ := h1; simpa using h4
  exact Or.of_fill h1 h2 hlo hm
set_option maxHeartbeats 4000000 in
theorem delR_any (lo : Nat) (A : Option Addr) (c n m : Nat) (e0 : Rw) (r : List Rw) (w : World) (h : Or w lo A c (e0 :: r)) (hn : Hid (n = r.length)) (hm : Hid (m = n + 1)) (hl : n ≤ 1000) :
    Calls Try.prog 149 #[.slice A m c, .int .i64 0, .int .i64 1] w fun e w' => e = .returned (.slice A n c) ∧ Or w' lo A c r ∧ Chg [ob A] w w' := by
  obtain ⟨i0, hi0, hz0, hz1, hz2⟩ := info_parts info_row
  obtain ⟨g, rfl, hlog, hcm, hcap, hF, hcells⟩ := h.fillR (by simp)
  rw [List.length_cons] at hcap
  have hn' := hn.out
  have hm' := hm.out
  obtain ⟨news, hnews⟩ : ∃ news, Hid (news = r.map rv) := ⟨_, Lib.hid rfl⟩
  have hlen : news.length = n := by rw [hnews.out, hn.out]; simp
  obtain ⟨X, hX, hsrc⟩ : ∃ X : Addr, (if c = 1 then some (⟨g, 0, none⟩ : Addr) else some ⟨g, 1, none⟩) = some X ∧ Hid (∀ t u, news[t]? = some u → w.drew.cell? (X.add t) = some u) := by
    by_cases hc : c = 1
    · refine ⟨⟨g, 0, none⟩, if_pos hc, fun t u hu => ?_⟩
      have : news = [] := List.eq_nil_of_length_eq_zero (by omega)
      rw [this] at hu
      simp at hu
    · refine ⟨⟨g, 1, none⟩, if_neg hc, fun t u hu => ?_⟩
      rw [Addr.add_lit]
      refine hcells (1 + t) u ?_
      rw [Nat.add_comm, List.map_cons, List.getElem?_cons_succ, ← hnews.out]
      exact hu
  have s1 : Hid (news.length = n * 1) := by show _ = _; omega
  have s2 : Hid (∀ u ∈ news, u.oneCell' = true) := fun u hu => by
    rw [hnews.out] at hu
    obtain ⟨x, _, rfl⟩ := List.mem_map.1 hu
    rfl
  have s3 : Hid (∀ t, t < news.length → (w.drew.cell? ⟨g, 0 + 0 * 1 + t, none⟩).isSome = true ∧ w.drew.frozen? ⟨g, 0 + 0 * 1 + t, none⟩ = false) := fun t ht => by
    rw [show 0 + 0 * 1 + t = t by omega]
    obtain ⟨u, hu⟩ := hF.cell t (by omega)
    exact ⟨by show (w.cell? _).isSome = true; rw [hu]; rfl, hF.frozen t (by omega)⟩
  obtain ⟨W1, hW1⟩ : ∃ W1, Hid (W1 = w.drew.setCells g (0 + 0 * 1) news) := ⟨_, Lib.hid rfl⟩
  have hF0 : Fill w.drew g 99 c [] := hF
  have hF1 : Fill W1 g 99 c news := by
    have := Fill.many news hF0 (by simp; omega)
    rw [hW1.out]
    simpa using this
  have hk1 : Chg [some g] w W1 := by rw [hW1.out]; exact (Chg.of_below _ (Below.refl w.heap.size w).drew).trans (Chg.cells g news _ _)
  obtain ⟨u, hu⟩ := hF1.cell n (by omega)
  have hcl := fun ty => run_clear_row1 W1 g n (c - n) ty u hu (hF1.frozen n (by omega))
  have hF2 := hF1.step (k := n) hlen.symm (by omega) (.slice none 0 0)
  have HF2 := Lib.hid hF2
  have HK := Lib.hid (hk1.trans ((Chg.refl [some g] W1).setCell (p := ⟨g, n, none⟩) (by simp) (.slice none 0 0)))
  have b1 : (1 : Int) ≤ (m : Int) := by omega
  have b2 : (m : Int) ≤ (c : Int) := by omega
  have b3 : m - 1 = n := by omega
  have b4 : m - n = 1 := by omega
  have b5 : ¬ c = n := by omega
  have b6 : (n : Int) ≤ (m : Int) := by omega
  clear hF2 hk1 hF1 hF0 hF hcells hcap hlen hn' hm' hu h
  go_enter Try.func149, Try.ntmps149
  go_wp2_with fail
  go_region_law (refine step_append_room rfl (.tmp 22) (.tmp 25) 47 rfl 99 i0 1 Try.underlying47 hi0 hz1 g 0 0 c (by simp [Act.eval, Act.put]) X n (c - 1) news (by simp [Act.eval, Act.put]) s1.out hsrc.out s2.out (by omega) s3.out ?_; rw [← hW1.out])
  all_goals (
    go_wp2_with fail
    go_ret
    refine ⟨rfl, ?_, HK.out⟩
    have h2 := HF2.out
    rw [hnews.out] at h2
    exact Or.of_fillR h2 hlog hcm)

set_option linter.unusedVariables false
set_option maxRecDepth 100000

theorem Ow.tail {w : World} {lo : Nat} {A : Option Addr} {e : Rw} {es : List Rw} (h : Ow w lo A (e :: es)) : Ow w lo A es :=
  ⟨fun x hx => h.own x (List.mem_cons.2 (.inr hx)), (List.pairwise_cons.1 h.sep).2, fun x hx => h.list x (List.mem_cons.2 (.inr hx))⟩
theorem So.putB {F : List (Option Nat)} {w w' : World} {lo g : Nat} {M A : Rw} {T : Ti} {B B' : Tr} (h : So w lo M A T B) (hc : Chg F w w') (hF : ∀ k, some k ∈ F → k = g ∨ ob B.1 = some k ∨ w.heap.size ≤ k) (hg : some g ∉ sft M A T B)
    (ol : Or w' lo B'.1 B'.2.1 B'.2.2) (ow : Ow w' lo B'.1 B'.2.2) (hB : ∀ k, some k ∈ ob B'.1 :: ft B'.2.2 → some k ∈ ob B.1 :: ft B.2.2 ∨ w.heap.size ≤ k) : So w' lo M A T B' := by
  obtain ⟨h1, hs2⟩ := List.pairwise_cons.1 h.sep
  obtain ⟨h2, hs3⟩ := List.pairwise_cons.1 hs2
  obtain ⟨h3, hs4⟩ := List.pairwise_cons.1 hs3
  have mB : ∀ {k : Nat}, ob B.1 = some k → some k ∈ ob B.1 :: ft B.2.2 := fun h => List.mem_cons.2 (.inl h.symm)
  have kM : ∀ k, ob M.1 = some k → some k ∉ F := fun k hk hm => by
    rcases hF k hm with rfl | h5 | h5
    · exact hg (List.mem_cons.2 (.inl hk.symm))
    · exact h1 _ (List.mem_cons_of_mem _ (List.mem_cons_of_mem _ (mB h5))) k hk rfl
    · have := (h.om.ob_lt hk).2; omega
  have kA : ∀ k, ob A.1 = some k → some k ∉ F := fun k hk hm => by
    rcases hF k hm with rfl | h5 | h5
    · exact hg (List.mem_cons_of_mem _ (List.mem_cons.2 (.inl hk.symm)))
    · exact h2 _ (List.mem_cons_of_mem _ (mB h5)) k hk rfl
    · have := (h.oa.ob_lt hk).2; omega
  have kT : ∀ k, ob T.1 = some k → some k ∉ F := fun k hk hm => by
    rcases hF k hm with rfl | h5 | h5
    · exact hg (List.mem_cons_of_mem _ (List.mem_cons_of_mem _ (List.mem_cons.2 (.inl hk.symm))))
    · exact h3 _ (mB h5) k hk rfl
    · have := (h.ot.ob_lt hk).2; omega
  refine ⟨h.om.chg hc kM, h.oa.chg hc kA, h.ot.chg hc kT, ol, ow.own, List.pairwise_cons.2 ⟨?_, List.pairwise_cons.2 ⟨?_, List.pairwise_cons.2 ⟨?_, List.pairwise_cons.2 ⟨?_, ow.sep⟩⟩⟩⟩⟩
  · intro x hx
    rcases List.mem_cons.1 hx with hx | hx
    · exact h1 x (List.mem_cons.2 (.inl hx))
    · rcases List.mem_cons.1 hx with hx | hx
      · exact h1 x (List.mem_cons_of_mem _ (List.mem_cons.2 (.inl hx)))
      · intro k e1 e2
        rcases hB k (e2 ▸ hx) with h5 | h5
        · exact h1 _ (List.mem_cons_of_mem _ (List.mem_cons_of_mem _ h5)) k e1 rfl
        · have := (h.om.ob_lt e1).2; omega
  · intro x hx
    rcases List.mem_cons.1 hx with hx | hx
    · exact h2 x (List.mem_cons.2 (.inl hx))
    · intro k e1 e2
      rcases hB k (e2 ▸ hx) with h5 | h5
      · exact h2 _ (List.mem_cons_of_mem _ h5) k e1 rfl
      · have := (h.oa.ob_lt e1).2; omega
  · intro x hx k e1 e2
    rcases hB k (e2 ▸ hx) with h5 | h5
    · exact h3 _ h5 k e1 rfl
    · have := (h.ot.ob_lt e1).2; omega
  · intro x hx
    obtain ⟨e, he, rfl⟩ := List.mem_map.1 hx
    exact ow.list e he
theorem So.ow' {w : World} {lo : Nat} {M A : Rw} {T : Ti} {B : Tr} (h : So w lo M A T B) : Ow w lo B.1 B.2.2 := by
  obtain ⟨_, hs2⟩ := List.pairwise_cons.1 h.sep
  obtain ⟨_, hs3⟩ := List.pairwise_cons.1 hs2
  obtain ⟨_, hs4⟩ := List.pairwise_cons.1 hs3
  obtain ⟨h4, hs5⟩ := List.pairwise_cons.1 hs4
  exact ⟨h.ow, hs5, fun e he => h4 _ (List.mem_map.2 ⟨e, he, rfl⟩)⟩
theorem mem23 {a b c : Option Nat} (k : Nat) (h : some k ∈ [a, b]) : some k ∈ [a, b, c] := by
  simp only [List.mem_cons, List.not_mem_nil, or_false] at h ⊢
  exact h.elim .inl (fun h => .inr (.inl h))
theorem keep_end {s : Sc} {M A : Rw} {T : Ti} {bA A9 : Option Addr} {bc c9 : Nat} {bs es : List Rw} {c2 : Cont} {lo g : Nat} {w z : World} (ho : So w lo M A T (bA, bc, bs)) (hn : some g ∉ sft M A T (bA, bc, bs)) (hzg : g < w.heap.size) (hc : Chg [some g, ob bA, ob A9] w z) (O : Or z lo A9 c9 es) (W : Ow z lo A9 es)
    (hB : ∀ k, some k ∈ ob A9 :: ft es → some k ∈ ob bA :: ft bs ∨ w.heap.size ≤ k) (hA9 : ∀ k, ob A9 = some k → ob bA = some k ∨ w.heap.size ≤ k) (hbz : z.heap[g]? = some (.cells (sC s M A T (A9, c9, es)) 49 (0, 0))) (hh2 : Hid (Holds M A T (A9, c9, es) c2)) : ChPost lo g M A T (bA, bc, bs) w s c2 (.returned (.tuple #[])) z := by
  have hsub : ∀ k, some k ∈ sft M A T (A9, c9, es) → some k ∈ sft M A T (bA, bc, bs) ∨ w.heap.size ≤ k := fun k hk => by
    rcases List.mem_cons.1 hk with hk | hk
    · exact .inl (List.mem_cons.2 (.inl hk))
    · rcases List.mem_cons.1 hk with hk | hk
      · exact .inl (List.mem_cons_of_mem _ (List.mem_cons.2 (.inl hk)))
      · rcases List.mem_cons.1 hk with hk | hk
        · exact .inl (List.mem_cons_of_mem _ (List.mem_cons_of_mem _ (List.mem_cons.2 (.inl hk))))
        · exact (hB k hk).imp (fun h => List.mem_cons_of_mem _ (List.mem_cons_of_mem _ (List.mem_cons_of_mem _ h))) id
  have hF : ∀ k, some k ∈ [some g, ob bA, ob A9] → k = g ∨ ob bA = some k ∨ w.heap.size ≤ k := fun k hk => by
    rcases List.mem_cons.1 hk with hk | hk
    · exact .inl (Option.some.inj hk)
    · rcases List.mem_cons.1 hk with hk | hk
      · exact .inr (.inl hk.symm)
      · exact .inr (hA9 k (List.mem_singleton.1 hk).symm)
  refine ⟨rfl, M, A, T, (A9, c9, es), hbz, hh2, ho.putB hc hF hn O W hB, fun h => ?_, hc.drop (fun k hk => ?_), hsub⟩
  · rcases hsub g h with h | h
    · exact hn h
    · omega
  · rcases hF k hk with rfl | h | h
    · exact .inl (List.mem_cons.2 (.inl rfl))
    · exact .inl (List.mem_cons_of_mem _ (List.mem_cons_of_mem _ (List.mem_cons_of_mem _ (List.mem_cons_of_mem _ (List.mem_cons.2 (.inl h.symm))))))
    · exact .inr h
set_option maxHeartbeats 4000000 in
theorem keep_any (s : Sc) (M A : Rw) (T : Ti) (B : Tr) (c : Cont) (lo g : Nat) (w : World) (hq : scrB s c = true) (hb : w.heap[g]? = some (.cells (sC s M A T B) 49 (0, 0))) (ho : So w lo M A T B) (hh : Hid (Holds M A T B c)) (hn : some g ∉ sft M A T B) (hlg : lo ≤ g) :
    Calls Try.prog 145 #[.pointer (some ⟨g, 0, none⟩), .int .i64 1] w (ChPost lo g M A T B w s { c with b := keepL c.b (c.m.take s.W.toNat) s.limit }) := by
  obtain ⟨⟨u1, u2, u3, u4⟩, _, _, m1, m2, m3⟩ := scr_nums hq
  obtain ⟨⟨d1, d2⟩, d3, d4⟩ := scr_dims hq
  obtain ⟨g1, _, _, _, _⟩ := scr_grids hq
  obtain ⟨pp1, pp2⟩ := grid_pos g1
  have hrl := row_len g1
  obtain ⟨a, ha⟩ := Int.eq_ofNat_of_zero_le (show 0 ≤ s.W by omega)
  rw [u1, ha, Int.toNat_natCast] at hrl
  have hHo := hh.out
  obtain ⟨mA, mc, ms⟩ := M
  obtain ⟨bA, bc, bs⟩ := B
  have eM : ms = c.m := hHo.1
  have eB : rcs bs = c.b := hHo.2.2.2
  rw [← eM] at hrl pp1 pp2
  have hbl : (bs.length : Int) ≤ s.limit := by rw [← eB] at m3; simpa [rcs] using m3
  obtain ⟨gm, hgm, _, _, hmc, _⟩ := ho.om.fill pp1
  simp only at hgm
  subst hgm
  have hma : a ≤ ms.length := by rw [List.length_take] at hrl; omega
  have hMW : s.mW = (a : Int) := u1.trans ha
  have zg := (Array.getElem?_eq_some_iff.1 hb).1
  have gM := ho.om.gs
  have oB : Or w lo bA bc bs := ho.ol
  have wR : Ow w lo bA bs := ho.ow'
  have hbg : ∀ k, some k ∈ ob bA :: ft bs → k ≠ g := fun k hk e => hn (by subst e; exact List.mem_cons_of_mem _ (List.mem_cons_of_mem _ (List.mem_cons_of_mem _ hk)))
  have HBG := Lib.hid hbg
  have hrow := fun w' => row_any a s.mH (some ⟨gm, 0, none⟩) ms.length mc 0 0 a w' (by show _ = _; omega) (by show _ = _; omega) (by omega) hma hmc pp2 (by omega)
  rw [← hMW] at hrow
  have HROW := Lib.hid hrow
  have g0 : w.drew.heap[g]? = some (.cells (sC s (some ⟨gm, 0, none⟩, mc, ms) A T (bA, bc, bs)) 49 (0, 0)) := hb
  have ha1 : 1 ≤ a := by omega
  have ha2 : a ≤ 120 := by omega
  have HMA := Lib.hid hMW
  have HU := Lib.hid ha
  have HRL := Lib.hid hrl
  have HHO := Lib.hid hHo
  have HEM := Lib.hid eM
  have HEB := Lib.hid eB
  clear hrow hbg hMW u1 u2 u3 u4 d1 d2 d3 d4 g1 ha hHo eM eB m3 hrl
  go_enter Try.func145, Try.ntmps145
  go_wp2_with fail
  refine wp_loop_rounds 2 ?_
  rw [rounds_succ]
  go_wp2_with fail
  refine wp_regionK (fun w' => w'.heap[g]? = some (.cells (sC s (some ⟨gm, 0, none⟩, mc, ms) A T (bA, bc, bs)) 49 (0, 0))) 17 (by kernel_rfl) ?_
  refine wpAnyK_free (i := 0) (v := .pointer (some ⟨g, 0, none⟩)) rfl (by kernel_rfl) (by kernel_rfl) (by kernel_rfl) (fun _ _ _ h => h) (by decide) (Or.inl ⟨by rfl, (by intro w' _; go_simp; try first | rfl | (simp [*, Addr.add_lit]; done))⟩) (fun _ => g0) ?_
  try simp only [Act.put, List.getElem_toArray, List.getElem_cons_zero, List.setIfInBounds_toArray, List.set_cons_zero, List.set_cons_succ]
  refine wpAnyK_free (i := 1) (v := .pointer (some ⟨g, 0, none⟩)) rfl (by kernel_rfl) (by kernel_rfl) (by kernel_rfl) (fun _ _ _ h => h) (by decide) (Or.inl ⟨by rfl, (by intro w' _; go_simp; try first | rfl | (simp [*, Addr.add_lit]; done))⟩) (fun _ => g0) ?_
  try simp only [Act.put, List.getElem_toArray, List.getElem_cons_succ, List.getElem_cons_zero, List.setIfInBounds_toArray, List.set_cons_zero, List.set_cons_succ]
  refine wpAnyK_free (i := 2) (v := .pointer (some ⟨g, 0, none⟩)) rfl (by kernel_rfl) (by kernel_rfl) (by kernel_rfl) (fun _ _ _ h => h) (by decide) (Or.inl ⟨by rfl, (by intro w' _; go_simp; try first | rfl | (simp [*, Addr.add_lit]; done))⟩) (fun _ => g0) ?_
  try simp only [Act.put, List.getElem_toArray, List.getElem_cons_succ, List.getElem_cons_zero, List.setIfInBounds_toArray, List.set_cons_zero, List.set_cons_succ]
  refine wpAnyK_free (i := 3) (v := .pointer (some ⟨g, 30, none⟩)) rfl (by kernel_rfl) (by kernel_rfl) (by kernel_rfl) (fun _ _ _ h => h) (by decide) (Or.inl ⟨by rfl, (by intro w' _; go_simp; try first | rfl | (simp [*, Addr.add_lit]; done))⟩) (fun _ => g0) ?_
  try simp only [Act.put, List.getElem_toArray, List.getElem_cons_succ, List.getElem_cons_zero, List.setIfInBounds_toArray, List.set_cons_zero, List.set_cons_succ]
  refine wpAnyK_take (i := 4) (v := .slice bA bs.length bc) rfl (by kernel_rfl) (by kernel_rfl) (by kernel_rfl) (fun _ _ _ h => h) (by kernel_rfl) (by kernel_rfl) (by decide) (Or.inl ⟨by rfl, (by intro w' hSw; have q : ∀ i, w'.cell? ⟨g, i, none⟩ = _ := fun i => cell_of_row w' _ i _ _ (0, 0) hSw; go_simp; try first | rfl | simp [q])⟩) (g0) ?_
  try simp only [Act.put, List.getElem_toArray, List.getElem_cons_succ, List.getElem_cons_zero, List.setIfInBounds_toArray, List.set_cons_zero, List.set_cons_succ]
  refine wpAnyK_free (i := 5) (v := .pointer (some ⟨g, 0, none⟩)) rfl (by kernel_rfl) (by kernel_rfl) (by kernel_rfl) (fun _ _ _ h => h) (by decide) (Or.inl ⟨by rfl, (by intro w' _; go_simp; try first | rfl | (simp [*, Addr.add_lit]; done))⟩) (fun _ => g0) ?_
  try simp only [Act.put, List.getElem_toArray, List.getElem_cons_succ, List.getElem_cons_zero, List.setIfInBounds_toArray, List.set_cons_zero, List.set_cons_succ]
  refine wpAnyK_free (i := 6) (v := .pointer (some ⟨g, 0, none⟩)) rfl (by kernel_rfl) (by kernel_rfl) (by kernel_rfl) (fun _ _ _ h => h) (by decide) (Or.inl ⟨by rfl, (by intro w' _; go_simp; try first | rfl | (simp [*, Addr.add_lit]; done))⟩) (fun _ => g0) ?_
  try simp only [Act.put, List.getElem_toArray, List.getElem_cons_succ, List.getElem_cons_zero, List.setIfInBounds_toArray, List.set_cons_zero, List.set_cons_succ]
  refine wpAnyK_free (i := 7) (v := .pointer (some ⟨g, 2, none⟩)) rfl (by kernel_rfl) (by kernel_rfl) (by kernel_rfl) (fun _ _ _ h => h) (by decide) (Or.inl ⟨by rfl, (by intro w' _; go_simp; try first | rfl | (simp [*, Addr.add_lit]; done))⟩) (fun _ => g0) ?_
  try simp only [Act.put, List.getElem_toArray, List.getElem_cons_succ, List.getElem_cons_zero, List.setIfInBounds_toArray, List.set_cons_zero, List.set_cons_succ]
  refine wpAnyK_take (i := 8) (v := gV s.mW s.mH (some ⟨gm, 0, none⟩) ms.length mc) rfl (by kernel_rfl) (by kernel_rfl) (by kernel_rfl) (fun _ _ _ h => h) (by kernel_rfl) (by kernel_rfl) (by decide) (Or.inl ⟨by rfl, (by intro w' hSw; have q : ∀ i, w'.cell? ⟨g, i, none⟩ = _ := fun i => cell_of_row w' _ i _ _ (0, 0) hSw; go_simp; try first | rfl | simp [q])⟩) (g0) ?_
  try simp only [Act.put, List.getElem_toArray, List.getElem_cons_succ, List.getElem_cons_zero, List.setIfInBounds_toArray, List.set_cons_zero, List.set_cons_succ]
  refine wpAnyK_free (i := 9) (v := .int .i64 0) rfl (by kernel_rfl) (by kernel_rfl) (by kernel_rfl) (fun _ _ _ h => h) (by decide) (Or.inl ⟨by rfl, (by intro w' _; go_simp; try first | rfl | (simp [*, Addr.add_lit]; done))⟩) (fun _ => g0) ?_
  try simp only [Act.put, List.getElem_toArray, List.getElem_cons_succ, List.getElem_cons_zero, List.setIfInBounds_toArray, List.set_cons_zero, List.set_cons_succ]
  refine wpAnyK_ready (rs := [10]) (by kernel_rfl) (by simp) ?_
  refine AllReadyK.cons rfl (fun K hK => ?_) AllReadyK.nil
  go_simp
  refine (HROW.out _).mono ?_
  rintro e w1 ⟨he, hb1⟩
  have he' : e = .returned (.slice (some ⟨gm, 0, none⟩) a mc) := by rw [he]; simp [Addr.add_lit]
  subst he'
  clear he
  have t1 : Below w.heap.size w w1 := (Below.refl _ _).drew.trans hb1
  have b1 := (t1.block _ zg).trans hb
  refine hK.out _ _ (fun _ => b1) ?_
  clear hK K
  try simp only [Act.put, List.getElem_toArray, List.getElem_cons_succ, List.getElem_cons_zero, List.setIfInBounds_toArray, List.set_cons_zero, List.set_cons_succ]
  refine wpAnyK_ready (rs := [11]) (by kernel_rfl) (by simp) ?_
  refine AllReadyK.cons rfl (fun K hK => ?_) AllReadyK.nil
  go_simp
  have gM1 : Gs w1 (some ⟨gm, 0, none⟩) (ms.take a) := (gM.below t1).take a
  have hcl := clone_any (some ⟨gm, 0, none⟩) mc (ms.take a) w1 gM1 (by rw [HRL.out]; omega) (by rw [HRL.out]; omega)
  rw [HRL.out] at hcl
  refine hcl.mono ?_
  clear hcl
  rintro e w8 ⟨A8, c8, rfl, o8, _, _, hb8⟩
  have x1 := t1.size
  have t8 := t1.trans (hb8.mono x1)
  have b8 := (t8.block _ zg).trans hb
  have x8 := hb8.size
  refine hK.out _ _ (fun _ => b8) ?_
  clear hK K
  try simp only [Act.put, List.getElem_toArray, List.getElem_cons_succ, List.getElem_cons_zero, List.setIfInBounds_toArray, List.set_cons_zero, List.set_cons_succ]
  refine wpAnyK_free (i := 12) (v := .agg #[.slice A8 a c8]) rfl (by kernel_rfl) (by kernel_rfl) (by kernel_rfl) (fun _ _ _ h => h) (by decide) (Or.inl ⟨by rfl, (by intro w' _; go_simp; try first | rfl | (simp [*, Addr.add_lit]; done))⟩) (fun _ => b8) ?_
  try simp only [Act.put, List.getElem_toArray, List.getElem_cons_succ, List.getElem_cons_zero, List.setIfInBounds_toArray, List.set_cons_zero, List.set_cons_succ]
  refine wpAnyK_ready (rs := [13]) (by kernel_rfl) (by simp) ?_
  refine AllReadyK.cons rfl (fun K hK => ?_) AllReadyK.nil
  go_simp
  have b9 : (w8.alloc (.cells #[.slice A8 a c8] 99)).heap[g]? = some (.cells (sC s (some ⟨gm, 0, none⟩, mc, ms) A T (bA, bc, bs)) 49 (0, 0)) := heap_alloc_of _ b8
  refine hK.out _ _ (fun _ => b9) ?_
  clear hK K
  try simp only [Act.put, List.getElem_toArray, List.getElem_cons_succ, List.getElem_cons_zero, List.setIfInBounds_toArray, List.set_cons_zero, List.set_cons_succ]
  have oB8 : Or w8 lo bA bc bs := (oB.below2 t8 (fun k hk => (oB.ob_lt hk).2))
  refine wpAnyK_ready (rs := [14]) (by kernel_rfl) (by simp) ?_
  refine AllReadyK.cons rfl (fun K hK => ?_) AllReadyK.nil
  refine step_app1R rfl _ _ rfl lo bA bc bs w8 _ (A8, c8, ms.take a) oB8 rfl rfl rfl (by omega) (by omega) (by show _ = Value.slice _ _ _; rw [HRL.out]) ?_
  intro A9 c9 w9 o9 k9 n9
  have nP : some g ∉ [ob bA] := fun hm => HBG.out g (List.mem_cons.2 (.inl (List.mem_singleton.1 hm))) rfl
  have bb9 := (keep_chg k9 b8 nP).1
  have x9 := k9.size
  refine hK.out _ _ (fun _ => bb9) ?_
  clear hK K b9
  try simp only [Act.put, List.getElem_toArray, List.getElem_cons_succ, List.getElem_cons_zero, List.setIfInBounds_toArray, List.set_cons_zero, List.set_cons_succ]
  refine wpAnyK_free (i := 15) (v := .pointer (some ⟨g, 0, none⟩)) rfl (by kernel_rfl) (by kernel_rfl) (by kernel_rfl) (fun _ _ _ h => h) (by decide) (Or.inl ⟨by rfl, (by intro w' _; go_simp; try first | rfl | (simp [*, Addr.add_lit]; done))⟩) (fun _ => bb9) ?_
  try simp only [Act.put, List.getElem_toArray, List.getElem_cons_succ, List.getElem_cons_zero, List.setIfInBounds_toArray, List.set_cons_zero, List.set_cons_succ]
  refine wpAnyK_free (i := 16) (v := .pointer (some ⟨g, 30, none⟩)) rfl (by kernel_rfl) (by kernel_rfl) (by kernel_rfl) (fun _ _ _ h => h) (by decide) (Or.inl ⟨by rfl, (by intro w' _; go_simp; try first | rfl | (simp [*, Addr.add_lit]; done))⟩) (fun _ => bb9) ?_
  try simp only [Act.put, List.getElem_toArray, List.getElem_cons_succ, List.getElem_cons_zero, List.setIfInBounds_toArray, List.set_cons_zero, List.set_cons_succ]
  have q9 : ∀ i, w9.cell? ⟨g, i, none⟩ = _ := fun i => cell_of_row w9 _ i _ _ (0, 0) bb9
  have r9 : ∀ i, w9.frozen? ⟨g, i, none⟩ = false := frz bb9
  refine wpAnyK_ready (rs := [17]) (by kernel_rfl) (by simp) ?_
  refine AllReadyK.cons rfl (fun K hK => ?_) AllReadyK.nil
  go_simp
  obtain ⟨v9, hv9⟩ : ∃ v, v = (w9.setCell ⟨g, 30, none⟩ (.slice A9 (bs.length + 1) c9)) := ⟨_, rfl⟩
  rw [← hv9]
  obtain ⟨es, hes⟩ : ∃ es, Hid (es = bs ++ [(A8, c8, ms.take a)]) := ⟨_, Lib.hid rfl⟩
  have hlen : Hid (es.length = bs.length + 1) := by show _ = _; rw [hes.out]; simp
  have kv : Bk g w9 v9 (sC s (some ⟨gm, 0, none⟩, mc, ms) A T (A9, c9, es)) := by
    rw [hv9, hes.out]
    have := blk_back bb9 (A9, c9, bs ++ [(A8, c8, ms.take a)])
    simpa only [bv, List.length_append, List.length_singleton] using this
  refine hK.out _ _ (late (by kernel_rfl)) ?_
  clear hK K hv9 q9 r9
  try simp only [Act.put, List.getElem_toArray, List.getElem_cons_succ, List.getElem_cons_zero, List.setIfInBounds_toArray, List.set_cons_zero, List.set_cons_succ]
  refine wpAnyK_done (by kernel_rfl) ?_ _
  have bv9 := kv.1
  have HK9 := Lib.hid kv.2.1
  have HS9 := Lib.hid kv.2.2
  have qv : ∀ i, v9.cell? ⟨g, i, none⟩ = _ := fun i => cell_of_row v9 _ i _ _ (0, 0) bv9
  dsimp only [sC, tv, bv, rv] at qv
  have rv9 : ∀ i, v9.frozen? ⟨g, i, none⟩ = false := frz bv9
  have W9 : Ow w9 lo A9 es := by
    rw [hes.out]
    exact (wR.below t8).push k9 (m := w1.heap.size) (fun k hk => by have := (wR.lt hk).2; omega) (fun k hk => by have := (oB.ob_lt hk).2; omega) o8 (by have := (Array.getElem?_eq_some_iff.1 hb).1; omega) n9
  have O9 : Or w9 lo A9 c9 es := by rw [hes.out]; exact o9
  have hK : ∀ k, some k ∈ ob A9 :: ft es → some k ∈ ob bA :: ft bs ∨ w.heap.size ≤ k := fun k hk => by
    rcases List.mem_cons.1 hk with hk | hk
    · rcases n9 k hk.symm with h | h
      · exact .inl (List.mem_cons.2 (.inl h.symm))
      · exact .inr (by omega)
    · rw [hes.out, ft, List.map_append, List.mem_append] at hk
      rcases hk with hk | hk
      · exact .inl (List.mem_cons.2 (.inr hk))
      · rw [List.map_cons, List.map_nil, List.mem_singleton] at hk
        have := (o8.ob_lt hk.symm).1
        exact .inr (by omega)
  have hG : ∀ k, some k ∈ ob A9 :: ft es → k ≠ g := fun k hk => by
    rcases hK k hk with h | h
    · exact HBG.out k h
    · omega
  have HHK := Lib.hid hK
  have HG := Lib.hid hG
  have HW9 := Lib.hid (W9.chg HK9.out (fun k hk hm => hG k (List.mem_cons.2 (.inr hk)) (by simpa using hm)))
  have HO9 := Lib.hid (O9.chg HK9.out (fun k hk hm => hG k (List.mem_cons.2 (.inl hk.symm)) (by simpa using hm)))
  have HC : Hid (Chg [some g, ob bA] w v9) := (((Chg.of_below _ t8).trans k9).mono (fun k hk => by simp at hk ⊢; exact .inr hk)).trans (HK9.out.mono (fun k hk => by simp at hk ⊢; exact .inl hk))
  have HBV := Lib.hid bv9
  have N9 : Hid (∀ k, ob A9 = some k → ob bA = some k ∨ w.heap.size ≤ k) := fun k hk => (n9 k hk).imp id (fun h => by omega)
  have HRC : Hid (rcs es = rcs bs ++ [ms.take a]) := by show _ = _; rw [hes.out]; simp [rcs]
  clear hK hG kv W9 O9 bb9 b8 b1 o8 o9 oB8 gM1 t1 t8 x1 x8 x9 g0 bv9 nP hb8 hb1 k9 n9
  by_cases hl : s.limit < (bs.length : Int) + 1
  · have HL := Lib.hid hl
    have ew : IntKind.i64.wrap ((es.length : Int) - s.limit) = 1 := by rw [hlen.out, IntKind.wrap_i64]; omega
    obtain ⟨e0, r, her⟩ : ∃ e0 r, Hid (es = e0 :: r) := by
      cases h : es with
      | nil => have := hlen.out; rw [h] at this; simp at this
      | cons e0 r => exact ⟨e0, r, rfl⟩
    obtain ⟨n, hn1⟩ : ∃ n, Hid (n = r.length) := ⟨_, Lib.hid rfl⟩
    have hln : Hid (es.length = n + 1) := by show _ = _; rw [her.out, hn1.out]; simp
    have HD := Lib.hid (delR_any lo A9 c9 n es.length e0 r v9.drew (by have h9 : Or v9.drew lo A9 c9 es := HO9.out; rwa [her.out] at h9) hn1 hln (by have := hln.out; have := hlen.out; omega))
    clear hl hbl m1 m2
    go_wp2_with fail
    rw [rounds_succ]
    go_wp2_with fail
    go_region
    go_wp2_with fail
    refine HD.out.mono ?_
    rintro e w10 ⟨rfl, o10, k10⟩
    have b10 := (keep_chg (W := v9.drew) k10 HBV.out (fun hm => HG.out g (List.mem_cons.2 (.inl (List.mem_singleton.1 hm))) rfl)).1
    have q10 : ∀ i, w10.cell? ⟨g, i, none⟩ = _ := fun i => cell_of_row w10 _ i _ _ (0, 0) b10
    have r10 : ∀ i, w10.frozen? ⟨g, i, none⟩ = false := frz b10
    have kz := blk_back b10 (A9, c9, r)
    rw [show bv (A9, c9, r) = .slice A9 n c9 by rw [hn1.out]] at kz
    have KZ := Lib.hid kz
    clear kz qv rv9
    go_wp2_with fail
    refine bodyPost_end (results_none rfl _ _ _) rfl ?_
    have hW9 : Ow v9.drew lo A9 (e0 :: r) := by have h9 := HW9.out.below (Below.refl v9.heap.size v9).drew; rwa [her.out] at h9
    have hW10 : Ow w10 lo A9 r := hW9.tail.chg k10 (fun k hk hm => by
      obtain ⟨e, he, hq⟩ := List.mem_map.1 hk
      exact hW9.list e (List.mem_cons.2 (.inr he)) k (List.mem_singleton.1 hm).symm hq)
    have hHK : ∀ k, some k ∈ ob A9 :: ft r → some k ∈ ob A9 :: ft es := fun k hk => by
      rw [her.out]
      rcases List.mem_cons.1 hk with hk | hk
      · exact List.mem_cons.2 (.inl hk)
      · exact List.mem_cons_of_mem _ (List.mem_cons_of_mem _ hk)
    refine keep_end ho hn zg ?_ (o10.chg KZ.out.2.1 (fun k hk hm => HG.out k (List.mem_cons.2 (.inl hk.symm)) (by simpa using hm))) (hW10.chg KZ.out.2.1 (fun k hk hm => HG.out k (hHK k (List.mem_cons.2 (.inr hk))) (by simpa using hm))) (fun k hk => HHK.out k (hHK k hk)) ?_ KZ.out.1 ?_
    · exact (((HC.out.mono mem23).trans (Chg.of_below _ (Below.refl v9.heap.size v9).drew)).trans (k10.mono (fun k hk => by simp at hk ⊢; exact .inr (.inr hk)))).trans (KZ.out.2.1.mono (fun k hk => by simp at hk ⊢; exact .inl hk))
    · exact N9.out
    · refine ⟨HEM.out, HHO.out.2.1, HHO.out.2.2.1, ?_⟩
      show rcs r = keepL c.b (c.m.take s.W.toNat) s.limit
      rw [keepL, if_pos (by rw [← HEB.out]; simpa [rcs] using HL.out), ← HEB.out, ← HEM.out, HU.out, Int.toNat_natCast, ← HRC.out, her.out]
      rfl
  · have ew : IntKind.i64.wrap ((es.length : Int) - s.limit) = (es.length : Int) - s.limit := by rw [IntKind.wrap_i64, hlen.out]; omega
    have hle : ¬ 0 < (es.length : Int) - s.limit := by rw [hlen.out]; omega
    clear hbl m1 m2
    go_wp2_with fail
    rw [rounds_succ]
    go_wp2_with fail
    go_region
    go_wp2_with fail
    refine bodyPost_end (results_none rfl _ _ _) rfl ?_
    have hc9 : Chg [some g, ob bA, ob A9] w v9.drew := (HC.out.mono mem23).trans (Chg.of_below _ (Below.refl v9.heap.size v9).drew)
    refine keep_end ho hn zg hc9 HO9.out (HW9.out.below (Below.refl v9.heap.size v9).drew) HHK.out N9.out HBV.out ?_
    refine ⟨HEM.out, HHO.out.2.1, HHO.out.2.2.1, ?_⟩
    show rcs es = keepL c.b (c.m.take s.W.toNat) s.limit
    rw [keepL, if_neg (by rw [← HEB.out]; simpa [rcs] using hl), ← HEB.out, ← HEM.out, HU.out, Int.toNat_natCast, ← HRC.out]
theorem ChPost.trans {lo g : Nat} {M A M1 A1 : Rw} {T T1 : Ti} {B B1 : Tr} {w w1 : World} {s : Sc} {c : Cont} {e : Ending} {w2 : World} (h : ChPost lo g M1 A1 T1 B1 w1 s c e w2) (hk : Chg (some g :: sft M A T B) w w1) (hs : ∀ k, some k ∈ sft M1 A1 T1 B1 → some k ∈ sft M A T B ∨ w.heap.size ≤ k) : ChPost lo g M A T B w s c e w2 := by
  obtain ⟨he, M2, A2, T2, B2, b2, hh2, ho2, hn2, k2, hs2⟩ := h
  have z := hk.size
  refine ⟨he, M2, A2, T2, B2, b2, hh2, ho2, hn2, Chg.drop (F := some g :: (sft M A T B ++ sft M1 A1 T1 B1)) ((hk.mono (fun k hk => ?_)).trans (k2.mono (fun k hk => ?_))) (fun k hk => ?_), fun k hk => ?_⟩
  · rcases List.mem_cons.1 hk with hk | hk
    · exact List.mem_cons.2 (.inl hk)
    · exact List.mem_cons_of_mem _ (List.mem_append.2 (.inl hk))
  · rcases List.mem_cons.1 hk with hk | hk
    · exact List.mem_cons.2 (.inl hk)
    · exact List.mem_cons_of_mem _ (List.mem_append.2 (.inr hk))
  · rcases List.mem_cons.1 hk with hk | hk
    · exact .inl (List.mem_cons.2 (.inl hk))
    · rcases List.mem_append.1 hk with hk | hk
      · exact .inl (List.mem_cons_of_mem _ hk)
      · exact (hs k hk).imp (List.mem_cons_of_mem _) id
  · rcases hs2 k hk with h | h
    · exact hs k h
    · exact .inr (by omega)
set_option maxHeartbeats 4000000 in
theorem rollUp_no (s : Sc) (M A : Rw) (T : Ti) (B : Tr) (c : Cont) (lo g : Nat) (w : World) (hq : scrB s c = true) (hb : w.heap[g]? = some (.cells (sC s M A T B) 49 (0, 0))) (ho : So w lo M A T B) (hh : Hid (Holds M A T B c)) (hn : some g ∉ sft M A T B) (hlg : lo ≤ g) (hno : s.onA = true ∨ s.top ≠ 0) :
    Calls Try.prog 134 #[.pointer (some ⟨g, 0, none⟩), .int .i64 1] w (ChPost lo g M A T B w s (rollC s (keepC s c) 1)) := by
  have q : ∀ i, w.cell? ⟨g, i, none⟩ = _ := fun i => cell_of_row w _ i _ _ (0, 0) hb
  have r : ∀ i, w.frozen? ⟨g, i, none⟩ = false := frz hb
  have HR := Lib.hid (fun w hb ho hn => rollS_any s M A T B c 1 lo g w hq hb ho hh hn hlg)
  have hk : keepC s c = c := if_neg (fun h => by
    rcases hno with h1 | h1
    · rw [h1] at h; simp at h
    · exact h1 h.2)
  rw [hk]
  clear hk
  obtain ⟨rc, hrc⟩ : ∃ x, Hid (x = rollC s c 1) := ⟨_, Lib.hid rfl⟩
  rw [← hrc.out] at HR ⊢
  rcases Bool.eq_false_or_eq_true s.onA with hA | hA
  · clear hno
    go_enter Try.func134, Try.ntmps134
    go_wp2_with fail
    clear hA
    go_region_with (go_at_call 132; refine (HR.out w.drew hb (ho.below (Below.drew (Below.refl w.heap.size w)) (Nat.le_refl _)) hn).mono ?_; rintro e w1 ⟨rfl, h1⟩)
    all_goals (
      go_wp2_with fail
      refine bodyPost_end (results_none rfl _ _ _) rfl ?_
      exact ChPost.trans ⟨rfl, h1⟩ (Chg.of_below _ (Below.drew (Below.refl w.heap.size w))) (fun k hk => .inl hk))
  · have ht : (s.top == 0) = false := by
      rcases hno with h1 | h1
      · rw [hA] at h1; cases h1
      · simpa using h1
    clear hno
    go_enter Try.func134, Try.ntmps134
    go_wp2_with fail
    clear hA ht
    go_region_with (go_at_call 132; refine (HR.out w.drew hb (ho.below (Below.drew (Below.refl w.heap.size w)) (Nat.le_refl _)) hn).mono ?_; rintro e w1 ⟨rfl, h1⟩)
    all_goals (
      go_wp2_with fail
      refine bodyPost_end (results_none rfl _ _ _) rfl ?_
      exact ChPost.trans ⟨rfl, h1⟩ (Chg.of_below _ (Below.drew (Below.refl w.heap.size w))) (fun k hk => .inl hk))
set_option maxHeartbeats 4000000 in
theorem rollUp_yes (s : Sc) (M A : Rw) (T : Ti) (B : Tr) (c : Cont) (lo g : Nat) (w : World) (hq : scrB s c = true) (hb : w.heap[g]? = some (.cells (sC s M A T B) 49 (0, 0))) (ho : So w lo M A T B) (hh : Hid (Holds M A T B c)) (hn : some g ∉ sft M A T B) (hlg : lo ≤ g) (hA : s.onA = false) (h0 : s.top = 0) :
    Calls Try.prog 134 #[.pointer (some ⟨g, 0, none⟩), .int .i64 1] w (ChPost lo g M A T B w s (rollC s (keepC s c) 1)) := by
  have q : ∀ i, w.cell? ⟨g, i, none⟩ = _ := fun i => cell_of_row w _ i _ _ (0, 0) hb
  have r : ∀ i, w.frozen? ⟨g, i, none⟩ = false := frz hb
  obtain ⟨_, _, ⟨v1, v2, v3⟩, _⟩ := scr_nums hq
  obtain ⟨_, d3, d4⟩ := scr_dims hq
  have ew : IntKind.i64.wrap (s.bot + 1) = s.bot + 1 := by rw [IntKind.wrap_i64]; omega
  have em : min (1 : Int) (s.bot + 1) = 1 := by omega
  have ht : (s.top == 0) = true := by simpa using h0
  have hkc : keepC s c = { c with b := keepL c.b (c.m.take s.W.toNat) s.limit } := if_pos ⟨hA, h0⟩
  have HK := Lib.hid (keep_any s M A T B c lo g w hq hb ho hh hn hlg)
  rw [← hkc] at HK
  have hq2 := scr_keep hq
  obtain ⟨kc, hkc'⟩ : ∃ x, Hid (x = keepC s c) := ⟨_, Lib.hid rfl⟩
  rw [← hkc'.out] at HK hq2 ⊢
  have HR := Lib.hid (fun M A T B w hb ho hh hn => rollS_any s M A T B kc 1 lo g w hq2 hb ho hh hn hlg)
  obtain ⟨rc, hrc⟩ : ∃ x, Hid (x = rollC s kc 1) := ⟨_, Lib.hid rfl⟩
  rw [← hrc.out] at HR ⊢
  clear hkc h0 d3 d4 v1 v2 v3 hq2
  go_enter Try.func134, Try.ntmps134
  go_wp2_with fail
  refine HK.out.mono ?_
  rintro e w1 ⟨rfl, M1, A1, T1, B1, b1, hh1, ho1, hn1, k1, s1⟩
  have q1 : ∀ i, w1.cell? ⟨g, i, none⟩ = _ := fun i => cell_of_row w1 _ i _ _ (0, 0) b1
  have r1 : ∀ i, w1.frozen? ⟨g, i, none⟩ = false := frz b1
  clear q r ht ew em hA
  go_wp2_with fail
  go_region_with (go_at_call 132; refine (HR.out M1 A1 T1 B1 w1.drew b1 (ho1.below (Below.drew (Below.refl w1.heap.size w1)) (Nat.le_refl _)) hh1 hn1).mono ?_; rintro e w2 ⟨rfl, h2⟩)
  all_goals (
    go_wp2_with fail
    refine bodyPost_end (results_none rfl _ _ _) rfl ?_
    exact ChPost.trans ⟨rfl, h2⟩ (k1.trans (Chg.of_below _ (Below.drew (Below.refl w1.heap.size w1)))) s1)
theorem rollUp_any (s : Sc) (M A : Rw) (T : Ti) (B : Tr) (c : Cont) (lo g : Nat) (w : World) (hq : scrB s c = true) (hb : w.heap[g]? = some (.cells (sC s M A T B) 49 (0, 0))) (ho : So w lo M A T B) (hh : Hid (Holds M A T B c)) (hn : some g ∉ sft M A T B) (hlg : lo ≤ g) :
    Calls Try.prog 134 #[.pointer (some ⟨g, 0, none⟩), .int .i64 1] w (ChPost lo g M A T B w s (rollC s (keepC s c) 1)) := by
  by_cases h : s.onA = false ∧ s.top = 0
  · exact rollUp_yes s M A T B c lo g w hq hb ho hh hn hlg h.1 h.2
  · refine rollUp_no s M A T B c lo g w hq hb ho hh hn hlg ?_
    rcases Bool.eq_false_or_eq_true s.onA with hA | hA
    · exact .inl hA
    · exact .inr (fun h0 => h ⟨hA, h0⟩)
set_option maxHeartbeats 4000000 in
theorem down_any (s : Sc) (M A : Rw) (T : Ti) (B : Tr) (c : Cont) (lo g : Nat) (w : World) (hq : scrB s c = true) (hb : w.heap[g]? = some (.cells (sC s M A T B) 49 (0, 0))) (ho : So w lo M A T B) (hh : Hid (Holds M A T B c)) (hn : some g ∉ sft M A T B) (hlg : lo ≤ g) :
    Calls Try.prog 106 #[.pointer (some ⟨g, 0, none⟩)] w (ChPost lo g M A T B w (downS s) (downC s c)) := by
  have q : ∀ i, w.cell? ⟨g, i, none⟩ = _ := fun i => cell_of_row w _ i _ _ (0, 0) hb
  have r : ∀ i, w.frozen? ⟨g, i, none⟩ = false := frz hb
  have zg := (Array.getElem?_eq_some_iff.1 hb).1
  obtain ⟨_, ⟨_, _, y1, y2⟩, ⟨v1, v2, v3⟩, _⟩ := scr_nums hq
  obtain ⟨⟨d1, d2⟩, d3, d4⟩ := scr_dims hq
  by_cases h1 : s.Y = s.bot
  · have h1' : (s.Y == s.bot) = true := by simpa using h1
    have e1 : downS s = { s with wrap := false } := by unfold downS; rw [if_pos h1]
    have e2 : downC s c = rollC s (keepC s c) 1 := if_pos h1
    have HR := Lib.hid (fun w hb ho hn => rollUp_any s M A T B c lo g w hq hb ho hh hn hlg)
    rw [← e2] at HR
    have E1 := Lib.hid e1
    clear e1 e2 h1
    go_enter Try.func106, Try.ntmps106
    go_wp2_with fail
    go_region
    go_wp2_with fail
    refine (HR.out w.drew hb (ho.below (Below.drew (Below.refl w.heap.size w)) (Nat.le_refl _)) hn).mono ?_
    rintro e w1 ⟨rfl, M1, A1, T1, B1, b1, hh1, ho1, hn1, k1, s1⟩
    have q1 : ∀ i, w1.cell? ⟨g, i, none⟩ = _ := fun i => cell_of_row w1 _ i _ _ (0, 0) b1
    have r1 : ∀ i, w1.frozen? ⟨g, i, none⟩ = false := frz b1
    have kw := blk_wrap b1 false
    clear q r h1'
    go_wp2_with fail
    refine bodyPost_end (results_none rfl _ _ _) rfl ?_
    refine ⟨rfl, M1, A1, T1, B1, by rw [E1.out]; exact kw.1, hh1, ho1.chg kw.2.1 (fun k hk hm => by simp at hm; exact hn1 (by rw [← hm]; exact hk)), hn1, (Chg.of_below _ (Below.drew (Below.refl w.heap.size w))).trans (k1.trans (kw.2.1.mono (fun k hk => List.mem_cons.2 (.inl (by simpa using hk))))), s1⟩
  · have h1' : (s.Y == s.bot) = false := by simpa using h1
    have e2 : downC s c = c := if_neg h1
    have E2 := Lib.hid e2
    have ew : IntKind.i64.wrap (s.H - 1) = s.H - 1 := by rw [IntKind.wrap_i64]; omega
    clear e2
    by_cases h2 : s.Y < s.H - 1
    · have e1 : downS s = { s with Y := s.Y + 1, wrap := false } := by unfold downS; rw [if_neg h1, if_pos h2]
      have E1 := Lib.hid e1
      clear e1 h1
      have ky := blk_y (w := w.drew.drew) hb (s.Y + 1)
      have kw := blk_wrap ky.1 false
      go_enter Try.func106, Try.ntmps106
      go_wp2_with fail
      go_region
      go_wp2_with fail
      go_region
      go_wp2_with fail
      refine bodyPost_end (results_none rfl _ _ _) rfl ?_
      have hbd : Below w.heap.size w w.drew.drew := Below.drew (Below.drew (Below.refl w.heap.size w))
      exact ⟨rfl, M, A, T, B, by rw [E1.out]; exact kw.1, by rw [E2.out]; exact hh, ho.chg ((Chg.of_below _ hbd).trans (ky.2.1.trans kw.2.1)) (fun k hk hm => by simp at hm; exact hn (by rw [← hm]; exact hk)), hn, ((Chg.of_below _ hbd).trans (ky.2.1.trans kw.2.1)).mono (fun k hk => List.mem_cons.2 (.inl (by simpa using hk))), fun k hk => .inl hk⟩
    · have e1 : downS s = { s with wrap := false } := by unfold downS; rw [if_neg h1, if_neg h2]
      have E1 := Lib.hid e1
      clear e1 h1
      have kw := blk_wrap (w := w.drew.drew) hb false
      go_enter Try.func106, Try.ntmps106
      go_wp2_with fail
      go_region
      go_wp2_with fail
      go_region
      go_wp2_with fail
      refine bodyPost_end (results_none rfl _ _ _) rfl ?_
      have hbd : Below w.heap.size w w.drew.drew := Below.drew (Below.drew (Below.refl w.heap.size w))
      exact ⟨rfl, M, A, T, B, by rw [E1.out]; exact kw.1, by rw [E2.out]; exact hh, ho.chg ((Chg.of_below _ hbd).trans kw.2.1) (fun k hk hm => by simp at hm; exact hn (by rw [← hm]; exact hk)), hn, ((Chg.of_below _ hbd).trans kw.2.1).mono (fun k hk => List.mem_cons.2 (.inl (by simpa using hk))), fun k hk => .inl hk⟩
theorem downClosure_any (s : Sc) (M A : Rw) (T : Ti) (B : Tr) (c : Cont) (lo g : Nat) (w : World) (hq : scrB s c = true) (hb : w.heap[g]? = some (.cells (sC s M A T B) 49 (0, 0))) (ho : So w lo M A T B) (hh : Hid (Holds M A T B c)) (hn : some g ∉ sft M A T B) (hlg : lo ≤ g) :
    Calls Try.prog 105 #[.pointer (some ⟨g, 0, none⟩)] w (ChPost lo g M A T B w (downS s) (downC s c)) := by
  have HU := Lib.hid (down_any s M A T B c lo g w hq hb ho hh hn hlg)
  go_enter Try.func105, Try.ntmps105
  go_wp2_with fail
  refine HU.out.mono ?_
  rintro e w1 ⟨rfl, h1⟩
  go_wp2_with fail
  refine bodyPost_end (results_none rfl _ _ _) rfl ?_
  exact ⟨rfl, h1⟩
set_option maxHeartbeats 4000000 in
theorem scrDown_impl (s : Sc) (M A : Rw) (T : Ti) (B : Tr) (c : Cont) (w : World) (hr : Sr w M A T B) (hz : Sz M A T B 1048576) (hh : Hid (Holds M A T B c)) :
    Calls Try.prog 44 #[sV s M A T B] w (ScrOwn w (chS s c (downS s)) (chC s c (downC s c))) := by
  obtain ⟨rs, hrs⟩ : ∃ x', Hid (x' = chS s c (downS s)) := ⟨_, Lib.hid rfl⟩
  obtain ⟨rc, hrc⟩ : ∃ x', Hid (x' = chC s c (downC s c)) := ⟨_, Lib.hid rfl⟩
  rw [← hrs.out, ← hrc.out]
  have b0 : ((w.alloc (.cells (sC s M A T B) 49)).alloc (.cells zC 49)).heap[w.heap.size]? = some (.cells (sC s M A T B) 49 (0, 0)) := heap_alloc_of _ (heap_alloc_new _ _)
  have z0 : ((w.alloc (.cells (sC s M A T B) 49)).alloc (.cells zC 49)).heap[w.heap.size + 1]? = some (.cells zC 49 (0, 0)) := heap_alloc_at _ (by simp)
  have t0 : Below w.heap.size w ((w.alloc (.cells (sC s M A T B) 49)).alloc (.cells zC 49)) := (((Below.refl _ _).alloc (Nat.le_refl _) _).alloc (by simp) _)
  go_enter Try.func44, Try.ntmps44
  go_wp2_with (first | (refine wpList_load_row rfl 49 _ rfl (w.heap.size) rfl 49 (sC s M A T B) (0, 0) _ b0 Try.underlying49 rfl size_scr ?_))
  refine (changed_any 105 #[] s M A T B c (downS s) (downC s c) _ (hr.below t0) hz hh (fun args w => by go_simp) (fun hq lo g M1 A1 T1 B1 w1 hb1 hB ho hH hn _ hlg => downClosure_any s M1 A1 T1 B1 c lo g w1 hq hB ho hH hn hlg)).mono ?_
  rw [← hrs.out, ← hrc.out]
  rintro e w2 ⟨M2, A2, T2, B2, rfl, hh2, ho2, hb2⟩
  have z2 := (hb2.block _ (Array.getElem?_eq_some_iff.1 z0).1).trans z0
  have t2 := t0.trans (hb2.mono t0.size)
  have x0 := t0.size
  have x2 := t2.size
  have lz := (Array.getElem?_eq_some_iff.1 z0).1
  clear b0 z0
  go_wp2_with (first | (refine wp_store_blk rfl 49 _ _ rfl (w.heap.size + 1) (sC rs M2 A2 T2 B2) rfl rfl 49 zC z2 size_scr rfl (sC_one rs M2 A2 T2 B2) ?_; intro w7 B7 C7 z7))
  refine bodyPost_ret (results_cell_row Try.results44 _ _ (w.heap.size + 1) 49 (sC rs M2 A2 T2 B2) (0, 0) _ rfl B7 Try.underlying49 rfl size_scr) rfl ?_
  exact ⟨M2, A2, T2, B2, rfl, hh2, (ho2.chg C7 (fun k hk hm => by have := (ho2.lt hk).1; simp at hm; omega)).mono (by omega), t2.trans (C7.below (fun k hk => by simp at hk; omega) (by omega))⟩
end Go.Proofs.Ytnilgcahggmncaa
