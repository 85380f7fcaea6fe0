/- A row kept that scrolls out: the reference's way. A screen that can be read, in blocks of its own range; what the reference answers. The content of a screen whose cursor has moved down: plain. -/
import Derived.Test.YtnilgcahggmncaaY3
import Derived.Test.YtnilgcahggmncaaN5
namespace Go.Proofs.Ytnilgcahggmncaa
open Go.RowKit

set_option linter.unusedVariables false
set_option maxRecDepth 100000

theorem Or.below2 {w w' : World} {lo B' c : Nat} {A : Option Addr} {es : List Rw} (h : Or w lo A c es) (hb : Below B' w w') (hl : ∀ k, ob A = some k → k < B') : Or w' lo A c es := ownsG.below h hb (fun k hk => hl k (by rw [ob_eq] at hk; exact hk))
/-- append of a row onto a list of the call's own, as one step of a region that draws. -/
theorem step_app1R {ops : Array Oper} {o : Oper} {a : Act} {Q : Exit → Act → World → Prop} {K : Act → World → Prop} {E : Prop} (hgd : o.guard = none) (s x : Operand) (ho : o.op = .call { callee := .builtin .append, args := #[s, x], argTypes := #[47, 47] })
    (lo : Nat) (A : Option Addr) (c : Nat) (es : List Rw) (w : World) (n : Nat) (e : Rw) (ha : Or w lo A c es) (hn : n = es.length) (hs : a.eval s = .slice A n c)
    (hx : a.eval x = .slice (some ⟨w.heap.size, 0, none⟩) 1 1) (hl : es.length ≤ 1048576) (hlo : lo ≤ w.heap.size) {v : Value} (hv : v = rv e)
    (h : ∀ A' c' w', Or w' lo A' c' (es ++ [e]) → Chg [ob A] w w' → (∀ k, ob A' = some k → ob A = some k ∨ w.heap.size ≤ k) → K (a.put o.dst (.slice A' (n + 1) c')) w') :
    if Region.wanted o (yielded ops a.tmps) = true then Oper.wp Try.prog o a (w.alloc (.cells #[v] 99)) K Q else E := by
  have hw : Region.wanted o (yielded ops a.tmps) = true := by simp [Region.wanted, hgd]
  rw [if_pos hw]
  obtain ⟨i0, hi, hz0, hz1, hz2⟩ := info_parts info_row
  subst hn hv
  obtain ⟨v', w', hr, h2, h3, h4⟩ := run_append_ownD (P := Try.prog) (w.alloc (.cells #[rv e] 99)) lo 47 o.type 99 i0 _ 1 24 Try.underlying47 hi hz0 hz1 hz2 rfl (by decide) _ _ _ (ownsG.alloc ha _) ⟨w.heap.size, 0, none⟩ 1 1 [rv e] rfl
    (by intro j u hu; cases j with
        | zero => simp at hu; subst hu; simp [Addr.add]
        | succ j => simp at hu) (by simp [Value.oneCell']) (by unfold maxLen; omega) (by omega) (by simp; omega)
  obtain ⟨A', c', rfl⟩ := h2.form
  unfold Oper.wp execOp
  simp only [ho, resolve, invoke, builtin, Sem.run_bind, Sem.run_pure, Result.andThen_ok, List.map_toArray, List.map_cons, List.map_nil, hs, hx, hr]
  have hL : (es ++ [e]).length = es.length + 1 := by simp
  have hob : Or w' lo A' c' (es ++ [e]) := by
    unfold Or; rw [hL, List.map_append]; exact h2
  have hcg : Chg [ob A] w w' := ((Chg.refl _ w).alloc _).trans (Chg.of_grown h3 (fun k hk => by rw [ob_eq] at hk; simp [hk]))
  exact h A' c' w' hob hcg (fun k hk => by
    rcases h4 k (by rw [ob_eq]; exact hk) with h5 | h5
    · rw [ob_eq] at h5; exact .inl h5
    · simp at h5; exact .inr (by omega))
theorem Cs.drop1 {w : World} {b o : Nat} {vs : List Rw} (h : Cs w (some ⟨b, o, none⟩) (vs.map rv)) : Cs w (some ⟨b, o + 1, none⟩) ((vs.drop 1).map rv) := by
  rcases h with h | ⟨b', o', hA, hc⟩
  · have : vs = [] := by simpa using h
    exact .inl (by rw [this]; rfl)
  · cases hA
    refine .inr ⟨b, o + 1, rfl, fun i v hi => ?_⟩
    rw [List.map_drop, List.getElem?_drop] at hi
    have := hc (1 + i) v hi
    rwa [show o + (1 + i) = o + 1 + i by omega] at this
theorem Chg.drop {F F' : List (Option Nat)} {w w' : World} (h : Chg F w w') (hF : ∀ k, some k ∈ F → some k ∈ F' ∨ w.heap.size ≤ k) : Chg F' w w' :=
  ⟨h.os, h.tape, h.output, h.size, fun k hk hn => h.block k hk fun hm => (hF k hm).elim hn (fun h => by omega)⟩
/-- The rows kept, with one more. -/
def keepL (b : List (List Cl)) (r : List Cl) (limit : Int) : List (List Cl) := if limit < (b.length : Int) + 1 then (b ++ [r]).drop 1 else b ++ [r]
def KeepPost (w : World) (s : Sc) (M A : Rw) (T : Ti) (bA : Option Addr) (bs : List Rw) (r : List Cl) (e : Ending) (w' : World) : Prop :=
  ∃ B' : Tr, e = .returned (sV s M A T B') ∧ Hid (rcs B'.2.2 = keepL (rcs bs) r s.limit) ∧ Rs w' B'.1 B'.2.2 ∧ (∀ k, some k ∈ ob B'.1 :: ft B'.2.2 → some k ∈ ob bA :: ft bs ∨ w.heap.size ≤ k) ∧ (∀ k, some k ∈ ob B'.1 :: ft B'.2.2 → k < w'.heap.size) ∧ Chg [ob bA] w w'
set_option maxHeartbeats 4000000 in
theorem l09Keep_any (s : Sc) (a gm mc : Nat) (ms : List Cl) (A : Rw) (T : Ti) (bA : Option Addr) (bc : Nat) (bs : List Rw) (lo : Nat) (w : World) (hW : s.W = (a : Int)) (ha1 : 1 ≤ a) (ha2 : a ≤ 120) (hm : a ≤ ms.length) (hmc : ms.length ≤ mc) (hm2 : ms.length ≤ 4000) (gM : Gs w (some ⟨gm, 0, none⟩) ms) (oB : Or w lo bA bc bs) (wR : Ow w lo bA bs) (hbl : bs.length ≤ 100) (hlo : lo ≤ w.heap.size) (hlim : (bs.length : Int) ≤ s.limit) :
    Calls Try.prog 144 #[sV s (some ⟨gm, 0, none⟩, mc, ms) A T (bA, bc, bs), .int .i64 0] w (KeepPost w s (some ⟨gm, 0, none⟩, mc, ms) A T bA bs (ms.take a)) := by
  have t0 : Below w.heap.size w ((w.alloc (.cells (sC s (some ⟨gm, 0, none⟩, mc, ms) A T (bA, bc, bs)) 49)).alloc (.cells zC 49)) := bel2 _ _ _
  have b0 : ((w.alloc (.cells (sC s (some ⟨gm, 0, none⟩, mc, ms) A T (bA, bc, bs)) 49)).alloc (.cells zC 49)).heap[w.heap.size]? = some (.cells (sC s (some ⟨gm, 0, none⟩, mc, ms) A T (bA, bc, bs)) 49 (0, 0)) := heap_alloc_of _ (heap_alloc_new _ _)
  have z0 : ((w.alloc (.cells (sC s (some ⟨gm, 0, none⟩, mc, ms) A T (bA, bc, bs)) 49)).alloc (.cells zC 49)).heap[w.heap.size + 1]? = some (.cells zC 49 (0, 0)) := hat2 _ _ _
  have ewa : IntKind.i64.wrap (a : Int) = a := by rw [IntKind.wrap_i64]; omega
  have ew0 : IntKind.i64.wrap (0 : Int) = 0 := by rw [IntKind.wrap_i64]; omega
  have em : ¬ mc = 0 := by omega
  have em2 : (a : Int) ≤ mc := by omega
  go_enter Try.func144, Try.ntmps144
  go_wp2_with fail
  have t1 := t0.drew
  obtain ⟨w1, hw1⟩ : ∃ v, v = ((w.alloc (.cells (sC s (some ⟨gm, 0, none⟩, mc, ms) A T (bA, bc, bs)) 49)).alloc (.cells zC 49)).drew := ⟨_, rfl⟩
  have X1 : Hid (w1.heap.size = w.heap.size + 2) := by show _ = _; rw [hw1]; simp
  have b1 : w1.heap[w.heap.size]? = some (.cells (sC s (some ⟨gm, 0, none⟩, mc, ms) A T (bA, bc, bs)) 49 (0, 0)) := by rw [hw1]; exact b0
  have z1 : w1.heap[w.heap.size + 1]? = some (.cells zC 49 (0, 0)) := by rw [hw1]; exact z0
  refine wp_regionK (fun w' => w'.heap[w.heap.size]? = some (.cells (sC s (some ⟨gm, 0, none⟩, mc, ms) A T (bA, bc, bs)) 49 (0, 0))) 23 (by kernel_rfl) ?_
  rw [← hw1] at t1 ⊢
  clear hw1 b0 z0 t0
  refine wpAnyK_free (i := 0) (v := .pointer (some ⟨w.heap.size, 30, none⟩)) rfl (by kernel_rfl) (by kernel_rfl) (by kernel_rfl) (fun _ _ _ h => h) (by decide) (Or.inl ⟨by rfl, (by intro w' _; go_simp; try first | rfl | (simp [*, Addr.add_lit]; done))⟩) (fun _ => b1) ?_
  try simp only [Act.put, List.getElem_toArray, List.getElem_cons_zero, List.setIfInBounds_toArray, List.set_cons_zero, List.set_cons_succ]
  refine wpAnyK_take (i := 1) (v := .slice bA bs.length bc) rfl (by kernel_rfl) (by kernel_rfl) (by kernel_rfl) (fun _ _ _ h => h) (by kernel_rfl) (by kernel_rfl) (by decide) (Or.inl ⟨by rfl, (by intro w' hSw; have q : ∀ i, w'.cell? ⟨w.heap.size, i, none⟩ = _ := fun i => cell_of_row w' _ i _ _ (0, 0) hSw; go_simp; try first | rfl | simp [q])⟩) (b1) ?_
  try simp only [Act.put, List.getElem_toArray, List.getElem_cons_succ, List.getElem_cons_zero, List.setIfInBounds_toArray, List.set_cons_zero, List.set_cons_succ]
  refine wpAnyK_free (i := 3) (v := .pointer (some ⟨w.heap.size, 2, none⟩)) rfl (by kernel_rfl) (by kernel_rfl) (by kernel_rfl) (fun _ _ _ h => h) (by decide) (Or.inl ⟨by rfl, (by intro w' _; go_simp; try first | rfl | (simp [*, Addr.add_lit]; done))⟩) (fun _ => b1) ?_
  try simp only [Act.put, List.getElem_toArray, List.getElem_cons_succ, List.getElem_cons_zero, List.setIfInBounds_toArray, List.set_cons_zero, List.set_cons_succ]
  refine wpAnyK_free (i := 4) (v := .pointer (some ⟨w.heap.size, 4, none⟩)) rfl (by kernel_rfl) (by kernel_rfl) (by kernel_rfl) (fun _ _ _ h => h) (by decide) (Or.inl ⟨by rfl, (by intro w' _; go_simp; try first | rfl | (simp [*, Addr.add_lit]; done))⟩) (fun _ => b1) ?_
  try simp only [Act.put, List.getElem_toArray, List.getElem_cons_succ, List.getElem_cons_zero, List.setIfInBounds_toArray, List.set_cons_zero, List.set_cons_succ]
  refine wpAnyK_take (i := 5) (v := .slice (some ⟨gm, 0, none⟩) ms.length mc) rfl (by kernel_rfl) (by kernel_rfl) (by kernel_rfl) (fun _ _ _ h => h) (by kernel_rfl) (by kernel_rfl) (by decide) (Or.inl ⟨by rfl, (by intro w' hSw; have q : ∀ i, w'.cell? ⟨w.heap.size, i, none⟩ = _ := fun i => cell_of_row w' _ i _ _ (0, 0) hSw; go_simp; try first | rfl | simp [q])⟩) (b1) ?_
  try simp only [Act.put, List.getElem_toArray, List.getElem_cons_succ, List.getElem_cons_zero, List.setIfInBounds_toArray, List.set_cons_zero, List.set_cons_succ]
  refine wpAnyK_free (i := 6) (v := .int .i64 0) rfl (by kernel_rfl) (by kernel_rfl) (by kernel_rfl) (fun _ _ _ h => h) (by decide) (Or.inl ⟨by rfl, (by intro w' _; go_simp; try first | rfl | (simp [*, Addr.add_lit]; done))⟩) (fun _ => b1) ?_
  try simp only [Act.put, List.getElem_toArray, List.getElem_cons_succ, List.getElem_cons_zero, List.setIfInBounds_toArray, List.set_cons_zero, List.set_cons_succ]
  refine wpAnyK_free (i := 7) (v := .pointer (some ⟨w.heap.size, 0, none⟩)) rfl (by kernel_rfl) (by kernel_rfl) (by kernel_rfl) (fun _ _ _ h => h) (by decide) (Or.inl ⟨by rfl, (by intro w' _; go_simp; try first | rfl | (simp [*, Addr.add_lit]; done))⟩) (fun _ => b1) ?_
  try simp only [Act.put, List.getElem_toArray, List.getElem_cons_succ, List.getElem_cons_zero, List.setIfInBounds_toArray, List.set_cons_zero, List.set_cons_succ]
  refine wpAnyK_take (i := 8) (v := .int .i64 a) rfl (by kernel_rfl) (by kernel_rfl) (by kernel_rfl) (fun _ _ _ h => h) (by kernel_rfl) (by kernel_rfl) (by decide) (Or.inl ⟨by rfl, (by intro w' hSw; have q : ∀ i, w'.cell? ⟨w.heap.size, i, none⟩ = _ := fun i => cell_of_row w' _ i _ _ (0, 0) hSw; go_simp; try first | rfl | simp [q])⟩) (b1) ?_
  try simp only [Act.put, List.getElem_toArray, List.getElem_cons_succ, List.getElem_cons_zero, List.setIfInBounds_toArray, List.set_cons_zero, List.set_cons_succ]
  refine wpAnyK_free (i := 9) (v := .int .i64 0) rfl (by kernel_rfl) (by kernel_rfl) (by kernel_rfl) (fun _ _ _ h => h) (by decide) (Or.inl ⟨by rfl, (by intro w' _; go_simp; try first | rfl | (simp [*, Addr.add_lit]; done))⟩) (fun _ => b1) ?_
  try simp only [Act.put, List.getElem_toArray, List.getElem_cons_succ, List.getElem_cons_zero, List.setIfInBounds_toArray, List.set_cons_zero, List.set_cons_succ]
  refine wpAnyK_free (i := 10) (v := .int .i64 0) rfl (by kernel_rfl) (by kernel_rfl) (by kernel_rfl) (fun _ _ _ h => h) (by decide) (Or.inl ⟨by rfl, (by intro w' _; go_simp; try first | rfl | (simp [*, Addr.add_lit]; done))⟩) (fun _ => b1) ?_
  try simp only [Act.put, List.getElem_toArray, List.getElem_cons_succ, List.getElem_cons_zero, List.setIfInBounds_toArray, List.set_cons_zero, List.set_cons_succ]
  refine wpAnyK_free (i := 11) (v := .pointer (some ⟨w.heap.size, 0, none⟩)) rfl (by kernel_rfl) (by kernel_rfl) (by kernel_rfl) (fun _ _ _ h => h) (by decide) (Or.inl ⟨by rfl, (by intro w' _; go_simp; try first | rfl | (simp [*, Addr.add_lit]; done))⟩) (fun _ => b1) ?_
  try simp only [Act.put, List.getElem_toArray, List.getElem_cons_succ, List.getElem_cons_zero, List.setIfInBounds_toArray, List.set_cons_zero, List.set_cons_succ]
  refine wpAnyK_take (i := 12) (v := .int .i64 a) rfl (by kernel_rfl) (by kernel_rfl) (by kernel_rfl) (fun _ _ _ h => h) (by kernel_rfl) (by kernel_rfl) (by decide) (Or.inl ⟨by rfl, (by intro w' hSw; have q : ∀ i, w'.cell? ⟨w.heap.size, i, none⟩ = _ := fun i => cell_of_row w' _ i _ _ (0, 0) hSw; go_simp; try first | rfl | simp [q])⟩) (b1) ?_
  try simp only [Act.put, List.getElem_toArray, List.getElem_cons_succ, List.getElem_cons_zero, List.setIfInBounds_toArray, List.set_cons_zero, List.set_cons_succ]
  refine wpAnyK_free (i := 13) (v := .int .i64 0) rfl (by kernel_rfl) (by kernel_rfl) (by kernel_rfl) (fun _ _ _ h => h) (by decide) (Or.inl ⟨by rfl, (by intro w' _; go_simp; try first | rfl | (simp [*, Addr.add_lit]; done))⟩) (fun _ => b1) ?_
  try simp only [Act.put, List.getElem_toArray, List.getElem_cons_succ, List.getElem_cons_zero, List.setIfInBounds_toArray, List.set_cons_zero, List.set_cons_succ]
  refine wpAnyK_free (i := 14) (v := .pointer (some ⟨w.heap.size, 0, none⟩)) rfl (by kernel_rfl) (by kernel_rfl) (by kernel_rfl) (fun _ _ _ h => h) (by decide) (Or.inl ⟨by rfl, (by intro w' _; go_simp; try first | rfl | (simp [*, Addr.add_lit]; done))⟩) (fun _ => b1) ?_
  try simp only [Act.put, List.getElem_toArray, List.getElem_cons_succ, List.getElem_cons_zero, List.setIfInBounds_toArray, List.set_cons_zero, List.set_cons_succ]
  refine wpAnyK_take (i := 15) (v := .int .i64 a) rfl (by kernel_rfl) (by kernel_rfl) (by kernel_rfl) (fun _ _ _ h => h) (by kernel_rfl) (by kernel_rfl) (by decide) (Or.inl ⟨by rfl, (by intro w' hSw; have q : ∀ i, w'.cell? ⟨w.heap.size, i, none⟩ = _ := fun i => cell_of_row w' _ i _ _ (0, 0) hSw; go_simp; try first | rfl | simp [q])⟩) (b1) ?_
  try simp only [Act.put, List.getElem_toArray, List.getElem_cons_succ, List.getElem_cons_zero, List.setIfInBounds_toArray, List.set_cons_zero, List.set_cons_succ]
  refine wpAnyK_free (i := 16) (v := .int .i64 a) rfl (by kernel_rfl) (by kernel_rfl) (by kernel_rfl) (fun _ _ _ h => h) (by decide) (Or.inl ⟨by rfl, (by intro w' _; go_simp; try first | rfl | (simp [*, Addr.add_lit]; done))⟩) (fun _ => b1) ?_
  try simp only [Act.put, List.getElem_toArray, List.getElem_cons_succ, List.getElem_cons_zero, List.setIfInBounds_toArray, List.set_cons_zero, List.set_cons_succ]
  refine wpAnyK_free (i := 17) (v := .slice (some ⟨gm, 0, none⟩) a mc) rfl (by kernel_rfl) (by kernel_rfl) (by kernel_rfl) (fun _ _ _ h => h) (by decide) (Or.inl ⟨by rfl, (by intro w' _; go_simp; try first | rfl | (simp [*, Addr.add_lit]; done))⟩) (fun _ => b1) ?_
  try simp only [Act.put, List.getElem_toArray, List.getElem_cons_succ, List.getElem_cons_zero, List.setIfInBounds_toArray, List.set_cons_zero, List.set_cons_succ]
  have gM1 : Gs w1 (some ⟨gm, 0, none⟩) (ms.take a) := (gM.below t1).take a
  have hta : (ms.take a).length = a := by rw [List.length_take]; omega
  refine wpAnyK_ready (rs := [2]) (by kernel_rfl) (by simp) ?_
  refine AllReadyK.cons rfl (fun K hK => ?_) AllReadyK.nil
  go_simp
  have b2 : (w1.alloc (.cells #[] 44)).heap[w.heap.size]? = some (.cells (sC s (some ⟨gm, 0, none⟩, mc, ms) A T (bA, bc, bs)) 49 (0, 0)) := heap_alloc_of _ b1
  refine hK.out _ _ (fun _ => b2) ?_
  clear hK K
  try simp only [Act.put, List.getElem_toArray, List.getElem_cons_succ, List.getElem_cons_zero, List.setIfInBounds_toArray, List.set_cons_zero, List.set_cons_succ]
  refine wpAnyK_ready (rs := [18]) (by kernel_rfl) (by simp) ?_
  refine AllReadyK.cons rfl (fun K hK => ?_) AllReadyK.nil
  refine step_appG rfl _ _ rfl w1.heap.size (some ⟨w1.heap.size, 0, none⟩) 0 [] (some ⟨gm, 0, none⟩) mc (ms.take a) (Og.empty) (gM1.below ((Below.refl _ _).alloc (Nat.le_refl _) _)) (by omega) 0 a rfl hta.symm rfl rfl (by simp) (by omega) (by simp) ?_
  intro A8 c8 w8 o8' hb8
  have o8 : Og w8 w1.heap.size A8 c8 (ms.take a) := o8'.out
  have hb18 : Below w1.heap.size w1 w8 := ((Below.refl _ _).alloc (Nat.le_refl _) _).trans (hb8.mono (Nat.le_refl _))
  have b8 := (hb18.block _ (Array.getElem?_eq_some_iff.1 b1).1).trans b1
  have z8 := (hb18.block _ (Array.getElem?_eq_some_iff.1 z1).1).trans z1
  have t8 := t1.trans (hb18.mono t1.size)
  have x8 := hb18.size
  rw [Nat.zero_add]
  refine hK.out _ _ (fun _ => b8) ?_
  clear hK K o8' gM1 b2
  try simp only [Act.put, List.getElem_toArray, List.getElem_cons_succ, List.getElem_cons_zero, List.setIfInBounds_toArray, List.set_cons_zero, List.set_cons_succ]
  refine wpAnyK_free (i := 19) (v := .agg #[.slice A8 a c8]) rfl (by kernel_rfl) (by kernel_rfl) (by kernel_rfl) (fun _ _ _ h => h) (by decide) (Or.inl ⟨by rfl, (by intro w' _; go_simp; try first | rfl | (simp [*, Addr.add_lit]; done))⟩) (fun _ => b8) ?_
  try simp only [Act.put, List.getElem_toArray, List.getElem_cons_succ, List.getElem_cons_zero, List.setIfInBounds_toArray, List.set_cons_zero, List.set_cons_succ]
  refine wpAnyK_ready (rs := [20]) (by kernel_rfl) (by simp) ?_
  refine AllReadyK.cons rfl (fun K hK => ?_) AllReadyK.nil
  go_simp
  have b9 : (w8.alloc (.cells #[.slice A8 a c8] 99)).heap[w.heap.size]? = some (.cells (sC s (some ⟨gm, 0, none⟩, mc, ms) A T (bA, bc, bs)) 49 (0, 0)) := heap_alloc_of _ b8
  refine hK.out _ _ (fun _ => b9) ?_
  clear hK K
  try simp only [Act.put, List.getElem_toArray, List.getElem_cons_succ, List.getElem_cons_zero, List.setIfInBounds_toArray, List.set_cons_zero, List.set_cons_succ]
  have x1 := X1.out
  have oB8 : Or w8 lo bA bc bs := (oB.below2 t8 (fun k hk => (oB.ob_lt hk).2))
  refine wpAnyK_ready (rs := [21]) (by kernel_rfl) (by simp) ?_
  refine AllReadyK.cons rfl (fun K hK => ?_) AllReadyK.nil
  refine step_app1R rfl _ _ rfl lo bA bc bs w8 _ (A8, c8, ms.take a) oB8 rfl rfl rfl (by omega) (by omega) (by show _ = Value.slice _ _ _; rw [hta]) ?_
  intro A9 c9 w9 o9 k9 n9
  have nP : some w.heap.size ∉ [ob bA] := fun hm => by have := (oB.ob_lt (List.mem_singleton.1 hm).symm).2; omega
  have nZ : some (w.heap.size + 1) ∉ [ob bA] := fun hm => by have := (oB.ob_lt (List.mem_singleton.1 hm).symm).2; omega
  have bb9 := (keep_chg k9 b8 nP).1
  have zz9 := (keep_chg k9 z8 nZ).1
  have x9 := k9.size
  refine hK.out _ _ (fun _ => bb9) ?_
  clear hK K b9
  try simp only [Act.put, List.getElem_toArray, List.getElem_cons_succ, List.getElem_cons_zero, List.setIfInBounds_toArray, List.set_cons_zero, List.set_cons_succ]
  refine wpAnyK_free (i := 22) (v := .pointer (some ⟨w.heap.size, 30, none⟩)) rfl (by kernel_rfl) (by kernel_rfl) (by kernel_rfl) (fun _ _ _ h => h) (by decide) (Or.inl ⟨by rfl, (by intro w' _; go_simp; try first | rfl | (simp [*, Addr.add_lit]; done))⟩) (fun _ => bb9) ?_
  try simp only [Act.put, List.getElem_toArray, List.getElem_cons_succ, List.getElem_cons_zero, List.setIfInBounds_toArray, List.set_cons_zero, List.set_cons_succ]
  have q9 : ∀ i, w9.cell? ⟨w.heap.size, i, none⟩ = _ := fun i => cell_of_row w9 _ i _ _ (0, 0) bb9
  have r9 : ∀ i, w9.frozen? ⟨w.heap.size, i, none⟩ = false := frz bb9
  refine wpAnyK_ready (rs := [23]) (by kernel_rfl) (by simp) ?_
  refine AllReadyK.cons rfl (fun K hK => ?_) AllReadyK.nil
  go_simp
  obtain ⟨v9, hv9⟩ : ∃ v, v = (w9.setCell ⟨w.heap.size, 30, none⟩ (.slice A9 (bs.length + 1) c9)) := ⟨_, rfl⟩
  rw [← hv9]
  have kv : Bk w.heap.size w9 v9 (sC s (some ⟨gm, 0, none⟩, mc, ms) A T (A9, c9, bs ++ [(A8, c8, ms.take a)])) := by
    rw [hv9]
    have := blk_back bb9 (A9, c9, bs ++ [(A8, c8, ms.take a)])
    simpa only [bv, List.length_append, List.length_singleton] using this
  refine hK.out _ _ (late (by kernel_rfl)) ?_
  clear hK K hv9 q9 r9
  try simp only [Act.put, List.getElem_toArray, List.getElem_cons_succ, List.getElem_cons_zero, List.setIfInBounds_toArray, List.set_cons_zero, List.set_cons_succ]
  refine wpAnyK_done (by kernel_rfl) ?_ _
  have bv9 := kv.1
  have zv9 := (keep_chg kv.2.1 zz9 (by intro hm; simp at hm)).1
  have HK9 := Lib.hid kv.2.1
  have HS9 := Lib.hid kv.2.2
  have qv : ∀ i, v9.cell? ⟨w.heap.size, i, none⟩ = _ := fun i => cell_of_row v9 _ i _ _ (0, 0) bv9
  dsimp only [sC, tv, bv, rv] at qv
  have rv9 : ∀ i, v9.frozen? ⟨w.heap.size, i, none⟩ = false := frz bv9
  have BC := Lib.hid bv9
  have ZV := Lib.hid zv9
  have hcap := o9.cap
  rw [List.length_append, List.length_singleton] at hcap
  clear kv b1 z1 b8 z8 bb9 zz9
  have x1 := X1.out
  have wR8 := wR.below t8
  have W9 : Ow w9 lo A9 (bs ++ [(A8, c8, ms.take a)]) := wR8.push k9 (m := w1.heap.size) (fun k hk => by have := (wR.lt hk).2; omega) (fun k hk => by have := (oB.ob_lt hk).2; omega) o8 (by omega) n9
  have hK1 : ∀ k, ob A9 = some k → ob bA = some k ∨ w.heap.size + 2 ≤ k := fun k hk => (n9 k hk).elim .inl (fun h => .inr (by omega))
  have hK2 : ∀ k, some k ∈ ft (bs ++ [(A8, c8, ms.take a)]) → some k ∈ ft bs ∨ w.heap.size + 2 ≤ k := fun k hk => by
    rw [ft, List.map_append, List.mem_append] at hk
    rcases hk with hk | hk
    · exact .inl hk
    · rw [List.map_cons, List.map_nil, List.mem_singleton] at hk
      have := (o8.ob_lt hk.symm).1
      omega
  have hK : ∀ k, some k ∈ ob A9 :: ft (bs ++ [(A8, c8, ms.take a)]) → some k ∈ ob bA :: ft bs ∨ w.heap.size + 2 ≤ k := fun k hk => by
    rcases List.mem_cons.1 hk with hk | hk
    · exact (hK1 k hk.symm).elim (fun h => .inl (List.mem_cons.2 (.inl h.symm))) .inr
    · exact (hK2 k hk).elim (fun h => .inl (List.mem_cons.2 (.inr h))) .inr
  have hL : ∀ k, some k ∈ ob A9 :: ft (bs ++ [(A8, c8, ms.take a)]) → k < w9.heap.size := fun k hk => by
    rcases List.mem_cons.1 hk with hk | hk
    · exact (o9.ob_lt hk.symm).2
    · exact (W9.lt hk).2
  have hN : ∀ k, some k ∈ ob A9 :: ft (bs ++ [(A8, c8, ms.take a)]) → k ≠ w.heap.size ∧ k ≠ w.heap.size + 1 := fun k hk => by
    rcases hK k hk with h | h
    · rcases List.mem_cons.1 h with h | h
      · have := (oB.ob_lt h.symm).2; omega
      · have := (wR.lt h).2; omega
    · omega
  have HHK := Lib.hid hK
  have HHL := Lib.hid hL
  have HHN := Lib.hid hN
  have HW9 := Lib.hid W9
  have HO9 := Lib.hid o9
  have cK : Chg [ob bA] w w9 := (Chg.of_below _ t8).trans k9
  have HCK := Lib.hid cK
  clear hK hL hN hK1 hK2 cK x1 wR8
  have hrl : ((rcs bs).length : Int) = bs.length := by simp [rcs]
  have HRL := Lib.hid hrl
  clear hrl
  by_cases hl : s.limit < (bs.length : Int) + 1
  case neg =>
    clear bv9 zv9
    go_wp2_with (first | (refine wpList_load_row rfl 49 _ rfl (w.heap.size) rfl 49 (sC s (some ⟨gm, 0, none⟩, mc, ms) A T (A9, c9, bs ++ [(A8, c8, ms.take a)])) (0, 0) _ BC.out Try.underlying49 rfl size_scr ?_) | (refine wp_store_blk rfl 49 _ _ rfl (w.heap.size + 1) (sC s (some ⟨gm, 0, none⟩, mc, ms) A T (A9, c9, bs ++ [(A8, c8, ms.take a)])) rfl rfl 49 zC ZV.out size_scr rfl (sC_one _ _ _ _ _) ?_; intro w7 B7 C7 z7))
    refine bodyPost_ret (results_cell_row Try.results144 _ _ (w.heap.size + 1) 49 (sC s (some ⟨gm, 0, none⟩, mc, ms) A T (A9, c9, bs ++ [(A8, c8, ms.take a)])) (0, 0) _ rfl B7 Try.underlying49 rfl size_scr) rfl ?_
    have cF : Chg [some w.heap.size, some (w.heap.size + 1)] w9 w7 := (HK9.out.mono (fun k hk => by simp at hk ⊢; omega)).trans (C7.mono (fun k hk => by simp at hk ⊢; omega))
    have nF : ∀ k, some k ∈ ob A9 :: ft (bs ++ [(A8, c8, ms.take a)]) → some k ∉ [some w.heap.size, some (w.heap.size + 1)] := fun k hk hm => by
      have := HHN.out k hk
      simp at hm
      omega
    have o7 := HO9.out.chg cF (fun k hk => nF k (List.mem_cons.2 (.inl hk.symm)))
    have W7 := HW9.out.chg cF (fun k hk => nF k (List.mem_cons.2 (.inr hk)))
    refine ⟨(A9, c9, bs ++ [(A8, c8, ms.take a)]), rfl, ?_, ⟨o7.cs, fun e he => (W7.own e he).gs⟩, fun k hk => (HHK.out k hk).elim .inl (fun h => .inr (by omega)), fun k hk => by have := HHL.out k hk; have := cF.size; omega, ?_⟩
    · show _ = _
      rw [rcs_append, keepL, if_neg (by rw [HRL.out]; omega)]
      rfl
    · exact Chg.drop (HCK.out.mono (fun k hk => List.mem_cons.2 (.inl (List.mem_singleton.1 hk))) |>.trans (cF.mono (fun k hk => List.mem_cons.2 (.inr hk)))) (fun k hk => (List.mem_cons.1 hk).elim (fun h => .inl (by rw [h]; simp)) (fun h => .inr (by simp at h; omega)))
  have hlm : s.limit = (bs.length : Int) := by omega
  obtain ⟨g9, rfl⟩ : ∃ g9, A9 = some ⟨g9, 0, none⟩ := by
    rcases HO9.out.2 with ⟨h1, h2⟩ | ⟨g, cap, cur, fz, hv, _⟩
    · rw [List.length_append] at h2; simp at h2
    · injection hv with hv _ _
      exact ⟨g, hv⟩
  have hc1 : ((1 : Nat) : Int) ≤ c9 := by omega
  have HL := Lib.hid hl
  clear hl hlim
  obtain ⟨rs, HRS⟩ : ∃ rs, Hid (rs = (bs ++ [(A8, c8, ms.take a)]).drop 1) := ⟨_, Lib.hid rfl⟩
  have hrl' : rs.length = bs.length := by rw [HRS.out]; simp
  by_cases hcc : c9 = 1
  case pos =>
    have kb := blk_back bv9 (some ⟨g9, 0, none⟩, 0, rs)
    dsimp only [bv] at kb
    rw [hrl'] at kb
    have BC2 := Lib.hid kb.1
    have kbc := kb.2.1
    have kbs := kb.2.2
    have ZV2 := Lib.hid (keep_chg kbc zv9 (by intro hm; simp at hm)).1
    have KBC := Lib.hid kbc
    have KBS := Lib.hid kbs
    have HRSL := Lib.hid hrl'
    clear kb kbc kbs bv9 zv9 hrl' BC
    go_wp2_with (first | (refine wpList_load_row rfl 49 _ rfl (w.heap.size) rfl 49 (sC s (some ⟨gm, 0, none⟩, mc, ms) A T (some ⟨g9, 0, none⟩, 0, rs)) (0, 0) _ BC2.out Try.underlying49 rfl size_scr ?_) | (refine wp_store_blk rfl 49 _ _ rfl (w.heap.size + 1) (sC s (some ⟨gm, 0, none⟩, mc, ms) A T (some ⟨g9, 0, none⟩, 0, rs)) rfl rfl 49 zC ZV2.out size_scr rfl (sC_one _ _ _ _ _) ?_; intro w7 B7 C7 z7))
    refine bodyPost_ret (results_cell_row Try.results144 _ _ (w.heap.size + 1) 49 (sC s (some ⟨gm, 0, none⟩, mc, ms) A T (some ⟨g9, 0, none⟩, 0, rs)) (0, 0) _ rfl B7 Try.underlying49 rfl size_scr) rfl ?_
    have cF : Chg [some w.heap.size, some (w.heap.size + 1)] w9 w7 := (HK9.out.mono (fun k hk => by simp at hk ⊢; omega)).trans ((KBC.out.mono (fun k hk => by simp at hk ⊢; omega)).trans (C7.mono (fun k hk => by simp at hk ⊢; omega)))
    have nF : ∀ k, some k ∈ ob (some ⟨g9, 0, none⟩) :: ft (bs ++ [(A8, c8, ms.take a)]) → some k ∉ [some w.heap.size, some (w.heap.size + 1)] := fun k hk hm => by
      have := HHN.out k hk
      simp at hm
      omega
    have o7 := HO9.out.chg cF (fun k hk => nF k (List.mem_cons.2 (.inl hk.symm)))
    have W7 := HW9.out.chg cF (fun k hk => nF k (List.mem_cons.2 (.inr hk)))
    have hsub : ∀ k, some k ∈ ob (some ⟨g9, 0, none⟩) :: ft rs → some k ∈ ob (some ⟨g9, 0, none⟩) :: ft (bs ++ [(A8, c8, ms.take a)]) := fun k hk => by
      rcases List.mem_cons.1 hk with hk | hk
      · exact List.mem_cons.2 (.inl hk)
      · refine List.mem_cons.2 (.inr ?_)
        rw [ft, HRS.out, List.map_drop] at hk
        exact List.mem_of_mem_drop hk
    refine ⟨(some ⟨g9, 0, none⟩, 0, rs), rfl, ?_, ⟨?_, fun e he => (W7.own e (List.mem_of_mem_drop (by rw [← HRS.out]; exact he))).gs⟩, fun k hk => (HHK.out k (hsub k hk)).elim .inl (fun h => .inr (by omega)), fun k hk => by have := HHL.out k (hsub k hk); have := cF.size; omega, ?_⟩
    · show _ = _
      rw [keepL, if_pos (by rw [HRL.out]; exact HL.out), HRS.out]
      simp [rcs]
    · have : rs = [] := List.eq_nil_of_length_eq_zero (by have := HRSL.out; omega)
      exact .inl (by rw [this]; rfl)
    · exact Chg.drop (HCK.out.mono (fun k hk => List.mem_cons.2 (.inl (List.mem_singleton.1 hk))) |>.trans (cF.mono (fun k hk => List.mem_cons.2 (.inr hk)))) (fun k hk => (List.mem_cons.1 hk).elim (fun h => .inl (by rw [h]; simp)) (fun h => .inr (by simp at h; omega)))
  have kb := blk_back bv9 (some ⟨g9, 1, none⟩, c9 - 1, rs)
  dsimp only [bv] at kb
  rw [hrl'] at kb
  have BC2 := Lib.hid kb.1
  have kbc := kb.2.1
  have kbs := kb.2.2
  have ZV2 := Lib.hid (keep_chg kbc zv9 (by intro hm; simp at hm)).1
  have KBC := Lib.hid kbc
  have KBS := Lib.hid kbs
  have HRSL := Lib.hid hrl'
  clear kb kbc kbs bv9 zv9 hrl' BC
  go_wp2_with (first | (refine wpList_load_row rfl 49 _ rfl (w.heap.size) rfl 49 (sC s (some ⟨gm, 0, none⟩, mc, ms) A T (some ⟨g9, 1, none⟩, c9 - 1, rs)) (0, 0) _ BC2.out Try.underlying49 rfl size_scr ?_) | (refine wp_store_blk rfl 49 _ _ rfl (w.heap.size + 1) (sC s (some ⟨gm, 0, none⟩, mc, ms) A T (some ⟨g9, 1, none⟩, c9 - 1, rs)) rfl rfl 49 zC ZV2.out size_scr rfl (sC_one _ _ _ _ _) ?_; intro w7 B7 C7 z7))
  refine bodyPost_ret (results_cell_row Try.results144 _ _ (w.heap.size + 1) 49 (sC s (some ⟨gm, 0, none⟩, mc, ms) A T (some ⟨g9, 1, none⟩, c9 - 1, rs)) (0, 0) _ rfl B7 Try.underlying49 rfl size_scr) rfl ?_
  have cF : Chg [some w.heap.size, some (w.heap.size + 1)] w9 w7 := (HK9.out.mono (fun k hk => by simp at hk ⊢; omega)).trans ((KBC.out.mono (fun k hk => by simp at hk ⊢; omega)).trans (C7.mono (fun k hk => by simp at hk ⊢; omega)))
  have nF : ∀ k, some k ∈ ob (some ⟨g9, 0, none⟩) :: ft (bs ++ [(A8, c8, ms.take a)]) → some k ∉ [some w.heap.size, some (w.heap.size + 1)] := fun k hk hm => by
    have := HHN.out k hk
    simp at hm
    omega
  have o7 := HO9.out.chg cF (fun k hk => nF k (List.mem_cons.2 (.inl hk.symm)))
  have W7 := HW9.out.chg cF (fun k hk => nF k (List.mem_cons.2 (.inr hk)))
  have hsub : ∀ k, some k ∈ ob (some ⟨g9, 1, none⟩) :: ft rs → some k ∈ ob (some ⟨g9, 0, none⟩) :: ft (bs ++ [(A8, c8, ms.take a)]) := fun k hk => by
    rcases List.mem_cons.1 hk with hk | hk
    · exact List.mem_cons.2 (.inl hk)
    · refine List.mem_cons.2 (.inr ?_)
      rw [ft, HRS.out, List.map_drop] at hk
      exact List.mem_of_mem_drop hk
  refine ⟨(some ⟨g9, 1, none⟩, c9 - 1, rs), rfl, ?_, ⟨?_, fun e he => (W7.own e (List.mem_of_mem_drop (by rw [← HRS.out]; exact he))).gs⟩, fun k hk => (HHK.out k (hsub k hk)).elim .inl (fun h => .inr (by omega)), fun k hk => by have := HHL.out k (hsub k hk); have := cF.size; omega, ?_⟩
  · show _ = _
    rw [keepL, if_pos (by rw [HRL.out]; exact HL.out), HRS.out]
    simp [rcs]
  · rw [HRS.out]
    exact Cs.drop1 o7.cs
  · exact Chg.drop (HCK.out.mono (fun k hk => List.mem_cons.2 (.inl (List.mem_singleton.1 hk))) |>.trans (cF.mono (fun k hk => List.mem_cons.2 (.inr hk)))) (fun k hk => (List.mem_cons.1 hk).elim (fun h => .inl (by rw [h]; simp)) (fun h => .inr (by simp at h; omega)))

set_option linter.unusedVariables false
set_option maxRecDepth 100000

theorem Rs.chg {F : List (Option Nat)} {w w' : World} {A : Option Addr} {es : List Rw} (h : Rs w A es) (hc : Chg F w w') (hn : ∀ k, some k ∈ ob A :: ft es → some k ∉ F) : Rs w' A es :=
  ⟨h.1.chg hc (fun k hk => hn k (List.mem_cons.2 (.inl hk.symm))), fun e he => (h.2 e he).chg hc (fun k hk => hn k (List.mem_cons.2 (.inr (List.mem_map.2 ⟨e, he, hk⟩))))⟩
/-- A screen that can be read; its blocks are from lo on. -/
structure Wk (w : World) (lo : Nat) (M A : Rw) (T : Ti) (B : Tr) : Prop where
  sr : Sr w M A T B
  lt' : ∀ k, some k ∈ sft M A T B → lo ≤ k ∧ k < w.heap.size
section
variable {w w' : World} {lo : Nat} {M A : Rw} {T : Ti} {B : Tr}
theorem Wk.lt (h : Wk w lo M A T B) {k : Nat} (hk : some k ∈ sft M A T B) : lo ≤ k ∧ k < w.heap.size := h.lt' k hk
theorem Wk.chg {F : List (Option Nat)} (h : Wk w lo M A T B) (hc : Chg F w w') (hn : ∀ k, some k ∈ sft M A T B → some k ∉ F) : Wk w' lo M A T B := by
  obtain ⟨⟨g1, g2, g3, g4⟩, h2⟩ := h
  refine ⟨⟨g1.chg hc fun k hk => hn k (List.mem_cons.2 (.inl hk.symm)), g2.chg hc fun k hk => hn k (List.mem_cons.2 (.inr (List.mem_cons.2 (.inl hk.symm)))), g3.chg hc fun k hk => hn k (List.mem_cons.2 (.inr (List.mem_cons.2 (.inr (List.mem_cons.2 (.inl hk.symm)))))), g4.chg hc fun k hk => hn k (List.mem_cons.2 (.inr (List.mem_cons.2 (.inr (List.mem_cons.2 (.inr hk))))))⟩, fun k hk => ?_⟩
  have := h2 k hk
  have := hc.size
  omega
theorem Wk.below {B' : Nat} (h : Wk w lo M A T B) (hb : Below B' w w') (hB : w.heap.size ≤ B') : Wk w' lo M A T B := h.chg (F := []) (Chg.of_below _ (hb.mono hB)) (fun _ _ h => by simp at h)
theorem Wk.mono {lo' : Nat} (h : Wk w lo M A T B) (hl : lo' ≤ lo) : Wk w lo' M A T B := ⟨h.sr, fun k hk => ⟨Nat.le_trans hl (h.lt hk).1, (h.lt hk).2⟩⟩
theorem Wk.of_so (h : So w lo M A T B) : Wk w lo M A T B := ⟨h.sr, fun k hk => h.lt hk⟩
end
/-- A screen is answered that can be read. -/
def ScrRead (w : World) (s : Sc) (c : Cont) (e : Ending) (w' : World) : Prop :=
  ∃ (M A : Rw) (T : Ti) (B : Tr), e = .returned (sV s M A T B) ∧ Hid (Holds M A T B c) ∧ Wk w' w.heap.size M A T B ∧ Below w.heap.size w w'
theorem scr_wrap {s : Sc} {c : Cont} (h : scrB s c = true) : scrB { s with wrap := false } c = true := by
  obtain ⟨e1, e2, e3, e4, e5⟩ := scr_grids h
  have h3 : numB { s with wrap := false } c.b.length = true := by
    have := of_decide_eq_true e3
    exact decide_eq_true ⟨this.1, this.2.1, fun h => by simp at h, this.2.2.2⟩
  rw [scrB]
  simp [e1, e2, h3, e4, e5]
/-- The content with the first row kept, where it scrolls out. -/
def keepC (s : Sc) (c : Cont) : Cont := if s.onA = false ∧ s.top = 0 then { c with b := keepL c.b (c.m.take s.W.toNat) s.limit } else c
/-- The cursor one row down. -/
def downS (s : Sc) : Sc := { s with Y := if s.Y = s.bot then s.Y else if s.Y < s.H - 1 then s.Y + 1 else s.Y, wrap := false }
def downC (s : Sc) (c : Cont) : Cont := if s.Y = s.bot then rollC s (keepC s c) 1 else c

set_option linter.unusedVariables false
set_option maxRecDepth 100000

theorem keepL_len {b : List (List Cl)} {r : List Cl} {limit : Int} (h : (b.length : Int) ≤ limit) : ((keepL b r limit).length : Int) ≤ limit := by
  unfold keepL
  split
  · rw [List.length_drop, List.length_append, List.length_singleton]; omega
  · rw [List.length_append, List.length_singleton]; omega
theorem rows_keep {b : List (List Cl)} {r : List Cl} {limit : Int} (h : rowsB b = true) (hr : rowB1 r = true) : rowsB (keepL b r limit) = true := by
  have h2 : rowsB (b ++ [r]) = true := by
    unfold rowsB at h ⊢
    rw [List.all_append, h]
    simpa using hr
  unfold keepL
  split
  · exact List.all_eq_true.2 fun x hx => List.all_eq_true.1 h2 x (List.mem_of_mem_drop hx)
  · exact h2
theorem row_len {W H : Int} {cs : List Cl} (h : gridB W H cs = true) : (cs.take W.toNat).length = W.toNat := by
  obtain ⟨⟨a, b⟩, ⟨c, d⟩, e, f⟩ := grid_len h
  obtain ⟨p, rfl⟩ := Int.eq_ofNat_of_zero_le (show 0 ≤ W by omega)
  obtain ⟨q, rfl⟩ := Int.eq_ofNat_of_zero_le (show 0 ≤ H by omega)
  have hq : p * 1 ≤ p * q := Nat.mul_le_mul_left p (by omega)
  have hf : cs.length = p * q := by rw [← Int.natCast_mul] at f; exact Int.ofNat_inj.1 f
  rw [List.length_take]
  simp only [Int.toNat_natCast]
  omega
theorem row_keep {W H : Int} {cs : List Cl} (h : gridB W H cs = true) : rowB1 (cs.take W.toNat) = true := by
  obtain ⟨⟨a, b⟩, ⟨c, d⟩, e, f⟩ := grid_len h
  have h3 : cs.all cellB = true := by rw [gridB, Bool.and_eq_true] at h; exact h.2
  rw [rowB1, Bool.and_eq_true]
  refine ⟨decide_eq_true ?_, List.all_eq_true.2 fun x hx => List.all_eq_true.1 h3 x (List.mem_of_mem_take hx)⟩
  rw [row_len h]
  omega
theorem scr_keep {s : Sc} {c : Cont} (h : scrB s c = true) : scrB s (keepC s c) = true := by
  unfold keepC
  split
  · obtain ⟨e1, e2, e3, e4, e5⟩ := scr_grids h
    obtain ⟨⟨u1, _⟩, _, _, m1, m2, m3⟩ := scr_nums h
    have hr := row_keep e1
    rw [u1] at hr
    have h3 : numB s (keepL c.b (c.m.take s.W.toNat) s.limit).length = true := by
      have := of_decide_eq_true e3
      exact decide_eq_true ⟨this.1, this.2.1, this.2.2.1, this.2.2.2.1, this.2.2.2.2.1, this.2.2.2.2.2.1, m1, m2, keepL_len m3⟩
    have h5 := rows_keep (limit := s.limit) e5 hr
    rw [scrB]
    simp only [e1, e2, h3, e4, h5, Bool.and_self]
  · exact h
theorem asc_le {ts : List Int} {W : Int} (h : ascB ts W = true) (k : Nat) (hk : k < ts.length) : (k : Int) ≤ ts.getD k 0 ∧ ts.getD k 0 < W := by
  have hk' := fun j (hj : j < ts.length) => of_decide_eq_true (List.all_eq_true.1 h j (List.mem_range.2 hj))
  induction k with
  | zero => exact ⟨(hk' 0 hk).1, (hk' 0 hk).2.1⟩
  | succ k ih =>
    have h1 := ih (by omega)
    have h2 := hk' (k + 1) hk
    have h3 := h2.2.2 (by omega)
    rw [Nat.add_sub_cancel] at h3
    exact ⟨by omega, h2.2.1⟩
theorem asc_len {ts : List Int} {W : Int} (h : ascB ts W = true) (hW : 0 ≤ W) : (ts.length : Int) ≤ W := by
  rcases Nat.eq_zero_or_pos ts.length with h0 | h0
  · omega
  · have := asc_le h (ts.length - 1) (by omega)
    omega
theorem rows_sum : ∀ {b : List (List Cl)}, rowsB b = true → (b.map List.length).sum ≤ 120 * b.length
  | [], _ => by simp
  | r :: b, h => by
    have h1 : rowB1 r = true := List.all_eq_true.1 h r (List.mem_cons.2 (.inl rfl))
    have h2 : rowsB b = true := List.all_eq_true.2 fun x hx => List.all_eq_true.1 h x (List.mem_cons.2 (.inr hx))
    have h3 := rows_sum h2
    rw [rowB1, Bool.and_eq_true] at h1
    have h4 := of_decide_eq_true h1.1
    rw [List.map_cons, List.sum_cons, List.length_cons]
    omega
/-- A valid screen is small. -/
theorem scr_tot {s : Sc} {c : Cont} (h : scrB s c = true) : cTot c ≤ 1048576 := by
  obtain ⟨e1, e2, e3, e4, e5⟩ := scr_grids h
  obtain ⟨_, _, _, m1, m2, m3⟩ := scr_nums h
  obtain ⟨⟨d1, d2⟩, _⟩ := scr_dims h
  have h1 := (grid_pos e1).2
  have h2 := (grid_pos e2).2
  have h3 := asc_len e4 (by omega)
  have h4 := rows_sum e5
  unfold cTot
  omega
theorem rollC_tot (s : Sc) (c : Cont) (n : Int) : cTot (rollC s c n) = cTot c := by
  have hl : ∀ (cs : List Cl) (a j k : Nat), (roL cs a j k n).length = cs.length := fun cs a j k => by unfold roL; exact upd_len
  unfold rollC
  split <;> simp [cTot, hl]
theorem down_tot {s : Sc} {c : Cont} (h : scrB s c = true) : cTot (downC s c) ≤ 1048576 := by
  unfold downC
  split
  · rw [rollC_tot]
    exact scr_tot (scr_keep h)
  · exact scr_tot h
theorem ch_tot2 {s : Sc} {c c2 : Cont} (h : scrB s c = true → cTot c2 ≤ 1048576) : cTot (chC s c c2) ≤ 1048576 := by
  unfold chC
  split
  · rename_i hq; exact h hq
  · simp [cTot, cont0]
end Go.Proofs.Ytnilgcahggmncaa
