/- Cells written in place, appended, copied. -/
import Derived.Test.YtnilgcahggmncaaG10
namespace Go.Proofs.Ytnilgcahggmncaa
open Go.RowKit
set_option linter.unusedVariables false
set_option maxRecDepth 100000

/-- A list of cells, rewritten from place lo up to place hi. -/
def upd (cs : List Cl) (f : Nat → Cl) (lo hi : Nat) : List Cl := (List.range cs.length).map fun i => if lo ≤ i ∧ i < hi then f i else cs.getD i cl0
section
variable {cs : List Cl} {f : Nat → Cl} {lo hi : Nat}
theorem upd_len : (upd cs f lo hi).length = cs.length := by simp [upd]
theorem upd_get {i : Nat} (h : i < cs.length) : (upd cs f lo hi)[i]? = some (if lo ≤ i ∧ i < hi then f i else cs.getD i cl0) := by simp [upd, h]
theorem upd_self : upd cs f lo lo = cs := by
  apply List.ext_getElem?
  intro i
  by_cases h : i < cs.length
  · rw [upd_get h, if_neg (by omega), List.getElem?_eq_getElem h, List.getD_eq_getElem?_getD, List.getElem?_eq_getElem h]
    rfl
  · rw [List.getElem?_eq_none (by rw [upd_len]; omega), List.getElem?_eq_none (by omega)]
theorem upd_set (h : hi < cs.length) (hl : lo ≤ hi) : (upd cs f lo hi).set hi (f hi) = upd cs f lo (hi + 1) := by
  apply List.ext_getElem?
  intro i
  by_cases hi' : i < cs.length
  · rw [upd_get hi', List.getElem?_set, upd_len, upd_get hi']
    by_cases e : hi = i
    · subst e
      rw [if_pos rfl, if_pos h, if_pos ⟨hl, by omega⟩]
    · rw [if_neg e]
      congr 1
      by_cases k : lo ≤ i ∧ i < hi
      · rw [if_pos k, if_pos (by omega)]
      · rw [if_neg k, if_neg (by omega)]
  · rw [List.getElem?_eq_none (by rw [List.length_set, upd_len]; omega), List.getElem?_eq_none (by rw [upd_len]; omega)]
theorem upd_skip {hi' : Nat} (hh : hi ≤ hi') (h : ∀ i, hi ≤ i → i < hi' → i < cs.length → f i = cs.getD i cl0) : upd cs f lo hi = upd cs f lo hi' := by
  apply List.ext_getElem?
  intro i
  by_cases hi' : i < cs.length
  · rw [upd_get hi', upd_get hi']
    congr 1
    by_cases k : lo ≤ i ∧ i < hi
    · rw [if_pos k, if_pos (by omega)]
    · rw [if_neg k]
      split
      · exact (h i (by omega) (by omega) hi').symm
      · rfl
  · rw [List.getElem?_eq_none (by rw [upd_len]; omega), List.getElem?_eq_none (by rw [upd_len]; omega)]
theorem upd_congr {g : Nat → Cl} (h : ∀ i, lo ≤ i → i < hi → i < cs.length → f i = g i) : upd cs f lo hi = upd cs g lo hi := by
  apply List.ext_getElem?
  intro i
  by_cases hi' : i < cs.length
  · rw [upd_get hi', upd_get hi']
    congr 1
    split
    · rename_i k
      exact h i k.1 k.2 hi'
    · rfl
  · rw [List.getElem?_eq_none (by rw [upd_len]; omega), List.getElem?_eq_none (by rw [upd_len]; omega)]
end
theorem set6 (c : Cl) (l : List Value) (n : Nat) (v : Value) : (cv c ++ l).set (n + 6) v = cv c ++ l.set n v := by
  rw [List.set_append_right _ _ (by show 6 ≤ _; omega)]
  rfl
theorem cvs_set (cs : List Cl) : ∀ (k : Nat) (x : Cl), k < cs.length → cvs (cs.set k x) = ((((((cvs cs).set (k * 6) (.int .i64 x.1)).set (k * 6 + 1) (.int .i64 x.2.1)).set (k * 6 + 2) (.int .i64 x.2.2.1)).set (k * 6 + 3) (.bool x.2.2.2.1)).set (k * 6 + 4) (.bool x.2.2.2.2.1)).set (k * 6 + 5) (.bool x.2.2.2.2.2) := by
  induction cs with
  | nil => intro k x h; simp at h
  | cons c r ih =>
    intro k x h
    cases k with
    | zero => rfl
    | succ k =>
      have e := ih k x (by simpa using h)
      have e2 : ∀ j, (k + 1) * 6 + j = (k * 6 + j) + 6 := by intro j; omega
      have e0 : (k + 1) * 6 = k * 6 + 6 := by omega
      have e3 : cvs ((c :: r).set (k + 1) x) = cv c ++ cvs (r.set k x) := rfl
      have e4 : cvs (c :: r) = cv c ++ cvs r := rfl
      rw [e3, e, e4, e2 1, e2 2, e2 3, e2 4, e2 5, e0, set6, set6, set6, set6, set6, set6]
section
variable {w : World} {lo g c : Nat} {cs : List Cl}
theorem Og.set (h : Og w lo (some ⟨g, 0, none⟩) c cs) {k : Nat} (hk : k < cs.length) (x : Cl) :
    Og ((((((w.setCell ⟨g, k * 6, none⟩ (.int .i64 x.1)).setCell ⟨g, k * 6 + 1, none⟩ (.int .i64 x.2.1)).setCell ⟨g, k * 6 + 2, none⟩ (.int .i64 x.2.2.1)).setCell ⟨g, k * 6 + 3, none⟩ (.bool x.2.2.2.1)).setCell ⟨g, k * 6 + 4, none⟩ (.bool x.2.2.2.2.1)).setCell ⟨g, k * 6 + 5, none⟩ (.bool x.2.2.2.2.2)) lo (some ⟨g, 0, none⟩) c (cs.set k x) := by
  rcases h.2 with ⟨h1, _⟩ | ⟨g', cap, cur, fz, hv, hlo, hh, hz, hn, hm, hs, ht⟩
  · simp at h1
  · simp only [Value.slice.injEq, Option.some.injEq, Addr.mk.injEq, true_and, and_true] at hv
    obtain ⟨rfl, rfl⟩ := hv
    refine ⟨by rw [cvs_len], .inr ⟨g, c, _, fz, rfl, hlo, heap_setCell_same _ (heap_setCell_same _ (heap_setCell_same _ (heap_setCell_same _ (heap_setCell_same _ (heap_setCell_same _ hh))))), by simpa using hz, by simpa using hn, hm, by simpa using hs, ?_⟩⟩
    rw [cvs_set cs k x hk, ← ht]
    simp only [Array.toList_setIfInBounds, List.take_set, List.length_set]
theorem Og.frozen (h : Og w lo (some ⟨g, 0, none⟩) c cs) {i : Nat} (hi : i < cs.length * 6) : w.frozen? ⟨g, i, none⟩ = false := by
  rcases h.2 with ⟨h1, _⟩ | ⟨g', cap, cur, fz, hv, hlo, hh, hz, hn, hm, hs, ht⟩
  · simp at h1
  · simp only [Value.slice.injEq, Option.some.injEq, Addr.mk.injEq, true_and, and_true] at hv
    obtain ⟨rfl, rfl⟩ := hv
    rcases hz with rfl | hz
    · simp [World.frozen?, hh]
    · simp [World.frozen?, hh]; omega
theorem Og.get (h : Og w lo (some ⟨g, 0, none⟩) c cs) {k : Nat} (hk : k < cs.length) : w.cell? ⟨g, k * 6, none⟩ = some (.int .i64 cs[k].1) ∧ w.cell? ⟨g, k * 6 + 1, none⟩ = some (.int .i64 cs[k].2.1) ∧ w.cell? ⟨g, k * 6 + 2, none⟩ = some (.int .i64 cs[k].2.2.1) ∧ w.cell? ⟨g, k * 6 + 3, none⟩ = some (.bool cs[k].2.2.2.1) ∧ w.cell? ⟨g, k * 6 + 4, none⟩ = some (.bool cs[k].2.2.2.2.1) ∧ w.cell? ⟨g, k * 6 + 5, none⟩ = some (.bool cs[k].2.2.2.2.2) := by
  have e := List.getElem?_eq_getElem hk
  have hc := fun j u hu => h.cells (g := g) rfl _ _ (cvs_get cs k _ e j u hu)
  exact ⟨hc 0 _ rfl, hc 1 _ rfl, hc 2 _ rfl, hc 3 _ rfl, hc 4 _ rfl, hc 5 _ rfl⟩
theorem Og.put_ (h : Og w lo (some ⟨g, 0, none⟩) c cs) {k : Nat} (hk : k < cs.length) : (w.frozen? ⟨g, k * 6, none⟩ = false ∧ w.frozen? ⟨g, k * 6 + 1, none⟩ = false ∧ w.frozen? ⟨g, k * 6 + 2, none⟩ = false ∧ w.frozen? ⟨g, k * 6 + 3, none⟩ = false ∧ w.frozen? ⟨g, k * 6 + 4, none⟩ = false ∧ w.frozen? ⟨g, k * 6 + 5, none⟩ = false) :=
  ⟨h.frozen (by omega), h.frozen (by omega), h.frozen (by omega), h.frozen (by omega), h.frozen (by omega), h.frozen (by omega)⟩
theorem Og.empty : Og (w.alloc (.cells #[] 44)) w.heap.size (some ⟨w.heap.size, 0, none⟩) 0 [] :=
  ⟨rfl, .inr ⟨w.heap.size, 0, #[], (0, 0), rfl, Nat.le_refl _, heap_alloc_new _ _, .inl rfl, Nat.le_refl _, by unfold maxLen; omega, rfl, rfl⟩⟩
end
theorem cvs_inv {cs : List Cl} {j : Nat} {u : Value} (h : (cvs cs)[j]? = some u) : ∃ x, cs[j / 6]? = some x ∧ (cv x)[j % 6]? = some u := by
  have hj := (List.getElem?_eq_some_iff.1 h).1
  rw [cvs_len] at hj
  have hi : j / 6 < cs.length := by omega
  have e := List.getElem?_eq_getElem hi
  have hr : j % 6 < (cv cs[j / 6]).length := by show _ < 6; omega
  have e2 := cvs_get cs (j / 6) _ e (j % 6) _ (List.getElem?_eq_getElem hr)
  rw [show j / 6 * 6 + j % 6 = j by omega, h] at e2
  exact ⟨_, e, by rw [e2]; exact List.getElem?_eq_getElem hr⟩
theorem cvs_one (cs : List Cl) : ∀ u ∈ cvs cs, u.oneCell' = true := by
  intro u hu
  obtain ⟨x, _, hx⟩ := List.mem_flatMap.1 hu
  simp only [List.mem_cons, List.not_mem_nil, or_false] at hx
  rcases hx with rfl | rfl | rfl | rfl | rfl | rfl <;> rfl
theorem Gs.news {w : World} {b o : Nat} {cs : List Cl} (h : ∀ i x, cs[i]? = some x → ∀ j u, (cv x)[j]? = some u → w.cell? ⟨b, o + (i * 6 + j), none⟩ = some u) (j : Nat) (u : Value) (hu : (cvs cs)[j]? = some u) : w.cell? ((⟨b, o, none⟩ : Addr).add j) = some u := by
  obtain ⟨x, h1, h2⟩ := cvs_inv hu
  have := h _ x h1 _ u h2
  rw [show j / 6 * 6 + j % 6 = j by omega] at this
  rw [Addr.add_lit]
  exact this
theorem Gs.lit {w : World} {x : Cl} : Gs (w.alloc (.cells #[.int .i64 x.1, .int .i64 x.2.1, .int .i64 x.2.2.1, .bool x.2.2.2.1, .bool x.2.2.2.2.1, .bool x.2.2.2.2.2] 44)) (some ⟨w.heap.size, 0, none⟩) [x] := by
  refine .inr ⟨_, _, rfl, fun i y hi j u hu => ?_⟩
  cases i with
  | zero =>
    simp at hi
    subst hi
    rw [cell_of_row _ w.heap.size _ _ _ (0, 0) (heap_alloc_new _ _)]
    simpa using hu
  | succ i => simp at hi
section
variable {ops : Array Oper} {rest : List Oper} {o : Oper} {a : Act} {Q : Exit → Act → World → Prop}
/-- append(s, src...), cells onto a slice of the call's own. -/
theorem wp_appG (hgd : o.guard = none) (s x : Operand) (ho : o.op = .call { callee := .builtin .append, args := #[s, x], argTypes := #[27, 27] })
    (lo : Nat) (A : Option Addr) (c : Nat) (ys : List Cl) (w : World) (A2 : Option Addr) (c2 : Nat) (zs : List Cl) (ha : Og w lo A c ys) (hz : Gs w A2 zs) (h0 : 0 < zs.length) (n m : Nat) (hn : n = ys.length) (hm : m = zs.length) (hs : a.eval s = .slice A n c)
    (hx : a.eval x = .slice A2 m c2) (hl : ys.length ≤ 1048576) (hl2 : zs.length ≤ 1048576) (hlo : lo ≤ w.heap.size)
    (h : ∀ A' c' w' us, Hid (us = ys ++ zs) → Og w' lo A' c' us → Below lo w w' → wpList Try.prog ops Q rest (a.put o.dst (.slice A' us.length c')) w') :
    wpList Try.prog ops Q (o :: rest) a w := by
  obtain ⟨i0, hi, hz0, hz1, hz2⟩ := info_parts info_cell
  refine wpList_plain hgd fun K hK => ?_
  subst hn hm
  rcases hz with hz | ⟨b, o', rfl, hc⟩
  · rw [hz] at h0; simp at h0
  obtain ⟨v', w', hr, h2, h3⟩ := run_append_ownG (P := Try.prog) w lo 27 o.type 44 i0 _ 6 32 Try.underlying27 hi hz0 hz1 hz2 rfl (by decide) _ _ _ ha ⟨b, o', none⟩ zs.length c2 (cvs zs) (cvs_len zs)
    (Gs.news hc) (cvs_one zs) (by unfold maxLen; omega) (by omega) hlo
  obtain ⟨A', c', rfl⟩ := h2.form
  unfold Oper.wp execOp
  simp only [ho, resolve, invoke, builtin, Sem.run_bind, Sem.run_pure, Result.andThen_ok, List.map_toArray, List.map_cons, List.map_nil, hs, hx, hr]
  refine hK _ _ ?_
  have hL : (ys ++ zs).length = ys.length + zs.length := by simp
  have hob : Og w' lo A' c' (ys ++ zs) := by
    unfold Og; rw [hL, show cvs (ys ++ zs) = cvs ys ++ cvs zs by simp [cvs]]; exact h2
  have := h A' c' w' _ (Lib.hid rfl) hob (below_of_grown h3 hlo (fun k hk => by
    cases A with
    | none => simp [Value.ownBlock] at hk
    | some ad => exact (ha.lt k (by simpa [Value.ownBlock] using hk)).1))
  rw [hL] at this
  exact this
end
end Go.Proofs.Ytnilgcahggmncaa
