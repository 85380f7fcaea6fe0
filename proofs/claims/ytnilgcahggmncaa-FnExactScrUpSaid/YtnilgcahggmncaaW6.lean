/- A screen of one's own: the blocks that its slices own. -/
import Derived.Test.YtnilgcahggmncaaW5
import Derived.Laws.Rows
import Derived.Laws.Tables
namespace Go.Proofs.Ytnilgcahggmncaa
open Go.RowKit
set_option linter.unusedVariables false
set_option maxRecDepth 100000

theorem Chg.setCell {F : List (Option Nat)} {a w : World} {p : Addr} (h : Chg F a w) (hp : some p.block ∈ F) (v : Value) : Chg F a (w.setCell p v) :=
  h.trans ⟨rfl, rfl, rfl, by simp [World.setCell], fun q hq hn => Below.heap_setCell w _ _ q (by rintro rfl; exact hn hp)⟩
theorem Chg.alloc {F : List (Option Nat)} {a w : World} (h : Chg F a w) (o : Obj) : Chg F a (w.alloc o) := h.trans (Chg.of_below _ ((Below.refl _ _).alloc (Nat.le_refl _) _))
theorem Chg.drew {F : List (Option Nat)} {a w : World} (h : Chg F a w) : Chg F a w.drew := h.trans (Chg.of_below _ (Below.refl _ _).drew)
theorem Or.mono {w : World} {lo lo' c : Nat} {A : Option Addr} {es : List Rw} (h : Or w lo A c es) (hl : lo' ≤ lo) : Or w lo' A c es := ownsG.mono h hl
/-- The blocks of a screen's slices. -/
abbrev sft (M A : Rw) (T : Ti) (B : Tr) : List (Option Nat) := ob M.1 :: ob A.1 :: ob T.1 :: ob B.1 :: ft B.2.2
structure So (w : World) (lo : Nat) (M A : Rw) (T : Ti) (B : Tr) : Prop where
  om : Og w lo M.1 M.2.1 M.2.2
  oa : Og w lo A.1 A.2.1 A.2.2
  ot : Oi w lo T.1 T.2.1 T.2.2
  ol : Or w lo B.1 B.2.1 B.2.2
  ow : ∀ e, e ∈ B.2.2 → Og w lo e.1 e.2.1 e.2.2
  sep : (sft M A T B).Pairwise Sep
section
variable {w w' : World} {lo : Nat} {M A : Rw} {T : Ti} {B : Tr}
theorem So.rows (h : So w lo M A T B) : Ow w lo B.1 B.2.2 := by
  have h1 := (List.pairwise_cons.1 h.sep).2
  have h2 := (List.pairwise_cons.1 h1).2
  have h3 := (List.pairwise_cons.1 h2).2
  have h4 := List.pairwise_cons.1 h3
  exact ⟨h.ow, h4.2, fun e he => h4.1 _ (List.mem_map.2 ⟨e, he, rfl⟩)⟩
theorem So.chg {F : List (Option Nat)} (h : So w lo M A T B) (hc : Chg F w w') (hn : ∀ k, some k ∈ sft M A T B → some k ∉ F) : So w' lo M A T B :=
  ⟨h.om.chg hc fun k hk => hn k (by rw [← hk]; simp), h.oa.chg hc fun k hk => hn k (by rw [← hk]; simp), h.ot.chg hc fun k hk => hn k (by rw [← hk]; simp), h.ol.chg hc fun k hk => hn k (by rw [← hk]; simp),
    fun e he => (h.ow e he).chg hc fun k hk => hn k (by rw [← hk]; exact List.mem_cons_of_mem _ (List.mem_cons_of_mem _ (List.mem_cons_of_mem _ (List.mem_cons_of_mem _ (List.mem_map.2 ⟨e, he, rfl⟩))))), h.sep⟩
theorem So.lt (h : So w lo M A T B) {k : Nat} (hk : some k ∈ sft M A T B) : lo ≤ k ∧ k < w.heap.size := by
  simp only [sft, List.mem_cons] at hk
  rcases hk with hk | hk | hk | hk | hk
  · exact h.om.ob_lt hk.symm
  · exact h.oa.ob_lt hk.symm
  · exact h.ot.ob_lt hk.symm
  · exact h.ol.ob_lt hk.symm
  · obtain ⟨e, he, hq⟩ := List.mem_map.1 hk
    exact (h.ow e he).ob_lt hq
theorem So.below {B' : Nat} (h : So w lo M A T B) (hb : Below B' w w') (hB : w.heap.size ≤ B') : So w' lo M A T B := h.chg (F := []) (Chg.of_below _ (hb.mono hB)) (fun _ _ h => by simp at h)
theorem So.mono {lo' : Nat} (h : So w lo M A T B) (hl : lo' ≤ lo) : So w lo' M A T B := ⟨h.om.mono hl, h.oa.mono hl, h.ot.mono hl, h.ol.mono hl, fun e he => (h.ow e he).mono hl, h.sep⟩
theorem So.sr (h : So w lo M A T B) : Sr w M A T B := ⟨h.om.gs, h.oa.gs, h.ot.cs, h.ol.cs, fun e he => (h.ow e he).gs⟩
theorem So.of_order {n1 n2 n3 : Nat} (om : Og w lo M.1 M.2.1 M.2.2) (oa : Og w lo A.1 A.2.1 A.2.2) (ot : Oi w lo T.1 T.2.1 T.2.2) (ol : Or w lo B.1 B.2.1 B.2.2) (ow : Ow w lo B.1 B.2.2)
    (h1 : ∀ k, ob M.1 = some k → k < n1) (h2 : ∀ k, ob A.1 = some k → n1 ≤ k ∧ k < n2) (h3 : ∀ k, ob T.1 = some k → n2 ≤ k ∧ k < n3) (h4 : ∀ k, some k ∈ ob B.1 :: ft B.2.2 → n3 ≤ k) (h12 : n1 ≤ n2) (h23 : n2 ≤ n3) : So w lo M A T B := by
  refine ⟨om, oa, ot, ol, ow.own, ?_⟩
  refine List.pairwise_cons.2 ⟨fun x hx => ?_, List.pairwise_cons.2 ⟨fun x hx => ?_, List.pairwise_cons.2 ⟨fun x hx => ?_, List.pairwise_cons.2 ⟨fun x hx => ?_, ow.sep⟩⟩⟩⟩
  · refine Sep.lt h1 fun k hk => ?_
    subst hk
    rcases List.mem_cons.1 hx with hx | hx
    · exact (h2 k hx.symm).1
    · rcases List.mem_cons.1 hx with hx | hx
      · have := (h3 k hx.symm).1; omega
      · have := h4 k hx; omega
  · refine Sep.lt (fun k hk => (h2 k hk).2) fun k hk => ?_
    subst hk
    rcases List.mem_cons.1 hx with hx | hx
    · have := (h3 k hx.symm).1; omega
    · have := h4 k hx; omega
  · refine Sep.lt (fun k hk => (h3 k hk).2) fun k hk => ?_
    subst hk
    exact h4 k hx
  · obtain ⟨e, he, hq⟩ := List.mem_map.1 hx
    rw [← hq]
    exact ow.list e he
end
/-- What the slices of a screen hold. -/
structure Cont where
  (m a : List Cl)
  t : List Int
  b : List (List Cl)
def Holds (M A : Rw) (T : Ti) (B : Tr) (c : Cont) : Prop := M.2.2 = c.m ∧ A.2.2 = c.a ∧ T.2.2 = c.t ∧ rcs B.2.2 = c.b
/-- A new screen is answered. -/
def ScrOwn (w : World) (s : Sc) (c : Cont) (e : Ending) (w' : World) : Prop :=
  ∃ (M A : Rw) (T : Ti) (B : Tr), e = .returned (sV s M A T B) ∧ Hid (Holds M A T B c) ∧ So w' w.heap.size M A T B ∧ Below w.heap.size w w'
theorem Sz.of {m a : Rw} {t : Ti} {b : Tr} (h : m.2.2.length + a.2.2.length + t.2.2.length + b.2.2.length + rtot b.2.2 ≤ 1048576) : Sz m a t b 1048576 :=
  ⟨by omega, by omega, by omega, by omega, fun e he => by have := rtot_mem he; omega⟩
/-- How large a screen's slices are, all together. -/
def cTot (c : Cont) : Nat := c.m.length + c.a.length + c.t.length + c.b.length + (c.b.map List.length).sum
theorem cTot_holds {M A : Rw} {T : Ti} {B : Tr} {c : Cont} (h : Holds M A T B c) : M.2.2.length + A.2.2.length + T.2.2.length + B.2.2.length + rtot B.2.2 = cTot c := by
  obtain ⟨h1, h2, h3, h4⟩ := h
  rw [cTot, ← h1, ← h2, ← h3, ← h4]
  simp [rcs, rtot, Function.comp_def]
theorem Chg.of_row {w : World} {g : Nat} (cs : Array Value) : Chg [some g] w (w.setRow g cs) :=
  ⟨rfl, rfl, rfl, by simp, fun q hq hn => setRow_other w g q cs (by rintro rfl; exact hn (List.mem_singleton.2 rfl))⟩
/-- A whole struct stored into a block of its size: the block is known behind it, all else is as it was. -/
theorem wp_store_blk {ops : Array Oper} {rest : List Oper} {o : Oper} {a : Act} {w : World} {Q : Exit → Act → World → Prop} (hgd : o.guard = none) (ty : TypeId) (x y : Operand) (ho : o.op = .store ty x y)
    (g : Nat) (cells : Array Value) (hx : a.eval x = .pointer (some ⟨g, 0, none⟩)) (hy : a.eval y = .agg cells)
    (t : TypeId) (old : Array Value) (hg : w.heap[g]? = some (.cells old t (0, 0))) (hi : (Try.prog.info? ty).map (·.size) = some cells.size)
    (hold : old.size = cells.size) (h1 : cells.all (·.oneCell') = true)
    (h : ∀ w', w'.heap[g]? = some (.cells cells t (0, 0)) → Chg [some g] w w' → w'.heap.size = w.heap.size → wpList Try.prog ops Q rest (a.put o.dst undef) w') : wpList Try.prog ops Q (o :: rest) a w :=
  wpList_store_row hgd ty x y ho g cells hx hy t old hg hi hold h1 (h _ (setRow_heap w g old cells t (0, 0) hg) (Chg.of_row cells) (by simp))
theorem wp_store_blkO {o : Oper} {a : Act} {w : World} {K : Act → World → Prop} {Q : Exit → Act → World → Prop} (ty : TypeId) (x y : Operand) (ho : o.op = .store ty x y)
    (g : Nat) (cells : Array Value) (hx : a.eval x = .pointer (some ⟨g, 0, none⟩)) (hy : a.eval y = .agg cells)
    (t : TypeId) (old : Array Value) (hg : w.heap[g]? = some (.cells old t (0, 0))) (hi : (Try.prog.info? ty).map (·.size) = some cells.size)
    (hold : old.size = cells.size) (h1 : cells.all (·.oneCell') = true)
    (h : ∀ w', w'.heap[g]? = some (.cells cells t (0, 0)) → Chg [some g] w w' → w'.heap.size = w.heap.size → K (a.put o.dst undef) w') : o.wp Try.prog a w K Q :=
  wp_store_row ty x y ho g cells hx hy t old hg hi hold h1 (h _ (setRow_heap w g old cells t (0, 0) hg) (Chg.of_row cells) (by simp))
theorem size_scr : (Try.prog.info? 49).map (·.size) = some 31 := by kernel_rfl
theorem sC_one (s : Sc) (m a : Rw) (t : Ti) (b : Tr) : (sC s m a t b).all (·.oneCell') = true := by simp [Value.oneCell']
end Go.Proofs.Ytnilgcahggmncaa
