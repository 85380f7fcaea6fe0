/- A region that draws its order and ends in stores: a fact about the world that holds until a given operation (the first store) has come up. Parts of a screen's block written; copies of ints and rows. Copies of screens: the program's. Copies of screens: the reference's. The program's way of changing a screen; the cursor moved. The cursor moved: both ways. -/
import Derived.Deep.RegionHeld3
import Derived.Test.YtnilgcahggmncaaBase
import Derived.Test.YtnilgcahggmncaaY1
import Derived.Test.YtnilgcahggmncaaShelf
import Derived.Lib.MinMax
namespace Go.Proofs.Ytnilgcahggmncaa
open Go.RowKit

theorem late {b : Bool} (hb : b = true) {p : Prop} : b = false → p := fun h => by rw [hb] at h; cases h
section
variable {P : Program} {ops : Array Oper} {Q : Exit → Act → World → Prop} {md : Region.Mode} {S0 : World → Prop} {k : Nat}

/-- Whatever order is picked, and S0 holds behind every operation until number k has come up. -/
def wpAnyK (P : Program) (md : Region.Mode) (ops : Array Oper) (Q : Exit → Act → World → Prop) (S0 : World → Prop) (k : Nat) : Nat → Array Bool → Act → World → Prop
  | 0, listed, a, w => Region.ready md ops listed = [] ∧ Q .normal a w
  | fuel + 1, listed, a, w =>
    (Region.ready md ops listed = [] → Q .normal a w) ∧
    ∀ i ∈ Region.ready md ops listed, wpOp P ops Q i (fun a' w' => ((listed.setIfInBounds i true).getD k true = false → S0 w') ∧ wpAnyK P md ops Q S0 k fuel (listed.setIfInBounds i true) a' w') a w

theorem wpAny_ofK : ∀ (fuel : Nat) (listed : Array Bool) (a : Act) (w : World), wpAnyK P md ops Q S0 k fuel listed a w → wpAny P md ops Q fuel listed a w
  | 0, _, _, _, h => h
  | fuel + 1, _, _, _, h => ⟨h.1, fun i hi => wpOp_mono (fun a' w' h' => wpAny_ofK fuel _ a' w' h'.2) (h.2 i hi)⟩

theorem wpAnyK_gen {i : Nat} {oi : Oper} {v : Value} {R : World → Prop} (hi : ops[i]? = some oi) (hsel : ∀ (j : Nat) (o : Oper) cs b, ops[j]? = some o → o.op ≠ .select cs b)
    (hQ : ∀ c a w, Q (.panic c) (a.put oi.dst v) w → Q (.panic c) a w) (hik : i ≠ k)
    (hR : (∀ w, R w) ∨ (∃ ok, ops[k]? = some ok ∧ ∃ e ∈ ok.after, Region.binds md e = true ∧ e.on = i) ∧ ∀ w, S0 w → R w) :
    ∀ (fuel : Nat) (listed : Array Bool) (a : Act) (w : World),
      (∀ j oj, ops[j]? = some oj → j ≠ i → listed.getD j true = false → (∀ e ∈ oj.after, Region.binds md e = true → e.on ≠ i) → oi.apart ops oj = true) →
      i ∈ Region.ready md ops listed → YieldsIf P ops R oi v a → ((∀ w, R w) ∨ listed.getD k true = false) → (listed.getD k true = false → S0 w) →
      wpAnyK P md ops Q S0 k fuel (listed.setIfInBounds i true) (a.put oi.dst v) w → wpAnyK P md ops Q S0 k (fuel + 1) listed a w := by
  intro fuel
  have here : ∀ (listed : Array Bool) (w : World), ((∀ w, R w) ∨ listed.getD k true = false) → (listed.getD k true = false → S0 w) → R w := by
    intro listed w h1 h2
    rcases h1 with h1 | h1
    · exact h1 w
    · rcases hR with h3 | ⟨_, h3⟩
      · exact h3 w
      · exact h3 w (h2 h1)
  induction fuel with
  | zero =>
    intro listed a w _ hr hy hL hS H
    refine ⟨fun h => (by rw [h] at hr; cases hr), fun j hj => ?_⟩
    by_cases hji : j = i
    · subst hji; exact hy.wpOp hi (here _ _ hL hS) ⟨fun h => hS (by rwa [getD_set_ne true hik] at h), H⟩
    · have := ready_mono hj hji
      rw [H.1] at this
      cases this
  | succ fuel ih =>
    intro listed a w hfree hr hy hL hS H
    refine ⟨fun h => (by rw [h] at hr; cases hr), fun j hj => ?_⟩
    by_cases hji : j = i
    · subst hji; exact hy.wpOp hi (here _ _ hL hS) ⟨fun h => hS (by rwa [getD_set_ne true hik] at h), H⟩
    · have h1 := H.2 j (ready_mono hj hji)
      obtain ⟨hjun, oj, hoj, hall⟩ := mem_ready.1 hj
      have hnot : ∀ e ∈ oj.after, Region.binds md e = true → e.on ≠ i := fun e he hb heq => by
        have h1 := hall e he hb
        have h0 := (mem_ready.1 hr).1
        rw [heq] at h1
        rcases Nat.lt_or_ge i listed.size with h' | h'
        · simp [h'] at h0 h1; rw [h0] at h1; cases h1
        · simp [Array.getElem?_eq_none h'] at h1
      have h2 := wpOp_putIf hoj (hfree j oj hoj hji hjun hnot) (fun cs b => hsel i oi cs b hi) (fun cs b => hsel j oj cs b hoj) hQ hy h1
      have hfree' : ∀ k ok, ops[k]? = some ok → k ≠ i → (listed.setIfInBounds j true).getD k true = false →
          (∀ e ∈ ok.after, Region.binds md e = true → e.on ≠ i) → oi.apart ops ok = true := fun k ok hk hki hun hno => by
        refine hfree k ok hk hki ?_ hno
        by_cases hjk : j = k
        · subst hjk; exact hjun
        · rw [getD_set_ne true hjk] at hun; exact hun
      have hsame : ∀ b, ((listed.setIfInBounds i true).setIfInBounds j b).getD k true = (listed.setIfInBounds j b).getD k true := fun b => by
        rw [Array.setIfInBounds_comm _ _ (Ne.symm hji), getD_set_ne true hik]
      have hL' : (∀ w, R w) ∨ (listed.setIfInBounds j true).getD k true = false := by
        rcases hL with h | h
        · exact .inl h
        · rcases hR with h3 | ⟨⟨ok, hok, e, he, hb, hon⟩, _⟩
          · exact .inl h3
          · refine .inr ?_
            have hjk : j ≠ k := fun e1 => by
              subst e1
              rw [hoj] at hok
              cases hok
              exact hnot e he hb hon
            rw [getD_set_ne true hjk]
            exact h
      refine wpOp_mono (fun a' w' h3 => ⟨fun h => h3.2.1 (by rw [hsame]; exact h), ih (listed.setIfInBounds j true) a' w' hfree' (ready_mono hr (Ne.symm hji)) h3.1 hL' (fun h => h3.2.1 (by rw [hsame]; exact h)) ?_⟩) h2
      rw [Array.setIfInBounds_comm _ _ hji]
      exact h3.2.2

def waitsB (md : Region.Mode) (ops : Array Oper) (k i : Nat) : Bool := (ops[k]?.map fun o => o.after.any fun e => Region.binds md e && e.on == i) == some true
theorem waitsB_spec {k i : Nat} (h : waitsB md ops k i = true) : ∃ ok, ops[k]? = some ok ∧ ∃ e ∈ ok.after, Region.binds md e = true ∧ e.on = i := by
  unfold waitsB at h
  cases hk : ops[k]? with
  | none => rw [hk] at h; simp at h
  | some ok =>
    rw [hk] at h
    simp only [Option.map_some, beq_iff_eq, Option.some.injEq, Array.any_eq_true] at h
    obtain ⟨j, hj, hb⟩ := h
    rw [Bool.and_eq_true] at hb
    exact ⟨ok, rfl, ok.after[j], Array.getElem_mem hj, hb.1, by simpa using hb.2⟩

/-- Take number i first, for which operation k waits: it yields v in every world that meets S0. -/
theorem wpAnyK_take {i : Nat} {oi : Oper} {v : Value} {fuel : Nat} {listed : Array Bool} {a : Act} {w : World} (hi : ops[i]? = some oi)
    (hs : Region.noSelect ops = true) (hf : Region.free md ops listed i = true) (hr : (Region.ready md ops listed).contains i = true)
    (hQ : ∀ c a w, Q (.panic c) (a.put oi.dst v) w → Q (.panic c) a w) (hw : waitsB md ops k i = true) (hk : listed.getD k true = false) (hik : i ≠ k) (hy : YieldsIf P ops S0 oi v a) (hS : S0 w)
    (h : wpAnyK P md ops Q S0 k fuel (listed.setIfInBounds i true) (a.put oi.dst v) w) : wpAnyK P md ops Q S0 k (fuel + 1) listed a w :=
  wpAnyK_gen (R := S0) hi (Region.noSelect_spec hs) hQ hik (.inr ⟨waitsB_spec hw, fun _ h => h⟩) fuel listed a w (Region.free_spec hi hf) (by simpa using hr) hy (.inr hk) (fun _ => hS) h
/-- Take number i first, which yields v in every world. -/
theorem wpAnyK_free {i : Nat} {oi : Oper} {v : Value} {fuel : Nat} {listed : Array Bool} {a : Act} {w : World} (hi : ops[i]? = some oi)
    (hs : Region.noSelect ops = true) (hf : Region.free md ops listed i = true) (hr : (Region.ready md ops listed).contains i = true)
    (hQ : ∀ c a w, Q (.panic c) (a.put oi.dst v) w → Q (.panic c) a w) (hik : i ≠ k) (hy : YieldsIf P ops (fun _ => True) oi v a) (hS : listed.getD k true = false → S0 w)
    (h : wpAnyK P md ops Q S0 k fuel (listed.setIfInBounds i true) (a.put oi.dst v) w) : wpAnyK P md ops Q S0 k (fuel + 1) listed a w :=
  wpAnyK_gen (R := fun _ => True) hi (Region.noSelect_spec hs) hQ hik (.inl fun _ => trivial) fuel listed a w (Region.free_spec hi hf) (by simpa using hr) hy (.inl fun _ => trivial) hS h
def AllReadyK (P : Program) (md : Region.Mode) (ops : Array Oper) (Q : Exit → Act → World → Prop) (S0 : World → Prop) (k fuel : Nat) (listed : Array Bool) (a : Act) (w : World) (rs : List Nat) : Prop :=
  ∀ i ∈ rs, wpOp P ops Q i (fun a' w' => ((listed.setIfInBounds i true).getD k true = false → S0 w') ∧ wpAnyK P md ops Q S0 k fuel (listed.setIfInBounds i true) a' w') a w
theorem AllReadyK.nil {fuel : Nat} {listed : Array Bool} {a : Act} {w : World} : AllReadyK P md ops Q S0 k fuel listed a w [] := fun _ h => by cases h
theorem AllReadyK.cons {fuel : Nat} {listed : Array Bool} {a : Act} {w : World} {i : Nat} {o : Oper} {rs : List Nat} (ho : ops[i]? = some o)
    (h : ∀ K' : Act → World → Prop, Shut (∀ a w, ((listed.setIfInBounds i true).getD k true = false → S0 w) → wpAnyK P md ops Q S0 k fuel (listed.setIfInBounds i true) a w → K' a w) → if Region.wanted o (yielded ops a.tmps) = true then Oper.wp P o a w K' Q else K' (a.put o.dst undef) w)
    (hs : AllReadyK P md ops Q S0 k fuel listed a w rs) : AllReadyK P md ops Q S0 k fuel listed a w (i :: rs) := fun j hj => by
  rcases List.mem_cons.1 hj with rfl | hj
  · exact wpOp_step ho (fun K' hK => h K' (fun a w hS hW => hK a w ⟨hS, hW⟩))
  · exact hs j hj
theorem wpAnyK_ready {rs : List Nat} {fuel : Nat} {listed : Array Bool} {a : Act} {w : World} (hr : Region.ready md ops listed = rs) (hne : rs ≠ [])
    (h : AllReadyK P md ops Q S0 k fuel listed a w rs) : wpAnyK P md ops Q S0 k (fuel + 1) listed a w :=
  ⟨fun h0 => absurd (hr ▸ h0) hne, fun i hi => h i (hr ▸ hi)⟩
theorem wpAnyK_done {listed : Array Bool} {a : Act} {w : World} (hr : Region.ready md ops listed = []) (h : Q .normal a w) :
    ∀ fuel, wpAnyK P md ops Q S0 k fuel listed a w
  | 0 => ⟨hr, h⟩
  | _ + 1 => ⟨fun _ => h, by rw [hr]; simp⟩
/-- The beginning. -/
theorem wp_regionK {id : Nat} {a : Act} {w : World} (S0 : World → Prop) (k : Nat) (hm : P.follows .mixedOrders = true)
    (h : wpAnyK P .any ops Q S0 k ops.size (Array.replicate ops.size false) a w.drew) : (Code.region id ops true).wp P Q a w :=
  wp_region_any hm (wpAny_ofK _ _ _ _ h)
end

set_option linter.unusedVariables false
set_option maxRecDepth 100000

section
variable {w : World} {g : Nat} {s : Sc} {M A : Rw} {T : Ti} {B : Tr}
/-- A part of the screen's block is written: the block is known behind it, all else is as it was. -/
def Bk (g : Nat) (w v : World) (cs : Array Value) : Prop := v.heap[g]? = some (.cells cs 49 (0, 0)) ∧ Chg [some g] w v ∧ v.heap.size = w.heap.size
theorem chg1 (w : World) (g i : Nat) (v : Value) : Chg [some g] w (w.setCell ⟨g, i, none⟩ v) := (Chg.refl [some g] w).setCell (p := ⟨g, i, none⟩) (by simp) v
theorem blk_main (h : w.heap[g]? = some (.cells (sC s M A T B) 49 (0, 0))) (W H : Int) (M' : Rw) : Bk g w (((w.setCell ⟨g, 2, none⟩ (.int .i64 W)).setCell ⟨g, 3, none⟩ (.int .i64 H)).setCell ⟨g, 4, none⟩ (rv M')) (sC { s with mW := W, mH := H } M' A T B) := by
  refine ⟨?_, ((chg1 _ _ _ _).trans (chg1 _ _ _ _)).trans (chg1 _ _ _ _), by simp⟩
  have h1 := heap_setCell_same (i := 4) (rv M') (heap_setCell_same (i := 3) (.int .i64 H) (heap_setCell_same (i := 2) (.int .i64 W) h))
  simpa only [List.setIfInBounds_toArray, List.set_cons_succ, List.set_cons_zero] using h1
theorem blk_alt (h : w.heap[g]? = some (.cells (sC s M A T B) 49 (0, 0))) (W H : Int) (M' : Rw) : Bk g w (((w.setCell ⟨g, 5, none⟩ (.int .i64 W)).setCell ⟨g, 6, none⟩ (.int .i64 H)).setCell ⟨g, 7, none⟩ (rv M')) (sC { s with aW := W, aH := H } M M' T B) := by
  refine ⟨?_, ((chg1 _ _ _ _).trans (chg1 _ _ _ _)).trans (chg1 _ _ _ _), by simp⟩
  have h1 := heap_setCell_same (i := 7) (rv M') (heap_setCell_same (i := 6) (.int .i64 H) (heap_setCell_same (i := 5) (.int .i64 W) h))
  simpa only [List.setIfInBounds_toArray, List.set_cons_succ, List.set_cons_zero] using h1
theorem blk_tabs (h : w.heap[g]? = some (.cells (sC s M A T B) 49 (0, 0))) (T' : Ti) : Bk g w (w.setCell ⟨g, 28, none⟩ (tv T')) (sC s M A T' B) := by
  refine ⟨?_, chg1 _ _ _ _, by simp⟩
  have h1 := heap_setCell_same (i := 28) (tv T') h
  simpa only [List.setIfInBounds_toArray, List.set_cons_succ, List.set_cons_zero] using h1
theorem blk_back (h : w.heap[g]? = some (.cells (sC s M A T B) 49 (0, 0))) (B' : Tr) : Bk g w (w.setCell ⟨g, 30, none⟩ (bv B')) (sC s M A T B') := by
  refine ⟨?_, chg1 _ _ _ _, by simp⟩
  have h1 := heap_setCell_same (i := 30) (bv B') h
  simpa only [List.setIfInBounds_toArray, List.set_cons_succ, List.set_cons_zero] using h1
theorem blk_x (h : w.heap[g]? = some (.cells (sC s M A T B) 49 (0, 0))) (x : Int) : Bk g w (w.setCell ⟨g, 9, none⟩ (.int .i64 x)) (sC { s with X := x } M A T B) := by
  refine ⟨?_, chg1 _ _ _ _, by simp⟩
  have h1 := heap_setCell_same (i := 9) (.int .i64 x) h
  simpa only [List.setIfInBounds_toArray, List.set_cons_succ, List.set_cons_zero] using h1
theorem blk_y (h : w.heap[g]? = some (.cells (sC s M A T B) 49 (0, 0))) (x : Int) : Bk g w (w.setCell ⟨g, 10, none⟩ (.int .i64 x)) (sC { s with Y := x } M A T B) := by
  refine ⟨?_, chg1 _ _ _ _, by simp⟩
  have h1 := heap_setCell_same (i := 10) (.int .i64 x) h
  simpa only [List.setIfInBounds_toArray, List.set_cons_succ, List.set_cons_zero] using h1
theorem blk_wrap (h : w.heap[g]? = some (.cells (sC s M A T B) 49 (0, 0))) (x : Bool) : Bk g w (w.setCell ⟨g, 11, none⟩ (.bool x)) (sC { s with wrap := x } M A T B) := by
  refine ⟨?_, chg1 _ _ _ _, by simp⟩
  have h1 := heap_setCell_same (i := 11) (.bool x) h
  simpa only [List.setIfInBounds_toArray, List.set_cons_succ, List.set_cons_zero] using h1
end
/-- Ints of one's own are answered. -/
def IclPost (w : World) (ts : List Int) (e : Ending) (w' : World) : Prop := ∃ A' c', e = .returned (.slice A' ts.length c') ∧ Oi w' w.heap.size A' c' ts ∧ Below w.heap.size w w'
theorem cloneI_any (A : Option Addr) (c : Nat) (ts : List Int) (w : World) (ha : Cs w A (ts.map I)) (hl : ts.length ≤ 1048576) :
    Calls Try.prog 143 #[.slice A ts.length c] w (IclPost w ts) := by
  rcases A with _ | ad
  · have hn : ts = [] := by
      rcases ha with h | ⟨b, o, h, _⟩
      · simpa using h
      · cases h
    subst hn
    refine (Try.slices_Clone_int_nil _ _ _).mono ?_
    rintro e w' ⟨rfl, rfl⟩
    exact ⟨none, 0, rfl, ownsG_nil _ _ _ _, Below.refl _ _⟩
  · cases ts with
    | nil =>
      refine (Try.slices_Clone_int_zero ad c w).mono ?_
      rintro e w' ⟨v, rfl, ho, _, hb⟩
      have h := ownsG_of ho
      obtain ⟨A', c', rfl⟩ := h.form
      exact ⟨A', c', rfl, h, hb⟩
    | cons t r =>
      rcases ha with h | ⟨b, o, h, hx⟩
      · simp at h
      · cases h
        refine (Try.slices_Clone_int b o (t :: r).length c (t :: r) w (Nat.le_refl _) (by omega) (fun j hj => hx j _ (by rw [List.getElem?_map, List.getElem?_eq_getElem hj, List.getD_eq_getElem?_getD, List.getElem?_eq_getElem hj]; rfl))).mono ?_
        rintro e w' ⟨v, rfl, ho, _, hb⟩
        rw [List.take_length] at ho
        have h := ownsG_of ho
        obtain ⟨A', c', rfl⟩ := h.form
        exact ⟨A', c', rfl, h, hb⟩
theorem info_int1 : (Try.prog.info? 3).map (fun i => (i.zero, i.size, i.bytes)) = some (some (.int .i64 0), 1, 8) := by kernel_rfl
theorem Oi.empty {w : World} : Oi (w.alloc (.cells #[] 3)) w.heap.size (some ⟨w.heap.size, 0, none⟩) 0 [] :=
  ⟨rfl, .inr ⟨w.heap.size, 0, #[], (0, 0), rfl, Nat.le_refl _, heap_alloc_new _ _, .inl rfl, Nat.le_refl _, by unfold maxLen; omega, rfl, rfl⟩⟩
theorem Or.empty {w : World} : Or (w.alloc (.cells #[] 99)) w.heap.size (some ⟨w.heap.size, 0, none⟩) 0 [] :=
  ⟨rfl, .inr ⟨w.heap.size, 0, #[], (0, 0), rfl, Nat.le_refl _, heap_alloc_new _ _, .inl rfl, Nat.le_refl _, by unfold maxLen; omega, rfl, rfl⟩⟩
section
variable {ops : Array Oper} {rest : List Oper} {o : Oper} {a : Act} {Q : Exit → Act → World → Prop}
/-- append(s, src...), ints onto an empty slice of the call's own. -/
theorem wp_appI (hgd : o.guard = none) (s x : Operand) (ho : o.op = .call { callee := .builtin .append, args := #[s, x], argTypes := #[46, 46] })
    (lo g c : Nat) (w : World) (A2 : Option Addr) (c2 : Nat) (zs : List Int) (ha : Oi w lo (some ⟨g, 0, none⟩) c []) (hz : Cs w A2 (zs.map I)) (n m : Nat) (hn : n = 0) (hm : m = zs.length) (hs : a.eval s = .slice (some ⟨g, 0, none⟩) n c)
    (hx : a.eval x = .slice A2 m c2) (hl2 : zs.length ≤ 1048576) (hlo : lo ≤ w.heap.size)
    (h : ∀ A' c' w', Oi w' lo A' c' zs → Below lo w w' → wpList Try.prog ops Q rest (a.put o.dst (.slice A' zs.length c')) w') :
    wpList Try.prog ops Q (o :: rest) a w := by
  obtain ⟨i0, hi, hz0, hz1, hz2⟩ := info_parts info_int1
  refine wpList_plain hgd fun K hK => ?_
  subst hn hm
  have hg : lo ≤ g := (ha.lt g (by rfl)).1
  rcases A2 with _ | ad
  · have hnil : zs = [] := by
      rcases hz with h | ⟨b, o, h, _⟩
      · simpa using h
      · cases h
    subst hnil
    have hr : (Builtin.append_ #[46, 46] o.type #[.slice (some ⟨g, 0, none⟩) 0 c, .slice none 0 c2]).run Try.prog w = .ok (.slice (some ⟨g, 0, none⟩) 0 c) w := by
      simp [Builtin.append_, run_underlying (P := Try.prog) Try.underlying46, sizeOf, typeInfo, hi, Builtin.lenOf, Builtin.firstCells, storeCells]
    unfold Oper.wp execOp
    simp only [ho, resolve, invoke, builtin, Sem.run_bind, Sem.run_pure, Result.andThen_ok, List.map_toArray, List.map_cons, List.map_nil, hs, hx, List.length_nil, hr]
    exact hK _ _ (h _ _ _ ha (Below.refl _ _))
  · have hne : ∃ b o', ad = ⟨b, o', none⟩ ∨ zs = [] := ⟨ad.block, ad.off, by
      rcases hz with h | ⟨b, o', h, _⟩
      · exact .inr (by simpa using h)
      · cases h; exact .inl rfl⟩
    obtain ⟨v', w', hr, h2, h3⟩ := run_append_ownG (P := Try.prog) w lo 46 o.type 3 i0 _ 1 8 Try.underlying46 hi hz0 hz1 hz2 rfl (by decide) _ _ _ ha ad zs.length c2 (zs.map I) (by simp)
      (fun j u hu => by
        rcases hz with h | ⟨b, o', h, hc⟩
        · rw [h] at hu; simp at hu
        · cases h
          rw [Addr.add_lit]
          exact hc j u hu) (fun u hu => by obtain ⟨x, _, rfl⟩ := List.mem_map.1 hu; rfl) (by unfold maxLen; simp; omega) (by simp; omega) hlo
    obtain ⟨A', c', rfl⟩ := h2.form
    simp only [List.length_nil] at hr
    unfold Oper.wp execOp
    simp only [ho, resolve, invoke, builtin, Sem.run_bind, Sem.run_pure, Result.andThen_ok, List.map_toArray, List.map_cons, List.map_nil, hs, hx, hr]
    refine hK _ _ ?_
    simp only [List.length_nil, Nat.zero_add, List.map_nil, List.nil_append] at h2 ⊢
    exact h A' c' w' h2 (below_of_grown h3 hlo (fun k hk => (ha.lt k hk).1))
end
theorem Ow.push {w w' : World} {lo m : Nat} {A A' : Option Addr} {es : List Rw} {e : Rw} (h : Ow w lo A es) (hc : Chg [ob A] w w') (hlt : ∀ k, some k ∈ ft es → k < m) (hA : ∀ k, ob A = some k → k < m) (he : Og w m e.1 e.2.1 e.2.2) (hlo : lo ≤ m) (hn : ∀ k, ob A' = some k → ob A = some k ∨ w.heap.size ≤ k) : Ow w' lo A' (es ++ [e]) := by
  refine ⟨fun x hx => ?_, ?_, fun x hx => ?_⟩
  · rcases List.mem_append.1 hx with hx | hx
    · exact (h.own x hx).chg hc (fun k hk hm => h.list x hx k (List.mem_singleton.1 hm).symm hk)
    · rw [List.mem_singleton.1 hx]
      exact (he.chg hc (fun k hk hm => by have := (he.ob_lt hk).1; have := hA k (List.mem_singleton.1 hm).symm; omega)).mono hlo
  · rw [List.map_append, List.pairwise_append]
    refine ⟨h.sep, List.pairwise_singleton _ _, fun a ha b hb => ?_⟩
    rw [List.map_cons, List.map_nil, List.mem_singleton] at hb
    subst hb
    intro k h1 h2
    have := hlt k (h1 ▸ ha)
    have := (he.ob_lt h2).1
    omega
  · intro k h1 h2
    rcases List.mem_append.1 hx with hx | hx
    · rcases hn k h1 with h3 | h3
      · exact h.list x hx k h3 h2
      · have := ((h.own x hx).ob_lt h2).2
        omega
    · rw [List.mem_singleton.1 hx] at h2
      have h4 := he.ob_lt h2
      rcases hn k h1 with h3 | h3
      · have := hA k h3
        omega
      · omega
section
variable {ops : Array Oper} {rest : List Oper} {o : Oper} {a : Act} {Q : Exit → Act → World → Prop}
/-- append(s, row) onto a list of rows of the call's own. -/
theorem wp_app1R (hgd : o.guard = none) (s x : Operand) (ho : o.op = .call { callee := .builtin .append, args := #[s, x], argTypes := #[47, 47] })
    (lo : Nat) (A : Option Addr) (c : Nat) (es : List Rw) (w : World) (n : Nat) (e : Rw) (ha : Or w lo A c es) (hn : n = es.length) (hs : a.eval s = .slice A n c)
    (hx : a.eval x = .slice (some ⟨w.heap.size, 0, none⟩) 1 1) (hl : es.length ≤ 1048576) (hlo : lo ≤ w.heap.size)
    (h : ∀ A' c' w', Or w' lo A' c' (es ++ [e]) → Chg [ob A] w w' → (∀ k, ob A' = some k → ob A = some k ∨ w.heap.size ≤ k) → wpList Try.prog ops Q rest (a.put o.dst (.slice A' (es ++ [e]).length c')) w') :
    wpList Try.prog ops Q (o :: rest) a (w.alloc (.cells #[rv e] 99)) := by
  obtain ⟨i0, hi, hz0, hz1, hz2⟩ := info_parts info_row
  subst hn
  refine wpList_plain hgd fun K hK => ?_
  obtain ⟨v', w', hr, h2, h3, h4⟩ := run_append_ownD (P := Try.prog) (w.alloc (.cells #[rv e] 99)) lo 47 o.type 99 i0 _ 1 24 Try.underlying47 hi hz0 hz1 hz2 rfl (by decide) _ _ _ (ownsG.alloc ha _) ⟨w.heap.size, 0, none⟩ 1 1 [rv e] rfl
    (by intro j u hu; cases j with
        | zero => simp at hu; subst hu; simp [Addr.add]
        | succ j => simp at hu) (by simp [Value.oneCell']) (by unfold maxLen; omega) (by omega) (by simp; omega)
  obtain ⟨A', c', rfl⟩ := h2.form
  unfold Oper.wp execOp
  simp only [ho, resolve, invoke, builtin, Sem.run_bind, Sem.run_pure, Result.andThen_ok, List.map_toArray, List.map_cons, List.map_nil, hs, hx, hr]
  refine hK _ _ ?_
  have hL : (es ++ [e]).length = es.length + 1 := by simp
  have hob : Or w' lo A' c' (es ++ [e]) := by
    unfold Or; rw [hL, List.map_append]; exact h2
  have hcg : Chg [ob A] w w' := ((Chg.refl _ w).alloc _).trans (Chg.of_grown h3 (fun k hk => by rw [ob_eq] at hk; simp [hk]))
  have := h A' c' w' hob hcg (fun k hk => by
    rcases h4 k (by rw [ob_eq]; exact hk) with h5 | h5
    · rw [ob_eq] at h5; exact .inl h5
    · simp at h5; exact .inr (by omega))
  rw [hL] at this
  exact this
end
theorem rcs_append (a b : List Rw) : rcs (a ++ b) = rcs a ++ rcs b := by simp [rcs]
theorem rows_pos {bs : List Rw} (h : rowsB (rcs bs) = true) {k : Nat} (hk : k < bs.length) : 0 < bs[k].2.2.length := by
  have h1 := List.all_eq_true.1 h bs[k].2.2 (List.mem_map.2 ⟨_, List.getElem_mem hk, rfl⟩)
  rw [rowB1, Bool.and_eq_true, decide_eq_true_iff] at h1
  omega
theorem rcs_step {bs es : List Rw} {k : Nat} (hk : k < bs.length) (h : rcs es = rcs (bs.take k)) (e : Rw) (he : e.2.2 = bs[k].2.2) : rcs (es ++ [e]) = rcs (bs.take (k + 1)) := by
  rw [rcs_append, h, List.take_add_one, List.getElem?_eq_getElem hk, rcs_append]
  simp [rcs, he]

set_option linter.unusedVariables false
set_option maxRecDepth 100000

set_option maxHeartbeats 4000000 in
theorem copyScr_any (s : Sc) (M A : Rw) (T : Ti) (B : Tr) (w : World) (hr : Sr w M A T B) (hz : Sz M A T B 1048576) (hq : scrB s ⟨M.2.2, A.2.2, T.2.2, rcs B.2.2⟩ = true) :
    Calls Try.prog 131 #[sV s M A T B] w (ScrOwn w s ⟨M.2.2, A.2.2, T.2.2, rcs B.2.2⟩) := by
  obtain ⟨bA, bc, bs⟩ := B
  obtain ⟨e1, e2, e3, e4, e5⟩ := scr_grids hq
  obtain ⟨f1, f2⟩ := grid_pos e1
  obtain ⟨f3, f4⟩ := grid_pos e2
  simp only at f1 f2 f3 f4 e5
  obtain ⟨l1, l2, l3, l4, l5⟩ := hz
  go_enter Try.func131, Try.ntmps131
  go_wp2_with fail
  have t0 : Below w.heap.size w (((w.alloc (.cells (sC s M A T (bA, bc, bs)) 49)).alloc (.cells zC 49)).drew) := (((Below.refl _ _).alloc (Nat.le_refl _) _).alloc (by simp) _).drew
  have b0 : (((w.alloc (.cells (sC s M A T (bA, bc, bs)) 49)).alloc (.cells zC 49)).drew).heap[w.heap.size]? = some (.cells (sC s M A T (bA, bc, bs)) 49 (0, 0)) := heap_alloc_of _ (heap_alloc_new _ _)
  have z0 : (((w.alloc (.cells (sC s M A T (bA, bc, bs)) 49)).alloc (.cells zC 49)).drew).heap[w.heap.size + 1]? = some (.cells zC 49 (0, 0)) := heap_alloc_at _ (by simp)
  refine wp_regionK (fun w' => w'.heap[w.heap.size]? = some (.cells (sC s M A T (bA, bc, bs)) 49 (0, 0))) 10 (by kernel_rfl) ?_
  refine wpAnyK_free (i := 0) (v := .pointer (some ⟨w.heap.size, 2, none⟩)) rfl (by kernel_rfl) (by kernel_rfl) (by kernel_rfl) (fun _ _ _ h => h) (by decide) (Or.inl ⟨by rfl, (by intro w' _; go_simp; try rfl)⟩) (fun _ => b0) ?_
  try simp only [Act.put, List.getElem_toArray, List.getElem_cons_zero, List.setIfInBounds_toArray, List.set_cons_zero, List.set_cons_succ]
  refine wpAnyK_take (i := 1) (v := gV s.mW s.mH M.1 M.2.2.length M.2.1) rfl (by kernel_rfl) (by kernel_rfl) (by kernel_rfl) (fun _ _ _ h => h) (by kernel_rfl) (by kernel_rfl) (by decide) (Or.inl ⟨by rfl, (by intro w' hSw; have q : ∀ i, w'.cell? ⟨w.heap.size, i, none⟩ = _ := fun i => cell_of_row w' _ i _ _ (0, 0) hSw; go_simp; try first | rfl | simp [q])⟩) (b0) ?_
  try simp only [Act.put, List.getElem_toArray, List.getElem_cons_succ, List.getElem_cons_zero, List.setIfInBounds_toArray, List.set_cons_zero, List.set_cons_succ]
  refine wpAnyK_free (i := 3) (v := .pointer (some ⟨w.heap.size, 5, none⟩)) rfl (by kernel_rfl) (by kernel_rfl) (by kernel_rfl) (fun _ _ _ h => h) (by decide) (Or.inl ⟨by rfl, (by intro w' _; go_simp; try rfl)⟩) (fun _ => b0) ?_
  try simp only [Act.put, List.getElem_toArray, List.getElem_cons_succ, List.getElem_cons_zero, List.setIfInBounds_toArray, List.set_cons_zero, List.set_cons_succ]
  refine wpAnyK_take (i := 4) (v := gV s.aW s.aH A.1 A.2.2.length A.2.1) rfl (by kernel_rfl) (by kernel_rfl) (by kernel_rfl) (fun _ _ _ h => h) (by kernel_rfl) (by kernel_rfl) (by decide) (Or.inl ⟨by rfl, (by intro w' hSw; have q : ∀ i, w'.cell? ⟨w.heap.size, i, none⟩ = _ := fun i => cell_of_row w' _ i _ _ (0, 0) hSw; go_simp; try first | rfl | simp [q])⟩) (b0) ?_
  try simp only [Act.put, List.getElem_toArray, List.getElem_cons_succ, List.getElem_cons_zero, List.setIfInBounds_toArray, List.set_cons_zero, List.set_cons_succ]
  refine wpAnyK_free (i := 6) (v := .pointer (some ⟨w.heap.size, 28, none⟩)) rfl (by kernel_rfl) (by kernel_rfl) (by kernel_rfl) (fun _ _ _ h => h) (by decide) (Or.inl ⟨by rfl, (by intro w' _; go_simp; try rfl)⟩) (fun _ => b0) ?_
  try simp only [Act.put, List.getElem_toArray, List.getElem_cons_succ, List.getElem_cons_zero, List.setIfInBounds_toArray, List.set_cons_zero, List.set_cons_succ]
  refine wpAnyK_take (i := 7) (v := .slice T.1 T.2.2.length T.2.1) rfl (by kernel_rfl) (by kernel_rfl) (by kernel_rfl) (fun _ _ _ h => h) (by kernel_rfl) (by kernel_rfl) (by decide) (Or.inl ⟨by rfl, (by intro w' hSw; have q : ∀ i, w'.cell? ⟨w.heap.size, i, none⟩ = _ := fun i => cell_of_row w' _ i _ _ (0, 0) hSw; go_simp; try first | rfl | simp [q])⟩) (b0) ?_
  try simp only [Act.put, List.getElem_toArray, List.getElem_cons_succ, List.getElem_cons_zero, List.setIfInBounds_toArray, List.set_cons_zero, List.set_cons_succ]
  refine wpAnyK_ready (rs := [2]) (by kernel_rfl) (by simp) ?_
  refine AllReadyK.cons rfl (fun K hK => ?_) AllReadyK.nil
  go_simp
  refine (copyGrid_any s.mW s.mH M.1 M.2.1 M.2.2 _ (hr.gm.below t0) f1 (by omega)).mono ?_
  rintro e w1 ⟨M1, m1, rfl, om1, gm1, im1, hb1⟩
  have b1 := (hb1.block _ (Array.getElem?_eq_some_iff.1 b0).1).trans b0
  have z1 := (hb1.block _ (Array.getElem?_eq_some_iff.1 z0).1).trans z0
  have t1 := t0.trans (hb1.mono t0.size)
  refine hK.out _ _ (fun _ => b1) ?_
  clear hK K
  try simp only [Act.put, List.getElem_toArray, List.getElem_cons_succ, List.getElem_cons_zero, List.setIfInBounds_toArray, List.set_cons_zero, List.set_cons_succ]
  refine wpAnyK_free (i := 9) (v := .pointer (some ⟨w.heap.size, 2, none⟩)) rfl (by kernel_rfl) (by kernel_rfl) (by kernel_rfl) (fun _ _ _ h => h) (by decide) (Or.inl ⟨by rfl, (by intro w' _; go_simp; try rfl)⟩) (fun _ => b1) ?_
  try simp only [Act.put, List.getElem_toArray, List.getElem_cons_succ, List.getElem_cons_zero, List.setIfInBounds_toArray, List.set_cons_zero, List.set_cons_succ]
  refine wpAnyK_ready (rs := [5]) (by kernel_rfl) (by simp) ?_
  refine AllReadyK.cons rfl (fun K hK => ?_) AllReadyK.nil
  go_simp
  refine (copyGrid_any s.aW s.aH A.1 A.2.1 A.2.2 _ (hr.ga.below t1) f3 (by omega)).mono ?_
  rintro e w2 ⟨A1, a1, rfl, oa2, ga2, ia2, hb2⟩
  have b2 := (hb2.block _ (Array.getElem?_eq_some_iff.1 b1).1).trans b1
  have z2 := (hb2.block _ (Array.getElem?_eq_some_iff.1 z1).1).trans z1
  have t2 := t1.trans (hb2.mono t1.size)
  refine hK.out _ _ (fun _ => b2) ?_
  clear hK K
  try simp only [Act.put, List.getElem_toArray, List.getElem_cons_succ, List.getElem_cons_zero, List.setIfInBounds_toArray, List.set_cons_zero, List.set_cons_succ]
  refine wpAnyK_ready (rs := [8]) (by kernel_rfl) (by simp) ?_
  refine AllReadyK.cons rfl (fun K hK => ?_) AllReadyK.nil
  go_simp
  refine (cloneI_any T.1 T.2.1 T.2.2 _ (hr.gt.below t2) l3).mono ?_
  rintro e w3 ⟨T1, c1, rfl, ot3, hb3⟩
  have b3 := (hb3.block _ (Array.getElem?_eq_some_iff.1 b2).1).trans b2
  have z3 := (hb3.block _ (Array.getElem?_eq_some_iff.1 z2).1).trans z2
  have t3 := t2.trans (hb3.mono t2.size)
  refine hK.out _ _ (fun _ => b3) ?_
  clear hK K b0 b1 b2 z0 z1 z2
  have x1 := hb1.size
  have x2 := hb2.size
  have x3 := hb3.size
  have x0 := t0.size
  have q3 : ∀ i, w3.cell? ⟨w.heap.size, i, none⟩ = _ := fun i => cell_of_row w3 _ i _ _ (0, 0) b3
  have r3 : ∀ i, w3.frozen? ⟨w.heap.size, i, none⟩ = false := fun i => by simp [World.frozen?, b3]
  try simp only [Act.put, List.getElem_toArray, List.getElem_cons_succ, List.getElem_cons_zero, List.setIfInBounds_toArray, List.set_cons_zero, List.set_cons_succ]
  refine wpAnyK_ready (rs := [10]) (by kernel_rfl) (by simp) ?_
  refine AllReadyK.cons rfl (fun K hK => ?_) AllReadyK.nil
  go_simp
  obtain ⟨v4, hv4⟩ : ∃ v, v = (((w3.setCell ⟨w.heap.size, 2, none⟩ (.int .i64 s.mW)).setCell ⟨w.heap.size, 3, none⟩ (.int .i64 s.mH)).setCell ⟨w.heap.size, 4, none⟩ (.slice M1 M.2.2.length m1)) := ⟨_, rfl⟩
  rw [← hv4]
  have k4 : Bk w.heap.size w3 v4 (sC s (M1, m1, M.2.2) A T (bA, bc, bs)) := by rw [hv4]; exact blk_main b3 s.mW s.mH (M1, m1, M.2.2)
  refine hK.out _ _ (late (by kernel_rfl)) ?_
  clear hK K hv4 q3 r3
  try simp only [Act.put, List.getElem_toArray, List.getElem_cons_succ, List.getElem_cons_zero, List.setIfInBounds_toArray, List.set_cons_zero, List.set_cons_succ]
  have b4 := k4.1
  have q4 : ∀ i, v4.cell? ⟨w.heap.size, i, none⟩ = _ := fun i => cell_of_row v4 _ i _ _ (0, 0) b4
  have r4 : ∀ i, v4.frozen? ⟨w.heap.size, i, none⟩ = false := fun i => by simp [World.frozen?, b4]
  refine wpAnyK_free (i := 11) (v := .pointer (some ⟨w.heap.size, 5, none⟩)) rfl (by kernel_rfl) (by kernel_rfl) (by kernel_rfl) (fun _ _ _ h => h) (by decide) (Or.inl ⟨by rfl, (by intro w' _; go_simp; try rfl)⟩) (late (by kernel_rfl)) ?_
  try simp only [Act.put, List.getElem_toArray, List.getElem_cons_succ, List.getElem_cons_zero, List.setIfInBounds_toArray, List.set_cons_zero, List.set_cons_succ]
  refine wpAnyK_ready (rs := [12]) (by kernel_rfl) (by simp) ?_
  refine AllReadyK.cons rfl (fun K hK => ?_) AllReadyK.nil
  go_simp
  obtain ⟨v5, hv5⟩ : ∃ v, v = (((v4.setCell ⟨w.heap.size, 5, none⟩ (.int .i64 s.aW)).setCell ⟨w.heap.size, 6, none⟩ (.int .i64 s.aH)).setCell ⟨w.heap.size, 7, none⟩ (.slice A1 A.2.2.length a1)) := ⟨_, rfl⟩
  rw [← hv5]
  have k5 : Bk w.heap.size v4 v5 (sC s (M1, m1, M.2.2) (A1, a1, A.2.2) T (bA, bc, bs)) := by rw [hv5]; exact blk_alt b4 s.aW s.aH (A1, a1, A.2.2)
  refine hK.out _ _ (late (by kernel_rfl)) ?_
  clear hK K hv5 q4 r4
  try simp only [Act.put, List.getElem_toArray, List.getElem_cons_succ, List.getElem_cons_zero, List.setIfInBounds_toArray, List.set_cons_zero, List.set_cons_succ]
  have b5 := k5.1
  have q5 : ∀ i, v5.cell? ⟨w.heap.size, i, none⟩ = _ := fun i => cell_of_row v5 _ i _ _ (0, 0) b5
  have r5 : ∀ i, v5.frozen? ⟨w.heap.size, i, none⟩ = false := fun i => by simp [World.frozen?, b5]
  refine wpAnyK_free (i := 13) (v := .pointer (some ⟨w.heap.size, 28, none⟩)) rfl (by kernel_rfl) (by kernel_rfl) (by kernel_rfl) (fun _ _ _ h => h) (by decide) (Or.inl ⟨by rfl, (by intro w' _; go_simp; try rfl)⟩) (late (by kernel_rfl)) ?_
  try simp only [Act.put, List.getElem_toArray, List.getElem_cons_succ, List.getElem_cons_zero, List.setIfInBounds_toArray, List.set_cons_zero, List.set_cons_succ]
  refine wpAnyK_ready (rs := [14]) (by kernel_rfl) (by simp) ?_
  refine AllReadyK.cons rfl (fun K hK => ?_) AllReadyK.nil
  go_simp
  obtain ⟨v6, hv6⟩ : ∃ v, v = (v5.setCell ⟨w.heap.size, 28, none⟩ (.slice T1 T.2.2.length c1)) := ⟨_, rfl⟩
  rw [← hv6]
  have k6 : Bk w.heap.size v5 v6 (sC s (M1, m1, M.2.2) (A1, a1, A.2.2) (T1, c1, T.2.2) (bA, bc, bs)) := by rw [hv6]; exact blk_tabs b5 (T1, c1, T.2.2)
  refine hK.out _ _ (late (by kernel_rfl)) ?_
  clear hK K hv6 q5 r5
  try simp only [Act.put, List.getElem_toArray, List.getElem_cons_succ, List.getElem_cons_zero, List.setIfInBounds_toArray, List.set_cons_zero, List.set_cons_succ]
  have b6 := k6.1
  have q6 : ∀ i, v6.cell? ⟨w.heap.size, i, none⟩ = _ := fun i => cell_of_row v6 _ i _ _ (0, 0) b6
  have r6 : ∀ i, v6.frozen? ⟨w.heap.size, i, none⟩ = false := fun i => by simp [World.frozen?, b6]
  refine wpAnyK_done (by kernel_rfl) ?_ _
  have k46 : Chg [some w.heap.size] w3 v6 := k4.2.1.trans (k5.2.1.trans k6.2.1)
  have s46 : v6.heap.size = w3.heap.size := by rw [k6.2.2, k5.2.2, k4.2.2]
  have y6 := (keep_chg k46 z3 (by simp)).1
  have zz6 : w.heap.size < v6.heap.size := (Array.getElem?_eq_some_iff.1 b6).1
  have t6 : Below w.heap.size w v6 := t3.trans (k46.below (fun k hk => by simp at hk; omega) (by omega))
  have S46 := Lib.hid s46
  have K46 := Lib.hid k46
  have HB6 := Lib.hid b6
  have HY6 := Lib.hid y6
  clear b3 b4 b5 b6 y6 k4 k5 k6 z3 s46 k46
  dsimp only [sC, tv, bv, rv] at q6
  dsimp only [gV]
  go_wp2_with fail
  have O6 : Or (v6.alloc (.cells #[] 99)) v6.heap.size (some ⟨v6.heap.size, 0, none⟩) 0 [] := Or.empty
  have u6 : Below v6.heap.size v6 (v6.alloc (.cells #[] 99)) := (Below.refl _ _).alloc (Nat.le_refl _) _
  clear q6 r6
  go_loopw [3, 22] (fun bk i wr => ∃ (k : Nat) (A' : Option Addr) (c' : Nat) (es : List Rw), k ≤ bs.length ∧ i = .int .i64 k ∧ bk = .slice A' es.length c' ∧ Hid (es.length = k) ∧ Hid (rcs es = rcs (bs.take k)) ∧ Or wr v6.heap.size A' c' es ∧ Ow wr v6.heap.size A' es ∧ Below v6.heap.size v6 wr) (fun _ i _ => bs.length - (intOf i).toNat)
  case atStart => exact ⟨0, _, _, [], Nat.zero_le _, rfl, rfl, rfl, rfl, O6, Ow.nil _ _ _, u6⟩
  case round =>
    obtain ⟨k, A', c', es, hk, rfl, rfl, hel, hec, oR, wR, hb⟩ := hrel
    have zb := hb.size
    have t7 := t6.trans (hb.mono t6.size)
    by_cases hlt : k < bs.length
    · obtain ⟨b, o, rfl, hx, hy⟩ := (hr.gb.below t7).get hlt
      have hlt' : (k : Int) < bs.length := by omega
      have hm1 := l5 _ (List.getElem_mem hlt)
      have hm0 := rows_pos e5 hlt
      obtain ⟨⟨rA, rc, rs⟩, hre⟩ : ∃ r, Hid (r = bs[k]) := ⟨_, Lib.hid rfl⟩
      rw [← hre.out] at hx hy hm1 hm0
      simp only at hy hm1 hm0
      have hel' : es.length ≤ 1048576 := by have := hel.out; omega
      have hbA : Below wr.heap.size wr (wr.alloc (.cells #[.slice rA rs.length rc] 99)) := (Below.refl _ _).alloc (Nat.le_refl _) _
      have hy' : Gs (wr.alloc (.cells #[.slice rA rs.length rc] 99)) rA rs := hy.below hbA
      go_wp2_with (first | (go_at_call 121; refine (clone_any rA rc rs _ hy' hm0 hm1).mono ?_; rintro e w8 ⟨A8, c8, rfl, o8, g8, i8, hb8⟩; have hb8' : Below wr.heap.size wr w8 := hbA.trans (hb8.mono hbA.size); have oR8 : Or w8 v6.heap.size A' c' es := ownsG.below oR hb8' (fun k hk => (oR.ob_lt (by rw [ob_eq] at hk; exact hk)).2); have wR8 := wR.below hb8') | (at_builtin; refine wp_app1R rfl _ _ rfl v6.heap.size A' c' es w8 _ (A8, c8, rs) oR8 rfl rfl rfl hel' (by have := hb8'.size; omega) ?_; intro A9 c9 w9 o9 k9 n9))
      have z8 := hb8'.size
      go_roundw
      case rel =>
        refine ⟨k + 1, A9, c9, es ++ [(A8, c8, rs)], by omega, by go_num, by rw [List.length_append]; rfl, by show _ = _; rw [List.length_append, hel.out]; rfl, rcs_step hlt hec.out _ (by rw [← hre.out]), o9, wR8.push k9 (m := wr.heap.size + 1) (fun k hk => by have := (wR.lt hk).2; omega) (fun k hk => by have := (oR.ob_lt hk).2; omega) (by simpa using o8) (by omega) n9, ?_⟩
        exact hb.trans ((hb8'.mono zb).trans (k9.below (fun k hk => by have := (oR.ob_lt (List.mem_singleton.1 hk).symm).1; omega) (by omega)))
      case measure => simp [intOf]; omega
    · have hlt' : ¬ (k : Int) < bs.length := by omega
      have hk' : k = bs.length := by omega
      subst hk'
      rw [List.take_length] at hec
      have bw := (hb.block _ zz6).trans HB6.out
      have yw := (hb.block _ (Array.getElem?_eq_some_iff.1 HY6.out).1).trans HY6.out
      have zw := (Array.getElem?_eq_some_iff.1 yw).1
      have qw : ∀ i, wr.cell? ⟨w.heap.size, i, none⟩ = _ := fun i => cell_of_row wr _ i _ _ (0, 0) bw
      have rw_ : ∀ i, wr.frozen? ⟨w.heap.size, i, none⟩ = false := fun i => by simp [World.frozen?, bw]
      have HO : Hid ((wr.setCell ⟨w.heap.size, 30, none⟩ (.slice A' es.length c')).heap[w.heap.size]? = some (.cells (sC s (M1, m1, M.2.2) (A1, a1, A.2.2) (T1, c1, T.2.2) (A', c', es)) 49 (0, 0))) := (blk_back bw (A', c', es)).1
      have HZ : Hid ((wr.setCell ⟨w.heap.size, 30, none⟩ (.slice A' es.length c')).heap[w.heap.size + 1]? = some (.cells zC 49 (0, 0))) := heap_setCell_of _ (by first | omega | (simp; done) | (simp; omega)) yw
      have zw' : w.heap.size < wr.heap.size := by omega
      clear bw yw
      go_wp2_with (first | (refine wpList_load_row rfl 49 _ rfl (w.heap.size) rfl 49 (sC s (M1, m1, M.2.2) (A1, a1, A.2.2) (T1, c1, T.2.2) (A', c', es)) (0, 0) _ HO.out Try.underlying49 rfl size_scr ?_) | (refine wp_store_blk rfl 49 _ _ rfl (w.heap.size + 1) (sC s (M1, m1, M.2.2) (A1, a1, A.2.2) (T1, c1, T.2.2) (A', c', es)) rfl rfl 49 zC HZ.out size_scr rfl (sC_one _ _ _ _ _) ?_; intro w7 B7 C7 z7))
      refine bodyPost_ret (results_cell_row Try.results131 _ _ (w.heap.size + 1) 49 (sC s (M1, m1, M.2.2) (A1, a1, A.2.2) (T1, c1, T.2.2) (A', c', es)) (0, 0) _ rfl B7 Try.underlying49 rfl size_scr) rfl ?_
      have F0 : ∀ k, w.heap.size + 2 ≤ k → some k ∉ [some w.heap.size, some (w.heap.size + 1)] := fun k hk hm => by
        simp at hm
        omega
      have c8 : Chg [some w.heap.size, some (w.heap.size + 1)] wr w7 := ((chg1 wr w.heap.size 30 (.slice A' es.length c')).mono (fun k hk => by simp at hk ⊢; omega)).trans (C7.mono (fun k hk => by simp at hk ⊢; omega))
      have cv6 := (Chg.of_below _ hb).trans c8
      have cv3 := (K46.out.mono (F' := [some w.heap.size, some (w.heap.size + 1)]) (fun k hk => by simp at hk ⊢; omega)).trans cv6
      have cv2 := (Chg.of_below _ hb3).trans cv3
      have cv1 := (Chg.of_below _ hb2).trans cv2
      have s46 := S46.out
      simp only [World.size_alloc, World.size_drew] at x1 om1
      have om : Og w7 w.heap.size M1 m1 M.2.2 := (om1.chg cv1 fun k hk => F0 k (by have := (om1.ob_lt hk).1; omega)).mono (by omega)
      have oa : Og w7 w.heap.size A1 a1 A.2.2 := (oa2.chg cv2 fun k hk => F0 k (by have := (oa2.ob_lt hk).1; omega)).mono (by omega)
      have ot : Oi w7 w.heap.size T1 c1 T.2.2 := (ot3.chg cv3 fun k hk => F0 k (by have := (ot3.ob_lt hk).1; omega)).mono (by omega)
      have ol : Or w7 w.heap.size A' c' es := (oR.chg c8 fun k hk => F0 k (by have := (oR.ob_lt hk).1; omega)).mono (by omega)
      have ow : Ow w7 w.heap.size A' es := (wR.chg c8 fun k hk => F0 k (by have := (wR.lt hk).1; omega)).mono (by omega)
      refine ⟨(M1, m1, M.2.2), (A1, a1, A.2.2), (T1, c1, T.2.2), (A', c', es), rfl, ⟨rfl, rfl, rfl, hec.out⟩, So.of_order (n1 := w1.heap.size) (n2 := w2.heap.size) (n3 := w3.heap.size) om oa ot ol ow (fun k hk => (om1.ob_lt hk).2) (fun k hk => ⟨by have := (oa2.ob_lt hk).1; omega, (oa2.ob_lt hk).2⟩) (fun k hk => ⟨by have := (ot3.ob_lt hk).1; omega, (ot3.ob_lt hk).2⟩) (fun k hk => ?_) (by omega) (by omega), ?_⟩
      · rcases List.mem_cons.1 hk with hk | hk
        · have := (oR.ob_lt hk.symm).1; omega
        · have := (wR.lt hk).1; omega
      · exact t7.trans (c8.below (fun k hk => by simp at hk; omega) (by omega))

set_option linter.unusedVariables false
set_option maxRecDepth 100000

theorem Oi_empty {w : World} {g : Nat} (h : g = w.heap.size) : Oi (w.alloc (.cells #[] 3)) g (some ⟨g, 0, none⟩) 0 [] := by subst h; exact Oi.empty
theorem Or_empty {w : World} {g : Nat} (h : g = w.heap.size) : Or (w.alloc (.cells #[] 99)) g (some ⟨g, 0, none⟩) 0 [] := by subst h; exact Or.empty
theorem Og_empty {w : World} {g : Nat} (h : g = w.heap.size) : Og (w.alloc (.cells #[] 44)) g (some ⟨g, 0, none⟩) 0 [] := by subst h; exact Og.empty
set_option maxHeartbeats 4000000 in
theorem l09Copy_any (s : Sc) (M A : Rw) (T : Ti) (B : Tr) (w : World) (hr : Sr w M A T B) (hz : Sz M A T B 1048576) (hq : scrB s ⟨M.2.2, A.2.2, T.2.2, rcs B.2.2⟩ = true) :
    Calls Try.prog 95 #[sV s M A T B] w (ScrOwn w s ⟨M.2.2, A.2.2, T.2.2, rcs B.2.2⟩) := by
  obtain ⟨bA, bc, bs⟩ := B
  obtain ⟨e1, e2, e3, e4, e5⟩ := scr_grids hq
  obtain ⟨f1, f2⟩ := grid_pos e1
  obtain ⟨f3, f4⟩ := grid_pos e2
  simp only at f1 f2 f3 f4 e5
  obtain ⟨l1, l2, l3, l4, l5⟩ := hz
  go_enter Try.func95, Try.ntmps95
  go_wp2_with fail
  have t0 : Below w.heap.size w ((w.alloc (.cells (sC s M A T (bA, bc, bs)) 49)).alloc (.cells zC 49)) := (((Below.refl _ _).alloc (Nat.le_refl _) _).alloc (by simp) _)
  have b0 : ((w.alloc (.cells (sC s M A T (bA, bc, bs)) 49)).alloc (.cells zC 49)).heap[w.heap.size]? = some (.cells (sC s M A T (bA, bc, bs)) 49 (0, 0)) := heap_alloc_of _ (heap_alloc_new _ _)
  have z0 : ((w.alloc (.cells (sC s M A T (bA, bc, bs)) 49)).alloc (.cells zC 49)).heap[w.heap.size + 1]? = some (.cells zC 49 (0, 0)) := heap_alloc_at _ (by simp)
  refine (l07Copy_any s.mW s.mH M.1 M.2.1 M.2.2 _ (hr.gm.below t0) f1 (by omega)).mono ?_
  rintro e w1 ⟨M1, m1, rfl, om1, gm1, im1, hb1⟩
  have b1 := (hb1.block _ (Array.getElem?_eq_some_iff.1 b0).1).trans b0
  have z1 := (hb1.block _ (Array.getElem?_eq_some_iff.1 z0).1).trans z0
  have t1 := t0.trans (hb1.mono t0.size)
  have x1 := hb1.size
  have x0 := t0.size
  have q1 : ∀ i, w1.cell? ⟨w.heap.size, i, none⟩ = _ := fun i => cell_of_row w1 _ i _ _ (0, 0) b1
  dsimp only [sC, tv, bv, rv] at q1
  have r1 : ∀ i, w1.frozen? ⟨w.heap.size, i, none⟩ = false := fun i => by simp [World.frozen?, b1]
  clear b0 z0
  have zz1 : w.heap.size < w1.heap.size := (Array.getElem?_eq_some_iff.1 b1).1
  go_wp2_with fail
  obtain ⟨v1, hv1⟩ : ∃ v, v = (((w1.setCell ⟨w.heap.size, 2, none⟩ (.int .i64 s.mW)).setCell ⟨w.heap.size, 3, none⟩ (.int .i64 s.mH)).setCell ⟨w.heap.size, 4, none⟩ (.slice M1 M.2.2.length m1)) := ⟨_, rfl⟩
  rw [← hv1]
  have k1 : Bk w.heap.size w1 v1 (sC s (M1, m1, M.2.2) A T (bA, bc, bs)) := by rw [hv1]; exact blk_main b1 s.mW s.mH (M1, m1, M.2.2)
  have tv1 : Below w.heap.size w v1 := t1.trans (k1.2.1.below (fun k hk => by simp at hk; omega) (by omega))
  have bv1 := k1.1
  have zv1 := (keep_chg k1.2.1 z1 (by simp)).1
  have kc1 := Lib.hid k1.2.1
  have ks1 := Lib.hid k1.2.2
  clear hv1 k1 q1 r1 b1 z1
  refine (l07Copy_any s.aW s.aH A.1 A.2.1 A.2.2 _ (hr.ga.below tv1) f3 (by omega)).mono ?_
  rintro e w2 ⟨A1, a1, rfl, oa2, ga2, ia2, hb2⟩
  have b2 := (hb2.block _ (Array.getElem?_eq_some_iff.1 bv1).1).trans bv1
  have z2 := (hb2.block _ (Array.getElem?_eq_some_iff.1 zv1).1).trans zv1
  have t2 := tv1.trans (hb2.mono tv1.size)
  have x2 := hb2.size
  rw [ks1.out] at x2
  have q2 : ∀ i, w2.cell? ⟨w.heap.size, i, none⟩ = _ := fun i => cell_of_row w2 _ i _ _ (0, 0) b2
  dsimp only [sC, tv, bv, rv] at q2
  have r2 : ∀ i, w2.frozen? ⟨w.heap.size, i, none⟩ = false := fun i => by simp [World.frozen?, b2]
  clear bv1 zv1
  have zz2 : w.heap.size < w2.heap.size := (Array.getElem?_eq_some_iff.1 b2).1
  have k2 : Bk w.heap.size w2 (((w2.setCell ⟨w.heap.size, 5, none⟩ (.int .i64 s.aW)).setCell ⟨w.heap.size, 6, none⟩ (.int .i64 s.aH)).setCell ⟨w.heap.size, 7, none⟩ (.slice A1 A.2.2.length a1)) (sC s (M1, m1, M.2.2) (A1, a1, A.2.2) T (bA, bc, bs)) := blk_alt b2 s.aW s.aH (A1, a1, A.2.2)
  have K2 := Lib.hid k2
  have zv2 := (keep_chg k2.2.1 z2 (by simp)).1
  have ZV2 := Lib.hid zv2
  have tv2 : Below w.heap.size w (((w2.setCell ⟨w.heap.size, 5, none⟩ (.int .i64 s.aW)).setCell ⟨w.heap.size, 6, none⟩ (.int .i64 s.aH)).setCell ⟨w.heap.size, 7, none⟩ (.slice A1 A.2.2.length a1)) := t2.trans (k2.2.1.below (fun k hk => by simp at hk; omega) (by omega))
  have tw2 : Below w.heap.size w ((((w2.setCell ⟨w.heap.size, 5, none⟩ (.int .i64 s.aW)).setCell ⟨w.heap.size, 6, none⟩ (.int .i64 s.aH)).setCell ⟨w.heap.size, 7, none⟩ (.slice A1 A.2.2.length a1)).alloc (.cells #[] 3)) := tv2.alloc (by simp; omega) _
  have TW2 := Lib.hid tw2
  have h2 := Lib.hid (hr.gt.below tw2)
  have OI : Hid (Oi ((((w2.setCell ⟨w.heap.size, 5, none⟩ (.int .i64 s.aW)).setCell ⟨w.heap.size, 6, none⟩ (.int .i64 s.aH)).setCell ⟨w.heap.size, 7, none⟩ (.slice A1 A.2.2.length a1)).alloc (.cells #[] 3)) w2.heap.size (some ⟨w2.heap.size, 0, none⟩) 0 []) := Oi_empty (by simp)
  clear k2 zv2 tv2 tw2
  go_wp2_with (at_builtin; refine wp_appI rfl _ _ rfl w2.heap.size w2.heap.size 0 ((((w2.setCell ⟨w.heap.size, 5, none⟩ (.int .i64 s.aW)).setCell ⟨w.heap.size, 6, none⟩ (.int .i64 s.aH)).setCell ⟨w.heap.size, 7, none⟩ (.slice A1 A.2.2.length a1)).alloc (.cells #[] 3)) T.1 T.2.1 T.2.2 OI.out h2.out _ _ rfl rfl rfl rfl l3 (by simp) ?_; intro T1 c1 w3 ot3 hb3; have b3 := (hb3.block _ zz2).trans (heap_alloc_of _ K2.out.1); have z3 := (hb3.block _ (Array.getElem?_eq_some_iff.1 z2).1).trans (heap_alloc_of _ ZV2.out); have q3 : ∀ i, w3.cell? ⟨w.heap.size, i, none⟩ = _ := (fun i => cell_of_row w3 _ i _ _ (0, 0) b3); dsimp only [sC, tv, bv, rv] at q3; have r3 : ∀ i, w3.frozen? ⟨w.heap.size, i, none⟩ = false := (fun i => by simp [World.frozen?, b3]); have zz3 : w.heap.size < w3.heap.size := (Array.getElem?_eq_some_iff.1 b3).1)
  obtain ⟨v6, hv6⟩ : ∃ v, v = (w3.setCell ⟨w.heap.size, 28, none⟩ (.slice T1 T.2.2.length c1)) := ⟨_, rfl⟩
  rw [← hv6]
  have k6 : Bk w.heap.size w3 v6 (sC s (M1, m1, M.2.2) (A1, a1, A.2.2) (T1, c1, T.2.2) (bA, bc, bs)) := by rw [hv6]; exact blk_tabs b3 (T1, c1, T.2.2)
  have x3 := hb3.size
  simp only [World.size_alloc, World.size_setCell] at x3
  have t3 : Below w.heap.size w w3 := TW2.out.trans (hb3.mono (by omega))
  have y6 := (keep_chg k6.2.1 z3 (by simp)).1
  have t6 : Below w.heap.size w v6 := t3.trans (k6.2.1.below (fun k hk => by simp at hk; omega) (by omega))
  have HB6 := Lib.hid k6.1
  have HY6 := Lib.hid y6
  have K46 := Lib.hid k6.2.1
  have S46 := Lib.hid k6.2.2
  have zz6 : w.heap.size < v6.heap.size := by rw [k6.2.2]; exact zz3
  clear hv6 b3 z3 q3 r3 y6 k6 q2 r2 b2 z2 OI h2
  have O6 : Or (v6.alloc (.cells #[] 99)) w3.heap.size (some ⟨w3.heap.size, 0, none⟩) 0 [] := Or_empty S46.out.symm
  have u6 : Below v6.heap.size v6 (v6.alloc (.cells #[] 99)) := (Below.refl _ _).alloc (Nat.le_refl _) _
  go_loopw [3, 23] (fun bk i wr => ∃ (k : Nat) (A' : Option Addr) (c' : Nat) (es : List Rw), k ≤ bs.length ∧ i = .int .i64 k ∧ bk = .slice A' es.length c' ∧ Hid (es.length = k) ∧ Hid (rcs es = rcs (bs.take k)) ∧ Or wr w3.heap.size A' c' es ∧ Ow wr w3.heap.size A' es ∧ Below v6.heap.size v6 wr) (fun _ i _ => bs.length - (intOf i).toNat)
  case atStart => exact ⟨0, _, _, [], Nat.zero_le _, rfl, rfl, rfl, rfl, O6, Ow.nil _ _ _, u6⟩
  case round =>
    obtain ⟨k, A', c', es, hk, rfl, rfl, hel, hec, oR, wR, hb⟩ := hrel
    have zb := hb.size
    have t7 := t6.trans (hb.mono t6.size)
    by_cases hlt : k < bs.length
    · obtain ⟨b, o, rfl, hx, hy⟩ := (hr.gb.below t7).get hlt
      have hlt' : (k : Int) < bs.length := by omega
      have hm1 := l5 _ (List.getElem_mem hlt)
      have hm0 := rows_pos e5 hlt
      obtain ⟨⟨rA, rc, rs⟩, hre⟩ : ∃ r, Hid (r = bs[k]) := ⟨_, Lib.hid rfl⟩
      rw [← hre.out] at hx hy hm1 hm0
      simp only at hy hm1 hm0
      have hel' : es.length ≤ 1048576 := by have := hel.out; omega
      have hbA : Below wr.heap.size wr ((wr.alloc (.cells #[.slice rA rs.length rc] 99)).alloc (.cells #[] 44)) := ((Below.refl _ _).alloc (Nat.le_refl _) _).alloc (by simp) _
      have hy' : Gs ((wr.alloc (.cells #[.slice rA rs.length rc] 99)).alloc (.cells #[] 44)) rA rs := hy.below hbA
      have O8 : Og ((wr.alloc (.cells #[.slice rA rs.length rc] 99)).alloc (.cells #[] 44)) (wr.heap.size + 1) (some ⟨wr.heap.size + 1, 0, none⟩) 0 [] := Og_empty (by simp)
      go_wp2_with (first | (at_builtin; refine wp_appG rfl _ _ rfl (wr.heap.size + 1) _ _ [] _ _ _ rs O8 hy' hm0 _ _ rfl rfl rfl rfl (by simp) hm1 (by simp) ?_; intro A8 c8 w8 u8 hu8 o8' hb8; obtain rfl : u8 = rs := hu8.out.trans (List.nil_append _); have hb8' : Below wr.heap.size wr w8 := hbA.trans (hb8.mono (by omega)); have o8 : Og w8 (wr.heap.size + 1) A8 c8 u8 := o8'; have oR8 : Or w8 w3.heap.size A' c' es := ownsG.below oR hb8' (fun k hk => (oR.ob_lt (by rw [ob_eq] at hk; exact hk)).2); have wR8 := wR.below hb8') | (at_builtin; refine wp_app1R rfl _ _ rfl w3.heap.size A' c' es w8 _ (A8, c8, u8) oR8 rfl rfl rfl hel' (by have := hb8'.size; have := S46.out; omega) ?_; intro A9 c9 w9 o9 k9 n9))
      have z8 := hb8'.size
      have s46 := S46.out
      go_roundw
      case rel =>
        refine ⟨k + 1, A9, c9, es ++ [(A8, c8, u8)], by omega, by go_num, by rw [List.length_append]; rfl, by show _ = _; rw [List.length_append, hel.out]; rfl, rcs_step hlt hec.out _ (by rw [← hre.out]), o9, wR8.push k9 (m := wr.heap.size + 1) (fun k hk => by have := (wR.lt hk).2; omega) (fun k hk => by have := (oR.ob_lt hk).2; omega) o8 (by omega) n9, ?_⟩
        exact hb.trans ((hb8'.mono zb).trans (k9.below (fun k hk => by have := (oR.ob_lt (List.mem_singleton.1 hk).symm).1; omega) (by omega)))
      case measure => simp [intOf]; omega
    · have hlt' : ¬ (k : Int) < bs.length := by omega
      have hk' : k = bs.length := by omega
      subst hk'
      rw [List.take_length] at hec
      have bw := (hb.block _ zz6).trans HB6.out
      have yw := (hb.block _ (Array.getElem?_eq_some_iff.1 HY6.out).1).trans HY6.out
      have zw := (Array.getElem?_eq_some_iff.1 yw).1
      have qw : ∀ i, wr.cell? ⟨w.heap.size, i, none⟩ = _ := fun i => cell_of_row wr _ i _ _ (0, 0) bw
      have rw_ : ∀ i, wr.frozen? ⟨w.heap.size, i, none⟩ = false := fun i => by simp [World.frozen?, bw]
      have HO : Hid ((wr.setCell ⟨w.heap.size, 30, none⟩ (.slice A' es.length c')).heap[w.heap.size]? = some (.cells (sC s (M1, m1, M.2.2) (A1, a1, A.2.2) (T1, c1, T.2.2) (A', c', es)) 49 (0, 0))) := (blk_back bw (A', c', es)).1
      have HZ : Hid ((wr.setCell ⟨w.heap.size, 30, none⟩ (.slice A' es.length c')).heap[w.heap.size + 1]? = some (.cells zC 49 (0, 0))) := heap_setCell_of _ (by first | omega | (simp; done) | (simp; omega)) yw
      have zw' : w.heap.size < wr.heap.size := by omega
      clear bw yw
      go_wp2_with (first | (refine wpList_load_row rfl 49 _ rfl (w.heap.size) rfl 49 (sC s (M1, m1, M.2.2) (A1, a1, A.2.2) (T1, c1, T.2.2) (A', c', es)) (0, 0) _ HO.out Try.underlying49 rfl size_scr ?_) | (refine wp_store_blk rfl 49 _ _ rfl (w.heap.size + 1) (sC s (M1, m1, M.2.2) (A1, a1, A.2.2) (T1, c1, T.2.2) (A', c', es)) rfl rfl 49 zC HZ.out size_scr rfl (sC_one _ _ _ _ _) ?_; intro w7 B7 C7 z7))
      refine bodyPost_ret (results_cell_row Try.results95 _ _ (w.heap.size + 1) 49 (sC s (M1, m1, M.2.2) (A1, a1, A.2.2) (T1, c1, T.2.2) (A', c', es)) (0, 0) _ rfl B7 Try.underlying49 rfl size_scr) rfl ?_
      have F0 : ∀ k, w.heap.size + 2 ≤ k → some k ∉ [some w.heap.size, some (w.heap.size + 1)] := fun k hk hm => by
        simp at hm
        omega
      have c8 : Chg [some w.heap.size, some (w.heap.size + 1)] wr w7 := ((chg1 wr w.heap.size 30 (.slice A' es.length c')).mono (fun k hk => by simp at hk ⊢; omega)).trans (C7.mono (fun k hk => by simp at hk ⊢; omega))
      have cv6 := (Chg.of_below _ hb).trans c8
      have cv3 := (K46.out.mono (F' := [some w.heap.size, some (w.heap.size + 1)]) (fun k hk => by simp at hk ⊢; omega)).trans cv6
      have cA2 := K2.out.2.1.mono (F' := [some w.heap.size, some (w.heap.size + 1)]) (fun k hk => by simp at hk ⊢; omega)
      have cA1 := (kc1.out.mono (F' := [some w.heap.size, some (w.heap.size + 1)]) (fun k hk => by simp at hk ⊢; omega)).trans ((Chg.of_below _ hb2).trans cA2)
      have e1 := ks1.out
      simp only [World.size_alloc] at x1 om1
      have om3 : Og w3 (w.heap.size + 1 + 1) M1 m1 M.2.2 := ownsG.below ((om1.chg cA1 fun k hk => F0 k (by have := (om1.ob_lt hk).1; omega)).alloc _) hb3 (fun k hk => by rw [ob_eq] at hk; have := (om1.ob_lt hk).2; omega)
      have oa3 : Og w3 v1.heap.size A1 a1 A.2.2 := ownsG.below ((oa2.chg cA2 fun k hk => F0 k (by have := (oa2.ob_lt hk).1; omega)).alloc _) hb3 (fun k hk => by rw [ob_eq] at hk; have := (oa2.ob_lt hk).2; omega)
      have s46 := S46.out
      have om : Og w7 w.heap.size M1 m1 M.2.2 := (om3.chg cv3 fun k hk => F0 k (by have := (om1.ob_lt hk).1; omega)).mono (by omega)
      have oa : Og w7 w.heap.size A1 a1 A.2.2 := (oa3.chg cv3 fun k hk => F0 k (by have := (oa2.ob_lt hk).1; omega)).mono (by omega)
      have ot : Oi w7 w.heap.size T1 c1 T.2.2 := (ot3.chg cv3 fun k hk => F0 k (by have := (ot3.ob_lt hk).1; omega)).mono (by omega)
      have ol : Or w7 w.heap.size A' c' es := (oR.chg c8 fun k hk => F0 k (by have := (oR.ob_lt hk).1; omega)).mono (by omega)
      have ow : Ow w7 w.heap.size A' es := (wR.chg c8 fun k hk => F0 k (by have := (wR.lt hk).1; omega)).mono (by omega)
      refine ⟨(M1, m1, M.2.2), (A1, a1, A.2.2), (T1, c1, T.2.2), (A', c', es), rfl, ⟨rfl, rfl, rfl, hec.out⟩, So.of_order (n1 := w1.heap.size) (n2 := w2.heap.size) (n3 := w3.heap.size) om oa ot ol ow (fun k hk => (om1.ob_lt hk).2) (fun k hk => ⟨by have := (oa2.ob_lt hk).1; omega, (oa2.ob_lt hk).2⟩) (fun k hk => ⟨by have := (ot3.ob_lt hk).1; omega, (ot3.ob_lt hk).2⟩) (fun k hk => ?_) (by omega) (by omega), ?_⟩
      · rcases List.mem_cons.1 hk with hk | hk
        · have := (oR.ob_lt hk.symm).1; omega
        · have := (wR.lt hk).1; omega
      · exact t7.trans (c8.below (fun k hk => by simp at hk; omega) (by omega))

set_option linter.unusedVariables false
set_option maxRecDepth 100000

/-- The cursor clamped. -/
def clampZ (n m : Int) : Int := if n < 0 then 0 else if m < n then m else n
theorem clamp_max {n m : Int} (h : 0 ≤ m) : max 0 (min n m) = clampZ n m := by unfold clampZ; omega
theorem l02Clamp_any (n m : Int) (w : World) : Calls Try.prog 96 #[.int .i64 n, .int .i64 m] w fun e w' => e = .returned (.int .i64 (clampZ n m)) ∧ w = w' := by
  obtain ⟨z, hz⟩ : ∃ z, Hid (z = clampZ n m) := ⟨_, Lib.hid rfl⟩
  rw [← hz.out]
  by_cases h1 : n < 0
  · have HR : Hid (z = 0) := by show _ = _; rw [hz.out, clampZ, if_pos h1]
    go_enter Try.func96, Try.ntmps96
    go_wp2_with fail
    go_ret
    exact ⟨by rw [HR.out]; rfl, rfl⟩
  · by_cases h2 : m < n
    · have HR : Hid (z = m) := by show _ = _; rw [hz.out, clampZ, if_neg h1, if_pos h2]
      go_enter Try.func96, Try.ntmps96
      go_wp2_with fail
      go_ret
      exact ⟨by rw [HR.out]; rfl, rfl⟩
    · have HR : Hid (z = n) := by show _ = _; rw [hz.out, clampZ, if_neg h1, if_neg h2]
      go_enter Try.func96, Try.ntmps96
      go_wp2_with fail
      go_ret
      exact ⟨by rw [HR.out]; rfl, rfl⟩
/-- A screen's block is changed by a function that the program calls with its address. -/
def ChPost (lo g : Nat) (M A : Rw) (T : Ti) (B : Tr) (w1 : World) (s2 : Sc) (c2 : Cont) (e : Ending) (w2 : World) : Prop :=
  e = .returned (.tuple #[]) ∧ ∃ (M2 A2 : Rw) (T2 : Ti) (B2 : Tr), w2.heap[g]? = some (.cells (sC s2 M2 A2 T2 B2) 49 (0, 0)) ∧ Hid (Holds M2 A2 T2 B2 c2) ∧ So w2 lo M2 A2 T2 B2 ∧ some g ∉ sft M2 A2 T2 B2 ∧ Chg (some g :: sft M A T B) w1 w2 ∧ ∀ k, some k ∈ sft M2 A2 T2 B2 → some k ∈ sft M A T B ∨ w1.heap.size ≤ k
/-- What a change of a screen answers. -/
def chS (s : Sc) (c : Cont) (s2 : Sc) : Sc := if scrB s c = true then s2 else sc0
def chC (s : Sc) (c c2 : Cont) : Cont := if scrB s c = true then c2 else cont0
theorem ch_no {s : Sc} {c : Cont} (h : scrB s c = false) (s2 : Sc) (c2 : Cont) : chS s c s2 = sc0 ∧ chC s c c2 = cont0 := ⟨if_neg (by rw [h]; simp), if_neg (by rw [h]; simp)⟩
theorem ch_yes {s : Sc} {c : Cont} (h : scrB s c = true) (s2 : Sc) (c2 : Cont) : chS s c s2 = s2 ∧ chC s c c2 = c2 := ⟨if_pos h, if_pos h⟩
theorem own_nil {w w' : World} (hb : Below w.heap.size w w') : ScrOwn w sc0 cont0 (.returned (.agg zC)) w' :=
  ⟨rw0, rw0, ti0, tr0, rfl, ⟨rfl, rfl, rfl, rfl⟩, ⟨Og.nil _ _, Og.nil _ _, Oi.nil _ _, Or.nil _ _, fun e h => by simp at h, by simp [Sep, ob, Value.ownBlock]⟩, hb⟩
set_option maxHeartbeats 4000000 in
theorem changed_any (N : Nat) (caps : Array Value) (s : Sc) (M A : Rw) (T : Ti) (B : Tr) (c : Cont) (s2 : Sc) (c2 : Cont) (w : World) (hr : Sr w M A T B) (hz : Sz M A T B 1048576) (hh : Hid (Holds M A T B c))
    (hc : ∀ (args : Array Value) (w : World), (callFunc N args).run Try.prog w = .ok (.enter N args) w)
    (hf : scrB s c = true → ∀ (lo g : Nat) (M1 A1 : Rw) (T1 : Ti) (B1 : Tr) (w1 : World), Below w.heap.size w w1 → w1.heap[g]? = some (.cells (sC s M1 A1 T1 B1) 49 (0, 0)) → So w1 lo M1 A1 T1 B1 → Hid (Holds M1 A1 T1 B1 c) → some g ∉ sft M1 A1 T1 B1 → w.heap.size ≤ lo → lo ≤ g → Calls Try.prog N (#[.pointer (some ⟨g, 0, none⟩)] ++ caps) w1 (ChPost lo g M1 A1 T1 B1 w1 s2 c2)) :
    Calls Try.prog 97 #[sV s M A T B, .func (.func N) #[] caps] w (ScrOwn w (chS s c s2) (chC s c c2)) := by
  have hno := Lib.hid (fun h => ch_no (s := s) (c := c) h s2 c2)
  have hyes := Lib.hid (fun h => ch_yes (s := s) (c := c) h s2 c2)
  obtain ⟨rs, hrs⟩ : ∃ x, Hid (x = chS s c s2) := ⟨_, Lib.hid rfl⟩
  obtain ⟨rc, hrc⟩ : ∃ x, Hid (x = chC s c c2) := ⟨_, Lib.hid rfl⟩
  rw [← hrs.out, ← hrc.out] at hno hyes ⊢
  have t0 : Below w.heap.size w ((w.alloc (.cells (sC s M A T B) 49)).alloc (.cells zC 49)) := (((Below.refl _ _).alloc (Nat.le_refl _) _).alloc (by simp) _)
  have b0 : ((w.alloc (.cells (sC s M A T B) 49)).alloc (.cells zC 49)).heap[w.heap.size]? = some (.cells (sC s M A T B) 49 (0, 0)) := heap_alloc_of _ (heap_alloc_new _ _)
  have z0 : ((w.alloc (.cells (sC s M A T B) 49)).alloc (.cells zC 49)).heap[w.heap.size + 1]? = some (.cells zC 49 (0, 0)) := heap_alloc_at _ (by simp)
  have HF := Lib.hid hf
  have HCF := Lib.hid hc
  clear hf hc
  go_enter Try.func97, Try.ntmps97
  go_wp2_with (first | (refine wpList_load_row rfl 49 _ rfl (w.heap.size) rfl 49 (sC s M A T B) (0, 0) _ b0 Try.underlying49 rfl size_scr ?_))
  refine (scrOk_impl s M A T B _ (hr.below t0) hz).mono ?_
  rw [hh.out.eq]
  rintro e w1 ⟨he, hb1⟩
  have b1 := (hb1.block _ (Array.getElem?_eq_some_iff.1 b0).1).trans b0
  have z1 := (hb1.block _ (Array.getElem?_eq_some_iff.1 z0).1).trans z0
  have zz1 := (Array.getElem?_eq_some_iff.1 z1).1
  have t1 := t0.trans (hb1.mono t0.size)
  clear b0 z0
  cases hq : scrB s c with
  | false =>
    obtain ⟨e1, e2⟩ := hno.out hq
    subst e1 e2
    rw [hq] at he
    subst he
    clear hq hno hyes HF hrs hrc
    go_wp2_with (first | (refine wp_store_blk rfl 49 _ _ rfl (w.heap.size + 1) zC rfl rfl 49 zC z1 size_scr rfl (by simp [Value.oneCell']) ?_; intro w7 B7 C7 z7))
    refine bodyPost_ret (results_cell_row Try.results97 _ _ (w.heap.size + 1) 49 zC (0, 0) _ rfl B7 Try.underlying49 rfl size_scr) rfl ?_
    exact own_nil (t1.trans (C7.below (fun k hk => by simp at hk; omega) (by omega)))
  | true =>
    obtain ⟨e1, e2⟩ := hyes.out hq
    subst e1 e2
    have hq' : scrB s ⟨M.2.2, A.2.2, T.2.2, rcs B.2.2⟩ = true := by rw [hh.out.eq]; exact hq
    have HF' := Lib.hid (HF.out hq)
    rw [hq] at he
    subst he
    have HQ := Lib.hid hq'
    clear hq hno hyes HF hrs hrc hq'
    go_wp2_with (first | (refine wpList_load_row rfl 49 _ rfl (w.heap.size) rfl 49 (sC s M A T B) (0, 0) _ b1 Try.underlying49 rfl size_scr ?_))
    refine (copyScr_any s M A T B _ (hr.below t1) hz HQ.out).mono ?_
    rw [hh.out.eq]
    rintro e w2 ⟨M2, A2, T2, B2, rfl, hh2, ho2, hb2⟩
    have z2 := (hb2.block _ (Array.getElem?_eq_some_iff.1 z1).1).trans z1
    have zz2 := (Array.getElem?_eq_some_iff.1 z2).1
    have x2 := hb2.size
    have t2 := t1.trans (hb2.mono t1.size)
    clear b1 z1
    go_wp2_with (first | (refine wp_store_blk rfl 49 _ _ rfl w2.heap.size (sC s M2 A2 T2 B2) rfl rfl 49 zC (heap_alloc_new _ _) size_scr rfl (sC_one s M2 A2 T2 B2) ?_; intro w3 b3 k3 zz3; have h3 : Below w2.heap.size w2 w3 := ((Below.refl _ _).alloc (Nat.le_refl _) _).trans (k3.below (fun k hk => by simp at hk; omega) (by simp))))
    have ho3 := ho2.below h3 (Nat.le_refl _)
    have z3 := (h3.block _ zz2).trans z2
    have t3 := t2.trans (h3.mono t2.size)
    have x3 := (Array.getElem?_eq_some_iff.1 b3).1
    clear z2 k3
    rw [HCF.out]
    simp only [Oper.upon]
    refine (HF'.out w1.heap.size w2.heap.size M2 A2 T2 B2 w3 t3 b3 ho3 hh2 (fun h => by have := (ho2.lt h).2; omega) (by omega) x2).mono ?_
    rintro e w4 ⟨rfl, M4, A4, T4, B4, b4, hh4, ho4, ng4, k4, _⟩
    have z4 := (keep_chg k4 z3 (by
      intro hm
      rcases List.mem_cons.1 hm with hm | hm
      · simp at hm; omega
      · have := (ho2.lt hm).1; omega)).1
    have x4 := k4.size
    have t4 : Below w.heap.size w w4 := t3.trans (k4.below (fun k hk => by
      rcases List.mem_cons.1 hk with hk | hk
      · simp at hk; omega
      · have := (ho2.lt hk).1; omega) (by omega))
    clear z3 b3
    go_wp2_with (first | (refine wpList_load_row rfl 49 _ rfl (w2.heap.size) rfl 49 (sC rs M4 A4 T4 B4) (0, 0) _ b4 Try.underlying49 rfl size_scr ?_) | (refine wp_store_blk rfl 49 _ _ rfl (w.heap.size + 1) (sC rs M4 A4 T4 B4) rfl rfl 49 zC z4 size_scr rfl (sC_one rs M4 A4 T4 B4) ?_; intro w7 B7 C7 z7))
    refine bodyPost_ret (results_cell_row Try.results97 _ _ (w.heap.size + 1) 49 (sC rs M4 A4 T4 B4) (0, 0) _ rfl B7 Try.underlying49 rfl size_scr) rfl ?_
    exact ⟨M4, A4, T4, B4, rfl, hh4, (ho4.chg C7 (fun k hk hm => by have := (ho4.lt hk).1; simp at hm; omega)).mono (by omega), t4.trans (C7.below (fun k hk => by simp at hk; omega) (by omega))⟩

set_option linter.unusedVariables false
set_option maxRecDepth 100000

/-- The screen with the cursor at a place. -/
def goS (s : Sc) (x y : Int) : Sc := { s with X := clampZ x (s.W - 1), Y := clampZ y (s.H - 1), wrap := false }
set_option maxHeartbeats 4000000 in
theorem move_any (s : Sc) (M A : Rw) (T : Ti) (B : Tr) (x y : Int) (g : Nat) (w : World) (hb : w.heap[g]? = some (.cells (sC s M A T B) 49 (0, 0))) (hW1 : 1 ≤ s.W) (hW2 : s.W ≤ 120) (hH1 : 1 ≤ s.H) (hH2 : s.H ≤ 120) :
    Calls Try.prog 99 #[.pointer (some ⟨g, 0, none⟩), .int .i64 x, .int .i64 y] w fun e w' => e = .returned (.tuple #[]) ∧ w'.heap[g]? = some (.cells (sC (goS s x y) M A T B) 49 (0, 0)) ∧ Chg [some g] w w' := by
  have ew1 : IntKind.i64.wrap (s.W - 1) = s.W - 1 := by rw [IntKind.wrap_i64]; omega
  have ew2 : IntKind.i64.wrap (s.H - 1) = s.H - 1 := by rw [IntKind.wrap_i64]; omega
  have hb0 : w.drew.heap[g]? = some (.cells (sC s M A T B) 49 (0, 0)) := hb
  have r0 : ∀ i, w.frozen? ⟨g, i, none⟩ = false := fun i => by simp [World.frozen?, hb]
  have q0 : ∀ i, w.drew.cell? ⟨g, i, none⟩ = _ := fun i => cell_of_row w.drew _ i _ _ (0, 0) hb0
  go_enter Try.func99, Try.ntmps99
  go_wp2_with fail
  refine wp_regionK (fun w' => w'.heap[g]? = some (.cells (sC s M A T B) 49 (0, 0))) 21 (by kernel_rfl) ?_
  refine wpAnyK_free (i := 0) (v := .pointer (some ⟨g, 0, none⟩)) rfl (by kernel_rfl) (by kernel_rfl) (by kernel_rfl) (fun _ _ _ h => h) (by decide) (Or.inl ⟨by rfl, (by intro w' _; go_simp; try first | rfl | simp [*])⟩) (fun _ => hb0) ?_
  try simp only [Act.put, List.getElem_toArray, List.getElem_cons_zero, List.setIfInBounds_toArray, List.set_cons_zero, List.set_cons_succ]
  refine wpAnyK_free (i := 1) (v := .pointer (some ⟨g, 0, none⟩)) rfl (by kernel_rfl) (by kernel_rfl) (by kernel_rfl) (fun _ _ _ h => h) (by decide) (Or.inl ⟨by rfl, (by intro w' _; go_simp; try first | rfl | simp [*])⟩) (fun _ => hb0) ?_
  try simp only [Act.put, List.getElem_toArray, List.getElem_cons_succ, List.getElem_cons_zero, List.setIfInBounds_toArray, List.set_cons_zero, List.set_cons_succ]
  refine wpAnyK_free (i := 2) (v := .pointer (some ⟨g, 0, none⟩)) rfl (by kernel_rfl) (by kernel_rfl) (by kernel_rfl) (fun _ _ _ h => h) (by decide) (Or.inl ⟨by rfl, (by intro w' _; go_simp; try first | rfl | simp [*])⟩) (fun _ => hb0) ?_
  try simp only [Act.put, List.getElem_toArray, List.getElem_cons_succ, List.getElem_cons_zero, List.setIfInBounds_toArray, List.set_cons_zero, List.set_cons_succ]
  refine wpAnyK_free (i := 3) (v := .int .i64 x) rfl (by kernel_rfl) (by kernel_rfl) (by kernel_rfl) (fun _ _ _ h => h) (by decide) (Or.inl ⟨by rfl, (by intro w' _; go_simp; try first | rfl | simp [*])⟩) (fun _ => hb0) ?_
  try simp only [Act.put, List.getElem_toArray, List.getElem_cons_succ, List.getElem_cons_zero, List.setIfInBounds_toArray, List.set_cons_zero, List.set_cons_succ]
  refine wpAnyK_free (i := 4) (v := .pointer (some ⟨g, 0, none⟩)) rfl (by kernel_rfl) (by kernel_rfl) (by kernel_rfl) (fun _ _ _ h => h) (by decide) (Or.inl ⟨by rfl, (by intro w' _; go_simp; try first | rfl | simp [*])⟩) (fun _ => hb0) ?_
  try simp only [Act.put, List.getElem_toArray, List.getElem_cons_succ, List.getElem_cons_zero, List.setIfInBounds_toArray, List.set_cons_zero, List.set_cons_succ]
  refine wpAnyK_free (i := 5) (v := .pointer (some ⟨g, 0, none⟩)) rfl (by kernel_rfl) (by kernel_rfl) (by kernel_rfl) (fun _ _ _ h => h) (by decide) (Or.inl ⟨by rfl, (by intro w' _; go_simp; try first | rfl | simp [*])⟩) (fun _ => hb0) ?_
  try simp only [Act.put, List.getElem_toArray, List.getElem_cons_succ, List.getElem_cons_zero, List.setIfInBounds_toArray, List.set_cons_zero, List.set_cons_succ]
  refine wpAnyK_free (i := 6) (v := .pointer (some ⟨g, 0, none⟩)) rfl (by kernel_rfl) (by kernel_rfl) (by kernel_rfl) (fun _ _ _ h => h) (by decide) (Or.inl ⟨by rfl, (by intro w' _; go_simp; try first | rfl | simp [*])⟩) (fun _ => hb0) ?_
  try simp only [Act.put, List.getElem_toArray, List.getElem_cons_succ, List.getElem_cons_zero, List.setIfInBounds_toArray, List.set_cons_zero, List.set_cons_succ]
  refine wpAnyK_take (i := 7) (v := .int .i64 s.W) rfl (by kernel_rfl) (by kernel_rfl) (by kernel_rfl) (fun _ _ _ h => h) (by kernel_rfl) (by kernel_rfl) (by decide) (Or.inl ⟨by rfl, (by intro w' hSw; have q : ∀ i, w'.cell? ⟨g, i, none⟩ = _ := fun i => cell_of_row w' _ i _ _ (0, 0) hSw; go_simp; try first | rfl | simp [q])⟩) (hb0) ?_
  try simp only [Act.put, List.getElem_toArray, List.getElem_cons_succ, List.getElem_cons_zero, List.setIfInBounds_toArray, List.set_cons_zero, List.set_cons_succ]
  refine wpAnyK_free (i := 8) (v := .int .i64 (s.W - 1)) rfl (by kernel_rfl) (by kernel_rfl) (by kernel_rfl) (fun _ _ _ h => h) (by decide) (Or.inl ⟨by rfl, (by intro w' _; go_simp; try first | rfl | simp [*])⟩) (fun _ => hb0) ?_
  try simp only [Act.put, List.getElem_toArray, List.getElem_cons_succ, List.getElem_cons_zero, List.setIfInBounds_toArray, List.set_cons_zero, List.set_cons_succ]
  refine wpAnyK_free (i := 9) (v := .int .i64 (min x (s.W - 1))) rfl (by kernel_rfl) (by kernel_rfl) (by kernel_rfl) (fun _ _ _ h => h) (by decide) (Or.inl ⟨by rfl, (by intro w' _; go_simp; try first | rfl | simp [*])⟩) (fun _ => hb0) ?_
  try simp only [Act.put, List.getElem_toArray, List.getElem_cons_succ, List.getElem_cons_zero, List.setIfInBounds_toArray, List.set_cons_zero, List.set_cons_succ]
  refine wpAnyK_free (i := 10) (v := .int .i64 (max 0 (min x (s.W - 1)))) rfl (by kernel_rfl) (by kernel_rfl) (by kernel_rfl) (fun _ _ _ h => h) (by decide) (Or.inl ⟨by rfl, (by intro w' _; go_simp; try first | rfl | simp [*])⟩) (fun _ => hb0) ?_
  try simp only [Act.put, List.getElem_toArray, List.getElem_cons_succ, List.getElem_cons_zero, List.setIfInBounds_toArray, List.set_cons_zero, List.set_cons_succ]
  refine wpAnyK_free (i := 11) (v := .int .i64 y) rfl (by kernel_rfl) (by kernel_rfl) (by kernel_rfl) (fun _ _ _ h => h) (by decide) (Or.inl ⟨by rfl, (by intro w' _; go_simp; try first | rfl | simp [*])⟩) (fun _ => hb0) ?_
  try simp only [Act.put, List.getElem_toArray, List.getElem_cons_succ, List.getElem_cons_zero, List.setIfInBounds_toArray, List.set_cons_zero, List.set_cons_succ]
  refine wpAnyK_free (i := 12) (v := .pointer (some ⟨g, 0, none⟩)) rfl (by kernel_rfl) (by kernel_rfl) (by kernel_rfl) (fun _ _ _ h => h) (by decide) (Or.inl ⟨by rfl, (by intro w' _; go_simp; try first | rfl | simp [*])⟩) (fun _ => hb0) ?_
  try simp only [Act.put, List.getElem_toArray, List.getElem_cons_succ, List.getElem_cons_zero, List.setIfInBounds_toArray, List.set_cons_zero, List.set_cons_succ]
  refine wpAnyK_free (i := 13) (v := .pointer (some ⟨g, 0, none⟩)) rfl (by kernel_rfl) (by kernel_rfl) (by kernel_rfl) (fun _ _ _ h => h) (by decide) (Or.inl ⟨by rfl, (by intro w' _; go_simp; try first | rfl | simp [*])⟩) (fun _ => hb0) ?_
  try simp only [Act.put, List.getElem_toArray, List.getElem_cons_succ, List.getElem_cons_zero, List.setIfInBounds_toArray, List.set_cons_zero, List.set_cons_succ]
  refine wpAnyK_free (i := 14) (v := .pointer (some ⟨g, 1, none⟩)) rfl (by kernel_rfl) (by kernel_rfl) (by kernel_rfl) (fun _ _ _ h => h) (by decide) (Or.inl ⟨by rfl, (by intro w' _; go_simp; try first | rfl | simp [*])⟩) (fun _ => hb0) ?_
  try simp only [Act.put, List.getElem_toArray, List.getElem_cons_succ, List.getElem_cons_zero, List.setIfInBounds_toArray, List.set_cons_zero, List.set_cons_succ]
  refine wpAnyK_take (i := 15) (v := .int .i64 s.H) rfl (by kernel_rfl) (by kernel_rfl) (by kernel_rfl) (fun _ _ _ h => h) (by kernel_rfl) (by kernel_rfl) (by decide) (Or.inl ⟨by rfl, (by intro w' hSw; have q : ∀ i, w'.cell? ⟨g, i, none⟩ = _ := fun i => cell_of_row w' _ i _ _ (0, 0) hSw; go_simp; try first | rfl | simp [q])⟩) (hb0) ?_
  try simp only [Act.put, List.getElem_toArray, List.getElem_cons_succ, List.getElem_cons_zero, List.setIfInBounds_toArray, List.set_cons_zero, List.set_cons_succ]
  refine wpAnyK_free (i := 16) (v := .int .i64 (s.H - 1)) rfl (by kernel_rfl) (by kernel_rfl) (by kernel_rfl) (fun _ _ _ h => h) (by decide) (Or.inl ⟨by rfl, (by intro w' _; go_simp; try first | rfl | simp [*])⟩) (fun _ => hb0) ?_
  try simp only [Act.put, List.getElem_toArray, List.getElem_cons_succ, List.getElem_cons_zero, List.setIfInBounds_toArray, List.set_cons_zero, List.set_cons_succ]
  refine wpAnyK_free (i := 17) (v := .int .i64 (min y (s.H - 1))) rfl (by kernel_rfl) (by kernel_rfl) (by kernel_rfl) (fun _ _ _ h => h) (by decide) (Or.inl ⟨by rfl, (by intro w' _; go_simp; try first | rfl | simp [*])⟩) (fun _ => hb0) ?_
  try simp only [Act.put, List.getElem_toArray, List.getElem_cons_succ, List.getElem_cons_zero, List.setIfInBounds_toArray, List.set_cons_zero, List.set_cons_succ]
  refine wpAnyK_free (i := 18) (v := .int .i64 (max 0 (min y (s.H - 1)))) rfl (by kernel_rfl) (by kernel_rfl) (by kernel_rfl) (fun _ _ _ h => h) (by decide) (Or.inl ⟨by rfl, (by intro w' _; go_simp; try first | rfl | simp [*])⟩) (fun _ => hb0) ?_
  try simp only [Act.put, List.getElem_toArray, List.getElem_cons_succ, List.getElem_cons_zero, List.setIfInBounds_toArray, List.set_cons_zero, List.set_cons_succ]
  refine wpAnyK_free (i := 19) (v := .pointer (some ⟨g, 0, none⟩)) rfl (by kernel_rfl) (by kernel_rfl) (by kernel_rfl) (fun _ _ _ h => h) (by decide) (Or.inl ⟨by rfl, (by intro w' _; go_simp; try first | rfl | simp [*])⟩) (fun _ => hb0) ?_
  try simp only [Act.put, List.getElem_toArray, List.getElem_cons_succ, List.getElem_cons_zero, List.setIfInBounds_toArray, List.set_cons_zero, List.set_cons_succ]
  refine wpAnyK_free (i := 20) (v := .pointer (some ⟨g, 9, none⟩)) rfl (by kernel_rfl) (by kernel_rfl) (by kernel_rfl) (fun _ _ _ h => h) (by decide) (Or.inl ⟨by rfl, (by intro w' _; go_simp; try first | rfl | simp [*])⟩) (fun _ => hb0) ?_
  try simp only [Act.put, List.getElem_toArray, List.getElem_cons_succ, List.getElem_cons_zero, List.setIfInBounds_toArray, List.set_cons_zero, List.set_cons_succ]
  refine wpAnyK_ready (rs := [21]) (by kernel_rfl) (by simp) ?_
  refine AllReadyK.cons rfl (fun K hK => ?_) AllReadyK.nil
  go_simp
  obtain ⟨v1, hv1⟩ : ∃ v, v = (w.setCell ⟨g, 9, none⟩ (.int .i64 (max 0 (min x (s.W - 1))))).drew := ⟨_, rfl⟩
  rw [← hv1]
  have k1 : Bk g w.drew v1 (sC { s with X := max 0 (min x (s.W - 1)) } M A T B) := by rw [hv1]; exact blk_x hb0 (max 0 (min x (s.W - 1)))
  refine hK.out _ _ (late (by kernel_rfl)) ?_
  clear hK K hv1
  try simp only [Act.put, List.getElem_toArray, List.getElem_cons_succ, List.getElem_cons_zero, List.setIfInBounds_toArray, List.set_cons_zero, List.set_cons_succ]
  have b1 := k1.1
  have q1 : ∀ i, v1.cell? ⟨g, i, none⟩ = _ := fun i => cell_of_row v1 _ i _ _ (0, 0) b1
  have r1 : ∀ i, v1.frozen? ⟨g, i, none⟩ = false := fun i => by simp [World.frozen?, b1]
  refine wpAnyK_free (i := 22) (v := .pointer (some ⟨g, 0, none⟩)) rfl (by kernel_rfl) (by kernel_rfl) (by kernel_rfl) (fun _ _ _ h => h) (by decide) (Or.inl ⟨by rfl, (by intro w' _; go_simp; try first | rfl | simp [*])⟩) (late (by kernel_rfl)) ?_
  try simp only [Act.put, List.getElem_toArray, List.getElem_cons_succ, List.getElem_cons_zero, List.setIfInBounds_toArray, List.set_cons_zero, List.set_cons_succ]
  refine wpAnyK_free (i := 23) (v := .pointer (some ⟨g, 10, none⟩)) rfl (by kernel_rfl) (by kernel_rfl) (by kernel_rfl) (fun _ _ _ h => h) (by decide) (Or.inl ⟨by rfl, (by intro w' _; go_simp; try first | rfl | simp [*])⟩) (late (by kernel_rfl)) ?_
  try simp only [Act.put, List.getElem_toArray, List.getElem_cons_succ, List.getElem_cons_zero, List.setIfInBounds_toArray, List.set_cons_zero, List.set_cons_succ]
  refine wpAnyK_ready (rs := [24]) (by kernel_rfl) (by simp) ?_
  refine AllReadyK.cons rfl (fun K hK => ?_) AllReadyK.nil
  go_simp
  obtain ⟨v2, hv2⟩ : ∃ v, v = (v1.setCell ⟨g, 10, none⟩ (.int .i64 (max 0 (min y (s.H - 1))))) := ⟨_, rfl⟩
  rw [← hv2]
  have k2 : Bk g v1 v2 (sC { s with X := max 0 (min x (s.W - 1)), Y := max 0 (min y (s.H - 1)) } M A T B) := by rw [hv2]; exact blk_y b1 (max 0 (min y (s.H - 1)))
  refine hK.out _ _ (late (by kernel_rfl)) ?_
  clear hK K hv2
  try simp only [Act.put, List.getElem_toArray, List.getElem_cons_succ, List.getElem_cons_zero, List.setIfInBounds_toArray, List.set_cons_zero, List.set_cons_succ]
  have b2 := k2.1
  have q2 : ∀ i, v2.cell? ⟨g, i, none⟩ = _ := fun i => cell_of_row v2 _ i _ _ (0, 0) b2
  have r2 : ∀ i, v2.frozen? ⟨g, i, none⟩ = false := fun i => by simp [World.frozen?, b2]
  refine wpAnyK_free (i := 25) (v := .pointer (some ⟨g, 0, none⟩)) rfl (by kernel_rfl) (by kernel_rfl) (by kernel_rfl) (fun _ _ _ h => h) (by decide) (Or.inl ⟨by rfl, (by intro w' _; go_simp; try first | rfl | simp [*])⟩) (late (by kernel_rfl)) ?_
  try simp only [Act.put, List.getElem_toArray, List.getElem_cons_succ, List.getElem_cons_zero, List.setIfInBounds_toArray, List.set_cons_zero, List.set_cons_succ]
  refine wpAnyK_free (i := 26) (v := .pointer (some ⟨g, 11, none⟩)) rfl (by kernel_rfl) (by kernel_rfl) (by kernel_rfl) (fun _ _ _ h => h) (by decide) (Or.inl ⟨by rfl, (by intro w' _; go_simp; try first | rfl | simp [*])⟩) (late (by kernel_rfl)) ?_
  try simp only [Act.put, List.getElem_toArray, List.getElem_cons_succ, List.getElem_cons_zero, List.setIfInBounds_toArray, List.set_cons_zero, List.set_cons_succ]
  refine wpAnyK_ready (rs := [27]) (by kernel_rfl) (by simp) ?_
  refine AllReadyK.cons rfl (fun K hK => ?_) AllReadyK.nil
  go_simp
  obtain ⟨v3, hv3⟩ : ∃ v, v = (v2.setCell ⟨g, 11, none⟩ (.bool false)) := ⟨_, rfl⟩
  rw [← hv3]
  have k3 : Bk g v2 v3 (sC { s with X := max 0 (min x (s.W - 1)), Y := max 0 (min y (s.H - 1)), wrap := false } M A T B) := by rw [hv3]; exact blk_wrap b2 false
  refine hK.out _ _ (late (by kernel_rfl)) ?_
  clear hK K hv3
  try simp only [Act.put, List.getElem_toArray, List.getElem_cons_succ, List.getElem_cons_zero, List.setIfInBounds_toArray, List.set_cons_zero, List.set_cons_succ]
  have b3 := k3.1
  have q3 : ∀ i, v3.cell? ⟨g, i, none⟩ = _ := fun i => cell_of_row v3 _ i _ _ (0, 0) b3
  have r3 : ∀ i, v3.frozen? ⟨g, i, none⟩ = false := fun i => by simp [World.frozen?, b3]
  refine wpAnyK_done (by kernel_rfl) ?_ _
  clear q0 r0 q1 r1 q2 r2 q3 r3
  go_wp2_with fail
  refine bodyPost_end (results_none rfl _ _ _) rfl ?_
  refine ⟨rfl, ?_, (Chg.of_below _ (Below.refl _ _).drew).trans (k1.2.1.trans (k2.2.1.trans k3.2.1))⟩
  rw [b3]
  have e1 := clamp_max (n := x) (m := s.W - 1) (by omega)
  have e2 := clamp_max (n := y) (m := s.H - 1) (by omega)
  rw [e1, e2]
  rfl
end Go.Proofs.Ytnilgcahggmncaa
