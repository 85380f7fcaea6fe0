/- A region that draws its order and ends in stores: a fact about the world that holds until a given operation (the first store) has come up. -/
import Derived.Deep.RegionHeld3
import Derived.Test.YtndmdhmghjfckaaBase
namespace Go.Proofs.Ytndmdhmghjfckaa
open Go.RowKit

theorem late {b : Bool} (hb : b = true) {p : Prop} : b = false → p := fun h => by rw [hb] at h; cases h
section
variable {P : Program} {ops : Array Oper} {Q : Exit → Act → World → Prop} {md : Region.Mode} {S0 : World → Prop} {k : Nat}

/-- Whatever order is picked, and S0 holds behind every operation until number k has come up. -/
def wpAnyK (P : Program) (md : Region.Mode) (ops : Array Oper) (Q : Exit → Act → World → Prop) (S0 : World → Prop) (k : Nat) : Nat → Array Bool → Act → World → Prop
  | 0, listed, a, w => Region.ready md ops listed = [] ∧ Q .normal a w
  | fuel + 1, listed, a, w =>
    (Region.ready md ops listed = [] → Q .normal a w) ∧
    ∀ i ∈ Region.ready md ops listed, wpOp P ops Q i (fun a' w' => ((listed.setIfInBounds i true).getD k true = false → S0 w') ∧ wpAnyK P md ops Q S0 k fuel (listed.setIfInBounds i true) a' w') a w

theorem wpAny_ofK : ∀ (fuel : Nat) (listed : Array Bool) (a : Act) (w : World), wpAnyK P md ops Q S0 k fuel listed a w → wpAny P md ops Q fuel listed a w
  | 0, _, _, _, h => h
  | fuel + 1, _, _, _, h => ⟨h.1, fun i hi => wpOp_mono (fun a' w' h' => wpAny_ofK fuel _ a' w' h'.2) (h.2 i hi)⟩

theorem wpAnyK_gen {i : Nat} {oi : Oper} {v : Value} {R : World → Prop} (hi : ops[i]? = some oi) (hsel : ∀ (j : Nat) (o : Oper) cs b, ops[j]? = some o → o.op ≠ .select cs b)
    (hQ : ∀ c a w, Q (.panic c) (a.put oi.dst v) w → Q (.panic c) a w) (hik : i ≠ k)
    (hR : (∀ w, R w) ∨ (∃ ok, ops[k]? = some ok ∧ ∃ e ∈ ok.after, Region.binds md e = true ∧ e.on = i) ∧ ∀ w, S0 w → R w) :
    ∀ (fuel : Nat) (listed : Array Bool) (a : Act) (w : World),
      (∀ j oj, ops[j]? = some oj → j ≠ i → listed.getD j true = false → (∀ e ∈ oj.after, Region.binds md e = true → e.on ≠ i) → oi.apart ops oj = true) →
      i ∈ Region.ready md ops listed → YieldsIf P ops R oi v a → ((∀ w, R w) ∨ listed.getD k true = false) → (listed.getD k true = false → S0 w) →
      wpAnyK P md ops Q S0 k fuel (listed.setIfInBounds i true) (a.put oi.dst v) w → wpAnyK P md ops Q S0 k (fuel + 1) listed a w := by
  intro fuel
  have here : ∀ (listed : Array Bool) (w : World), ((∀ w, R w) ∨ listed.getD k true = false) → (listed.getD k true = false → S0 w) → R w := by
    intro listed w h1 h2
    rcases h1 with h1 | h1
    · exact h1 w
    · rcases hR with h3 | ⟨_, h3⟩
      · exact h3 w
      · exact h3 w (h2 h1)
  induction fuel with
  | zero =>
    intro listed a w _ hr hy hL hS H
    refine ⟨fun h => (by rw [h] at hr; cases hr), fun j hj => ?_⟩
    by_cases hji : j = i
    · subst hji; exact hy.wpOp hi (here _ _ hL hS) ⟨fun h => hS (by rwa [getD_set_ne true hik] at h), H⟩
    · have := ready_mono hj hji
      rw [H.1] at this
      cases this
  | succ fuel ih =>
    intro listed a w hfree hr hy hL hS H
    refine ⟨fun h => (by rw [h] at hr; cases hr), fun j hj => ?_⟩
    by_cases hji : j = i
    · subst hji; exact hy.wpOp hi (here _ _ hL hS) ⟨fun h => hS (by rwa [getD_set_ne true hik] at h), H⟩
    · have h1 := H.2 j (ready_mono hj hji)
      obtain ⟨hjun, oj, hoj, hall⟩ := mem_ready.1 hj
      have hnot : ∀ e ∈ oj.after, Region.binds md e = true → e.on ≠ i := fun e he hb heq => by
        have h1 := hall e he hb
        have h0 := (mem_ready.1 hr).1
        rw [heq] at h1
        rcases Nat.lt_or_ge i listed.size with h' | h'
        · simp [h'] at h0 h1; rw [h0] at h1; cases h1
        · simp [Array.getElem?_eq_none h'] at h1
      have h2 := wpOp_putIf hoj (hfree j oj hoj hji hjun hnot) (fun cs b => hsel i oi cs b hi) (fun cs b => hsel j oj cs b hoj) hQ hy h1
      have hfree' : ∀ k ok, ops[k]? = some ok → k ≠ i → (listed.setIfInBounds j true).getD k true = false →
          (∀ e ∈ ok.after, Region.binds md e = true → e.on ≠ i) → oi.apart ops ok = true := fun k ok hk hki hun hno => by
        refine hfree k ok hk hki ?_ hno
        by_cases hjk : j = k
        · subst hjk; exact hjun
        · rw [getD_set_ne true hjk] at hun; exact hun
      have hsame : ∀ b, ((listed.setIfInBounds i true).setIfInBounds j b).getD k true = (listed.setIfInBounds j b).getD k true := fun b => by
        rw [Array.setIfInBounds_comm _ _ (Ne.symm hji), getD_set_ne true hik]
      have hL' : (∀ w, R w) ∨ (listed.setIfInBounds j true).getD k true = false := by
        rcases hL with h | h
        · exact .inl h
        · rcases hR with h3 | ⟨⟨ok, hok, e, he, hb, hon⟩, _⟩
          · exact .inl h3
          · refine .inr ?_
            have hjk : j ≠ k := fun e1 => by
              subst e1
              rw [hoj] at hok
              cases hok
              exact hnot e he hb hon
            rw [getD_set_ne true hjk]
            exact h
      refine wpOp_mono (fun a' w' h3 => ⟨fun h => h3.2.1 (by rw [hsame]; exact h), ih (listed.setIfInBounds j true) a' w' hfree' (ready_mono hr (Ne.symm hji)) h3.1 hL' (fun h => h3.2.1 (by rw [hsame]; exact h)) ?_⟩) h2
      rw [Array.setIfInBounds_comm _ _ hji]
      exact h3.2.2

def waitsB (md : Region.Mode) (ops : Array Oper) (k i : Nat) : Bool := (ops[k]?.map fun o => o.after.any fun e => Region.binds md e && e.on == i) == some true
theorem waitsB_spec {k i : Nat} (h : waitsB md ops k i = true) : ∃ ok, ops[k]? = some ok ∧ ∃ e ∈ ok.after, Region.binds md e = true ∧ e.on = i := by
  unfold waitsB at h
  cases hk : ops[k]? with
  | none => rw [hk] at h; simp at h
  | some ok =>
    rw [hk] at h
    simp only [Option.map_some, beq_iff_eq, Option.some.injEq, Array.any_eq_true] at h
    obtain ⟨j, hj, hb⟩ := h
    rw [Bool.and_eq_true] at hb
    exact ⟨ok, rfl, ok.after[j], Array.getElem_mem hj, hb.1, by simpa using hb.2⟩

/-- Take number i first, for which operation k waits: it yields v in every world that meets S0. -/
theorem wpAnyK_take {i : Nat} {oi : Oper} {v : Value} {fuel : Nat} {listed : Array Bool} {a : Act} {w : World} (hi : ops[i]? = some oi)
    (hs : Region.noSelect ops = true) (hf : Region.free md ops listed i = true) (hr : (Region.ready md ops listed).contains i = true)
    (hQ : ∀ c a w, Q (.panic c) (a.put oi.dst v) w → Q (.panic c) a w) (hw : waitsB md ops k i = true) (hk : listed.getD k true = false) (hik : i ≠ k) (hy : YieldsIf P ops S0 oi v a) (hS : S0 w)
    (h : wpAnyK P md ops Q S0 k fuel (listed.setIfInBounds i true) (a.put oi.dst v) w) : wpAnyK P md ops Q S0 k (fuel + 1) listed a w :=
  wpAnyK_gen (R := S0) hi (Region.noSelect_spec hs) hQ hik (.inr ⟨waitsB_spec hw, fun _ h => h⟩) fuel listed a w (Region.free_spec hi hf) (by simpa using hr) hy (.inr hk) (fun _ => hS) h
/-- Take number i first, which yields v in every world. -/
theorem wpAnyK_free {i : Nat} {oi : Oper} {v : Value} {fuel : Nat} {listed : Array Bool} {a : Act} {w : World} (hi : ops[i]? = some oi)
    (hs : Region.noSelect ops = true) (hf : Region.free md ops listed i = true) (hr : (Region.ready md ops listed).contains i = true)
    (hQ : ∀ c a w, Q (.panic c) (a.put oi.dst v) w → Q (.panic c) a w) (hik : i ≠ k) (hy : YieldsIf P ops (fun _ => True) oi v a) (hS : listed.getD k true = false → S0 w)
    (h : wpAnyK P md ops Q S0 k fuel (listed.setIfInBounds i true) (a.put oi.dst v) w) : wpAnyK P md ops Q S0 k (fuel + 1) listed a w :=
  wpAnyK_gen (R := fun _ => True) hi (Region.noSelect_spec hs) hQ hik (.inl fun _ => trivial) fuel listed a w (Region.free_spec hi hf) (by simpa using hr) hy (.inl fun _ => trivial) hS h
def AllReadyK (P : Program) (md : Region.Mode) (ops : Array Oper) (Q : Exit → Act → World → Prop) (S0 : World → Prop) (k fuel : Nat) (listed : Array Bool) (a : Act) (w : World) (rs : List Nat) : Prop :=
  ∀ i ∈ rs, wpOp P ops Q i (fun a' w' => ((listed.setIfInBounds i true).getD k true = false → S0 w') ∧ wpAnyK P md ops Q S0 k fuel (listed.setIfInBounds i true) a' w') a w
theorem AllReadyK.nil {fuel : Nat} {listed : Array Bool} {a : Act} {w : World} : AllReadyK P md ops Q S0 k fuel listed a w [] := fun _ h => by cases h
theorem AllReadyK.cons {fuel : Nat} {listed : Array Bool} {a : Act} {w : World} {i : Nat} {o : Oper} {rs : List Nat} (ho : ops[i]? = some o)
    (h : ∀ K' : Act → World → Prop, Shut (∀ a w, ((listed.setIfInBounds i true).getD k true = false → S0 w) → wpAnyK P md ops Q S0 k fuel (listed.setIfInBounds i true) a w → K' a w) → if Region.wanted o (yielded ops a.tmps) = true then Oper.wp P o a w K' Q else K' (a.put o.dst undef) w)
    (hs : AllReadyK P md ops Q S0 k fuel listed a w rs) : AllReadyK P md ops Q S0 k fuel listed a w (i :: rs) := fun j hj => by
  rcases List.mem_cons.1 hj with rfl | hj
  · exact wpOp_step ho (fun K' hK => h K' (fun a w hS hW => hK a w ⟨hS, hW⟩))
  · exact hs j hj
theorem wpAnyK_ready {rs : List Nat} {fuel : Nat} {listed : Array Bool} {a : Act} {w : World} (hr : Region.ready md ops listed = rs) (hne : rs ≠ [])
    (h : AllReadyK P md ops Q S0 k fuel listed a w rs) : wpAnyK P md ops Q S0 k (fuel + 1) listed a w :=
  ⟨fun h0 => absurd (hr ▸ h0) hne, fun i hi => h i (hr ▸ hi)⟩
theorem wpAnyK_done {listed : Array Bool} {a : Act} {w : World} (hr : Region.ready md ops listed = []) (h : Q .normal a w) :
    ∀ fuel, wpAnyK P md ops Q S0 k fuel listed a w
  | 0 => ⟨hr, h⟩
  | _ + 1 => ⟨fun _ => h, by rw [hr]; simp⟩
/-- The beginning. -/
theorem wp_regionK {id : Nat} {a : Act} {w : World} (S0 : World → Prop) (k : Nat) (hm : P.follows .mixedOrders = true)
    (h : wpAnyK P .any ops Q S0 k ops.size (Array.replicate ops.size false) a w.drew) : (Code.region id ops true).wp P Q a w :=
  wp_region_any hm (wpAny_ofK _ _ _ _ h)
end
end Go.Proofs.Ytndmdhmghjfckaa
