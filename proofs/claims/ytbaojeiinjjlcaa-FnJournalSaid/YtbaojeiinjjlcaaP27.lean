/- Lists of loads: copying, comparing, marking, holding. -/
import Derived.Test.YtbaojeiinjjlcaaP26
import Derived.Deep.RegionHeld3
import Derived.Deep.DeepCutAuto
namespace Go.Proofs.Ytbaojeiinjjlcaa
open Go.RowKit
set_option linter.unusedVariables false
set_option maxRecDepth 100000

theorem info_load : (Try.prog.info? 32).map (fun i => (i.zero, i.size, i.bytes)) = some (some (.agg #[.slice none 0 0]), 1, 24) := by kernel_rfl
theorem Cs.keep {w w' : World} {B' : Nat} {A : Option Addr} {vs : List Value} (h : Cs w A vs) (hb : Below B' w w') (hA : ∀ ad, A = some ad → ad.block < B') : Cs w' A vs := by
  rcases h with h | ⟨b, o, rfl, h⟩
  · exact .inl h
  · exact .inr ⟨b, o, rfl, fun i v hi => (hb.cell (p := ⟨b, o + i, none⟩) (hA ⟨b, o, none⟩ rfl)).trans (h i v hi)⟩
theorem Cs.keepB {w w' : World} {A : Option Addr} {vs : List Value} (h : Cs w A vs) (hk : ∀ ad, A = some ad → vs ≠ [] → w'.heap[ad.block]? = w.heap[ad.block]?) : Cs w' A vs := by
  by_cases hv : vs = []
  · exact .inl hv
  · rcases h with h | ⟨b, o, rfl, h⟩
    · exact .inl h
    · refine .inr ⟨b, o, rfl, fun i v hi => ?_⟩
      have h1 := hk _ rfl hv
      have h2 := h i v hi
      unfold World.cell? at h2 ⊢
      rw [h1]
      exact h2
theorem datas_len {es fs : List Sl} (h : datas es = datas fs) : es.length = fs.length := by
  have := congrArg List.length h
  simpa [datas] using this
theorem datas_get {es fs : List Sl} (h : datas es = datas fs) {k : Nat} (h1 : k < es.length) (h2 : k < fs.length) : es[k].2.2 = fs[k].2.2 := by
  have := congrArg (fun l => l[k]?) h
  simpa [datas, h1, h2] using this
theorem tot_datas {es fs : List Sl} (h : datas es = datas fs) : tot es = tot fs := by
  have e : ∀ l : List Sl, tot l = ((datas l).map List.length).sum := fun l => by simp [tot, datas, Function.comp_def]
  rw [e, e, h]
theorem len_datas {es fs : List Sl} {n : Nat} (h : datas es = datas fs) (hm : ∀ e, e ∈ fs → e.2.2.length ≤ n) : ∀ e, e ∈ es → e.2.2.length ≤ n := by
  intro e he
  have h1 : e.2.2 ∈ datas es := List.mem_map.2 ⟨e, he, rfl⟩
  rw [h] at h1
  obtain ⟨f, hf, hq⟩ := List.mem_map.1 h1
  rw [← hq]
  exact hm f hf
def ToPost (w : World) (es : List Sl) (e : Ending) (w' : World) : Prop :=
  ∃ A' c' fs, e = .returned (.slice A' es.length c') ∧ Hid (datas fs = datas es) ∧ Ls w' A' fs ∧ InB w.heap.size (w.heap.size + 1) A' ∧ Obs w' (w.heap.size + 1) w'.heap.size fs ∧ Below w.heap.size w w'
/-- Loads whose bytes are marked from k on. -/
def marked (k : Int) : List Sl → List Sl
  | [] => []
  | e :: r => (e.1, e.2.1, markL k e.2.2.length) :: marked (k + (e.2.2.length : Int)) r
theorem marked_map (es : List Sl) : ∀ k, (marked k es).map slv = es.map slv := by
  induction es with
  | nil => intro k; rfl
  | cons e r ih => intro k; simp only [marked, List.map_cons, ih, slv, markL_len]
theorem marked_snoc (e : Sl) (a : List Sl) : ∀ k, marked k (a ++ [e]) = marked k a ++ [(e.1, e.2.1, markL (k + (tot a : Int)) e.2.2.length)] := by
  induction a with
  | nil => intro k; simp [marked, tot]
  | cons x r ih =>
    intro k
    have h : k + (x.2.2.length : Int) + (tot r : Int) = k + (tot (x :: r) : Int) := by simp [tot]; omega
    simp only [List.cons_append, marked, ih, h]
theorem marked_len (es : List Sl) (k : Int) : (marked k es).length = es.length := by
  have := congrArg List.length (marked_map es k)
  simpa using this
theorem marked_get (es : List Sl) {j : Nat} (hj : j < es.length) : ∀ k, (marked k es)[j]? = some (es[j].1, es[j].2.1, markL (k + (tot (es.take j) : Int)) es[j].2.2.length) := by
  intro k
  have h1 : es = (es.take j ++ [es[j]]) ++ es.drop (j + 1) := by simp
  have h2 : ∀ (a b : List Sl) (k : Int), marked k (a ++ b) = marked k a ++ marked (k + (tot a : Int)) b := by
    intro a b
    induction a with
    | nil => intro k; simp [marked, tot]
    | cons x r ih =>
      intro k
      have h : k + (x.2.2.length : Int) + (tot r : Int) = k + (tot (x :: r) : Int) := by simp [tot]; omega
      simp only [List.cons_append, marked, ih, h]
  have h3 : marked k es = (marked k (es.take j) ++ [(es[j].1, es[j].2.1, markL (k + (tot (es.take j) : Int)) es[j].2.2.length)]) ++ marked (k + (tot (es.take j ++ [es[j]]) : Int)) (es.drop (j + 1)) := by
    conv => lhs; rw [h1]
    rw [h2, marked_snoc]
  rw [h3, List.getElem?_append_left (by simp [marked_len]; omega), List.getElem?_append_right (by simp [marked_len]; omega)]
  simp [marked_len, Nat.min_eq_left (Nat.le_of_lt hj)]
theorem Cs.lt_ {w : World} {A : Option Addr} {vs : List Value} (h : Cs w A vs) : ∀ ad, A = some ad → vs ≠ [] → ad.block < w.heap.size := by
  intro ad hA hne
  rcases h with h | ⟨b, o, hA', h⟩
  · exact absurd h hne
  · rw [hA] at hA'
    injection hA' with hA'
    subst hA'
    cases vs with
    | nil => exact absurd rfl hne
    | cons x vs => exact World.block_lt_of_cell? w _ (h 0 x rfl)
end Go.Proofs.Ytbaojeiinjjlcaa
