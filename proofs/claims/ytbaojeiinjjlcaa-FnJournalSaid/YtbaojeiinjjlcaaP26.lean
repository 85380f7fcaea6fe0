/- Lists of loads: their size, copying, comparing, marking, holding. -/
import Derived.Test.YtbaojeiinjjlcaaP16
namespace Go.Proofs.Ytbaojeiinjjlcaa
open Go.RowKit
set_option linter.unusedVariables false
set_option maxRecDepth 100000

/-- A slice of bytes: where it begins, its capacity, its bytes. -/
abbrev Sl := Option Addr × Nat × List UInt8
abbrev slv (e : Sl) : Value := .slice e.1 e.2.2.length e.2.1
def datas (es : List Sl) : List (List UInt8) := es.map fun e => e.2.2
/-- A slice that begins at A reads as these loads. -/
def Ls (w : World) (A : Option Addr) (es : List Sl) : Prop := Cs w A (es.map slv) ∧ ∀ e, e ∈ es → By w e.1 e.2.2
theorem Ls.below {w w' : World} {A : Option Addr} {es : List Sl} (h : Ls w A es) (hb : Below w.heap.size w w') : Ls w' A es :=
  ⟨h.1.below hb, fun e he => (h.2 e he).below hb⟩
theorem Ls.drewN {w : World} {A : Option Addr} {es : List Sl} (h : Ls w A es) (m : Nat) : Ls (w.drewN m) A es := h
theorem Ls.get {w : World} {A : Option Addr} {es : List Sl} (h : Ls w A es) {k : Nat} (hk : k < es.length) : ∃ b o, A = some ⟨b, o, none⟩ ∧ w.cell? ⟨b, o + k, none⟩ = some (slv es[k]) ∧ By w es[k].1 es[k].2.2 := by
  rcases h.1 with h1 | ⟨b, o, hA, h1⟩
  · have h2 : es.length = 0 := by have := congrArg List.length h1; rwa [List.length_map] at this
    omega
  · exact ⟨b, o, hA, h1 k _ (by rw [List.getElem?_map, List.getElem?_eq_getElem hk]; rfl), h.2 _ (List.getElem_mem hk)⟩
def tot (es : List Sl) : Nat := (es.map fun e => e.2.2.length).sum
theorem tot_succ {es : List Sl} {k : Nat} (hk : k < es.length) : tot (es.take (k + 1)) = tot (es.take k) + es[k].2.2.length := by
  rw [take_succ_get (List.getElem?_eq_getElem hk)]
  simp only [tot, List.map_append, List.map_cons, List.map_nil, List.sum_append, List.sum_cons, List.sum_nil, Nat.add_zero]
theorem tot_le (es : List Sl) (k : Nat) : tot (es.take k) ≤ tot es := by
  have h : tot (es.take k ++ es.drop k) = tot (es.take k) + tot (es.drop k) := by simp only [tot, List.map_append, List.sum_append]
  rw [List.take_append_drop] at h
  omega
theorem tot_get {es : List Sl} {k : Nat} (hk : k < es.length) : tot (es.take k) + es[k].2.2.length ≤ tot es := by
  rw [← tot_succ hk]
  exact tot_le _ _
/-- What is left of a budget. -/
def szR (left n : Int) : Int := if left < n then -1 else left - n
theorem szR_no {left n : Int} (h : left < n) : Hid (szR left n = -1) := if_pos h
theorem szR_yes {left n : Int} (h : ¬ left < n) : Hid (szR left n = left - n) := if_neg h
/-- Loads whose bytes lie in blocks of their own, one after the other, from block lo to before block hi. -/
def Obs (w : World) (lo hi : Nat) : List Sl → Prop
  | [] => lo ≤ hi
  | e :: r => ∃ m, lo ≤ m ∧ Ob w lo e.1 e.2.1 e.2.2 ∧ InB lo m e.1 ∧ Obs w m hi r
theorem Obs.le {w : World} {es : List Sl} : ∀ {lo hi : Nat}, Obs w lo hi es → lo ≤ hi := by
  induction es with
  | nil => exact fun h => h
  | cons e r ih =>
    rintro lo hi ⟨m, h1, _, _, h2⟩
    exact Nat.le_trans h1 (ih h2)
theorem Ob.keepB {w w' : World} {lo c : Nat} {A : Option Addr} {bs : List UInt8} (h : Ob w lo A c bs) (hk : ∀ ad, A = some ad → w'.heap[ad.block]? = w.heap[ad.block]?) : Ob w' lo A c bs := by
  obtain ⟨h1, h2⟩ := h
  refine ⟨h1, ?_⟩
  rcases h2 with h2 | ⟨g, cap, cur, fz, hv, h3, h4, h5⟩
  · exact .inl h2
  · injection hv with hv hv2 hv3
    exact .inr ⟨g, cap, cur, fz, by rw [hv, hv3], h3, (hk _ hv).trans h4, h5⟩
theorem Obs.keep {w w' : World} {es : List Sl} : ∀ {lo hi : Nat}, Obs w lo hi es → (∀ k, lo ≤ k → k < hi → w'.heap[k]? = w.heap[k]?) → Obs w' lo hi es := by
  induction es with
  | nil => exact fun h _ => h
  | cons e r ih =>
    rintro lo hi ⟨m, h1, h2, h3, h4⟩ hk
    have hl := h4.le
    exact ⟨m, h1, h2.keepB fun ad ha => hk _ (h3 ad ha).1 (by have := (h3 ad ha).2; omega), h3, ih h4 fun k hk1 hk2 => hk k (by omega) hk2⟩
theorem Obs.below {w w' : World} {es : List Sl} {lo hi B' : Nat} (h : Obs w lo hi es) (hb : Below B' w w') (hB : hi ≤ B') : Obs w' lo hi es :=
  h.keep fun k _ hk => hb.block k (by omega)
theorem Obs.snoc {w : World} {es : List Sl} {A : Option Addr} {c : Nat} {bs : List UInt8} {m hi : Nat} (h2 : Ob w m A c bs) (h3 : InB m hi A) (h4 : m ≤ hi) : ∀ {lo : Nat}, Obs w lo m es → Obs w lo hi (es ++ [(A, c, bs)]) := by
  induction es with
  | nil => exact fun h => ⟨hi, Nat.le_trans h h4, h2.mono h, fun ad ha => ⟨Nat.le_trans h (h3 ad ha).1, (h3 ad ha).2⟩, Nat.le_refl _⟩
  | cons e r ih => rintro lo ⟨m', h5, h6, h7, h8⟩; exact ⟨m', h5, h6, h7, ih h8⟩
theorem Obs.widen {w : World} {es : List Sl} {hi hi' : Nat} (hh : hi ≤ hi') : ∀ {lo : Nat}, Obs w lo hi es → Obs w lo hi' es := by
  induction es with
  | nil => exact fun h => Nat.le_trans h hh
  | cons e r ih => rintro lo ⟨m', h5, h6, h7, h8⟩; exact ⟨m', h5, h6, h7, ih h8⟩
theorem Obs.lower {w : World} {es : List Sl} {lo lo' hi : Nat} (hh : lo' ≤ lo) (h : Obs w lo hi es) : Obs w lo' hi es := by
  cases es with
  | nil => exact Nat.le_trans hh h
  | cons e r =>
    obtain ⟨m, h1, h2, h3, h4⟩ := h
    exact ⟨m, by omega, h2.mono hh, fun ad ha => ⟨Nat.le_trans hh (h3 ad ha).1, (h3 ad ha).2⟩, h4⟩
theorem Obs.split {w : World} {a b : List Sl} {e : Sl} {hi : Nat} : ∀ {lo : Nat}, Obs w lo hi (a ++ e :: b) → ∃ m m', lo ≤ m ∧ m ≤ m' ∧ m' ≤ hi ∧ Obs w lo m a ∧ Ob w m e.1 e.2.1 e.2.2 ∧ InB m m' e.1 ∧ Obs w m' hi b := by
  induction a with
  | nil =>
    rintro lo ⟨m, h1, h2, h3, h4⟩
    exact ⟨lo, m, Nat.le_refl _, h1, h4.le, Nat.le_refl _, h2, h3, h4⟩
  | cons x r ih =>
    rintro lo ⟨m0, h1, h2, h3, h4⟩
    obtain ⟨m, m', h5, h6, h7, h8, h9⟩ := ih h4
    exact ⟨m, m', by omega, h6, h7, ⟨m0, h1, h2, h3, h8⟩, h9⟩
theorem Obs.join {w : World} {a b : List Sl} {e : Sl} {m m' hi : Nat} (h6 : m ≤ m') (h2 : Ob w m e.1 e.2.1 e.2.2) (h3 : InB m m' e.1) (h4 : Obs w m' hi b) : ∀ {lo : Nat}, Obs w lo m a → Obs w lo hi (a ++ e :: b) := by
  induction a with
  | nil => exact fun h => ⟨m', Nat.le_trans h h6, h2.mono h, fun ad ha => ⟨Nat.le_trans h (h3 ad ha).1, (h3 ad ha).2⟩, h4⟩
  | cons x r ih => rintro lo ⟨m0, h1, h5, h7, h8⟩; exact ⟨m0, h1, h5, h7, ih h8⟩
theorem Obs.by_ {w : World} {es : List Sl} : ∀ {lo hi : Nat}, Obs w lo hi es → ∀ e, e ∈ es → By w e.1 e.2.2 := by
  induction es with
  | nil => intro lo hi _ e he; simp at he
  | cons x r ih =>
    rintro lo hi ⟨m, h1, h2, h3, h4⟩ e he
    rcases List.mem_cons.1 he with rfl | he
    · exact h2.by_
    · exact ih h4 e he
theorem Obs.inB {w : World} {es : List Sl} : ∀ {lo hi : Nat}, Obs w lo hi es → ∀ e, e ∈ es → InB lo hi e.1 := by
  induction es with
  | nil => intro lo hi _ e he; simp at he
  | cons x r ih =>
    rintro lo hi ⟨m, h1, h2, h3, h4⟩ e he ad ha
    rcases List.mem_cons.1 he with rfl | he
    · have := h3 ad ha; have := h4.le; omega
    · have := ih h4 e he ad ha; omega
/-- What changed lies in the blocks from lo to before hi, or is new. -/
def Kp (lo hi : Nat) (w w' : World) : Prop := Below lo w w' ∧ ∀ k, hi ≤ k → k < w.heap.size → w'.heap[k]? = w.heap[k]?
theorem Kp.refl (lo hi : Nat) (w : World) : Kp lo hi w w := ⟨Below.refl _ _, fun _ _ _ => rfl⟩
theorem Kp.trans {lo hi : Nat} {w w1 w2 : World} (h : Kp lo hi w w1) (h' : Kp lo hi w1 w2) : Kp lo hi w w2 :=
  ⟨h.1.trans h'.1, fun k hk hs => (h'.2 k hk (Nat.lt_of_lt_of_le hs h.1.size)).trans (h.2 k hk hs)⟩
theorem Kp.drewN {lo hi : Nat} {w w1 : World} (h : Kp lo hi w w1) (m : Nat) : Kp lo hi w (w1.drewN m) := ⟨below_drewN h.1 m, h.2⟩
theorem Kp.of_grown {lo hi : Nat} {w w' : World} {A : Option Addr} {n c : Nat} (hg : w.grownBy w' (Value.slice A n c).ownBlock) (hA : InB lo hi A) (hlo : lo ≤ w.heap.size) : Kp lo hi w w' := by
  refine ⟨below_grown (Below.refl _ _) hg hA (Nat.le_refl _) hlo, fun k hk hs => hg.block k hs ?_⟩
  intro he
  cases A with
  | none => simp [Value.ownBlock] at he
  | some ad =>
    have := hA ad rfl
    simp [Value.ownBlock] at he
    omega
theorem Kp.wide {lo hi lo' hi' : Nat} {w w' : World} (h : Kp lo hi w w') (h1 : lo' ≤ lo) (h2 : hi ≤ hi') : Kp lo' hi' w w' := ⟨h.1.mono h1, fun k hk hs => h.2 k (by omega) hs⟩
theorem Kp.ob {lo hi lo' c : Nat} {w w' : World} {A : Option Addr} {bs : List UInt8} (h : Kp lo hi w w') (ho : Ob w lo' A c bs) (hh : hi ≤ lo') : Ob w' lo' A c bs :=
  ho.keepB fun ad ha => h.2 _ (by have := ho.inB ad ha; omega) (ho.inB ad ha).2
theorem Kp.obs {lo hi lo' hi' : Nat} {w w' : World} {es : List Sl} (h : Kp lo hi w w') (ho : Obs w lo' hi' es) (hh : hi ≤ lo') (hs : hi' ≤ w.heap.size) : Obs w' lo' hi' es :=
  ho.keep fun k hk hk2 => h.2 k (by omega) (by omega)
end Go.Proofs.Ytbaojeiinjjlcaa
