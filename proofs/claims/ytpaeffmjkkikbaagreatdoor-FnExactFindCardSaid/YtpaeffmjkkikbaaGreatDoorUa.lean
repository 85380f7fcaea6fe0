/- Lists of elements of several cells: read, filled, owned; slices of bytes in blocks of their own. Files, links and turns of a disk: read, and their sizes. Files, links and turns of a disk: copied into slices of one's own. Files, links and turns of a disk: compared with their like. Directories: what is found, taken away, put in: the reference. -/
import Derived.Test.YtpaeffmjkkikbaaGreatDoorOc
import Derived.Deep.RegionHeld3
import Derived.Deep.DeepCutAuto
namespace Go.Proofs.YtpaeffmjkkikbaaGreatDoor
open Go.RowKit

set_option linter.unusedVariables false
set_option maxRecDepth 100000

section
variable {T : Type} {k : Nat} {enc : T → List Value} {w w' : World} {A : Option Addr} {xs : List T}
theorem SlL.below (h : SlL w A k enc xs) (hb : Below w.heap.size w w') : SlL w' A k enc xs := by
  rcases h with h | ⟨b, o, hA, h⟩
  · exact .inl h
  · exact .inr ⟨b, o, hA, fun i x hi j u hu => (hb.cell (World.block_lt_of_cell? w _ (h i x hi j u hu))).trans (h i x hi j u hu)⟩
theorem SlL.drewN (h : SlL w A k enc xs) (m : Nat) : SlL (w.drewN m) A k enc xs := h
theorem SlL.belowB {B' : Nat} (h : SlL w A k enc xs) (hb : Below B' w w') (hA : ∀ ad, A = some ad → xs ≠ [] → ad.block < B') : SlL w' A k enc xs := by
  by_cases hx : xs = []
  · exact .inl hx
  · rcases h with h | ⟨b, o, rfl, h⟩
    · exact .inl h
    · exact .inr ⟨b, o, rfl, fun i x hi j u hu => (hb.cell (p := ⟨b, o + (i * k + j), none⟩) (hA ⟨b, o, none⟩ rfl hx)).trans (h i x hi j u hu)⟩
theorem SlL.get (h : SlL w A k enc xs) {i : Nat} (hi : i < xs.length) (h0 : 0 < (enc xs[i]).length) : ∃ b o, A = some ⟨b, o, none⟩ ∧ b < w.heap.size ∧ ∀ j u, (enc xs[i])[j]? = some u → w.cell? ⟨b, o + (i * k + j), none⟩ = some u := by
  rcases h with h | ⟨b, o, hA, h⟩
  · rw [h] at hi; simp at hi
  · have e := List.getElem?_eq_getElem hi
    have h1 := h i _ e 0 _ (List.getElem?_eq_getElem h0)
    exact ⟨b, o, hA, World.block_lt_of_cell? w _ h1, fun j u hu => h i _ e j u hu⟩
theorem SlL.nil : SlL w A k enc [] := .inl rfl
theorem flat_len (hk : ∀ x, (enc x).length = k) (l : List T) : (l.flatMap enc).length = l.length * k := by
  induction l with
  | nil => simp
  | cons c r ih => simp only [List.flatMap_cons, List.length_append, List.length_cons, ih, hk, Nat.succ_mul]; omega
theorem flat_get (hk : ∀ x, (enc x).length = k) (l : List T) : ∀ (i : Nat) (c : T), l[i]? = some c → ∀ (j : Nat) (u : Value), (enc c)[j]? = some u → (l.flatMap enc)[i * k + j]? = some u := by
  induction l with
  | nil => intro i c h; simp at h
  | cons x r ih =>
    intro i c h j u hu
    have hj : j < k := by have := (List.getElem?_eq_some_iff.1 hu).1; rw [hk] at this; exact this
    rw [List.flatMap_cons]
    cases i with
    | zero =>
      simp only [List.getElem?_cons_zero] at h
      injection h with h
      subst h
      rw [Nat.zero_mul, Nat.zero_add, List.getElem?_append_left (by rw [hk]; exact hj)]
      exact hu
    | succ i =>
      rw [List.getElem?_append_right (by rw [hk, Nat.succ_mul]; omega), hk]
      have := ih i c (by simpa using h) j u hu
      rw [← this]
      congr 1
      rw [Nat.succ_mul]
      omega
theorem flat_snoc (l : List T) (c : T) : (l ++ [c]).flatMap enc = l.flatMap enc ++ enc c := by simp
theorem flat_take (hk : ∀ x, (enc x).length = k) (l : List T) (n : Nat) (hn : n ≤ l.length) : (l.flatMap enc).take (n * k) = (l.take n).flatMap enc := by
  conv => lhs; rw [← List.take_append_drop n l, List.flatMap_append]
  rw [List.take_left' (by rw [flat_len hk]; simp [hn])]
theorem flat_drop (hk : ∀ x, (enc x).length = k) (l : List T) (n : Nat) (hn : n ≤ l.length) : (l.flatMap enc).drop (n * k) = (l.drop n).flatMap enc := by
  conv => lhs; rw [← List.take_append_drop n l, List.flatMap_append]
  rw [List.drop_left' (by rw [flat_len hk]; simp [hn])]
theorem SlL.of_cells {b o : Nat} (hk : ∀ x, (enc x).length = k) (h : ∀ j u, (xs.flatMap enc)[j]? = some u → w.cell? ⟨b, o + j, none⟩ = some u) : SlL w (some ⟨b, o, none⟩) k enc xs :=
  .inr ⟨b, o, rfl, fun i x hi j u hu => h _ _ (flat_get hk xs i x hi j u hu)⟩
theorem Fill.sl {g N : Nat} {t : TypeId} (hk : ∀ x, (enc x).length = k) (h : Fill w g t N (xs.flatMap enc)) : SlL w (some ⟨g, 0, none⟩) k enc xs := by
  refine .inr ⟨g, 0, rfl, fun i x hi j u hu => ?_⟩
  have hi2 := flat_get hk xs i x hi j u hu
  obtain ⟨cur, fz, h1, hz, h2, h3, h4⟩ := h
  have hi' := (List.getElem?_eq_some_iff.1 hi2).1
  rw [← h3, List.getElem?_take_of_lt hi'] at hi2
  rw [Nat.zero_add, cell_of_row w g _ cur t fz h1]
  simpa using hi2
/-- A slice of elements that owns its block, from block lo on. -/
def Oe (e : TypeId) (k : Nat) (enc : T → List Value) (w : World) (lo : Nat) (A : Option Addr) (c : Nat) (xs : List T) : Prop := ownsG w lo e k (.slice A xs.length c) xs.length (xs.flatMap enc)
variable {e : TypeId} {lo c : Nat}
theorem Oe.sl (hk : ∀ x, (enc x).length = k) (h : Oe e k enc w lo A c xs) : SlL w A k enc xs := by
  rcases h.2 with ⟨h1, h2⟩ | ⟨g, cap, cur, fz, hv, _⟩
  · exact .inl (List.eq_nil_of_length_eq_zero h2)
  · injection hv with hv _ _
    exact .inr ⟨g, 0, hv, fun i x hi j u hu => by rw [Nat.zero_add]; exact ownsG.cells h (g := g) (by rw [hv]; rfl) _ _ (flat_get hk xs i x hi j u hu)⟩
theorem Oe.below {B' : Nat} (h : Oe e k enc w lo A c xs) (hb : Below B' w w') (hB : w.heap.size ≤ B') : Oe e k enc w' lo A c xs :=
  ownsG.below h hb fun k hk => Nat.lt_of_lt_of_le (ownsG.lt h k hk).2 hB
theorem Oe.belowB {B' hi : Nat} (h : Oe e k enc w lo A c xs) (hb : Below B' w w') (hi' : InB lo hi A) (hB : hi ≤ B') : Oe e k enc w' lo A c xs :=
  ownsG.below h hb fun k hk => by
    cases A with
    | none => simp [Value.ownBlock] at hk
    | some ad => have := (hi' ad rfl).2; simp [Value.ownBlock] at hk; omega
theorem Oe.alloc (h : Oe e k enc w lo A c xs) (o : Obj) : Oe e k enc (w.alloc o) lo A c xs := ownsG.alloc h o
theorem Oe.drewN (h : Oe e k enc w lo A c xs) (m : Nat) : Oe e k enc (w.drewN m) lo A c xs := h
theorem Oe.mono {lo' : Nat} (h : Oe e k enc w lo A c xs) (hl : lo' ≤ lo) : Oe e k enc w lo' A c xs := ownsG.mono h hl
theorem Oe.inB (h : Oe e k enc w lo A c xs) : InB lo w.heap.size A := by
  rintro ad rfl
  exact ownsG.lt h ad.block rfl
theorem Oe.cap (h : Oe e k enc w lo A c xs) : xs.length ≤ c := by
  rcases h.2 with ⟨hv, hn⟩ | ⟨g, cap, cur, fz, hv, _, _, _, hnc, _⟩
  · omega
  · injection hv with _ _ hv3
    omega
theorem Oe.of_fill {g N : Nat} (hk : ∀ x, (enc x).length = k) (h : Fill w g e (N * k) (xs.flatMap enc)) (hN : xs.length ≤ N) (hlo : lo ≤ g) (hm : N ≤ maxLen) : Oe e k enc w lo (some ⟨g, 0, none⟩) N xs := by
  obtain ⟨cur, fz, h1, hz, h2, h3, h4⟩ := h
  exact ⟨flat_len hk xs, .inr ⟨g, N, cur, fz, rfl, hlo, h1, hz, hN, hm, h2, by rw [← flat_len hk]; exact h3⟩⟩
theorem Oe.fill (h : Oe e k enc w lo A c xs) (hx : 0 < xs.length) : ∃ g, A = some ⟨g, 0, none⟩ ∧ lo ≤ g ∧ c ≤ maxLen ∧ xs.length ≤ c ∧ Fill w g e (c * k) [] := by
  rcases h.2 with ⟨h1, h2⟩ | ⟨g, cap, cur, fz, hv, hg, hh, hz, hc1, hc2, hc3, ht⟩
  · omega
  · injection hv with hv _ hv3
    subst hv3
    exact ⟨g, hv, hg, hc2, hc1, Fill.start hh hz (by omega)⟩
end
theorem Fill.two {w : World} {g N : Nat} {t : TypeId} {done : List Value} (h : Fill w g t N done) {k : Nat} (hk : k * 2 = done.length) (hlt : k * 2 + 2 ≤ N) (a b : Value) :
    Fill ((w.setCell ⟨g, k * 2, none⟩ a).setCell ⟨g, k * 2 + 1, none⟩ b) g t N (done ++ [a, b]) := by
  have h1 := h.step hk (by omega) a
  have h2 := h1.step (k := k * 2 + 1) (by simp; omega) (by omega) b
  simpa using h2
theorem Fill.three {w : World} {g N : Nat} {t : TypeId} {done : List Value} (h : Fill w g t N done) {k : Nat} (hk : k * 3 = done.length) (hlt : k * 3 + 3 ≤ N) (a b c : Value) :
    Fill (((w.setCell ⟨g, k * 3, none⟩ a).setCell ⟨g, k * 3 + 1, none⟩ b).setCell ⟨g, k * 3 + 2, none⟩ c) g t N (done ++ [a, b, c]) := by
  have h1 := h.step hk (by omega) a
  have h2 := h1.step (k := k * 3 + 1) (by simp; omega) (by omega) b
  have h3 := h2.step (k := k * 3 + 2) (by simp; omega) (by omega) c
  simpa using h3
theorem Fill.four {w : World} {g N : Nat} {t : TypeId} {done : List Value} (h : Fill w g t N done) {k : Nat} (hk : k * 4 = done.length) (hlt : k * 4 + 4 ≤ N) (a b c d : Value) :
    Fill ((((w.setCell ⟨g, k * 4, none⟩ a).setCell ⟨g, k * 4 + 1, none⟩ b).setCell ⟨g, k * 4 + 2, none⟩ c).setCell ⟨g, k * 4 + 3, none⟩ d) g t N (done ++ [a, b, c, d]) := by
  have h1 := h.step hk (by omega) a
  have h2 := h1.step (k := k * 4 + 1) (by simp; omega) (by omega) b
  have h3 := h2.step (k := k * 4 + 2) (by simp; omega) (by omega) c
  have h4 := h3.step (k := k * 4 + 3) (by simp; omega) (by omega) d
  simpa using h4

/-- A slice of bytes: where it begins, its capacity, its bytes. -/
abbrev Sl := Option Addr × Nat × List UInt8
abbrev slv (e : Sl) : Value := .slice e.1 e.2.2.length e.2.1
def tot (es : List Sl) : Nat := (es.map fun e => e.2.2.length).sum
theorem tot_succ {es : List Sl} {k : Nat} (hk : k < es.length) : tot (es.take (k + 1)) = tot (es.take k) + es[k].2.2.length := by
  rw [take_succ_get (List.getElem?_eq_getElem hk)]
  simp only [tot, List.map_append, List.map_cons, List.map_nil, List.sum_append, List.sum_cons, List.sum_nil, Nat.add_zero]
theorem tot_le (es : List Sl) (k : Nat) : tot (es.take k) ≤ tot es := by
  have h : tot (es.take k ++ es.drop k) = tot (es.take k) + tot (es.drop k) := by simp only [tot, List.map_append, List.sum_append]
  rw [List.take_append_drop] at h
  omega
theorem tot_get {es : List Sl} {k : Nat} (hk : k < es.length) : tot (es.take k) + es[k].2.2.length ≤ tot es := by
  rw [← tot_succ hk]
  exact tot_le _ _
/-- What is left of a budget. -/
def szR (left n : Int) : Int := if left < n then -1 else left - n
theorem szR_no {left n : Int} (h : left < n) : Hid (szR left n = -1) := if_pos h
theorem szR_yes {left n : Int} (h : ¬ left < n) : Hid (szR left n = left - n) := if_neg h
theorem szByteS_any (A : Option Addr) (n c : Nat) (left : Int) (w : World) (hn : n ≤ maxLen) (h0 : 0 ≤ left) (h1 : left ≤ 1048576) :
    Calls Tryz.prog 85 #[.slice A n c, .int .i64 left] w fun e w' => e = .returned (.int .i64 (szR left n)) ∧ w = w' := by
  unfold maxLen at hn
  by_cases h : left < n
  · have HS := szR_no h
    have h' : left - n < 0 := by omega
    go_enter Tryz.func85, Tryz.ntmps85
    go_wp2
    go_ret
    exact ⟨ret_int HS.out.symm, rfl⟩
  · have HS := szR_yes h
    have h' : ¬ left - n < 0 := by omega
    go_enter Tryz.func85, Tryz.ntmps85
    go_wp2
    go_ret
    exact ⟨ret_int HS.out.symm, rfl⟩
/-- Loads whose bytes lie in blocks of their own, one after the other, from block lo to before block hi. -/
def Obs (w : World) (lo hi : Nat) : List Sl → Prop
  | [] => lo ≤ hi
  | e :: r => ∃ m, lo ≤ m ∧ Ob w lo e.1 e.2.1 e.2.2 ∧ InB lo m e.1 ∧ Obs w m hi r
theorem Obs.le {w : World} {es : List Sl} : ∀ {lo hi : Nat}, Obs w lo hi es → lo ≤ hi := by
  induction es with
  | nil => exact fun h => h
  | cons e r ih =>
    rintro lo hi ⟨m, h1, _, _, h2⟩
    exact Nat.le_trans h1 (ih h2)
theorem Ob.keepB {w w' : World} {lo c : Nat} {A : Option Addr} {bs : List UInt8} (h : Ob w lo A c bs) (hk : ∀ ad, A = some ad → w'.heap[ad.block]? = w.heap[ad.block]?) : Ob w' lo A c bs := by
  obtain ⟨h1, h2⟩ := h
  refine ⟨h1, ?_⟩
  rcases h2 with h2 | ⟨g, cap, cur, fz, hv, h3, h4, h5⟩
  · exact .inl h2
  · injection hv with hv hv2 hv3
    exact .inr ⟨g, cap, cur, fz, by rw [hv, hv3], h3, (hk _ hv).trans h4, h5⟩
theorem Obs.keep {w w' : World} {es : List Sl} : ∀ {lo hi : Nat}, Obs w lo hi es → (∀ k, lo ≤ k → k < hi → w'.heap[k]? = w.heap[k]?) → Obs w' lo hi es := by
  induction es with
  | nil => exact fun h _ => h
  | cons e r ih =>
    rintro lo hi ⟨m, h1, h2, h3, h4⟩ hk
    have hl := h4.le
    exact ⟨m, h1, h2.keepB fun ad ha => hk _ (h3 ad ha).1 (by have := (h3 ad ha).2; omega), h3, ih h4 fun k hk1 hk2 => hk k (by omega) hk2⟩
theorem Obs.below {w w' : World} {es : List Sl} {lo hi B' : Nat} (h : Obs w lo hi es) (hb : Below B' w w') (hB : hi ≤ B') : Obs w' lo hi es :=
  h.keep fun k _ hk => hb.block k (by omega)
theorem Obs.snoc {w : World} {es : List Sl} {A : Option Addr} {c : Nat} {bs : List UInt8} {m hi : Nat} (h2 : Ob w m A c bs) (h3 : InB m hi A) (h4 : m ≤ hi) : ∀ {lo : Nat}, Obs w lo m es → Obs w lo hi (es ++ [(A, c, bs)]) := by
  induction es with
  | nil => exact fun h => ⟨hi, Nat.le_trans h h4, h2.mono h, fun ad ha => ⟨Nat.le_trans h (h3 ad ha).1, (h3 ad ha).2⟩, Nat.le_refl _⟩
  | cons e r ih => rintro lo ⟨m', h5, h6, h7, h8⟩; exact ⟨m', h5, h6, h7, ih h8⟩
theorem Obs.widen {w : World} {es : List Sl} {hi hi' : Nat} (hh : hi ≤ hi') : ∀ {lo : Nat}, Obs w lo hi es → Obs w lo hi' es := by
  induction es with
  | nil => exact fun h => Nat.le_trans h hh
  | cons e r ih => rintro lo ⟨m', h5, h6, h7, h8⟩; exact ⟨m', h5, h6, h7, ih h8⟩
theorem Obs.lower {w : World} {es : List Sl} {lo lo' hi : Nat} (hh : lo' ≤ lo) (h : Obs w lo hi es) : Obs w lo' hi es := by
  cases es with
  | nil => exact Nat.le_trans hh h
  | cons e r =>
    obtain ⟨m, h1, h2, h3, h4⟩ := h
    exact ⟨m, by omega, h2.mono hh, fun ad ha => ⟨Nat.le_trans hh (h3 ad ha).1, (h3 ad ha).2⟩, h4⟩
theorem Obs.split {w : World} {a b : List Sl} {e : Sl} {hi : Nat} : ∀ {lo : Nat}, Obs w lo hi (a ++ e :: b) → ∃ m m', lo ≤ m ∧ m ≤ m' ∧ m' ≤ hi ∧ Obs w lo m a ∧ Ob w m e.1 e.2.1 e.2.2 ∧ InB m m' e.1 ∧ Obs w m' hi b := by
  induction a with
  | nil =>
    rintro lo ⟨m, h1, h2, h3, h4⟩
    exact ⟨lo, m, Nat.le_refl _, h1, h4.le, Nat.le_refl _, h2, h3, h4⟩
  | cons x r ih =>
    rintro lo ⟨m0, h1, h2, h3, h4⟩
    obtain ⟨m, m', h5, h6, h7, h8, h9⟩ := ih h4
    exact ⟨m, m', by omega, h6, h7, ⟨m0, h1, h2, h3, h8⟩, h9⟩
theorem Obs.join {w : World} {a b : List Sl} {e : Sl} {m m' hi : Nat} (h6 : m ≤ m') (h2 : Ob w m e.1 e.2.1 e.2.2) (h3 : InB m m' e.1) (h4 : Obs w m' hi b) : ∀ {lo : Nat}, Obs w lo m a → Obs w lo hi (a ++ e :: b) := by
  induction a with
  | nil => exact fun h => ⟨m', Nat.le_trans h h6, h2.mono h, fun ad ha => ⟨Nat.le_trans h (h3 ad ha).1, (h3 ad ha).2⟩, h4⟩
  | cons x r ih => rintro lo ⟨m0, h1, h5, h7, h8⟩; exact ⟨m0, h1, h5, h7, ih h8⟩
theorem Obs.by_ {w : World} {es : List Sl} : ∀ {lo hi : Nat}, Obs w lo hi es → ∀ e, e ∈ es → By w e.1 e.2.2 := by
  induction es with
  | nil => intro lo hi _ e he; simp at he
  | cons x r ih =>
    rintro lo hi ⟨m, h1, h2, h3, h4⟩ e he
    rcases List.mem_cons.1 he with rfl | he
    · exact h2.by_
    · exact ih h4 e he
theorem Obs.inB {w : World} {es : List Sl} : ∀ {lo hi : Nat}, Obs w lo hi es → ∀ e, e ∈ es → InB lo hi e.1 := by
  induction es with
  | nil => intro lo hi _ e he; simp at he
  | cons x r ih =>
    rintro lo hi ⟨m, h1, h2, h3, h4⟩ e he ad ha
    rcases List.mem_cons.1 he with rfl | he
    · have := h3 ad ha; have := h4.le; omega
    · have := ih h4 e he ad ha; omega
/-- What changed lies in the blocks from lo to before hi, or is new. -/
def Kp (lo hi : Nat) (w w' : World) : Prop := Below lo w w' ∧ ∀ k, hi ≤ k → k < w.heap.size → w'.heap[k]? = w.heap[k]?
theorem Kp.refl (lo hi : Nat) (w : World) : Kp lo hi w w := ⟨Below.refl _ _, fun _ _ _ => rfl⟩
theorem Kp.trans {lo hi : Nat} {w w1 w2 : World} (h : Kp lo hi w w1) (h' : Kp lo hi w1 w2) : Kp lo hi w w2 :=
  ⟨h.1.trans h'.1, fun k hk hs => (h'.2 k hk (Nat.lt_of_lt_of_le hs h.1.size)).trans (h.2 k hk hs)⟩
theorem Kp.drewN {lo hi : Nat} {w w1 : World} (h : Kp lo hi w w1) (m : Nat) : Kp lo hi w (w1.drewN m) := ⟨below_drewN h.1 m, h.2⟩
theorem Kp.of_grown {lo hi : Nat} {w w' : World} {A : Option Addr} {n c : Nat} (hg : w.grownBy w' (Value.slice A n c).ownBlock) (hA : InB lo hi A) (hlo : lo ≤ w.heap.size) : Kp lo hi w w' := by
  refine ⟨below_grown (Below.refl _ _) hg hA (Nat.le_refl _) hlo, fun k hk hs => hg.block k hs ?_⟩
  intro he
  cases A with
  | none => simp [Value.ownBlock] at he
  | some ad =>
    have := hA ad rfl
    simp [Value.ownBlock] at he
    omega
theorem Kp.wide {lo hi lo' hi' : Nat} {w w' : World} (h : Kp lo hi w w') (h1 : lo' ≤ lo) (h2 : hi ≤ hi') : Kp lo' hi' w w' := ⟨h.1.mono h1, fun k hk hs => h.2 k (by omega) hs⟩
theorem Kp.ob {lo hi lo' c : Nat} {w w' : World} {A : Option Addr} {bs : List UInt8} (h : Kp lo hi w w') (ho : Ob w lo' A c bs) (hh : hi ≤ lo') : Ob w' lo' A c bs :=
  ho.keepB fun ad ha => h.2 _ (by have := ho.inB ad ha; omega) (ho.inB ad ha).2
theorem Kp.obs {lo hi lo' hi' : Nat} {w w' : World} {es : List Sl} (h : Kp lo hi w w') (ho : Obs w lo' hi' es) (hh : hi ≤ lo') (hs : hi' ≤ w.heap.size) : Obs w' lo' hi' es :=
  ho.keep fun k hk hk2 => h.2 k (by omega) (by omega)

set_option linter.unusedVariables false
set_option maxRecDepth 100000

abbrev Lk := ByteArray × Int
abbrev lkL (x : Lk) : List Value := [.string x.1, .int .i64 x.2]
abbrev lkV (x : Lk) : Value := .agg #[.string x.1, .int .i64 x.2]
abbrev Tn := Int × ByteArray × ByteArray × Int
abbrev tnL (x : Tn) : List Value := [.int .i64 x.1, .string x.2.1, .string x.2.2.1, .int .i64 x.2.2.2]
abbrev tnV (x : Tn) : Value := .agg #[.int .i64 x.1, .string x.2.1, .string x.2.2.1, .int .i64 x.2.2.2]
abbrev Fl := Int × Sl × Int
abbrev flL (x : Fl) : List Value := [.int .i64 x.1, .slice x.2.1.1 x.2.1.2.2.length x.2.1.2.1, .int .i64 x.2.2]
abbrev flV (x : Fl) : Value := .agg #[.int .i64 x.1, .slice x.2.1.1 x.2.1.2.2.length x.2.1.2.1, .int .i64 x.2.2]
theorem lk2 (x : Lk) : (lkL x).length = 2 := rfl
theorem tn4 (x : Tn) : (tnL x).length = 4 := rfl
theorem fl3 (x : Fl) : (flL x).length = 3 := rfl
abbrev Ks (w : World) (A : Option Addr) (xs : List Lk) : Prop := SlL w A 2 lkL xs
abbrev Ts (w : World) (A : Option Addr) (xs : List Tn) : Prop := SlL w A 4 tnL xs
def Fs (w : World) (A : Option Addr) (xs : List Fl) : Prop := SlL w A 3 flL xs ∧ ∀ e, e ∈ xs → By w e.2.1.1 e.2.1.2.2
section
variable {w w' : World} {A : Option Addr}
theorem Fs.below {xs : List Fl} (h : Fs w A xs) (hb : Below w.heap.size w w') : Fs w' A xs := ⟨h.1.below hb, fun e he => (h.2 e he).below hb⟩
theorem Fs.drewN {xs : List Fl} (h : Fs w A xs) (m : Nat) : Fs (w.drewN m) A xs := h
theorem Ks.get {xs : List Lk} (h : Ks w A xs) {k : Nat} (hk : k < xs.length) : ∃ b o, A = some ⟨b, o, none⟩ ∧ b < w.heap.size ∧ w.cell? ⟨b, o + k * 2, none⟩ = some (.string xs[k].1) ∧ w.cell? ⟨b, o + k * 2 + 1, none⟩ = some (.int .i64 xs[k].2) := by
  obtain ⟨b, o, hA, hb, h⟩ := SlL.get h hk (by simp)
  exact ⟨b, o, hA, hb, h 0 _ rfl, h 1 _ rfl⟩
theorem Ts.get {xs : List Tn} (h : Ts w A xs) {k : Nat} (hk : k < xs.length) : ∃ b o, A = some ⟨b, o, none⟩ ∧ b < w.heap.size ∧ w.cell? ⟨b, o + k * 4, none⟩ = some (.int .i64 xs[k].1) ∧ w.cell? ⟨b, o + k * 4 + 1, none⟩ = some (.string xs[k].2.1) ∧ w.cell? ⟨b, o + k * 4 + 2, none⟩ = some (.string xs[k].2.2.1) ∧ w.cell? ⟨b, o + k * 4 + 3, none⟩ = some (.int .i64 xs[k].2.2.2) := by
  obtain ⟨b, o, hA, hb, h⟩ := SlL.get h hk (by simp)
  exact ⟨b, o, hA, hb, h 0 _ rfl, h 1 _ rfl, h 2 _ rfl, h 3 _ rfl⟩
theorem Fs.get {xs : List Fl} (h : Fs w A xs) {k : Nat} (hk : k < xs.length) : ∃ b o, A = some ⟨b, o, none⟩ ∧ b < w.heap.size ∧ w.cell? ⟨b, o + k * 3, none⟩ = some (.int .i64 xs[k].1) ∧ w.cell? ⟨b, o + k * 3 + 1, none⟩ = some (.slice xs[k].2.1.1 xs[k].2.1.2.2.length xs[k].2.1.2.1) ∧ w.cell? ⟨b, o + k * 3 + 2, none⟩ = some (.int .i64 xs[k].2.2) ∧ By w xs[k].2.1.1 xs[k].2.1.2.2 := by
  obtain ⟨b, o, hA, hb, h1⟩ := SlL.get h.1 hk (by simp)
  exact ⟨b, o, hA, hb, h1 0 _ rfl, h1 1 _ rfl, h1 2 _ rfl, h.2 _ (List.getElem_mem hk)⟩
end
def ftot (xs : List Fl) : Nat := (xs.map fun e => e.2.1.2.2.length).sum
def ktot (xs : List Lk) : Nat := (xs.map fun e => e.1.size).sum
def ttot (xs : List Tn) : Nat := (xs.map fun e => e.2.1.size + e.2.2.1.size).sum
theorem sum_succ {T : Type} (f : T → Nat) {es : List T} {k : Nat} (hk : k < es.length) : ((es.take (k + 1)).map f).sum = ((es.take k).map f).sum + f es[k] := by
  rw [take_succ_get (List.getElem?_eq_getElem hk)]
  simp only [List.map_append, List.map_cons, List.map_nil, List.sum_append, List.sum_cons, List.sum_nil, Nat.add_zero]
theorem sum_le {T : Type} (f : T → Nat) (es : List T) (k : Nat) : ((es.take k).map f).sum ≤ (es.map f).sum := by
  have h : ((es.take k ++ es.drop k).map f).sum = ((es.take k).map f).sum + ((es.drop k).map f).sum := by simp only [List.map_append, List.sum_append]
  rw [List.take_append_drop] at h
  omega
theorem sum_get {T : Type} (f : T → Nat) {es : List T} {k : Nat} (hk : k < es.length) : ((es.take k).map f).sum + f es[k] ≤ (es.map f).sum := by
  rw [← sum_succ f hk]
  exact sum_le f es _
theorem cells_Link : Tryz.prog.cellsOf 79 = 2 := by kernel_rfl
theorem cells_Turn : Tryz.prog.cellsOf 82 = 4 := by kernel_rfl
theorem cells_File : Tryz.prog.cellsOf 77 = 3 := by kernel_rfl
theorem cells_Disk : Tryz.prog.cellsOf 26 = 6 := by kernel_rfl
theorem cellsInt_ : Tryz.prog.cellsOf 3 = 1 := by kernel_rfl
theorem cellsStr_ : Tryz.prog.cellsOf 9 = 1 := by kernel_rfl
theorem cellsBy_ : Tryz.prog.cellsOf 28 = 1 := by kernel_rfl
theorem cellsLk_ : Tryz.prog.cellsOf 23 = 1 := by kernel_rfl
theorem cellsTn_ : Tryz.prog.cellsOf 24 = 1 := by kernel_rfl
theorem cellsFl_ : Tryz.prog.cellsOf 22 = 1 := by kernel_rfl
abbrev bd (x : Int) : Prop := -9223372036854775808 ≤ x ∧ x ≤ 9223372036854775807
theorem rd_links {w : World} {A : Option Addr} {n c : Nat} (h : Rd Tryz.prog w 23 [.slice A n c]) : ∃ xs : List Lk, n = xs.length ∧ Ks w A xs ∧ xs.length ≤ maxLen ∧ ∀ x, x ∈ xs → x.1.size ≤ maxLen ∧ bd x.2 := by
  obtain ⟨A', c', cs, h1, h2, h3, h4⟩ := Rd.list (T := Lk) (size := 2) (enc := lkL) (G := fun x => x.1.size ≤ maxLen ∧ bd x.2) Tryz.underlying23 cells_Link (by decide) (by
    intro es hes
    obtain ⟨hl, hf⟩ := hes.struct Tryz.underlying79
    match es, hl.trans cells_Link with
    | [c0, c1], _ =>
      obtain ⟨s, e0, hs⟩ := (hf 0 _ rfl).string Tryz.underlying9
      obtain ⟨k, e1, w1⟩ := (hf 1 _ rfl).int Tryz.underlying3
      simp [cellsInt_, cellsStr_] at e0 e1
      exact ⟨(s, k), by rw [e0, e1], hs, i64_bd w1⟩) h
  injection h1 with h1 _
  injection h1 with h1 h1' h1''
  subst h1 h1' h1''
  exact ⟨cs, rfl, h4, h2, h3⟩
theorem rd_turns {w : World} {A : Option Addr} {n c : Nat} (h : Rd Tryz.prog w 24 [.slice A n c]) : ∃ xs : List Tn, n = xs.length ∧ Ts w A xs ∧ xs.length ≤ maxLen ∧ ∀ x, x ∈ xs → bd x.1 ∧ x.2.1.size ≤ maxLen ∧ x.2.2.1.size ≤ maxLen ∧ bd x.2.2.2 := by
  obtain ⟨A', c', cs, h1, h2, h3, h4⟩ := Rd.list (T := Tn) (size := 4) (enc := tnL) (G := fun x => bd x.1 ∧ x.2.1.size ≤ maxLen ∧ x.2.2.1.size ≤ maxLen ∧ bd x.2.2.2) Tryz.underlying24 cells_Turn (by decide) (by
    intro es hes
    obtain ⟨hl, hf⟩ := hes.struct Tryz.underlying82
    match es, hl.trans cells_Turn with
    | [c0, c1, c2, c3], _ =>
      obtain ⟨k, e0, w0⟩ := (hf 0 _ rfl).int Tryz.underlying3
      obtain ⟨s, e1, hs⟩ := (hf 1 _ rfl).string Tryz.underlying9
      obtain ⟨t, e2, ht⟩ := (hf 2 _ rfl).string Tryz.underlying9
      obtain ⟨i, e3, w3⟩ := (hf 3 _ rfl).int Tryz.underlying3
      simp [cellsInt_, cellsStr_] at e0 e1 e2 e3
      exact ⟨(k, s, t, i), by rw [e0, e1, e2, e3], i64_bd w0, hs, ht, i64_bd w3⟩) h
  injection h1 with h1 _
  injection h1 with h1 h1' h1''
  subst h1 h1' h1''
  exact ⟨cs, rfl, h4, h2, h3⟩
theorem rd_files {w : World} {A : Option Addr} {n c : Nat} (h : Rd Tryz.prog w 22 [.slice A n c]) : ∃ xs : List Fl, n = xs.length ∧ Fs w A xs ∧ xs.length ≤ maxLen ∧ ∀ x, x ∈ xs → bd x.1 ∧ x.2.1.2.2.length ≤ maxLen ∧ bd x.2.2 := by
  obtain ⟨A', c', cs, h1, h2, h3, h4⟩ := Rd.list (T := Fl) (size := 3) (enc := flL) (G := fun x => By w x.2.1.1 x.2.1.2.2 ∧ bd x.1 ∧ x.2.1.2.2.length ≤ maxLen ∧ bd x.2.2) Tryz.underlying22 cells_File (by decide) (by
    intro es hes
    obtain ⟨hl, hf⟩ := hes.struct Tryz.underlying77
    match es, hl.trans cells_File with
    | [c0, c1, c2], _ =>
      obtain ⟨k, e0, w0⟩ := (hf 0 _ rfl).int Tryz.underlying3
      have h1 : Rd Tryz.prog w 28 (([c0, c1, c2].drop 1).take (Tryz.prog.cellsOf 28)) := hf 1 _ rfl
      rw [cellsBy_] at h1
      obtain ⟨A', n', c', e1, _⟩ := h1.slice Tryz.underlying28
      rw [e1] at h1
      obtain ⟨xs, rfl, hg', hm'⟩ := rd_bytes h1
      obtain ⟨i, e2, w2⟩ := (hf 2 _ rfl).int Tryz.underlying3
      simp [cellsInt_] at e0 e1 e2
      exact ⟨(k, (A', c', xs), i), by rw [e0, e1, e2], hg', i64_bd w0, hm', i64_bd w2⟩) h
  injection h1 with h1 _
  injection h1 with h1 h1' h1''
  subst h1 h1' h1''
  exact ⟨cs, rfl, ⟨h4, fun e he => (h3 e he).1⟩, h2, fun e he => (h3 e he).2⟩
abbrev dkC (r f n : Int) (FA : Option Addr) (fn fc : Nat) (KA : Option Addr) (kn kc : Nat) (TA : Option Addr) (tn tc : Nat) : Array Value := #[.int .i64 r, .int .i64 f, .int .i64 n, .slice FA fn fc, .slice KA kn kc, .slice TA tn tc]
abbrev dkV (r f n : Int) (FA : Option Addr) (fn fc : Nat) (KA : Option Addr) (kn kc : Nat) (TA : Option Addr) (tn tc : Nat) : Value := .agg (dkC r f n FA fn fc KA kn kc TA tn tc)
theorem rd_disk {w : World} {vs : List Value} (h : Rd Tryz.prog w 26 vs) : ∃ (r f n : Int) (FA : Option Addr) (fs : List Fl) (fc : Nat) (KA : Option Addr) (ks : List Lk) (kc : Nat) (TA : Option Addr) (ts : List Tn) (tc : Nat),
    vs = [.int .i64 r, .int .i64 f, .int .i64 n, .slice FA fs.length fc, .slice KA ks.length kc, .slice TA ts.length tc] ∧ (bd r ∧ bd f ∧ bd n) ∧ (Fs w FA fs ∧ fs.length ≤ maxLen ∧ ∀ x, x ∈ fs → bd x.1 ∧ x.2.1.2.2.length ≤ maxLen ∧ bd x.2.2) ∧
    (Ks w KA ks ∧ ks.length ≤ maxLen ∧ ∀ x, x ∈ ks → x.1.size ≤ maxLen ∧ bd x.2) ∧ Ts w TA ts ∧ ts.length ≤ maxLen ∧ ∀ x, x ∈ ts → bd x.1 ∧ x.2.1.size ≤ maxLen ∧ x.2.2.1.size ≤ maxLen ∧ bd x.2.2.2 := by
  obtain ⟨hl, hf⟩ := h.struct Tryz.underlying26
  match vs, hl.trans cells_Disk with
  | [c0, c1, c2, c3, c4, c5], _ =>
    obtain ⟨r, e0, w0⟩ := (hf 0 _ rfl).int Tryz.underlying3
    obtain ⟨f, e1, w1⟩ := (hf 1 _ rfl).int Tryz.underlying3
    obtain ⟨n, e2, w2⟩ := (hf 2 _ rfl).int Tryz.underlying3
    have h3 : Rd Tryz.prog w 22 (([c0, c1, c2, c3, c4, c5].drop 3).take (Tryz.prog.cellsOf 22)) := hf 3 _ rfl
    have h4 : Rd Tryz.prog w 23 (([c0, c1, c2, c3, c4, c5].drop 4).take (Tryz.prog.cellsOf 23)) := hf 4 _ rfl
    have h5 : Rd Tryz.prog w 24 (([c0, c1, c2, c3, c4, c5].drop 5).take (Tryz.prog.cellsOf 24)) := hf 5 _ rfl
    rw [cellsFl_] at h3
    rw [cellsLk_] at h4
    rw [cellsTn_] at h5
    obtain ⟨FA, fn, fc, e3, _⟩ := h3.slice Tryz.underlying22
    rw [e3] at h3
    obtain ⟨fs, rfl, hF⟩ := rd_files h3
    obtain ⟨KA, kn, kc, e4, _⟩ := h4.slice Tryz.underlying23
    rw [e4] at h4
    obtain ⟨ks, rfl, hK⟩ := rd_links h4
    obtain ⟨TA, tn, tc, e5, _⟩ := h5.slice Tryz.underlying24
    rw [e5] at h5
    obtain ⟨ts, rfl, hT⟩ := rd_turns h5
    simp [cellsInt_] at e0 e1 e2 e3 e4 e5
    exact ⟨r, f, n, FA, fs, fc, KA, ks, kc, TA, ts, tc, by rw [e0, e1, e2, e3, e4, e5], ⟨i64_bd w0, i64_bd w1, i64_bd w2⟩, hF, hK, hT⟩
theorem szFile_any (x : Fl) (left : Int) (w : World) (hn : x.2.1.2.2.length ≤ maxLen) (h0 : 0 ≤ left) (h1 : left ≤ 1048576) :
    Calls Tryz.prog 47 #[flV x, .int .i64 left] w fun e w' => e = .returned (.int .i64 (szR left x.2.1.2.2.length)) ∧ Below w.heap.size w w' := by
  have hn' := hn
  unfold maxLen at hn'
  by_cases h : left < x.2.1.2.2.length
  · have HS := szR_no h
    go_enter Tryz.func47, Tryz.ntmps47
    go_wp2_with (go_at_call 85; refine (szByteS_any _ _ _ _ _ hn h0 h1).mono ?_; rintro e w' ⟨he, rfl⟩; rw [HS.out] at he; subst he)
    go_ret
    exact ⟨ret_int HS.out.symm, (by (repeat (first | exact Below.refl _ _ | (refine Below.alloc ?_ (by first | omega | (simp; done) | (simp; omega)) _) | (refine Below.drew ?_) | (refine below_drewN ?_ _) | (refine below_at1 ?_ (by first | omega | (simp; done) | (simp; omega))) | (refine Below.setCell ?_ (by first | omega | (simp; done) | (simp; omega)) _) | (refine Below.trans ?_ (Below.mono (by assumption) (by first | omega | (simp; done) | (simp; omega)))))))⟩
  · have HS := szR_yes h
    have h' : ¬ left - x.2.1.2.2.length < 0 := by omega
    go_enter Tryz.func47, Tryz.ntmps47
    go_wp2_with (go_at_call 85; refine (szByteS_any _ _ _ _ _ hn h0 h1).mono ?_; rintro e w' ⟨he, rfl⟩; rw [HS.out] at he; subst he)
    go_ret
    exact ⟨ret_int HS.out.symm, (by (repeat (first | exact Below.refl _ _ | (refine Below.alloc ?_ (by first | omega | (simp; done) | (simp; omega)) _) | (refine Below.drew ?_) | (refine below_drewN ?_ _) | (refine below_at1 ?_ (by first | omega | (simp; done) | (simp; omega))) | (refine Below.setCell ?_ (by first | omega | (simp; done) | (simp; omega)) _) | (refine Below.trans ?_ (Below.mono (by assumption) (by first | omega | (simp; done) | (simp; omega)))))))⟩
theorem szLink_any (x : Lk) (left : Int) (w : World) (hn : x.1.size ≤ maxLen) (h0 : 0 ≤ left) (h1 : left ≤ 1048576) :
    Calls Tryz.prog 48 #[lkV x, .int .i64 left] w fun e w' => e = .returned (.int .i64 (szR left x.1.size)) ∧ Below w.heap.size w w' := by
  unfold maxLen at hn
  by_cases h : left < x.1.size
  · have HS := szR_no h
    have h' : left - x.1.size < 0 := by omega
    go_enter Tryz.func48, Tryz.ntmps48
    go_wp2_with fail
    go_ret
    exact ⟨ret_int HS.out.symm, (by (repeat (first | exact Below.refl _ _ | (refine Below.alloc ?_ (by first | omega | (simp; done) | (simp; omega)) _) | (refine Below.drew ?_) | (refine below_drewN ?_ _) | (refine below_at1 ?_ (by first | omega | (simp; done) | (simp; omega))) | (refine Below.setCell ?_ (by first | omega | (simp; done) | (simp; omega)) _) | (refine Below.trans ?_ (Below.mono (by assumption) (by first | omega | (simp; done) | (simp; omega)))))))⟩
  · have HS := szR_yes h
    have h' : ¬ left - x.1.size < 0 := by omega
    go_enter Tryz.func48, Tryz.ntmps48
    go_wp2_with fail
    go_ret
    exact ⟨ret_int HS.out.symm, (by (repeat (first | exact Below.refl _ _ | (refine Below.alloc ?_ (by first | omega | (simp; done) | (simp; omega)) _) | (refine Below.drew ?_) | (refine below_drewN ?_ _) | (refine below_at1 ?_ (by first | omega | (simp; done) | (simp; omega))) | (refine Below.setCell ?_ (by first | omega | (simp; done) | (simp; omega)) _) | (refine Below.trans ?_ (Below.mono (by assumption) (by first | omega | (simp; done) | (simp; omega)))))))⟩
theorem szTurn_any (x : Tn) (left : Int) (w : World) (hn : x.2.1.size ≤ maxLen) (hn2 : x.2.2.1.size ≤ maxLen) (h0 : 0 ≤ left) (h1 : left ≤ 1048576) :
    Calls Tryz.prog 49 #[tnV x, .int .i64 left] w fun e w' => e = .returned (.int .i64 (szR left (x.2.1.size + x.2.2.1.size : Nat))) ∧ Below w.heap.size w w' := by
  unfold maxLen at hn hn2
  by_cases h : left < x.2.1.size
  · have HS : Hid (szR left (x.2.1.size + x.2.2.1.size : Nat) = -1) := szR_no (by omega)
    have h' : left - x.2.1.size < 0 := by omega
    go_enter Tryz.func49, Tryz.ntmps49
    go_wp2_with fail
    go_ret
    exact ⟨ret_int HS.out.symm, (by (repeat (first | exact Below.refl _ _ | (refine Below.alloc ?_ (by first | omega | (simp; done) | (simp; omega)) _) | (refine Below.drew ?_) | (refine below_drewN ?_ _) | (refine below_at1 ?_ (by first | omega | (simp; done) | (simp; omega))) | (refine Below.setCell ?_ (by first | omega | (simp; done) | (simp; omega)) _) | (refine Below.trans ?_ (Below.mono (by assumption) (by first | omega | (simp; done) | (simp; omega)))))))⟩
  have h' : ¬ left - x.2.1.size < 0 := by omega
  by_cases h2 : left - x.2.1.size < x.2.2.1.size
  · have HS : Hid (szR left (x.2.1.size + x.2.2.1.size : Nat) = -1) := szR_no (by omega)
    have h2' : left - x.2.1.size - x.2.2.1.size < 0 := by omega
    go_enter Tryz.func49, Tryz.ntmps49
    go_wp2_with fail
    go_ret
    exact ⟨ret_int HS.out.symm, (by (repeat (first | exact Below.refl _ _ | (refine Below.alloc ?_ (by first | omega | (simp; done) | (simp; omega)) _) | (refine Below.drew ?_) | (refine below_drewN ?_ _) | (refine below_at1 ?_ (by first | omega | (simp; done) | (simp; omega))) | (refine Below.setCell ?_ (by first | omega | (simp; done) | (simp; omega)) _) | (refine Below.trans ?_ (Below.mono (by assumption) (by first | omega | (simp; done) | (simp; omega)))))))⟩
  · have HS : Hid (szR left (x.2.1.size + x.2.2.1.size : Nat) = left - (x.2.1.size + x.2.2.1.size : Nat)) := szR_yes (by omega)
    have h2' : ¬ left - x.2.1.size - x.2.2.1.size < 0 := by omega
    go_enter Tryz.func49, Tryz.ntmps49
    go_wp2_with fail
    go_ret
    exact ⟨ret_int (by have h9 := HS.out; simp only [Int.natCast_add] at h9; rw [h9]; omega), (by (repeat (first | exact Below.refl _ _ | (refine Below.alloc ?_ (by first | omega | (simp; done) | (simp; omega)) _) | (refine Below.drew ?_) | (refine below_drewN ?_ _) | (refine below_at1 ?_ (by first | omega | (simp; done) | (simp; omega))) | (refine Below.setCell ?_ (by first | omega | (simp; done) | (simp; omega)) _) | (refine Below.trans ?_ (Below.mono (by assumption) (by first | omega | (simp; done) | (simp; omega)))))))⟩
set_option maxHeartbeats 400000 in
theorem szFileS_any (A : Option Addr) (c : Nat) (es : List Fl) (left : Int) (w : World) (ha : Fs w A es) (hl : es.length ≤ maxLen) (hm : ∀ e, e ∈ es → e.2.1.2.2.length ≤ maxLen) (h0 : 0 ≤ left) (h1 : left ≤ 1048576) :
    Calls Tryz.prog 19 #[.slice A es.length c, .int .i64 left] w fun e w' => e = .returned (.int .i64 (szR left (es.length + ftot es))) ∧ Below w.heap.size w w' := by
  have hl' := hl
  unfold maxLen at hl'
  by_cases h : left < es.length
  · have HS : Hid (szR left (es.length + ftot es) = -1) := szR_no (by omega)
    have h' : left - es.length < 0 := by omega
    go_enter Tryz.func19, Tryz.ntmps19
    go_wp2
    go_ret
    exact ⟨ret_int HS.out.symm, Below.refl _ _⟩
  · have h' : ¬ left - es.length < 0 := by omega
    go_enter Tryz.func19, Tryz.ntmps19
    go_wp2
    go_loopw [1, 5] (fun lv i wr => ∃ k : Nat, k ≤ es.length ∧ i = .int .i64 k ∧ lv = .int .i64 (left - es.length - ftot (es.take k)) ∧ (ftot (es.take k) : Int) ≤ left - es.length ∧ Below w.heap.size w wr) (fun _ i _ => es.length - (intOf i).toNat)
    case atStart => exact ⟨0, Nat.zero_le _, rfl, by simp [ftot], by simp [ftot]; omega, Below.refl _ _⟩
    case round =>
      obtain ⟨k, hk, rfl, rfl, ht, hb⟩ := hrel
      by_cases hlt : k < es.length
      · have hlt' : (k : Int) < es.length := by omega
        obtain ⟨b, o, rfl, hbs, x0, x1, x2, hy⟩ := Fs.get (ha.below hb) hlt
        have hn := hm _ (List.getElem_mem hlt)
        have hs : ftot (es.take (k + 1)) = ftot (es.take k) + es[k].2.1.2.2.length := sum_succ _ hlt
        have hg : ftot (es.take k) + es[k].2.1.2.2.length ≤ ftot es := sum_get _ hlt
        by_cases hz : left - es.length - ftot (es.take k) < (es[k].2.1.2.2.length : Nat)
        · have HS : Hid (szR left (es.length + ftot es) = -1) := szR_no (by omega)
          have HZ := szR_no hz
          go_wp2_with (go_at_call 47; refine (szFile_any es[k] _ _ hn (by omega) (by omega)).mono ?_; rintro e w2 ⟨he, hb2⟩; rw [HZ.out] at he; subst he)
          go_ret
          exact ⟨ret_int HS.out.symm, hb.trans (hb2.mono hb.size)⟩
        · have HZ := szR_yes hz
          have hz' : ¬ left - es.length - ftot (es.take k) - (es[k].2.1.2.2.length : Nat) < 0 := by omega
          go_wp2_with (go_at_call 47; refine (szFile_any es[k] _ _ hn (by omega) (by omega)).mono ?_; rintro e w2 ⟨he, hb2⟩; rw [HZ.out] at he; subst he)
          go_roundw
          case rel => exact ⟨k + 1, by omega, by go_num, by rw [hs]; go_num, by rw [hs]; omega, hb.trans (hb2.mono hb.size)⟩
          case measure => simp [intOf]; omega
      · have hlt' : ¬ ((k : Int) < es.length) := by omega
        have hk' : k = es.length := by omega
        have ht' : es.take k = es := by rw [hk']; exact List.take_length
        rw [ht'] at ht ⊢
        have HS : Hid (szR left (es.length + ftot es) = left - (es.length + ftot es)) := szR_yes (by omega)
        clear hk' ht'
        go_wp2
        go_ret
        exact ⟨ret_int (by rw [HS.out]; omega), hb⟩
set_option maxHeartbeats 400000 in
theorem szLinkS_any (A : Option Addr) (c : Nat) (es : List Lk) (left : Int) (w : World) (ha : Ks w A es) (hl : es.length ≤ maxLen) (hm : ∀ e, e ∈ es → e.1.size ≤ maxLen) (h0 : 0 ≤ left) (h1 : left ≤ 1048576) :
    Calls Tryz.prog 20 #[.slice A es.length c, .int .i64 left] w fun e w' => e = .returned (.int .i64 (szR left (es.length + ktot es))) ∧ Below w.heap.size w w' := by
  have hl' := hl
  unfold maxLen at hl'
  by_cases h : left < es.length
  · have HS : Hid (szR left (es.length + ktot es) = -1) := szR_no (by omega)
    have h' : left - es.length < 0 := by omega
    go_enter Tryz.func20, Tryz.ntmps20
    go_wp2
    go_ret
    exact ⟨ret_int HS.out.symm, Below.refl _ _⟩
  · have h' : ¬ left - es.length < 0 := by omega
    go_enter Tryz.func20, Tryz.ntmps20
    go_wp2
    go_loopw [1, 5] (fun lv i wr => ∃ k : Nat, k ≤ es.length ∧ i = .int .i64 k ∧ lv = .int .i64 (left - es.length - ktot (es.take k)) ∧ (ktot (es.take k) : Int) ≤ left - es.length ∧ Below w.heap.size w wr) (fun _ i _ => es.length - (intOf i).toNat)
    case atStart => exact ⟨0, Nat.zero_le _, rfl, by simp [ktot], by simp [ktot]; omega, Below.refl _ _⟩
    case round =>
      obtain ⟨k, hk, rfl, rfl, ht, hb⟩ := hrel
      by_cases hlt : k < es.length
      · have hlt' : (k : Int) < es.length := by omega
        obtain ⟨b, o, rfl, hbs, x0, x1⟩ := Ks.get (ha.below hb) hlt
        have hn := hm _ (List.getElem_mem hlt)
        have hs : ktot (es.take (k + 1)) = ktot (es.take k) + es[k].1.size := sum_succ _ hlt
        have hg : ktot (es.take k) + es[k].1.size ≤ ktot es := sum_get _ hlt
        by_cases hz : left - es.length - ktot (es.take k) < (es[k].1.size : Nat)
        · have HS : Hid (szR left (es.length + ktot es) = -1) := szR_no (by omega)
          have HZ := szR_no hz
          go_wp2_with (go_at_call 48; refine (szLink_any es[k] _ _ hn (by omega) (by omega)).mono ?_; rintro e w2 ⟨he, hb2⟩; rw [HZ.out] at he; subst he)
          go_ret
          exact ⟨ret_int HS.out.symm, hb.trans (hb2.mono hb.size)⟩
        · have HZ := szR_yes hz
          have hz' : ¬ left - es.length - ktot (es.take k) - (es[k].1.size : Nat) < 0 := by omega
          go_wp2_with (go_at_call 48; refine (szLink_any es[k] _ _ hn (by omega) (by omega)).mono ?_; rintro e w2 ⟨he, hb2⟩; rw [HZ.out] at he; subst he)
          go_roundw
          case rel => exact ⟨k + 1, by omega, by go_num, by rw [hs]; go_num, by rw [hs]; omega, hb.trans (hb2.mono hb.size)⟩
          case measure => simp [intOf]; omega
      · have hlt' : ¬ ((k : Int) < es.length) := by omega
        have hk' : k = es.length := by omega
        have ht' : es.take k = es := by rw [hk']; exact List.take_length
        rw [ht'] at ht ⊢
        have HS : Hid (szR left (es.length + ktot es) = left - (es.length + ktot es)) := szR_yes (by omega)
        clear hk' ht'
        go_wp2
        go_ret
        exact ⟨ret_int (by rw [HS.out]; omega), hb⟩
set_option maxHeartbeats 400000 in
theorem szTurnS_any (A : Option Addr) (c : Nat) (es : List Tn) (left : Int) (w : World) (ha : Ts w A es) (hl : es.length ≤ maxLen) (hm : ∀ e, e ∈ es → e.2.1.size ≤ maxLen ∧ e.2.2.1.size ≤ maxLen) (h0 : 0 ≤ left) (h1 : left ≤ 1048576) :
    Calls Tryz.prog 21 #[.slice A es.length c, .int .i64 left] w fun e w' => e = .returned (.int .i64 (szR left (es.length + ttot es))) ∧ Below w.heap.size w w' := by
  have hl' := hl
  unfold maxLen at hl'
  by_cases h : left < es.length
  · have HS : Hid (szR left (es.length + ttot es) = -1) := szR_no (by omega)
    have h' : left - es.length < 0 := by omega
    go_enter Tryz.func21, Tryz.ntmps21
    go_wp2
    go_ret
    exact ⟨ret_int HS.out.symm, Below.refl _ _⟩
  · have h' : ¬ left - es.length < 0 := by omega
    go_enter Tryz.func21, Tryz.ntmps21
    go_wp2
    go_loopw [1, 5] (fun lv i wr => ∃ k : Nat, k ≤ es.length ∧ i = .int .i64 k ∧ lv = .int .i64 (left - es.length - ttot (es.take k)) ∧ (ttot (es.take k) : Int) ≤ left - es.length ∧ Below w.heap.size w wr) (fun _ i _ => es.length - (intOf i).toNat)
    case atStart => exact ⟨0, Nat.zero_le _, rfl, by simp [ttot], by simp [ttot]; omega, Below.refl _ _⟩
    case round =>
      obtain ⟨k, hk, rfl, rfl, ht, hb⟩ := hrel
      by_cases hlt : k < es.length
      · have hlt' : (k : Int) < es.length := by omega
        obtain ⟨b, o, rfl, hbs, x0, x1, x2, x3⟩ := Ts.get (ha.below hb) hlt
        have hn := hm _ (List.getElem_mem hlt)
        have hs : ttot (es.take (k + 1)) = ttot (es.take k) + (es[k].2.1.size + es[k].2.2.1.size) := sum_succ _ hlt
        have hg : ttot (es.take k) + (es[k].2.1.size + es[k].2.2.1.size) ≤ ttot es := sum_get _ hlt
        by_cases hz : left - es.length - ttot (es.take k) < ((es[k].2.1.size + es[k].2.2.1.size) : Nat)
        · have HS : Hid (szR left (es.length + ttot es) = -1) := szR_no (by omega)
          have HZ := szR_no hz
          go_wp2_with (go_at_call 49; refine (szTurn_any es[k] _ _ hn.1 hn.2 (by omega) (by omega)).mono ?_; rintro e w2 ⟨he, hb2⟩; rw [HZ.out] at he; subst he)
          go_ret
          exact ⟨ret_int HS.out.symm, hb.trans (hb2.mono hb.size)⟩
        · have HZ := szR_yes hz
          have hz' : ¬ left - es.length - ttot (es.take k) - ((es[k].2.1.size + es[k].2.2.1.size) : Nat) < 0 := by omega
          go_wp2_with (go_at_call 49; refine (szTurn_any es[k] _ _ hn.1 hn.2 (by omega) (by omega)).mono ?_; rintro e w2 ⟨he, hb2⟩; rw [HZ.out] at he; subst he)
          go_roundw
          case rel => exact ⟨k + 1, by omega, by go_num, by rw [hs]; go_num, by rw [hs]; omega, hb.trans (hb2.mono hb.size)⟩
          case measure => simp [intOf]; omega
      · have hlt' : ¬ ((k : Int) < es.length) := by omega
        have hk' : k = es.length := by omega
        have ht' : es.take k = es := by rw [hk']; exact List.take_length
        rw [ht'] at ht ⊢
        have HS : Hid (szR left (es.length + ttot es) = left - (es.length + ttot es)) := szR_yes (by omega)
        clear hk' ht'
        go_wp2
        go_ret
        exact ⟨ret_int (by rw [HS.out]; omega), hb⟩
theorem szDisk_any (r f n : Int) (FA : Option Addr) (fs : List Fl) (fc : Nat) (KA : Option Addr) (ks : List Lk) (kc : Nat) (TA : Option Addr) (ts : List Tn) (tc : Nat) (w : World)
    (hF : Fs w FA fs) (hFl : fs.length ≤ maxLen) (hFm : ∀ e, e ∈ fs → e.2.1.2.2.length ≤ maxLen) (hK : Ks w KA ks) (hKl : ks.length ≤ maxLen) (hKm : ∀ e, e ∈ ks → e.1.size ≤ maxLen) (hT : Ts w TA ts) (hTl : ts.length ≤ maxLen) (hTm : ∀ e, e ∈ ts → e.2.1.size ≤ maxLen ∧ e.2.2.1.size ≤ maxLen) :
    Calls Tryz.prog 5 #[dkV r f n FA fs.length fc KA ks.length kc TA ts.length tc, .int .i64 1048576] w fun e w' => e = .returned (.int .i64 (szR 1048576 ((fs.length + ftot fs) + (ks.length + ktot ks) + (ts.length + ttot ts)))) ∧ Below w.heap.size w w' := by
  have hb0 : Below w.heap.size w (w.alloc (.cells (dkC r f n FA fs.length fc KA ks.length kc TA ts.length tc) 26)) := by (repeat (first | exact Below.refl _ _ | (refine Below.alloc ?_ (by first | omega | (simp; done) | (simp; omega)) _) | (refine Below.drew ?_) | (refine below_drewN ?_ _) | (refine below_at1 ?_ (by first | omega | (simp; done) | (simp; omega))) | (refine Below.setCell ?_ (by first | omega | (simp; done) | (simp; omega)) _) | (refine Below.trans ?_ (Below.mono (by assumption) (by first | omega | (simp; done) | (simp; omega))))))
  by_cases h1 : (1048576 : Int) < fs.length + ftot fs
  · have HS : Hid (szR 1048576 ((fs.length + ftot fs) + (ks.length + ktot ks) + (ts.length + ttot ts)) = -1) := szR_no (by omega)
    have HZ := szR_no h1
    go_enter Tryz.func5, Tryz.ntmps5
    go_wp2_with (go_at_call 19; refine (szFileS_any _ _ fs _ _ (hF.below hb0) hFl hFm (by omega) (by omega)).mono ?_; rintro e w1 ⟨he, hb1⟩; rw [HZ.out] at he; subst he)
    go_ret
    exact ⟨ret_int HS.out.symm, hb0.trans (hb1.mono hb0.size)⟩
  have HZ1 := szR_yes h1
  have h1' : ¬ (1048576 : Int) - (fs.length + ftot fs) < 0 := by omega
  have h1'' : (1048576 : Int) - (fs.length + ftot fs) ≤ 1048576 := by omega
  have h1n : 0 ≤ (1048576 : Int) - (fs.length + ftot fs) := by omega
  generalize hl1 : (1048576 : Int) - (fs.length + ftot fs) = l1 at HZ1 h1' h1'' h1n
  have L1 : Hid ((1048576 : Int) - (fs.length + ftot fs) = l1) := hl1
  clear hl1
  go_enter Tryz.func5, Tryz.ntmps5
  go_wp2_with fail
  refine (szFileS_any _ _ fs _ _ (hF.below hb0) hFl hFm (by omega) (by omega)).mono ?_
  rintro e w1 ⟨he, hb1⟩
  rw [HZ1.out] at he
  subst he
  have ht1 := hb0.trans (hb1.mono hb0.size)
  obtain ⟨B1, q1, r1, z1⟩ := keep_blk hb1 (g := w.heap.size) (by repeat (first | assumption | exact heap_alloc_at _ (by first | rfl | (simp; done) | omega) | refine heap_alloc_of _ ?_ | refine heap_setCell_of _ (by first | omega | (simp; done) | (simp; omega)) ?_ | refine heap_setCell_same _ ?_ | exact heap_at1_same (by first | omega | (simp; done) | (simp; omega)) | refine heap_at1_of (by first | omega | (simp; done) | (simp; omega)) ?_))
  have k1 : w1.cell? ⟨w.heap.size, 4, none⟩ = some (.slice KA ks.length kc) := q1 4
  have j1 : w1.cell? ⟨w.heap.size, 5, none⟩ = some (.slice TA ts.length tc) := q1 5
  clear B1 q1 r1
  by_cases h2 : l1 < ks.length + ktot ks
  · have HS : Hid (szR 1048576 ((fs.length + ftot fs) + (ks.length + ktot ks) + (ts.length + ttot ts)) = -1) := szR_no (by have := L1.out; omega)
    have HZ := szR_no h2
    go_wp2_with (go_at_call 20; refine (szLinkS_any _ _ ks _ _ (hK.below ht1) hKl hKm h1n h1'').mono ?_; rintro e w2 ⟨he, hb2⟩; rw [HZ.out] at he; subst he)
    go_ret
    exact ⟨ret_int HS.out.symm, ht1.trans (hb2.mono ht1.size)⟩
  have HZ2 := szR_yes h2
  have h2' : ¬ l1 - (ks.length + ktot ks) < 0 := by omega
  have h2'' : l1 - (ks.length + ktot ks) ≤ 1048576 := by omega
  have h2n : 0 ≤ l1 - (ks.length + ktot ks) := by omega
  generalize hl2 : l1 - (ks.length + ktot ks) = l2 at HZ2 h2' h2'' h2n
  have L2 : Hid (l1 - (ks.length + ktot ks) = l2) := hl2
  clear hl2
  go_wp2_with fail
  refine (szLinkS_any _ _ ks _ _ (hK.below ht1) hKl hKm h1n h1'').mono ?_
  rintro e w2 ⟨he, hb2⟩
  rw [HZ2.out] at he
  subst he
  have ht2 := ht1.trans (hb2.mono ht1.size)
  have j2 : w2.cell? ⟨w.heap.size, 5, none⟩ = some (.slice TA ts.length tc) := (hb2.cell (p := ⟨w.heap.size, 5, none⟩) z1).trans j1
  have z2 : w.heap.size < w2.heap.size := Nat.lt_of_lt_of_le z1 hb2.size
  by_cases h3 : l2 < ts.length + ttot ts
  · have HS : Hid (szR 1048576 ((fs.length + ftot fs) + (ks.length + ktot ks) + (ts.length + ttot ts)) = -1) := szR_no (by have := L1.out; have := L2.out; omega)
    have HZ := szR_no h3
    go_wp2_with (go_at_call 21; refine (szTurnS_any _ _ ts _ _ (hT.below ht2) hTl hTm h2n h2'').mono ?_; rintro e w3 ⟨he, hb3⟩; rw [HZ.out] at he; subst he)
    go_ret
    exact ⟨ret_int HS.out.symm, ht2.trans (hb3.mono ht2.size)⟩
  · have HZ3 := szR_yes h3
    have h3' : ¬ l2 - (ts.length + ttot ts) < 0 := by omega
    have HS : Hid (szR 1048576 ((fs.length + ftot fs) + (ks.length + ktot ks) + (ts.length + ttot ts)) = l2 - (ts.length + ttot ts)) := by
      have := L1.out
      have := L2.out
      show _ = _
      rw [(szR_yes (by omega) : Hid (szR 1048576 ((fs.length + ftot fs) + (ks.length + ktot ks) + (ts.length + ttot ts)) = _)).out]
      omega
    go_wp2_with (go_at_call 21; refine (szTurnS_any _ _ ts _ _ (hT.below ht2) hTl hTm h2n h2'').mono ?_; rintro e w3 ⟨he, hb3⟩; rw [HZ3.out] at he; subst he)
    go_ret
    exact ⟨ret_int HS.out.symm, ht2.trans (hb3.mono ht2.size)⟩

set_option linter.unusedVariables false
set_option maxRecDepth 100000

theorem info_link : (Tryz.prog.info? 52).map (fun i => (i.zero, i.size, i.bytes)) = some (some (.agg #[.string ByteArray.empty, .int .i64 0]), 2, 24) := by kernel_rfl
theorem info_turn : (Tryz.prog.info? 92).map (fun i => (i.zero, i.size, i.bytes)) = some (some (.agg #[.int .i64 0, .string ByteArray.empty, .string ByteArray.empty, .int .i64 0]), 4, 48) := by kernel_rfl
theorem info_file : (Tryz.prog.info? 85).map (fun i => (i.zero, i.size, i.bytes)) = some (some (.agg #[.int .i64 0, .slice none 0 0, .int .i64 0]), 3, 40) := by kernel_rfl
theorem toLink_any (x : Lk) (w : World) : Calls Tryz.prog 57 #[lkV x] w fun e w' => e = .returned (lkV x) ∧ Below w.heap.size w w' := by
  obtain ⟨s, i⟩ := x
  go_enter Tryz.func57, Tryz.ntmps57
  go_wp2_with fail
  exact bodyPost_ret (v := lkV (s, i)) (by simp [results, Tryz.results57, go_sem, *]) rfl ⟨rfl, (by (repeat (first | exact Below.refl _ _ | (refine Below.alloc ?_ (by first | omega | (simp; done) | (simp; omega)) _) | (refine Below.drew ?_) | (refine below_drewN ?_ _) | (refine below_at1 ?_ (by first | omega | (simp; done) | (simp; omega))) | (refine Below.setCell ?_ (by first | omega | (simp; done) | (simp; omega)) _) | (refine Below.trans ?_ (Below.mono (by assumption) (by first | omega | (simp; done) | (simp; omega)))))))⟩
theorem toTurn_any (x : Tn) (w : World) : Calls Tryz.prog 58 #[tnV x] w fun e w' => e = .returned (tnV x) ∧ Below w.heap.size w w' := by
  obtain ⟨k, s, t, i⟩ := x
  go_enter Tryz.func58, Tryz.ntmps58
  go_wp2_with fail
  exact bodyPost_ret (v := tnV (k, s, t, i)) (by simp [results, Tryz.results58, go_sem, *]) rfl ⟨rfl, (by (repeat (first | exact Below.refl _ _ | (refine Below.alloc ?_ (by first | omega | (simp; done) | (simp; omega)) _) | (refine Below.drew ?_) | (refine below_drewN ?_ _) | (refine below_at1 ?_ (by first | omega | (simp; done) | (simp; omega))) | (refine Below.setCell ?_ (by first | omega | (simp; done) | (simp; omega)) _) | (refine Below.trans ?_ (Below.mono (by assumption) (by first | omega | (simp; done) | (simp; omega)))))))⟩
theorem ob_set {w : World} {lo c : Nat} {A : Option Addr} {bs : List UInt8} {p : Addr} {v : Value} (h : Ob w lo A c bs) (hp : p.block < lo) : Ob (w.setCell p v) lo A c bs :=
  h.keepB fun ad ha => Below.heap_setCell w p v _ (by have := (h.inB ad ha).1; omega)
def FilePost (w : World) (x : Fl) (e : Ending) (w' : World) : Prop :=
  ∃ A2 c2, e = .returned (flV (x.1, (A2, c2, x.2.1.2.2), x.2.2)) ∧ Ob w' w.heap.size A2 c2 x.2.1.2.2 ∧ Below w.heap.size w w'
set_option maxHeartbeats 1000000 in
theorem toFile_any (x : Fl) (w : World) (hb' : By w x.2.1.1 x.2.1.2.2) (hl' : x.2.1.2.2.length ≤ 1099511627776) : Calls Tryz.prog 56 #[flV x] w (FilePost w x) := by
  obtain ⟨k, ⟨A, c, xs⟩, i⟩ := x
  dsimp only at hb' hl'
  go_enter Tryz.func56, Tryz.ntmps56
  go_wp2_with fail
  have hb0 : Below w.heap.size w (((w.alloc (.cells #[.int .i64 k, .slice A xs.length c, .int .i64 i] 77)).alloc (.cells #[.int .i64 0, .slice none 0 0, .int .i64 0] 85)).alloc (.cells #[.int .i64 k, .slice none 0 0, .int .i64 0] 85)) := by (repeat (first | exact Below.refl _ _ | (refine Below.alloc ?_ (by first | omega | (simp; done) | (simp; omega)) _) | (refine Below.drew ?_) | (refine below_drewN ?_ _) | (refine below_at1 ?_ (by first | omega | (simp; done) | (simp; omega))) | (refine Below.setCell ?_ (by first | omega | (simp; done) | (simp; omega)) _) | (refine Below.trans ?_ (Below.mono (by assumption) (by first | omega | (simp; done) | (simp; omega))))))
  refine (toByteS_any _ _ xs _ (hb'.below hb0) (by omega)).mono ?_
  rintro e w2 ⟨A2, c2, rfl, ho2, hb2⟩
  obtain ⟨B2, q2, r2, z2⟩ := keep_blk hb2 (g := w.heap.size) (by repeat (first | assumption | exact heap_alloc_at _ (by first | rfl | (simp; done) | omega) | refine heap_alloc_of _ ?_ | refine heap_setCell_of _ (by first | omega | (simp; done) | (simp; omega)) ?_ | refine heap_setCell_same _ ?_ | exact heap_at1_same (by first | omega | (simp; done) | (simp; omega)) | refine heap_at1_of (by first | omega | (simp; done) | (simp; omega)) ?_))
  obtain ⟨C2, qq2, rr2, zz2⟩ := keep_blk hb2 (g := w.heap.size + 1) (by repeat (first | assumption | exact heap_alloc_at _ (by first | rfl | (simp; done) | omega) | refine heap_alloc_of _ ?_ | refine heap_setCell_of _ (by first | omega | (simp; done) | (simp; omega)) ?_ | refine heap_setCell_same _ ?_ | exact heap_at1_same (by first | omega | (simp; done) | (simp; omega)) | refine heap_at1_of (by first | omega | (simp; done) | (simp; omega)) ?_))
  obtain ⟨D2, qd2, rd2, zd2⟩ := keep_blk hb2 (g := w.heap.size + 1 + 1) (by repeat (first | assumption | exact heap_alloc_at _ (by first | rfl | (simp; done) | omega) | refine heap_alloc_of _ ?_ | refine heap_setCell_of _ (by first | omega | (simp; done) | (simp; omega)) ?_ | refine heap_setCell_same _ ?_ | exact heap_at1_same (by first | omega | (simp; done) | (simp; omega)) | refine heap_at1_of (by first | omega | (simp; done) | (simp; omega)) ?_))
  have t2 := hb0.trans (hb2.mono hb0.size)
  go_wp2_with fail
  refine bodyPost_ret (v := flV (k, (A2, c2, xs), i)) (by simp [results, Tryz.results56, go_sem, *]) rfl ?_
  have ho3 : Ob w2 (w.heap.size + 3) A2 c2 xs := ho2.mono (by simp)
  refine ⟨A2, c2, rfl, ?_, ?_⟩
  · refine ownsG.mono (base := w.heap.size + 3) ?_ (by omega)
    show Ob _ (w.heap.size + 3) A2 c2 xs
    refine ob_set (ob_set (ob_set (ob_set (ob_set ho3 ?_) ?_) ?_) ?_) ?_
    all_goals (simp; try omega)
  · exact ((((t2.setCell (by first | omega | (simp; done) | (simp; omega)) _).setCell (by first | omega | (simp; done) | (simp; omega)) _).setCell (by first | omega | (simp; done) | (simp; omega)) _).setCell (by first | omega | (simp; done) | (simp; omega)) _).setCell (by first | omega | (simp; done) | (simp; omega)) _
set_option maxHeartbeats 2000000 in
theorem toLinkS_any (A : Option Addr) (c : Nat) (cs : List Lk) (w : World) (ha : Ks w A cs) (hl : cs.length ≤ 1048576) :
    Calls Tryz.prog 27 #[.slice A cs.length c] w fun e w' => ∃ A' c', e = .returned (.slice A' cs.length c') ∧ Oe 52 2 lkL w' w.heap.size A' c' cs ∧ Below w.heap.size w w' := by
  obtain ⟨i0, hi, hz0, hz1, hz2⟩ := info_parts info_link
  go_enter Tryz.func27, Tryz.ntmps27
  go_wp2_with (at_make; refine wpList_make_full _ rfl _ _ _ rfl w.heap.size 52 i0 _ 2 Tryz.underlying32 hi hz0 hz1 _ _ _ _ cs.length rfl rfl rfl rfl (by rw [hz2]; omega) (by unfold maxLen; omega) (Nat.le_refl _) ?_; intro w1 hown hgrow)
  clear hi hz0 hz1 hz2
  have hF : Fill w1 w.heap.size 52 (cs.length * 2) [] := by
    rcases hown.2 with ⟨hv, _⟩ | ⟨g, cap, cur, hv, _, hh, _, _, hc3, _⟩
    · cases hv
    · injection hv with hv _ hv3
      injection hv with hv
      injection hv with hv
      subst hv3 hv
      exact Fill.start hh (.inl rfl) (by omega)
  have hb1 : Below w.heap.size w w1 := (Below.refl _ _).grown hgrow (Nat.le_refl _) (by simp)
  clear hown hgrow
  go_loopw [4] (fun i wr => ∃ k : Nat, k ≤ cs.length ∧ i = .int .i64 k ∧ Fill wr w.heap.size 52 (cs.length * 2) ((cs.take k).flatMap lkL) ∧ Below w.heap.size w wr) (fun i _ => cs.length - (intOf i).toNat)
  case atStart => exact ⟨0, Nat.zero_le _, rfl, hF, hb1⟩
  case round =>
    clear hF hb1
    obtain ⟨k, hk, rfl, hF, hb⟩ := hrel
    by_cases hlt : k < cs.length
    · obtain ⟨b, o, rfl, hbs, x0, x1⟩ := Ks.get (ha.below hb) hlt
      have hlt' : (k : Int) < cs.length := by omega
      have zF := hF.lt
      have zb := hb.size
      go_wp2_with (go_at_call 57; refine (toLink_any cs[k] _).mono ?_; rintro e w2 ⟨rfl, hb2⟩; have hF2 := hF.keep (hb2.block _ zF); obtain ⟨u0, hu0⟩ := hF2.cell (k * 2) (by omega); have hf0 := hF2.frozen (k * 2) (by omega); obtain ⟨u1, hu1⟩ := hF2.cell (k * 2 + 1) (by omega); have hf1 := hF2.frozen (k * 2 + 1) (by omega))
      go_roundw
      case rel =>
        refine ⟨k + 1, by omega, by go_num, ?_, ?_⟩
        · rw [take_succ_get (List.getElem?_eq_getElem hlt), flat_snoc]
          exact hF2.two (by rw [flat_len lk2]; simp; omega) (by omega) _ _
        · exact (((hb.trans (hb2.mono zb)).setCell (Nat.le_refl _) _).setCell (Nat.le_refl _) _)
      case measure => simp [intOf]; omega
    · have hlt' : ¬ ((k : Int) < cs.length) := by omega
      have hk' : k = cs.length := by omega
      have hF' : Fill wr w.heap.size 52 (cs.length * 2) (cs.flatMap lkL) := by rw [hk', List.take_length] at hF; exact hF
      clear hF hk'
      go_wp2
      go_ret
      exact ⟨_, _, rfl, Oe.of_fill lk2 hF' (Nat.le_refl _) (Nat.le_refl _) (by unfold maxLen; omega), hb⟩
set_option maxHeartbeats 2000000 in
theorem toTurnS_any (A : Option Addr) (c : Nat) (cs : List Tn) (w : World) (ha : Ts w A cs) (hl : cs.length ≤ 1048576) :
    Calls Tryz.prog 28 #[.slice A cs.length c] w fun e w' => ∃ A' c', e = .returned (.slice A' cs.length c') ∧ Oe 92 4 tnL w' w.heap.size A' c' cs ∧ Below w.heap.size w w' := by
  obtain ⟨i0, hi, hz0, hz1, hz2⟩ := info_parts info_turn
  go_enter Tryz.func28, Tryz.ntmps28
  go_wp2_with (at_make; refine wpList_make_full _ rfl _ _ _ rfl w.heap.size 92 i0 _ 4 Tryz.underlying33 hi hz0 hz1 _ _ _ _ cs.length rfl rfl rfl rfl (by rw [hz2]; omega) (by unfold maxLen; omega) (Nat.le_refl _) ?_; intro w1 hown hgrow)
  clear hi hz0 hz1 hz2
  have hF : Fill w1 w.heap.size 92 (cs.length * 4) [] := by
    rcases hown.2 with ⟨hv, _⟩ | ⟨g, cap, cur, hv, _, hh, _, _, hc3, _⟩
    · cases hv
    · injection hv with hv _ hv3
      injection hv with hv
      injection hv with hv
      subst hv3 hv
      exact Fill.start hh (.inl rfl) (by omega)
  have hb1 : Below w.heap.size w w1 := (Below.refl _ _).grown hgrow (Nat.le_refl _) (by simp)
  clear hown hgrow
  go_loopw [4] (fun i wr => ∃ k : Nat, k ≤ cs.length ∧ i = .int .i64 k ∧ Fill wr w.heap.size 92 (cs.length * 4) ((cs.take k).flatMap tnL) ∧ Below w.heap.size w wr) (fun i _ => cs.length - (intOf i).toNat)
  case atStart => exact ⟨0, Nat.zero_le _, rfl, hF, hb1⟩
  case round =>
    clear hF hb1
    obtain ⟨k, hk, rfl, hF, hb⟩ := hrel
    by_cases hlt : k < cs.length
    · obtain ⟨b, o, rfl, hbs, x0, x1, x2, x3⟩ := Ts.get (ha.below hb) hlt
      have hlt' : (k : Int) < cs.length := by omega
      have zF := hF.lt
      have zb := hb.size
      go_wp2_with (go_at_call 58; refine (toTurn_any cs[k] _).mono ?_; rintro e w2 ⟨rfl, hb2⟩; have hF2 := hF.keep (hb2.block _ zF); obtain ⟨u0, hu0⟩ := hF2.cell (k * 4) (by omega); have hf0 := hF2.frozen (k * 4) (by omega); obtain ⟨u1, hu1⟩ := hF2.cell (k * 4 + 1) (by omega); have hf1 := hF2.frozen (k * 4 + 1) (by omega); obtain ⟨u2, hu2⟩ := hF2.cell (k * 4 + 2) (by omega); have hf2 := hF2.frozen (k * 4 + 2) (by omega); obtain ⟨u3, hu3⟩ := hF2.cell (k * 4 + 3) (by omega); have hf3 := hF2.frozen (k * 4 + 3) (by omega))
      go_roundw
      case rel =>
        refine ⟨k + 1, by omega, by go_num, ?_, ?_⟩
        · rw [take_succ_get (List.getElem?_eq_getElem hlt), flat_snoc]
          exact hF2.four (by rw [flat_len tn4]; simp; omega) (by omega) _ _ _ _
        · exact (((((hb.trans (hb2.mono zb)).setCell (Nat.le_refl _) _).setCell (Nat.le_refl _) _).setCell (Nat.le_refl _) _).setCell (Nat.le_refl _) _)
      case measure => simp [intOf]; omega
    · have hlt' : ¬ ((k : Int) < cs.length) := by omega
      have hk' : k = cs.length := by omega
      have hF' : Fill wr w.heap.size 92 (cs.length * 4) (cs.flatMap tnL) := by rw [hk', List.take_length] at hF; exact hF
      clear hF hk'
      go_wp2
      go_ret
      exact ⟨_, _, rfl, Oe.of_fill tn4 hF' (Nat.le_refl _) (Nat.le_refl _) (by unfold maxLen; omega), hb⟩
/-- What a file is. -/
abbrev fc (x : Fl) : Int × List UInt8 × Int := (x.1, x.2.1.2.2, x.2.2)
abbrev fb (x : Fl) : Sl := x.2.1
/-- A slice of files that owns its block, and whose bodies own theirs: from block lo to before block hi. -/
def FsO (w : World) (lo hi : Nat) (A : Option Addr) (c : Nat) (fs : List Fl) : Prop := Oe 85 3 flL w lo A c fs ∧ ∃ m, lo ≤ m ∧ InB lo m A ∧ Obs w m hi (fs.map fb)
theorem FsO.fs {w : World} {lo hi c : Nat} {A : Option Addr} {fs : List Fl} (h : FsO w lo hi A c fs) : Fs w A fs := by
  obtain ⟨h1, m, h2, h3, h4⟩ := h
  exact ⟨h1.sl fl3, fun e he => h4.by_ _ (List.mem_map.2 ⟨e, he, rfl⟩)⟩
theorem FsO.below {w w' : World} {lo hi c B' : Nat} {A : Option Addr} {fs : List Fl} (h : FsO w lo hi A c fs) (hb : Below B' w w') (hB : hi ≤ B') : FsO w' lo hi A c fs := by
  obtain ⟨h1, m, h2, h3, h4⟩ := h
  exact ⟨h1.belowB hb h3 (by have := h4.le; omega), m, h2, h3, h4.below hb hB⟩
theorem FsO.drewN {w : World} {lo hi c : Nat} {A : Option Addr} {fs : List Fl} (h : FsO w lo hi A c fs) (n : Nat) : FsO (w.drewN n) lo hi A c fs := by
  obtain ⟨h1, m, h2, h3, h4⟩ := h
  exact ⟨h1, m, h2, h3, h4.keep fun _ _ _ => rfl⟩
theorem obs_end {w : World} {es : List Sl} {hi hi' : Nat} (h : hi ≤ hi') : ∀ {lo : Nat}, Obs w lo hi es → Obs w lo hi' es := Obs.widen h
theorem fc_len {es fs : List Fl} (h : es.map fc = fs.map fc) : es.length = fs.length := by
  have := congrArg List.length h
  simpa using this
theorem fc_get {es fs : List Fl} (h : es.map fc = fs.map fc) {k : Nat} (h1 : k < es.length) (h2 : k < fs.length) : es[k].1 = fs[k].1 ∧ es[k].2.1.2.2 = fs[k].2.1.2.2 ∧ es[k].2.2 = fs[k].2.2 := by
  have := congrArg (fun l => l[k]?) h
  simpa [h1, h2] using this
def ToFPost (w : World) (es : List Fl) (e : Ending) (w' : World) : Prop :=
  ∃ A' c' fs, e = .returned (.slice A' es.length c') ∧ Hid (fs.map fc = es.map fc) ∧ FsO w' w.heap.size w'.heap.size A' c' fs ∧ Below w.heap.size w w'
set_option maxHeartbeats 2000000 in
theorem toFileS_any (A : Option Addr) (c : Nat) (es : List Fl) (w : World) (ha : Fs w A es) (hl : es.length ≤ 1048576) (hm : ∀ e, e ∈ es → e.2.1.2.2.length ≤ 1099511627776) :
    Calls Tryz.prog 26 #[.slice A es.length c] w (ToFPost w es) := by
  obtain ⟨i0, hi, hz0, hz1, hz2⟩ := info_parts info_file
  go_enter Tryz.func26, Tryz.ntmps26
  go_wp2_with (at_make; refine wpList_make_full _ rfl _ _ _ rfl w.heap.size 85 i0 _ 3 Tryz.underlying31 hi hz0 hz1 _ _ _ _ es.length rfl rfl rfl rfl (by rw [hz2]; omega) (by unfold maxLen; omega) (Nat.le_refl _) ?_; intro w1 hown hgrow)
  clear hi hz0 hz1 hz2
  have hF : Fill w1 w.heap.size 85 (es.length * 3) [] := by
    rcases hown.2 with ⟨hv, _⟩ | ⟨g, cap, cur, hv, _, hh, _, _, hc3, _⟩
    · cases hv
    · injection hv with hv _ hv3
      injection hv with hv
      injection hv with hv
      subst hv3 hv
      exact Fill.start hh (.inl rfl) (by omega)
  have hb1 : Below w.heap.size w w1 := (Below.refl _ _).grown hgrow (Nat.le_refl _) (by simp)
  clear hown hgrow
  go_loopw [4] (fun i wr => ∃ (k : Nat) (fs : List Fl), k ≤ es.length ∧ i = .int .i64 k ∧ fs.length = k ∧ Hid (fs.map fc = (es.take k).map fc) ∧ Fill wr w.heap.size 85 (es.length * 3) (fs.flatMap flL) ∧ Obs wr (w.heap.size + 1) wr.heap.size (fs.map fb) ∧ Below w.heap.size w wr) (fun i _ => es.length - (intOf i).toNat)
  case atStart => exact ⟨0, [], Nat.zero_le _, rfl, rfl, rfl, hF, hF.lt, hb1⟩
  case round =>
    clear hF hb1
    obtain ⟨k, fs, hk, rfl, hfk, hd, hF, ho, hb⟩ := hrel
    by_cases hlt : k < es.length
    · obtain ⟨b, o, rfl, hbs, x0, x1, x2, hy⟩ := (ha.below hb).get hlt
      have hlt' : (k : Int) < es.length := by omega
      have hme := hm _ (List.getElem_mem hlt)
      have hgs := hF.lt
      have zb := hb.size
      go_wp2_with (go_at_call 56; refine (toFile_any es[k] _ hy hme).mono ?_; rintro e w2 ⟨A2, c2, rfl, ho2, hb2⟩; have hF2 := hF.keep (hb2.block _ hgs); obtain ⟨u0, hu0⟩ := hF2.cell (k * 3) (by omega); have hf0 := hF2.frozen (k * 3) (by omega); obtain ⟨u1, hu1⟩ := hF2.cell (k * 3 + 1) (by omega); have hf1 := hF2.frozen (k * 3 + 1) (by omega); obtain ⟨u2, hu2⟩ := hF2.cell (k * 3 + 2) (by omega); have hf2 := hF2.frozen (k * 3 + 2) (by omega))
      have z2 := hb2.size
      go_roundw
      case rel =>
        refine ⟨k + 1, fs ++ [(es[k].1, (A2, c2, es[k].2.1.2.2), es[k].2.2)], by omega, by go_num, by simp [hfk], ?_, ?_, ?_, ((((hb.trans (hb2.mono zb)).setCell (Nat.le_refl _) _).setCell (Nat.le_refl _) _).setCell (Nat.le_refl _) _)⟩
        · show _ = _
          rw [take_succ_get (List.getElem?_eq_getElem hlt)]
          simp only [List.map_append]
          exact congrArg (· ++ [fc es[k]]) hd.out
        · rw [flat_snoc]
          exact hF2.three (by rw [flat_len fl3, hfk]) (by omega) _ _ _
        · have h3 := (ho.below hb2 (Nat.le_refl _)).snoc ho2 ho2.inB z2
          rw [List.map_append]
          have h4 := h3.keep (w' := (((w2.setCell ⟨w.heap.size, k * 3, none⟩ (.int .i64 es[k].1)).setCell ⟨w.heap.size, k * 3 + 1, none⟩ (.slice A2 es[k].2.1.2.2.length c2)).setCell ⟨w.heap.size, k * 3 + 2, none⟩ (.int .i64 es[k].2.2))) (fun j hj _ => by
            rw [Below.heap_setCell _ _ _ j (by simp; omega), Below.heap_setCell _ _ _ j (by simp; omega), Below.heap_setCell _ _ _ j (by simp; omega)])
          simpa using h4
      case measure => simp [intOf]; omega
    · have hlt' : ¬ ((k : Int) < es.length) := by omega
      have hk' : k = es.length := by omega
      rw [hk', List.take_length] at hd
      have hO : FsO wr w.heap.size wr.heap.size (some ⟨w.heap.size, 0, none⟩) es.length fs :=
        ⟨Oe.of_fill fl3 hF (by omega) (Nat.le_refl _) (by unfold maxLen; omega), w.heap.size + 1, by omega, fun ad ha => by injection ha with ha; subst ha; simp, ho⟩
      clear hk'
      go_wp2
      go_ret
      exact ⟨_, _, fs, rfl, hd, hO, hb⟩
theorem Oe.keepB {T : Type} {k : Nat} {enc : T → List Value} {e : TypeId} {w w' : World} {A : Option Addr} {xs : List T} {lo c : Nat} (h : Oe e k enc w lo A c xs) (hk : ∀ ad, A = some ad → w'.heap[ad.block]? = w.heap[ad.block]?) : Oe e k enc w' lo A c xs := by
  obtain ⟨h1, h2⟩ := h
  refine ⟨h1, ?_⟩
  rcases h2 with h2 | ⟨g, cap, cur, fz, hv, h3, h4, h5⟩
  · exact .inl h2
  · injection hv with hv hv2 hv3
    exact .inr ⟨g, cap, cur, fz, by rw [hv, hv3], h3, (hk _ hv).trans h4, h5⟩
theorem FsO.keep {w w' : World} {lo hi c : Nat} {A : Option Addr} {fs : List Fl} (h : FsO w lo hi A c fs) (hk : ∀ k, lo ≤ k → k < hi → w'.heap[k]? = w.heap[k]?) : FsO w' lo hi A c fs := by
  obtain ⟨h1, m, h2, h3, h4⟩ := h
  have hl := h4.le
  exact ⟨h1.keepB fun ad ha => hk _ (h3 ad ha).1 (by have := (h3 ad ha).2; omega), m, h2, h3, h4.keep fun k h5 h6 => hk k (by omega) h6⟩
theorem FsO.lower {w : World} {lo lo' hi c : Nat} {A : Option Addr} {fs : List Fl} (h : FsO w lo hi A c fs) (hl : lo' ≤ lo) : FsO w lo' hi A c fs := by
  obtain ⟨h1, m, h2, h3, h4⟩ := h
  exact ⟨Oe.mono h1 hl, m, by omega, fun ad ha => ⟨Nat.le_trans hl (h3 ad ha).1, (h3 ad ha).2⟩, h4⟩
theorem FsO.le {w : World} {lo hi c : Nat} {A : Option Addr} {fs : List Fl} (h : FsO w lo hi A c fs) : lo ≤ hi := by
  obtain ⟨h1, m, h2, h3, h4⟩ := h
  exact Nat.le_trans h2 h4.le
/-- A disk that owns what it holds: from block lo to before block hi. -/
def DkO (w : World) (lo hi : Nat) (FA : Option Addr) (fc : Nat) (fs : List Fl) (KA : Option Addr) (kc : Nat) (ks : List Lk) (TA : Option Addr) (tc : Nat) (ts : List Tn) : Prop :=
  ∃ m m', FsO w lo m FA fc fs ∧ m ≤ m' ∧ m' ≤ hi ∧ Oe 52 2 lkL w m KA kc ks ∧ InB m m' KA ∧ Oe 92 4 tnL w m' TA tc ts ∧ InB m' hi TA
section
variable {w w' : World} {lo hi fc kc tc : Nat} {FA KA TA : Option Addr} {fs : List Fl} {ks : List Lk} {ts : List Tn}
theorem DkO.keep (h : DkO w lo hi FA fc fs KA kc ks TA tc ts) (hk : ∀ k, lo ≤ k → k < hi → w'.heap[k]? = w.heap[k]?) : DkO w' lo hi FA fc fs KA kc ks TA tc ts := by
  obtain ⟨m, m', h1, h2, h3, h4, h5, h6, h7⟩ := h
  have hl := h1.le
  exact ⟨m, m', h1.keep fun k h8 h9 => hk k h8 (by omega), h2, h3, h4.keepB fun ad ha => hk _ (by have := (h5 ad ha).1; omega) (by have := (h5 ad ha).2; omega), h5, h6.keepB fun ad ha => hk _ (by have := (h7 ad ha).1; omega) (by have := (h7 ad ha).2; omega), h7⟩
theorem DkO.below {B' : Nat} (h : DkO w lo hi FA fc fs KA kc ks TA tc ts) (hb : Below B' w w') (hB : hi ≤ B') : DkO w' lo hi FA fc fs KA kc ks TA tc ts :=
  h.keep fun k _ h2 => hb.block k (by omega)
theorem DkO.drewN (h : DkO w lo hi FA fc fs KA kc ks TA tc ts) (n : Nat) : DkO (w.drewN n) lo hi FA fc fs KA kc ks TA tc ts :=
  h.keep fun _ _ _ => rfl
theorem DkO.lower {lo' : Nat} (h : DkO w lo hi FA fc fs KA kc ks TA tc ts) (hl : lo' ≤ lo) : DkO w lo' hi FA fc fs KA kc ks TA tc ts := by
  obtain ⟨m, m', h1, h2⟩ := h
  exact ⟨m, m', h1.lower hl, h2⟩
theorem DkO.setCell {p : Addr} {v : Value} (h : DkO w lo w.heap.size FA fc fs KA kc ks TA tc ts) (hp : p.block < lo) : DkO (w.setCell p v) lo (w.setCell p v).heap.size FA fc fs KA kc ks TA tc ts := by
  rw [show (w.setCell p v).heap.size = w.heap.size from by simp [World.setCell]]
  exact h.keep fun k h1 _ => Below.heap_setCell _ _ _ k (by omega)
theorem DkO.rd (h : DkO w lo hi FA fc fs KA kc ks TA tc ts) : Fs w FA fs ∧ Ks w KA ks ∧ Ts w TA ts := by
  obtain ⟨m, m', h1, h2, h3, h4, h5, h6, h7⟩ := h
  exact ⟨h1.fs, h4.sl lk2, h6.sl tn4⟩
end
def ToDPost (w : World) (r f n : Int) (es : List Fl) (ks : List Lk) (ts : List Tn) (e : Ending) (w' : World) : Prop :=
  ∃ FA fc' fs KA kc TA tc, e = .returned (dkV r f n FA es.length fc' KA ks.length kc TA ts.length tc) ∧ Hid (fs.map fc = es.map fc) ∧ DkO w' w.heap.size w'.heap.size FA fc' fs KA kc ks TA tc ts ∧ Below w.heap.size w w'
set_option maxHeartbeats 1000000 in
theorem toDisk_any (r f n : Int) (FA : Option Addr) (fs : List Fl) (fc' : Nat) (KA : Option Addr) (ks : List Lk) (kc : Nat) (TA : Option Addr) (ts : List Tn) (tc : Nat) (w : World)
    (hF : Fs w FA fs) (hK : Ks w KA ks) (hT : Ts w TA ts) (hFl : fs.length ≤ 1048576) (hFm : ∀ e, e ∈ fs → e.2.1.2.2.length ≤ 1099511627776) (hKl : ks.length ≤ 1048576) (hTl : ts.length ≤ 1048576) :
    Calls Tryz.prog 7 #[dkV r f n FA fs.length fc' KA ks.length kc TA ts.length tc] w (ToDPost w r f n fs ks ts) := by
  go_enter Tryz.func7, Tryz.ntmps7
  go_wp2_with fail
  refine (toFileS_any _ _ fs _ (hF.below (by (repeat (first | exact Below.refl _ _ | (refine Below.alloc ?_ (by first | omega | (simp; done) | (simp; omega)) _) | (refine Below.drew ?_) | (refine below_drewN ?_ _) | (refine below_at1 ?_ (by first | omega | (simp; done) | (simp; omega))) | (refine Below.setCell ?_ (by first | omega | (simp; done) | (simp; omega)) _) | (refine Below.trans ?_ (Below.mono (by assumption) (by first | omega | (simp; done) | (simp; omega)))))))) hFl hFm).mono ?_
  rintro e w2 ⟨A2, c2, fs2, rfl, hd2, ho2, hb2⟩
  have hb0 : Below w.heap.size w (((w.alloc (.cells (dkC r f n FA fs.length fc' KA ks.length kc TA ts.length tc) 26)).alloc (.cells #[.int .i64 0, .int .i64 0, .int .i64 0, .slice none 0 0, .slice none 0 0, .slice none 0 0] 35)).alloc (.cells #[.int .i64 r, .int .i64 f, .int .i64 n, .slice none 0 0, .slice none 0 0, .slice none 0 0] 35)) := by (repeat (first | exact Below.refl _ _ | (refine Below.alloc ?_ (by first | omega | (simp; done) | (simp; omega)) _) | (refine Below.drew ?_) | (refine below_drewN ?_ _) | (refine below_at1 ?_ (by first | omega | (simp; done) | (simp; omega))) | (refine Below.setCell ?_ (by first | omega | (simp; done) | (simp; omega)) _) | (refine Below.trans ?_ (Below.mono (by assumption) (by first | omega | (simp; done) | (simp; omega))))))
  obtain ⟨a2, b2, d2, z2⟩ := keep_blk hb2 (g := w.heap.size) (by repeat (first | assumption | exact heap_alloc_at _ (by first | rfl | (simp; done) | omega) | refine heap_alloc_of _ ?_ | refine heap_setCell_of _ (by first | omega | (simp; done) | (simp; omega)) ?_ | refine heap_setCell_same _ ?_ | exact heap_at1_same (by first | omega | (simp; done) | (simp; omega)) | refine heap_at1_of (by first | omega | (simp; done) | (simp; omega)) ?_))
  obtain ⟨a2', b2', d2', z2'⟩ := keep_blk hb2 (g := w.heap.size + 1) (by repeat (first | assumption | exact heap_alloc_at _ (by first | rfl | (simp; done) | omega) | refine heap_alloc_of _ ?_ | refine heap_setCell_of _ (by first | omega | (simp; done) | (simp; omega)) ?_ | refine heap_setCell_same _ ?_ | exact heap_at1_same (by first | omega | (simp; done) | (simp; omega)) | refine heap_at1_of (by first | omega | (simp; done) | (simp; omega)) ?_))
  obtain ⟨a2'', b2'', d2'', z2''⟩ := keep_blk hb2 (g := w.heap.size + 1 + 1) (by repeat (first | assumption | exact heap_alloc_at _ (by first | rfl | (simp; done) | omega) | refine heap_alloc_of _ ?_ | refine heap_setCell_of _ (by first | omega | (simp; done) | (simp; omega)) ?_ | refine heap_setCell_same _ ?_ | exact heap_at1_same (by first | omega | (simp; done) | (simp; omega)) | refine heap_at1_of (by first | omega | (simp; done) | (simp; omega)) ?_))
  have t2 := hb0.trans (hb2.mono hb0.size)
  have s2 : w.heap.size + 3 ≤ w2.heap.size := z2''
  replace ho2 : FsO w2 (w.heap.size + 3) w2.heap.size A2 c2 fs2 := ho2.lower (by simp)
  clear hb2 hb0
  go_wp2_with fail
  have hb3' : Below w.heap.size w (w2.setCell ⟨w.heap.size + 1 + 1, 3, none⟩ (.slice A2 fs.length c2)) := t2.setCell (by first | omega | (simp; done) | (simp; omega)) _
  refine (toLinkS_any _ _ ks _ (hK.below hb3') hKl).mono ?_
  rintro e w3 ⟨A3, c3, rfl, ho3, hb3⟩
  have a2s := heap_setCell_same (.slice A2 fs.length c2) (i := 3) a2''
  obtain ⟨a3, b3, d3, z3⟩ := keep_blk hb3 (g := w.heap.size) (heap_setCell_of _ (by simp; try omega) a2)
  obtain ⟨a3', b3', d3', z3'⟩ := keep_blk hb3 (g := w.heap.size + 1) (heap_setCell_of _ (by simp; try omega) a2')
  obtain ⟨a3'', b3'', d3'', z3''⟩ := keep_blk hb3 (g := w.heap.size + 1 + 1) a2s
  have t3 := hb3'.trans (hb3.mono hb3'.size)
  have s3 : w2.heap.size ≤ w3.heap.size := by have := hb3.size; simpa using this
  have ho2' : FsO w3 (w.heap.size + 3) w2.heap.size A2 c2 fs2 := (ho2.keep (w' := w2.setCell ⟨w.heap.size + 1 + 1, 3, none⟩ (.slice A2 fs.length c2)) fun k h1 h2 => Below.heap_setCell _ _ _ k (by simp; omega)).keep fun k h1 h2 => hb3.block k (by simpa using h2)
  replace ho3 : Oe 52 2 lkL w3 w2.heap.size A3 c3 ks := Oe.mono ho3 (by simp)
  have i3 := ho3.inB
  clear hb3 hb3' a2s a2 b2 d2 a2' b2' d2' a2'' b2'' d2'' ho2
  go_wp2_with fail
  have hb4' : Below w.heap.size w (w3.setCell ⟨w.heap.size + 1 + 1, 4, none⟩ (.slice A3 ks.length c3)) := t3.setCell (by first | omega | (simp; done) | (simp; omega)) _
  refine (toTurnS_any _ _ ts _ (hT.below hb4') hTl).mono ?_
  rintro e w4 ⟨A4, c4, rfl, ho4, hb4⟩
  have a3s := heap_setCell_same (.slice A3 ks.length c3) (i := 4) a3''
  obtain ⟨a4, b4, d4, z4⟩ := keep_blk hb4 (g := w.heap.size) (heap_setCell_of _ (by simp; try omega) a3)
  obtain ⟨a4', b4', d4', z4'⟩ := keep_blk hb4 (g := w.heap.size + 1) (heap_setCell_of _ (by simp; try omega) a3')
  obtain ⟨a4'', b4'', d4'', z4''⟩ := keep_blk hb4 (g := w.heap.size + 1 + 1) a3s
  have t4 := hb4'.trans (hb4.mono hb4'.size)
  have s4 : w3.heap.size ≤ w4.heap.size := by have := hb4.size; simpa using this
  have k4 : ∀ k, w.heap.size + 3 ≤ k → k < w3.heap.size → w4.heap[k]? = w3.heap[k]? := fun k h1 h2 => (hb4.block k (by simpa using h2)).trans (Below.heap_setCell _ _ _ k (by simp; omega))
  replace ho4 : Oe 92 4 tnL w4 w3.heap.size A4 c4 ts := Oe.mono ho4 (by simp)
  have hD : DkO w4 (w.heap.size + 3) w4.heap.size A2 c2 fs2 A3 c3 ks A4 c4 ts :=
    ⟨w2.heap.size, w3.heap.size, ho2'.keep fun k h1 h2 => k4 k h1 (by omega), s3, s4, ho3.keepB fun ad ha => k4 _ (by have := (i3 ad ha).1; omega) (i3 ad ha).2, i3, ho4, ho4.inB⟩
  clear hb4 hb4' a3s a3 b3 d3 a3' b3' d3' a3'' b3'' d3'' ho2' ho3 ho4 i3 k4
  go_wp2_with fail
  refine bodyPost_ret (v := dkV r f n A2 fs.length c2 A3 ks.length c3 A4 ts.length c4) (by simp [results, Tryz.results7, go_sem, *]) rfl ?_
  refine ⟨A2, c2, fs2, A3, c3, A4, c4, rfl, hd2, ?_, ?_⟩
  · refine DkO.lower (lo := w.heap.size + 3) ?_ (by omega)
    iterate 7 refine DkO.setCell ?_ (by simp; try omega)
    exact hD
  · exact (((((((t4.setCell (by first | omega | (simp; done) | (simp; omega)) _).setCell (by first | omega | (simp; done) | (simp; omega)) _).setCell (by first | omega | (simp; done) | (simp; omega)) _).setCell (by first | omega | (simp; done) | (simp; omega)) _).setCell (by first | omega | (simp; done) | (simp; omega)) _).setCell (by first | omega | (simp; done) | (simp; omega)) _).setCell (by first | omega | (simp; done) | (simp; omega)) _)

set_option linter.unusedVariables false
set_option maxRecDepth 100000

theorem eqLink_same (x : Lk) (w : World) : Calls Tryz.prog 71 #[lkV x, lkV x] w fun e w' => e = .returned (.bool true) ∧ Below w.heap.size w w' := by
  obtain ⟨s, i⟩ := x
  go_enter Tryz.func71, Tryz.ntmps71
  go_wp2_with fail
  go_ret
  exact ⟨rfl, (by (repeat (first | exact Below.refl _ _ | (refine Below.alloc ?_ (by first | omega | (simp; done) | (simp; omega)) _) | (refine Below.drew ?_) | (refine below_drewN ?_ _) | (refine below_at1 ?_ (by first | omega | (simp; done) | (simp; omega))) | (refine Below.setCell ?_ (by first | omega | (simp; done) | (simp; omega)) _) | (refine Below.trans ?_ (Below.mono (by assumption) (by first | omega | (simp; done) | (simp; omega)))))))⟩
theorem eqTurn_same (x : Tn) (w : World) : Calls Tryz.prog 72 #[tnV x, tnV x] w fun e w' => e = .returned (.bool true) ∧ Below w.heap.size w w' := by
  obtain ⟨k, s, t, i⟩ := x
  go_enter Tryz.func72, Tryz.ntmps72
  go_wp2_with fail
  go_ret
  exact ⟨rfl, (by (repeat (first | exact Below.refl _ _ | (refine Below.alloc ?_ (by first | omega | (simp; done) | (simp; omega)) _) | (refine Below.drew ?_) | (refine below_drewN ?_ _) | (refine below_at1 ?_ (by first | omega | (simp; done) | (simp; omega))) | (refine Below.setCell ?_ (by first | omega | (simp; done) | (simp; omega)) _) | (refine Below.trans ?_ (Below.mono (by assumption) (by first | omega | (simp; done) | (simp; omega)))))))⟩
theorem eqFile_same (k i : Int) (A A' : Option Addr) (c c' : Nat) (xs : List UInt8) (w : World) (ha : By w A xs) (hb : By w A' xs) (hl : xs.length ≤ 1099511627776) :
    Calls Tryz.prog 70 #[.agg #[.int .i64 k, .slice A xs.length c, .int .i64 i], .agg #[.int .i64 k, .slice A' xs.length c', .int .i64 i]] w fun e w' => e = .returned (.bool true) ∧ Below w.heap.size w w' := by
  go_enter Tryz.func70, Tryz.ntmps70
  go_wp2_with fail
  have hb0 : Below w.heap.size w ((w.alloc (.cells #[.int .i64 k, .slice A xs.length c, .int .i64 i] 85)).alloc (.cells #[.int .i64 k, .slice A' xs.length c', .int .i64 i] 85)) := by (repeat (first | exact Below.refl _ _ | (refine Below.alloc ?_ (by first | omega | (simp; done) | (simp; omega)) _) | (refine Below.drew ?_) | (refine below_drewN ?_ _) | (refine below_at1 ?_ (by first | omega | (simp; done) | (simp; omega))) | (refine Below.setCell ?_ (by first | omega | (simp; done) | (simp; omega)) _) | (refine Below.trans ?_ (Below.mono (by assumption) (by first | omega | (simp; done) | (simp; omega))))))
  refine (eqByteS_same _ _ _ _ xs _ (ha.below hb0) (hb.below hb0) hl).mono ?_
  rintro e w1 ⟨rfl, m, rfl⟩
  go_wp2_with fail
  go_ret
  exact ⟨rfl, below_drewN hb0 _⟩
set_option maxHeartbeats 2000000 in
theorem eqLinkS_same (A A' : Option Addr) (c c' : Nat) (cs : List Lk) (w : World) (ha : Ks w A cs) (hb : Ks w A' cs) (hl : cs.length ≤ 1099511627776) :
    Calls Tryz.prog 35 #[.slice A cs.length c, .slice A' cs.length c'] w fun e w' => e = .returned (.bool true) ∧ Below w.heap.size w w' := by
  go_enter Tryz.func35, Tryz.ntmps35
  go_wp2
  go_loopw [5] (fun i wr => ∃ k : Nat, k ≤ cs.length ∧ i = .int .i64 k ∧ Below w.heap.size w wr) (fun i _ => cs.length - (intOf i).toNat)
  case atStart => exact ⟨0, Nat.zero_le _, rfl, Below.refl _ _⟩
  case round =>
    obtain ⟨k, hk, rfl, hbw⟩ := hrel
    by_cases hlt : k < cs.length
    · obtain ⟨b, o, rfl, hbs, x0, x1⟩ := Ks.get (ha.below hbw) hlt
      obtain ⟨b', o', rfl, hbs', y0, y1⟩ := Ks.get (hb.below hbw) hlt
      have hlt' : (k : Int) < cs.length := by omega
      have zb := hbw.size
      go_wp2_with fail
      first | (go_region_held3 (fun w' => Below wr.heap.size wr w' ∧ w'.cell? ⟨b, o + k * 2, none⟩ = some (.string cs[k].1) ∧ w'.cell? ⟨b, o + k * 2 + 1, none⟩ = some (.int .i64 cs[k].2) ∧ w'.cell? ⟨b', o' + k * 2, none⟩ = some (.string cs[k].1) ∧ w'.cell? ⟨b', o' + k * 2 + 1, none⟩ = some (.int .i64 cs[k].2))
        (first | exact ⟨Below.drew (Below.refl _ _), by simpa using x0, by simpa using x1, by simpa using y0, by simpa using y1⟩ | assumption | (refine ⟨?_, ?_, ?_, ?_, ?_⟩ <;> assumption))
        ((go_at_call 71; refine (eqLink_same cs[k] _).mono ?_; rintro e w3 ⟨rfl, hb3⟩; have hbw3 : Below wr.heap.size wr w3 := (Below.drew (Below.refl wr.heap.size wr)).trans hb3; have hkeep := And.intro hbw3 (And.intro ((hbw3.cell (World.block_lt_of_cell? wr _ x0)).trans x0) (And.intro ((hbw3.cell (World.block_lt_of_cell? wr _ x1)).trans x1) (And.intro ((hbw3.cell (World.block_lt_of_cell? wr _ y0)).trans y0) ((hbw3.cell (World.block_lt_of_cell? wr _ y1)).trans y1))))))) | fail
      clear hkeep
      go_wp2_with fail
      go_roundw
      case rel => exact ⟨k + 1, by omega, by go_num, hbw.trans (hbw3.mono zb)⟩
      case measure => simp [intOf]; omega
    · have hlt' : ¬ ((k : Int) < cs.length) := by omega
      go_wp2
      go_ret
      exact ⟨rfl, hbw⟩
set_option maxHeartbeats 2000000 in
theorem eqTurnS_same (A A' : Option Addr) (c c' : Nat) (cs : List Tn) (w : World) (ha : Ts w A cs) (hb : Ts w A' cs) (hl : cs.length ≤ 1099511627776) :
    Calls Tryz.prog 36 #[.slice A cs.length c, .slice A' cs.length c'] w fun e w' => e = .returned (.bool true) ∧ Below w.heap.size w w' := by
  go_enter Tryz.func36, Tryz.ntmps36
  go_wp2
  go_loopw [5] (fun i wr => ∃ k : Nat, k ≤ cs.length ∧ i = .int .i64 k ∧ Below w.heap.size w wr) (fun i _ => cs.length - (intOf i).toNat)
  case atStart => exact ⟨0, Nat.zero_le _, rfl, Below.refl _ _⟩
  case round =>
    obtain ⟨k, hk, rfl, hbw⟩ := hrel
    by_cases hlt : k < cs.length
    · obtain ⟨b, o, rfl, hbs, x0, x1, x2, x3⟩ := Ts.get (ha.below hbw) hlt
      obtain ⟨b', o', rfl, hbs', y0, y1, y2, y3⟩ := Ts.get (hb.below hbw) hlt
      have hlt' : (k : Int) < cs.length := by omega
      have zb := hbw.size
      go_wp2_with fail
      first | (go_region_held3 (fun w' => Below wr.heap.size wr w' ∧ w'.cell? ⟨b, o + k * 4, none⟩ = some (.int .i64 cs[k].1) ∧ w'.cell? ⟨b, o + k * 4 + 1, none⟩ = some (.string cs[k].2.1) ∧ w'.cell? ⟨b, o + k * 4 + 2, none⟩ = some (.string cs[k].2.2.1) ∧ w'.cell? ⟨b, o + k * 4 + 3, none⟩ = some (.int .i64 cs[k].2.2.2) ∧ w'.cell? ⟨b', o' + k * 4, none⟩ = some (.int .i64 cs[k].1) ∧ w'.cell? ⟨b', o' + k * 4 + 1, none⟩ = some (.string cs[k].2.1) ∧ w'.cell? ⟨b', o' + k * 4 + 2, none⟩ = some (.string cs[k].2.2.1) ∧ w'.cell? ⟨b', o' + k * 4 + 3, none⟩ = some (.int .i64 cs[k].2.2.2))
        (first | exact ⟨Below.drew (Below.refl _ _), by simpa using x0, by simpa using x1, by simpa using x2, by simpa using x3, by simpa using y0, by simpa using y1, by simpa using y2, by simpa using y3⟩ | assumption | (refine ⟨?_, ?_, ?_, ?_, ?_, ?_, ?_, ?_, ?_⟩ <;> assumption))
        ((go_at_call 72; refine (eqTurn_same cs[k] _).mono ?_; rintro e w3 ⟨rfl, hb3⟩; have hbw3 : Below wr.heap.size wr w3 := (Below.drew (Below.refl wr.heap.size wr)).trans hb3; have hkeep := And.intro hbw3 (And.intro ((hbw3.cell (World.block_lt_of_cell? wr _ x0)).trans x0) (And.intro ((hbw3.cell (World.block_lt_of_cell? wr _ x1)).trans x1) (And.intro ((hbw3.cell (World.block_lt_of_cell? wr _ x2)).trans x2) (And.intro ((hbw3.cell (World.block_lt_of_cell? wr _ x3)).trans x3) (And.intro ((hbw3.cell (World.block_lt_of_cell? wr _ y0)).trans y0) (And.intro ((hbw3.cell (World.block_lt_of_cell? wr _ y1)).trans y1) (And.intro ((hbw3.cell (World.block_lt_of_cell? wr _ y2)).trans y2) ((hbw3.cell (World.block_lt_of_cell? wr _ y3)).trans y3))))))))))) | fail
      clear hkeep
      go_wp2_with fail
      go_roundw
      case rel => exact ⟨k + 1, by omega, by go_num, hbw.trans (hbw3.mono zb)⟩
      case measure => simp [intOf]; omega
    · have hlt' : ¬ ((k : Int) < cs.length) := by omega
      go_wp2
      go_ret
      exact ⟨rfl, hbw⟩
set_option maxHeartbeats 2000000 in
theorem eqFileS_same (A A' : Option Addr) (c c' n : Nat) (es fs : List Fl) (w : World) (hn : es.length = n) (ha : Fs w A es) (hb : Fs w A' fs) (hd : Hid (fs.map fc = es.map fc)) (hl : n ≤ 1099511627776) (hm : ∀ e, e ∈ es → e.2.1.2.2.length ≤ 1099511627776) :
    Calls Tryz.prog 34 #[.slice A n c, .slice A' n c'] w fun e w' => e = .returned (.bool true) ∧ Below w.heap.size w w' := by
  subst hn
  go_enter Tryz.func34, Tryz.ntmps34
  go_wp2
  go_loopw [5] (fun i wr => ∃ k : Nat, k ≤ es.length ∧ i = .int .i64 k ∧ Below w.heap.size w wr) (fun i _ => es.length - (intOf i).toNat)
  case atStart => exact ⟨0, Nat.zero_le _, rfl, Below.refl _ _⟩
  case round =>
    obtain ⟨k, hk, rfl, hbw⟩ := hrel
    by_cases hlt : k < es.length
    · have hlt2 : k < fs.length := by rw [fc_len hd.out]; exact hlt
      obtain ⟨b, o, rfl, hbs, x0, x1, x2, hy⟩ := (ha.below hbw).get hlt
      obtain ⟨b', o', rfl, hbs', y0, y1, y2, hy'⟩ := (hb.below hbw).get hlt2
      have hlt' : (k : Int) < es.length := by omega
      have hme := hm _ (List.getElem_mem hlt)
      obtain ⟨q0, q1, q2⟩ := fc_get hd.out hlt2 hlt
      rw [q0] at y0
      rw [q1] at y1 hy'
      rw [q2] at y2
      clear q0 q1 q2
      have zb := hbw.size
      go_wp2_with fail
      first | (go_region_held3 (fun w' => Below wr.heap.size wr w' ∧ w'.cell? ⟨b, o + k * 3, none⟩ = some (.int .i64 es[k].1) ∧ w'.cell? ⟨b, o + k * 3 + 1, none⟩ = some (.slice es[k].2.1.1 es[k].2.1.2.2.length es[k].2.1.2.1) ∧ w'.cell? ⟨b, o + k * 3 + 2, none⟩ = some (.int .i64 es[k].2.2) ∧ w'.cell? ⟨b', o' + k * 3, none⟩ = some (.int .i64 es[k].1) ∧ w'.cell? ⟨b', o' + k * 3 + 1, none⟩ = some (.slice fs[k].2.1.1 es[k].2.1.2.2.length fs[k].2.1.2.1) ∧ w'.cell? ⟨b', o' + k * 3 + 2, none⟩ = some (.int .i64 es[k].2.2))
        (first | exact ⟨Below.drew (Below.refl _ _), by simpa using x0, by simpa using x1, by simpa using x2, by simpa using y0, by simpa using y1, by simpa using y2⟩ | assumption | (refine ⟨?_, ?_, ?_, ?_, ?_, ?_, ?_⟩ <;> assumption))
        ((go_at_call 70; refine (eqFile_same es[k].1 es[k].2.2 _ _ _ _ es[k].2.1.2.2 _ (By.below hy (Below.drew (Below.refl _ _))) (By.below hy' (Below.drew (Below.refl _ _))) hme).mono ?_; rintro e w3 ⟨rfl, hb3⟩; have hbw3 : Below wr.heap.size wr w3 := (Below.drew (Below.refl wr.heap.size wr)).trans hb3; have hkeep := And.intro hbw3 (And.intro ((hbw3.cell (World.block_lt_of_cell? wr _ x0)).trans x0) (And.intro ((hbw3.cell (World.block_lt_of_cell? wr _ x1)).trans x1) (And.intro ((hbw3.cell (World.block_lt_of_cell? wr _ x2)).trans x2) (And.intro ((hbw3.cell (World.block_lt_of_cell? wr _ y0)).trans y0) (And.intro ((hbw3.cell (World.block_lt_of_cell? wr _ y1)).trans y1) ((hbw3.cell (World.block_lt_of_cell? wr _ y2)).trans y2))))))))) | fail
      clear hkeep
      go_wp2_with fail
      go_roundw
      case rel => exact ⟨k + 1, by omega, by go_num, hbw.trans (hbw3.mono zb)⟩
      case measure => simp [intOf]; omega
    · have hlt' : ¬ ((k : Int) < es.length) := by omega
      go_wp2
      go_ret
      exact ⟨rfl, hbw⟩
set_option maxHeartbeats 2000000 in
theorem eqDisk_same (r f n : Int) (FA : Option Addr) (fn c1 : Nat) (KA : Option Addr) (c2 : Nat) (TA : Option Addr) (c3 : Nat) (FA' : Option Addr) (c1' : Nat) (KA' : Option Addr) (c2' : Nat) (TA' : Option Addr) (c3' : Nat) (es fs : List Fl) (ks : List Lk) (ts : List Tn) (w : World)
    (hn : es.length = fn) (hF : Fs w FA es) (hF' : Fs w FA' fs) (hd : Hid (fs.map fc = es.map fc)) (hl : fn ≤ 1099511627776) (hm : ∀ e, e ∈ es → e.2.1.2.2.length ≤ 1099511627776)
    (hK : Ks w KA ks) (hK' : Ks w KA' ks) (hkl : ks.length ≤ 1099511627776) (hT : Ts w TA ts) (hT' : Ts w TA' ts) (htl : ts.length ≤ 1099511627776) :
    Calls Tryz.prog 10 #[dkV r f n FA fn c1 KA ks.length c2 TA ts.length c3, dkV r f n FA' fn c1' KA' ks.length c2' TA' ts.length c3'] w fun e w' => e = .returned (.bool true) ∧ Below w.heap.size w w' := by
  go_enter Tryz.func10, Tryz.ntmps10
  have hb0 : Below w.heap.size w ((w.alloc (.cells (dkC r f n FA fn c1 KA ks.length c2 TA ts.length c3) 35)).alloc (.cells (dkC r f n FA' fn c1' KA' ks.length c2' TA' ts.length c3') 35)) := by (repeat (first | exact Below.refl _ _ | (refine Below.alloc ?_ (by first | omega | (simp; done) | (simp; omega)) _) | (refine Below.drew ?_) | (refine below_drewN ?_ _) | (refine below_at1 ?_ (by first | omega | (simp; done) | (simp; omega))) | (refine Below.setCell ?_ (by first | omega | (simp; done) | (simp; omega)) _) | (refine Below.trans ?_ (Below.mono (by assumption) (by first | omega | (simp; done) | (simp; omega))))))
  go_wp2_with fail
  refine (eqFileS_same _ _ _ _ _ es fs _ hn (hF.below hb0) (hF'.below hb0) hd hl hm).mono ?_
  rintro e w1 ⟨rfl, hb1⟩
  obtain ⟨a1, b1, d1, z1⟩ := keep_blk hb1 (g := w.heap.size) (by repeat (first | assumption | exact heap_alloc_at _ (by first | rfl | (simp; done) | omega) | refine heap_alloc_of _ ?_ | refine heap_setCell_of _ (by first | omega | (simp; done) | (simp; omega)) ?_ | refine heap_setCell_same _ ?_ | exact heap_at1_same (by first | omega | (simp; done) | (simp; omega)) | refine heap_at1_of (by first | omega | (simp; done) | (simp; omega)) ?_))
  obtain ⟨a1', b1', d1', z1'⟩ := keep_blk hb1 (g := w.heap.size + 1) (by repeat (first | assumption | exact heap_alloc_at _ (by first | rfl | (simp; done) | omega) | refine heap_alloc_of _ ?_ | refine heap_setCell_of _ (by first | omega | (simp; done) | (simp; omega)) ?_ | refine heap_setCell_same _ ?_ | exact heap_at1_same (by first | omega | (simp; done) | (simp; omega)) | refine heap_at1_of (by first | omega | (simp; done) | (simp; omega)) ?_))
  have t1 := hb0.trans (hb1.mono hb0.size)
  clear hb1 hb0
  go_wp2_with fail
  refine (eqLinkS_same _ _ _ _ ks _ (hK.below t1) (hK'.below t1) hkl).mono ?_
  rintro e w2 ⟨rfl, hb2⟩
  obtain ⟨a2, b2, d2, z2⟩ := keep_blk hb2 (g := w.heap.size) a1
  obtain ⟨a2', b2', d2', z2'⟩ := keep_blk hb2 (g := w.heap.size + 1) a1'
  have t2 := t1.trans (hb2.mono t1.size)
  clear hb2 a1 b1 d1 a1' b1' d1'
  go_wp2_with fail
  refine (eqTurnS_same _ _ _ _ ts _ (hT.below t2) (hT'.below t2) htl).mono ?_
  rintro e w3 ⟨rfl, hb3⟩
  have t3 := t2.trans (hb3.mono t2.size)
  go_wp2_with fail
  go_ret
  exact ⟨rfl, t3⟩

set_option linter.unusedVariables false
set_option maxRecDepth 100000

section
variable {ops : Array Oper} {rest : List Oper} {o : Oper} {a : Act} {Q : Exit → Act → World → Prop}
/-- append(s, l) onto links of one's own. -/
theorem wp_app1L (hgd : o.guard = none) (s x : Operand) (ho : o.op = .call { callee := .builtin .append, args := #[s, x], argTypes := #[32, 32] })
    (lo : Nat) (A : Option Addr) (c : Nat) (xs : List Lk) (w : World) (n : Nat) (y : Lk) (ha : Oe 52 2 lkL w lo A c xs) (hn : n = xs.length) (hs : a.eval s = .slice A n c)
    (g : Nat) (hx : a.eval x = .slice (some ⟨g, 0, none⟩) 1 1) (hg : g = w.heap.size) (hl : xs.length ≤ 1099511627776) (hlo : lo ≤ w.heap.size)
    (h : ∀ A' c' w' us, Hid (us = xs ++ [y]) → Oe 52 2 lkL w' lo A' c' us → Below lo w w' → (∀ b, b < w.heap.size → (∀ ad, A = some ad → ad.block ≠ b) → w'.heap[b]? = w.heap[b]?) → wpList Tryz.prog ops Q rest (a.put o.dst (.slice A' us.length c')) w') :
    wpList Tryz.prog ops Q (o :: rest) a (w.alloc (.cells #[.string y.1, .int .i64 y.2] 52)) := by
  obtain ⟨i0, hi, hz0, hz2, hz3⟩ := info_parts info_link
  subst hn hg
  refine wpList_plain hgd fun K hK => ?_
  obtain ⟨v', w', hr, h2, h3⟩ := run_append_ownG (P := Tryz.prog) (w.alloc (.cells #[.string y.1, .int .i64 y.2] 52)) lo 32 o.type 52 i0 _ 2 24 Tryz.underlying32 hi hz0 hz2 hz3 rfl (by decide) _ _ _ (ownsG.alloc ha _) ⟨w.heap.size, 0, none⟩ 1 1 (lkL y) rfl
    (by intro j u hu; match j, hu with
        | 0, hu => simp at hu; subst hu; simp [Addr.add]
        | 1, hu => simp at hu; subst hu; simp [Addr.add]
        | j + 2, hu => simp at hu) (by simp [Value.oneCell']) (by unfold maxLen; omega) (by omega) (by simp; omega)
  obtain ⟨A', c', rfl⟩ := h2.form
  unfold Oper.wp execOp
  simp only [ho, resolve, invoke, builtin, Sem.run_bind, Sem.run_pure, Result.andThen_ok, List.map_toArray, List.map_cons, List.map_nil, hs, hx, hr]
  refine hK _ _ ?_
  have hL : (xs ++ [y]).length = xs.length + 1 := by simp
  have hob : Oe 52 2 lkL w' lo A' c' (xs ++ [y]) := by
    unfold Oe; rw [hL, flat_snoc]; exact h2
  have := h A' c' w' _ (Lib.hid rfl) hob (((Below.refl lo w).alloc hlo _).trans (below_of_grown h3 (by simp; omega) (fun k hk => (ownsG.lt ha k hk).1))) (fun b hb hne => (h3.block b (by simp; omega) (by
    intro he
    cases A with
    | none => simp [Value.ownBlock] at he
    | some ad => simp [Value.ownBlock] at he; exact hne ad rfl he.symm)).trans (Below.heap_alloc w _ b hb))
  rw [hL] at this
  exact this
end
theorem Oe.empty {T : Type} {e : TypeId} {k : Nat} {enc : T → List Value} {w : World} : Oe e k enc (w.alloc (.cells #[] e)) w.heap.size (some ⟨w.heap.size, 0, none⟩) 0 [] :=
  ⟨by simp, .inr ⟨w.heap.size, 0, #[], (0, 0), rfl, Nat.le_refl _, heap_alloc_new _ _, .inl rfl, Nat.le_refl _, by unfold maxLen; omega, by simp, by simp⟩⟩

/-- Names. -/
def eqN (a b : ByteArray) : Bool := a.toList == b.toList
def ltN (a b : ByteArray) : Bool := Op.bytesLess a.toList b.toList
/-- The Id that a name is linked to. -/
def findS : List Lk → ByteArray → Int
  | [], _ => 0
  | x :: r, n => if eqN x.1 n then x.2 else findS r n
def lessS (dir : List Lk) (n : ByteArray) : List Lk := dir.filter fun x => !eqN x.1 n
def withS : List Lk → ByteArray → Int → List Lk
  | [], n, i => [(n, i)]
  | x :: r, n, i => if !(ltN x.1 n || eqN x.1 n) then (n, i) :: x :: r else x :: withS r n i
theorem findS_skip (dir : List Lk) (n : ByteArray) (k : Nat) (hk : k < dir.length) (h : eqN dir[k].1 n = false) : findS (dir.drop k) n = findS (dir.drop (k + 1)) n := by
  rw [List.drop_eq_getElem_cons hk, findS, h]
  rfl
theorem findS_hit (dir : List Lk) (n : ByteArray) (k : Nat) (hk : k < dir.length) (h : eqN dir[k].1 n = true) : findS (dir.drop k) n = dir[k].2 := by
  rw [List.drop_eq_getElem_cons hk, findS, h]
  rfl
theorem lessS_succ (dir : List Lk) (n : ByteArray) (k : Nat) (hk : k < dir.length) : lessS (dir.take (k + 1)) n = lessS (dir.take k) n ++ if eqN dir[k].1 n then [] else [dir[k]] := by
  rw [take_succ_get (List.getElem?_eq_getElem hk), lessS, lessS, List.filter_append]
  congr 1
  cases h : eqN dir[k].1 n <;> simp [h]
theorem lessS_len (dir : List Lk) (n : ByteArray) : (lessS dir n).length ≤ dir.length := List.length_filter_le _ _
theorem withS_len (dir : List Lk) (n : ByteArray) (i : Int) : (withS dir n i).length = dir.length + 1 := by
  induction dir with
  | nil => rfl
  | cons x r ih => unfold withS; split <;> simp [ih]
theorem withS_skip (dir : List Lk) (n : ByteArray) (i : Int) (k : Nat) (hk : k < dir.length) (h : (ltN dir[k].1 n || eqN dir[k].1 n) = true) : dir.take k ++ withS (dir.drop k) n i = dir.take (k + 1) ++ withS (dir.drop (k + 1)) n i := by
  rw [List.drop_eq_getElem_cons hk, withS, h, take_succ_get (List.getElem?_eq_getElem hk)]
  simp only [Bool.not_true, Bool.false_eq_true, if_false, List.append_assoc, List.singleton_append]
theorem withS_put (dir : List Lk) (n : ByteArray) (i : Int) (k : Nat) (hk : k < dir.length) (h : (ltN dir[k].1 n || eqN dir[k].1 n) = false) : dir.take k ++ withS (dir.drop k) n i = dir.take k ++ [(n, i)] ++ [dir[k]] ++ dir.drop (k + 1) := by
  rw [List.drop_eq_getElem_cons hk, withS, h]
  simp
set_option maxHeartbeats 1000000 in
theorem find_spec (A : Option Addr) (c : Nat) (dir : List Lk) (nm : ByteArray) (w : World) (ha : Ks w A dir) (hl : dir.length ≤ 1099511627776) :
    Calls Tryz.prog 51 #[.slice A dir.length c, .string nm] w fun e w' => e = .returned (.int .i64 (findS dir nm)) ∧ Below w.heap.size w w' := by
  go_enter Tryz.func51, Tryz.ntmps51
  go_wp2_with fail
  go_loopw [9] (fun i wr => ∃ k : Nat, k ≤ dir.length ∧ i = .int .i64 k ∧ Hid (findS dir nm = findS (dir.drop k) nm) ∧ Below w.heap.size w wr) (fun i _ => dir.length - (intOf i).toNat)
  case atStart => exact ⟨0, Nat.zero_le _, rfl, rfl, Below.refl _ _⟩
  case round =>
    obtain ⟨k, hk, rfl, hf, hb⟩ := hrel
    by_cases hlt : k < dir.length
    · obtain ⟨b, o, rfl, hbs, x0, x1⟩ := Ks.get (ha.below hb) hlt
      have hlt' : (k : Int) < dir.length := by omega
      have zb := hb.size
      cases he : (dir[k].1.toList == nm.toList) with
      | true =>
        have HF : Hid (findS dir nm = dir[k].2) := hf.out.trans (findS_hit dir nm k hlt he)
        clear hf
        go_wp2_with fail
        go_ret
        exact ⟨ret_int HF.out.symm, hb.trans (by (repeat (first | exact Below.refl _ _ | (refine Below.alloc ?_ (by first | omega | (simp; done) | (simp; omega)) _) | (refine Below.drew ?_) | (refine below_drewN ?_ _) | (refine below_at1 ?_ (by first | omega | (simp; done) | (simp; omega))) | (refine Below.setCell ?_ (by first | omega | (simp; done) | (simp; omega)) _) | (refine Below.trans ?_ (Below.mono (by assumption) (by first | omega | (simp; done) | (simp; omega)))))))⟩
      | false =>
        have HF : Hid (findS dir nm = findS (dir.drop (k + 1)) nm) := hf.out.trans (findS_skip dir nm k hlt he)
        clear hf
        go_wp2_with fail
        go_roundw
        case rel => exact ⟨k + 1, by omega, by go_num, HF, hb.trans (by (repeat (first | exact Below.refl _ _ | (refine Below.alloc ?_ (by first | omega | (simp; done) | (simp; omega)) _) | (refine Below.drew ?_) | (refine below_drewN ?_ _) | (refine below_at1 ?_ (by first | omega | (simp; done) | (simp; omega))) | (refine Below.setCell ?_ (by first | omega | (simp; done) | (simp; omega)) _) | (refine Below.trans ?_ (Below.mono (by assumption) (by first | omega | (simp; done) | (simp; omega)))))))⟩
        case measure => simp [intOf]; omega
    · have hlt' : ¬ ((k : Int) < dir.length) := by omega
      have HF : Hid (findS dir nm = 0) := hf.out.trans (by rw [List.drop_of_length_le (by omega)]; rfl)
      clear hf
      go_wp2_with fail
      go_ret
      exact ⟨ret_int HF.out.symm, hb⟩
/-- A function that answers links of its own. -/
def LkPost (w : World) (us : List Lk) (e : Ending) (w' : World) : Prop :=
  ∃ A' c', e = .returned (.slice A' us.length c') ∧ Oe 52 2 lkL w' w.heap.size A' c' us ∧ Below w.heap.size w w'
set_option maxHeartbeats 1000000 in
theorem less_spec (A : Option Addr) (c : Nat) (dir : List Lk) (nm : ByteArray) (w : World) (ha : Ks w A dir) (hl : dir.length ≤ 1048576) :
    Calls Tryz.prog 103 #[.slice A dir.length c, .string nm] w (LkPost w (lessS dir nm)) := by
  go_enter Tryz.func103, Tryz.ntmps103
  go_wp2_with fail
  go_loopw [5, 11] (fun ov i wr => ∃ (k : Nat) (A1 : Option Addr) (c1 : Nat) (us : List Lk), k ≤ dir.length ∧ i = .int .i64 k ∧ ov = .slice A1 us.length c1 ∧ Oe 52 2 lkL wr w.heap.size A1 c1 us ∧ Hid (us = lessS (dir.take k) nm) ∧ Below w.heap.size w wr) (fun _ i _ => dir.length - (intOf i).toNat)
  case atStart => exact ⟨0, _, 0, [], Nat.zero_le _, rfl, rfl, Oe.empty, Lib.hid rfl, (Below.refl _ _).alloc (Nat.le_refl _) _⟩
  case round =>
    obtain ⟨k, A1, c1, us, hk, rfl, rfl, ho, hu, hb⟩ := hrel
    have hul : us.length ≤ 1048576 := by rw [hu.out]; exact Nat.le_trans (lessS_len _ _) (by rw [List.length_take]; omega)
    by_cases hlt : k < dir.length
    · obtain ⟨b, o, rfl, hbs, x0, x1⟩ := Ks.get (ha.below hb) hlt
      have hlt' : (k : Int) < dir.length := by omega
      have zb := hb.size
      have hs := lessS_succ dir nm k hlt
      cases he : (dir[k].1.toList == nm.toList) with
      | true =>
        have HF : Hid (us = lessS (dir.take (k + 1)) nm) := by rw [show eqN dir[k].1 nm = true from he] at hs; rw [if_pos rfl, List.append_nil] at hs; exact hu.out.trans hs.symm
        clear hu hs
        go_wp2_with fail
        go_roundw
        case rel => exact ⟨k + 1, A1, c1, us, by omega, by go_num, rfl, ho.alloc _, HF, hb.trans (by (repeat (first | exact Below.refl _ _ | (refine Below.alloc ?_ (by first | omega | (simp; done) | (simp; omega)) _) | (refine Below.drew ?_) | (refine below_drewN ?_ _) | (refine below_at1 ?_ (by first | omega | (simp; done) | (simp; omega))) | (refine Below.setCell ?_ (by first | omega | (simp; done) | (simp; omega)) _) | (refine Below.trans ?_ (Below.mono (by assumption) (by first | omega | (simp; done) | (simp; omega)))))))⟩
        case measure => simp [intOf]; omega
      | false =>
        have HF : Hid (us ++ [dir[k]] = lessS (dir.take (k + 1)) nm) := by rw [show eqN dir[k].1 nm = false from he] at hs; rw [if_neg (by simp), ← hu.out] at hs; exact hs.symm
        clear hu hs
        go_wp2_with (at_builtin; refine wp_app1L rfl _ _ rfl w.heap.size A1 c1 us _ _ dir[k] (ho.alloc _) rfl rfl _ rfl (by simp) (by omega) (by first | omega | (simp; done) | (simp; omega)) ?_; intro A2 c2 w2 vs hvs ho2 hb2 hk2)
        go_roundw
        case rel => exact ⟨k + 1, A2, c2, vs, by omega, by go_num, rfl, ho2, Lib.hid (hvs.out.trans HF.out), (hb.trans ((Below.refl _ _).alloc zb _)).trans hb2⟩
        case measure => simp [intOf]; omega
    · have hlt' : ¬ ((k : Int) < dir.length) := by omega
      have HF : Hid (us = lessS dir nm) := hu.out.trans (by rw [List.take_of_length_le (by omega)])
      clear hu
      go_wp2_with fail
      go_ret
      have hE := HF.out
      subst hE
      exact ⟨A1, c1, rfl, ho, hb⟩
set_option maxHeartbeats 2000000 in
theorem with_spec (A : Option Addr) (c : Nat) (dir : List Lk) (nm : ByteArray) (id : Int) (w : World) (ha : Ks w A dir) (hl : dir.length ≤ 1048576) :
    Calls Tryz.prog 102 #[.slice A dir.length c, .string nm, .int .i64 id] w (LkPost w (withS dir nm id)) := by
  go_enter Tryz.func102, Tryz.ntmps102
  go_wp2_with fail
  go_loopw [7, 8, 14] (fun ov dv i wr => ∃ (k : Nat) (A1 : Option Addr) (c1 : Nat) (us : List Lk) (d : Bool), k ≤ dir.length ∧ i = .int .i64 k ∧ ov = .slice A1 us.length c1 ∧ dv = .bool d ∧ Oe 52 2 lkL wr w.heap.size A1 c1 us ∧ us.length ≤ k + 1 ∧ Hid (withS dir nm id = if d then us ++ dir.drop k else us ++ withS (dir.drop k) nm id) ∧ Hid (d = false → us = dir.take k) ∧ Below w.heap.size w wr) (fun _ _ i _ => dir.length - (intOf i).toNat)
  case atStart => exact ⟨0, _, 0, [], false, Nat.zero_le _, rfl, rfl, rfl, Oe.empty, by simp, Lib.hid rfl, Lib.hid (fun _ => rfl), (Below.refl _ _).alloc (Nat.le_refl _) _⟩
  case round =>
    obtain ⟨k, A1, c1, us, d, hk, rfl, rfl, rfl, ho, hul, hu, hd, hb⟩ := hrel
    by_cases hlt : k < dir.length
    · obtain ⟨b, o, rfl, hbs, x0, x1⟩ := Ks.get (ha.below hb) hlt
      have hlt' : (k : Int) < dir.length := by omega
      have zb := hb.size
      cases d with
      | true =>
        have HF : Hid (withS dir nm id = (us ++ [dir[k]]) ++ dir.drop (k + 1)) := by have := hu.out; rw [if_pos rfl, List.drop_eq_getElem_cons hlt] at this; rw [List.append_assoc]; exact this
        clear hu hd
        go_wp2_with (at_builtin; refine wp_app1L rfl _ _ rfl w.heap.size A1 c1 us _ _ dir[k] (ho.alloc _) rfl rfl _ rfl (by simp) (by omega) (by first | omega | (simp; done) | (simp; omega)) ?_; intro A2 c2 w2 vs hvs ho2 hb2 hk2)
        go_roundw
        case rel => exact ⟨k + 1, A2, c2, vs, true, by omega, by go_num, rfl, rfl, ho2, by rw [hvs.out]; simp; omega, by rw [hvs.out]; exact HF, Lib.hid (by simp), (hb.trans ((Below.refl _ _).alloc zb _)).trans hb2⟩
        case measure => simp [intOf]; omega
      | false =>
        have hd2 := hd.out rfl
        cases hg : (ltN dir[k].1 nm || eqN dir[k].1 nm) with
        | true =>
          have HF : Hid (withS dir nm id = (us ++ [dir[k]]) ++ withS (dir.drop (k + 1)) nm id) := by
            have h1 := hu.out
            rw [if_neg (by simp), hd2, withS_skip dir nm id k hlt hg, take_succ_get (List.getElem?_eq_getElem hlt)] at h1
            rw [hd2]; exact h1
          have HD : Hid (us ++ [dir[k]] = dir.take (k + 1)) := by rw [hd2, take_succ_get (List.getElem?_eq_getElem hlt)]; exact Lib.hid rfl
          have hg' : (Op.bytesLess dir[k].1.toList nm.toList || dir[k].1.toList == nm.toList) = true := hg
          clear hu hd hd2 hg
          go_wp2_with (at_builtin; refine wp_app1L rfl _ _ rfl w.heap.size A1 c1 us _ _ dir[k] (ho.alloc _) rfl rfl _ rfl (by simp) (by omega) (by first | omega | (simp; done) | (simp; omega)) ?_; intro A2 c2 w2 vs hvs ho2 hb2 hk2)
          go_roundw
          case rel => exact ⟨k + 1, A2, c2, vs, false, by omega, by go_num, rfl, rfl, ho2, by rw [hvs.out]; simp; omega, by rw [hvs.out]; exact HF, Lib.hid (fun _ => hvs.out.trans HD.out), (hb.trans ((Below.refl _ _).alloc zb _)).trans hb2⟩
          case measure => simp [intOf]; omega
        | false =>
          have HF : Hid (withS dir nm id = (us ++ [(nm, id)] ++ [dir[k]]) ++ dir.drop (k + 1)) := by
            have h1 := hu.out
            rw [if_neg (by simp), hd2, withS_put dir nm id k hlt hg] at h1
            rw [hd2]; exact h1
          have hul2 : Hid (us.length = k) := by show us.length = k; rw [hd2, List.length_take]; omega
          have hg' : (Op.bytesLess dir[k].1.toList nm.toList || dir[k].1.toList == nm.toList) = false := hg
          clear hu hd hd2 hg
          go_wp2_with (first
            | (at_builtin; refine wp_app1L rfl _ _ rfl w.heap.size A1 c1 us _ _ (nm, id) (ho.alloc _) rfl rfl _ rfl (by simp) (by omega) (by first | omega | (simp; done) | (simp; omega)) ?_; intro A2 c2 w2 vs hvs ho2 hb2 hk2; have z2 : wr.heap.size + 1 ≤ w2.heap.size := (by simpa using hb2.size); have hvl : vs.length ≤ us.length + 1 := Nat.le_of_eq ((congrArg List.length hvs.out).trans List.length_append); have B3 := (hk2 wr.heap.size (by simp) (fun ad h => by have := (ho.inB ad h).2; omega)).trans (heap_alloc_new wr _); have q3 := cell_of_row w2 wr.heap.size 0 _ _ (0, 0) B3; have q4 := cell_of_row w2 wr.heap.size 1 _ _ (0, 0) B3)
            | (at_builtin; refine wp_app1L rfl _ _ rfl w.heap.size A2 c2 vs _ _ dir[k] ho2 rfl rfl _ rfl (by simp) (by omega) (by omega) ?_; intro A4 c4 w4 us4 hus4 ho4 hb4 hk4))
          go_roundw
          case rel => exact ⟨k + 1, A4, c4, us4, true, by omega, by go_num, rfl, rfl, ho4, by have := hul2.out; rw [hus4.out]; simp; omega, by rw [hus4.out, hvs.out]; exact HF, Lib.hid (by simp), ((hb.trans ((Below.refl _ _).alloc zb _)).trans hb2).trans hb4⟩
          case measure => simp [intOf]; omega
    · have hlt' : ¬ ((k : Int) < dir.length) := by omega
      cases d with
      | true =>
        have HF : Hid (us = withS dir nm id) := by have := hu.out; rw [if_pos rfl, List.drop_of_length_le (by omega), List.append_nil] at this; exact this.symm
        clear hu hd
        go_wp2_with fail
        go_ret
        have hE := HF.out
        subst hE
        exact ⟨A1, c1, rfl, ho, hb⟩
      | false =>
        have HF : Hid (us ++ [(nm, id)] = withS dir nm id) := by have := hu.out; rw [if_neg (by simp), List.drop_of_length_le (by omega)] at this; exact this.symm
        have zb := hb.size
        clear hu hd
        go_wp2_with (at_builtin; refine wp_app1L rfl _ _ rfl w.heap.size A1 c1 us _ _ (nm, id) ho rfl rfl _ rfl (by simp) (by omega) (by omega) ?_; intro A2 c2 w2 vs hvs ho2 hb2 hk2)
        go_ret
        have hE := hvs.out.trans HF.out
        subst hE
        exact ⟨A2, c2, rfl, ho2, hb.trans hb2⟩
end Go.Proofs.YtpaeffmjkkikbaaGreatDoor
