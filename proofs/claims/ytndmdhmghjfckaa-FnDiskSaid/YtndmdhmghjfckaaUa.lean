/- Lists of elements of several cells: read, filled, owned; slices of bytes in blocks of their own. Files, links and turns of a disk: read, and their sizes. Files, links and turns of a disk: copied into slices of one's own. Files, links and turns of a disk: compared with their like. Directories: what is found, taken away, put in: the reference. -/
import Derived.Test.YtndmdhmghjfckaaOc
import Derived.Deep.RegionHeld3
import Derived.Deep.DeepCutAuto
namespace Go.Proofs.Ytndmdhmghjfckaa
open Go.RowKit

set_option linter.unusedVariables false
set_option maxRecDepth 100000

section
variable {T : Type} {k : Nat} {enc : T → List Value} {w w' : World} {A : Option Addr} {xs : List T}
theorem SlL.below (h : SlL w A k enc xs) (hb : Below w.heap.size w w') : SlL w' A k enc xs := by
  rcases h with h | ⟨b, o, hA, h⟩
  · exact .inl h
  · exact .inr ⟨b, o, hA, fun i x hi j u hu => (hb.cell (World.block_lt_of_cell? w _ (h i x hi j u hu))).trans (h i x hi j u hu)⟩
theorem SlL.drewN (h : SlL w A k enc xs) (m : Nat) : SlL (w.drewN m) A k enc xs := h
theorem SlL.belowB {B' : Nat} (h : SlL w A k enc xs) (hb : Below B' w w') (hA : ∀ ad, A = some ad → xs ≠ [] → ad.block < B') : SlL w' A k enc xs := by
  by_cases hx : xs = []
  · exact .inl hx
  · rcases h with h | ⟨b, o, rfl, h⟩
    · exact .inl h
    · exact .inr ⟨b, o, rfl, fun i x hi j u hu => (hb.cell (p := ⟨b, o + (i * k + j), none⟩) (hA ⟨b, o, none⟩ rfl hx)).trans (h i x hi j u hu)⟩
theorem SlL.get (h : SlL w A k enc xs) {i : Nat} (hi : i < xs.length) (h0 : 0 < (enc xs[i]).length) : ∃ b o, A = some ⟨b, o, none⟩ ∧ b < w.heap.size ∧ ∀ j u, (enc xs[i])[j]? = some u → w.cell? ⟨b, o + (i * k + j), none⟩ = some u := by
  rcases h with h | ⟨b, o, hA, h⟩
  · rw [h] at hi; simp at hi
  · have e := List.getElem?_eq_getElem hi
    have h1 := h i _ e 0 _ (List.getElem?_eq_getElem h0)
    exact ⟨b, o, hA, World.block_lt_of_cell? w _ h1, fun j u hu => h i _ e j u hu⟩
theorem SlL.nil : SlL w A k enc [] := .inl rfl
theorem flat_len (hk : ∀ x, (enc x).length = k) (l : List T) : (l.flatMap enc).length = l.length * k := by
  induction l with
  | nil => simp
  | cons c r ih => simp only [List.flatMap_cons, List.length_append, List.length_cons, ih, hk, Nat.succ_mul]; omega
theorem flat_get (hk : ∀ x, (enc x).length = k) (l : List T) : ∀ (i : Nat) (c : T), l[i]? = some c → ∀ (j : Nat) (u : Value), (enc c)[j]? = some u → (l.flatMap enc)[i * k + j]? = some u := by
  induction l with
  | nil => intro i c h; simp at h
  | cons x r ih =>
    intro i c h j u hu
    have hj : j < k := by have := (List.getElem?_eq_some_iff.1 hu).1; rw [hk] at this; exact this
    rw [List.flatMap_cons]
    cases i with
    | zero =>
      simp only [List.getElem?_cons_zero] at h
      injection h with h
      subst h
      rw [Nat.zero_mul, Nat.zero_add, List.getElem?_append_left (by rw [hk]; exact hj)]
      exact hu
    | succ i =>
      rw [List.getElem?_append_right (by rw [hk, Nat.succ_mul]; omega), hk]
      have := ih i c (by simpa using h) j u hu
      rw [← this]
      congr 1
      rw [Nat.succ_mul]
      omega
theorem flat_snoc (l : List T) (c : T) : (l ++ [c]).flatMap enc = l.flatMap enc ++ enc c := by simp
theorem flat_take (hk : ∀ x, (enc x).length = k) (l : List T) (n : Nat) (hn : n ≤ l.length) : (l.flatMap enc).take (n * k) = (l.take n).flatMap enc := by
  conv => lhs; rw [← List.take_append_drop n l, List.flatMap_append]
  rw [List.take_left' (by rw [flat_len hk]; simp [hn])]
theorem flat_drop (hk : ∀ x, (enc x).length = k) (l : List T) (n : Nat) (hn : n ≤ l.length) : (l.flatMap enc).drop (n * k) = (l.drop n).flatMap enc := by
  conv => lhs; rw [← List.take_append_drop n l, List.flatMap_append]
  rw [List.drop_left' (by rw [flat_len hk]; simp [hn])]
theorem SlL.of_cells {b o : Nat} (hk : ∀ x, (enc x).length = k) (h : ∀ j u, (xs.flatMap enc)[j]? = some u → w.cell? ⟨b, o + j, none⟩ = some u) : SlL w (some ⟨b, o, none⟩) k enc xs :=
  .inr ⟨b, o, rfl, fun i x hi j u hu => h _ _ (flat_get hk xs i x hi j u hu)⟩
theorem Fill.sl {g N : Nat} {t : TypeId} (hk : ∀ x, (enc x).length = k) (h : Fill w g t N (xs.flatMap enc)) : SlL w (some ⟨g, 0, none⟩) k enc xs := by
  refine .inr ⟨g, 0, rfl, fun i x hi j u hu => ?_⟩
  have hi2 := flat_get hk xs i x hi j u hu
  obtain ⟨cur, fz, h1, hz, h2, h3, h4⟩ := h
  have hi' := (List.getElem?_eq_some_iff.1 hi2).1
  rw [← h3, List.getElem?_take_of_lt hi'] at hi2
  rw [Nat.zero_add, cell_of_row w g _ cur t fz h1]
  simpa using hi2
/-- A slice of elements that owns its block, from block lo on. -/
def Oe (e : TypeId) (k : Nat) (enc : T → List Value) (w : World) (lo : Nat) (A : Option Addr) (c : Nat) (xs : List T) : Prop := ownsG w lo e k (.slice A xs.length c) xs.length (xs.flatMap enc)
variable {e : TypeId} {lo c : Nat}
theorem Oe.sl (hk : ∀ x, (enc x).length = k) (h : Oe e k enc w lo A c xs) : SlL w A k enc xs := by
  rcases h.2 with ⟨h1, h2⟩ | ⟨g, cap, cur, fz, hv, _⟩
  · exact .inl (List.eq_nil_of_length_eq_zero h2)
  · injection hv with hv _ _
    exact .inr ⟨g, 0, hv, fun i x hi j u hu => by rw [Nat.zero_add]; exact ownsG.cells h (g := g) (by rw [hv]; rfl) _ _ (flat_get hk xs i x hi j u hu)⟩
theorem Oe.below {B' : Nat} (h : Oe e k enc w lo A c xs) (hb : Below B' w w') (hB : w.heap.size ≤ B') : Oe e k enc w' lo A c xs :=
  ownsG.below h hb fun k hk => Nat.lt_of_lt_of_le (ownsG.lt h k hk).2 hB
theorem Oe.belowB {B' hi : Nat} (h : Oe e k enc w lo A c xs) (hb : Below B' w w') (hi' : InB lo hi A) (hB : hi ≤ B') : Oe e k enc w' lo A c xs :=
  ownsG.below h hb fun k hk => by
    cases A with
    | none => simp [Value.ownBlock] at hk
    | some ad => have := (hi' ad rfl).2; simp [Value.ownBlock] at hk; omega
theorem Oe.alloc (h : Oe e k enc w lo A c xs) (o : Obj) : Oe e k enc (w.alloc o) lo A c xs := ownsG.alloc h o
theorem Oe.drewN (h : Oe e k enc w lo A c xs) (m : Nat) : Oe e k enc (w.drewN m) lo A c xs := h
theorem Oe.mono {lo' : Nat} (h : Oe e k enc w lo A c xs) (hl : lo' ≤ lo) : Oe e k enc w lo' A c xs := ownsG.mono h hl
theorem Oe.inB (h : Oe e k enc w lo A c xs) : InB lo w.heap.size A := by
  rintro ad rfl
  exact ownsG.lt h ad.block rfl
theorem Oe.cap (h : Oe e k enc w lo A c xs) : xs.length ≤ c := by
  rcases h.2 with ⟨hv, hn⟩ | ⟨g, cap, cur, fz, hv, _, _, _, hnc, _⟩
  · omega
  · injection hv with _ _ hv3
    omega
theorem Oe.of_fill {g N : Nat} (hk : ∀ x, (enc x).length = k) (h : Fill w g e (N * k) (xs.flatMap enc)) (hN : xs.length ≤ N) (hlo : lo ≤ g) (hm : N ≤ maxLen) : Oe e k enc w lo (some ⟨g, 0, none⟩) N xs := by
  obtain ⟨cur, fz, h1, hz, h2, h3, h4⟩ := h
  exact ⟨flat_len hk xs, .inr ⟨g, N, cur, fz, rfl, hlo, h1, hz, hN, hm, h2, by rw [← flat_len hk]; exact h3⟩⟩
theorem Oe.fill (h : Oe e k enc w lo A c xs) (hx : 0 < xs.length) : ∃ g, A = some ⟨g, 0, none⟩ ∧ lo ≤ g ∧ c ≤ maxLen ∧ xs.length ≤ c ∧ Fill w g e (c * k) [] := by
  rcases h.2 with ⟨h1, h2⟩ | ⟨g, cap, cur, fz, hv, hg, hh, hz, hc1, hc2, hc3, ht⟩
  · omega
  · injection hv with hv _ hv3
    subst hv3
    exact ⟨g, hv, hg, hc2, hc1, Fill.start hh hz (by omega)⟩
end
theorem Fill.two {w : World} {g N : Nat} {t : TypeId} {done : List Value} (h : Fill w g t N done) {k : Nat} (hk : k * 2 = done.length) (hlt : k * 2 + 2 ≤ N) (a b : Value) :
    Fill ((w.setCell ⟨g, k * 2, none⟩ a).setCell ⟨g, k * 2 + 1, none⟩ b) g t N (done ++ [a, b]) := by
  have h1 := h.step hk (by omega) a
  have h2 := h1.step (k := k * 2 + 1) (by simp; omega) (by omega) b
  simpa using h2
theorem Fill.three {w : World} {g N : Nat} {t : TypeId} {done : List Value} (h : Fill w g t N done) {k : Nat} (hk : k * 3 = done.length) (hlt : k * 3 + 3 ≤ N) (a b c : Value) :
    Fill (((w.setCell ⟨g, k * 3, none⟩ a).setCell ⟨g, k * 3 + 1, none⟩ b).setCell ⟨g, k * 3 + 2, none⟩ c) g t N (done ++ [a, b, c]) := by
  have h1 := h.step hk (by omega) a
  have h2 := h1.step (k := k * 3 + 1) (by simp; omega) (by omega) b
  have h3 := h2.step (k := k * 3 + 2) (by simp; omega) (by omega) c
  simpa using h3
theorem Fill.four {w : World} {g N : Nat} {t : TypeId} {done : List Value} (h : Fill w g t N done) {k : Nat} (hk : k * 4 = done.length) (hlt : k * 4 + 4 ≤ N) (a b c d : Value) :
    Fill ((((w.setCell ⟨g, k * 4, none⟩ a).setCell ⟨g, k * 4 + 1, none⟩ b).setCell ⟨g, k * 4 + 2, none⟩ c).setCell ⟨g, k * 4 + 3, none⟩ d) g t N (done ++ [a, b, c, d]) := by
  have h1 := h.step hk (by omega) a
  have h2 := h1.step (k := k * 4 + 1) (by simp; omega) (by omega) b
  have h3 := h2.step (k := k * 4 + 2) (by simp; omega) (by omega) c
  have h4 := h3.step (k := k * 4 + 3) (by simp; omega) (by omega) d
  simpa using h4

/-- A slice of bytes: where it begins, its capacity, its bytes. -/
abbrev Sl := Option Addr × Nat × List UInt8
abbrev slv (e : Sl) : Value := .slice e.1 e.2.2.length e.2.1
def tot (es : List Sl) : Nat := (es.map fun e => e.2.2.length).sum
theorem tot_succ {es : List Sl} {k : Nat} (hk : k < es.length) : tot (es.take (k + 1)) = tot (es.take k) + es[k].2.2.length := by
  rw [take_succ_get (List.getElem?_eq_getElem hk)]
  simp only [tot, List.map_append, List.map_cons, List.map_nil, List.sum_append, List.sum_cons, List.sum_nil, Nat.add_zero]
theorem tot_le (es : List Sl) (k : Nat) : tot (es.take k) ≤ tot es := by
  have h : tot (es.take k ++ es.drop k) = tot (es.take k) + tot (es.drop k) := by simp only [tot, List.map_append, List.sum_append]
  rw [List.take_append_drop] at h
  omega
theorem tot_get {es : List Sl} {k : Nat} (hk : k < es.length) : tot (es.take k) + es[k].2.2.length ≤ tot es := by
  rw [← tot_succ hk]
  exact tot_le _ _
/-- What is left of a budget. -/
def szR (left n : Int) : Int := if left < n then -1 else left - n
theorem szR_no {left n : Int} (h : left < n) : Hid (szR left n = -1) := if_pos h
theorem szR_yes {left n : Int} (h : ¬ left < n) : Hid (szR left n = left - n) := if_neg h
/-- Loads whose bytes lie in blocks of their own, one after the other, from block lo to before block hi. -/
def Obs (w : World) (lo hi : Nat) : List Sl → Prop
  | [] => lo ≤ hi
  | e :: r => ∃ m, lo ≤ m ∧ Ob w lo e.1 e.2.1 e.2.2 ∧ InB lo m e.1 ∧ Obs w m hi r
theorem Obs.le {w : World} {es : List Sl} : ∀ {lo hi : Nat}, Obs w lo hi es → lo ≤ hi := by
  induction es with
  | nil => exact fun h => h
  | cons e r ih =>
    rintro lo hi ⟨m, h1, _, _, h2⟩
    exact Nat.le_trans h1 (ih h2)
theorem Ob.keepB {w w' : World} {lo c : Nat} {A : Option Addr} {bs : List UInt8} (h : Ob w lo A c bs) (hk : ∀ ad, A = some ad → w'.heap[ad.block]? = w.heap[ad.block]?) : Ob w' lo A c bs := by
  obtain ⟨h1, h2⟩ := h
  refine ⟨h1, ?_⟩
  rcases h2 with h2 | ⟨g, cap, cur, fz, hv, h3, h4, h5⟩
  · exact .inl h2
  · injection hv with hv hv2 hv3
    exact .inr ⟨g, cap, cur, fz, by rw [hv, hv3], h3, (hk _ hv).trans h4, h5⟩
theorem Obs.keep {w w' : World} {es : List Sl} : ∀ {lo hi : Nat}, Obs w lo hi es → (∀ k, lo ≤ k → k < hi → w'.heap[k]? = w.heap[k]?) → Obs w' lo hi es := by
  induction es with
  | nil => exact fun h _ => h
  | cons e r ih =>
    rintro lo hi ⟨m, h1, h2, h3, h4⟩ hk
    have hl := h4.le
    exact ⟨m, h1, h2.keepB fun ad ha => hk _ (h3 ad ha).1 (by have := (h3 ad ha).2; omega), h3, ih h4 fun k hk1 hk2 => hk k (by omega) hk2⟩
theorem Obs.below {w w' : World} {es : List Sl} {lo hi B' : Nat} (h : Obs w lo hi es) (hb : Below B' w w') (hB : hi ≤ B') : Obs w' lo hi es :=
  h.keep fun k _ hk => hb.block k (by omega)
theorem Obs.snoc {w : World} {es : List Sl} {A : Option Addr} {c : Nat} {bs : List UInt8} {m hi : Nat} (h2 : Ob w m A c bs) (h3 : InB m hi A) (h4 : m ≤ hi) : ∀ {lo : Nat}, Obs w lo m es → Obs w lo hi (es ++ [(A, c, bs)]) := by
  induction es with
  | nil => exact fun h => ⟨hi, Nat.le_trans h h4, h2.mono h, fun ad ha => ⟨Nat.le_trans h (h3 ad ha).1, (h3 ad ha).2⟩, Nat.le_refl _⟩
  | cons e r ih => rintro lo ⟨m', h5, h6, h7, h8⟩; exact ⟨m', h5, h6, h7, ih h8⟩
theorem Obs.widen {w : World} {es : List Sl} {hi hi' : Nat} (hh : hi ≤ hi') : ∀ {lo : Nat}, Obs w lo hi es → Obs w lo hi' es := by
  induction es with
  | nil => exact fun h => Nat.le_trans h hh
  | cons e r ih => rintro lo ⟨m', h5, h6, h7, h8⟩; exact ⟨m', h5, h6, h7, ih h8⟩
theorem Obs.lower {w : World} {es : List Sl} {lo lo' hi : Nat} (hh : lo' ≤ lo) (h : Obs w lo hi es) : Obs w lo' hi es := by
  cases es with
  | nil => exact Nat.le_trans hh h
  | cons e r =>
    obtain ⟨m, h1, h2, h3, h4⟩ := h
    exact ⟨m, by omega, h2.mono hh, fun ad ha => ⟨Nat.le_trans hh (h3 ad ha).1, (h3 ad ha).2⟩, h4⟩
theorem Obs.split {w : World} {a b : List Sl} {e : Sl} {hi : Nat} : ∀ {lo : Nat}, Obs w lo hi (a ++ e :: b) → ∃ m m', lo ≤ m ∧ m ≤ m' ∧ m' ≤ hi ∧ Obs w lo m a ∧ Ob w m e.1 e.2.1 e.2.2 ∧ InB m m' e.1 ∧ Obs w m' hi b := by
  induction a with
  | nil =>
    rintro lo ⟨m, h1, h2, h3, h4⟩
    exact ⟨lo, m, Nat.le_refl _, h1, h4.le, Nat.le_refl _, h2, h3, h4⟩
  | cons x r ih =>
    rintro lo ⟨m0, h1, h2, h3, h4⟩
    obtain ⟨m, m', h5, h6, h7, h8, h9⟩ := ih h4
    exact ⟨m, m', by omega, h6, h7, ⟨m0, h1, h2, h3, h8⟩, h9⟩
theorem Obs.join {w : World} {a b : List Sl} {e : Sl} {m m' hi : Nat} (h6 : m ≤ m') (h2 : Ob w m e.1 e.2.1 e.2.2) (h3 : InB m m' e.1) (h4 : Obs w m' hi b) : ∀ {lo : Nat}, Obs w lo m a → Obs w lo hi (a ++ e :: b) := by
  induction a with
  | nil => exact fun h => ⟨m', Nat.le_trans h h6, h2.mono h, fun ad ha => ⟨Nat.le_trans h (h3 ad ha).1, (h3 ad ha).2⟩, h4⟩
  | cons x r ih => rintro lo ⟨m0, h1, h5, h7, h8⟩; exact ⟨m0, h1, h5, h7, ih h8⟩
theorem Obs.by_ {w : World} {es : List Sl} : ∀ {lo hi : Nat}, Obs w lo hi es → ∀ e, e ∈ es → By w e.1 e.2.2 := by
  induction es with
  | nil => intro lo hi _ e he; simp at he
  | cons x r ih =>
    rintro lo hi ⟨m, h1, h2, h3, h4⟩ e he
    rcases List.mem_cons.1 he with rfl | he
    · exact h2.by_
    · exact ih h4 e he
theorem Obs.inB {w : World} {es : List Sl} : ∀ {lo hi : Nat}, Obs w lo hi es → ∀ e, e ∈ es → InB lo hi e.1 := by
  induction es with
  | nil => intro lo hi _ e he; simp at he
  | cons x r ih =>
    rintro lo hi ⟨m, h1, h2, h3, h4⟩ e he ad ha
    rcases List.mem_cons.1 he with rfl | he
    · have := h3 ad ha; have := h4.le; omega
    · have := ih h4 e he ad ha; omega
/-- What changed lies in the blocks from lo to before hi, or is new. -/
def Kp (lo hi : Nat) (w w' : World) : Prop := Below lo w w' ∧ ∀ k, hi ≤ k → k < w.heap.size → w'.heap[k]? = w.heap[k]?
theorem Kp.refl (lo hi : Nat) (w : World) : Kp lo hi w w := ⟨Below.refl _ _, fun _ _ _ => rfl⟩
theorem Kp.trans {lo hi : Nat} {w w1 w2 : World} (h : Kp lo hi w w1) (h' : Kp lo hi w1 w2) : Kp lo hi w w2 :=
  ⟨h.1.trans h'.1, fun k hk hs => (h'.2 k hk (Nat.lt_of_lt_of_le hs h.1.size)).trans (h.2 k hk hs)⟩
theorem Kp.drewN {lo hi : Nat} {w w1 : World} (h : Kp lo hi w w1) (m : Nat) : Kp lo hi w (w1.drewN m) := ⟨below_drewN h.1 m, h.2⟩
theorem Kp.of_grown {lo hi : Nat} {w w' : World} {A : Option Addr} {n c : Nat} (hg : w.grownBy w' (Value.slice A n c).ownBlock) (hA : InB lo hi A) (hlo : lo ≤ w.heap.size) : Kp lo hi w w' := by
  refine ⟨below_grown (Below.refl _ _) hg hA (Nat.le_refl _) hlo, fun k hk hs => hg.block k hs ?_⟩
  intro he
  cases A with
  | none => simp [Value.ownBlock] at he
  | some ad =>
    have := hA ad rfl
    simp [Value.ownBlock] at he
    omega
theorem Kp.wide {lo hi lo' hi' : Nat} {w w' : World} (h : Kp lo hi w w') (h1 : lo' ≤ lo) (h2 : hi ≤ hi') : Kp lo' hi' w w' := ⟨h.1.mono h1, fun k hk hs => h.2 k (by omega) hs⟩
theorem Kp.ob {lo hi lo' c : Nat} {w w' : World} {A : Option Addr} {bs : List UInt8} (h : Kp lo hi w w') (ho : Ob w lo' A c bs) (hh : hi ≤ lo') : Ob w' lo' A c bs :=
  ho.keepB fun ad ha => h.2 _ (by have := ho.inB ad ha; omega) (ho.inB ad ha).2
theorem Kp.obs {lo hi lo' hi' : Nat} {w w' : World} {es : List Sl} (h : Kp lo hi w w') (ho : Obs w lo' hi' es) (hh : hi ≤ lo') (hs : hi' ≤ w.heap.size) : Obs w' lo' hi' es :=
  ho.keep fun k hk hk2 => h.2 k (by omega) (by omega)

set_option linter.unusedVariables false
set_option maxRecDepth 100000

abbrev Lk := ByteArray × Int
abbrev lkL (x : Lk) : List Value := [.string x.1, .int .i64 x.2]
abbrev lkV (x : Lk) : Value := .agg #[.string x.1, .int .i64 x.2]
abbrev Tn := Int × ByteArray × ByteArray × Int
abbrev tnL (x : Tn) : List Value := [.int .i64 x.1, .string x.2.1, .string x.2.2.1, .int .i64 x.2.2.2]
abbrev tnV (x : Tn) : Value := .agg #[.int .i64 x.1, .string x.2.1, .string x.2.2.1, .int .i64 x.2.2.2]
abbrev Fl := Int × Sl × Int
abbrev flL (x : Fl) : List Value := [.int .i64 x.1, .slice x.2.1.1 x.2.1.2.2.length x.2.1.2.1, .int .i64 x.2.2]
abbrev flV (x : Fl) : Value := .agg #[.int .i64 x.1, .slice x.2.1.1 x.2.1.2.2.length x.2.1.2.1, .int .i64 x.2.2]
theorem lk2 (x : Lk) : (lkL x).length = 2 := rfl
theorem tn4 (x : Tn) : (tnL x).length = 4 := rfl
theorem fl3 (x : Fl) : (flL x).length = 3 := rfl
abbrev Ks (w : World) (A : Option Addr) (xs : List Lk) : Prop := SlL w A 2 lkL xs
abbrev Ts (w : World) (A : Option Addr) (xs : List Tn) : Prop := SlL w A 4 tnL xs
def Fs (w : World) (A : Option Addr) (xs : List Fl) : Prop := SlL w A 3 flL xs ∧ ∀ e, e ∈ xs → By w e.2.1.1 e.2.1.2.2
section
variable {w w' : World} {A : Option Addr}
theorem Fs.below {xs : List Fl} (h : Fs w A xs) (hb : Below w.heap.size w w') : Fs w' A xs := ⟨h.1.below hb, fun e he => (h.2 e he).below hb⟩
theorem Fs.drewN {xs : List Fl} (h : Fs w A xs) (m : Nat) : Fs (w.drewN m) A xs := h
theorem Ks.get {xs : List Lk} (h : Ks w A xs) {k : Nat} (hk : k < xs.length) : ∃ b o, A = some ⟨b, o, none⟩ ∧ b < w.heap.size ∧ w.cell? ⟨b, o + k * 2, none⟩ = some (.string xs[k].1) ∧ w.cell? ⟨b, o + k * 2 + 1, none⟩ = some (.int .i64 xs[k].2) := by
  obtain ⟨b, o, hA, hb, h⟩ := SlL.get h hk (by simp)
  exact ⟨b, o, hA, hb, h 0 _ rfl, h 1 _ rfl⟩
theorem Ts.get {xs : List Tn} (h : Ts w A xs) {k : Nat} (hk : k < xs.length) : ∃ b o, A = some ⟨b, o, none⟩ ∧ b < w.heap.size ∧ w.cell? ⟨b, o + k * 4, none⟩ = some (.int .i64 xs[k].1) ∧ w.cell? ⟨b, o + k * 4 + 1, none⟩ = some (.string xs[k].2.1) ∧ w.cell? ⟨b, o + k * 4 + 2, none⟩ = some (.string xs[k].2.2.1) ∧ w.cell? ⟨b, o + k * 4 + 3, none⟩ = some (.int .i64 xs[k].2.2.2) := by
  obtain ⟨b, o, hA, hb, h⟩ := SlL.get h hk (by simp)
  exact ⟨b, o, hA, hb, h 0 _ rfl, h 1 _ rfl, h 2 _ rfl, h 3 _ rfl⟩
theorem Fs.get {xs : List Fl} (h : Fs w A xs) {k : Nat} (hk : k < xs.length) : ∃ b o, A = some ⟨b, o, none⟩ ∧ b < w.heap.size ∧ w.cell? ⟨b, o + k * 3, none⟩ = some (.int .i64 xs[k].1) ∧ w.cell? ⟨b, o + k * 3 + 1, none⟩ = some (.slice xs[k].2.1.1 xs[k].2.1.2.2.length xs[k].2.1.2.1) ∧ w.cell? ⟨b, o + k * 3 + 2, none⟩ = some (.int .i64 xs[k].2.2) ∧ By w xs[k].2.1.1 xs[k].2.1.2.2 := by
  obtain ⟨b, o, hA, hb, h1⟩ := SlL.get h.1 hk (by simp)
  exact ⟨b, o, hA, hb, h1 0 _ rfl, h1 1 _ rfl, h1 2 _ rfl, h.2 _ (List.getElem_mem hk)⟩
end
def ftot (xs : List Fl) : Nat := (xs.map fun e => e.2.1.2.2.length).sum
def ktot (xs : List Lk) : Nat := (xs.map fun e => e.1.size).sum
def ttot (xs : List Tn) : Nat := (xs.map fun e => e.2.1.size + e.2.2.1.size).sum
theorem sum_succ {T : Type} (f : T → Nat) {es : List T} {k : Nat} (hk : k < es.length) : ((es.take (k + 1)).map f).sum = ((es.take k).map f).sum + f es[k] := by
  rw [take_succ_get (List.getElem?_eq_getElem hk)]
  simp only [List.map_append, List.map_cons, List.map_nil, List.sum_append, List.sum_cons, List.sum_nil, Nat.add_zero]
theorem sum_le {T : Type} (f : T → Nat) (es : List T) (k : Nat) : ((es.take k).map f).sum ≤ (es.map f).sum := by
  have h : ((es.take k ++ es.drop k).map f).sum = ((es.take k).map f).sum + ((es.drop k).map f).sum := by simp only [List.map_append, List.sum_append]
  rw [List.take_append_drop] at h
  omega
theorem sum_get {T : Type} (f : T → Nat) {es : List T} {k : Nat} (hk : k < es.length) : ((es.take k).map f).sum + f es[k] ≤ (es.map f).sum := by
  rw [← sum_succ f hk]
  exact sum_le f es _
theorem cellsInt_ : Try.prog.cellsOf 3 = 1 := by kernel_rfl
theorem cellsStr_ : Try.prog.cellsOf 9 = 1 := by kernel_rfl
theorem cellsBy_ : Try.prog.cellsOf 22 = 1 := by kernel_rfl
abbrev bd (x : Int) : Prop := -9223372036854775808 ≤ x ∧ x ≤ 9223372036854775807
abbrev dkC (r f n : Int) (FA : Option Addr) (fn fc : Nat) (KA : Option Addr) (kn kc : Nat) (TA : Option Addr) (tn tc : Nat) : Array Value := #[.int .i64 r, .int .i64 f, .int .i64 n, .slice FA fn fc, .slice KA kn kc, .slice TA tn tc]
abbrev dkV (r f n : Int) (FA : Option Addr) (fn fc : Nat) (KA : Option Addr) (kn kc : Nat) (TA : Option Addr) (tn tc : Nat) : Value := .agg (dkC r f n FA fn fc KA kn kc TA tn tc)
set_option linter.unusedVariables false
set_option maxRecDepth 100000

theorem info_link : (Try.prog.info? 63).map (fun i => (i.zero, i.size, i.bytes)) = some (some (.agg #[.string ByteArray.empty, .int .i64 0]), 2, 24) := by kernel_rfl
theorem info_turn : (Try.prog.info? 66).map (fun i => (i.zero, i.size, i.bytes)) = some (some (.agg #[.int .i64 0, .string ByteArray.empty, .string ByteArray.empty, .int .i64 0]), 4, 48) := by kernel_rfl
theorem info_file : (Try.prog.info? 36).map (fun i => (i.zero, i.size, i.bytes)) = some (some (.agg #[.int .i64 0, .slice none 0 0, .int .i64 0]), 3, 40) := by kernel_rfl
theorem ob_set {w : World} {lo c : Nat} {A : Option Addr} {bs : List UInt8} {p : Addr} {v : Value} (h : Ob w lo A c bs) (hp : p.block < lo) : Ob (w.setCell p v) lo A c bs :=
  h.keepB fun ad ha => Below.heap_setCell w p v _ (by have := (h.inB ad ha).1; omega)
def FilePost (w : World) (x : Fl) (e : Ending) (w' : World) : Prop :=
  ∃ A2 c2, e = .returned (flV (x.1, (A2, c2, x.2.1.2.2), x.2.2)) ∧ Ob w' w.heap.size A2 c2 x.2.1.2.2 ∧ Below w.heap.size w w'
/-- What a file is. -/
abbrev fc (x : Fl) : Int × List UInt8 × Int := (x.1, x.2.1.2.2, x.2.2)
abbrev fb (x : Fl) : Sl := x.2.1
/-- A slice of files that owns its block, and whose bodies own theirs: from block lo to before block hi. -/
def FsO (w : World) (lo hi : Nat) (A : Option Addr) (c : Nat) (fs : List Fl) : Prop := Oe 36 3 flL w lo A c fs ∧ ∃ m, lo ≤ m ∧ InB lo m A ∧ Obs w m hi (fs.map fb)
theorem FsO.fs {w : World} {lo hi c : Nat} {A : Option Addr} {fs : List Fl} (h : FsO w lo hi A c fs) : Fs w A fs := by
  obtain ⟨h1, m, h2, h3, h4⟩ := h
  exact ⟨h1.sl fl3, fun e he => h4.by_ _ (List.mem_map.2 ⟨e, he, rfl⟩)⟩
theorem FsO.below {w w' : World} {lo hi c B' : Nat} {A : Option Addr} {fs : List Fl} (h : FsO w lo hi A c fs) (hb : Below B' w w') (hB : hi ≤ B') : FsO w' lo hi A c fs := by
  obtain ⟨h1, m, h2, h3, h4⟩ := h
  exact ⟨h1.belowB hb h3 (by have := h4.le; omega), m, h2, h3, h4.below hb hB⟩
theorem FsO.drewN {w : World} {lo hi c : Nat} {A : Option Addr} {fs : List Fl} (h : FsO w lo hi A c fs) (n : Nat) : FsO (w.drewN n) lo hi A c fs := by
  obtain ⟨h1, m, h2, h3, h4⟩ := h
  exact ⟨h1, m, h2, h3, h4.keep fun _ _ _ => rfl⟩
theorem obs_end {w : World} {es : List Sl} {hi hi' : Nat} (h : hi ≤ hi') : ∀ {lo : Nat}, Obs w lo hi es → Obs w lo hi' es := Obs.widen h
theorem fc_len {es fs : List Fl} (h : es.map fc = fs.map fc) : es.length = fs.length := by
  have := congrArg List.length h
  simpa using this
theorem fc_get {es fs : List Fl} (h : es.map fc = fs.map fc) {k : Nat} (h1 : k < es.length) (h2 : k < fs.length) : es[k].1 = fs[k].1 ∧ es[k].2.1.2.2 = fs[k].2.1.2.2 ∧ es[k].2.2 = fs[k].2.2 := by
  have := congrArg (fun l => l[k]?) h
  simpa [h1, h2] using this
def ToFPost (w : World) (es : List Fl) (e : Ending) (w' : World) : Prop :=
  ∃ A' c' fs, e = .returned (.slice A' es.length c') ∧ Hid (fs.map fc = es.map fc) ∧ FsO w' w.heap.size w'.heap.size A' c' fs ∧ Below w.heap.size w w'
theorem Oe.keepB {T : Type} {k : Nat} {enc : T → List Value} {e : TypeId} {w w' : World} {A : Option Addr} {xs : List T} {lo c : Nat} (h : Oe e k enc w lo A c xs) (hk : ∀ ad, A = some ad → w'.heap[ad.block]? = w.heap[ad.block]?) : Oe e k enc w' lo A c xs := by
  obtain ⟨h1, h2⟩ := h
  refine ⟨h1, ?_⟩
  rcases h2 with h2 | ⟨g, cap, cur, fz, hv, h3, h4, h5⟩
  · exact .inl h2
  · injection hv with hv hv2 hv3
    exact .inr ⟨g, cap, cur, fz, by rw [hv, hv3], h3, (hk _ hv).trans h4, h5⟩
theorem FsO.keep {w w' : World} {lo hi c : Nat} {A : Option Addr} {fs : List Fl} (h : FsO w lo hi A c fs) (hk : ∀ k, lo ≤ k → k < hi → w'.heap[k]? = w.heap[k]?) : FsO w' lo hi A c fs := by
  obtain ⟨h1, m, h2, h3, h4⟩ := h
  have hl := h4.le
  exact ⟨h1.keepB fun ad ha => hk _ (h3 ad ha).1 (by have := (h3 ad ha).2; omega), m, h2, h3, h4.keep fun k h5 h6 => hk k (by omega) h6⟩
theorem FsO.lower {w : World} {lo lo' hi c : Nat} {A : Option Addr} {fs : List Fl} (h : FsO w lo hi A c fs) (hl : lo' ≤ lo) : FsO w lo' hi A c fs := by
  obtain ⟨h1, m, h2, h3, h4⟩ := h
  exact ⟨Oe.mono h1 hl, m, by omega, fun ad ha => ⟨Nat.le_trans hl (h3 ad ha).1, (h3 ad ha).2⟩, h4⟩
theorem FsO.le {w : World} {lo hi c : Nat} {A : Option Addr} {fs : List Fl} (h : FsO w lo hi A c fs) : lo ≤ hi := by
  obtain ⟨h1, m, h2, h3, h4⟩ := h
  exact Nat.le_trans h2 h4.le
/-- A disk that owns what it holds: from block lo to before block hi. -/
def DkO (w : World) (lo hi : Nat) (FA : Option Addr) (fc : Nat) (fs : List Fl) (KA : Option Addr) (kc : Nat) (ks : List Lk) (TA : Option Addr) (tc : Nat) (ts : List Tn) : Prop :=
  ∃ m m', FsO w lo m FA fc fs ∧ m ≤ m' ∧ m' ≤ hi ∧ Oe 63 2 lkL w m KA kc ks ∧ InB m m' KA ∧ Oe 66 4 tnL w m' TA tc ts ∧ InB m' hi TA
section
variable {w w' : World} {lo hi fc kc tc : Nat} {FA KA TA : Option Addr} {fs : List Fl} {ks : List Lk} {ts : List Tn}
theorem DkO.keep (h : DkO w lo hi FA fc fs KA kc ks TA tc ts) (hk : ∀ k, lo ≤ k → k < hi → w'.heap[k]? = w.heap[k]?) : DkO w' lo hi FA fc fs KA kc ks TA tc ts := by
  obtain ⟨m, m', h1, h2, h3, h4, h5, h6, h7⟩ := h
  have hl := h1.le
  exact ⟨m, m', h1.keep fun k h8 h9 => hk k h8 (by omega), h2, h3, h4.keepB fun ad ha => hk _ (by have := (h5 ad ha).1; omega) (by have := (h5 ad ha).2; omega), h5, h6.keepB fun ad ha => hk _ (by have := (h7 ad ha).1; omega) (by have := (h7 ad ha).2; omega), h7⟩
theorem DkO.below {B' : Nat} (h : DkO w lo hi FA fc fs KA kc ks TA tc ts) (hb : Below B' w w') (hB : hi ≤ B') : DkO w' lo hi FA fc fs KA kc ks TA tc ts :=
  h.keep fun k _ h2 => hb.block k (by omega)
theorem DkO.drewN (h : DkO w lo hi FA fc fs KA kc ks TA tc ts) (n : Nat) : DkO (w.drewN n) lo hi FA fc fs KA kc ks TA tc ts :=
  h.keep fun _ _ _ => rfl
theorem DkO.lower {lo' : Nat} (h : DkO w lo hi FA fc fs KA kc ks TA tc ts) (hl : lo' ≤ lo) : DkO w lo' hi FA fc fs KA kc ks TA tc ts := by
  obtain ⟨m, m', h1, h2⟩ := h
  exact ⟨m, m', h1.lower hl, h2⟩
theorem DkO.setCell {p : Addr} {v : Value} (h : DkO w lo w.heap.size FA fc fs KA kc ks TA tc ts) (hp : p.block < lo) : DkO (w.setCell p v) lo (w.setCell p v).heap.size FA fc fs KA kc ks TA tc ts := by
  rw [show (w.setCell p v).heap.size = w.heap.size from by simp [World.setCell]]
  exact h.keep fun k h1 _ => Below.heap_setCell _ _ _ k (by omega)
theorem DkO.rd (h : DkO w lo hi FA fc fs KA kc ks TA tc ts) : Fs w FA fs ∧ Ks w KA ks ∧ Ts w TA ts := by
  obtain ⟨m, m', h1, h2, h3, h4, h5, h6, h7⟩ := h
  exact ⟨h1.fs, h4.sl lk2, h6.sl tn4⟩
end
def ToDPost (w : World) (r f n : Int) (es : List Fl) (ks : List Lk) (ts : List Tn) (e : Ending) (w' : World) : Prop :=
  ∃ FA fc' fs KA kc TA tc, e = .returned (dkV r f n FA es.length fc' KA ks.length kc TA ts.length tc) ∧ Hid (fs.map fc = es.map fc) ∧ DkO w' w.heap.size w'.heap.size FA fc' fs KA kc ks TA tc ts ∧ Below w.heap.size w w'
set_option linter.unusedVariables false
set_option maxRecDepth 100000

set_option linter.unusedVariables false
set_option maxRecDepth 100000

section
variable {ops : Array Oper} {rest : List Oper} {o : Oper} {a : Act} {Q : Exit → Act → World → Prop}
/-- append(s, l) onto links of one's own. -/
theorem wp_app1L (hgd : o.guard = none) (s x : Operand) (ho : o.op = .call { callee := .builtin .append, args := #[s, x], argTypes := #[24, 24] })
    (lo : Nat) (A : Option Addr) (c : Nat) (xs : List Lk) (w : World) (n : Nat) (y : Lk) (ha : Oe 63 2 lkL w lo A c xs) (hn : n = xs.length) (hs : a.eval s = .slice A n c)
    (g : Nat) (hx : a.eval x = .slice (some ⟨g, 0, none⟩) 1 1) (hg : g = w.heap.size) (hl : xs.length ≤ 1099511627776) (hlo : lo ≤ w.heap.size)
    (h : ∀ A' c' w' us, Hid (us = xs ++ [y]) → Oe 63 2 lkL w' lo A' c' us → Below lo w w' → (∀ b, b < w.heap.size → (∀ ad, A = some ad → ad.block ≠ b) → w'.heap[b]? = w.heap[b]?) → wpList Try.prog ops Q rest (a.put o.dst (.slice A' us.length c')) w') :
    wpList Try.prog ops Q (o :: rest) a (w.alloc (.cells #[.string y.1, .int .i64 y.2] 63)) := by
  obtain ⟨i0, hi, hz0, hz2, hz3⟩ := info_parts info_link
  subst hn hg
  refine wpList_plain hgd fun K hK => ?_
  obtain ⟨v', w', hr, h2, h3⟩ := run_append_ownG (P := Try.prog) (w.alloc (.cells #[.string y.1, .int .i64 y.2] 63)) lo 24 o.type 63 i0 _ 2 24 Try.underlying24 hi hz0 hz2 hz3 rfl (by decide) _ _ _ (ownsG.alloc ha _) ⟨w.heap.size, 0, none⟩ 1 1 (lkL y) rfl
    (by intro j u hu; match j, hu with
        | 0, hu => simp at hu; subst hu; simp [Addr.add]
        | 1, hu => simp at hu; subst hu; simp [Addr.add]
        | j + 2, hu => simp at hu) (by simp [Value.oneCell']) (by unfold maxLen; omega) (by omega) (by simp; omega)
  obtain ⟨A', c', rfl⟩ := h2.form
  unfold Oper.wp execOp
  simp only [ho, resolve, invoke, builtin, Sem.run_bind, Sem.run_pure, Result.andThen_ok, List.map_toArray, List.map_cons, List.map_nil, hs, hx, hr]
  refine hK _ _ ?_
  have hL : (xs ++ [y]).length = xs.length + 1 := by simp
  have hob : Oe 63 2 lkL w' lo A' c' (xs ++ [y]) := by
    unfold Oe; rw [hL, flat_snoc]; exact h2
  have := h A' c' w' _ (Lib.hid rfl) hob (((Below.refl lo w).alloc hlo _).trans (below_of_grown h3 (by simp; omega) (fun k hk => (ownsG.lt ha k hk).1))) (fun b hb hne => (h3.block b (by simp; omega) (by
    intro he
    cases A with
    | none => simp [Value.ownBlock] at he
    | some ad => simp [Value.ownBlock] at he; exact hne ad rfl he.symm)).trans (Below.heap_alloc w _ b hb))
  rw [hL] at this
  exact this
end
theorem Oe.empty {T : Type} {e : TypeId} {k : Nat} {enc : T → List Value} {w : World} : Oe e k enc (w.alloc (.cells #[] e)) w.heap.size (some ⟨w.heap.size, 0, none⟩) 0 [] :=
  ⟨by simp, .inr ⟨w.heap.size, 0, #[], (0, 0), rfl, Nat.le_refl _, heap_alloc_new _ _, .inl rfl, Nat.le_refl _, by unfold maxLen; omega, by simp, by simp⟩⟩

/-- Names. -/
def eqN (a b : ByteArray) : Bool := a.toList == b.toList
def ltN (a b : ByteArray) : Bool := Op.bytesLess a.toList b.toList
/-- The Id that a name is linked to. -/
def findS : List Lk → ByteArray → Int
  | [], _ => 0
  | x :: r, n => if eqN x.1 n then x.2 else findS r n
def lessS (dir : List Lk) (n : ByteArray) : List Lk := dir.filter fun x => !eqN x.1 n
def withS : List Lk → ByteArray → Int → List Lk
  | [], n, i => [(n, i)]
  | x :: r, n, i => if !(ltN x.1 n || eqN x.1 n) then (n, i) :: x :: r else x :: withS r n i
theorem findS_skip (dir : List Lk) (n : ByteArray) (k : Nat) (hk : k < dir.length) (h : eqN dir[k].1 n = false) : findS (dir.drop k) n = findS (dir.drop (k + 1)) n := by
  rw [List.drop_eq_getElem_cons hk, findS, h]
  rfl
theorem findS_hit (dir : List Lk) (n : ByteArray) (k : Nat) (hk : k < dir.length) (h : eqN dir[k].1 n = true) : findS (dir.drop k) n = dir[k].2 := by
  rw [List.drop_eq_getElem_cons hk, findS, h]
  rfl
theorem lessS_succ (dir : List Lk) (n : ByteArray) (k : Nat) (hk : k < dir.length) : lessS (dir.take (k + 1)) n = lessS (dir.take k) n ++ if eqN dir[k].1 n then [] else [dir[k]] := by
  rw [take_succ_get (List.getElem?_eq_getElem hk), lessS, lessS, List.filter_append]
  congr 1
  cases h : eqN dir[k].1 n <;> simp [h]
theorem lessS_len (dir : List Lk) (n : ByteArray) : (lessS dir n).length ≤ dir.length := List.length_filter_le _ _
theorem withS_len (dir : List Lk) (n : ByteArray) (i : Int) : (withS dir n i).length = dir.length + 1 := by
  induction dir with
  | nil => rfl
  | cons x r ih => unfold withS; split <;> simp [ih]
theorem withS_skip (dir : List Lk) (n : ByteArray) (i : Int) (k : Nat) (hk : k < dir.length) (h : (ltN dir[k].1 n || eqN dir[k].1 n) = true) : dir.take k ++ withS (dir.drop k) n i = dir.take (k + 1) ++ withS (dir.drop (k + 1)) n i := by
  rw [List.drop_eq_getElem_cons hk, withS, h, take_succ_get (List.getElem?_eq_getElem hk)]
  simp only [Bool.not_true, Bool.false_eq_true, if_false, List.append_assoc, List.singleton_append]
theorem withS_put (dir : List Lk) (n : ByteArray) (i : Int) (k : Nat) (hk : k < dir.length) (h : (ltN dir[k].1 n || eqN dir[k].1 n) = false) : dir.take k ++ withS (dir.drop k) n i = dir.take k ++ [(n, i)] ++ [dir[k]] ++ dir.drop (k + 1) := by
  rw [List.drop_eq_getElem_cons hk, withS, h]
  simp
set_option maxHeartbeats 1000000 in
theorem find_spec (A : Option Addr) (c : Nat) (dir : List Lk) (nm : ByteArray) (w : World) (ha : Ks w A dir) (hl : dir.length ≤ 1099511627776) :
    Calls Try.prog 45 #[.slice A dir.length c, .string nm] w fun e w' => e = .returned (.int .i64 (findS dir nm)) ∧ Below w.heap.size w w' := by
  go_enter Try.func45, Try.ntmps45
  go_wp2_with fail
  go_loopw [9] (fun i wr => ∃ k : Nat, k ≤ dir.length ∧ i = .int .i64 k ∧ Hid (findS dir nm = findS (dir.drop k) nm) ∧ Below w.heap.size w wr) (fun i _ => dir.length - (intOf i).toNat)
  case atStart => exact ⟨0, Nat.zero_le _, rfl, rfl, Below.refl _ _⟩
  case round =>
    obtain ⟨k, hk, rfl, hf, hb⟩ := hrel
    by_cases hlt : k < dir.length
    · obtain ⟨b, o, rfl, hbs, x0, x1⟩ := Ks.get (ha.below hb) hlt
      have hlt' : (k : Int) < dir.length := by omega
      have zb := hb.size
      cases he : (dir[k].1.toList == nm.toList) with
      | true =>
        have HF : Hid (findS dir nm = dir[k].2) := hf.out.trans (findS_hit dir nm k hlt he)
        clear hf
        go_wp2_with fail
        go_ret
        exact ⟨ret_int HF.out.symm, hb.trans (by (repeat (first | exact Below.refl _ _ | (refine Below.alloc ?_ (by first | omega | (simp; done) | (simp; omega)) _) | (refine Below.drew ?_) | (refine below_drewN ?_ _) | (refine below_at1 ?_ (by first | omega | (simp; done) | (simp; omega))) | (refine Below.setCell ?_ (by first | omega | (simp; done) | (simp; omega)) _) | (refine Below.trans ?_ (Below.mono (by assumption) (by first | omega | (simp; done) | (simp; omega)))))))⟩
      | false =>
        have HF : Hid (findS dir nm = findS (dir.drop (k + 1)) nm) := hf.out.trans (findS_skip dir nm k hlt he)
        clear hf
        go_wp2_with fail
        go_roundw
        case rel => exact ⟨k + 1, by omega, by go_num, HF, hb.trans (by (repeat (first | exact Below.refl _ _ | (refine Below.alloc ?_ (by first | omega | (simp; done) | (simp; omega)) _) | (refine Below.drew ?_) | (refine below_drewN ?_ _) | (refine below_at1 ?_ (by first | omega | (simp; done) | (simp; omega))) | (refine Below.setCell ?_ (by first | omega | (simp; done) | (simp; omega)) _) | (refine Below.trans ?_ (Below.mono (by assumption) (by first | omega | (simp; done) | (simp; omega)))))))⟩
        case measure => simp [intOf]; omega
    · have hlt' : ¬ ((k : Int) < dir.length) := by omega
      have HF : Hid (findS dir nm = 0) := hf.out.trans (by rw [List.drop_of_length_le (by omega)]; rfl)
      clear hf
      go_wp2_with fail
      go_ret
      exact ⟨ret_int HF.out.symm, hb⟩
/-- A function that answers links of its own. -/
def LkPost (w : World) (us : List Lk) (e : Ending) (w' : World) : Prop :=
  ∃ A' c', e = .returned (.slice A' us.length c') ∧ Oe 63 2 lkL w' w.heap.size A' c' us ∧ Below w.heap.size w w'
set_option maxHeartbeats 1000000 in
theorem less_spec (A : Option Addr) (c : Nat) (dir : List Lk) (nm : ByteArray) (w : World) (ha : Ks w A dir) (hl : dir.length ≤ 1048576) :
    Calls Try.prog 84 #[.slice A dir.length c, .string nm] w (LkPost w (lessS dir nm)) := by
  go_enter Try.func84, Try.ntmps84
  go_wp2_with fail
  go_loopw [5, 11] (fun ov i wr => ∃ (k : Nat) (A1 : Option Addr) (c1 : Nat) (us : List Lk), k ≤ dir.length ∧ i = .int .i64 k ∧ ov = .slice A1 us.length c1 ∧ Oe 63 2 lkL wr w.heap.size A1 c1 us ∧ Hid (us = lessS (dir.take k) nm) ∧ Below w.heap.size w wr) (fun _ i _ => dir.length - (intOf i).toNat)
  case atStart => exact ⟨0, _, 0, [], Nat.zero_le _, rfl, rfl, Oe.empty, Lib.hid rfl, (Below.refl _ _).alloc (Nat.le_refl _) _⟩
  case round =>
    obtain ⟨k, A1, c1, us, hk, rfl, rfl, ho, hu, hb⟩ := hrel
    have hul : us.length ≤ 1048576 := by rw [hu.out]; exact Nat.le_trans (lessS_len _ _) (by rw [List.length_take]; omega)
    by_cases hlt : k < dir.length
    · obtain ⟨b, o, rfl, hbs, x0, x1⟩ := Ks.get (ha.below hb) hlt
      have hlt' : (k : Int) < dir.length := by omega
      have zb := hb.size
      have hs := lessS_succ dir nm k hlt
      cases he : (dir[k].1.toList == nm.toList) with
      | true =>
        have HF : Hid (us = lessS (dir.take (k + 1)) nm) := by rw [show eqN dir[k].1 nm = true from he] at hs; rw [if_pos rfl, List.append_nil] at hs; exact hu.out.trans hs.symm
        clear hu hs
        go_wp2_with fail
        go_roundw
        case rel => exact ⟨k + 1, A1, c1, us, by omega, by go_num, rfl, ho.alloc _, HF, hb.trans (by (repeat (first | exact Below.refl _ _ | (refine Below.alloc ?_ (by first | omega | (simp; done) | (simp; omega)) _) | (refine Below.drew ?_) | (refine below_drewN ?_ _) | (refine below_at1 ?_ (by first | omega | (simp; done) | (simp; omega))) | (refine Below.setCell ?_ (by first | omega | (simp; done) | (simp; omega)) _) | (refine Below.trans ?_ (Below.mono (by assumption) (by first | omega | (simp; done) | (simp; omega)))))))⟩
        case measure => simp [intOf]; omega
      | false =>
        have HF : Hid (us ++ [dir[k]] = lessS (dir.take (k + 1)) nm) := by rw [show eqN dir[k].1 nm = false from he] at hs; rw [if_neg (by simp), ← hu.out] at hs; exact hs.symm
        clear hu hs
        go_wp2_with (at_builtin; refine wp_app1L rfl _ _ rfl w.heap.size A1 c1 us _ _ dir[k] (ho.alloc _) rfl rfl _ rfl (by simp) (by omega) (by first | omega | (simp; done) | (simp; omega)) ?_; intro A2 c2 w2 vs hvs ho2 hb2 hk2)
        go_roundw
        case rel => exact ⟨k + 1, A2, c2, vs, by omega, by go_num, rfl, ho2, Lib.hid (hvs.out.trans HF.out), (hb.trans ((Below.refl _ _).alloc zb _)).trans hb2⟩
        case measure => simp [intOf]; omega
    · have hlt' : ¬ ((k : Int) < dir.length) := by omega
      have HF : Hid (us = lessS dir nm) := hu.out.trans (by rw [List.take_of_length_le (by omega)])
      clear hu
      go_wp2_with fail
      go_ret
      have hE := HF.out
      subst hE
      exact ⟨A1, c1, rfl, ho, hb⟩
set_option maxHeartbeats 2000000 in
theorem with_spec (A : Option Addr) (c : Nat) (dir : List Lk) (nm : ByteArray) (id : Int) (w : World) (ha : Ks w A dir) (hl : dir.length ≤ 1048576) :
    Calls Try.prog 83 #[.slice A dir.length c, .string nm, .int .i64 id] w (LkPost w (withS dir nm id)) := by
  go_enter Try.func83, Try.ntmps83
  go_wp2_with fail
  go_loopw [7, 8, 14] (fun ov dv i wr => ∃ (k : Nat) (A1 : Option Addr) (c1 : Nat) (us : List Lk) (d : Bool), k ≤ dir.length ∧ i = .int .i64 k ∧ ov = .slice A1 us.length c1 ∧ dv = .bool d ∧ Oe 63 2 lkL wr w.heap.size A1 c1 us ∧ us.length ≤ k + 1 ∧ Hid (withS dir nm id = if d then us ++ dir.drop k else us ++ withS (dir.drop k) nm id) ∧ Hid (d = false → us = dir.take k) ∧ Below w.heap.size w wr) (fun _ _ i _ => dir.length - (intOf i).toNat)
  case atStart => exact ⟨0, _, 0, [], false, Nat.zero_le _, rfl, rfl, rfl, Oe.empty, by simp, Lib.hid rfl, Lib.hid (fun _ => rfl), (Below.refl _ _).alloc (Nat.le_refl _) _⟩
  case round =>
    obtain ⟨k, A1, c1, us, d, hk, rfl, rfl, rfl, ho, hul, hu, hd, hb⟩ := hrel
    by_cases hlt : k < dir.length
    · obtain ⟨b, o, rfl, hbs, x0, x1⟩ := Ks.get (ha.below hb) hlt
      have hlt' : (k : Int) < dir.length := by omega
      have zb := hb.size
      cases d with
      | true =>
        have HF : Hid (withS dir nm id = (us ++ [dir[k]]) ++ dir.drop (k + 1)) := by have := hu.out; rw [if_pos rfl, List.drop_eq_getElem_cons hlt] at this; rw [List.append_assoc]; exact this
        clear hu hd
        go_wp2_with (at_builtin; refine wp_app1L rfl _ _ rfl w.heap.size A1 c1 us _ _ dir[k] (ho.alloc _) rfl rfl _ rfl (by simp) (by omega) (by first | omega | (simp; done) | (simp; omega)) ?_; intro A2 c2 w2 vs hvs ho2 hb2 hk2)
        go_roundw
        case rel => exact ⟨k + 1, A2, c2, vs, true, by omega, by go_num, rfl, rfl, ho2, by rw [hvs.out]; simp; omega, by rw [hvs.out]; exact HF, Lib.hid (by simp), (hb.trans ((Below.refl _ _).alloc zb _)).trans hb2⟩
        case measure => simp [intOf]; omega
      | false =>
        have hd2 := hd.out rfl
        cases hg : (ltN dir[k].1 nm || eqN dir[k].1 nm) with
        | true =>
          have HF : Hid (withS dir nm id = (us ++ [dir[k]]) ++ withS (dir.drop (k + 1)) nm id) := by
            have h1 := hu.out
            rw [if_neg (by simp), hd2, withS_skip dir nm id k hlt hg, take_succ_get (List.getElem?_eq_getElem hlt)] at h1
            rw [hd2]; exact h1
          have HD : Hid (us ++ [dir[k]] = dir.take (k + 1)) := by rw [hd2, take_succ_get (List.getElem?_eq_getElem hlt)]; exact Lib.hid rfl
          have hg' : (Op.bytesLess dir[k].1.toList nm.toList || dir[k].1.toList == nm.toList) = true := hg
          clear hu hd hd2 hg
          go_wp2_with (at_builtin; refine wp_app1L rfl _ _ rfl w.heap.size A1 c1 us _ _ dir[k] (ho.alloc _) rfl rfl _ rfl (by simp) (by omega) (by first | omega | (simp; done) | (simp; omega)) ?_; intro A2 c2 w2 vs hvs ho2 hb2 hk2)
          go_roundw
          case rel => exact ⟨k + 1, A2, c2, vs, false, by omega, by go_num, rfl, rfl, ho2, by rw [hvs.out]; simp; omega, by rw [hvs.out]; exact HF, Lib.hid (fun _ => hvs.out.trans HD.out), (hb.trans ((Below.refl _ _).alloc zb _)).trans hb2⟩
          case measure => simp [intOf]; omega
        | false =>
          have HF : Hid (withS dir nm id = (us ++ [(nm, id)] ++ [dir[k]]) ++ dir.drop (k + 1)) := by
            have h1 := hu.out
            rw [if_neg (by simp), hd2, withS_put dir nm id k hlt hg] at h1
            rw [hd2]; exact h1
          have hul2 : Hid (us.length = k) := by show us.length = k; rw [hd2, List.length_take]; omega
          have hg' : (Op.bytesLess dir[k].1.toList nm.toList || dir[k].1.toList == nm.toList) = false := hg
          clear hu hd hd2 hg
          go_wp2_with (first
            | (at_builtin; refine wp_app1L rfl _ _ rfl w.heap.size A1 c1 us _ _ (nm, id) (ho.alloc _) rfl rfl _ rfl (by simp) (by omega) (by first | omega | (simp; done) | (simp; omega)) ?_; intro A2 c2 w2 vs hvs ho2 hb2 hk2; have z2 : wr.heap.size + 1 ≤ w2.heap.size := (by simpa using hb2.size); have hvl : vs.length ≤ us.length + 1 := Nat.le_of_eq ((congrArg List.length hvs.out).trans List.length_append); have B3 := (hk2 wr.heap.size (by simp) (fun ad h => by have := (ho.inB ad h).2; omega)).trans (heap_alloc_new wr _); have q3 := cell_of_row w2 wr.heap.size 0 _ _ (0, 0) B3; have q4 := cell_of_row w2 wr.heap.size 1 _ _ (0, 0) B3)
            | (at_builtin; refine wp_app1L rfl _ _ rfl w.heap.size A2 c2 vs _ _ dir[k] ho2 rfl rfl _ rfl (by simp) (by omega) (by omega) ?_; intro A4 c4 w4 us4 hus4 ho4 hb4 hk4))
          go_roundw
          case rel => exact ⟨k + 1, A4, c4, us4, true, by omega, by go_num, rfl, rfl, ho4, by have := hul2.out; rw [hus4.out]; simp; omega, by rw [hus4.out, hvs.out]; exact HF, Lib.hid (by simp), ((hb.trans ((Below.refl _ _).alloc zb _)).trans hb2).trans hb4⟩
          case measure => simp [intOf]; omega
    · have hlt' : ¬ ((k : Int) < dir.length) := by omega
      cases d with
      | true =>
        have HF : Hid (us = withS dir nm id) := by have := hu.out; rw [if_pos rfl, List.drop_of_length_le (by omega), List.append_nil] at this; exact this.symm
        clear hu hd
        go_wp2_with fail
        go_ret
        have hE := HF.out
        subst hE
        exact ⟨A1, c1, rfl, ho, hb⟩
      | false =>
        have HF : Hid (us ++ [(nm, id)] = withS dir nm id) := by have := hu.out; rw [if_neg (by simp), List.drop_of_length_le (by omega)] at this; exact this.symm
        have zb := hb.size
        clear hu hd
        go_wp2_with (at_builtin; refine wp_app1L rfl _ _ rfl w.heap.size A1 c1 us _ _ (nm, id) ho rfl rfl _ rfl (by simp) (by omega) (by omega) ?_; intro A2 c2 w2 vs hvs ho2 hb2 hk2)
        go_ret
        have hE := hvs.out.trans HF.out
        subst hE
        exact ⟨A2, c2, rfl, ho2, hb.trans hb2⟩
end Go.Proofs.Ytndmdhmghjfckaa
