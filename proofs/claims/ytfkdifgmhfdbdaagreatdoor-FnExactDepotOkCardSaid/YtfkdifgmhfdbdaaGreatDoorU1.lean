/- Lists of elements of several cells: read, filled, owned; slices of bytes in blocks of their own. -/
import Derived.Test.YtfkdifgmhfdbdaaGreatDoorOc
import Derived.Deep.RegionHeld3
import Derived.Deep.DeepCutAuto
namespace Go.Proofs.YtfkdifgmhfdbdaaGreatDoor
open Go.RowKit
set_option linter.unusedVariables false
set_option maxRecDepth 100000

section
variable {T : Type} {k : Nat} {enc : T → List Value} {w w' : World} {A : Option Addr} {xs : List T}
theorem SlL.below (h : SlL w A k enc xs) (hb : Below w.heap.size w w') : SlL w' A k enc xs := by
  rcases h with h | ⟨b, o, hA, h⟩
  · exact .inl h
  · exact .inr ⟨b, o, hA, fun i x hi j u hu => (hb.cell (World.block_lt_of_cell? w _ (h i x hi j u hu))).trans (h i x hi j u hu)⟩
theorem SlL.drewN (h : SlL w A k enc xs) (m : Nat) : SlL (w.drewN m) A k enc xs := h
theorem SlL.belowB {B' : Nat} (h : SlL w A k enc xs) (hb : Below B' w w') (hA : ∀ ad, A = some ad → xs ≠ [] → ad.block < B') : SlL w' A k enc xs := by
  by_cases hx : xs = []
  · exact .inl hx
  · rcases h with h | ⟨b, o, rfl, h⟩
    · exact .inl h
    · exact .inr ⟨b, o, rfl, fun i x hi j u hu => (hb.cell (p := ⟨b, o + (i * k + j), none⟩) (hA ⟨b, o, none⟩ rfl hx)).trans (h i x hi j u hu)⟩
theorem SlL.get (h : SlL w A k enc xs) {i : Nat} (hi : i < xs.length) (h0 : 0 < (enc xs[i]).length) : ∃ b o, A = some ⟨b, o, none⟩ ∧ b < w.heap.size ∧ ∀ j u, (enc xs[i])[j]? = some u → w.cell? ⟨b, o + (i * k + j), none⟩ = some u := by
  rcases h with h | ⟨b, o, hA, h⟩
  · rw [h] at hi; simp at hi
  · have e := List.getElem?_eq_getElem hi
    have h1 := h i _ e 0 _ (List.getElem?_eq_getElem h0)
    exact ⟨b, o, hA, World.block_lt_of_cell? w _ h1, fun j u hu => h i _ e j u hu⟩
theorem SlL.nil : SlL w A k enc [] := .inl rfl
theorem flat_len (hk : ∀ x, (enc x).length = k) (l : List T) : (l.flatMap enc).length = l.length * k := by
  induction l with
  | nil => simp
  | cons c r ih => simp only [List.flatMap_cons, List.length_append, List.length_cons, ih, hk, Nat.succ_mul]; omega
theorem flat_get (hk : ∀ x, (enc x).length = k) (l : List T) : ∀ (i : Nat) (c : T), l[i]? = some c → ∀ (j : Nat) (u : Value), (enc c)[j]? = some u → (l.flatMap enc)[i * k + j]? = some u := by
  induction l with
  | nil => intro i c h; simp at h
  | cons x r ih =>
    intro i c h j u hu
    have hj : j < k := by have := (List.getElem?_eq_some_iff.1 hu).1; rw [hk] at this; exact this
    rw [List.flatMap_cons]
    cases i with
    | zero =>
      simp only [List.getElem?_cons_zero] at h
      injection h with h
      subst h
      rw [Nat.zero_mul, Nat.zero_add, List.getElem?_append_left (by rw [hk]; exact hj)]
      exact hu
    | succ i =>
      rw [List.getElem?_append_right (by rw [hk, Nat.succ_mul]; omega), hk]
      have := ih i c (by simpa using h) j u hu
      rw [← this]
      congr 1
      rw [Nat.succ_mul]
      omega
theorem flat_snoc (l : List T) (c : T) : (l ++ [c]).flatMap enc = l.flatMap enc ++ enc c := by simp
theorem flat_take (hk : ∀ x, (enc x).length = k) (l : List T) (n : Nat) (hn : n ≤ l.length) : (l.flatMap enc).take (n * k) = (l.take n).flatMap enc := by
  conv => lhs; rw [← List.take_append_drop n l, List.flatMap_append]
  rw [List.take_left' (by rw [flat_len hk]; simp [hn])]
theorem flat_drop (hk : ∀ x, (enc x).length = k) (l : List T) (n : Nat) (hn : n ≤ l.length) : (l.flatMap enc).drop (n * k) = (l.drop n).flatMap enc := by
  conv => lhs; rw [← List.take_append_drop n l, List.flatMap_append]
  rw [List.drop_left' (by rw [flat_len hk]; simp [hn])]
theorem SlL.of_cells {b o : Nat} (hk : ∀ x, (enc x).length = k) (h : ∀ j u, (xs.flatMap enc)[j]? = some u → w.cell? ⟨b, o + j, none⟩ = some u) : SlL w (some ⟨b, o, none⟩) k enc xs :=
  .inr ⟨b, o, rfl, fun i x hi j u hu => h _ _ (flat_get hk xs i x hi j u hu)⟩
theorem Fill.sl {g N : Nat} {t : TypeId} (hk : ∀ x, (enc x).length = k) (h : Fill w g t N (xs.flatMap enc)) : SlL w (some ⟨g, 0, none⟩) k enc xs := by
  refine .inr ⟨g, 0, rfl, fun i x hi j u hu => ?_⟩
  have hi2 := flat_get hk xs i x hi j u hu
  obtain ⟨cur, fz, h1, hz, h2, h3, h4⟩ := h
  have hi' := (List.getElem?_eq_some_iff.1 hi2).1
  rw [← h3, List.getElem?_take_of_lt hi'] at hi2
  rw [Nat.zero_add, cell_of_row w g _ cur t fz h1]
  simpa using hi2
/-- A slice of elements that owns its block, from block lo on. -/
def Oe (e : TypeId) (k : Nat) (enc : T → List Value) (w : World) (lo : Nat) (A : Option Addr) (c : Nat) (xs : List T) : Prop := ownsG w lo e k (.slice A xs.length c) xs.length (xs.flatMap enc)
variable {e : TypeId} {lo c : Nat}
theorem Oe.sl (hk : ∀ x, (enc x).length = k) (h : Oe e k enc w lo A c xs) : SlL w A k enc xs := by
  rcases h.2 with ⟨h1, h2⟩ | ⟨g, cap, cur, fz, hv, _⟩
  · exact .inl (List.eq_nil_of_length_eq_zero h2)
  · injection hv with hv _ _
    exact .inr ⟨g, 0, hv, fun i x hi j u hu => by rw [Nat.zero_add]; exact ownsG.cells h (g := g) (by rw [hv]; rfl) _ _ (flat_get hk xs i x hi j u hu)⟩
theorem Oe.below {B' : Nat} (h : Oe e k enc w lo A c xs) (hb : Below B' w w') (hB : w.heap.size ≤ B') : Oe e k enc w' lo A c xs :=
  ownsG.below h hb fun k hk => Nat.lt_of_lt_of_le (ownsG.lt h k hk).2 hB
theorem Oe.belowB {B' hi : Nat} (h : Oe e k enc w lo A c xs) (hb : Below B' w w') (hi' : InB lo hi A) (hB : hi ≤ B') : Oe e k enc w' lo A c xs :=
  ownsG.below h hb fun k hk => by
    cases A with
    | none => simp [Value.ownBlock] at hk
    | some ad => have := (hi' ad rfl).2; simp [Value.ownBlock] at hk; omega
theorem Oe.alloc (h : Oe e k enc w lo A c xs) (o : Obj) : Oe e k enc (w.alloc o) lo A c xs := ownsG.alloc h o
theorem Oe.drewN (h : Oe e k enc w lo A c xs) (m : Nat) : Oe e k enc (w.drewN m) lo A c xs := h
theorem Oe.mono {lo' : Nat} (h : Oe e k enc w lo A c xs) (hl : lo' ≤ lo) : Oe e k enc w lo' A c xs := ownsG.mono h hl
theorem Oe.inB (h : Oe e k enc w lo A c xs) : InB lo w.heap.size A := by
  rintro ad rfl
  exact ownsG.lt h ad.block rfl
theorem Oe.cap (h : Oe e k enc w lo A c xs) : xs.length ≤ c := by
  rcases h.2 with ⟨hv, hn⟩ | ⟨g, cap, cur, fz, hv, _, _, _, hnc, _⟩
  · omega
  · injection hv with _ _ hv3
    omega
theorem Oe.of_fill {g N : Nat} (hk : ∀ x, (enc x).length = k) (h : Fill w g e (N * k) (xs.flatMap enc)) (hN : xs.length ≤ N) (hlo : lo ≤ g) (hm : N ≤ maxLen) : Oe e k enc w lo (some ⟨g, 0, none⟩) N xs := by
  obtain ⟨cur, fz, h1, hz, h2, h3, h4⟩ := h
  exact ⟨flat_len hk xs, .inr ⟨g, N, cur, fz, rfl, hlo, h1, hz, hN, hm, h2, by rw [← flat_len hk]; exact h3⟩⟩
theorem Oe.fill (h : Oe e k enc w lo A c xs) (hx : 0 < xs.length) : ∃ g, A = some ⟨g, 0, none⟩ ∧ lo ≤ g ∧ c ≤ maxLen ∧ xs.length ≤ c ∧ Fill w g e (c * k) [] := by
  rcases h.2 with ⟨h1, h2⟩ | ⟨g, cap, cur, fz, hv, hg, hh, hz, hc1, hc2, hc3, ht⟩
  · omega
  · injection hv with hv _ hv3
    subst hv3
    exact ⟨g, hv, hg, hc2, hc1, Fill.start hh hz (by omega)⟩
end
theorem Fill.two {w : World} {g N : Nat} {t : TypeId} {done : List Value} (h : Fill w g t N done) {k : Nat} (hk : k * 2 = done.length) (hlt : k * 2 + 2 ≤ N) (a b : Value) :
    Fill ((w.setCell ⟨g, k * 2, none⟩ a).setCell ⟨g, k * 2 + 1, none⟩ b) g t N (done ++ [a, b]) := by
  have h1 := h.step hk (by omega) a
  have h2 := h1.step (k := k * 2 + 1) (by simp; omega) (by omega) b
  simpa using h2
theorem Fill.three {w : World} {g N : Nat} {t : TypeId} {done : List Value} (h : Fill w g t N done) {k : Nat} (hk : k * 3 = done.length) (hlt : k * 3 + 3 ≤ N) (a b c : Value) :
    Fill (((w.setCell ⟨g, k * 3, none⟩ a).setCell ⟨g, k * 3 + 1, none⟩ b).setCell ⟨g, k * 3 + 2, none⟩ c) g t N (done ++ [a, b, c]) := by
  have h1 := h.step hk (by omega) a
  have h2 := h1.step (k := k * 3 + 1) (by simp; omega) (by omega) b
  have h3 := h2.step (k := k * 3 + 2) (by simp; omega) (by omega) c
  simpa using h3
theorem Fill.four {w : World} {g N : Nat} {t : TypeId} {done : List Value} (h : Fill w g t N done) {k : Nat} (hk : k * 4 = done.length) (hlt : k * 4 + 4 ≤ N) (a b c d : Value) :
    Fill ((((w.setCell ⟨g, k * 4, none⟩ a).setCell ⟨g, k * 4 + 1, none⟩ b).setCell ⟨g, k * 4 + 2, none⟩ c).setCell ⟨g, k * 4 + 3, none⟩ d) g t N (done ++ [a, b, c, d]) := by
  have h1 := h.step hk (by omega) a
  have h2 := h1.step (k := k * 4 + 1) (by simp; omega) (by omega) b
  have h3 := h2.step (k := k * 4 + 2) (by simp; omega) (by omega) c
  have h4 := h3.step (k := k * 4 + 3) (by simp; omega) (by omega) d
  simpa using h4

/-- A slice of bytes: where it begins, its capacity, its bytes. -/
abbrev Sl := Option Addr × Nat × List UInt8
abbrev slv (e : Sl) : Value := .slice e.1 e.2.2.length e.2.1
def tot (es : List Sl) : Nat := (es.map fun e => e.2.2.length).sum
theorem tot_succ {es : List Sl} {k : Nat} (hk : k < es.length) : tot (es.take (k + 1)) = tot (es.take k) + es[k].2.2.length := by
  rw [take_succ_get (List.getElem?_eq_getElem hk)]
  simp only [tot, List.map_append, List.map_cons, List.map_nil, List.sum_append, List.sum_cons, List.sum_nil, Nat.add_zero]
theorem tot_le (es : List Sl) (k : Nat) : tot (es.take k) ≤ tot es := by
  have h : tot (es.take k ++ es.drop k) = tot (es.take k) + tot (es.drop k) := by simp only [tot, List.map_append, List.sum_append]
  rw [List.take_append_drop] at h
  omega
theorem tot_get {es : List Sl} {k : Nat} (hk : k < es.length) : tot (es.take k) + es[k].2.2.length ≤ tot es := by
  rw [← tot_succ hk]
  exact tot_le _ _
/-- What is left of a budget. -/
def szR (left n : Int) : Int := if left < n then -1 else left - n
theorem szR_no {left n : Int} (h : left < n) : Hid (szR left n = -1) := if_pos h
theorem szR_yes {left n : Int} (h : ¬ left < n) : Hid (szR left n = left - n) := if_neg h
theorem szByteS_any (A : Option Addr) (n c : Nat) (left : Int) (w : World) (hn : n ≤ maxLen) (h0 : 0 ≤ left) (h1 : left ≤ 1048576) :
    Calls Tryz.prog 106 #[.slice A n c, .int .i64 left] w fun e w' => e = .returned (.int .i64 (szR left n)) ∧ w = w' := by
  unfold maxLen at hn
  by_cases h : left < n
  · have HS := szR_no h
    have h' : left - n < 0 := by omega
    go_enter Tryz.func106, Tryz.ntmps106
    go_wp2
    go_ret
    exact ⟨ret_int HS.out.symm, rfl⟩
  · have HS := szR_yes h
    have h' : ¬ left - n < 0 := by omega
    go_enter Tryz.func106, Tryz.ntmps106
    go_wp2
    go_ret
    exact ⟨ret_int HS.out.symm, rfl⟩
/-- Loads whose bytes lie in blocks of their own, one after the other, from block lo to before block hi. -/
def Obs (w : World) (lo hi : Nat) : List Sl → Prop
  | [] => lo ≤ hi
  | e :: r => ∃ m, lo ≤ m ∧ Ob w lo e.1 e.2.1 e.2.2 ∧ InB lo m e.1 ∧ Obs w m hi r
theorem Obs.le {w : World} {es : List Sl} : ∀ {lo hi : Nat}, Obs w lo hi es → lo ≤ hi := by
  induction es with
  | nil => exact fun h => h
  | cons e r ih =>
    rintro lo hi ⟨m, h1, _, _, h2⟩
    exact Nat.le_trans h1 (ih h2)
theorem Ob.keepB {w w' : World} {lo c : Nat} {A : Option Addr} {bs : List UInt8} (h : Ob w lo A c bs) (hk : ∀ ad, A = some ad → w'.heap[ad.block]? = w.heap[ad.block]?) : Ob w' lo A c bs := by
  obtain ⟨h1, h2⟩ := h
  refine ⟨h1, ?_⟩
  rcases h2 with h2 | ⟨g, cap, cur, fz, hv, h3, h4, h5⟩
  · exact .inl h2
  · injection hv with hv hv2 hv3
    exact .inr ⟨g, cap, cur, fz, by rw [hv, hv3], h3, (hk _ hv).trans h4, h5⟩
theorem Obs.keep {w w' : World} {es : List Sl} : ∀ {lo hi : Nat}, Obs w lo hi es → (∀ k, lo ≤ k → k < hi → w'.heap[k]? = w.heap[k]?) → Obs w' lo hi es := by
  induction es with
  | nil => exact fun h _ => h
  | cons e r ih =>
    rintro lo hi ⟨m, h1, h2, h3, h4⟩ hk
    have hl := h4.le
    exact ⟨m, h1, h2.keepB fun ad ha => hk _ (h3 ad ha).1 (by have := (h3 ad ha).2; omega), h3, ih h4 fun k hk1 hk2 => hk k (by omega) hk2⟩
theorem Obs.below {w w' : World} {es : List Sl} {lo hi B' : Nat} (h : Obs w lo hi es) (hb : Below B' w w') (hB : hi ≤ B') : Obs w' lo hi es :=
  h.keep fun k _ hk => hb.block k (by omega)
theorem Obs.snoc {w : World} {es : List Sl} {A : Option Addr} {c : Nat} {bs : List UInt8} {m hi : Nat} (h2 : Ob w m A c bs) (h3 : InB m hi A) (h4 : m ≤ hi) : ∀ {lo : Nat}, Obs w lo m es → Obs w lo hi (es ++ [(A, c, bs)]) := by
  induction es with
  | nil => exact fun h => ⟨hi, Nat.le_trans h h4, h2.mono h, fun ad ha => ⟨Nat.le_trans h (h3 ad ha).1, (h3 ad ha).2⟩, Nat.le_refl _⟩
  | cons e r ih => rintro lo ⟨m', h5, h6, h7, h8⟩; exact ⟨m', h5, h6, h7, ih h8⟩
theorem Obs.widen {w : World} {es : List Sl} {hi hi' : Nat} (hh : hi ≤ hi') : ∀ {lo : Nat}, Obs w lo hi es → Obs w lo hi' es := by
  induction es with
  | nil => exact fun h => Nat.le_trans h hh
  | cons e r ih => rintro lo ⟨m', h5, h6, h7, h8⟩; exact ⟨m', h5, h6, h7, ih h8⟩
theorem Obs.lower {w : World} {es : List Sl} {lo lo' hi : Nat} (hh : lo' ≤ lo) (h : Obs w lo hi es) : Obs w lo' hi es := by
  cases es with
  | nil => exact Nat.le_trans hh h
  | cons e r =>
    obtain ⟨m, h1, h2, h3, h4⟩ := h
    exact ⟨m, by omega, h2.mono hh, fun ad ha => ⟨Nat.le_trans hh (h3 ad ha).1, (h3 ad ha).2⟩, h4⟩
theorem Obs.split {w : World} {a b : List Sl} {e : Sl} {hi : Nat} : ∀ {lo : Nat}, Obs w lo hi (a ++ e :: b) → ∃ m m', lo ≤ m ∧ m ≤ m' ∧ m' ≤ hi ∧ Obs w lo m a ∧ Ob w m e.1 e.2.1 e.2.2 ∧ InB m m' e.1 ∧ Obs w m' hi b := by
  induction a with
  | nil =>
    rintro lo ⟨m, h1, h2, h3, h4⟩
    exact ⟨lo, m, Nat.le_refl _, h1, h4.le, Nat.le_refl _, h2, h3, h4⟩
  | cons x r ih =>
    rintro lo ⟨m0, h1, h2, h3, h4⟩
    obtain ⟨m, m', h5, h6, h7, h8, h9⟩ := ih h4
    exact ⟨m, m', by omega, h6, h7, ⟨m0, h1, h2, h3, h8⟩, h9⟩
theorem Obs.join {w : World} {a b : List Sl} {e : Sl} {m m' hi : Nat} (h6 : m ≤ m') (h2 : Ob w m e.1 e.2.1 e.2.2) (h3 : InB m m' e.1) (h4 : Obs w m' hi b) : ∀ {lo : Nat}, Obs w lo m a → Obs w lo hi (a ++ e :: b) := by
  induction a with
  | nil => exact fun h => ⟨m', Nat.le_trans h h6, h2.mono h, fun ad ha => ⟨Nat.le_trans h (h3 ad ha).1, (h3 ad ha).2⟩, h4⟩
  | cons x r ih => rintro lo ⟨m0, h1, h5, h7, h8⟩; exact ⟨m0, h1, h5, h7, ih h8⟩
theorem Obs.by_ {w : World} {es : List Sl} : ∀ {lo hi : Nat}, Obs w lo hi es → ∀ e, e ∈ es → By w e.1 e.2.2 := by
  induction es with
  | nil => intro lo hi _ e he; simp at he
  | cons x r ih =>
    rintro lo hi ⟨m, h1, h2, h3, h4⟩ e he
    rcases List.mem_cons.1 he with rfl | he
    · exact h2.by_
    · exact ih h4 e he
theorem Obs.inB {w : World} {es : List Sl} : ∀ {lo hi : Nat}, Obs w lo hi es → ∀ e, e ∈ es → InB lo hi e.1 := by
  induction es with
  | nil => intro lo hi _ e he; simp at he
  | cons x r ih =>
    rintro lo hi ⟨m, h1, h2, h3, h4⟩ e he ad ha
    rcases List.mem_cons.1 he with rfl | he
    · have := h3 ad ha; have := h4.le; omega
    · have := ih h4 e he ad ha; omega
/-- What changed lies in the blocks from lo to before hi, or is new. -/
def Kp (lo hi : Nat) (w w' : World) : Prop := Below lo w w' ∧ ∀ k, hi ≤ k → k < w.heap.size → w'.heap[k]? = w.heap[k]?
theorem Kp.refl (lo hi : Nat) (w : World) : Kp lo hi w w := ⟨Below.refl _ _, fun _ _ _ => rfl⟩
theorem Kp.trans {lo hi : Nat} {w w1 w2 : World} (h : Kp lo hi w w1) (h' : Kp lo hi w1 w2) : Kp lo hi w w2 :=
  ⟨h.1.trans h'.1, fun k hk hs => (h'.2 k hk (Nat.lt_of_lt_of_le hs h.1.size)).trans (h.2 k hk hs)⟩
theorem Kp.drewN {lo hi : Nat} {w w1 : World} (h : Kp lo hi w w1) (m : Nat) : Kp lo hi w (w1.drewN m) := ⟨below_drewN h.1 m, h.2⟩
theorem Kp.of_grown {lo hi : Nat} {w w' : World} {A : Option Addr} {n c : Nat} (hg : w.grownBy w' (Value.slice A n c).ownBlock) (hA : InB lo hi A) (hlo : lo ≤ w.heap.size) : Kp lo hi w w' := by
  refine ⟨below_grown (Below.refl _ _) hg hA (Nat.le_refl _) hlo, fun k hk hs => hg.block k hs ?_⟩
  intro he
  cases A with
  | none => simp [Value.ownBlock] at he
  | some ad =>
    have := hA ad rfl
    simp [Value.ownBlock] at he
    omega
theorem Kp.wide {lo hi lo' hi' : Nat} {w w' : World} (h : Kp lo hi w w') (h1 : lo' ≤ lo) (h2 : hi ≤ hi') : Kp lo' hi' w w' := ⟨h.1.mono h1, fun k hk hs => h.2 k (by omega) hs⟩
theorem Kp.ob {lo hi lo' c : Nat} {w w' : World} {A : Option Addr} {bs : List UInt8} (h : Kp lo hi w w') (ho : Ob w lo' A c bs) (hh : hi ≤ lo') : Ob w' lo' A c bs :=
  ho.keepB fun ad ha => h.2 _ (by have := ho.inB ad ha; omega) (ho.inB ad ha).2
theorem Kp.obs {lo hi lo' hi' : Nat} {w w' : World} {es : List Sl} (h : Kp lo hi w w') (ho : Obs w lo' hi' es) (hh : hi ≤ lo') (hs : hi' ≤ w.heap.size) : Obs w' lo' hi' es :=
  ho.keep fun k hk hk2 => h.2 k (by omega) (by omega)
end Go.Proofs.YtfkdifgmhfdbdaaGreatDoor
