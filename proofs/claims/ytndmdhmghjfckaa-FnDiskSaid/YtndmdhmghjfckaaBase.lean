/- What a plain argument reads as: for data of ints, bools, strings, structs and slices of these, the cells that a reading met. No program is in sight. -/
import Derived.WalkKit
import Derived.ProofKit
import Derived.OpenShut
import Derived.ShutString
import Derived.ChangeOld
import Derived.Below
import Derived.Deep.Slices
import Derived.Deep.Draws
import Derived.Laws.BitsAllLaws
import Derived.Laws.BitsLemmas
namespace Go.Proofs.Ytndmdhmghjfckaa
open Go.RowKit Go.ChangeShapes Go.WideShapes

def RdF (P : Program) (w : World) : Nat → TypeId → List Value → Prop
  | 0, _, _ => False
  | k + 1, t, cs =>
    match P.underlying t with
    | some .bool => ∃ b, cs = [.bool b]
    | some (.int q) => ∃ n, cs = [.int q n] ∧ (Lit.int q n).wf = true
    | some .string => ∃ s : ByteArray, cs = [.string s] ∧ s.size ≤ maxLen
    | some (.slice e) => ∃ A n c, cs = [.slice A n c] ∧ n ≤ maxLen ∧ (n = 0 ∨ ∃ a, A = some a ∧ ∀ i, i < n → ∃ es, es.length = P.cellsOf e ∧ (∀ j u, es[j]? = some u → w.cell? (a.add (i * P.cellsOf e + j)) = some u) ∧ RdF P w k e es)
    | some (.struct fs) => cs.length = P.cellsOf t ∧ ∀ (i : Nat) (f : Field), fs[i]? = some f → RdF P w k f.type ((cs.drop f.offset).take (P.cellsOf f.type))
    | _ => True

section
variable {H : Type} {enc : TypeId × Value → H} {P : Program} {w : World} {base : Nat} {spare : Nat → Bool} {held : Bool}
theorem rdF_of_trod : ∀ (fuel : Nat) (t : TypeId) (cs : List Value) (x : DataW H × List MemPlace), DataW.trod enc P w base spare held fuel t cs = some x → RdF P w fuel t cs := by
  intro fuel
  induction fuel with
  | zero => intro t cs x h; simp [DataW.trod] at h
  | succ k ih =>
    intro t cs x h
    unfold RdF
    split
    · rename_i ht
      unfold DataW.trod at h
      rw [ht] at h
      split at h <;> simp_all
    · rename_i q ht
      unfold DataW.trod at h
      rw [ht] at h
      split at h <;> simp_all
    · rename_i ht
      unfold DataW.trod at h
      rw [ht] at h
      split at h <;> simp_all
    · rename_i e ht
      rcases DataW.trod_slice ht h with ⟨rfl, _⟩ | ⟨a, len, cap, elems, rest, n, hn, rfl, _, _, hl, hm, hel, hi, _, _⟩
      · exact ⟨none, 0, 0, rfl, Nat.zero_le _, .inl rfl⟩
      · obtain rfl : n = k := by omega
        refine ⟨some a, len, cap, rfl, Nat.le_trans hl hm, .inr ⟨a, rfl, fun i hil => ?_⟩⟩
        have h1 := hi i hil
        rw [List.getElem?_eq_getElem (by omega)] at h1
        obtain ⟨cs', hc, ht'⟩ := Option.bind_eq_some_iff.1 h1
        obtain ⟨_, hcl, hat⟩ := World.cells?_some hc
        refine ⟨cs', hcl, fun j u hu => ?_, ih _ _ _ ht'⟩
        have hj : j < cs'.length := (List.getElem?_eq_some_iff.1 hu).1
        rw [← Go.Deep.add_add, hat j (by omega), hu]
    · rename_i fs ht
      obtain ⟨xs, n, hn, _, hlen, hxl, hf⟩ := DataW.trod_struct ht h
      refine ⟨hlen, fun i f hif => ?_⟩
      have hi : i < xs.length := by rw [hxl]; exact (Array.getElem?_eq_some_iff.1 hif).1
      have h1 := hf i f hif
      rw [List.getElem?_eq_getElem hi] at h1
      have : n = k := by omega
      subst this
      exact ih _ _ _ h1
    · trivial

/-- The same, whatever the fuel. -/
def Rd (P : Program) (w : World) (t : TypeId) (cs : List Value) : Prop := ∃ k, RdF P w k t cs
theorem rd_of_trod {t : TypeId} {v : Value} {d : DataW H} {p : List MemPlace} (h : DataW.Trod enc P w base spare held t v d p) : Rd P w t v.cells.toList :=
  let ⟨k, hk⟩ := h; ⟨k, rdF_of_trod k _ _ _ hk⟩
end
section
variable {P : Program} {w : World}
theorem Rd.bool {t : TypeId} {cs : List Value} (ht : P.underlying t = some .bool) (h : Rd P w t cs) : ∃ b, cs = [.bool b] := by
  obtain ⟨k, h⟩ := h
  cases k with
  | zero => exact h.elim
  | succ k => unfold RdF at h; rw [ht] at h; exact h
theorem Rd.int {t : TypeId} {cs : List Value} {q : IntKind} (ht : P.underlying t = some (.int q)) (h : Rd P w t cs) : ∃ n, cs = [.int q n] ∧ (Lit.int q n).wf = true := by
  obtain ⟨k, h⟩ := h
  cases k with
  | zero => exact h.elim
  | succ k => unfold RdF at h; rw [ht] at h; exact h
theorem Rd.string {t : TypeId} {cs : List Value} (ht : P.underlying t = some .string) (h : Rd P w t cs) : ∃ s : ByteArray, cs = [.string s] ∧ s.size ≤ maxLen := by
  obtain ⟨k, h⟩ := h
  cases k with
  | zero => exact h.elim
  | succ k => unfold RdF at h; rw [ht] at h; exact h
theorem Rd.struct {t : TypeId} {cs : List Value} {fs : Array Field} (ht : P.underlying t = some (.struct fs)) (h : Rd P w t cs) :
    cs.length = P.cellsOf t ∧ ∀ (i : Nat) (f : Field), fs[i]? = some f → Rd P w f.type ((cs.drop f.offset).take (P.cellsOf f.type)) := by
  obtain ⟨k, h⟩ := h
  cases k with
  | zero => exact h.elim
  | succ k => unfold RdF at h; rw [ht] at h; exact ⟨h.1, fun i f hf => ⟨k, h.2 i f hf⟩⟩
theorem Rd.slice {t e : TypeId} {cs : List Value} (ht : P.underlying t = some (.slice e)) (h : Rd P w t cs) :
    ∃ A n c, cs = [.slice A n c] ∧ n ≤ maxLen ∧ (n = 0 ∨ ∃ a, A = some a ∧ ∀ i, i < n → ∃ es, es.length = P.cellsOf e ∧ (∀ j u, es[j]? = some u → w.cell? (a.add (i * P.cellsOf e + j)) = some u) ∧ Rd P w e es) := by
  obtain ⟨k, h⟩ := h
  cases k with
  | zero => exact h.elim
  | succ k =>
    unfold RdF at h; rw [ht] at h
    obtain ⟨A, n, c, h1, h2, h3⟩ := h
    refine ⟨A, n, c, h1, h2, h3.imp id ?_⟩
    rintro ⟨a, ha, h⟩
    exact ⟨a, ha, fun i hi => let ⟨es, e1, e2, e3⟩ := h i hi; ⟨es, e1, e2, k, e3⟩⟩

theorem below_drewN {B : Nat} {a w : World} (h : Below B a w) (n : Nat) : Below B a (w.drewN n) := ⟨h.os, h.tape, h.output, h.size, h.block⟩
theorem bcell {W w1 : World} (hb : Below W.heap.size W w1) : (∀ b o, b < W.heap.size → w1.cell? ⟨b, o, none⟩ = W.cell? ⟨b, o, none⟩) ∧ (∀ b o, b < W.heap.size → w1.frozen? ⟨b, o, none⟩ = W.frozen? ⟨b, o, none⟩) :=
  ⟨fun b o h => hb.cell (p := ⟨b, o, none⟩) h, fun b o h => hb.frozen (p := ⟨b, o, none⟩) h⟩
theorem i64_bd {n : Int} (h : (Lit.int .i64 n).wf = true) : -9223372036854775808 ≤ n ∧ n ≤ 9223372036854775807 := by
  simp [Lit.wf, IntKind.min, IntKind.max, IntKind.signed, IntKind.bits] at h
  omega
theorem ret_bool {a b : Bool} (h : a = b) : Ending.returned (.bool a) = .returned (.bool b) := by rw [h]
theorem ret_int {k : IntKind} {a b : Int} (h : a = b) : Ending.returned (.int k a) = .returned (.int k b) := by rw [h]

/-- A block of the call's own that a callee has left alone: its cells, that none is frozen, and where it lies. -/
theorem keep_blk {W w1 : World} (hb : Below W.heap.size W w1) {g : Nat} {t : TypeId} {cs : Array Value} (hB : W.heap[g]? = some (.cells cs t (0, 0))) :
    w1.heap[g]? = some (.cells cs t (0, 0)) ∧ (∀ i, w1.cell? ⟨g, i, none⟩ = cs[i]?) ∧ (∀ i, w1.frozen? ⟨g, i, none⟩ = false) ∧ g < w1.heap.size := by
  have hg : g < W.heap.size := (Array.getElem?_eq_some_iff.1 hB).1
  have h1 : w1.heap[g]? = some (.cells cs t (0, 0)) := (hb.block g hg).trans hB
  exact ⟨h1, fun i => cell_of_row w1 g i cs t (0, 0) h1, fun i => by simp [World.frozen?, h1], Nat.lt_of_lt_of_le hg hb.size⟩
theorem heap_alloc_of {w : World} {g : Nat} {x : Obj} (o : Obj) (h : w.heap[g]? = some x) : (w.alloc o).heap[g]? = some x :=
  (Below.heap_alloc w o g (Array.getElem?_eq_some_iff.1 h).1).trans h
theorem heap_alloc_at {w : World} {g : Nat} (o : Obj) (h : g = w.heap.size) : (w.alloc o).heap[g]? = some o := by
  subst h; exact heap_alloc_new _ _
theorem heap_setCell_of {w : World} {g : Nat} {x : Obj} {p : Addr} (u : Value) (hp : g ≠ p.block) (h : w.heap[g]? = some x) : (w.setCell p u).heap[g]? = some x :=
  (Below.heap_setCell w p u g hp).trans h
theorem heap_setCell_same {w : World} {g i : Nat} {cs : Array Value} {t : TypeId} {fz : Nat × Nat} (u : Value) (h : w.heap[g]? = some (.cells cs t fz)) :
    (w.setCell ⟨g, i, none⟩ u).heap[g]? = some (.cells (cs.setIfInBounds i u) t fz) := by
  simp [World.setCell, Array.getElem?_modify, h]

/-- The world with block g as given: how a walk carries a block of the call's own over a callee of which 'Below' alone is known. -/
def at1 (w : World) (g : Nat) (cs : Array Value) (t : TypeId) : World := { w with heap := w.heap.setIfInBounds g (.cells cs t (0, 0)) }
theorem at1_heap (w : World) (g : Nat) (cs : Array Value) (t : TypeId) (n : Nat) : (at1 w g cs t).heap[n]? = if n = g ∧ g < w.heap.size then some (.cells cs t (0, 0)) else w.heap[n]? := by
  simp only [at1, Array.getElem?_setIfInBounds]
  by_cases h : g = n
  · subst h
    by_cases hl : g < w.heap.size
    · simp [hl]
    · simp [hl]
  · simp [h, Ne.symm h]
@[simp] theorem at1_size (w : World) (g : Nat) (cs : Array Value) (t : TypeId) : (at1 w g cs t).heap.size = w.heap.size := by simp [at1]
@[go_sem] theorem at1_cell (w : World) (g : Nat) (cs : Array Value) (t : TypeId) (n i : Nat) (hn : n = g) (hg : g < w.heap.size) : (at1 w g cs t).cell? ⟨n, i, none⟩ = cs[i]? := by
  subst hn
  exact cell_of_row _ n i cs t (0, 0) (by rw [at1_heap]; simp [hg])
@[go_sem] theorem at1_cell_other (w : World) (g : Nat) (cs : Array Value) (t : TypeId) (n i : Nat) (hn : ¬ n = g) : (at1 w g cs t).cell? ⟨n, i, none⟩ = w.cell? ⟨n, i, none⟩ :=
  World.cell?_of_block (by rw [at1_heap]; simp [hn])
@[go_sem] theorem at1_frozen (w : World) (g : Nat) (cs : Array Value) (t : TypeId) (n i : Nat) (hn : n = g) (hg : g < w.heap.size) : (at1 w g cs t).frozen? ⟨n, i, none⟩ = false := by
  subst hn
  have h : (at1 w n cs t).heap[n]? = some (.cells cs t (0, 0)) := by rw [at1_heap]; simp [hg]
  simp [World.frozen?, h]
@[go_sem] theorem at1_frozen_other (w : World) (g : Nat) (cs : Array Value) (t : TypeId) (n i : Nat) (hn : ¬ n = g) : (at1 w g cs t).frozen? ⟨n, i, none⟩ = w.frozen? ⟨n, i, none⟩ :=
  World.frozen?_of_block (by rw [at1_heap]; simp [hn])
@[go_sem] theorem at1_set (w : World) (g : Nat) (cs : Array Value) (t : TypeId) (n i : Nat) (u : Value) (hn : n = g) : (at1 w g cs t).setCell ⟨n, i, none⟩ u = at1 w g (cs.setIfInBounds i u) t := by
  subst hn
  simp only [World.setCell, at1]
  congr 1
  apply Array.ext_getElem?
  intro k
  simp only [Array.getElem?_modify, Array.getElem?_setIfInBounds]
  by_cases h : n = k
  · subst h
    by_cases hl : n < w.heap.size <;> simp [hl]
  · simp [h]
@[go_sem] theorem at1_set_other (w : World) (g : Nat) (cs : Array Value) (t : TypeId) (n i : Nat) (u : Value) (hn : ¬ n = g) : (at1 w g cs t).setCell ⟨n, i, none⟩ u = at1 (w.setCell ⟨n, i, none⟩ u) g cs t := by
  simp only [World.setCell, at1]
  congr 1
  apply Array.ext_getElem?
  intro k
  simp only [Array.getElem?_modify, Array.getElem?_setIfInBounds, Array.size_modify]
  by_cases h : g = k
  · subst h
    simp [hn]
  · simp [h]
@[go_sem] theorem at1_drew (w : World) (g : Nat) (cs : Array Value) (t : TypeId) : at1 w.drew g cs t = (at1 w g cs t).drew := rfl
theorem below_at1 {B g : Nat} {a w : World} {cs : Array Value} {t : TypeId} (h : Below B a w) (hg : B ≤ g) : Below B a (at1 w g cs t) :=
  h.trans ⟨rfl, rfl, rfl, by simp, fun k hk => by rw [at1_heap, if_neg (by omega)]⟩
theorem at1_self {w : World} {g : Nat} {cs : Array Value} {t : TypeId} (h : w.heap[g]? = some (.cells cs t (0, 0))) : at1 w g cs t = w := by
  have hg := (Array.getElem?_eq_some_iff.1 h).1
  show ({ w with heap := _ } : World) = w
  have : w.heap.setIfInBounds g (.cells cs t (0, 0)) = w.heap := by
    apply Array.ext_getElem?
    intro k
    rw [Array.getElem?_setIfInBounds]
    by_cases hk : g = k
    · subst hk; rw [if_pos rfl, if_pos hg, h]
    · rw [if_neg hk]
  rw [this]
/-- A block of the call's own, written out again behind a callee. -/
theorem take1 {B : Nat} {W w1 : World} (hb : Below B W w1) {g : Nat} {t : TypeId} {cs : Array Value} (hg : g < B) (hB : W.heap[g]? = some (.cells cs t (0, 0))) :
    ∃ w', w1 = at1 w' g cs t ∧ Below B W w' ∧ g < w'.heap.size := by
  have h1 : w1.heap[g]? = some (.cells cs t (0, 0)) := (hb.block g hg).trans hB
  exact ⟨w1, (at1_self h1).symm, hb, (Array.getElem?_eq_some_iff.1 h1).1⟩
theorem take2 {B : Nat} {W w1 : World} (hb : Below B W w1) {g h : Nat} {t u : TypeId} {cs ds : Array Value} (hg : g < B) (hh : h < B) (hB : W.heap[g]? = some (.cells cs t (0, 0))) (hC : W.heap[h]? = some (.cells ds u (0, 0))) :
    ∃ w', w1 = at1 (at1 w' h ds u) g cs t ∧ Below B W w' ∧ g < w'.heap.size ∧ h < w'.heap.size := by
  obtain ⟨w', rfl, hb', z⟩ := take1 hb hg hB
  obtain ⟨w'', rfl, hb'', z'⟩ := take1 hb' hh hC
  exact ⟨w'', rfl, hb'', by simpa using z, z'⟩
theorem take3 {B : Nat} {W w1 : World} (hb : Below B W w1) {g h k : Nat} {t u v : TypeId} {cs ds es : Array Value} (hg : g < B) (hh : h < B) (hk : k < B) (hB : W.heap[g]? = some (.cells cs t (0, 0))) (hC : W.heap[h]? = some (.cells ds u (0, 0))) (hD : W.heap[k]? = some (.cells es v (0, 0))) :
    ∃ w', w1 = at1 (at1 (at1 w' k es v) h ds u) g cs t ∧ Below B W w' ∧ g < w'.heap.size ∧ h < w'.heap.size ∧ k < w'.heap.size := by
  obtain ⟨w', rfl, hb', z, z'⟩ := take2 hb hg hh hB hC
  obtain ⟨w'', rfl, hb'', z''⟩ := take1 hb' hk hD
  exact ⟨w'', rfl, hb'', by simpa using z, by simpa using z', z''⟩
theorem heap_at1_same {w : World} {g : Nat} {cs : Array Value} {t : TypeId} (hg : g < w.heap.size) : (at1 w g cs t).heap[g]? = some (.cells cs t (0, 0)) := by rw [at1_heap]; simp [hg]
theorem heap_at1_of {w : World} {g n : Nat} {cs : Array Value} {t : TypeId} {x : Obj} (hn : ¬ n = g) (h : w.heap[n]? = some x) : (at1 w g cs t).heap[n]? = some x := by rw [at1_heap]; simp [hn, h]
theorem ofInt_i64 (a : Nat) (ha : a < 9223372036854775808) : (BitVec.ofInt 64 (a : Int)).toNat = a := by
  rw [BitVec.ofInt_natCast, BitVec.toNat_ofNat]; exact Nat.mod_eq_of_lt (by omega)
theorem i64_and_nat (a b : Nat) (ha : a < 9223372036854775808) (hb : b < 9223372036854775808) : bits .and .i64 (a : Int) (b : Int) = ((a &&& b : Nat) : Int) := by
  have hx : a &&& b < 2 ^ 63 := Nat.and_lt_two_pow _ (by omega)
  show IntKind.i64.wrap ((BitVec.ofInt 64 (a : Int) &&& BitVec.ofInt 64 (b : Int)).toNat : Int) = _
  rw [BitVec.toNat_and, ofInt_i64 a ha, ofInt_i64 b hb, IntKind.wrap_i64]
  omega
theorem i64_or_nat (a b : Nat) (ha : a < 9223372036854775808) (hb : b < 9223372036854775808) : bits .or .i64 (a : Int) (b : Int) = ((a ||| b : Nat) : Int) := by
  have hx : a ||| b < 2 ^ 63 := Nat.or_lt_two_pow (by omega) (by omega)
  show IntKind.i64.wrap ((BitVec.ofInt 64 (a : Int) ||| BitVec.ofInt 64 (b : Int)).toNat : Int) = _
  rw [BitVec.toNat_or, ofInt_i64 a ha, ofInt_i64 b hb, IntKind.wrap_i64]
  omega
theorem i64_xor_nat (a b : Nat) (ha : a < 9223372036854775808) (hb : b < 9223372036854775808) : bits .xor .i64 (a : Int) (b : Int) = ((a ^^^ b : Nat) : Int) := by
  have hx : a ^^^ b < 2 ^ 63 := Nat.xor_lt_two_pow (by omega) (by omega)
  show IntKind.i64.wrap ((BitVec.ofInt 64 (a : Int) ^^^ BitVec.ofInt 64 (b : Int)).toNat : Int) = _
  rw [BitVec.toNat_xor, ofInt_i64 a ha, ofInt_i64 b hb, IntKind.wrap_i64]
  omega

/-- The elements of a slice: 'enc' says in which cells an element lies. -/
def SlL {T : Type} (w : World) (A : Option Addr) (size : Nat) (enc : T → List Value) (xs : List T) : Prop :=
  xs = [] ∨ ∃ b o, A = some ⟨b, o, none⟩ ∧ ∀ i x, xs[i]? = some x → ∀ j u, (enc x)[j]? = some u → w.cell? ⟨b, o + (i * size + j), none⟩ = some u

theorem exists_list {T : Type} {n : Nat} {R : Nat → T → Prop} (h : ∀ i, i < n → ∃ x, R i x) : ∃ xs : List T, xs.length = n ∧ ∀ i x, xs[i]? = some x → R i x := by
  induction n with
  | zero => exact ⟨[], rfl, fun i x hx => by simp at hx⟩
  | succ n ih =>
    obtain ⟨xs, hl, hx⟩ := ih (fun i hi => h i (by omega))
    obtain ⟨y, hy⟩ := h n (by omega)
    refine ⟨xs ++ [y], by simp [hl], fun i x hix => ?_⟩
    by_cases hi : i < xs.length
    · rw [List.getElem?_append_left hi] at hix
      exact hx i x hix
    · rw [List.getElem?_append_right (by omega)] at hix
      have : i = n := by
        have := (List.getElem?_eq_some_iff.1 hix).1
        simp at this; omega
      subst this
      simp [hl] at hix
      subst hix
      exact hy

theorem Rd.list {T : Type} {t e : TypeId} {cs : List Value} {size : Nat} {enc : T → List Value} {G : T → Prop} (ht : P.underlying t = some (.slice e)) (hs : P.cellsOf e = size) (hpos : 0 < size)
    (hel : ∀ es, Rd P w e es → ∃ x, es = enc x ∧ G x) (h : Rd P w t cs) :
    ∃ A c, ∃ xs : List T, cs = [.slice A xs.length c] ∧ xs.length ≤ maxLen ∧ (∀ x, x ∈ xs → G x) ∧ SlL w A size enc xs := by
  obtain ⟨A, n, c, rfl, hn, hE⟩ := h.slice ht
  rcases hE with rfl | ⟨a, rfl, hE⟩
  · exact ⟨A, c, [], rfl, hn, fun x hx => by simp at hx, .inl rfl⟩
  · have h2 : ∀ i, i < n → ∃ x : T, (enc x).length = size ∧ (∀ j u, (enc x)[j]? = some u → w.cell? (a.add (i * size + j)) = some u) ∧ G x := by
      intro i hi
      obtain ⟨es, e1, e2, e3⟩ := hE i hi
      obtain ⟨x, rfl, hG⟩ := hel es e3
      exact ⟨x, e1.trans hs, fun j u hu => by rw [← hs]; exact e2 j u hu, hG⟩
    obtain ⟨xs, rfl, hx⟩ := exists_list h2
    refine ⟨some a, c, xs, rfl, hn, fun x hm => ?_, ?_⟩
    · obtain ⟨i, hi, rfl⟩ := List.getElem_of_mem hm
      exact (hx i _ (List.getElem?_eq_getElem hi)).2.2
    · cases xs with
      | nil => exact .inl rfl
      | cons x0 xs =>
        obtain ⟨b, o, s⟩ := a
        have h0 := hx 0 x0 rfl
        have hc := h0.2.1 0 ((enc x0)[0]'(by omega)) (List.getElem?_eq_getElem _)
        have hsp : s = none := by
          have := World.cell?_spot hc
          simpa [Addr.add] using this
        subst hsp
        refine .inr ⟨b, o, rfl, fun i x hix j u hu => ?_⟩
        have := (hx i x hix).2.1 j u hu
        rwa [Addr.add_lit] at this
end
end Go.Proofs.Ytndmdhmghjfckaa
