/- A disk whose files' block may lie anywhere among the bodies' blocks: owned, marked, held. Files, turns and disks that hold their marks. -/
import Derived.Test.YtndmdhmghjfckaaMa
namespace Go.Proofs.Ytndmdhmghjfckaa
open Go.RowKit

set_option linter.unusedVariables false
set_option maxRecDepth 100000

/-- None of these slices begins in block g. -/
def apart (g : Nat) (es : List Sl) : Prop := ∀ e, e ∈ es → ∀ ad, e.1 = some ad → ad.block ≠ g
theorem apart_mkF {g : Nat} : ∀ (k : Nat) (xs : List Fl), apart g (xs.map fb) → apart g ((mkF k xs).map fb)
  | _, [], h => h
  | k, x :: r, h => by
    intro e he
    rw [mkF, List.map_cons] at he
    rcases List.mem_cons.1 he with rfl | he
    · exact h (fb x) (List.mem_cons_self ..)
    · exact apart_mkF _ r (fun e he => h e (List.mem_cons_of_mem _ he)) e he
theorem apart.app {g : Nat} {a b : List Sl} (h1 : apart g a) (h2 : apart g b) : apart g (a ++ b) := fun e he => by
  rcases List.mem_append.1 he with h | h
  · exact h1 e h
  · exact h2 e h
theorem apart.take {g : Nat} {xs : List Fl} (h : apart g (xs.map fb)) (j : Nat) : apart g ((xs.take j).map fb) := fun e he => by
  obtain ⟨x, hx, rfl⟩ := List.mem_map.1 he
  exact h _ (List.mem_map.2 ⟨x, List.mem_of_mem_take hx, rfl⟩)
theorem apart.drop {g : Nat} {xs : List Fl} (h : apart g (xs.map fb)) (j : Nat) : apart g ((xs.drop j).map fb) := fun e he => by
  obtain ⟨x, hx, rfl⟩ := List.mem_map.1 he
  exact h _ (List.mem_map.2 ⟨x, List.mem_of_mem_drop hx, rfl⟩)
theorem Obs.keepX {w w' : World} {es : List Sl} : ∀ {lo hi : Nat}, Obs w lo hi es → (∀ e, e ∈ es → ∀ ad, e.1 = some ad → w'.heap[ad.block]? = w.heap[ad.block]?) → Obs w' lo hi es := by
  induction es with
  | nil => exact fun h _ => h
  | cons e r ih =>
    rintro lo hi ⟨m, h1, h2, h3, h4⟩ hk
    exact ⟨m, h1, h2.keepB (hk e (List.mem_cons_self ..)), h3, ih h4 fun x hx => hk x (List.mem_cons_of_mem _ hx)⟩
theorem Obs.set {w : World} {es : List Sl} {lo hi : Nat} {p : Addr} {v : Value} (h : Obs w lo hi es) (ha : apart p.block es) : Obs (w.setCell p v) lo hi es :=
  h.keepX fun e he ad had => Below.heap_setCell w p v _ (ha e he ad had)
/-- A slice of files that owns its block, and whose bodies own theirs: all from block lo to before block hi. -/
def FsG (w : World) (lo hi : Nat) (A : Option Addr) (c : Nat) (fs : List Fl) : Prop := Oe 36 3 flL w lo A c fs ∧ InB lo hi A ∧ Obs w lo hi (fs.map fb) ∧ ∀ ad, A = some ad → apart ad.block (fs.map fb)
section
variable {w w' : World} {lo hi c : Nat} {A : Option Addr} {xs : List Fl}
theorem FsO.g (h : FsO w lo hi A c xs) : FsG w lo hi A c xs := by
  obtain ⟨h1, m, h2, h3, h4⟩ := h
  have hl := h4.le
  exact ⟨h1, fun ad ha => by have := h3 ad ha; omega, h4.lower h2, fun ad ha e he ad' ha' => by have h5 := h3 ad ha; have h6 := h4.inB e he ad' ha'; omega⟩
theorem FsG.fs (h : FsG w lo hi A c xs) : Fs w A xs := ⟨h.1.sl fl3, fun e he => h.2.2.1.by_ _ (List.mem_map.2 ⟨e, he, rfl⟩)⟩
theorem FsG.keep (h : FsG w lo hi A c xs) (hk : ∀ k, lo ≤ k → k < hi → w'.heap[k]? = w.heap[k]?) : FsG w' lo hi A c xs := by
  obtain ⟨h1, h2, h3, h4⟩ := h
  exact ⟨h1.keepB fun ad ha => hk _ (h2 ad ha).1 (h2 ad ha).2, h2, h3.keep hk, h4⟩
theorem FsG.below {B' : Nat} (h : FsG w lo hi A c xs) (hb : Below B' w w') (hB : hi ≤ B') : FsG w' lo hi A c xs := h.keep fun k _ h2 => hb.block k (by omega)
theorem FsG.le (h : FsG w lo hi A c xs) : lo ≤ hi := h.2.2.1.le
theorem FsG.lower {lo' : Nat} (h : FsG w lo hi A c xs) (hl : lo' ≤ lo) : FsG w lo' hi A c xs := ⟨Oe.mono h.1 hl, fun ad ha => by have := h.2.1 ad ha; omega, h.2.2.1.lower hl, h.2.2.2⟩
theorem FsG.kp {a b : Nat} (h : FsG w lo hi A c xs) (hk : Kp a b w w') (hs : hi ≤ w.heap.size) (hd : hi ≤ a ∨ b ≤ lo) : FsG w' lo hi A c xs :=
  h.keep fun k h1 h2 => by
    rcases hd with hd | hd
    · exact hk.1.block _ (by omega)
    · exact hk.2 _ (by omega) (by omega)
end
/-- A disk that owns what it holds. -/
def DkG (w : World) (lo hi : Nat) (FA : Option Addr) (fc : Nat) (fs : List Fl) (KA : Option Addr) (kc : Nat) (ks : List Lk) (TA : Option Addr) (tc : Nat) (ts : List Tn) : Prop :=
  ∃ m m', FsG w lo m FA fc fs ∧ m ≤ m' ∧ m' ≤ hi ∧ Oe 63 2 lkL w m KA kc ks ∧ InB m m' KA ∧ Oe 66 4 tnL w m' TA tc ts ∧ InB m' hi TA
section
variable {w w' : World} {lo hi fc kc tc : Nat} {FA KA TA : Option Addr} {fs : List Fl} {ks : List Lk} {ts : List Tn}
theorem DkO.g (h : DkO w lo hi FA fc fs KA kc ks TA tc ts) : DkG w lo hi FA fc fs KA kc ks TA tc ts := by
  obtain ⟨m, m', h1, h2⟩ := h
  exact ⟨m, m', h1.g, h2⟩
theorem DkG.keep (h : DkG w lo hi FA fc fs KA kc ks TA tc ts) (hk : ∀ k, lo ≤ k → k < hi → w'.heap[k]? = w.heap[k]?) : DkG w' lo hi FA fc fs KA kc ks TA tc ts := by
  obtain ⟨m, m', h1, h2, h3, h4, h5, h6, h7⟩ := h
  have hl := h1.le
  exact ⟨m, m', h1.keep fun k h8 h9 => hk k h8 (by omega), h2, h3, h4.keepB fun ad ha => hk _ (by have := (h5 ad ha).1; omega) (by have := (h5 ad ha).2; omega), h5, h6.keepB fun ad ha => hk _ (by have := (h7 ad ha).1; omega) (by have := (h7 ad ha).2; omega), h7⟩
theorem DkG.below {B' : Nat} (h : DkG w lo hi FA fc fs KA kc ks TA tc ts) (hb : Below B' w w') (hB : hi ≤ B') : DkG w' lo hi FA fc fs KA kc ks TA tc ts :=
  h.keep fun k _ h2 => hb.block k (by omega)
theorem DkG.lower {lo' : Nat} (h : DkG w lo hi FA fc fs KA kc ks TA tc ts) (hl : lo' ≤ lo) : DkG w lo' hi FA fc fs KA kc ks TA tc ts := by
  obtain ⟨m, m', h1, h2⟩ := h
  exact ⟨m, m', h1.lower hl, h2⟩
theorem DkG.setCell {p : Addr} {v : Value} (h : DkG w lo w.heap.size FA fc fs KA kc ks TA tc ts) (hp : p.block < lo) : DkG (w.setCell p v) lo (w.setCell p v).heap.size FA fc fs KA kc ks TA tc ts := by
  rw [show (w.setCell p v).heap.size = w.heap.size from by simp [World.setCell]]
  exact h.keep fun k h1 _ => Below.heap_setCell _ _ _ k (by omega)
theorem DkG.rd (h : DkG w lo hi FA fc fs KA kc ks TA tc ts) : Fs w FA fs ∧ Ks w KA ks ∧ Ts w TA ts := by
  obtain ⟨m, m', h1, h2, h3, h4, h5, h6, h7⟩ := h
  exact ⟨h1.fs, h4.sl lk2, h6.sl tn4⟩
theorem DkG.kp {a b : Nat} (h : DkG w lo hi FA fc fs KA kc ks TA tc ts) (hk : Kp a b w w') (hs : hi ≤ w.heap.size) (hd : hi ≤ a ∨ b ≤ lo) : DkG w' lo hi FA fc fs KA kc ks TA tc ts :=
  h.keep fun k h1 h2 => by
    rcases hd with hd | hd
    · exact hk.1.block _ (by omega)
    · exact hk.2 _ (by omega) (by omega)
end
set_option linter.unusedVariables false
set_option maxRecDepth 100000

theorem mkF_get : ∀ (k : Nat) (xs : List Fl) (j : Nat) (h : j < xs.length), (mkF k xs)[j]'(by rw [mkF_len]; exact h) = mF (k + 2 * j + ftot (xs.take j)) xs[j]
  | k, x :: r, 0, h => by simp [mkF, ftot]
  | k, x :: r, j + 1, h => by
    have ih := mkF_get (k + 2 + x.2.1.2.2.length) r j (by simpa using h)
    simp only [mkF, List.getElem_cons_succ, ih, List.take_succ_cons]
    have : k + 2 + x.2.1.2.2.length + 2 * j + ftot (r.take j) = k + 2 * (j + 1) + ftot (x :: r.take j) := by simp [ftot]; omega
    rw [this]
end Go.Proofs.Ytndmdhmghjfckaa
