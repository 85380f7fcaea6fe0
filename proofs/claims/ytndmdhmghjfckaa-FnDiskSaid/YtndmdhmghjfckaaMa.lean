/- Links and turns marked, and held. Files marked; a disk marked. A disk marked; files, links, turns and disks that hold their marks. -/
import Derived.Test.YtndmdhmghjfckaaVb
import Derived.Test.YtndmdhmghjfckaaQb
namespace Go.Proofs.Ytndmdhmghjfckaa
open Go.RowKit

set_option linter.unusedVariables false
set_option maxRecDepth 100000

/-- The digits of a mark. -/
def mtG : Nat → Nat → List UInt8 → List UInt8
  | 0, _, o => o
  | f + 1, k, o => if k = 0 then o else mtG f (k / 10) (UInt8.ofNat (48 + k % 10) :: o)
def mtL (k : Nat) : List UInt8 := 109 :: mtG 20 k []
abbrev sV (u : List UInt8) : Value := .string (bstr u)
theorem bapp (x y : List UInt8) : bstr x ++ bstr y = bstr (x ++ y) := ByteArray.mk_append_mk x y
theorem by_one1 {w : World} {b : Nat} {d : UInt8} (h : w.cell? ⟨b, 0, none⟩ = some (.int .u8 (d.toNat : Int))) : By w (some ⟨b, 0, none⟩) [d] := by
  refine .inr ⟨b, 0, rfl, fun i x hx => ?_⟩
  rcases i with _ | i
  · simp at hx; subst hx; simpa using h
  · simp at hx
theorem Kp.of_below {lo hi : Nat} {w w' : World} (h : Below w.heap.size w w') (hl : lo ≤ w.heap.size) : Kp lo hi w w' := ⟨h.mono hl, fun k _ hs => h.block k hs⟩
theorem Kp.setCell {lo hi : Nat} {w w' : World} {p : Addr} (h : Kp lo hi w w') (h1 : lo ≤ p.block) (h2 : p.block < hi) (v : Value) : Kp lo hi w (w'.setCell p v) :=
  ⟨h.1.setCell h1 v, fun k hk hs => (Below.heap_setCell w' p v k (by omega)).trans (h.2 k hk hs)⟩
theorem set_mid {T : Type} {l r : List T} {x y : T} : (l ++ x :: r).set l.length y = l ++ y :: r := by simp
/-- Links as the marks from k on have them; turns likewise. -/
def mkK (k n : Nat) : List Lk := (List.range n).map fun i => (bstr (mtL (k + 2 * i)), ((k + 2 * i + 1 : Nat) : Int))
def mkT (k n : Nat) : List Tn := (List.range n).map fun i => (((k + 4 * i : Nat) : Int), bstr (mtL (k + 4 * i + 1)), bstr (mtL (k + 4 * i + 2)), ((k + 4 * i + 3 : Nat) : Int))
theorem mkK_len (k n : Nat) : (mkK k n).length = n := by simp [mkK]
theorem mkT_len (k n : Nat) : (mkT k n).length = n := by simp [mkT]
theorem mkK_succ (k n : Nat) : mkK k (n + 1) = mkK k n ++ [(bstr (mtL (k + 2 * n)), ((k + 2 * n + 1 : Nat) : Int))] := by simp [mkK, List.range_succ]
theorem mkT_succ (k n : Nat) : mkT k (n + 1) = mkT k n ++ [(((k + 4 * n : Nat) : Int), bstr (mtL (k + 4 * n + 1)), bstr (mtL (k + 4 * n + 2)), ((k + 4 * n + 3 : Nat) : Int))] := by simp [mkT, List.range_succ]
theorem mkK_get (k n i : Nat) (h : i < n) : (mkK k n)[i]'(by rw [mkK_len]; exact h) = (bstr (mtL (k + 2 * i)), ((k + 2 * i + 1 : Nat) : Int)) := by simp [mkK]
theorem mkT_get (k n i : Nat) (h : i < n) : (mkT k n)[i]'(by rw [mkT_len]; exact h) = (((k + 4 * i : Nat) : Int), bstr (mtL (k + 4 * i + 1)), bstr (mtL (k + 4 * i + 2)), ((k + 4 * i + 3 : Nat) : Int)) := by simp [mkT]
theorem flat_set4 (y : Tn) : ∀ (xs : List Tn) (i : Nat), i < xs.length → ((((xs.flatMap tnL).set (i * 4) (.int .i64 y.1)).set (i * 4 + 1) (.string y.2.1)).set (i * 4 + 2) (.string y.2.2.1)).set (i * 4 + 3) (.int .i64 y.2.2.2) = (xs.set i y).flatMap tnL
  | [], _, h => by simp at h
  | x :: r, 0, _ => by simp
  | x :: r, i + 1, h => by
    have ih := flat_set4 y r i (by simpa using h)
    rw [show (i + 1) * 4 = i * 4 + 1 + 1 + 1 + 1 by omega]
    simp only [List.flatMap_cons, List.set_cons_succ, List.cons_append, List.nil_append]
    rw [← ih]
set_option linter.unusedVariables false
set_option maxRecDepth 100000

/-- A file as the marks from p on have it. -/
def mF (p : Nat) (x : Fl) : Fl := ((p : Int), (x.2.1.1, x.2.1.2.1, markL ((p : Int) + 1) x.2.1.2.2.length), ((p + 1 + x.2.1.2.2.length : Nat) : Int))
def mkF : Nat → List Fl → List Fl
  | _, [] => []
  | k, x :: r => mF k x :: mkF (k + 2 + x.2.1.2.2.length) r
theorem mkF_len : ∀ (k : Nat) (fs : List Fl), (mkF k fs).length = fs.length
  | _, [] => rfl
  | k, x :: r => by rw [mkF, List.length_cons, mkF_len, List.length_cons]
theorem mkF_app : ∀ (k : Nat) (a b : List Fl), mkF k (a ++ b) = mkF k a ++ mkF (k + 2 * a.length + ftot a) b
  | k, [], b => by simp [mkF, ftot]
  | k, x :: r, b => by
    rw [List.cons_append, mkF, mkF_app, mkF, List.cons_append]
    have : k + 2 + x.2.1.2.2.length + 2 * r.length + ftot r = k + 2 * (x :: r).length + ftot (x :: r) := by simp [ftot]; omega
    rw [this]
theorem mkF_succ {k : Nat} {fs : List Fl} {j : Nat} (hj : j < fs.length) : mkF k (fs.take (j + 1)) = mkF k (fs.take j) ++ [mF (k + 2 * j + ftot (fs.take j)) fs[j]] := by
  rw [take_succ_get (List.getElem?_eq_getElem hj), mkF_app, List.length_take, Nat.min_eq_left (by omega)]
  rfl
theorem mkF_tot : ∀ (k : Nat) (fs : List Fl), ftot (mkF k fs) = ftot fs
  | _, [] => rfl
  | k, x :: r => by
    have := mkF_tot (k + 2 + x.2.1.2.2.length) r
    simp only [ftot, mkF, List.map_cons, List.sum_cons, mF, markL_len] at this ⊢
    omega
theorem used_bd' {es : List Fl} {k : Nat} (hk : k < es.length) : ftot (es.take k) + es[k].2.1.2.2.length ≤ ftot es := sum_get _ hk
theorem set_same {T : Type} {l : List T} {k : Nat} {v : T} (h : l[k]? = some v) : l.set k v = l := by
  obtain ⟨h1, rfl⟩ := List.getElem?_eq_some_iff.1 h
  exact List.set_getElem_self h1
set_option linter.unusedVariables false
set_option maxRecDepth 100000

theorem Oe.kp {T : Type} {k : Nat} {enc : T → List Value} {e : TypeId} {w w' : World} {A : Option Addr} {xs : List T} {lo c a b l h : Nat} (ho : Oe e k enc w lo A c xs) (hk : Kp a b w w') (hi : InB l h A) (hd : h ≤ a ∨ b ≤ l) : Oe e k enc w' lo A c xs :=
  ho.keepB fun ad ha => by
    have h1 := hi ad ha
    have h2 := (ho.inB ad ha).2
    rcases hd with hd | hd
    · exact hk.1.block _ (by omega)
    · exact hk.2 _ (by omega) h2
theorem FsO.kp {w w' : World} {lo hi c a b : Nat} {A : Option Addr} {fs : List Fl} (h : FsO w lo hi A c fs) (hk : Kp a b w w') (hs : hi ≤ w.heap.size) (hd : hi ≤ a ∨ b ≤ lo) : FsO w' lo hi A c fs :=
  h.keep fun k h1 h2 => by
    rcases hd with hd | hd
    · exact hk.1.block _ (by omega)
    · exact hk.2 _ (by omega) (by omega)
/-- How far the marks of a disk reach. -/
def mEnd (k : Nat) (fs : List Fl) (kn tn : Nat) : Nat := k + 2 * fs.length + ftot fs + 2 * kn + 4 * tn
end Go.Proofs.Ytndmdhmghjfckaa
