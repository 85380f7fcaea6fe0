/- A snapshot read: what is answered. -/
import Derived.Test.YtbaojeiinjjlcaaDoorP20
namespace Go.Proofs.YtbaojeiinjjlcaaDoor
open Go.RowKit
set_option linter.unusedVariables false

abbrev SrOut := Int × Int × List UInt8 × Int
def srT (xs : List UInt8) (a s d m r t : Nat) : SrOut :=
  if ¬ (1 ≤ a ∧ a ≤ 1000000000) ∨ ¬ (1 ≤ s ∧ s ≤ 1000000000) ∨ d + t ≠ xs.length ∨ 150000 < d then (0, 0, [], 3)
  else if crcN (xs.take r ++ xs.drop t) ≠ m then (0, 0, [], 4)
  else ((a : Int), (s : Int), xs.drop t, 0)
def srB (xs : List UInt8) (v1 v2 v3 v4 : Int × Int × Bool) : SrOut :=
  if v1.2.2 = true ∧ v2.2.2 = true ∧ v3.2.2 = true ∧ v4.2.2 = true then srT xs v1.1.toNat v2.1.toNat v3.1.toNat v4.1.toNat v3.2.1.toNat v4.2.1.toNat else (0, 0, [], 2)
def w1 (xs : List UInt8) := gvAt xs 4
def w2 (xs : List UInt8) := gvAt xs (w1 xs).2.1
def w3 (xs : List UInt8) := gvAt xs (w2 xs).2.1
def w4 (xs : List UInt8) := gvAt xs (w3 xs).2.1
def srR (xs : List UInt8) : SrOut := if xs.take 4 ≠ [83, 78, 65, 80] then (0, 0, [], 1) else srB xs (w1 xs) (w2 xs) (w3 xs) (w4 xs)
theorem srR_1 {xs : List UInt8} (h : xs.take 4 ≠ [83, 78, 65, 80]) : srR xs = (0, 0, [], 1) := if_pos h
theorem srR_yes {xs : List UInt8} {a p s q d r m t : Nat} (h : xs.take 4 = [83, 78, 65, 80]) (g1 : gvAt xs 4 = ((a : Int), (p : Int), true)) (g2 : gvAt xs p = ((s : Int), (q : Int), true)) (g3 : gvAt xs q = ((d : Int), (r : Int), true)) (g4 : gvAt xs r = ((m : Int), (t : Int), true)) :
    srR xs = srT xs a s d m r t := by
  have e1 : w1 xs = ((a : Int), (p : Int), true) := g1
  have e2 : w2 xs = ((s : Int), (q : Int), true) := by rw [w2, e1]; exact g2
  have e3 : w3 xs = ((d : Int), (r : Int), true) := by rw [w3, e2]; exact g3
  have e4 : w4 xs = ((m : Int), (t : Int), true) := by rw [w4, e3]; exact g4
  rw [srR, if_neg (by simp [h]), e1, e2, e3, e4, srB, if_pos ⟨rfl, rfl, rfl, rfl⟩]
  simp
theorem srR_no2 {xs : List UInt8} (h : xs.take 4 = [83, 78, 65, 80]) (hf : ¬ ((w1 xs).2.2 = true ∧ (w2 xs).2.2 = true ∧ (w3 xs).2.2 = true ∧ (w4 xs).2.2 = true)) : srR xs = (0, 0, [], 2) := by
  rw [srR, if_neg (by simp [h]), srB, if_neg hf]
theorem srR_no {xs : List UInt8} {l : List (Int × Int)} (h : xs.take 4 = [83, 78, 65, 80]) (hl : l.length < 4) (hr : RunR xs 4 l) (hf : (gvAt xs (lastEnd 4 l)).2.2 = false) : srR xs = (0, 0, [], 2) := by
  refine srR_no2 h ?_
  match l, hl, hr, hf with
  | [], _, _, hf =>
    have e : (w1 xs).2.2 = false := hf
    simp [e]
  | [p1], _, ⟨_, h1⟩, hf =>
    have e1 : w1 xs = (p1.1, p1.2, true) := h1
    have e2 : (w2 xs).2.2 = false := by rw [w2, e1]; exact hf
    simp [e2]
  | [p2, p1], _, ⟨⟨_, h1⟩, h2⟩, hf =>
    have e1 : w1 xs = (p1.1, p1.2, true) := h1
    have e2 : w2 xs = (p2.1, p2.2, true) := by rw [w2, e1]; exact h2
    have e3 : (w3 xs).2.2 = false := by rw [w3, e2]; exact hf
    simp [e3]
  | [p3, p2, p1], _, ⟨⟨⟨_, h1⟩, h2⟩, h3⟩, hf =>
    have e1 : w1 xs = (p1.1, p1.2, true) := h1
    have e2 : w2 xs = (p2.1, p2.2, true) := by rw [w2, e1]; exact h2
    have e3 : w3 xs = (p3.1, p3.2, true) := by rw [w3, e2]; exact h3
    have e4 : (w4 xs).2.2 = false := by rw [w4, e3]; exact hf
    simp [e4]
theorem srT_3 {xs : List UInt8} {a s d m r t : Nat} (h : ¬ (1 ≤ a ∧ a ≤ 1000000000) ∨ ¬ (1 ≤ s ∧ s ≤ 1000000000) ∨ d + t ≠ xs.length ∨ 150000 < d) : srT xs a s d m r t = (0, 0, [], 3) := if_pos h
theorem srT_4 {xs : List UInt8} {a s d m r t : Nat} (h : ¬ (¬ (1 ≤ a ∧ a ≤ 1000000000) ∨ ¬ (1 ≤ s ∧ s ≤ 1000000000) ∨ d + t ≠ xs.length ∨ 150000 < d)) (h2 : crcN (xs.take r ++ xs.drop t) ≠ m) : srT xs a s d m r t = (0, 0, [], 4) := by rw [srT, if_neg h, if_pos h2]
theorem srT_0 {xs : List UInt8} {a s d m r t : Nat} (h : ¬ (¬ (1 ≤ a ∧ a ≤ 1000000000) ∨ ¬ (1 ≤ s ∧ s ≤ 1000000000) ∨ d + t ≠ xs.length ∨ 150000 < d)) (h2 : crcN (xs.take r ++ xs.drop t) = m) : srT xs a s d m r t = ((a : Int), (s : Int), xs.drop t, 0) := by rw [srT, if_neg h, if_neg (by simp [h2])]
/-- What a reading of a snapshot hands back. -/
def SrPost (w : World) (r : SrOut) (e : Ending) (w' : World) : Prop :=
  ∃ n m A' c' us k, Hid (r = (n, m, us, k)) ∧ e = .returned (.tuple #[.int .i64 n, .int .i64 m, .slice A' us.length c', .int .i64 k]) ∧ Ob w' w.heap.size A' c' us ∧ Below w.heap.size w w'
theorem sr_no {w w' : World} {r : SrOut} {k : Int} (hr : Hid (r = (0, 0, [], k))) (hb : Below w.heap.size w w') : SrPost w r (.returned (.tuple #[.int .i64 0, .int .i64 0, .slice none 0 0, .int .i64 k])) w' :=
  ⟨0, 0, none, 0, [], k, hr, rfl, ownsG_nil _ _ _ _, hb⟩
theorem sr_bytes {xs : List UInt8} {a p s q d r m t : Nat} (h : xs.take 4 = [83, 78, 65, 80]) (g1 : gv (xs.drop 4) = some (a, p - 4)) (g2 : gv (xs.drop p) = some (s, q - p)) (g3 : gv (xs.drop q) = some (d, r - q)) (g4 : gv (xs.drop r) = some (m, t - r))
    (o1 : 4 < p) (o2 : p < q) (o3 : q < r) (o4 : r < t) (ht : t ≤ xs.length) (hd : d + t = xs.length) :
    xs.take r = snapHead a s (xs.drop t) ∧ xs = snapHead a s (xs.drop t) ++ varB m ++ xs.drop t := by
  have a1 := (gv_some g1).2.2.2.2
  have a2 := (gv_some g2).2.2.2.2
  have a3 := (gv_some g3).2.2.2.2
  have a4 := (gv_some g4).2.2.2.2
  have hl : (xs.drop t).length = d := by simp; omega
  have c1 : xs.take r = snapHead a s (xs.drop t) := by
    have e := drop_take_join xs (show 0 ≤ 4 by omega) (show 4 ≤ r by omega)
    simp only [List.drop_zero, Nat.sub_zero] at e
    rw [e, h, drop_take_join xs (show 4 ≤ p by omega) (show p ≤ r by omega), drop_take_join xs (show p ≤ q by omega) (show q ≤ r by omega), a1, a2, a3, snapHead, hl]
    simp
  refine ⟨c1, ?_⟩
  have e1 : xs.take t = xs.take r ++ varB m := by
    have e := drop_take_join xs (show 0 ≤ r by omega) (show r ≤ t by omega)
    simp only [List.drop_zero, Nat.sub_zero] at e
    rw [e, a4]
  conv => lhs; rw [← List.take_append_drop t xs, e1, c1]
end Go.Proofs.YtbaojeiinjjlcaaDoor
