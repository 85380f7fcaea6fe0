/- A frame read: what is answered; the bytes of a number tell the number. -/
import Derived.Test.YtbaojeiinjjlcaaP16
namespace Go.Proofs.Ytbaojeiinjjlcaa
open Go.RowKit
set_option linter.unusedVariables false

theorem val_varB (n : Nat) : val (varB n) = n := by
  induction n using Nat.strongRecOn with
  | _ n ih =>
    by_cases h : n < 128
    · rw [varB_small h]; simp [val]; omega
    · rw [varB_big h, val, ih (n / 128) (by omega)]; simp; omega
theorem varB_inj {a b : Nat} (h : varB a = varB b) : a = b := by rw [← val_varB a, h, val_varB]

abbrev FrOut := Int × List UInt8 × Int × Int
def frT (xs : List UInt8) (z n s k q r : Nat) : FrOut :=
  if ¬ (1 ≤ n ∧ n ≤ 1000000000) ∨ 60000 < s then (0, [], 0, 4)
  else if xs.length < r + s then (0, [], 0, 5)
  else if crcN ((xs.drop z).take (q - z) ++ (xs.drop r).take s) ≠ k then (0, [], 0, 6)
  else ((n : Int), (xs.drop r).take s, (r : Int) + s, 0)
def frB3 (xs : List UInt8) (z : Nat) (v1 v2 v3 : Int × Int × Bool) : FrOut :=
  if v1.2.2 = true ∧ v2.2.2 = true ∧ v3.2.2 = true then frT xs z v1.1.toNat v2.1.toNat v3.1.toNat v2.2.1.toNat v3.2.1.toNat else (0, [], 0, 3)
def frR (xs : List UInt8) (z : Int) : FrOut :=
  if z < 0 ∨ (xs.length : Int) < z then (0, [], 0, 1)
  else if xs[z.toNat]? ≠ some 167 then (0, [], 0, 2)
  else frB3 xs z.toNat (gvAt xs (z + 1)) (gvAt xs (gvAt xs (z + 1)).2.1) (gvAt xs (gvAt xs (gvAt xs (z + 1)).2.1).2.1)
theorem frR_out {xs : List UInt8} {z : Int} (h : z < 0 ∨ (xs.length : Int) < z) : frR xs z = (0, [], 0, 1) := if_pos h
theorem frR_mark {xs : List UInt8} {z : Nat} (h : z ≤ xs.length) (h2 : xs[z]? ≠ some 167) : frR xs z = (0, [], 0, 2) := by
  rw [frR, if_neg (by omega), Int.toNat_natCast, if_pos h2]
theorem frR_in {xs : List UInt8} {z : Nat} (h2 : xs[z]? = some 167) : frR xs z = frB3 xs z (gvAt xs (z + 1)) (gvAt xs (gvAt xs (z + 1)).2.1) (gvAt xs (gvAt xs (gvAt xs (z + 1)).2.1).2.1) := by
  have h := (List.getElem?_eq_some_iff.1 h2).1
  rw [frR, if_neg (by omega), Int.toNat_natCast, if_neg (by simp [h2])]
theorem frR_yes {xs : List UInt8} {z n p s q k r : Nat} (h2 : xs[z]? = some 167) (g1 : gvAt xs (z + 1) = ((n : Int), (p : Int), true)) (g2 : gvAt xs p = ((s : Int), (q : Int), true)) (g3 : gvAt xs q = ((k : Int), (r : Int), true)) :
    frR xs z = frT xs z n s k q r := by
  rw [frR_in h2, g1, g2, g3, frB3, if_pos ⟨rfl, rfl, rfl⟩]
  simp
theorem frR_no {xs : List UInt8} {z : Nat} {l : List (Int × Int)} (h2 : xs[z]? = some 167) (hl : l.length < 3) (hr : RunR xs (z + 1) l) (hf : (gvAt xs (lastEnd (z + 1) l)).2.2 = false) : frR xs z = (0, [], 0, 3) := by
  rw [frR_in h2]
  match l, hl, hr, hf with
  | [], _, _, hf =>
    simp only [lastEnd] at hf
    rw [frB3, if_neg (by simp [hf])]
  | [p1], _, ⟨_, h1⟩, hf =>
    simp only [lastEnd] at h1 hf
    rw [h1, frB3, if_neg (by simp [hf])]
  | [p2, p1], _, ⟨⟨_, h1⟩, h3⟩, hf =>
    simp only [lastEnd] at h1 h3 hf
    rw [h1, h3, frB3, if_neg (by simp [hf])]
theorem frR_no2 {xs : List UInt8} {z : Nat} (h2 : xs[z]? = some 167) (hf : ¬ ((gvAt xs (z + 1)).2.2 = true ∧ (gvAt xs (gvAt xs (z + 1)).2.1).2.2 = true ∧ (gvAt xs (gvAt xs (gvAt xs (z + 1)).2.1).2.1).2.2 = true)) : frR xs z = (0, [], 0, 3) := by
  rw [frR_in h2, frB3, if_neg hf]
theorem frT_4 {xs : List UInt8} {z n s k q r : Nat} (h : ¬ (1 ≤ n ∧ n ≤ 1000000000) ∨ 60000 < s) : frT xs z n s k q r = (0, [], 0, 4) := if_pos h
theorem frT_5 {xs : List UInt8} {z n s k q r : Nat} (h : ¬ (¬ (1 ≤ n ∧ n ≤ 1000000000) ∨ 60000 < s)) (h2 : xs.length < r + s) : frT xs z n s k q r = (0, [], 0, 5) := by rw [frT, if_neg h, if_pos h2]
theorem frT_6 {xs : List UInt8} {z n s k q r : Nat} (h : ¬ (¬ (1 ≤ n ∧ n ≤ 1000000000) ∨ 60000 < s)) (h2 : ¬ xs.length < r + s) (h3 : crcN ((xs.drop z).take (q - z) ++ (xs.drop r).take s) ≠ k) : frT xs z n s k q r = (0, [], 0, 6) := by rw [frT, if_neg h, if_neg h2, if_pos h3]
theorem frT_0 {xs : List UInt8} {z n s k q r : Nat} (h : ¬ (¬ (1 ≤ n ∧ n ≤ 1000000000) ∨ 60000 < s)) (h2 : ¬ xs.length < r + s) (h3 : crcN ((xs.drop z).take (q - z) ++ (xs.drop r).take s) = k) : frT xs z n s k q r = ((n : Int), (xs.drop r).take s, (r : Int) + s, 0) := by rw [frT, if_neg h, if_neg h2, if_neg (by simp [h3])]
/-- What a reading of a frame hands back. -/
def FrPost (w : World) (r : FrOut) (e : Ending) (w' : World) : Prop :=
  ∃ n A' c' us p k, Hid (r = (n, us, p, k)) ∧ e = .returned (.tuple #[.int .i64 n, .slice A' us.length c', .int .i64 p, .int .i64 k]) ∧ Ob w' w.heap.size A' c' us ∧ Below w.heap.size w w'
theorem fr_no {w w' : World} {r : FrOut} {k : Int} (hr : Hid (r = (0, [], 0, k))) (hb : Below w.heap.size w w') : FrPost w r (.returned (.tuple #[.int .i64 0, .slice none 0 0, .int .i64 0, .int .i64 k])) w' :=
  ⟨0, none, 0, [], 0, k, hr, rfl, ownsG_nil _ _ _ _, hb⟩
theorem drop_take_join {T : Type} (xs : List T) {a b c : Nat} (h1 : a ≤ b) (h2 : b ≤ c) : (xs.drop a).take (c - a) = (xs.drop a).take (b - a) ++ (xs.drop b).take (c - b) := by
  have e : c - a = (b - a) + (c - b) := by omega
  rw [e, List.take_add, List.drop_drop]
  congr 3
  omega
/-- The bytes read are the bytes that the numbers would be written as. -/
theorem fr_bytes {xs : List UInt8} {z n p s q k r : Nat} (h2 : xs[z]? = some 167) (g1 : gv (xs.drop (z + 1)) = some (n, p - (z + 1))) (g2 : gv (xs.drop p) = some (s, q - p)) (g3 : gv (xs.drop q) = some (k, r - q))
    (o1 : z + 1 < p) (o2 : p < q) (o3 : q < r) (hr : r + s ≤ xs.length) :
    (xs.drop z).take (q - z) = frameHead n ((xs.drop r).take s) ∧ (xs.drop z).take (r + s - z) = frameHead n ((xs.drop r).take s) ++ varB k ++ (xs.drop r).take s := by
  have a1 := (gv_some g1).2.2.2.2
  have a2 := (gv_some g2).2.2.2.2
  have a3 := (gv_some g3).2.2.2.2
  have hl : ((xs.drop r).take s).length = s := by simp; omega
  have b1 : (xs.drop z).take 1 = [167] := by
    have hz := (List.getElem?_eq_some_iff.1 h2).1
    rw [List.drop_eq_getElem_cons hz]
    have := (List.getElem?_eq_some_iff.1 h2).2
    simp [this]
  have c1 : (xs.drop z).take (q - z) = frameHead n ((xs.drop r).take s) := by
    rw [drop_take_join xs (show z ≤ z + 1 by omega) (show z + 1 ≤ q by omega), drop_take_join xs (show z + 1 ≤ p by omega) (show p ≤ q by omega), show z + 1 - z = 1 by omega, b1, a1, a2, frameHead, hl]
    simp
  refine ⟨c1, ?_⟩
  rw [drop_take_join xs (show z ≤ q by omega) (show q ≤ r + s by omega), c1, drop_take_join xs (show q ≤ r by omega) (show r ≤ r + s by omega), a3, show r + s - r = s by omega, List.append_assoc]
end Go.Proofs.Ytbaojeiinjjlcaa
