/- Numbers and frames are read again as they were written (plain law). -/
import Derived.Test.YtbaojeiinjjlcaaJ0
import Derived.Test.YtbaojeiinjjlcaaJ1
import Derived.Test.YtbaojeiinjjlcaaP30
namespace Go.Proofs.Ytbaojeiinjjlcaa
set_option linter.unusedVariables false

/-- A frame among other bytes is read as it was written. -/
theorem frR_frame {s : Int} {d : List UInt8} (hg : frGood s d) (pre rest : List UInt8) {xs : List UInt8} (hx : xs = pre ++ (frameB s d ++ rest)) : frR xs pre.length = (s, d, ((pre.length + (frameB s d).length : Nat) : Int), 0) := by
  obtain ⟨⟨h1, h2⟩, h3⟩ := hg
  obtain ⟨n, rfl⟩ := Int.eq_ofNat_of_zero_le (show 0 ≤ s by omega)
  have hc := crcN_le (frameHead n d ++ d)
  have e0 : xs = pre ++ (167 :: (varB n ++ (varB d.length ++ (varB (crcN (frameHead n d ++ d)) ++ (d ++ rest))))) := by rw [hx, frameB, frameHead]; simp
  have m1 : xs[pre.length]? = some 167 := by rw [e0]; simp
  have g1 := gvAt_varB (n := n) (by omega) (pre ++ [167]) (varB d.length ++ (varB (crcN (frameHead n d ++ d)) ++ (d ++ rest))) (xs := xs) (z := pre.length + 1) (by rw [e0]; simp) (by simp)
  have g2 := gvAt_varB (n := d.length) (by omega) (pre ++ [167] ++ varB n) (varB (crcN (frameHead n d ++ d)) ++ (d ++ rest)) (xs := xs) (z := pre.length + 1 + (varB n).length) (by rw [e0]; simp) (by simp; omega)
  have g3 := gvAt_varB (n := crcN (frameHead n d ++ d)) hc (pre ++ [167] ++ varB n ++ varB d.length) (d ++ rest) (xs := xs) (z := pre.length + 1 + (varB n).length + (varB d.length).length) (by rw [e0]; simp) (by simp; omega)
  have hF : (frameHead n d).length = 1 + (varB n).length + (varB d.length).length := by simp [frameHead]; omega
  have hB : (frameB n d).length = (frameHead n d).length + (varB (crcN (frameHead n d ++ d))).length + d.length := by simp [frameB]; omega
  have hlen : xs.length = pre.length + (frameB n d).length + rest.length := by rw [hx]; simp; omega
  have t1 : (xs.drop pre.length).take (frameHead n d).length = frameHead n d := by
    have := dropA pre (frameB n d ++ rest) 0
    rw [Nat.add_zero, List.drop_zero] at this
    rw [hx, this, frameB, List.append_assoc, List.append_assoc, List.take_left']
    rfl
  have t2 : (xs.drop (pre.length + 1 + (varB n).length + (varB d.length).length + (varB (crcN (frameHead n d ++ d))).length)).take d.length = d := by
    have := dropA (pre ++ (frameHead n d ++ varB (crcN (frameHead n d ++ d)))) (d ++ rest) 0
    rw [Nat.add_zero, List.drop_zero] at this
    have e1 : xs = pre ++ (frameHead n d ++ varB (crcN (frameHead n d ++ d))) ++ (d ++ rest) := by rw [hx, frameB]; simp
    have e2 : pre.length + 1 + (varB n).length + (varB d.length).length + (varB (crcN (frameHead n d ++ d))).length = (pre ++ (frameHead n d ++ varB (crcN (frameHead n d ++ d)))).length := by simp [hF]; omega
    rw [e2, e1, this, List.take_left']
    rfl
  rw [frR_yes m1 (by exact_mod_cast g1) g2 g3, frT_0 (by omega) (by omega)]
  · rw [t2]
    refine Prod.ext rfl (Prod.ext rfl (Prod.ext ?_ rfl))
    dsimp only
    omega
  · rw [t2, show pre.length + 1 + (varB n).length + (varB d.length).length - pre.length = (frameHead n d).length by omega, t1]
end Go.Proofs.Ytbaojeiinjjlcaa
