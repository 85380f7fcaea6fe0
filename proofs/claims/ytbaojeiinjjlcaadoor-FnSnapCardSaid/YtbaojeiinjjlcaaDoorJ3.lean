/- A snapshot is read as it was written; not with a byte too many, nor with a changed byte in its data (plain law). -/
import Derived.Test.YtbaojeiinjjlcaaDoorJ0
import Derived.Test.YtbaojeiinjjlcaaDoorJ1
import Derived.Test.YtbaojeiinjjlcaaDoorP21
namespace Go.Proofs.YtbaojeiinjjlcaaDoor
set_option linter.unusedVariables false

/-- How bytes are read that begin as a snapshot's do. -/
theorem sr_form {a s k m : Nat} (ha : a ≤ 4294967295) (hs : s ≤ 4294967295) (hk : k ≤ 4294967295) (hm : m ≤ 4294967295) (ds : List UInt8) {xs hd : List UInt8} (hh : hd = [83, 78, 65, 80] ++ varB a ++ varB s ++ varB k) (hx : xs = hd ++ varB m ++ ds) :
    ∃ r t, srR xs = srT xs a s k m r t ∧ xs.take r = hd ∧ xs.drop t = ds ∧ t + ds.length = xs.length := by
  have g1 := gvAt_varB ha [83, 78, 65, 80] (varB s ++ (varB k ++ (varB m ++ ds))) (xs := xs) (z := 4) (by rw [hx, hh]; simp) rfl
  have g2 := gvAt_varB hs ([83, 78, 65, 80] ++ varB a) (varB k ++ (varB m ++ ds)) (xs := xs) (z := 4 + (varB a).length) (by rw [hx, hh]; simp) (by simp; omega)
  have g3 := gvAt_varB hk ([83, 78, 65, 80] ++ varB a ++ varB s) (varB m ++ ds) (xs := xs) (z := 4 + (varB a).length + (varB s).length) (by rw [hx, hh]; simp) (by simp; omega)
  have hl : hd.length = 4 + (varB a).length + (varB s).length + (varB k).length := by rw [hh]; simp; omega
  have g4 := gvAt_varB hm hd ds (xs := xs) (z := 4 + (varB a).length + (varB s).length + (varB k).length) (by rw [hx]; simp) hl.symm
  refine ⟨_, _, srR_yes (by rw [hx, hh]; rfl) (by exact_mod_cast g1) g2 g3 g4, ?_, ?_, ?_⟩
  · rw [← hl, hx, List.append_assoc, List.take_left']; rfl
  · have := dropA (hd ++ varB m) ds 0
    rw [Nat.add_zero, List.drop_zero, List.length_append, hl] at this
    rw [hx]
    exact this
  · rw [hx, List.length_append, List.length_append, hl]
theorem head_form (d : List UInt8) : snapHead 3 9 d = [83, 78, 65, 80] ++ varB 3 ++ varB 9 ++ varB d.length := rfl
theorem snap_back {d : List UInt8} (hd : d.length ≤ 150000) : srR (snapB 3 9 d) = (3, 9, d, 0) := by
  obtain ⟨r, t, h1, h2, h3, h4⟩ := sr_form (a := 3) (s := 9) (k := d.length) (m := crcN (snapHead 3 9 d ++ d)) (by omega) (by omega) (by omega) (crcN_le _) d (xs := snapB 3 9 d) (head_form d) rfl
  rw [h1, srT_0 (by omega) (by rw [h2, h3]), h3]
  rfl
theorem snap_more {d : List UInt8} (hd : d.length ≤ 150000) : srR (snapB 3 9 d ++ [0]) = (0, 0, [], 3) := by
  obtain ⟨r, t, h1, h2, h3, h4⟩ := sr_form (a := 3) (s := 9) (k := d.length) (m := crcN (snapHead 3 9 d ++ d)) (by omega) (by omega) (by omega) (crcN_le _) (d ++ [0]) (xs := snapB 3 9 d ++ [0]) (head_form d) (by simp [snapB])
  rw [h1, srT_3]
  simp at h4 ⊢
  omega
theorem snap_bent {a b : List UInt8} {x y : UInt8} (hd : (a ++ x :: b).length ≤ 150000) (hne : y ≠ x) : srR (snapHead 3 9 (a ++ x :: b) ++ varB (crcN (snapHead 3 9 (a ++ x :: b) ++ (a ++ x :: b))) ++ (a ++ y :: b)) = (0, 0, [], 4) := by
  obtain ⟨r, t, h1, h2, h3, h4⟩ := sr_form (a := 3) (s := 9) (k := (a ++ x :: b).length) (m := crcN (snapHead 3 9 (a ++ x :: b) ++ (a ++ x :: b))) (by omega) (by omega) (by omega) (crcN_le _) (a ++ y :: b) (xs := snapHead 3 9 (a ++ x :: b) ++ varB (crcN (snapHead 3 9 (a ++ x :: b) ++ (a ++ x :: b))) ++ (a ++ y :: b)) (head_form _) rfl
  have hl : (a ++ y :: b).length = (a ++ x :: b).length := by simp
  rw [h1, srT_4 (by omega)]
  rw [h2, h3, ← List.append_assoc, ← List.append_assoc]
  exact fun h => hne (crcN_inj h)
/-- One changed byte among the data. -/
theorem snap_set {d us : List UInt8} (hu : us = snapB 3 9 d) (hd : d.length ≤ 150000) {p j : Nat} (hj : j < d.length) (hp : p + 1 + j = us.length) {x y : UInt8} (hx : us[p]? = some x) (hne : y ≠ x) : srR (us.set p y) = (0, 0, [], 4) := by
  obtain ⟨a, z, b, rfl, hb⟩ : ∃ a z b, d = a ++ z :: b ∧ b.length = j := by
    have hi : d.length - 1 - j < d.length := by omega
    refine ⟨d.take (d.length - 1 - j), d[d.length - 1 - j], d.drop (d.length - 1 - j + 1), ?_, ?_⟩
    · rw [← List.drop_eq_getElem_cons hi, List.take_append_drop]
    · rw [List.length_drop]
      omega
  obtain ⟨pre, hpre⟩ : ∃ pre, pre = snapHead 3 9 (a ++ z :: b) ++ varB (crcN (snapHead 3 9 (a ++ z :: b) ++ (a ++ z :: b))) := ⟨_, rfl⟩
  have hB : us = pre ++ a ++ z :: b := by rw [hu, snapB, ← hpre]; simp
  have hpp : p = (pre ++ a).length := by rw [hB] at hp; simp at hp ⊢; omega
  have hxz : x = z := by
    rw [hB, hpp, List.getElem?_append_right (Nat.le_refl _)] at hx
    simpa using hx.symm
  have hs : us.set p y = pre ++ (a ++ y :: b) := by
    rw [hB, hpp, List.set_append_right _ _ (Nat.le_refl _)]
    simp
  subst hxz
  rw [hs, hpre]
  exact snap_bent hd hne
end Go.Proofs.YtbaojeiinjjlcaaDoor
