/- Attributes turned by numbers. -/
import Derived.Test.YtgodpbiojekicaaG5
namespace Go.Proofs.Ytgodpbiojekicaa
open Go.RowKit
set_option linter.unusedVariables false
set_option maxRecDepth 100000

theorem w64 {n : Int} (h : -9223372036854775808 ≤ n ∧ n ≤ 9223372036854775807) : wrap64 n = n := by unfold wrap64; omega
abbrev At := Int × Int × Bool × Bool × Bool
abbrev aC (a : At) : Array Value := #[.int .i64 a.1, .int .i64 a.2.1, .bool a.2.2.1, .bool a.2.2.2.1, .bool a.2.2.2.2]
abbrev aV (a : At) : Value := .agg (aC a)
/-- One number applied. -/
def sg1 (a : At) (n : Int) : At :=
  if n = 0 then (0, 0, false, false, false)
  else if n = 1 ∨ n = 22 then (a.1, a.2.1, n == 1, a.2.2.2.1, a.2.2.2.2)
  else if n = 4 ∨ n = 24 then (a.1, a.2.1, a.2.2.1, n == 4, a.2.2.2.2)
  else if n = 7 ∨ n = 27 then (a.1, a.2.1, a.2.2.1, a.2.2.2.1, n == 7)
  else if 30 ≤ n ∧ n ≤ 37 then (n - 29, a.2.1, a.2.2.1, a.2.2.2.1, a.2.2.2.2)
  else if n = 39 then (0, a.2.1, a.2.2.1, a.2.2.2.1, a.2.2.2.2)
  else if 40 ≤ n ∧ n ≤ 47 then (a.1, n - 39, a.2.2.1, a.2.2.2.1, a.2.2.2.2)
  else if n = 49 then (a.1, 0, a.2.2.1, a.2.2.2.1, a.2.2.2.2)
  else a
theorem sg_0 {a : At} {n : Int} (h : n = 0) : sg1 a n = (0, 0, false, false, false) := if_pos h
theorem sg_1 {a : At} {n : Int} (h : n = 1 ∨ n = 22) : sg1 a n = (a.1, a.2.1, n == 1, a.2.2.2.1, a.2.2.2.2) := by rw [sg1, if_neg (by omega), if_pos h]
theorem sg_4 {a : At} {n : Int} (h : n = 4 ∨ n = 24) : sg1 a n = (a.1, a.2.1, a.2.2.1, n == 4, a.2.2.2.2) := by rw [sg1, if_neg (by omega), if_neg (by omega), if_pos h]
theorem sg_7 {a : At} {n : Int} (h : n = 7 ∨ n = 27) : sg1 a n = (a.1, a.2.1, a.2.2.1, a.2.2.2.1, n == 7) := by rw [sg1, if_neg (by omega), if_neg (by omega), if_neg (by omega), if_pos h]
theorem sg_30 {a : At} {n : Int} (h : 30 ≤ n ∧ n ≤ 37) : sg1 a n = (n - 29, a.2.1, a.2.2.1, a.2.2.2.1, a.2.2.2.2) := by rw [sg1, if_neg (by omega), if_neg (by omega), if_neg (by omega), if_neg (by omega), if_pos h]
theorem sg_39 {a : At} {n : Int} (h : n = 39) : sg1 a n = (0, a.2.1, a.2.2.1, a.2.2.2.1, a.2.2.2.2) := by rw [sg1, if_neg (by omega), if_neg (by omega), if_neg (by omega), if_neg (by omega), if_neg (by omega), if_pos h]
theorem sg_40 {a : At} {n : Int} (h : 40 ≤ n ∧ n ≤ 47) : sg1 a n = (a.1, n - 39, a.2.2.1, a.2.2.2.1, a.2.2.2.2) := by rw [sg1, if_neg (by omega), if_neg (by omega), if_neg (by omega), if_neg (by omega), if_neg (by omega), if_neg (by omega), if_pos h]
theorem sg_49 {a : At} {n : Int} (h : n = 49) : sg1 a n = (a.1, 0, a.2.2.1, a.2.2.2.1, a.2.2.2.2) := by rw [sg1, if_neg (by omega), if_neg (by omega), if_neg (by omega), if_neg (by omega), if_neg (by omega), if_neg (by omega), if_neg (by omega), if_pos h]
theorem sg_no {a : At} {n : Int} (h : ¬ (n = 0 ∨ n = 1 ∨ n = 22 ∨ n = 4 ∨ n = 24 ∨ n = 7 ∨ n = 27 ∨ (30 ≤ n ∧ n ≤ 37) ∨ n = 39 ∨ (40 ≤ n ∧ n ≤ 47) ∨ n = 49)) : sg1 a n = a := by rw [sg1, if_neg (by omega), if_neg (by omega), if_neg (by omega), if_neg (by omega), if_neg (by omega), if_neg (by omega), if_neg (by omega), if_neg (by omega)]
def sgR (a : At) (l : List Int) : At := if attrOkB a.1 a.2.1 = false ∨ l = [] then (0, 0, false, false, false) else l.foldl sg1 a
theorem sgR_no {a : At} {l : List Int} (h : attrOkB a.1 a.2.1 = false ∨ l = []) : sgR a l = (0, 0, false, false, false) := if_pos h
theorem sgR_yes {a : At} {l : List Int} (h : attrOkB a.1 a.2.1 = true) (h2 : l ≠ []) : sgR a l = l.foldl sg1 a := by rw [sgR, if_neg]; simp [h, h2]
set_option maxHeartbeats 1000000 in
theorem one_spec (a : At) (n : Int) (w : World) :
    Calls Try.prog 50 #[aV a, .int .i64 n] w fun e w' => e = .returned (aV (sg1 a n)) ∧ Below w.heap.size w w' := by
  obtain ⟨f, b, x, y, z⟩ := a
  go_enter Try.func50, Try.ntmps50
  go_wp2
  all_goals
    refine bodyPost_ret (v := aV (sg1 (f, b, x, y, z) n)) ?_ rfl ⟨rfl, (by (repeat (first | exact Below.refl _ _ | (refine Below.alloc ?_ (by first | omega | (simp; done) | (simp; omega)) _) | (refine Below.drew ?_) | (refine below_drewN ?_ _) | (refine below_at1 ?_ (by first | omega | (simp; done) | (simp; omega))) | (refine Below.setCell ?_ (by first | omega | (simp; done) | (simp; omega)) _) | (refine Below.trans ?_ (Below.mono (by assumption) (by first | omega | (simp; done) | (simp; omega)))))))⟩
    (try simp only [beq_iff_eq, beq_eq_false_iff_ne, ne_eq] at *)
    first | rw [sg_0 (by omega)] | rw [sg_1 (by omega)] | rw [sg_4 (by omega)] | rw [sg_7 (by omega)] | rw [sg_30 (by omega)] | rw [sg_39 (by omega)] | rw [sg_40 (by omega)] | rw [sg_49 (by omega)] | rw [sg_no (by omega)]
    all_goals simp [results, Try.results50, go_sem, *]
set_option maxHeartbeats 4000000 in
theorem one_impl (g : Nat) (a : At) (n : Int) (w : World) (hg : w.heap[g]? = some (.cells (aC a) 35 (0, 0))) :
    Calls Try.prog 52 #[.pointer (some ⟨g, 0, none⟩), .int .i64 n] w fun e w' => e = .returned (.tuple #[]) ∧ w'.heap[g]? = some (.cells (aC (sg1 a n)) 35 (0, 0)) ∧ w.grownBy w' (some g) := by
  obtain ⟨f, b, x, y, z⟩ := a
  have c0 : w.cell? ⟨g, 0, none⟩ = some (.int .i64 f) := by simp [World.cell?, hg]
  have c1 : w.cell? ⟨g, 1, none⟩ = some (.int .i64 b) := by simp [World.cell?, hg]
  have c2 : w.cell? ⟨g, 2, none⟩ = some (.bool x) := by simp [World.cell?, hg]
  have c3 : w.cell? ⟨g, 3, none⟩ = some (.bool y) := by simp [World.cell?, hg]
  have c4 : w.cell? ⟨g, 4, none⟩ = some (.bool z) := by simp [World.cell?, hg]
  have f0 : w.frozen? ⟨g, 0, none⟩ = false := by simp [World.frozen?, hg]
  have f1 : w.frozen? ⟨g, 1, none⟩ = false := by simp [World.frozen?, hg]
  have f2 : w.frozen? ⟨g, 2, none⟩ = false := by simp [World.frozen?, hg]
  have f3 : w.frozen? ⟨g, 3, none⟩ = false := by simp [World.frozen?, hg]
  have f4 : w.frozen? ⟨g, 4, none⟩ = false := by simp [World.frozen?, hg]
  have HG := Lib.hid hg
  clear hg
  go_enter Try.func52, Try.ntmps52
  go_wp2_with (go_at_call 46; refine (within_any _ _ _ _).mono ?_; rintro e w' ⟨rfl, rfl⟩)
  all_goals
    (try simp only [Exit.inBlock, Exit.then])
    refine bodyPost_end (results_none rfl _ _ _) rfl ?_
    (try simp only [withinB, beq_iff_eq, beq_eq_false_iff_ne, ne_eq, decide_eq_true_eq, decide_eq_false_iff_not, not_and] at *)
    have hgrow : ∀ w', w.grownBy w' (some g) → w.grownBy w' (some g) := fun _ h => h
    first | rw [sg_0 (by omega)] | rw [sg_1 (by omega)] | rw [sg_4 (by omega)] | rw [sg_7 (by omega)] | rw [sg_30 (by omega)] | rw [sg_39 (by omega)] | rw [sg_40 (by omega)] | rw [sg_49 (by omega)] | rw [sg_no (by omega)]
  · exact ⟨by trivial, heap_setCell_same _ (heap_setCell_same _ (heap_setCell_same _ (heap_setCell_same _ (heap_setCell_same _ HG.out)))), grown_set (grown_set (grown_set (grown_set (grown_set (World.grownBy.refl _ _) _) _) _) _) _⟩
  · subst_vars
    exact ⟨by trivial, heap_setCell_same _ HG.out, grown_set (World.grownBy.refl _ _) _⟩
  · exact ⟨by trivial, heap_setCell_same _ HG.out, grown_set (World.grownBy.refl _ _) _⟩
  · subst_vars
    exact ⟨by trivial, heap_setCell_same _ HG.out, grown_set (World.grownBy.refl _ _) _⟩
  · exact ⟨by trivial, heap_setCell_same _ HG.out, grown_set (World.grownBy.refl _ _) _⟩
  · subst_vars
    exact ⟨by trivial, heap_setCell_same _ HG.out, grown_set (World.grownBy.refl _ _) _⟩
  · exact ⟨by trivial, heap_setCell_same _ HG.out, grown_set (World.grownBy.refl _ _) _⟩
  · rw [w64 (by omega)]
    exact ⟨by trivial, heap_setCell_same _ HG.out, grown_set (World.grownBy.refl _ _) _⟩
  · exact ⟨by trivial, heap_setCell_same _ HG.out, grown_set (World.grownBy.refl _ _) _⟩
  · rw [w64 (by omega)]
    exact ⟨by trivial, heap_setCell_same _ HG.out, grown_set (World.grownBy.refl _ _) _⟩
  · exact ⟨by trivial, heap_setCell_same _ HG.out, grown_set (World.grownBy.refl _ _) _⟩
  · exact ⟨by trivial, HG.out, World.grownBy.refl _ _⟩
end Go.Proofs.Ytgodpbiojekicaa
