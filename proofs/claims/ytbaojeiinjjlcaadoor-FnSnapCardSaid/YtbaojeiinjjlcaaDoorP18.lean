/- A frame read: the program's way. -/
import Derived.Test.YtbaojeiinjjlcaaDoorP17
import Derived.Deep.RegionHeld3
import Derived.Deep.DeepCutAuto
namespace Go.Proofs.YtbaojeiinjjlcaaDoor
open Go.RowKit
set_option linter.unusedVariables false
set_option maxRecDepth 100000

theorem results_tmp4 {fn : Func} {t u v x : Tmp} (h : fn.results = #[.tmp t, .tmp u, .tmp v, .tmp x]) (tmps : Array Value) (P : Program) (w : World) :
    (results fn tmps).run P w = .ok (.tuple #[tmps.getD t undef, tmps.getD u undef, tmps.getD v undef, tmps.getD x undef]) w := by
  simp [results, h]
theorem Cs.three {w : World} {A : Option Addr} {a b c : Value} (h : Cs w A [a, b, c]) : ∃ k o, A = some ⟨k, o, none⟩ ∧ w.cell? ⟨k, o, none⟩ = some a ∧ w.cell? ⟨k, o + 1, none⟩ = some b ∧ w.cell? ⟨k, o + 2, none⟩ = some c := by
  rcases h with h | ⟨k, o, rfl, h⟩
  · cases h
  · exact ⟨k, o, rfl, h 0 _ rfl, h 1 _ rfl, h 2 _ rfl⟩
theorem len3 {l : List (Int × Int)} (h : l.length = 3) : ∃ a b c, l = [c, b, a] := by
  match l, h with
  | [c, b, a], _ => exact ⟨a, b, c, rfl⟩
theorem gvAt_true {xs : List UInt8} {z : Int} {p : Int × Int} (h : gvAt xs z = (p.1, p.2, true)) : ∃ n q : Nat, p = ((n : Int), (q : Int)) ∧ gvAt xs z = ((n : Int), (q : Int), true) ∧ n ≤ 4294967295 ∧ q ≤ xs.length ∧ z < q ∧ (0 ≤ z ∧ gv (xs.drop z.toNat) = some (n, q - z.toNat)) := by
  rcases gvAt_cases xs z with h2 | ⟨n, q, h2, rest⟩
  · rw [h2] at h; simp at h
  · rw [h2] at h
    simp only [Prod.mk.injEq] at h
    exact ⟨n, q, Prod.ext h.1.symm h.2.1.symm, h2, rest⟩
end Go.Proofs.YtbaojeiinjjlcaaDoor
