/- The builtins max and min of two ints, by name. -/
import Derived.Test.YtnilgcahggmncaaP1
namespace Go.Proofs.Ytnilgcahggmncaa
open Go.RowKit
def mx2 (m n : Int) : Int := if m < n then n else m
def mn2 (m n : Int) : Int := if n < m then n else m
theorem mx2_cases (m n : Int) : m ≤ mx2 m n ∧ n ≤ mx2 m n ∧ (mx2 m n = m ∨ mx2 m n = n) := by unfold mx2; split <;> omega
theorem mn2_cases (m n : Int) : mn2 m n ≤ m ∧ mn2 m n ≤ n ∧ (mn2 m n = m ∨ mn2 m n = n) := by unfold mn2; split <;> omega
section
variable {ops : Array Oper} {rest : List Oper} {o : Oper} {a : Act} {Q : Exit → Act → World → Prop} {w : World}
theorem wp_max2 {m n r : Int} (hr : r = mx2 m n) (hgd : o.guard = none) (hop : ∃ (s x : Operand) (T : Array TypeId), o.op = .call { callee := .builtin .max, args := #[s, x], argTypes := T } ∧ a.eval s = .int .i64 m ∧ a.eval x = .int .i64 n)
    (h : wpList Try.prog ops Q rest (a.put o.dst (.int .i64 r)) w) : wpList Try.prog ops Q (o :: rest) a w := by
  obtain ⟨s, x, T, ho, hs, hx⟩ := hop
  subst hr
  refine wpList_plain hgd fun K hK => ?_
  have e : (Builtin.max_ T o.type #[.int .i64 m, .int .i64 n]).run Try.prog w = .ok (.int .i64 (mx2 m n)) w := run_max_int2 w T o.type .i64 .i64 m n
  unfold Oper.wp execOp
  simp only [ho, resolve, invoke, builtin, Sem.run_bind, Sem.run_pure, Result.andThen_ok, List.map_toArray, List.map_cons, List.map_nil, hs, hx, e]
  exact hK _ _ h
theorem wp_min2 {m n r : Int} (hr : r = mn2 m n) (hgd : o.guard = none) (hop : ∃ (s x : Operand) (T : Array TypeId), o.op = .call { callee := .builtin .min, args := #[s, x], argTypes := T } ∧ a.eval s = .int .i64 m ∧ a.eval x = .int .i64 n)
    (h : wpList Try.prog ops Q rest (a.put o.dst (.int .i64 r)) w) : wpList Try.prog ops Q (o :: rest) a w := by
  obtain ⟨s, x, T, ho, hs, hx⟩ := hop
  subst hr
  refine wpList_plain hgd fun K hK => ?_
  have e : (Builtin.min_ T o.type #[.int .i64 m, .int .i64 n]).run Try.prog w = .ok (.int .i64 (mn2 m n)) w := run_min_int2 w T o.type .i64 .i64 m n
  unfold Oper.wp execOp
  simp only [ho, resolve, invoke, builtin, Sem.run_bind, Sem.run_pure, Result.andThen_ok, List.map_toArray, List.map_cons, List.map_nil, hs, hx, e]
  exact hK _ _ h
end
end Go.Proofs.Ytnilgcahggmncaa
