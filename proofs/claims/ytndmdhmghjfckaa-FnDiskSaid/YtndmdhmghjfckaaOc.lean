/- Slices of cells of one's own; so many numbers at an offset. -/
import Derived.Test.YtndmdhmghjfckaaP1
import Derived.Test.YtndmdhmghjfckaaOwn2
namespace Go.Proofs.Ytndmdhmghjfckaa
open Go.RowKit
set_option linter.unusedVariables false
set_option maxRecDepth 100000

/-- A slice that begins at A reads as these cells. -/
def Cs (w : World) (A : Option Addr) (vs : List Value) : Prop :=
  vs = [] ∨ ∃ b o, A = some ⟨b, o, none⟩ ∧ ∀ i v, vs[i]? = some v → w.cell? ⟨b, o + i, none⟩ = some v
theorem Cs.below {w w' : World} {A : Option Addr} {bs : List Value} (h : Cs w A bs) (hb : Below w.heap.size w w') : Cs w' A bs := by
  rcases h with h | ⟨b, o, hA, h⟩
  · exact .inl h
  · exact .inr ⟨b, o, hA, fun i x hi => (hb.cell (World.block_lt_of_cell? w _ (h i x hi))).trans (h i x hi)⟩
/-- A slice of one-cell things that owns its block, from block lo on. -/
def Oc (e : TypeId) (w : World) (lo : Nat) (A : Option Addr) (c : Nat) (vs : List Value) : Prop := ownsG w lo e 1 (.slice A vs.length c) vs.length vs
/-- Two slices in blocks of their own. -/
def Dj (A A' : Option Addr) : Prop := ∀ a a', A = some a → A' = some a' → a.block ≠ a'.block
section
variable {e : TypeId} {w w' : World} {lo c : Nat} {A : Option Addr} {vs : List Value}
theorem Oc.cs (h : Oc e w lo A c vs) : Cs w A vs := by
  rcases h.2 with ⟨h1, h2⟩ | ⟨g, cap, cur, fz, hv, _⟩
  · exact .inl (List.eq_nil_of_length_eq_zero h2)
  · injection hv with hv _ _
    exact .inr ⟨g, 0, hv, fun i x hi => by rw [Nat.zero_add]; exact h.cells (g := g) (by rw [hv]; rfl) i _ (by simp [hi])⟩
theorem Oc.below {B' : Nat} (h : Oc e w lo A c vs) (hb : Below B' w w') (hB : w.heap.size ≤ B') : Oc e w' lo A c vs :=
  ownsG.below h hb fun k hk => Nat.lt_of_lt_of_le (h.lt k hk).2 hB
theorem Oc.alloc (h : Oc e w lo A c vs) (o : Obj) : Oc e (w.alloc o) lo A c vs := ownsG.alloc h o
theorem Oc.drewN (h : Oc e w lo A c vs) (m : Nat) : Oc e (w.drewN m) lo A c vs := h
theorem Oc.empty : Oc e (w.alloc (.cells #[] e)) w.heap.size (some ⟨w.heap.size, 0, none⟩) 0 [] :=
  ⟨rfl, .inr ⟨w.heap.size, 0, #[], (0, 0), rfl, Nat.le_refl _, heap_alloc_new _ _, .inl rfl, Nat.le_refl _, by unfold maxLen; omega, rfl, rfl⟩⟩
theorem Oc.mono {lo' : Nat} (h : Oc e w lo A c vs) (hl : lo' ≤ lo) : Oc e w lo' A c vs := ownsG.mono h hl
end
section
variable {ops : Array Oper} {rest : List Oper} {o : Oper} {a : Act} {Q : Exit → Act → World → Prop}
/-- append(s, y), y of one cell, onto a slice of the call's own; other owned slices stay. -/
theorem wp_app1C (T E : TypeId) (z : Value) (bytes : Nat) (hT : Try.prog.underlying T = some (.slice E)) (hinfo : (Try.prog.info? E).map (fun i => (i.zero, i.size, i.bytes)) = some (some z, 1, bytes)) (hby : bytes ≤ 64) (hz1 : z.cells.size = 1)
    (hgd : o.guard = none) (s x : Operand) (ho : o.op = .call { callee := .builtin .append, args := #[s, x], argTypes := #[T, T] })
    (lo : Nat) (A : Option Addr) (c : Nat) (vs : List Value) (w : World) (n : Nat) (v : Value) (h1 : v.oneCell' = true) (ha : Oc E w lo A c vs) (hn : n = vs.length) (hs : a.eval s = .slice A n c)
    (hx : a.eval x = .slice (some ⟨w.heap.size, 0, none⟩) 1 1) (hl : vs.length ≤ 1099511627776) (hlo : lo ≤ w.heap.size)
    (h : ∀ A' c' w' us, Hid (us = vs ++ [v]) → Oc E w' lo A' c' us → Below lo w w' →
      (∀ E2 lo2 A2 c2 vs2, Oc E2 w lo2 A2 c2 vs2 → Dj A2 A → Oc E2 w' lo2 A2 c2 vs2 ∧ Dj A2 A') → wpList Try.prog ops Q rest (a.put o.dst (.slice A' us.length c')) w') :
    wpList Try.prog ops Q (o :: rest) a (w.alloc (.cells #[v] E)) := by
  obtain ⟨i0, hi, hz0, hz2, hz3⟩ := info_parts hinfo
  subst hn
  refine wpList_plain hgd fun K hK => ?_
  obtain ⟨v', w', hr, h2, h3, h4⟩ := run_append_ownD (P := Try.prog) (w.alloc (.cells #[v] E)) lo T o.type E i0 z 1 bytes hT hi hz0 hz2 hz3 hz1 (by decide) _ _ _ (ha.alloc _) ⟨w.heap.size, 0, none⟩ 1 1 [v] rfl
    (by intro j u hu; cases j with
        | zero => simp at hu; subst hu; simp [Addr.add]
        | succ j => simp at hu) (by simp [h1]) (by unfold maxLen; omega) (by have : (vs.length + 1) * bytes ≤ 1099511627777 * 64 := Nat.mul_le_mul (by omega) hby; omega) (by simp; omega)
  obtain ⟨A', c', rfl⟩ := h2.form
  unfold Oper.wp execOp
  simp only [ho, resolve, invoke, builtin, Sem.run_bind, Sem.run_pure, Result.andThen_ok, List.map_toArray, List.map_cons, List.map_nil, hs, hx, hr]
  refine hK _ _ ?_
  have hL : (vs ++ [v]).length = vs.length + 1 := by simp
  have hob : Oc E w' lo A' c' (vs ++ [v]) := by
    unfold Oc; rw [hL]; exact h2
  have := h A' c' w' _ (Lib.hid rfl) hob (((Below.refl lo w).alloc hlo _).trans (below_of_grown h3 (by simp; omega) (fun k hk => (ownsG.lt ha k hk).1))) ?_
  · rw [hL] at this
    exact this
  · intro E2 lo2 A2 c2 vs2 h5 h6
    refine ⟨ownsG.kept (h5.alloc _) h3 ?_, ?_⟩
    · rcases A2 with _ | a2
      · exact .inl rfl
      · rcases A with _ | a1
        · exact .inr (by simp [Value.ownBlock])
        · exact .inr (by simp [Value.ownBlock]; exact h6 _ _ rfl rfl)
    · intro a2 a' e1 e2 e3
      subst e1 e2
      rcases h4 a'.block (by simp [Value.ownBlock]) with h7 | h7
      · rcases A with _ | a1
        · simp [Value.ownBlock] at h7
        · simp [Value.ownBlock] at h7
          exact h6 _ _ rfl rfl (e3.trans h7.symm)
      · have h8 := (ownsG.lt h5 a2.block (by simp [Value.ownBlock])).2
        simp at h7
        omega
end
abbrev I (x : Int) : Value := .int .i64 x
end Go.Proofs.Ytndmdhmghjfckaa
