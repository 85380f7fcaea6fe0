/- Slices of cells of one's own; so many numbers at an offset. -/
import Derived.Test.YtbaojeiinjjlcaaP13
import Derived.Test.YtbaojeiinjjlcaaOwn2
namespace Go.Proofs.Ytbaojeiinjjlcaa
open Go.RowKit
set_option linter.unusedVariables false
set_option maxRecDepth 100000

/-- A slice that begins at A reads as these cells. -/
def Cs (w : World) (A : Option Addr) (vs : List Value) : Prop :=
  vs = [] ∨ ∃ b o, A = some ⟨b, o, none⟩ ∧ ∀ i v, vs[i]? = some v → w.cell? ⟨b, o + i, none⟩ = some v
theorem Cs.below {w w' : World} {A : Option Addr} {bs : List Value} (h : Cs w A bs) (hb : Below w.heap.size w w') : Cs w' A bs := by
  rcases h with h | ⟨b, o, hA, h⟩
  · exact .inl h
  · exact .inr ⟨b, o, hA, fun i x hi => (hb.cell (World.block_lt_of_cell? w _ (h i x hi))).trans (h i x hi)⟩
/-- A slice of one-cell things that owns its block, from block lo on. -/
def Oc (e : TypeId) (w : World) (lo : Nat) (A : Option Addr) (c : Nat) (vs : List Value) : Prop := ownsG w lo e 1 (.slice A vs.length c) vs.length vs
/-- Two slices in blocks of their own. -/
def Dj (A A' : Option Addr) : Prop := ∀ a a', A = some a → A' = some a' → a.block ≠ a'.block
section
variable {e : TypeId} {w w' : World} {lo c : Nat} {A : Option Addr} {vs : List Value}
theorem Oc.cs (h : Oc e w lo A c vs) : Cs w A vs := by
  rcases h.2 with ⟨h1, h2⟩ | ⟨g, cap, cur, fz, hv, _⟩
  · exact .inl (List.eq_nil_of_length_eq_zero h2)
  · injection hv with hv _ _
    exact .inr ⟨g, 0, hv, fun i x hi => by rw [Nat.zero_add]; exact h.cells (g := g) (by rw [hv]; rfl) i _ (by simp [hi])⟩
theorem Oc.below {B' : Nat} (h : Oc e w lo A c vs) (hb : Below B' w w') (hB : w.heap.size ≤ B') : Oc e w' lo A c vs :=
  ownsG.below h hb fun k hk => Nat.lt_of_lt_of_le (h.lt k hk).2 hB
theorem Oc.alloc (h : Oc e w lo A c vs) (o : Obj) : Oc e (w.alloc o) lo A c vs := ownsG.alloc h o
theorem Oc.drewN (h : Oc e w lo A c vs) (m : Nat) : Oc e (w.drewN m) lo A c vs := h
theorem Oc.empty : Oc e (w.alloc (.cells #[] e)) w.heap.size (some ⟨w.heap.size, 0, none⟩) 0 [] :=
  ⟨rfl, .inr ⟨w.heap.size, 0, #[], (0, 0), rfl, Nat.le_refl _, heap_alloc_new _ _, .inl rfl, Nat.le_refl _, by unfold maxLen; omega, rfl, rfl⟩⟩
theorem Oc.mono {lo' : Nat} (h : Oc e w lo A c vs) (hl : lo' ≤ lo) : Oc e w lo' A c vs := ownsG.mono h hl
end
section
variable {ops : Array Oper} {rest : List Oper} {o : Oper} {a : Act} {Q : Exit → Act → World → Prop}
/-- append(s, y), y of one cell, onto a slice of the call's own; other owned slices stay. -/
theorem wp_app1C (T E : TypeId) (z : Value) (bytes : Nat) (hT : Try.prog.underlying T = some (.slice E)) (hinfo : (Try.prog.info? E).map (fun i => (i.zero, i.size, i.bytes)) = some (some z, 1, bytes)) (hby : bytes ≤ 64) (hz1 : z.cells.size = 1)
    (hgd : o.guard = none) (s x : Operand) (ho : o.op = .call { callee := .builtin .append, args := #[s, x], argTypes := #[T, T] })
    (lo : Nat) (A : Option Addr) (c : Nat) (vs : List Value) (w : World) (n : Nat) (v : Value) (h1 : v.oneCell' = true) (ha : Oc E w lo A c vs) (hn : n = vs.length) (hs : a.eval s = .slice A n c)
    (hx : a.eval x = .slice (some ⟨w.heap.size, 0, none⟩) 1 1) (hl : vs.length ≤ 1099511627776) (hlo : lo ≤ w.heap.size)
    (h : ∀ A' c' w' us, Hid (us = vs ++ [v]) → Oc E w' lo A' c' us → Below lo w w' →
      (∀ E2 lo2 A2 c2 vs2, Oc E2 w lo2 A2 c2 vs2 → Dj A2 A → Oc E2 w' lo2 A2 c2 vs2 ∧ Dj A2 A') → wpList Try.prog ops Q rest (a.put o.dst (.slice A' us.length c')) w') :
    wpList Try.prog ops Q (o :: rest) a (w.alloc (.cells #[v] E)) := by
  obtain ⟨i0, hi, hz0, hz2, hz3⟩ := info_parts hinfo
  subst hn
  refine wpList_plain hgd fun K hK => ?_
  obtain ⟨v', w', hr, h2, h3, h4⟩ := run_append_ownD (P := Try.prog) (w.alloc (.cells #[v] E)) lo T o.type E i0 z 1 bytes hT hi hz0 hz2 hz3 hz1 (by decide) _ _ _ (ha.alloc _) ⟨w.heap.size, 0, none⟩ 1 1 [v] rfl
    (by intro j u hu; cases j with
        | zero => simp at hu; subst hu; simp [Addr.add]
        | succ j => simp at hu) (by simp [h1]) (by unfold maxLen; omega) (by have : (vs.length + 1) * bytes ≤ 1099511627777 * 64 := Nat.mul_le_mul (by omega) hby; omega) (by simp; omega)
  obtain ⟨A', c', rfl⟩ := h2.form
  unfold Oper.wp execOp
  simp only [ho, resolve, invoke, builtin, Sem.run_bind, Sem.run_pure, Result.andThen_ok, List.map_toArray, List.map_cons, List.map_nil, hs, hx, hr]
  refine hK _ _ ?_
  have hL : (vs ++ [v]).length = vs.length + 1 := by simp
  have hob : Oc E w' lo A' c' (vs ++ [v]) := by
    unfold Oc; rw [hL]; exact h2
  have := h A' c' w' _ (Lib.hid rfl) hob (((Below.refl lo w).alloc hlo _).trans (below_of_grown h3 (by simp; omega) (fun k hk => (ownsG.lt ha k hk).1))) ?_
  · rw [hL] at this
    exact this
  · intro E2 lo2 A2 c2 vs2 h5 h6
    refine ⟨ownsG.kept (h5.alloc _) h3 ?_, ?_⟩
    · rcases A2 with _ | a2
      · exact .inl rfl
      · rcases A with _ | a1
        · exact .inr (by simp [Value.ownBlock])
        · exact .inr (by simp [Value.ownBlock]; exact h6 _ _ rfl rfl)
    · intro a2 a' e1 e2 e3
      subst e1 e2
      rcases h4 a'.block (by simp [Value.ownBlock]) with h7 | h7
      · rcases A with _ | a1
        · simp [Value.ownBlock] at h7
        · simp [Value.ownBlock] at h7
          exact h6 _ _ rfl rfl (e3.trans h7.symm)
      · have h8 := (ownsG.lt h5 a2.block (by simp [Value.ownBlock])).2
        simp at h7
        omega
end
theorem info_int : (Try.prog.info? 3).map (fun i => (i.zero, i.size, i.bytes)) = some (some (.int .i64 0), 1, 8) := by kernel_rfl
abbrev I (x : Int) : Value := .int .i64 x
def lastEnd (z : Int) : List (Int × Int) → Int
  | [] => z
  | p :: _ => p.2
/-- The numbers read, the last one first. -/
def RunR (xs : List UInt8) (z : Int) : List (Int × Int) → Prop
  | [] => True
  | p :: r => RunR xs z r ∧ gvAt xs (lastEnd z r) = (p.1, p.2, true)
def VarsPost (xs : List UInt8) (z : Int) (many : Nat) (w : World) (e : Ending) (w' : World) : Prop :=
  Below w.heap.size w w' ∧
  ((∃ l A1 c1 A2 c2, l.length = many ∧ Hid (RunR xs z l) ∧ e = .returned (.tuple #[.slice A1 many c1, .slice A2 many c2, .bool true]) ∧ Cs w' A1 (l.map (fun p => I p.1)).reverse ∧ Cs w' A2 (l.map (fun p => I p.2)).reverse) ∨
   (∃ l, l.length < many ∧ Hid (RunR xs z l ∧ (gvAt xs (lastEnd z l)).2.2 = false) ∧ e = .returned (.tuple #[.slice none 0 0, .slice none 0 0, .bool false])))
set_option maxHeartbeats 1000000 in
theorem getVars_any (A : Option Addr) (c : Nat) (xs : List UInt8) (z : Int) (many : Nat) (w : World) (ha : By w A xs) (hc : xs.length ≤ c) (h1 : xs.length ≤ 549755813888) (hm : many ≤ 4) :
    Calls Try.prog 19 #[.slice A xs.length c, .int .i64 z, .int .i64 many] w (VarsPost xs z many w) := by
  go_enter Try.func19, Try.ntmps19
  go_wp2_with fail
  go_loopw [1, 9, 10, 17] (fun z0 nv ev i wr => ∃ (k : Nat) (l : List (Int × Int)) (A1 A2 : Option Addr) (c1 c2 : Nat) (ns qs : List Value) (z' : Int), k ≤ many ∧ i = .int .i64 k ∧ z0 = .int .i64 z' ∧ nv = .slice A1 k c1 ∧ ev = .slice A2 k c2 ∧ ns.length = k ∧ qs.length = k ∧ Hid (l.length = k ∧ RunR xs z l ∧ z' = lastEnd z l ∧ ns = (l.map (fun p => I p.1)).reverse ∧ qs = (l.map (fun p => I p.2)).reverse) ∧ Oc 3 wr w.heap.size A1 c1 ns ∧ Oc 3 wr w.heap.size A2 c2 qs ∧ Dj A2 A1 ∧ Below w.heap.size w wr) (fun _ _ _ i _ => many - (intOf i).toNat)
  case atStart =>
    refine ⟨0, [], _, _, _, _, [], [], z, Nat.zero_le _, rfl, rfl, rfl, rfl, rfl, rfl, ⟨rfl, trivial, rfl, rfl, rfl⟩, Oc.empty.alloc _, (by have h := Oc.empty (e := 3) (w := w.alloc (.cells #[] 3)); simp at h ⊢; exact h.mono (by omega)), ?_, (((Below.refl _ _).alloc (Nat.le_refl _) _).alloc (by simp) _)⟩
    intro a a' h1 h2
    injection h1 with h1
    injection h2 with h2
    subst h1 h2
    simp
  case round =>
    obtain ⟨k, l, A1, A2, c1, c2, ns, qs, z', hk, rfl, rfl, rfl, rfl, hn1, hn2, hl, ho1, ho2, hdj, hb⟩ := hrel
    have zb := hb.size
    by_cases hlt : k < many
    · have hlt' : (k : Int) < many := by omega
      have hbx := ha.below hb
      rcases hg : gvAt xs z' with ⟨n, q, ok⟩
      cases ok with
      | false =>
        have HV : Hid (gvV xs z' = .tuple #[.int .i64 n, .int .i64 q, .bool false]) := by show _ = _; rw [gvV, hg]
        have HF : Hid ((gvAt xs (lastEnd z l)).2.2 = false) := by show _ = _; rw [← hl.out.2.2.1, hg]
        have HL : l.length < many := by rw [hl.out.1]; exact hlt
        have HR : Hid (RunR xs z l) := hl.out.2.1
        clear hl hg
        go_wp2_with (go_at_call 23; refine (getVar_implR _ _ _ _ _ hbx hc h1).mono ?_; rintro e w' ⟨he, rfl⟩; rw [HV.out] at he; subst he)
        go_ret3
        exact ⟨hb, .inr ⟨l, HL, ⟨HR.out, HF.out⟩, rfl⟩⟩
      | true =>
        have HV : Hid (gvV xs z' = .tuple #[.int .i64 n, .int .i64 q, .bool true]) := by show _ = _; rw [gvV, hg]
        have HG : Hid (gvAt xs (lastEnd z l) = (n, q, true)) := by show _ = _; rw [← hl.out.2.2.1, hg]
        clear hg
        go_wp2_with (first
          | (go_at_call 23; refine (getVar_implR _ _ _ _ _ hbx hc h1).mono ?_; rintro e w' ⟨he, rfl⟩; rw [HV.out] at he; subst he)
          | (at_builtin; refine wp_app1C 49 3 (.int .i64 0) 8 Try.underlying49 info_int (by omega) rfl rfl _ _ rfl w.heap.size A1 c1 ns _ _ _ rfl ho1 hn1.symm rfl rfl (by omega) zb ?_; intro A3 c3 w3 us hus ho3 hb3 hkp; have zb3 := hb3.size; obtain ⟨ho4, hdj4⟩ := hkp _ _ _ _ _ ho2 hdj)
          | (at_builtin; refine wp_app1C 49 3 (.int .i64 0) 8 Try.underlying49 info_int (by omega) rfl rfl _ _ rfl w.heap.size A2 c2 qs _ _ _ rfl ho4 hn2.symm rfl rfl (by omega) (by omega) ?_; intro A5 c5 w5 us5 hus5 ho5 hb5 hkp5))
        have hu1 := hus.out
        have hu2 := hus5.out
        have l1 : us.length = k + 1 := by rw [hu1]; simp [hn1]
        have l2 : us5.length = k + 1 := by rw [hu2]; simp [hn2]
        obtain ⟨ho6, hdj6⟩ := hkp5 _ _ _ _ _ ho3 (fun a a' h1 h2 h3 => hdj4 a' a h2 h1 h3.symm)
        go_roundw
        case rel =>
          refine ⟨k + 1, (n, q) :: l, A3, A5, c3, c5, us, us5, q, by omega, by go_num, rfl, by rw [l1], by rw [l2], l1, l2, ?_, ho6, ho5, fun a a' h1 h2 h3 => hdj6 a' a h2 h1 h3.symm, (hb.trans hb3).trans hb5⟩
          have h := hl.out
          exact ⟨by simp [h.1], ⟨h.2.1, HG.out⟩, rfl, by rw [hu1, h.2.2.2.1]; simp, by rw [hu2, h.2.2.2.2]; simp⟩
        case measure => simp [intOf]; omega
    · have hlt' : ¬ (k : Int) < many := by omega
      obtain rfl : k = many := by omega
      go_wp2_with fail
      go_ret3
      have h := hl.out
      exact ⟨hb, .inl ⟨l, A1, c1, A2, c2, h.1, h.2.1, rfl, by rw [← h.2.2.2.1]; exact ho1.cs, by rw [← h.2.2.2.2]; exact ho2.cs⟩⟩
end Go.Proofs.Ytbaojeiinjjlcaa
