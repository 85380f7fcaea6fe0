/- append of bytes and of a file: their runs; any builtin's run as a step of a region. -/
import Derived.Test.YtndmdhmghjfckaaHx
import Derived.Test.YtndmdhmghjfckaaOwn2
import Derived.Test.YtndmdhmghjfckaaVa
import Derived.Test.YtndmdhmghjfckaaKz
namespace Go.Proofs.Ytndmdhmghjfckaa
open Go.RowKit
set_option linter.unusedVariables false
set_option maxRecDepth 100000

/-- A builtin whose run is known, as one step of a region. -/
theorem step_run {ops : Array Oper} {o : Oper} {a : Act} {w w' : World} {K : Act → World → Prop} {Q : Exit → Act → World → Prop} {E : Prop} {v : Value} {T : TypeId} (hgd : o.guard = none) (s x : Operand) (ho : o.op = .call { callee := .builtin .append, args := #[s, x], argTypes := #[T, T] })
    {sv xv : Value} (hs : a.eval s = sv) (hx : a.eval x = xv) (hr : (Builtin.append_ #[T, T] o.type #[sv, xv]).run Try.prog w = .ok v w') (h : K (a.put o.dst v) w') :
    if Region.wanted o (yielded ops a.tmps) = true then Oper.wp Try.prog o a w K Q else E := by
  have hw : Region.wanted o (yielded ops a.tmps) = true := by simp [Region.wanted, hgd]
  rw [if_pos hw]
  unfold Oper.wp execOp
  simp only [ho, resolve, invoke, builtin, Sem.run_bind, Sem.run_pure, Result.andThen_ok, List.map_toArray, List.map_cons, List.map_nil, hs, hx, hr]
  exact h
/-- What an append leaves as it was. -/
def kept (A : Option Addr) (w w' : World) : Prop := ∀ b, b < w.heap.size → (∀ ad, A = some ad → ad.block ≠ b) → w'.heap[b]? = w.heap[b]?
theorem kept_of {w w' : World} {A : Option Addr} {n c : Nat} (h3 : w.grownBy w' (Value.slice A n c).ownBlock) : kept A w w' := fun b hb hne => h3.block b hb (by
  intro he
  cases A with
  | none => simp [Value.ownBlock] at he
  | some ad => simp [Value.ownBlock] at he; exact hne ad rfl he.symm)
/-- Where the appended slice begins. -/
def fresh (A A' : Option Addr) (n : Nat) : Prop := ∀ ad', A' = some ad' → (∃ ad, A = some ad ∧ ad.block = ad'.block) ∨ n ≤ ad'.block
theorem fresh_of {A A' : Option Addr} {n c m c' k : Nat} (h : ∀ k', (Value.slice A' m c').ownBlock = some k' → (Value.slice A n c).ownBlock = some k' ∨ k ≤ k') : fresh A A' k := by
  intro ad' had
  subst had
  rcases h ad'.block rfl with h1 | h1
  · cases A with
    | none => simp [Value.ownBlock] at h1
    | some ad => simp [Value.ownBlock] at h1; exact .inl ⟨ad, rfl, h1⟩
  · exact .inr h1
theorem appB_run (ty : TypeId) (lo : Nat) (A : Option Addr) (c : Nat) (ys : List UInt8) (w : World) (A2 : Option Addr) (c2 : Nat) (zs : List UInt8) (ha : Ob w lo A c ys) (hz : By w A2 zs) (hl : ys.length ≤ 1099511627776) (hl2 : zs.length ≤ 1099511627776) (hlo : lo ≤ w.heap.size) :
    ∃ A' c' w', (Builtin.append_ #[22, 22] ty #[.slice A ys.length c, .slice A2 zs.length c2]).run Try.prog w = .ok (.slice A' (ys ++ zs).length c') w' ∧ Ob w' lo A' c' (ys ++ zs) ∧ Below lo w w' ∧ kept A w w' ∧ fresh A A' w.heap.size := by
  obtain ⟨i0, hi, hz0, hz1, hz2⟩ := info_parts info_u8
  by_cases h0 : zs.length = 0
  · have hn : zs = [] := List.eq_nil_of_length_eq_zero h0
    subst hn
    have hr : (Builtin.append_ #[22, 22] ty #[.slice A ys.length c, .slice A2 0 c2]).run Try.prog w = .ok (.slice A ys.length c) w := by
      rcases ha.2 with ⟨hv, hn⟩ | ⟨g, cap, cur, fz, hv, _, _, _, hnc, _⟩
      · injection hv with hv _ hc
        subst hv hc
        rw [hn]
        cases A2 <;> simp [Builtin.append_, run_underlying Try.underlying22, sizeOf, typeInfo, hi, Builtin.lenOf, Builtin.firstCells, loadCells, loadCellsFrom]
      · injection hv with hv _ hc
        subst hv hc
        cases A2 <;> simp [Builtin.append_, run_underlying Try.underlying22, sizeOf, typeInfo, hi, Builtin.lenOf, Builtin.firstCells, loadCells, loadCellsFrom, hnc, storeCells]
    rw [List.append_nil]
    exact ⟨A, c, w, hr, ha, Below.refl _ _, fun _ _ _ => rfl, fun ad h => .inl ⟨ad, h, rfl⟩⟩
  · obtain ⟨b, o', rfl, hc⟩ := hz.pos (by omega)
    obtain ⟨v', w', hr, h2, h3, h4⟩ := run_append_ownD (P := Try.prog) w lo 22 ty 5 i0 (.int .u8 0) 1 1 Try.underlying22 hi hz0 hz1 hz2 rfl (by decide) _ _ _ ha ⟨b, o', none⟩ zs.length c2 (zs.map B) (by simp)
      (by intro j u hu
          rw [Addr.add_lit]
          obtain ⟨x, hx1, rfl⟩ : ∃ x, zs[j]? = some x ∧ B x = u := by simpa using hu
          exact hc j x hx1) (by intro u hu; obtain ⟨x, _, rfl⟩ := List.mem_map.1 hu; rfl) (by unfold maxLen; omega) (by omega) hlo
    obtain ⟨A', c', rfl⟩ := h2.form
    have hL : (ys ++ zs).length = ys.length + zs.length := by simp
    refine ⟨A', c', w', by rw [hL]; exact hr, ?_, below_of_grown h3 hlo (own_block_le ha), kept_of h3, fresh_of h4⟩
    unfold Ob; rw [hL, List.map_append]; exact h2
theorem appF_run (ty : TypeId) (lo : Nat) (A : Option Addr) (c : Nat) (xs : List Fl) (w : World) (y : Fl) (ha : Oe 36 3 flL w lo A c xs) (hl : xs.length ≤ 1099511627776) (hlo : lo ≤ w.heap.size) :
    ∃ A' c' w', (Builtin.append_ #[23, 23] ty #[.slice A xs.length c, .slice (some ⟨w.heap.size, 0, none⟩) 1 1]).run Try.prog (w.alloc (.cells (flL y).toArray 36)) = .ok (.slice A' (xs ++ [y]).length c') w' ∧ Oe 36 3 flL w' lo A' c' (xs ++ [y]) ∧ Below lo w w' ∧ kept A w w' ∧ fresh A A' w.heap.size := by
  obtain ⟨i0, hi, hz0, hz2, hz3⟩ := info_parts info_file
  obtain ⟨v', w', hr, h2, h3, h4⟩ := run_append_ownD (P := Try.prog) (w.alloc (.cells (flL y).toArray 36)) lo 23 ty 36 i0 _ 3 40 Try.underlying23 hi hz0 hz2 hz3 rfl (by decide) _ _ _ (ownsG.alloc ha _) ⟨w.heap.size, 0, none⟩ 1 1 (flL y) rfl
    (by intro j u hu; match j, hu with
        | 0, hu => simp at hu; subst hu; simp [Addr.add]
        | 1, hu => simp at hu; subst hu; simp [Addr.add]
        | 2, hu => simp at hu; subst hu; simp [Addr.add]
        | j + 3, hu => simp at hu) (by simp [Value.oneCell']) (by unfold maxLen; omega) (by omega) (by simp; omega)
  obtain ⟨A', c', rfl⟩ := h2.form
  have hL : (xs ++ [y]).length = xs.length + 1 := by simp
  refine ⟨A', c', w', by rw [hL]; exact hr, ?_, ((Below.refl lo w).alloc hlo _).trans (below_of_grown h3 (by simp; omega) (fun k hk => (ownsG.lt ha k hk).1)), fun b hb hne => (kept_of h3 b (by simp; omega) hne).trans (Below.heap_alloc w _ b hb), fun ad' had => ?_⟩
  · unfold Oe; rw [hL, flat_snoc]; exact h2
  · rcases fresh_of h4 ad' had with h | h
    · exact .inl h
    · exact .inr (by simp at h; omega)
/-- A list of owned files with one more at the end. -/
theorem FsG.push {w w1 w2 w3 : World} {lo c c' cb : Nat} {A A' Ab : Option Addr} {fs : List Fl} {i s : Int} {bs : List UInt8} (h : FsG w lo w.heap.size A c fs) (hb1 : Below w.heap.size w w1) (hb : Ob w2 w1.heap.size Ab cb bs) (hb2 : Below w1.heap.size w1 w2)
    (hf : Oe 36 3 flL w3 lo A' c' (fs ++ [(i, (Ab, cb, bs), s)])) (hk : kept A w2 w3) (hz : w2.heap.size ≤ w3.heap.size) (hfr : fresh A A' w2.heap.size) : FsG w3 lo w3.heap.size A' c' (fs ++ [(i, (Ab, cb, bs), s)]) := by
  have hl := h.le
  have z1 := hb1.size
  have z2 := hb2.size
  obtain ⟨h1, h2, h3, h4⟩ := h
  have h3' : Obs w2 lo w.heap.size (fs.map fb) := h3.below (hb1.trans (hb2.mono z1)) (Nat.le_refl _)
  have iB := hb.inB
  have hA : ∀ ad, A = some ad → ad.block < w.heap.size := fun ad ha => (h2 ad ha).2
  have o1 : Obs w3 lo w.heap.size (fs.map fb) := h3'.keepX fun e he ad had => hk _ (by have := h3'.inB e he ad had; omega) fun ad' ha' => Ne.symm (h4 ad' ha' e he ad had)
  have o2 : Ob w3 w1.heap.size Ab cb bs := hb.keepB fun ad had => hk _ (iB ad had).2 fun ad' ha' => by have := hA ad' ha'; have := (iB ad had).1; omega
  refine ⟨hf, hf.inB, ?_, ?_⟩
  · rw [List.map_append]
    exact (Obs.widen z1 o1).snoc o2 (fun ad had => by have := iB ad had; omega) (by omega)
  · intro ad' ha'
    rw [List.map_append]
    refine apart.app (fun e he ad had => ?_) (fun e he ad had => ?_)
    · rcases hfr ad' ha' with ⟨a0, h5, h6⟩ | h5
      · rw [← h6]; exact h4 a0 h5 e he ad had
      · have := h3'.inB e he ad had; omega
    · simp only [List.map_cons, List.map_nil, List.mem_singleton] at he
      subst he
      have h7 := iB ad had
      rcases hfr ad' ha' with ⟨a0, h5, h6⟩ | h5
      · have := hA a0 h5; omega
      · omega
/-- A copy of a disk. -/
def CpPost (w : World) (r f n : Int) (es : List Fl) (ks : List Lk) (ts : List Tn) (e : Ending) (w' : World) : Prop :=
  ∃ FA fc' fs KA kc TA tc, e = .returned (dkV r f n FA es.length fc' KA ks.length kc TA ts.length tc) ∧ Hid (fs.map fc = es.map fc) ∧ DkG w' w.heap.size w'.heap.size FA fc' fs KA kc ks TA tc ts ∧ Below w.heap.size w w'
end Go.Proofs.Ytndmdhmghjfckaa
