/- What becomes of a disk's copy: its slices, apart from each other. -/
import Derived.Test.YtndmdhmghjfckaaHc
import Derived.Test.YtndmdhmghjfckaaHr
import Derived.Test.YtndmdhmghjfckaaGy
namespace Go.Proofs.Ytndmdhmghjfckaa
open Go.RowKit
set_option linter.unusedVariables false
set_option maxRecDepth 100000

/-- A builtin append whose run is known, as one step. -/
theorem wp_run {ops : Array Oper} {rest : List Oper} {o : Oper} {a : Act} {w w' : World} {Q : Exit → Act → World → Prop} {v : Value} {T : TypeId} (hgd : o.guard = none) (s x : Operand) (ho : o.op = .call { callee := .builtin .append, args := #[s, x], argTypes := #[T, T] })
    {sv xv : Value} (hs : a.eval s = sv) (hx : a.eval x = xv) (hr : (Builtin.append_ #[T, T] o.type #[sv, xv]).run Try.prog w = .ok v w') (h : wpList Try.prog ops Q rest (a.put o.dst v) w') : wpList Try.prog ops Q (o :: rest) a w := by
  refine wpList_plain hgd fun K hK => ?_
  unfold Oper.wp execOp
  simp only [ho, resolve, invoke, builtin, Sem.run_bind, Sem.run_pure, Result.andThen_ok, List.map_toArray, List.map_cons, List.map_nil, hs, hx, hr]
  exact hK _ _ h
theorem appT_run (ty : TypeId) (lo : Nat) (A : Option Addr) (c : Nat) (xs : List Tn) (w : World) (y : Tn) (ha : Oe 66 4 tnL w lo A c xs) (hl : xs.length ≤ 1099511627776) (hlo : lo ≤ w.heap.size) :
    ∃ A' c' w', (Builtin.append_ #[25, 25] ty #[.slice A xs.length c, .slice (some ⟨w.heap.size, 0, none⟩) 1 1]).run Try.prog (w.alloc (.cells (tnL y).toArray 66)) = .ok (.slice A' (xs ++ [y]).length c') w' ∧ Oe 66 4 tnL w' lo A' c' (xs ++ [y]) ∧ Below lo w w' ∧ kept A w w' ∧ fresh A A' w.heap.size := by
  obtain ⟨i0, hi, hz0, hz2, hz3⟩ := info_parts info_turn
  obtain ⟨v', w', hr, h2, h3, h4⟩ := run_append_ownD (P := Try.prog) (w.alloc (.cells (tnL y).toArray 66)) lo 25 ty 66 i0 _ 4 48 Try.underlying25 hi hz0 hz2 hz3 rfl (by decide) _ _ _ (ownsG.alloc ha _) ⟨w.heap.size, 0, none⟩ 1 1 (tnL y) rfl
    (by intro j u hu; match j, hu with
        | 0, hu => simp at hu; subst hu; simp [Addr.add]
        | 1, hu => simp at hu; subst hu; simp [Addr.add]
        | 2, hu => simp at hu; subst hu; simp [Addr.add]
        | 3, hu => simp at hu; subst hu; simp [Addr.add]
        | j + 4, hu => simp at hu) (by simp [Value.oneCell']) (by unfold maxLen; omega) (by omega) (by simp; omega)
  obtain ⟨A', c', rfl⟩ := h2.form
  have hL : (xs ++ [y]).length = xs.length + 1 := by simp
  refine ⟨A', c', w', by rw [hL]; exact hr, ?_, ((Below.refl lo w).alloc hlo _).trans (below_of_grown h3 (by simp; omega) (fun k hk => (ownsG.lt ha k hk).1)), fun b hb hne => (kept_of h3 b (by simp; omega) hne).trans (Below.heap_alloc w _ b hb), fun ad' had => ?_⟩
  · unfold Oe; rw [hL, flat_snoc]; exact h2
  · rcases fresh_of h4 ad' had with h | h
    · exact .inl h
    · exact .inr (by simp at h; omega)
/-- A slice lies neither in block H nor in block J. -/
def Rg (H J : Nat) (A : Option Addr) : Prop := ∀ ad, A = some ad → ad.block ≠ H ∧ ad.block ≠ J
structure Pk (w : World) (lo H J : Nat) (FA : Option Addr) (c1 : Nat) (fs : List Fl) (KA : Option Addr) (c2 : Nat) (ks : List Lk) (TA : Option Addr) (c3 : Nat) (ts : List Tn) : Prop where
  f : Oe 36 3 flL w lo FA c1 fs
  b : ∀ e, e ∈ fs → Ob w lo e.2.1.1 e.2.1.2.1 e.2.1.2.2
  k : Oe 63 2 lkL w lo KA c2 ks
  t : Oe 66 4 tnL w lo TA c3 ts
  rf : Rg H J FA
  rb : ∀ e, e ∈ fs → Rg H J e.2.1.1
  rk : Rg H J KA
  rt : Rg H J TA
  fb : ∀ e, e ∈ fs → Dj FA e.2.1.1
  fk : Dj FA KA
  ft : Dj FA TA
  bk : ∀ e, e ∈ fs → Dj e.2.1.1 KA
  bt : ∀ e, e ∈ fs → Dj e.2.1.1 TA
  kt : Dj KA TA
  bb : ∀ (i j : Nat) (x y : Fl), fs[i]? = some x → fs[j]? = some y → i ≠ j → Dj x.2.1.1 y.2.1.1
theorem Obs.pair {w : World} : ∀ (es : List Sl) (lo hi : Nat), Obs w lo hi es → ∀ (i j : Nat) (x y : Sl), es[i]? = some x → es[j]? = some y → i < j → ∃ m : Nat, (∀ ad : Addr, x.1 = some ad → ad.block < m) ∧ ∀ ad : Addr, y.1 = some ad → m ≤ ad.block
  | [], _, _, _, i, j, x, y, h, _, _ => by simp at h
  | e :: r, lo, hi, ⟨m, h1, h2, h3, h4⟩, i, j, x, y, hx, hy, hij => by
    obtain ⟨j', rfl⟩ : ∃ j', j = j' + 1 := ⟨j - 1, by omega⟩
    rw [List.getElem?_cons_succ] at hy
    cases i with
    | zero =>
      rw [List.getElem?_cons_zero] at hx
      injection hx with hx
      subst hx
      exact ⟨m, fun ad ha => (h3 ad ha).2, fun ad ha => (h4.inB y (List.mem_of_getElem? hy) ad ha).1⟩
    | succ i =>
      rw [List.getElem?_cons_succ] at hx
      exact Obs.pair r m hi h4 i j' x y hx hy (by omega)
theorem Dj.symm {A B : Option Addr} (h : Dj A B) : Dj B A := fun a b ha hb => (h b a hb ha).symm
theorem Obs.ob {w : World} : ∀ (es : List Sl) (lo hi : Nat), Obs w lo hi es → ∀ e, e ∈ es → Ob w lo e.1 e.2.1 e.2.2
  | [], _, _, _, e, h => by simp at h
  | x :: r, lo, hi, ⟨m, h1, h2, h3, h4⟩, e, he => by
    rcases List.mem_cons.1 he with rfl | he
    · exact h2
    · exact ownsG.mono (Obs.ob r m hi h4 e he) h1
section
variable {w w' : World} {lo H J c1 c2 c3 : Nat} {FA KA TA : Option Addr} {fs : List Fl} {ks : List Lk} {ts : List Tn}
theorem Pk.of_dkg {hi : Nat} (h : DkG w lo hi FA c1 fs KA c2 ks TA c3 ts) (hH : hi ≤ H) (hJ : hi ≤ J) : Pk w lo H J FA c1 fs KA c2 ks TA c3 ts := by
  obtain ⟨m, m', ⟨o1, i1, ob, ap⟩, hm, hm', o2, i2, o3, i3⟩ := h
  have hl := ob.le
  have ib : ∀ e, e ∈ fs → InB lo m e.2.1.1 := fun e he => ob.inB (Go.Proofs.Ytndmdhmghjfckaa.fb e) (List.mem_map.2 ⟨e, he, rfl⟩)
  refine ⟨o1, fun e he => Obs.ob _ _ _ ob (Go.Proofs.Ytndmdhmghjfckaa.fb e) (List.mem_map.2 ⟨e, he, rfl⟩), Oe.mono o2 hl, Oe.mono o3 (by omega), ?_, ?_, ?_, ?_, ?_, ?_, ?_, ?_, ?_, ?_, ?_⟩
  · exact fun ad ha => by have := i1 ad ha; omega
  · exact fun e he ad ha => by have := ib e he ad ha; omega
  · exact fun ad ha => by have := i2 ad ha; omega
  · exact fun ad ha => by have := i3 ad ha; omega
  · exact fun e he a b ha hb => (ap a ha (Go.Proofs.Ytndmdhmghjfckaa.fb e) (List.mem_map.2 ⟨e, he, rfl⟩) b hb).symm
  · exact fun a b ha hb => by have := i1 a ha; have := i2 b hb; omega
  · exact fun a b ha hb => by have := i1 a ha; have := i3 b hb; omega
  · exact fun e he a b ha hb => by have := ib e he a ha; have := i2 b hb; omega
  · exact fun e he a b ha hb => by have := ib e he a ha; have := i3 b hb; omega
  · exact fun a b ha hb => by have := i2 a ha; have := i3 b hb; omega
  · intro i j x y hx hy hij a b ha hb
    have hx' : (fs.map Go.Proofs.Ytndmdhmghjfckaa.fb)[i]? = some (Go.Proofs.Ytndmdhmghjfckaa.fb x) := by rw [List.getElem?_map, hx]; rfl
    have hy' : (fs.map Go.Proofs.Ytndmdhmghjfckaa.fb)[j]? = some (Go.Proofs.Ytndmdhmghjfckaa.fb y) := by rw [List.getElem?_map, hy]; rfl
    rcases Nat.lt_or_gt_of_ne hij with h | h
    · obtain ⟨q, q1, q2⟩ := Obs.pair _ _ _ ob i j _ _ hx' hy' h
      have := q1 a ha
      have := q2 b hb
      omega
    · obtain ⟨q, q1, q2⟩ := Obs.pair _ _ _ ob j i _ _ hy' hx' h
      have := q1 b hb
      have := q2 a ha
      omega
theorem Pk.keep (h : Pk w lo H J FA c1 fs KA c2 ks TA c3 ts) (hk : ∀ g, lo ≤ g → g < w.heap.size → g ≠ H → g ≠ J → w'.heap[g]? = w.heap[g]?) : Pk w' lo H J FA c1 fs KA c2 ks TA c3 ts := by
  refine { h with f := ?_, b := ?_, k := ?_, t := ?_ }
  · exact Oe.keepB h.f fun ad ha => hk _ (h.f.inB ad ha).1 (h.f.inB ad ha).2 (h.rf ad ha).1 (h.rf ad ha).2
  · exact fun e he => Ob.keepB (h.b e he) fun ad ha => hk _ ((h.b e he).inB ad ha).1 ((h.b e he).inB ad ha).2 (h.rb e he ad ha).1 (h.rb e he ad ha).2
  · exact Oe.keepB h.k fun ad ha => hk _ (h.k.inB ad ha).1 (h.k.inB ad ha).2 (h.rk ad ha).1 (h.rk ad ha).2
  · exact Oe.keepB h.t fun ad ha => hk _ (h.t.inB ad ha).1 (h.t.inB ad ha).2 (h.rt ad ha).1 (h.rt ad ha).2
theorem Pk.below {B' : Nat} (h : Pk w lo H J FA c1 fs KA c2 ks TA c3 ts) (hb : Below B' w w') (hB : w.heap.size ≤ B') : Pk w' lo H J FA c1 fs KA c2 ks TA c3 ts :=
  h.keep fun g _ h2 _ _ => hb.block g (by omega)
theorem Pk.set (h : Pk w lo H J FA c1 fs KA c2 ks TA c3 ts) {p : Addr} (v : Value) (hp : p.block = H ∨ p.block = J ∨ p.block < lo) : Pk (w.setCell p v) lo H J FA c1 fs KA c2 ks TA c3 ts :=
  h.keep fun g h1 _ h3 h4 => Below.heap_setCell w p v g (by omega)
theorem Pk.alloc (h : Pk w lo H J FA c1 fs KA c2 ks TA c3 ts) (o : Obj) : Pk (w.alloc o) lo H J FA c1 fs KA c2 ks TA c3 ts := h.keep fun g _ h2 _ _ => Below.heap_alloc w o g h2
theorem Pk.dw (h : Pk w lo H J FA c1 fs KA c2 ks TA c3 ts) {lo' : Nat} (hl : lo' ≤ lo) : DkW w lo' w.heap.size FA fs KA ks TA ts := fun w' hk => by
  have hf := Oe.keepB (w' := w') h.f fun ad ha => hk _ (by have := (h.f.inB ad ha).1; omega) (h.f.inB ad ha).2
  refine ⟨⟨hf.sl fl3, fun e he => (Ob.keepB (w' := w') (h.b e he) fun ad ha => hk _ (by have := ((h.b e he).inB ad ha).1; omega) ((h.b e he).inB ad ha).2).by_⟩, ?_, ?_⟩
  · exact (Oe.keepB (w' := w') h.k fun ad ha => hk _ (by have := (h.k.inB ad ha).1; omega) (h.k.inB ad ha).2).sl lk2
  · exact (Oe.keepB (w' := w') h.t fun ad ha => hk _ (by have := (h.t.inB ad ha).1; omega) (h.t.inB ad ha).2).sl tn4
theorem Rg.fresh {A A' : Option Addr} {n : Nat} (h : Rg H J A) (hf : fresh A A' n) (hH : H < n) (hJ : J < n) : Rg H J A' := fun ad ha => by
  rcases hf ad ha with ⟨a0, h1, h2⟩ | h1
  · rw [← h2]; exact h a0 h1
  · omega
theorem Dj.fresh {A A' B : Option Addr} {n : Nat} (h : Dj B A) (hf : fresh A A' n) (hB : ∀ ad, B = some ad → ad.block < n) : Dj B A' := fun a b ha hb => by
  rcases hf b hb with ⟨a0, h1, h2⟩ | h1
  · rw [← h2]; exact h a a0 ha h1
  · have := hB a ha; omega
theorem kept.of {A B : Option Addr} (hk : kept A w w') (h : Dj B A) (hB : ∀ ad, B = some ad → ad.block < w.heap.size) : ∀ ad, B = some ad → w'.heap[ad.block]? = w.heap[ad.block]? := fun ad ha => hk _ (hB ad ha) fun ad' ha' => (h ad ad' ha ha').symm
theorem Pk.turn (h : Pk w lo H J FA c1 fs KA c2 ks TA c3 ts) {TA' : Option Addr} {c' : Nat} {ts' : List Tn} (ho : Oe 66 4 tnL w' lo TA' c' ts') (hk : kept TA w w') (hf : fresh TA TA' w.heap.size) (hH : H < w.heap.size) (hJ : J < w.heap.size) : Pk w' lo H J FA c1 fs KA c2 ks TA' c' ts' := by
  have lf : ∀ ad, FA = some ad → ad.block < w.heap.size := fun ad ha => (h.f.inB ad ha).2
  have lk : ∀ ad, KA = some ad → ad.block < w.heap.size := fun ad ha => (h.k.inB ad ha).2
  have lb : ∀ e, e ∈ fs → ∀ ad, e.2.1.1 = some ad → ad.block < w.heap.size := fun e he ad ha => ((h.b e he).inB ad ha).2
  exact { h with f := Oe.keepB h.f (hk.of h.ft lf), b := fun e he => Ob.keepB (h.b e he) (hk.of (h.bt e he) (lb e he)), k := Oe.keepB h.k (hk.of h.kt lk), t := ho, rt := h.rt.fresh hf hH hJ, ft := h.ft.fresh hf lf, bt := fun e he => (h.bt e he).fresh hf (lb e he), kt := h.kt.fresh hf lk }
theorem Pk.file (h : Pk w lo H J FA c1 fs KA c2 ks TA c3 ts) {FA' : Option Addr} {c' : Nat} {i s : Int} (ho : Oe 36 3 flL w' lo FA' c' (fs ++ [(i, (none, 0, []), s)])) (hk : kept FA w w') (hf : fresh FA FA' w.heap.size) (hH : H < w.heap.size) (hJ : J < w.heap.size) : Pk w' lo H J FA' c' (fs ++ [(i, (none, 0, []), s)]) KA c2 ks TA c3 ts := by
  have lt : ∀ ad, TA = some ad → ad.block < w.heap.size := fun ad ha => (h.t.inB ad ha).2
  have lk : ∀ ad, KA = some ad → ad.block < w.heap.size := fun ad ha => (h.k.inB ad ha).2
  have lb : ∀ e, e ∈ fs → ∀ ad, e.2.1.1 = some ad → ad.block < w.heap.size := fun e he ad ha => ((h.b e he).inB ad ha).2
  have hm : ∀ {P : Option Addr → Prop}, (∀ e, e ∈ fs → P e.2.1.1) → P none → ∀ e, e ∈ fs ++ [(i, (none, 0, []), s)] → P e.2.1.1 := fun h1 h2 e he => by
    rcases List.mem_append.1 he with he | he
    · exact h1 e he
    · rw [List.mem_singleton] at he; rw [he]; exact h2
  have nj : ∀ A : Option Addr, Dj none A := fun A a b ha _ => by cases ha
  refine ⟨ho, ?_, Oe.keepB h.k (hk.of h.fk.symm lk), Oe.keepB h.t (hk.of h.ft.symm lt), h.rf.fresh hf hH hJ, hm h.rb (fun ad ha => by cases ha), h.rk, h.rt,
    hm (P := fun A => Dj FA' A) (fun e he => ((h.fb e he).symm.fresh hf (lb e he)).symm) (nj _).symm, (h.fk.symm.fresh hf lk).symm, (h.ft.symm.fresh hf lt).symm, hm (P := fun A => Dj A KA) h.bk (nj _), hm (P := fun A => Dj A TA) h.bt (nj _), h.kt, ?_⟩
  · intro e he
    rcases List.mem_append.1 he with he | he
    · exact Ob.keepB (h.b e he) (hk.of (h.fb e he).symm (lb e he))
    · rw [List.mem_singleton] at he
      subst he
      exact ownsG_nil _ _ _ _
  · intro a b x y hx hy hab
    rw [List.getElem?_append] at hx hy
    split at hx
    · split at hy
      · exact h.bb a b x y hx hy hab
      · have : y = (i, (none, 0, []), s) := by have := List.mem_of_getElem? hy; simpa using this
        rw [this]
        exact (nj _).symm
    · have : x = (i, (none, 0, []), s) := by have := List.mem_of_getElem? hx; simpa using this
      rw [this]
      exact nj _
theorem Oe.setF {g c : Nat} {l : List Fl} (h1 : Oe 36 3 flL w lo (some ⟨g, 0, none⟩) c l) {j : Nat} (hj : j < l.length) (y : Fl) :
    Oe 36 3 flL (((w.setCell ⟨g, j * 3, none⟩ (.int .i64 y.1)).setCell ⟨g, j * 3 + 1, none⟩ (.slice y.2.1.1 y.2.1.2.2.length y.2.1.2.1)).setCell ⟨g, j * 3 + 2, none⟩ (.int .i64 y.2.2)) lo (some ⟨g, 0, none⟩) c (l.set j y) := by
  obtain ⟨g', hg', hlo, hcm, hcap, hF⟩ := h1.fillC fl3 (by omega)
  injection hg' with hg'
  injection hg' with hg' _ _
  subst hg'
  have hfl := flat_len fl3 l
  have hF1 := hF.setAt (k := j * 3) (by rw [hfl]; omega) (.int .i64 y.1)
  have hF2' := hF1.setAt (k := j * 3 + 1) (by rw [List.length_set, hfl]; omega) (.slice y.2.1.1 y.2.1.2.2.length y.2.1.2.1)
  have hF2 := hF2'.setAt (k := j * 3 + 2) (by rw [List.length_set, List.length_set, hfl]; omega) (.int .i64 y.2.2)
  rw [flat_set3 y l j hj] at hF2
  exact Oe.of_fill fl3 hF2 (by rw [List.length_set]; omega) hlo hcm
/-- A file set: its body may be another one. -/
theorem Pk.setF {g : Nat} (h : Pk w lo H J (some ⟨g, 0, none⟩) c1 fs KA c2 ks TA c3 ts) {j : Nat} (hj : j < fs.length) {x : Fl} (hx : fs[j]? = some x) {A' : Option Addr} {c' : Nat} {us : List UInt8} {i s : Int} (ho : Ob w' lo A' c' us) (hk : kept x.2.1.1 w w') (hf : fresh x.2.1.1 A' w.heap.size) (hH : H < w.heap.size) (hJ : J < w.heap.size) :
    Pk (((w'.setCell ⟨g, j * 3, none⟩ (.int .i64 i)).setCell ⟨g, j * 3 + 1, none⟩ (.slice A' us.length c')).setCell ⟨g, j * 3 + 2, none⟩ (.int .i64 s)) lo H J (some ⟨g, 0, none⟩) c1 (fs.set j (i, (A', c', us), s)) KA c2 ks TA c3 ts := by
  have hxm := List.mem_of_getElem? hx
  have lf : ∀ ad, some (⟨g, 0, none⟩ : Addr) = some ad → ad.block < w.heap.size := fun ad ha => (h.f.inB ad ha).2
  have lt : ∀ ad, TA = some ad → ad.block < w.heap.size := fun ad ha => (h.t.inB ad ha).2
  have lk : ∀ ad, KA = some ad → ad.block < w.heap.size := fun ad ha => (h.k.inB ad ha).2
  have lb : ∀ e, e ∈ fs → ∀ ad, e.2.1.1 = some ad → ad.block < w.heap.size := fun e he ad ha => ((h.b e he).inB ad ha).2
  have f2 : Oe 36 3 flL w' lo (some ⟨g, 0, none⟩) c1 fs := Oe.keepB h.f (hk.of (h.fb x hxm) lf)
  have k2 := Oe.keepB h.k (hk.of (h.bk x hxm).symm lk)
  have t2 := Oe.keepB h.t (hk.of (h.bt x hxm).symm lt)
  have s3 : ∀ {k : Nat}, k ≠ g → (((w'.setCell ⟨g, j * 3, none⟩ (.int .i64 i)).setCell ⟨g, j * 3 + 1, none⟩ (.slice A' us.length c')).setCell ⟨g, j * 3 + 2, none⟩ (.int .i64 s)).heap[k]? = w'.heap[k]? := fun hk => (Below.heap_setCell _ _ _ _ hk).trans ((Below.heap_setCell _ _ _ _ hk).trans (Below.heap_setCell _ _ _ _ hk))
  have fA : Dj (some ⟨g, 0, none⟩) A' := (h.fb x hxm).fresh hf lf
  have hm : ∀ e, e ∈ fs.set j (i, (A', c', us), s) → e = (i, (A', c', us), s) ∨ ∃ m, m ≠ j ∧ fs[m]? = some e := fun e he => by
    obtain ⟨m, hm⟩ := List.mem_iff_getElem?.1 he
    rw [List.getElem?_set] at hm
    split at hm
    · injection hm with hm; exact .inl hm.symm
    · rename_i h1; exact .inr ⟨m, fun e => h1 e.symm, hm⟩
  have hM : ∀ {P : Option Addr → Prop}, (∀ e, e ∈ fs → P e.2.1.1) → P A' → ∀ e, e ∈ fs.set j (i, (A', c', us), s) → P e.2.1.1 := fun h1 h2 e he => by
    rcases hm e he with rfl | ⟨m, _, h3⟩
    · exact h2
    · exact h1 e (List.mem_of_getElem? h3)
  refine ⟨Oe.setF f2 hj (i, (A', c', us), s), ?_, Oe.keepB k2 fun ad ha => s3 fun e => h.fk _ ad rfl ha e.symm, Oe.keepB t2 fun ad ha => s3 fun e => h.ft _ ad rfl ha e.symm, h.rf, hM h.rb ((h.rb x hxm).fresh hf hH hJ), h.rk, h.rt,
    hM (P := fun A => Dj (some ⟨g, 0, none⟩) A) h.fb fA, h.fk, h.ft, hM (P := fun A => Dj A KA) h.bk ((h.bk x hxm).symm.fresh hf lk).symm, hM (P := fun A => Dj A TA) h.bt ((h.bt x hxm).symm.fresh hf lt).symm, h.kt, ?_⟩
  · intro e he
    rcases hm e he with rfl | ⟨m, hmj, h3⟩
    · exact Ob.keepB ho fun ad ha => s3 fun e => fA _ ad rfl ha e.symm
    · have h4 := List.mem_of_getElem? h3
      exact Ob.keepB (Ob.keepB (h.b e h4) (hk.of (h.bb m j e x h3 hx hmj) (lb e h4))) fun ad ha => s3 fun e' => h.fb e h4 _ ad rfl ha e'.symm
  · intro a b p q hp hq hab
    rw [List.getElem?_set] at hp hq
    split at hp
    · rename_i h0
      injection hp with hp
      subst hp
      split at hq
      · omega
      · rename_i h2
        exact ((h.bb b j q x hq hx (fun e => h2 e.symm)).fresh hf (lb q (List.mem_of_getElem? hq))).symm
    · rename_i h1
      split at hq
      · injection hq with hq
        subst hq
        exact (h.bb a j p x hp hx (fun e => h1 e.symm)).fresh hf (lb p (List.mem_of_getElem? hp))
      · exact h.bb a b p q hp hq hab
end
end Go.Proofs.Ytndmdhmghjfckaa
