/- Slices of bytes: copying, comparing, marking, holding: the helpers of the laws. -/
import Derived.Test.YtndmdhmghjfckaaRows
import Derived.Test.YtndmdhmghjfckaaOwn
import Derived.WalkKit
import Derived.Handy
import Derived.Lib.Hide
import Derived.WalkSpells
import Derived.WalkLawsBesides
import Derived.BigQuiet
import Derived.Deep.QuietTactic
namespace Go.Proofs.Ytndmdhmghjfckaa
open Go.RowKit
set_option linter.unusedVariables false
set_option maxRecDepth 100000

theorem info_u8 : (Try.prog.info? 5).map (fun i => (i.zero, i.size, i.bytes)) = some (some (.int .u8 0), 1, 1) := by kernel_rfl
theorem cellsU8 : Try.prog.cellsOf 5 = 1 := by kernel_rfl

/-- A byte as a cell. -/
abbrev B (x : UInt8) : Value := .int .u8 (x.toNat : Int)
/-- A slice that begins at A reads as these bytes. -/
def By (w : World) (A : Option Addr) (bs : List UInt8) : Prop :=
  bs = [] ∨ ∃ b o, A = some ⟨b, o, none⟩ ∧ ∀ i x, bs[i]? = some x → w.cell? ⟨b, o + i, none⟩ = some (B x)
theorem By.pos {w : World} {A : Option Addr} {bs : List UInt8} (h : By w A bs) (hn : 0 < bs.length) : ∃ b o, A = some ⟨b, o, none⟩ ∧ ∀ i x, bs[i]? = some x → w.cell? ⟨b, o + i, none⟩ = some (B x) := by
  rcases h with rfl | h
  · simp at hn
  · exact h
theorem By.below {w w' : World} {A : Option Addr} {bs : List UInt8} (h : By w A bs) (hb : Below w.heap.size w w') : By w' A bs := by
  rcases h with h | ⟨b, o, hA, h⟩
  · exact .inl h
  · exact .inr ⟨b, o, hA, fun i x hi => (hb.cell (World.block_lt_of_cell? w _ (h i x hi))).trans (h i x hi)⟩
theorem By.drewN {w : World} {A : Option Addr} {bs : List UInt8} (h : By w A bs) (m : Nat) : By (w.drewN m) A bs := h
/-- A slice that owns its block, from block lo on. -/
def Ob (w : World) (lo : Nat) (A : Option Addr) (c : Nat) (bs : List UInt8) : Prop := ownsG w lo 5 1 (.slice A bs.length c) bs.length (bs.map B)
theorem Ob.by_ {w : World} {lo c : Nat} {A : Option Addr} {bs : List UInt8} (h : Ob w lo A c bs) : By w A bs := by
  rcases h.2 with ⟨h1, h2⟩ | ⟨g, cap, cur, fz, hv, _⟩
  · exact .inl (List.eq_nil_of_length_eq_zero h2)
  · injection hv with hv _ _
    exact .inr ⟨g, 0, hv, fun i x hi => by rw [Nat.zero_add]; exact h.cells (g := g) (by rw [hv]; rfl) i _ (by simp [hi])⟩
theorem Ob.below {w w' : World} {lo B' c : Nat} {A : Option Addr} {bs : List UInt8} (h : Ob w lo A c bs) (hb : Below B' w w') (hB : w.heap.size ≤ B') : Ob w' lo A c bs :=
  ownsG.below h hb fun k hk => Nat.lt_of_lt_of_le (h.lt k hk).2 hB
theorem Ob.alloc {w : World} {lo c : Nat} {A : Option Addr} {bs : List UInt8} (h : Ob w lo A c bs) (o : Obj) : Ob (w.alloc o) lo A c bs := ownsG.alloc h o
theorem Ob.drewN {w : World} {lo c : Nat} {A : Option Addr} {bs : List UInt8} (h : Ob w lo A c bs) (m : Nat) : Ob (w.drewN m) lo A c bs := h
theorem take_succ_get {T : Type} {l : List T} {k : Nat} {x : T} (h : l[k]? = some x) : l.take (k + 1) = l.take k ++ [x] := by
  obtain ⟨hk, rfl⟩ := List.getElem?_eq_some_iff.1 h
  rw [List.take_succ_eq_append_getElem hk]
theorem u8_lt (x : UInt8) : (x.toNat : Int) < 256 := by have := x.toNat_lt; omega

/-- The bytes that marking writes. -/
def markL (k : Int) (n : Nat) : List UInt8 := (List.range n).map fun (i : Nat) => UInt8.ofNat ((k + (i : Int)) % 256).toNat
theorem markL_len (k : Int) (n : Nat) : (markL k n).length = n := by simp [markL]
theorem markL_get {k : Int} {n i : Nat} (h : i < n) : (markL k n)[i]? = some (UInt8.ofNat ((k + (i : Int)) % 256).toNat) := by simp [markL, h]
theorem mark_byte (z : Int) : (((UInt8.ofNat (z % 256).toNat).toNat : Nat) : Int) = z % 256 := by
  have h : (z % 256).toNat < 256 := by omega
  rw [UInt8.toNat_ofNat', Nat.mod_eq_of_lt h]
  omega

/-- A block of the call's own that is being filled: its first cells are done. -/
def Fill (w : World) (g : Nat) (t : TypeId) (N : Nat) (done : List Value) : Prop :=
  ∃ (cur : Array Value) (fz : Nat × Nat), w.heap[g]? = some (.cells cur t fz) ∧ (fz = (0, 0) ∨ cur.size ≤ fz.1) ∧ cur.size = N ∧ cur.toList.take done.length = done ∧ done.length ≤ N
theorem Fill.frozen {w : World} {g N : Nat} {t : TypeId} {done : List Value} (h : Fill w g t N done) (i : Nat) (hi : i < N) : w.frozen? ⟨g, i, none⟩ = false := by
  obtain ⟨cur, fz, h1, hz, h2, _⟩ := h
  rcases hz with rfl | hz
  · simp [World.frozen?, h1]
  · simp [World.frozen?, h1]; omega
theorem Fill.cell {w : World} {g N : Nat} {t : TypeId} {done : List Value} (h : Fill w g t N done) (i : Nat) (hi : i < N) : ∃ u, w.cell? ⟨g, i, none⟩ = some u := by
  obtain ⟨cur, fz, h1, hz, h2, _⟩ := h
  exact ⟨cur[i]'(by omega), by rw [cell_of_row w g i cur t fz h1]; exact Array.getElem?_eq_getElem _⟩
theorem Fill.lt {w : World} {g N : Nat} {t : TypeId} {done : List Value} (h : Fill w g t N done) : g < w.heap.size := by
  obtain ⟨cur, fz, h1, _⟩ := h
  exact (Array.getElem?_eq_some_iff.1 h1).1
theorem Fill.step {w : World} {g N : Nat} {t : TypeId} {done : List Value} (h : Fill w g t N done) {k : Nat} (hk : k = done.length) (hlt : k < N) (u : Value) : Fill (w.setCell ⟨g, k, none⟩ u) g t N (done ++ [u]) := by
  subst hk
  obtain ⟨cur, fz, h1, hz, h2, h3, h4⟩ := h
  refine ⟨cur.setIfInBounds done.length u, fz, heap_setCell_same u h1, by simpa using hz, by simpa using h2, ?_, by simp; omega⟩
  rw [Array.toList_setIfInBounds, List.length_append, List.length_singleton, List.take_set, List.take_succ_eq_append_getElem (by simp; omega), h3, List.set_append_right _ _ (Nat.le_refl _)]
  simp
theorem Fill.start {w : World} {g N : Nat} {t : TypeId} {cur : Array Value} {fz : Nat × Nat} (h : w.heap[g]? = some (.cells cur t fz)) (hz : fz = (0, 0) ∨ cur.size ≤ fz.1) (hN : cur.size = N) : Fill w g t N [] := ⟨cur, fz, h, hz, hN, by simp, by simp⟩
theorem Fill.keep {w w' : World} {g N : Nat} {t : TypeId} {done : List Value} (h : Fill w g t N done) (hg : w'.heap[g]? = w.heap[g]?) : Fill w' g t N done := by
  obtain ⟨cur, fz, h1, h2⟩ := h
  exact ⟨cur, fz, hg.trans h1, h2⟩
theorem Ob.of_fill {w : World} {lo g c : Nat} {xs : List UInt8} (h : Fill w g 5 c (xs.map B)) (hlo : lo ≤ g) (hm : c ≤ maxLen) : Ob w lo (some ⟨g, 0, none⟩) c xs := by
  obtain ⟨cur, fz, h1, hz, h2, h3, h4⟩ := h
  exact ⟨by simp, .inr ⟨g, c, cur, fz, rfl, hlo, h1, hz, by simpa using h4, hm, by omega, by simpa using h3⟩⟩
theorem Ob.fill {w : World} {lo c : Nat} {A : Option Addr} {xs : List UInt8} (h : Ob w lo A c xs) (hx : 0 < xs.length) : ∃ g, A = some ⟨g, 0, none⟩ ∧ lo ≤ g ∧ c ≤ maxLen ∧ xs.length ≤ c ∧ Fill w g 5 c [] := by
  rcases h.2 with ⟨h1, h2⟩ | ⟨g, cap, cur, fz, hv, hg, hh, hz, hc1, hc2, hc3, ht⟩
  · omega
  · injection hv with hv _ hv3
    subst hv3
    exact ⟨g, hv, hg, hc2, hc1, Fill.start hh hz (by omega)⟩
theorem grown_set {w wr : World} {g j : Nat} (h : w.grownBy wr (some g)) (u : Value) : w.grownBy (wr.setCell ⟨g, j, none⟩ u) (some g) :=
  ⟨h.os, h.tape, h.output, by simpa using h.size, fun i hi hne => (Below.heap_setCell wr _ u i (by rintro rfl; exact hne rfl)).trans (h.block i hi hne)⟩
/-- What a slice of bytes among a law's arguments reads as. -/
theorem rd_bytes {w : World} {A : Option Addr} {n c : Nat} (h : Rd Try.prog w 22 [.slice A n c]) : ∃ bs : List UInt8, n = bs.length ∧ By w A bs ∧ bs.length ≤ maxLen := by
  obtain ⟨A', c', xs, h1, h2, _, h4⟩ := Rd.list (size := 1) (enc := fun x : UInt8 => [B x]) (G := fun _ => True) Try.underlying22 cellsU8 (by decide) (by
    intro es hes
    obtain ⟨n, rfl, hwf⟩ := hes.int Try.underlying5
    simp [Lit.wf, IntKind.min, IntKind.max, IntKind.signed, IntKind.bits] at hwf
    refine ⟨UInt8.ofNat n.toNat, ?_, trivial⟩
    show [Value.int .u8 n] = [Value.int .u8 _]
    rw [UInt8.toNat_ofNat', Nat.mod_eq_of_lt (by omega)]
    congr 2
    omega) h
  injection h1 with h1 _
  injection h1 with h1 h1' h1''
  subst h1 h1' h1''
  refine ⟨xs, rfl, ?_, h2⟩
  rcases h4 with h | ⟨b, o, hA, h⟩
  · exact .inl h
  · exact .inr ⟨b, o, hA, fun i x hi => by have := h i x hi 0 (B x) rfl; simpa using this⟩
theorem By.lt_ {w : World} {A : Option Addr} {bs : List UInt8} (h : By w A bs) : ∀ ad, A = some ad → bs ≠ [] → ad.block < w.heap.size := by
  intro ad hA hne
  rcases h with h | ⟨b, o, hA', h⟩
  · exact absurd h hne
  · rw [hA] at hA'
    injection hA' with hA'
    subst hA'
    cases bs with
    | nil => exact absurd rfl hne
    | cons x bs => exact World.block_lt_of_cell? w _ (h 0 x rfl)
/-- Where a slice lies. -/
def InB (lo hi : Nat) (A : Option Addr) : Prop := ∀ ad, A = some ad → lo ≤ ad.block ∧ ad.block < hi
theorem Ob.inB {w : World} {lo c : Nat} {A : Option Addr} {bs : List UInt8} (h : Ob w lo A c bs) : InB lo w.heap.size A := by
  rintro ad rfl
  exact h.lt ad.block rfl
theorem By.grown {w w' : World} {A A' : Option Addr} {n c lo hi : Nat} {bs : List UInt8} (h : By w A bs) (hg : w.grownBy w' (Value.slice A' n c).ownBlock) (h' : InB lo hi A') (hne : ∀ ad, A = some ad → bs ≠ [] → ad.block < lo ∨ hi ≤ ad.block) : By w' A bs := by
  rcases h with h | ⟨b, o, hA, h⟩
  · exact .inl h
  · refine .inr ⟨b, o, hA, fun i x hix => ?_⟩
    have hc := h i x hix
    refine hg.cell hc ?_
    intro he
    cases A' with
    | none => simp [Value.ownBlock] at he
    | some ad =>
      have h2 := h' ad rfl
      have h3 : b < lo ∨ hi ≤ b := hne _ hA (by rintro rfl; simp at hix)
      simp [Value.ownBlock] at he
      omega
theorem Ob.grown {w w' : World} {A A' : Option Addr} {n c c' lo hi lo' hi' : Nat} {bs : List UInt8} (h : Ob w lo' A c' bs) (hg : w.grownBy w' (Value.slice A' n c).ownBlock) (h' : InB lo hi A') (hA : InB lo' hi' A) (hne : hi' ≤ lo ∨ hi ≤ lo') : Ob w' lo' A c' bs := by
  refine ownsG.kept h hg ?_
  cases A with
  | none => exact .inl rfl
  | some ad =>
    refine .inr ?_
    have h1 := hA ad rfl
    cases A' with
    | none => simp [Value.ownBlock]
    | some ad' =>
      have h2 := h' ad' rfl
      simp [Value.ownBlock]
      omega
theorem below_grown {lo hi B' n c : Nat} {a w w' : World} {A : Option Addr} (h : Below B' a w) (hg : w.grownBy w' (Value.slice A n c).ownBlock) (hA : InB lo hi A) (hB : B' ≤ lo) (hw : B' ≤ w.heap.size) : Below B' a w' :=
  h.grown hg hw (by
    intro k hk
    cases A with
    | none => simp [Value.ownBlock] at hk
    | some ad =>
      have := hA ad rfl
      simp [Value.ownBlock] at hk
      omega)

section
variable {ops : Array Oper} {rest : List Oper} {o : Oper} {a : Act} {Q : Exit → Act → World → Prop}
theorem own_block_le {lo n c : Nat} {A : Option Addr} {w : World} {xs : List UInt8} (h : Ob w lo A c xs) : ∀ k, (Value.slice A n c).ownBlock = some k → lo ≤ k := by
  intro k hk
  cases A with
  | none => simp [Value.ownBlock] at hk
  | some ad => exact (h.lt k (by simpa [Value.ownBlock] using hk)).1
/-- append(b, y), y one byte, onto a slice of the call's own: the walk goes on with the longer slice. -/
theorem wp_app1 (hgd : o.guard = none) (s x : Operand) (ho : o.op = .call { callee := .builtin .append, args := #[s, x], argTypes := #[22, 22] })
    (lo : Nat) (A : Option Addr) (c : Nat) (ys : List UInt8) (w : World) (z : Int) (y : UInt8) (ha : Ob w lo A c ys) (hs : a.eval s = .slice A ys.length c) (hz : z = (y.toNat : Int))
    (hx : a.eval x = .slice (some ⟨w.heap.size, 0, none⟩) 1 1) (hl : ys.length ≤ 1099511627776) (hlo : lo ≤ w.heap.size)
    (h : ∀ A' c' w' us, Hid (us = ys ++ [y]) → Ob w' lo A' c' us → Below lo w w' → wpList Try.prog ops Q rest (a.put o.dst (.slice A' us.length c')) w') :
    wpList Try.prog ops Q (o :: rest) a (w.alloc (.cells #[.int .u8 z] 5)) := by
  obtain ⟨i0, hi, hz0, hz1, hz2⟩ := info_parts info_u8
  subst hz
  refine wpList_plain hgd fun K hK => ?_
  obtain ⟨v', w', hr, h2, h3⟩ := run_append_ownG (P := Try.prog) (w.alloc (.cells #[B y] 5)) lo 22 o.type 5 i0 (.int .u8 0) 1 1 Try.underlying22 hi hz0 hz1 hz2 rfl (by decide) _ _ _ (Ob.alloc ha _) ⟨w.heap.size, 0, none⟩ 1 1 [B y] rfl
    (by intro j u hu; cases j with
        | zero => simp at hu; subst hu; simp [Addr.add]
        | succ j => simp at hu) (by simp [B, Value.oneCell']) (by unfold maxLen; omega) (by omega) (by simp; omega)
  obtain ⟨A', c', rfl⟩ := h2.form
  unfold Oper.wp execOp
  simp only [ho, resolve, invoke, builtin, Sem.run_bind, Sem.run_pure, Result.andThen_ok, List.map_toArray, List.map_cons, List.map_nil, hs, hx, hr]
  refine hK _ _ ?_
  have hL : (ys ++ [y]).length = ys.length + 1 := by simp
  have hob : Ob w' lo A' c' (ys ++ [y]) := by
    unfold Ob; rw [hL, List.map_append]; exact h2
  have := h A' c' w' _ (Lib.hid rfl) hob (((Below.refl lo w).alloc hlo _).trans (below_of_grown h3 (by simp; omega) (own_block_le ha)))
  rw [hL] at this
  exact this
/-- append(b, src...), src a slice that reads as these bytes. -/
theorem wp_appN (hgd : o.guard = none) (s x : Operand) (ho : o.op = .call { callee := .builtin .append, args := #[s, x], argTypes := #[22, 22] })
    (lo : Nat) (A : Option Addr) (c : Nat) (ys : List UInt8) (w : World) (A2 : Option Addr) (c2 : Nat) (zs : List UInt8) (ha : Ob w lo A c ys) (hz : By w A2 zs) (hs : a.eval s = .slice A ys.length c)
    (hx : a.eval x = .slice A2 zs.length c2) (hl : ys.length ≤ 1099511627776) (hl2 : zs.length ≤ 1099511627776) (hlo : lo ≤ w.heap.size)
    (h : ∀ A' c' w' us, Hid (us = ys ++ zs) → Ob w' lo A' c' us → Below lo w w' → wpList Try.prog ops Q rest (a.put o.dst (.slice A' us.length c')) w') :
    wpList Try.prog ops Q (o :: rest) a w := by
  obtain ⟨i0, hi, hz0, hz1, hz2⟩ := info_parts info_u8
  refine wpList_plain hgd fun K hK => ?_
  by_cases h0 : zs.length = 0
  · have hn : zs = [] := List.eq_nil_of_length_eq_zero h0
    subst hn
    have hr : (Builtin.append_ #[22, 22] o.type #[.slice A ys.length c, .slice A2 0 c2]).run Try.prog w = .ok (.slice A ys.length c) w := by
      rcases ha.2 with ⟨hv, hn⟩ | ⟨g, cap, cur, fz, hv, _, _, _, hnc, _⟩
      · injection hv with hv _ hc
        subst hv hc
        rw [hn]
        cases A2 <;> simp [Builtin.append_, run_underlying Try.underlying22, sizeOf, typeInfo, hi, Builtin.lenOf, Builtin.firstCells, loadCells, loadCellsFrom]
      · injection hv with hv _ hc
        subst hv hc
        cases A2 <;> simp [Builtin.append_, run_underlying Try.underlying22, sizeOf, typeInfo, hi, Builtin.lenOf, Builtin.firstCells, loadCells, loadCellsFrom, hnc, storeCells]
    unfold Oper.wp execOp
    simp only [List.length_nil] at hx
    simp only [ho, resolve, invoke, builtin, Sem.run_bind, Sem.run_pure, Result.andThen_ok, List.map_toArray, List.map_cons, List.map_nil, hs, hx, hr]
    have := h A c w ys (Lib.hid (by simp)) ha (Below.refl _ _)
    exact hK _ _ this
  · obtain ⟨b, o', rfl, hc⟩ := hz.pos (by omega)
    obtain ⟨v', w', hr, h2, h3⟩ := run_append_ownG (P := Try.prog) w lo 22 o.type 5 i0 (.int .u8 0) 1 1 Try.underlying22 hi hz0 hz1 hz2 rfl (by decide) _ _ _ ha ⟨b, o', none⟩ zs.length c2 (zs.map B) (by simp)
      (by intro j u hu
          rw [Addr.add_lit]
          obtain ⟨x, hx1, rfl⟩ : ∃ x, zs[j]? = some x ∧ B x = u := by simpa using hu
          exact hc j x hx1) (by intro u hu; obtain ⟨x, _, rfl⟩ := List.mem_map.1 hu; rfl) (by unfold maxLen; omega) (by omega) hlo
    obtain ⟨A', c', rfl⟩ := h2.form
    unfold Oper.wp execOp
    simp only [ho, resolve, invoke, builtin, Sem.run_bind, Sem.run_pure, Result.andThen_ok, List.map_toArray, List.map_cons, List.map_nil, hs, hx, hr]
    refine hK _ _ ?_
    have hL : (ys ++ zs).length = ys.length + zs.length := by simp
    have hob : Ob w' lo A' c' (ys ++ zs) := by
      unfold Ob; rw [hL, List.map_append]; exact h2
    have := h A' c' w' _ (Lib.hid rfl) hob (below_of_grown h3 hlo (own_block_le ha))
    rw [hL] at this
    exact this
end
theorem Ob.le_cap {w : World} {lo c : Nat} {A : Option Addr} {bs : List UInt8} (h : Ob w lo A c bs) : bs.length ≤ c := by
  rcases h.2 with ⟨hv, hn⟩ | ⟨g, cap, cur, fz, hv, _, _, _, hnc, _⟩
  · omega
  · injection hv with _ _ hv3
    omega
theorem By.cut {w : World} {A : Option Addr} {bs : List UInt8} {c l h : Nat} (hb : By w A bs) (h1 : l ≤ h) (h2 : h ≤ bs.length) (hc : bs.length ≤ c) :
    By w (if c = l then A else A.map (·.add (l * 1))) ((bs.drop l).take (h - l)) := by
  by_cases h0 : h = l
  · left; simp [h0]
  · obtain ⟨b, o, rfl, hx⟩ := hb.pos (by omega)
    right
    rw [if_neg (by omega)]
    refine ⟨b, o + l, by simp [Addr.add_lit], fun i x hi => ?_⟩
    rw [List.getElem?_take] at hi
    split at hi
    · rw [List.getElem?_drop] at hi
      rw [Nat.add_assoc]
      exact hx _ x hi
    · cases hi
theorem elemBytes : Try.prog.elem 22 = 5 := by kernel_rfl
theorem size_u8 (w : World) : (sizeOf 5).run Try.prog w = .ok 1 w := by kernel_rfl
section
variable {ops : Array Oper} {rest : List Oper} {o : Oper} {a : Act} {Q : Exit → Act → World → Prop}
/-- x[lo:hi] of a slice of bytes. -/
theorem wp_slice_lh (hgd : o.guard = none) (x lo hi : Operand) (hop : o.op = .slice 22 x (some lo) (some hi) none) (A : Option Addr) (c : Nat) (xs : List UInt8) (w : World) (hA : By w A xs) (hc : xs.length ≤ c)
    (hx : a.eval x = .slice A xs.length c) (k k' : IntKind) (L H : Int) (hl : a.eval lo = .int k L) (hh : a.eval hi = .int k' H) (l h : Nat) (eL : L = (l : Int)) (eH : H = (h : Int)) (h1 : l ≤ h) (h2 : h ≤ xs.length)
    (hK : ∀ A' c' us, Hid (us = (xs.drop l).take (h - l)) → By w A' us → us.length ≤ c' → wpList Try.prog ops Q rest (a.put o.dst (.slice A' us.length c')) w) : wpList Try.prog ops Q (o :: rest) a w := by
  refine wpList_plain hgd fun K hK' => ?_
  subst eL eH
  have hr := run_slice_lh (P := Try.prog) (w := w) (t := 22) (ht := elemBytes ▸ Try.underlying22) (a := A) (len := xs.length) (cap := c) k k' l h (by omega) (by omega) (by omega)
  rw [← run_sliceAt_slice (P := Try.prog) (w := w) 22 _ _ _ _ (elemBytes ▸ Try.underlying22), elemBytes, size_u8] at hr
  simp only [Result.andThen, sliced, Int.toNat_natCast] at hr
  have hL : ((xs.drop l).take (h - l)).length = h - l := by simp; omega
  have := hK _ (c - l) _ (Lib.hid rfl) (hA.cut h1 h2 hc) (by rw [hL]; omega)
  rw [hL] at this
  unfold Oper.wp
  simp only [execOp, hop, hx, hl, hh, Option.map_some, Option.map_none, hr, Sem.run_bind, Result.andThen]
  exact hK' _ _ this
/-- x[lo:] of a slice of bytes. -/
theorem wp_slice_l (hgd : o.guard = none) (x lo : Operand) (hop : o.op = .slice 22 x (some lo) none none) (A : Option Addr) (c : Nat) (xs : List UInt8) (w : World) (hA : By w A xs) (hc : xs.length ≤ c)
    (hx : a.eval x = .slice A xs.length c) (k : IntKind) (L : Int) (hl : a.eval lo = .int k L) (l : Nat) (eL : L = (l : Int)) (h1 : l ≤ xs.length)
    (hK : ∀ A' c' us, Hid (us = xs.drop l) → By w A' us → us.length ≤ c' → wpList Try.prog ops Q rest (a.put o.dst (.slice A' us.length c')) w) : wpList Try.prog ops Q (o :: rest) a w := by
  refine wpList_plain hgd fun K hK' => ?_
  subst eL
  have hr := run_slice_l (P := Try.prog) (w := w) (t := 22) (ht := elemBytes ▸ Try.underlying22) (a := A) (len := xs.length) (cap := c) k l (by omega) (by omega)
  rw [← run_sliceAt_slice (P := Try.prog) (w := w) 22 _ _ _ _ (elemBytes ▸ Try.underlying22), elemBytes, size_u8] at hr
  simp only [Result.andThen, sliced, Int.toNat_natCast] at hr
  have hL : (xs.drop l).length = xs.length - l := by simp
  have hcut := hA.cut h1 (Nat.le_refl _) hc
  rw [List.take_of_length_le (by simp)] at hcut
  have := hK _ (c - l) _ (Lib.hid rfl) hcut (by rw [hL]; omega)
  rw [hL] at this
  unfold Oper.wp
  simp only [execOp, hop, hx, hl, Option.map_some, Option.map_none, hr, Sem.run_bind, Result.andThen]
  exact hK' _ _ this
/-- x[:hi] of a slice of bytes. -/
theorem wp_slice_h (hgd : o.guard = none) (x hi : Operand) (hop : o.op = .slice 22 x none (some hi) none) (A : Option Addr) (c : Nat) (xs : List UInt8) (w : World) (hA : By w A xs) (hc : xs.length ≤ c)
    (hx : a.eval x = .slice A xs.length c) (k : IntKind) (H : Int) (hh : a.eval hi = .int k H) (h : Nat) (eH : H = (h : Int)) (h2 : h ≤ xs.length)
    (hK : ∀ A' c' us, Hid (us = xs.take h) → By w A' us → us.length ≤ c' → wpList Try.prog ops Q rest (a.put o.dst (.slice A' us.length c')) w) : wpList Try.prog ops Q (o :: rest) a w := by
  refine wpList_plain hgd fun K hK' => ?_
  subst eH
  have hr := run_slice_h (P := Try.prog) (w := w) (t := 22) (ht := elemBytes ▸ Try.underlying22) (a := A) (len := xs.length) (cap := c) k h (by omega) (by omega)
  rw [← run_sliceAt_slice (P := Try.prog) (w := w) 22 _ _ _ _ (elemBytes ▸ Try.underlying22), elemBytes, size_u8] at hr
  simp only [Result.andThen, sliced, Int.toNat_natCast] at hr
  have hL : (xs.take h).length = h := by simp; omega
  have hcut := hA.cut (Nat.zero_le h) h2 hc
  simp only [List.drop_zero, Nat.sub_zero] at hcut
  have := hK _ c _ (Lib.hid rfl) hcut (by rw [hL]; omega)
  rw [hL] at this
  unfold Oper.wp
  simp only [execOp, hop, hx, hh, Option.map_some, Option.map_none, hr, Sem.run_bind, Result.andThen]
  exact hK' _ _ this
end
theorem str_len (t : ByteArray) : t.data.toList.length = t.size := Array.length_toList
section
variable {ops : Array Oper} {rest : List Oper} {o : Oper} {a : Act} {Q : Exit → Act → World → Prop}
/-- append(b, s...), s a string. -/
theorem wp_appS (hgd : o.guard = none) (s x : Operand) (ho : o.op = .call { callee := .builtin .append, args := #[s, x], argTypes := #[22, 9] })
    (lo : Nat) (A : Option Addr) (c : Nat) (ys : List UInt8) (w : World) (t : ByteArray) (ha : Ob w lo A c ys) (hs : a.eval s = .slice A ys.length c)
    (hx : a.eval x = .string t) (hl : ys.length ≤ 1099511627776) (hl2 : t.size ≤ 1099511627776) (hlo : lo ≤ w.heap.size)
    (h : ∀ A' c' w' us, Hid (us = ys ++ t.data.toList) → Ob w' lo A' c' us → Below lo w w' → wpList Try.prog ops Q rest (a.put o.dst (.slice A' us.length c')) w') :
    wpList Try.prog ops Q (o :: rest) a w := by
  obtain ⟨i0, hi, hz0, hz1, hz2⟩ := info_parts info_u8
  refine wpList_plain hgd fun K hK => ?_
  obtain ⟨v', w', hr, h2, h3⟩ := run_append_own_stringG (P := Try.prog) w lo 22 9 o.type 5 i0 Try.underlying22 Try.underlying9 hi hz0 hz1 hz2 _ _ _ ha t (by unfold maxLen; omega) (by omega) hlo
  obtain ⟨A', c', rfl⟩ := h2.form
  unfold Oper.wp execOp
  simp only [ho, resolve, invoke, builtin, Sem.run_bind, Sem.run_pure, Result.andThen_ok, List.map_toArray, List.map_cons, List.map_nil, hs, hx, hr]
  refine hK _ _ ?_
  have hL : (ys ++ t.data.toList).length = ys.length + t.size := by rw [List.length_append, str_len]
  have hob : Ob w' lo A' c' (ys ++ t.data.toList) := by
    unfold Ob; rw [hL, List.map_append]
    have e : Lib.strCells t = t.data.toList.map B := by simp [Lib.strCells]
    rw [← e]; exact h2
  have := h A' c' w' _ (Lib.hid rfl) hob (below_of_grown h3 hlo (own_block_le ha))
  rw [hL] at this
  exact this
end
/-- The text of some bytes. -/
def bstr (bs : List UInt8) : ByteArray := ⟨bs.toArray⟩
theorem bstr_size (bs : List UInt8) : (bstr bs).size = bs.length := by simp [bstr, ByteArray.size]
theorem conv_by {w : World} {A : Option Addr} {c : Nat} {xs : List UInt8} (h : By w A xs) : (convert 22 9 (.slice A xs.length c)).run Try.prog w = .ok (.string (bstr xs)) w := by
  by_cases h0 : A = none
  · subst h0
    have : xs = [] := by
      rcases h with h | ⟨b, o, h, _⟩
      · exact h
      · cases h
    subst this
    exact run_convert_bytes_nil (P := Try.prog) w 22 5 Try.underlying22 Try.underlying5 _ _ 9 Try.underlying9
  · obtain ⟨ad, hA⟩ := Option.ne_none_iff_exists'.1 h0
    subst hA
    by_cases hx : xs = []
    · subst hx
      rw [run_convert_bytes_string w 22 9 5 _ _ c Try.underlying22 Try.underlying5 Try.underlying9]
      have := run_bytesToString (P := Try.prog) w ad 0 c [] (by simp [loadCells, loadCellsFrom])
      exact this
    · obtain ⟨b, o, hA, hc⟩ := h.pos (List.length_pos_iff.2 hx)
      injection hA with hA
      subst hA
      have := run_convert_bytes_arg (P := Try.prog) w 22 5 Try.underlying22 Try.underlying5 b o xs.length c (xs.map fun x => (x.toNat : Int)) (by simp) (fun i hi => by
        rw [hc i _ (List.getElem?_eq_getElem hi)]
        simp [List.getD, hi]) 9 Try.underlying9
      rw [this]
      congr 2
      simp [strOfNums, bstr]
      apply List.ext_getElem (by simp)
      intro i h1 h2
      simp
/-- x[l:h] of a slice of bytes, as an equation on its run in every world: for a region that draws its order. -/
theorem slice_lh_run (A : Option Addr) (c l h : Nat) (xs : List UInt8) (k k' : IntKind) (h1 : l ≤ h) (h2 : h ≤ xs.length) (hc : xs.length ≤ c) :
    ∃ A2 c2 us, Hid (us = (xs.drop l).take (h - l)) ∧ us.length ≤ c2 ∧ (∀ w, By w A xs → By w A2 us) ∧
      ∀ w : World, (Instr.sliceAt 22 (.slice A xs.length c) (some (.int k (l : Int))) (some (.int k' (h : Int))) none).run Try.prog w = .ok (.slice A2 us.length c2) w := by
  have hL : ((xs.drop l).take (h - l)).length = h - l := by simp; omega
  refine ⟨_, c - l, _, Lib.hid rfl, by rw [hL]; omega, fun w hA => hA.cut h1 h2 hc, fun w => ?_⟩
  have hr := run_slice_lh (P := Try.prog) (w := w) (t := 22) (ht := elemBytes ▸ Try.underlying22) (a := A) (len := xs.length) (cap := c) k k' l h (by omega) (by omega) (by omega)
  rw [← run_sliceAt_slice (P := Try.prog) (w := w) 22 _ _ _ _ (elemBytes ▸ Try.underlying22), elemBytes, size_u8] at hr
  simp only [Result.andThen, sliced, Int.toNat_natCast] at hr
  rw [hL]
  exact hr
end Go.Proofs.Ytndmdhmghjfckaa
