/- Links and turns copied by the library; elements appended, laid over others (laws of the walk). -/
import Derived.Test.YtfkdifgmhfdbdaaGreatDoorI2
import Derived.Lib.SliceRun
import Derived.Lib.AppendZeros
import Derived.Lib.AppendZerosOnto
import Derived.Lib.Overlaps
import Derived.Laws.CopyRow
import Derived.Deep.RegionLaw
namespace Go.Proofs.YtfkdifgmhfdbdaaGreatDoor
open Go.RowKit
set_option linter.unusedVariables false
set_option maxRecDepth 100000

section
variable {T : Type} {k : Nat} {enc : T → List Value} {w w' : World}
/-- A slice's elements as cells from its address on. -/
theorem SlL.cells {ad : Addr} {xs : List T} (hk : ∀ x, (enc x).length = k) (h : SlL w (some ad) k enc xs) : ∀ j u, (xs.flatMap enc)[j]? = some u → w.cell? (ad.add j) = some u := by
  rcases h with rfl | ⟨b, o, hA, h⟩
  · intro j u hu; simp at hu
  · injection hA with hA
    subst hA
    intro j u hu
    rw [Addr.add_lit]
    rcases Nat.eq_zero_or_pos k with h0 | h0
    · have : (xs.flatMap enc).length = 0 := by rw [flat_len hk, h0, Nat.mul_zero]
      have := (List.getElem?_eq_some_iff.1 hu).1
      omega
    · have hj := (List.getElem?_eq_some_iff.1 hu).1
      rw [flat_len hk] at hj
      have hq : j / k < xs.length := (Nat.div_lt_iff_lt_mul h0).2 hj
      have hr := Nat.mod_lt j h0
      have hx := List.getElem?_eq_getElem hq
      have hv : ∃ v, (enc xs[j / k])[j % k]? = some v := ⟨_, List.getElem?_eq_getElem (by rw [hk]; exact hr)⟩
      obtain ⟨v, hv⟩ := hv
      have h1 := flat_get hk xs (j / k) _ hx (j % k) v hv
      have e : j / k * k + j % k = j := by rw [Nat.mul_comm]; exact Nat.div_add_mod j k
      rw [e, hu] at h1
      injection h1 with h1
      subst h1
      have := h (j / k) _ hx (j % k) _ hv
      rwa [e] at this
theorem flat_one (h1 : ∀ x, ∀ u ∈ enc x, u.oneCell' = true) (xs : List T) : ∀ u ∈ xs.flatMap enc, u.oneCell' = true := by
  intro u hu
  obtain ⟨x, _, hx⟩ := List.mem_flatMap.1 hu
  exact h1 x u hx
end
theorem lk_one (x : Lk) : ∀ u ∈ lkL x, u.oneCell' = true := by intro u hu; simp at hu; rcases hu with rfl | rfl <;> rfl
theorem tn_one (x : Tn) : ∀ u ∈ tnL x, u.oneCell' = true := by intro u hu; simp at hu; rcases hu with rfl | rfl | rfl | rfl <;> rfl
theorem fl_one (x : Fl) : ∀ u ∈ flL x, u.oneCell' = true := by intro u hu; simp at hu; rcases hu with rfl | rfl | rfl <;> rfl
section
variable {ops : Array Oper} {rest : List Oper} {o : Oper} {a : Act} {Q : Exit → Act → World → Prop}
/-- append(s, ys...) onto a slice of one's own. -/
theorem wp_appE {T : Type} {k : Nat} {enc : T → List Value} (S E : TypeId) (z : Value) (bytes : Nat) (hS : Tryz.prog.underlying S = some (.slice E)) (hinfo : (Tryz.prog.info? E).map (fun i => (i.zero, i.size, i.bytes)) = some (some z, k, bytes)) (hby : bytes ≤ 64) (hzk : z.cells.size = k) (h0 : 0 < k)
    (hk : ∀ x, (enc x).length = k) (h1 : ∀ x, ∀ u ∈ enc x, u.oneCell' = true)
    (hgd : o.guard = none) (s x : Operand) (ho : o.op = .call { callee := .builtin .append, args := #[s, x], argTypes := #[S, S] })
    (lo : Nat) (A : Option Addr) (c : Nat) (xs : List T) (w : World) (n : Nat) (ad : Addr) (m c2 : Nat) (ys : List T) (ha : Oe E k enc w lo A c xs) (hy : SlL w (some ad) k enc ys) (hn : n = xs.length) (hm : m = ys.length) (hs : a.eval s = .slice A n c)
    (hx : a.eval x = .slice (some ad) m c2) (hl : xs.length ≤ 1048576) (hl2 : ys.length ≤ 1048576) (hlo : lo ≤ w.heap.size)
    (h : ∀ A' c' w' us, Hid (us = xs ++ ys) → Oe E k enc w' lo A' c' us → Below lo w w' → (∀ b, b < w.heap.size → (∀ ad, A = some ad → ad.block ≠ b) → w'.heap[b]? = w.heap[b]?) → wpList Tryz.prog ops Q rest (a.put o.dst (.slice A' us.length c')) w') :
    wpList Tryz.prog ops Q (o :: rest) a w := by
  obtain ⟨i0, hi, hz0, hz2, hz3⟩ := info_parts hinfo
  subst hn hm
  refine wpList_plain hgd fun K hK => ?_
  have hb1 : (xs.length + ys.length) * bytes ≤ 2097152 * 64 := Nat.mul_le_mul (by omega) hby
  obtain ⟨v', w', hr, h2, h3⟩ := run_append_ownG (P := Tryz.prog) w lo S o.type E i0 z k bytes hS hi hz0 hz2 hz3 hzk h0 _ _ _ ha ad ys.length c2 (ys.flatMap enc) (flat_len hk ys) (SlL.cells hk hy) (flat_one h1 ys) (by unfold maxLen; omega) (by omega) hlo
  obtain ⟨A', c', rfl⟩ := h2.form
  unfold Oper.wp execOp
  simp only [ho, resolve, invoke, builtin, Sem.run_bind, Sem.run_pure, Result.andThen_ok, List.map_toArray, List.map_cons, List.map_nil, hs, hx, hr]
  refine hK _ _ ?_
  have hL : (xs ++ ys).length = xs.length + ys.length := List.length_append
  have hob : Oe E k enc w' lo A' c' (xs ++ ys) := by
    unfold Oe; rw [hL, List.flatMap_append]; exact h2
  have := h A' c' w' _ (Lib.hid rfl) hob (below_of_grown h3 hlo (fun k hk => (ownsG.lt ha k hk).1)) (fun b hb hne => h3.block b hb (by
    intro he
    cases A with
    | none => simp [Value.ownBlock] at he
    | some ad => simp [Value.ownBlock] at he; exact hne ad rfl he.symm))
  rw [hL] at this
  exact this
end
/-- copy(dst, src) behind or over what is written. -/
theorem copy_fillE {P : Program} (w : World) (dT sT ty elem : TypeId) (size n g o dLen dCap N : Nat) (a : Addr) (sLen sCap : Nat) (t : TypeId) (L cs : List Value)
    (hu : P.underlying dT = some (.slice elem)) (hs : (P.info? elem).map (·.size) = some size)
    (hF : Fill w g t N L) (hn : n = Nat.min sLen dLen) (hl : cs.length = n * size)
    (hsrc : ∀ j v, cs[j]? = some v → w.cell? (a.add j) = some v) (hk : o ≤ L.length) (hfit : o + cs.length ≤ N) (h1 : ∀ v ∈ cs, v.oneCell' = true) :
    ∃ w', (Builtin.copy_ #[dT, sT] ty #[.slice (some ⟨g, o, none⟩) dLen dCap, .slice (some a) sLen sCap]).run P w = .ok (goInt n) w' ∧ Fill w' g t N (L.take o ++ cs ++ L.drop (o + cs.length)) ∧ w.grownBy w' (some g) := by
  obtain ⟨cur, fz, hh, hzz, hsz, ht, hd⟩ := hF
  have hl' := run_loadCells_list (P := P) w a cs hsrc
  have hcur : cur.toList.length = N := by rw [Array.length_toList]; exact hsz
  have hst := run_storeCells_atD P g o t fz cs 0 cur w hh hzz (by rw [hsz]; simpa using hfit) h1
  have hsz2 : (cur.toList.take o ++ cs ++ cur.toList.drop (o + cs.length)).toArray.size = cur.size := by
    simp only [List.size_toArray, List.length_append, List.length_take, List.length_drop, Array.length_toList]
    omega
  have hr : (Builtin.copy_ #[dT, sT] ty #[.slice (some ⟨g, o, none⟩) dLen dCap, .slice (some a) sLen sCap]).run P w = .ok (goInt n) (w.setRow g (cur.toList.take o ++ cs ++ cur.toList.drop (o + cs.length)).toArray) := by
    cases hq : P.info? elem with
    | none => simp [hq] at hs
    | some i =>
      have hi : i.size = size := by simpa [hq] using hs
      rw [hl] at hl'
      simp [Builtin.copy_, run_underlying hu, Builtin.lenOf, Builtin.firstCells, sizeOf, typeInfo, hq, hi, ← hn, hl', hst]
  refine ⟨_, hr, ⟨_, fz, setRow_heap w g cur _ _ _ hh, hzz.imp id (by rw [hsz2]; exact id), by rw [hsz2]; exact hsz, ?_, ?_⟩, ⟨rfl, rfl, rfl, by simp, fun i _ hne => setRow_other w g i _ (by rintro rfl; exact hne rfl)⟩⟩
  · have e1 : cur.toList.take o = L.take o := by rw [← ht, List.take_take, Nat.min_eq_left hk]
    have e0 : (L.take o ++ cs).length = o + cs.length := by simp; omega
    show ((cur.toList.take o ++ cs ++ cur.toList.drop (o + cs.length)).toArray).toList.take (L.take o ++ cs ++ L.drop (o + cs.length)).length = _
    rw [List.toList_toArray, e1]
    rw [List.length_append, e0, List.take_append, e0, List.take_of_length_le (by omega), Nat.add_sub_cancel_left]
    congr 1
    rw [List.length_drop, ← List.drop_take, ht]
  · simp only [List.length_append, List.length_take, List.length_drop]
    omega
set_option maxHeartbeats 1000000 in
theorem cloneL_any (A : Option Addr) (c : Nat) (xs : List Lk) (w : World) (ha : Ks w A xs) (hl : xs.length ≤ 1048576) :
    Calls Tryz.prog 127 #[.slice A xs.length c] w (LkPost w xs) := by
  have hn := fun (w : World) (n : Nat) => Lib.run_eql_slice_nil (P := Tryz.prog) w 32 67 A n c 0 0 Tryz.underlying32
  cases A with
  | none =>
    have hx : xs = [] := by rcases ha with h | ⟨b, o, h, _⟩; exact h; cases h
    subst hx
    go_enter Tryz.func127, Tryz.ntmps127
    go_wp2_with fail
    go_ret
    exact ⟨none, 0, rfl, ownsG_nil _ _ _ _, Below.refl _ _⟩
  | some ad =>
    go_enter Tryz.func127, Tryz.ntmps127
    go_wp2_with (at_builtin; refine wp_appE 32 67 _ _ Tryz.underlying32 info_link (by decide) rfl (by decide) lk2 lk_one rfl _ _ rfl w.heap.size _ 0 [] _ 0 ad xs.length c xs Oe.empty (SlL.below ha (by (repeat (first | exact Below.refl _ _ | (refine Below.alloc ?_ (by first | omega | (simp; done) | (simp; omega)) _) | (refine Below.drew ?_) | (refine below_drewN ?_ _) | (refine below_at1 ?_ (by first | omega | (simp; done) | (simp; omega))) | (refine Below.setCell ?_ (by first | omega | (simp; done) | (simp; omega)) _) | (refine Below.trans ?_ (Below.mono (by assumption) (by first | omega | (simp; done) | (simp; omega)))))))) rfl rfl rfl rfl (by simp) hl (by simp) ?_; intro A2 c2 w2 us hus ho2 hb2 hk2)
    go_ret
    have hE := hus.out
    rw [List.nil_append] at hE
    subst hE
    exact ⟨A2, c2, rfl, ho2, ((Below.refl _ _).alloc (Nat.le_refl _) _).trans hb2⟩
end Go.Proofs.YtfkdifgmhfdbdaaGreatDoor
