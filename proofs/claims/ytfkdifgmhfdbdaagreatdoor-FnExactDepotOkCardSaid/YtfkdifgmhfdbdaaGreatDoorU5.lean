/- Directories: what is found, taken away, put in: the reference. -/
import Derived.Test.YtfkdifgmhfdbdaaGreatDoorU4
namespace Go.Proofs.YtfkdifgmhfdbdaaGreatDoor
open Go.RowKit
set_option linter.unusedVariables false
set_option maxRecDepth 100000

section
variable {ops : Array Oper} {rest : List Oper} {o : Oper} {a : Act} {Q : Exit → Act → World → Prop}
/-- append(s, l) onto links of one's own. -/
theorem wp_app1L (hgd : o.guard = none) (s x : Operand) (ho : o.op = .call { callee := .builtin .append, args := #[s, x], argTypes := #[32, 32] })
    (lo : Nat) (A : Option Addr) (c : Nat) (xs : List Lk) (w : World) (n : Nat) (y : Lk) (ha : Oe 67 2 lkL w lo A c xs) (hn : n = xs.length) (hs : a.eval s = .slice A n c)
    (g : Nat) (hx : a.eval x = .slice (some ⟨g, 0, none⟩) 1 1) (hg : g = w.heap.size) (hl : xs.length ≤ 1099511627776) (hlo : lo ≤ w.heap.size)
    (h : ∀ A' c' w' us, Hid (us = xs ++ [y]) → Oe 67 2 lkL w' lo A' c' us → Below lo w w' → (∀ b, b < w.heap.size → (∀ ad, A = some ad → ad.block ≠ b) → w'.heap[b]? = w.heap[b]?) → wpList Tryz.prog ops Q rest (a.put o.dst (.slice A' us.length c')) w') :
    wpList Tryz.prog ops Q (o :: rest) a (w.alloc (.cells #[.string y.1, .int .i64 y.2] 67)) := by
  obtain ⟨i0, hi, hz0, hz2, hz3⟩ := info_parts info_link
  subst hn hg
  refine wpList_plain hgd fun K hK => ?_
  obtain ⟨v', w', hr, h2, h3⟩ := run_append_ownG (P := Tryz.prog) (w.alloc (.cells #[.string y.1, .int .i64 y.2] 67)) lo 32 o.type 67 i0 _ 2 24 Tryz.underlying32 hi hz0 hz2 hz3 rfl (by decide) _ _ _ (ownsG.alloc ha _) ⟨w.heap.size, 0, none⟩ 1 1 (lkL y) rfl
    (by intro j u hu; match j, hu with
        | 0, hu => simp at hu; subst hu; simp [Addr.add]
        | 1, hu => simp at hu; subst hu; simp [Addr.add]
        | j + 2, hu => simp at hu) (by simp [Value.oneCell']) (by unfold maxLen; omega) (by omega) (by simp; omega)
  obtain ⟨A', c', rfl⟩ := h2.form
  unfold Oper.wp execOp
  simp only [ho, resolve, invoke, builtin, Sem.run_bind, Sem.run_pure, Result.andThen_ok, List.map_toArray, List.map_cons, List.map_nil, hs, hx, hr]
  refine hK _ _ ?_
  have hL : (xs ++ [y]).length = xs.length + 1 := by simp
  have hob : Oe 67 2 lkL w' lo A' c' (xs ++ [y]) := by
    unfold Oe; rw [hL, flat_snoc]; exact h2
  have := h A' c' w' _ (Lib.hid rfl) hob (((Below.refl lo w).alloc hlo _).trans (below_of_grown h3 (by simp; omega) (fun k hk => (ownsG.lt ha k hk).1))) (fun b hb hne => (h3.block b (by simp; omega) (by
    intro he
    cases A with
    | none => simp [Value.ownBlock] at he
    | some ad => simp [Value.ownBlock] at he; exact hne ad rfl he.symm)).trans (Below.heap_alloc w _ b hb))
  rw [hL] at this
  exact this
end
theorem Oe.empty {T : Type} {e : TypeId} {k : Nat} {enc : T → List Value} {w : World} : Oe e k enc (w.alloc (.cells #[] e)) w.heap.size (some ⟨w.heap.size, 0, none⟩) 0 [] :=
  ⟨by simp, .inr ⟨w.heap.size, 0, #[], (0, 0), rfl, Nat.le_refl _, heap_alloc_new _ _, .inl rfl, Nat.le_refl _, by unfold maxLen; omega, by simp, by simp⟩⟩

/-- Names. -/
def eqN (a b : ByteArray) : Bool := a.toList == b.toList
def ltN (a b : ByteArray) : Bool := Op.bytesLess a.toList b.toList
/-- The Id that a name is linked to. -/
def findS : List Lk → ByteArray → Int
  | [], _ => 0
  | x :: r, n => if eqN x.1 n then x.2 else findS r n
def lessS (dir : List Lk) (n : ByteArray) : List Lk := dir.filter fun x => !eqN x.1 n
def withS : List Lk → ByteArray → Int → List Lk
  | [], n, i => [(n, i)]
  | x :: r, n, i => if !(ltN x.1 n || eqN x.1 n) then (n, i) :: x :: r else x :: withS r n i
theorem findS_skip (dir : List Lk) (n : ByteArray) (k : Nat) (hk : k < dir.length) (h : eqN dir[k].1 n = false) : findS (dir.drop k) n = findS (dir.drop (k + 1)) n := by
  rw [List.drop_eq_getElem_cons hk, findS, h]
  rfl
theorem findS_hit (dir : List Lk) (n : ByteArray) (k : Nat) (hk : k < dir.length) (h : eqN dir[k].1 n = true) : findS (dir.drop k) n = dir[k].2 := by
  rw [List.drop_eq_getElem_cons hk, findS, h]
  rfl
theorem lessS_succ (dir : List Lk) (n : ByteArray) (k : Nat) (hk : k < dir.length) : lessS (dir.take (k + 1)) n = lessS (dir.take k) n ++ if eqN dir[k].1 n then [] else [dir[k]] := by
  rw [take_succ_get (List.getElem?_eq_getElem hk), lessS, lessS, List.filter_append]
  congr 1
  cases h : eqN dir[k].1 n <;> simp [h]
theorem lessS_len (dir : List Lk) (n : ByteArray) : (lessS dir n).length ≤ dir.length := List.length_filter_le _ _
theorem withS_len (dir : List Lk) (n : ByteArray) (i : Int) : (withS dir n i).length = dir.length + 1 := by
  induction dir with
  | nil => rfl
  | cons x r ih => unfold withS; split <;> simp [ih]
theorem withS_skip (dir : List Lk) (n : ByteArray) (i : Int) (k : Nat) (hk : k < dir.length) (h : (ltN dir[k].1 n || eqN dir[k].1 n) = true) : dir.take k ++ withS (dir.drop k) n i = dir.take (k + 1) ++ withS (dir.drop (k + 1)) n i := by
  rw [List.drop_eq_getElem_cons hk, withS, h, take_succ_get (List.getElem?_eq_getElem hk)]
  simp only [Bool.not_true, Bool.false_eq_true, if_false, List.append_assoc, List.singleton_append]
theorem withS_put (dir : List Lk) (n : ByteArray) (i : Int) (k : Nat) (hk : k < dir.length) (h : (ltN dir[k].1 n || eqN dir[k].1 n) = false) : dir.take k ++ withS (dir.drop k) n i = dir.take k ++ [(n, i)] ++ [dir[k]] ++ dir.drop (k + 1) := by
  rw [List.drop_eq_getElem_cons hk, withS, h]
  simp
set_option maxHeartbeats 1000000 in
theorem find_spec (A : Option Addr) (c : Nat) (dir : List Lk) (nm : ByteArray) (w : World) (ha : Ks w A dir) (hl : dir.length ≤ 1099511627776) :
    Calls Tryz.prog 61 #[.slice A dir.length c, .string nm] w fun e w' => e = .returned (.int .i64 (findS dir nm)) ∧ Below w.heap.size w w' := by
  go_enter Tryz.func61, Tryz.ntmps61
  go_wp2_with fail
  go_loopw [9] (fun i wr => ∃ k : Nat, k ≤ dir.length ∧ i = .int .i64 k ∧ Hid (findS dir nm = findS (dir.drop k) nm) ∧ Below w.heap.size w wr) (fun i _ => dir.length - (intOf i).toNat)
  case atStart => exact ⟨0, Nat.zero_le _, rfl, rfl, Below.refl _ _⟩
  case round =>
    obtain ⟨k, hk, rfl, hf, hb⟩ := hrel
    by_cases hlt : k < dir.length
    · obtain ⟨b, o, rfl, hbs, x0, x1⟩ := Ks.get (ha.below hb) hlt
      have hlt' : (k : Int) < dir.length := by omega
      have zb := hb.size
      cases he : (dir[k].1.toList == nm.toList) with
      | true =>
        have HF : Hid (findS dir nm = dir[k].2) := hf.out.trans (findS_hit dir nm k hlt he)
        clear hf
        go_wp2_with fail
        go_ret
        exact ⟨ret_int HF.out.symm, hb.trans (by (repeat (first | exact Below.refl _ _ | (refine Below.alloc ?_ (by first | omega | (simp; done) | (simp; omega)) _) | (refine Below.drew ?_) | (refine below_drewN ?_ _) | (refine below_at1 ?_ (by first | omega | (simp; done) | (simp; omega))) | (refine Below.setCell ?_ (by first | omega | (simp; done) | (simp; omega)) _) | (refine Below.trans ?_ (Below.mono (by assumption) (by first | omega | (simp; done) | (simp; omega)))))))⟩
      | false =>
        have HF : Hid (findS dir nm = findS (dir.drop (k + 1)) nm) := hf.out.trans (findS_skip dir nm k hlt he)
        clear hf
        go_wp2_with fail
        go_roundw
        case rel => exact ⟨k + 1, by omega, by go_num, HF, hb.trans (by (repeat (first | exact Below.refl _ _ | (refine Below.alloc ?_ (by first | omega | (simp; done) | (simp; omega)) _) | (refine Below.drew ?_) | (refine below_drewN ?_ _) | (refine below_at1 ?_ (by first | omega | (simp; done) | (simp; omega))) | (refine Below.setCell ?_ (by first | omega | (simp; done) | (simp; omega)) _) | (refine Below.trans ?_ (Below.mono (by assumption) (by first | omega | (simp; done) | (simp; omega)))))))⟩
        case measure => simp [intOf]; omega
    · have hlt' : ¬ ((k : Int) < dir.length) := by omega
      have HF : Hid (findS dir nm = 0) := hf.out.trans (by rw [List.drop_of_length_le (by omega)]; rfl)
      clear hf
      go_wp2_with fail
      go_ret
      exact ⟨ret_int HF.out.symm, hb⟩
/-- A function that answers links of its own. -/
def LkPost (w : World) (us : List Lk) (e : Ending) (w' : World) : Prop :=
  ∃ A' c', e = .returned (.slice A' us.length c') ∧ Oe 67 2 lkL w' w.heap.size A' c' us ∧ Below w.heap.size w w'
set_option maxHeartbeats 1000000 in
theorem less_spec (A : Option Addr) (c : Nat) (dir : List Lk) (nm : ByteArray) (w : World) (ha : Ks w A dir) (hl : dir.length ≤ 1048576) :
    Calls Tryz.prog 92 #[.slice A dir.length c, .string nm] w (LkPost w (lessS dir nm)) := by
  go_enter Tryz.func92, Tryz.ntmps92
  go_wp2_with fail
  go_loopw [5, 11] (fun ov i wr => ∃ (k : Nat) (A1 : Option Addr) (c1 : Nat) (us : List Lk), k ≤ dir.length ∧ i = .int .i64 k ∧ ov = .slice A1 us.length c1 ∧ Oe 67 2 lkL wr w.heap.size A1 c1 us ∧ Hid (us = lessS (dir.take k) nm) ∧ Below w.heap.size w wr) (fun _ i _ => dir.length - (intOf i).toNat)
  case atStart => exact ⟨0, _, 0, [], Nat.zero_le _, rfl, rfl, Oe.empty, Lib.hid rfl, (Below.refl _ _).alloc (Nat.le_refl _) _⟩
  case round =>
    obtain ⟨k, A1, c1, us, hk, rfl, rfl, ho, hu, hb⟩ := hrel
    have hul : us.length ≤ 1048576 := by rw [hu.out]; exact Nat.le_trans (lessS_len _ _) (by rw [List.length_take]; omega)
    by_cases hlt : k < dir.length
    · obtain ⟨b, o, rfl, hbs, x0, x1⟩ := Ks.get (ha.below hb) hlt
      have hlt' : (k : Int) < dir.length := by omega
      have zb := hb.size
      have hs := lessS_succ dir nm k hlt
      cases he : (dir[k].1.toList == nm.toList) with
      | true =>
        have HF : Hid (us = lessS (dir.take (k + 1)) nm) := by rw [show eqN dir[k].1 nm = true from he] at hs; rw [if_pos rfl, List.append_nil] at hs; exact hu.out.trans hs.symm
        clear hu hs
        go_wp2_with fail
        go_roundw
        case rel => exact ⟨k + 1, A1, c1, us, by omega, by go_num, rfl, ho.alloc _, HF, hb.trans (by (repeat (first | exact Below.refl _ _ | (refine Below.alloc ?_ (by first | omega | (simp; done) | (simp; omega)) _) | (refine Below.drew ?_) | (refine below_drewN ?_ _) | (refine below_at1 ?_ (by first | omega | (simp; done) | (simp; omega))) | (refine Below.setCell ?_ (by first | omega | (simp; done) | (simp; omega)) _) | (refine Below.trans ?_ (Below.mono (by assumption) (by first | omega | (simp; done) | (simp; omega)))))))⟩
        case measure => simp [intOf]; omega
      | false =>
        have HF : Hid (us ++ [dir[k]] = lessS (dir.take (k + 1)) nm) := by rw [show eqN dir[k].1 nm = false from he] at hs; rw [if_neg (by simp), ← hu.out] at hs; exact hs.symm
        clear hu hs
        go_wp2_with (at_builtin; refine wp_app1L rfl _ _ rfl w.heap.size A1 c1 us _ _ dir[k] (ho.alloc _) rfl rfl _ rfl (by simp) (by omega) (by first | omega | (simp; done) | (simp; omega)) ?_; intro A2 c2 w2 vs hvs ho2 hb2 hk2)
        go_roundw
        case rel => exact ⟨k + 1, A2, c2, vs, by omega, by go_num, rfl, ho2, Lib.hid (hvs.out.trans HF.out), (hb.trans ((Below.refl _ _).alloc zb _)).trans hb2⟩
        case measure => simp [intOf]; omega
    · have hlt' : ¬ ((k : Int) < dir.length) := by omega
      have HF : Hid (us = lessS dir nm) := hu.out.trans (by rw [List.take_of_length_le (by omega)])
      clear hu
      go_wp2_with fail
      go_ret
      have hE := HF.out
      subst hE
      exact ⟨A1, c1, rfl, ho, hb⟩
set_option maxHeartbeats 2000000 in
theorem with_spec (A : Option Addr) (c : Nat) (dir : List Lk) (nm : ByteArray) (id : Int) (w : World) (ha : Ks w A dir) (hl : dir.length ≤ 1048576) :
    Calls Tryz.prog 91 #[.slice A dir.length c, .string nm, .int .i64 id] w (LkPost w (withS dir nm id)) := by
  go_enter Tryz.func91, Tryz.ntmps91
  go_wp2_with fail
  go_loopw [7, 8, 14] (fun ov dv i wr => ∃ (k : Nat) (A1 : Option Addr) (c1 : Nat) (us : List Lk) (d : Bool), k ≤ dir.length ∧ i = .int .i64 k ∧ ov = .slice A1 us.length c1 ∧ dv = .bool d ∧ Oe 67 2 lkL wr w.heap.size A1 c1 us ∧ us.length ≤ k + 1 ∧ Hid (withS dir nm id = if d then us ++ dir.drop k else us ++ withS (dir.drop k) nm id) ∧ Hid (d = false → us = dir.take k) ∧ Below w.heap.size w wr) (fun _ _ i _ => dir.length - (intOf i).toNat)
  case atStart => exact ⟨0, _, 0, [], false, Nat.zero_le _, rfl, rfl, rfl, Oe.empty, by simp, Lib.hid rfl, Lib.hid (fun _ => rfl), (Below.refl _ _).alloc (Nat.le_refl _) _⟩
  case round =>
    obtain ⟨k, A1, c1, us, d, hk, rfl, rfl, rfl, ho, hul, hu, hd, hb⟩ := hrel
    by_cases hlt : k < dir.length
    · obtain ⟨b, o, rfl, hbs, x0, x1⟩ := Ks.get (ha.below hb) hlt
      have hlt' : (k : Int) < dir.length := by omega
      have zb := hb.size
      cases d with
      | true =>
        have HF : Hid (withS dir nm id = (us ++ [dir[k]]) ++ dir.drop (k + 1)) := by have := hu.out; rw [if_pos rfl, List.drop_eq_getElem_cons hlt] at this; rw [List.append_assoc]; exact this
        clear hu hd
        go_wp2_with (at_builtin; refine wp_app1L rfl _ _ rfl w.heap.size A1 c1 us _ _ dir[k] (ho.alloc _) rfl rfl _ rfl (by simp) (by omega) (by first | omega | (simp; done) | (simp; omega)) ?_; intro A2 c2 w2 vs hvs ho2 hb2 hk2)
        go_roundw
        case rel => exact ⟨k + 1, A2, c2, vs, true, by omega, by go_num, rfl, rfl, ho2, by rw [hvs.out]; simp; omega, by rw [hvs.out]; exact HF, Lib.hid (by simp), (hb.trans ((Below.refl _ _).alloc zb _)).trans hb2⟩
        case measure => simp [intOf]; omega
      | false =>
        have hd2 := hd.out rfl
        cases hg : (ltN dir[k].1 nm || eqN dir[k].1 nm) with
        | true =>
          have HF : Hid (withS dir nm id = (us ++ [dir[k]]) ++ withS (dir.drop (k + 1)) nm id) := by
            have h1 := hu.out
            rw [if_neg (by simp), hd2, withS_skip dir nm id k hlt hg, take_succ_get (List.getElem?_eq_getElem hlt)] at h1
            rw [hd2]; exact h1
          have HD : Hid (us ++ [dir[k]] = dir.take (k + 1)) := by rw [hd2, take_succ_get (List.getElem?_eq_getElem hlt)]; exact Lib.hid rfl
          have hg' : (Op.bytesLess dir[k].1.toList nm.toList || dir[k].1.toList == nm.toList) = true := hg
          clear hu hd hd2 hg
          go_wp2_with (at_builtin; refine wp_app1L rfl _ _ rfl w.heap.size A1 c1 us _ _ dir[k] (ho.alloc _) rfl rfl _ rfl (by simp) (by omega) (by first | omega | (simp; done) | (simp; omega)) ?_; intro A2 c2 w2 vs hvs ho2 hb2 hk2)
          go_roundw
          case rel => exact ⟨k + 1, A2, c2, vs, false, by omega, by go_num, rfl, rfl, ho2, by rw [hvs.out]; simp; omega, by rw [hvs.out]; exact HF, Lib.hid (fun _ => hvs.out.trans HD.out), (hb.trans ((Below.refl _ _).alloc zb _)).trans hb2⟩
          case measure => simp [intOf]; omega
        | false =>
          have HF : Hid (withS dir nm id = (us ++ [(nm, id)] ++ [dir[k]]) ++ dir.drop (k + 1)) := by
            have h1 := hu.out
            rw [if_neg (by simp), hd2, withS_put dir nm id k hlt hg] at h1
            rw [hd2]; exact h1
          have hul2 : Hid (us.length = k) := by show us.length = k; rw [hd2, List.length_take]; omega
          have hg' : (Op.bytesLess dir[k].1.toList nm.toList || dir[k].1.toList == nm.toList) = false := hg
          clear hu hd hd2 hg
          go_wp2_with (first
            | (at_builtin; refine wp_app1L rfl _ _ rfl w.heap.size A1 c1 us _ _ (nm, id) (ho.alloc _) rfl rfl _ rfl (by simp) (by omega) (by first | omega | (simp; done) | (simp; omega)) ?_; intro A2 c2 w2 vs hvs ho2 hb2 hk2; have z2 : wr.heap.size + 1 ≤ w2.heap.size := (by simpa using hb2.size); have hvl : vs.length ≤ us.length + 1 := Nat.le_of_eq ((congrArg List.length hvs.out).trans List.length_append); have B3 := (hk2 wr.heap.size (by simp) (fun ad h => by have := (ho.inB ad h).2; omega)).trans (heap_alloc_new wr _); have q3 := cell_of_row w2 wr.heap.size 0 _ _ (0, 0) B3; have q4 := cell_of_row w2 wr.heap.size 1 _ _ (0, 0) B3)
            | (at_builtin; refine wp_app1L rfl _ _ rfl w.heap.size A2 c2 vs _ _ dir[k] ho2 rfl rfl _ rfl (by simp) (by omega) (by omega) ?_; intro A4 c4 w4 us4 hus4 ho4 hb4 hk4))
          go_roundw
          case rel => exact ⟨k + 1, A4, c4, us4, true, by omega, by go_num, rfl, rfl, ho4, by have := hul2.out; rw [hus4.out]; simp; omega, by rw [hus4.out, hvs.out]; exact HF, Lib.hid (by simp), ((hb.trans ((Below.refl _ _).alloc zb _)).trans hb2).trans hb4⟩
          case measure => simp [intOf]; omega
    · have hlt' : ¬ ((k : Int) < dir.length) := by omega
      cases d with
      | true =>
        have HF : Hid (us = withS dir nm id) := by have := hu.out; rw [if_pos rfl, List.drop_of_length_le (by omega), List.append_nil] at this; exact this.symm
        clear hu hd
        go_wp2_with fail
        go_ret
        have hE := HF.out
        subst hE
        exact ⟨A1, c1, rfl, ho, hb⟩
      | false =>
        have HF : Hid (us ++ [(nm, id)] = withS dir nm id) := by have := hu.out; rw [if_neg (by simp), List.drop_of_length_le (by omega)] at this; exact this.symm
        have zb := hb.size
        clear hu hd
        go_wp2_with (at_builtin; refine wp_app1L rfl _ _ rfl w.heap.size A1 c1 us _ _ (nm, id) ho rfl rfl _ rfl (by simp) (by omega) (by omega) ?_; intro A2 c2 w2 vs hvs ho2 hb2 hk2)
        go_ret
        have hE := hvs.out.trans HF.out
        subst hE
        exact ⟨A2, c2, rfl, ho2, hb.trans hb2⟩
end Go.Proofs.YtfkdifgmhfdbdaaGreatDoor
