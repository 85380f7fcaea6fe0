/- A screen is valid: what is asked, and the small functions. -/
import Derived.Test.YtnilgcahggmncaaZc
import Derived.Test.YtnilgcahggmncaaG17
namespace Go.Proofs.Ytnilgcahggmncaa
open Go.RowKit
set_option linter.unusedVariables false
set_option maxRecDepth 100000

/-- The i-th tab stop is inside and behind the one before. -/
def okAt (ts : List Int) (W : Int) (i : Nat) : Bool := decide (0 ≤ ts.getD i 0 ∧ ts.getD i 0 < W ∧ (0 < i → ts.getD (i - 1) 0 < ts.getD i 0))
def ascTo (ts : List Int) (W : Int) (k : Nat) : Bool := (List.range k).all (okAt ts W)
def ascB (ts : List Int) (W : Int) : Bool := ascTo ts W ts.length
theorem asc_step {ts : List Int} {W : Int} {k : Nat} (h : ascTo ts W k = true) (h2 : okAt ts W k = true) : ascTo ts W (k + 1) = true := by
  unfold ascTo at h ⊢
  rw [List.range_succ, List.all_append, h]
  simp [h2]
theorem asc_bad {ts : List Int} {W : Int} {k : Nat} (hk : k < ts.length) (h2 : okAt ts W k = false) : ascB ts W = false := by
  unfold ascB ascTo
  rw [List.all_eq_false]
  exact ⟨k, List.mem_range.2 hk, by simp [h2]⟩
theorem getD_get {ts : List Int} {k : Nat} (hk : k < ts.length) : ts.getD k 0 = ts[k] := by simp [List.getD_eq_getElem?_getD, hk]
def rowB1 (cs : List Cl) : Bool := decide (1 ≤ cs.length ∧ cs.length ≤ 120) && cs.all cellB
def rowsB (b : List (List Cl)) : Bool := b.all rowB1
set_option maxHeartbeats 2000000 in
theorem isAsc_any (A : Option Addr) (c : Nat) (ts : List Int) (W : Int) (w : World) (ha : Cs w A (ts.map I)) (h1 : ts.length ≤ 1048576) (hW1 : 1 ≤ W) (hW2 : W ≤ 120) :
    Calls Try.prog 89 #[.slice A ts.length c, .int .i64 0, .int .i64 (W - 1)] w fun e w' => e = .returned (.bool (ascB ts W)) ∧ Below w.heap.size w w' := by
  go_enter Try.func89, Try.ntmps89
  go_wp2_with fail
  go_loopw [11] (fun iv wr => ∃ k : Nat, k ≤ ts.length ∧ iv = .int .i64 k ∧ Hid (ascTo ts W k = true) ∧ Below w.heap.size w wr) (fun iv _ => ts.length - (intOf iv).toNat)
  case atStart => exact ⟨0, Nat.zero_le _, rfl, rfl, Below.refl _ _⟩
  case round =>
    obtain ⟨k, hk, rfl, ht, hb⟩ := hrel
    by_cases hlt : k < ts.length
    · have hlt' : (k : Int) < ts.length := by omega
      have haw := ha.below hb
      obtain ⟨b, o, rfl, hx⟩ := haw.ints hlt
      have eg := getD_get hlt
      obtain ⟨x, hxe⟩ : ∃ x, Hid (x = ts[k]) := ⟨ts[k], Lib.hid rfl⟩
      rw [← hxe.out] at hx eg
      have HEG := Lib.hid eg
      clear eg
      by_cases hin : 0 ≤ x ∧ x ≤ W - 1
      case neg =>
        have HW : Hid (withinB x 0 (W - 1) = false) := by show _ = _; exact decide_eq_false hin
        have HX : Hid (ascB ts W = false) := asc_bad hlt (decide_eq_false (by rw [HEG.out]; omega))
        clear hin ht
        go_wp2_with (go_at_call 63; refine (within_any _ _ _ _).mono ?_; rintro e w' ⟨he, rfl⟩; rw [HW.out] at he; subst he)
        go_ret
        exact ⟨ret_bool HX.out.symm, hb⟩
      have HW : Hid (withinB x 0 (W - 1) = true) := by show _ = _; exact decide_eq_true hin
      cases k with
      | zero =>
        rw [Nat.add_zero] at hx
        have HT : Hid (ascTo ts W 1 = true) := asc_step ht.out (decide_eq_true (by rw [HEG.out]; omega))
        clear ht hin
        go_wp2_with (go_at_call 63; refine (within_any _ _ _ _).mono ?_; rintro e w' ⟨he, rfl⟩; rw [HW.out] at he; subst he)
        go_roundw
        case rel => exact ⟨1, by omega, rfl, HT, hb⟩
        case measure => simp [intOf]; omega
      | succ u =>
        have hlu : u < ts.length := by omega
        obtain ⟨b', o', hA, hx'⟩ := haw.ints hlu
        obtain ⟨rfl, rfl⟩ : b = b' ∧ o = o' := by simpa using hA
        have eg' := getD_get hlu
        obtain ⟨y, hye⟩ : ∃ y, Hid (y = ts[u]) := ⟨ts[u], Lib.hid rfl⟩
        rw [← hye.out] at hx' eg'
        have hu0 : (0 : Int) ≤ (u : Int) := Int.natCast_nonneg u
        have hlu' : (u : Int) < ts.length := by omega
        by_cases hyx : y < x
        · have HT : Hid (ascTo ts W (u + 1 + 1) = true) := asc_step ht.out (decide_eq_true (by rw [HEG.out, Nat.add_sub_cancel, eg']; omega))
          clear ht hin eg' hA
          go_wp2_with (go_at_call 63; refine (within_any _ _ _ _).mono ?_; rintro e w' ⟨he, rfl⟩; rw [HW.out] at he; subst he)
          go_roundw
          case rel => exact ⟨u + 1 + 1, by omega, by go_num, HT, hb⟩
          case measure => simp [intOf]; omega
        · have HX : Hid (ascB ts W = false) := asc_bad hlt (decide_eq_false (by rw [HEG.out, Nat.add_sub_cancel, eg']; omega))
          have hyx' : x ≤ y := by omega
          clear ht hin eg' hA
          go_wp2_with (go_at_call 63; refine (within_any _ _ _ _).mono ?_; rintro e w' ⟨he, rfl⟩; rw [HW.out] at he; subst he)
          go_ret
          exact ⟨ret_bool HX.out.symm, hb⟩
    · have hlt' : ¬ (k : Int) < ts.length := by omega
      obtain rfl : k = ts.length := by omega
      have HT : Hid (ascB ts W = true) := ht
      clear ht
      go_wp2_with fail
      go_ret
      exact ⟨ret_bool HT.out.symm, hb⟩
theorem rowClosure_any (A : Option Addr) (c : Nat) (cs : List Cl) (w : World) (ha : Gs w A cs) (h1 : cs.length ≤ 1048576) :
    Calls Try.prog 130 #[.agg #[.slice A cs.length c]] w fun e w' => e = .returned (.bool (!rowB1 cs)) ∧ Below w.heap.size w w' := by
  have t0 : Below w.heap.size w (w.alloc (.cells #[.slice A cs.length c] 99)) := (Below.refl _ _).alloc (Nat.le_refl _) _
  by_cases hl : 1 ≤ cs.length ∧ cs.length ≤ 120
  · have HW : Hid (withinB cs.length 1 120 = true) := by show _ = _; exact decide_eq_true (by omega)
    have HR : Hid (rowB1 cs = cs.all cellB) := by show _ = _; rw [rowB1, decide_eq_true hl]; rfl
    go_enter Try.func130, Try.ntmps130
    go_wp2_with (go_at_call 63; refine (within_any _ _ _ _).mono ?_; rintro e w' ⟨he, rfl⟩; rw [HW.out] at he; subst he)
    refine (areCells_any _ _ cs _ (ha.below t0) h1).mono ?_
    rintro e w1 ⟨rfl, hb1⟩
    go_wp2_with fail
    go_ret
    exact ⟨ret_bool (by rw [HR.out]), t0.trans (hb1.mono t0.size)⟩
  · have HW : Hid (withinB cs.length 1 120 = false) := by show _ = _; exact decide_eq_false (by omega)
    have HR : Hid (rowB1 cs = false) := by show _ = _; rw [rowB1, decide_eq_false hl, Bool.false_and]
    go_enter Try.func130, Try.ntmps130
    go_wp2_with (go_at_call 63; refine (within_any _ _ _ _).mono ?_; rintro e w' ⟨he, rfl⟩; rw [HW.out] at he; subst he)
    go_ret
    exact ⟨ret_bool (by rw [HR.out]; rfl), t0⟩
theorem rall_bad {es : List Rw} {k : Nat} (hk : k < es.length) (h : rowB1 es[k].2.2 = false) : rowsB (rcs es) = false := by
  unfold rowsB
  rw [List.all_eq_false]
  exact ⟨es[k].2.2, List.mem_map.2 ⟨_, List.getElem_mem hk, rfl⟩, by simp [h]⟩
theorem rall_step {es : List Rw} {k : Nat} (hk : k < es.length) (h : rowsB (rcs (es.take k)) = true) (h2 : rowB1 es[k].2.2 = true) : rowsB (rcs (es.take (k + 1))) = true := by
  rw [take_succ_get (List.getElem?_eq_getElem hk)]
  unfold rowsB rcs at h ⊢
  rw [List.map_append, List.all_append, h]
  simp [h2]
def RxPost (w : World) (es : List Rw) (e : Ending) (w' : World) : Prop :=
  ∃ z : Int, e = .returned (.int .i64 z) ∧ Hid ((rowsB (rcs es) = true ∧ z = -1) ∨ (rowsB (rcs es) = false ∧ 0 ≤ z)) ∧ Below w.heap.size w w'
theorem rowIndex_any (A : Option Addr) (c : Nat) (es : List Rw) (w : World) (ha : Rs w A es) (h1 : es.length ≤ 1048576) (hm : ∀ e, e ∈ es → e.2.2.length ≤ 1048576) :
    Calls Try.prog 142 #[.slice A es.length c, .func (.func 130) #[] #[]] w (RxPost w es) := by
  go_enter Try.func142, Try.ntmps142
  go_wp2_with fail
  go_loopw [8] (fun i wr => ∃ k : Nat, k ≤ es.length ∧ i = .int .i64 k ∧ Hid (rowsB (rcs (es.take k)) = true) ∧ Below w.heap.size w wr) (fun i _ => es.length - (intOf i).toNat)
  case atStart => exact ⟨0, Nat.zero_le _, rfl, rfl, Below.refl _ _⟩
  case round =>
    obtain ⟨k, hk, rfl, ht, hb⟩ := hrel
    have zb := hb.size
    by_cases hlt : k < es.length
    · obtain ⟨b, o, rfl, hx, hy⟩ := (ha.below hb).get hlt
      have hlt' : (k : Int) < es.length := by omega
      have hme := hm _ (List.getElem_mem hlt)
      cases hq : rowB1 es[k].2.2 with
      | true =>
        have HT := Lib.hid (rall_step hlt ht.out hq)
        have HQ := Lib.hid hq
        clear hq ht
        go_wp2_with (go_at_call 130; refine (rowClosure_any _ _ es[k].2.2 _ hy hme).mono ?_; rintro e w2 ⟨he, hb2⟩; rw [HQ.out] at he; subst he)
        go_roundw
        case rel => exact ⟨k + 1, by omega, by go_num, HT, hb.trans (hb2.mono zb)⟩
        case measure => simp [intOf]; omega
      | false =>
        have HX := Lib.hid (rall_bad hlt hq)
        have HQ := Lib.hid hq
        clear hq ht
        go_wp2_with (go_at_call 130; refine (rowClosure_any _ _ es[k].2.2 _ hy hme).mono ?_; rintro e w2 ⟨he, hb2⟩; rw [HQ.out] at he; subst he)
        go_ret
        exact ⟨k, rfl, .inr ⟨HX.out, by omega⟩, hb.trans (hb2.mono zb)⟩
    · have hlt' : ¬ (k : Int) < es.length := by omega
      have hk' : k = es.length := by omega
      rw [hk', List.take_length] at ht
      clear hk'
      go_wp2_with fail
      go_ret
      exact ⟨-1, rfl, .inl ⟨ht.out, rfl⟩, hb⟩
theorem rowContains_any (A : Option Addr) (c : Nat) (es : List Rw) (w : World) (ha : Rs w A es) (h1 : es.length ≤ 1048576) (hm : ∀ e, e ∈ es → e.2.2.length ≤ 1048576) :
    Calls Try.prog 129 #[.slice A es.length c, .func (.func 130) #[] #[]] w fun e w' => e = .returned (.bool (!rowsB (rcs es))) ∧ Below w.heap.size w w' := by
  go_enter Try.func129, Try.ntmps129
  go_wp2_with fail
  refine (rowIndex_any _ _ _ _ ha h1 hm).mono ?_
  rintro e w1 ⟨z, rfl, hz, hb⟩
  rcases hz.out with ⟨h2, rfl⟩ | ⟨h2, h3⟩
  · have HX := Lib.hid h2
    clear hz h2
    go_wp2_with fail
    go_ret
    exact ⟨ret_bool (by rw [HX.out]; rfl), hb⟩
  · have HX := Lib.hid h2
    clear hz h2
    go_wp2_with fail
    go_ret
    exact ⟨ret_bool (by rw [HX.out]; simp), hb⟩
theorem backOk_any (A : Option Addr) (c : Nat) (es : List Rw) (L : Int) (w : World) (ha : Rs w A es) (h1 : es.length ≤ 1048576) (hm : ∀ e, e ∈ es → e.2.2.length ≤ 1048576) :
    Calls Try.prog 90 #[.slice A es.length c, .int .i64 L] w fun e w' => e = .returned (.bool (decide ((es.length : Int) ≤ L) && rowsB (rcs es))) ∧ Below w.heap.size w w' := by
  by_cases h : L < (es.length : Int)
  · have HR : Hid (decide ((es.length : Int) ≤ L) = false) := by show _ = _; exact decide_eq_false (by omega)
    go_enter Try.func90, Try.ntmps90
    go_wp2_with fail
    go_ret
    exact ⟨ret_bool (by rw [HR.out]; rfl), Below.refl _ _⟩
  · have HR : Hid (decide ((es.length : Int) ≤ L) = true) := by show _ = _; exact decide_eq_true (by omega)
    go_enter Try.func90, Try.ntmps90
    go_wp2_with fail
    refine (rowContains_any _ _ es _ ha h1 hm).mono ?_
    rintro e w1 ⟨rfl, hb⟩
    go_wp2_with fail
    go_ret
    exact ⟨ret_bool (by rw [HR.out]; simp), hb⟩
set_option maxHeartbeats 2000000 in
theorem l09Row_any (A : Option Addr) (c : Nat) (cs : List Cl) (w : World) (ha : Gs w A cs) (h1 : cs.length ≤ 1048576) :
    Calls Try.prog 84 #[.agg #[.slice A cs.length c]] w fun e w' => e = .returned (.bool (rowB1 cs)) ∧ Below w.heap.size w w' := by
  have t0 : Below w.heap.size w (w.alloc (.cells #[.slice A cs.length c] 99)) := (Below.refl _ _).alloc (Nat.le_refl _) _
  go_enter Try.func84, Try.ntmps84
  go_wp2_with fail
  go_loopw [8] (fun i wr => ∃ k : Nat, k ≤ cs.length ∧ i = .int .i64 k ∧ Hid ((cs.take k).all cellB = true) ∧ Hid (wr.heap[w.heap.size]? = some (.cells #[.slice A cs.length c] 99 (0, 0))) ∧ Below w.heap.size w wr) (fun i _ => cs.length - (intOf i).toNat)
  case atStart => exact ⟨0, Nat.zero_le _, rfl, by show _ = _; simp, heap_alloc_new _ _, t0⟩
  case round =>
    obtain ⟨k, hk, rfl, ht, hB, hb⟩ := hrel
    have zb := hb.size
    have qB : ∀ i, wr.cell? ⟨w.heap.size, i, none⟩ = _ := fun i => cell_of_row wr _ i _ _ (0, 0) hB.out
    have zB := (Array.getElem?_eq_some_iff.1 hB.out).1
    by_cases hlt : k < cs.length
    · obtain ⟨b, o, rfl, hbs, x0, x1, x2, x3, x4, x5⟩ := (ha.below hb).get hlt
      have hlt' : (k : Int) < cs.length := by omega
      have hbA : Below wr.heap.size wr (wr.alloc (.cells #[.int .i64 cs[k].1, .int .i64 cs[k].2.1, .int .i64 cs[k].2.2.1, .bool cs[k].2.2.2.1, .bool cs[k].2.2.2.2.1, .bool cs[k].2.2.2.2.2] 44)) := (Below.refl _ _).alloc (Nat.le_refl _) _
      cases hq : cellB cs[k] with
      | true =>
        have HT := Lib.hid (all_step hlt ht.out hq)
        have HQ : Hid ((showsB cs[k].1 && attrOkB cs[k].2.1 cs[k].2.2.1) = true) := hq
        clear hq ht
        go_wp2_with (go_at_call 114; refine (cellOk_spec _ _ _ _ _ _ _).mono ?_; rintro e w2 ⟨he, hb2'⟩; rw [HQ.out] at he; subst he)
        have hb2 := hbA.trans (hb2'.mono hbA.size)
        go_roundw
        case rel => exact ⟨k + 1, by omega, by go_num, HT, (hb2.block _ zB).trans hB.out, hb.trans (hb2.mono zb)⟩
        case measure => simp [intOf]; omega
      | false =>
        have HX : Hid (rowB1 cs = false) := by show _ = _; rw [rowB1, all_bad hlt hq, Bool.and_false]
        have HQ : Hid ((showsB cs[k].1 && attrOkB cs[k].2.1 cs[k].2.2.1) = false) := hq
        clear hq ht
        go_wp2_with (go_at_call 114; refine (cellOk_spec _ _ _ _ _ _ _).mono ?_; rintro e w2 ⟨he, hb2'⟩; rw [HQ.out] at he; subst he)
        have hb2 := hbA.trans (hb2'.mono hbA.size)
        go_ret
        exact ⟨ret_bool HX.out.symm, hb.trans (hb2.mono zb)⟩
    · have hlt' : ¬ (k : Int) < cs.length := by omega
      obtain rfl : k = cs.length := by omega
      rw [List.take_length] at ht
      have HR : Hid (rowB1 cs = decide (1 ≤ cs.length ∧ cs.length ≤ 120)) := by show _ = _; rw [rowB1, ht.out, Bool.and_true]
      clear ht
      go_wp2_with fail
      all_goals (go_ret; exact ⟨ret_bool (by rw [HR.out, Bool.eq_iff_iff]; simp; omega), hb⟩)
end Go.Proofs.Ytnilgcahggmncaa
