/- A grid is valid: both ways. -/
import Derived.Test.YtnilgcahggmncaaG12
namespace Go.Proofs.Ytnilgcahggmncaa
open Go.RowKit
set_option linter.unusedVariables false
set_option maxRecDepth 100000

def cellB (c : Cl) : Bool := showsB c.1 && attrOkB c.2.1 c.2.2.1
def sizeB (W H : Int) : Bool := decide (1 ≤ W ∧ W ≤ 120 ∧ 1 ≤ H ∧ H ≤ 120 ∧ W * H ≤ 4000)
def gridB (W H : Int) (cs : List Cl) : Bool := sizeB W H && decide ((cs.length : Int) = W * H) && cs.all cellB
theorem prod_bd {W H : Int} (h1 : 1 ≤ W) (h2 : W ≤ 120) (h3 : 1 ≤ H) (h4 : H ≤ 120) : 1 ≤ W * H ∧ W * H ≤ 14400 := by
  obtain ⟨a, rfl⟩ := Int.eq_ofNat_of_zero_le (show 0 ≤ W by omega)
  obtain ⟨b, rfl⟩ := Int.eq_ofNat_of_zero_le (show 0 ≤ H by omega)
  have k1 : a * b ≤ 120 * 120 := Nat.mul_le_mul (by omega) (by omega)
  have k2 : 1 * 1 ≤ a * b := Nat.mul_le_mul (by omega) (by omega)
  have k3 : ((a * b : Nat) : Int) = (a : Int) * (b : Int) := by simp
  omega
theorem isSize_any (W H : Int) (w : World) : Calls Try.prog 64 #[.int .i64 W, .int .i64 H] w fun e w' => e = .returned (.bool (sizeB W H)) ∧ w = w' := by
  by_cases h1 : 1 ≤ W ∧ W ≤ 120
  · have W1 : Hid (withinB W 1 120 = true) := by show _ = _; simp [withinB]; omega
    by_cases h2 : 1 ≤ H ∧ H ≤ 120
    · have W2 : Hid (withinB H 1 120 = true) := by show _ = _; simp [withinB]; omega
      obtain ⟨p1, p2⟩ := prod_bd h1.1 h1.2 h2.1 h2.2
      have HR : Hid (sizeB W H = decide (W * H ≤ 4000)) := by
        show _ = _
        rw [Bool.eq_iff_iff]
        simp [sizeB]
        omega
      go_enter Try.func64, Try.ntmps64
      go_wp2_with (go_at_call 63; refine (within_any _ _ _ _).mono ?_; rintro e w' ⟨he, rfl⟩; (first | rw [W1.out] at he | rw [W2.out] at he); subst he)
      go_ret
      exact ⟨ret_bool HR.out.symm, rfl⟩
    · have W2 : Hid (withinB H 1 120 = false) := by show _ = _; simp [withinB]; omega
      have HR : Hid (sizeB W H = false) := by show _ = _; exact decide_eq_false (fun h => h2 ⟨h.2.2.1, h.2.2.2.1⟩)
      go_enter Try.func64, Try.ntmps64
      go_wp2_with (go_at_call 63; refine (within_any _ _ _ _).mono ?_; rintro e w' ⟨he, rfl⟩; (first | rw [W1.out] at he | rw [W2.out] at he); subst he)
      go_ret
      exact ⟨ret_bool HR.out.symm, rfl⟩
  · have W1 : Hid (withinB W 1 120 = false) := by show _ = _; simp [withinB]; omega
    have HR : Hid (sizeB W H = false) := by show _ = _; exact decide_eq_false (fun h => h1 ⟨h.1, h.2.1⟩)
    go_enter Try.func64, Try.ntmps64
    go_wp2_with (go_at_call 63; refine (within_any _ _ _ _).mono ?_; rintro e w' ⟨he, rfl⟩; rw [W1.out] at he; subst he)
    go_ret
    exact ⟨ret_bool HR.out.symm, rfl⟩
theorem closure_any (c : Cl) (w : World) : Calls Try.prog 123 #[cV c] w fun e w' => e = .returned (.bool (!cellB c)) ∧ Below w.heap.size w w' := by
  obtain ⟨r, f, b, x, y, z⟩ := c
  have HR : Hid (cellB (r, f, b, x, y, z) = (showsB r && attrOkB f b)) := rfl
  go_enter Try.func123, Try.ntmps123
  go_wp2_with fail
  have hb0 : Below w.heap.size w (w.alloc (.cells #[.int .i64 r, .int .i64 f, .int .i64 b, .bool x, .bool y, .bool z] 44)) := (Below.refl _ _).alloc (Nat.le_refl _) _
  refine (cellOk_impl _ _ _ _ _ _ _).mono ?_
  rintro e w1 ⟨rfl, hb1⟩
  go_wp2_with fail
  go_ret
  exact ⟨ret_bool (by rw [HR.out]; simp), hb0.trans (hb1.mono hb0.size)⟩
def IxPost (w : World) (cs : List Cl) (e : Ending) (w' : World) : Prop :=
  ∃ z : Int, e = .returned (.int .i64 z) ∧ Hid ((cs.all cellB = true ∧ z = -1) ∨ (cs.all cellB = false ∧ 0 ≤ z)) ∧ Below w.heap.size w w'
theorem all_bad {cs : List Cl} {k : Nat} (hk : k < cs.length) (h : cellB cs[k] = false) : cs.all cellB = false := by
  rw [List.all_eq_false]
  exact ⟨cs[k], List.getElem_mem hk, by simp [h]⟩
theorem all_step {cs : List Cl} {k : Nat} (hk : k < cs.length) (h : (cs.take k).all cellB = true) (h2 : cellB cs[k] = true) : (cs.take (k + 1)).all cellB = true := by
  rw [take_succ_get (List.getElem?_eq_getElem hk), List.all_append, h]
  simp [h2]
theorem indexFunc_any (A : Option Addr) (c : Nat) (cs : List Cl) (w : World) (ha : Gs w A cs) (h1 : cs.length ≤ 1048576) :
    Calls Try.prog 141 #[.slice A cs.length c, .func (.func 123) #[] #[]] w (IxPost w cs) := by
  go_enter Try.func141, Try.ntmps141
  go_wp2_with fail
  go_loopw [8] (fun i wr => ∃ k : Nat, k ≤ cs.length ∧ i = .int .i64 k ∧ Hid ((cs.take k).all cellB = true) ∧ Below w.heap.size w wr) (fun i _ => cs.length - (intOf i).toNat)
  case atStart => exact ⟨0, Nat.zero_le _, rfl, by show _ = _; simp, Below.refl _ _⟩
  case round =>
    obtain ⟨k, hk, rfl, ht, hb⟩ := hrel
    have zb := hb.size
    by_cases hlt : k < cs.length
    · obtain ⟨b, o, rfl, hbs, x0, x1, x2, x3, x4, x5⟩ := (ha.below hb).get hlt
      have hlt' : (k : Int) < cs.length := by omega
      cases hq : cellB cs[k] with
      | true =>
        have HT := Lib.hid (all_step hlt ht.out hq)
        have HQ := Lib.hid hq
        clear hq ht
        go_wp2_with (go_at_call 123; refine (closure_any cs[k] _).mono ?_; rintro e w2 ⟨he, hb2⟩; rw [HQ.out] at he; subst he)
        go_roundw
        case rel => exact ⟨k + 1, by omega, by go_num, HT, hb.trans (hb2.mono zb)⟩
        case measure => simp [intOf]; omega
      | false =>
        have HX := Lib.hid (all_bad hlt hq)
        have HQ := Lib.hid hq
        clear hq ht
        go_wp2_with (go_at_call 123; refine (closure_any cs[k] _).mono ?_; rintro e w2 ⟨he, hb2⟩; rw [HQ.out] at he; subst he)
        go_ret
        exact ⟨k, rfl, .inr ⟨HX.out, by omega⟩, hb.trans (hb2.mono zb)⟩
    · have hlt' : ¬ (k : Int) < cs.length := by omega
      have hk' : k = cs.length := by omega
      rw [hk', List.take_length] at ht
      clear hk'
      go_wp2_with fail
      go_ret
      exact ⟨-1, rfl, .inl ⟨ht.out, rfl⟩, hb⟩
theorem containsFunc_any (A : Option Addr) (c : Nat) (cs : List Cl) (w : World) (ha : Gs w A cs) (h1 : cs.length ≤ 1048576) :
    Calls Try.prog 122 #[.slice A cs.length c, .func (.func 123) #[] #[]] w fun e w' => e = .returned (.bool (!cs.all cellB)) ∧ Below w.heap.size w w' := by
  go_enter Try.func122, Try.ntmps122
  go_wp2_with fail
  refine (indexFunc_any _ _ _ _ ha h1).mono ?_
  rintro e w1 ⟨z, rfl, hz, hb⟩
  rcases hz.out with ⟨h2, rfl⟩ | ⟨h2, h3⟩
  · have HX := Lib.hid h2
    clear hz h2
    go_wp2_with fail
    go_ret
    exact ⟨ret_bool (by rw [HX.out]; rfl), hb⟩
  · have HX := Lib.hid h2
    clear hz h2
    go_wp2_with fail
    go_ret
    exact ⟨ret_bool (by rw [HX.out]; simp), hb⟩
theorem areCells_any (A : Option Addr) (c : Nat) (cs : List Cl) (w : World) (ha : Gs w A cs) (h1 : cs.length ≤ 1048576) :
    Calls Try.prog 66 #[.slice A cs.length c] w fun e w' => e = .returned (.bool (cs.all cellB)) ∧ Below w.heap.size w w' := by
  go_enter Try.func66, Try.ntmps66
  go_wp2_with fail
  refine (containsFunc_any _ _ _ _ ha h1).mono ?_
  rintro e w1 ⟨rfl, hb⟩
  go_wp2_with fail
  go_ret
  exact ⟨ret_bool (by simp), hb⟩
set_option maxHeartbeats 1000000 in
theorem gridOk_impl (W H : Int) (A : Option Addr) (c : Nat) (cs : List Cl) (w : World) (ha : Gs w A cs) (h1 : cs.length ≤ 1048576) :
    Calls Try.prog 23 #[gV W H A cs.length c] w fun e w' => e = .returned (.bool (gridB W H cs)) ∧ Below w.heap.size w w' := by
  by_cases hs : sizeB W H = true
  · have HS := Lib.hid hs
    obtain ⟨s1, s2, s3, s4, s5⟩ := of_decide_eq_true hs
    obtain ⟨p1, p2⟩ := prod_bd s1 s2 s3 s4
    clear hs
    by_cases hq : (cs.length : Int) = W * H
    · have hq' : ((cs.length : Int) == W * H) = true := by simpa using hq
      have HR : Hid (gridB W H cs = cs.all cellB) := by show _ = _; rw [gridB, HS.out, decide_eq_true hq]; simp
      clear hq
      go_enter Try.func23, Try.ntmps23
      go_wp2_with (go_at_call 64; refine (isSize_any _ _ _).mono ?_; rintro e w' ⟨he, rfl⟩; rw [HS.out] at he; subst he)
      refine (areCells_any _ _ _ _ (ha.below ((Below.refl _ _).alloc (Nat.le_refl _) _)) h1).mono ?_
      rintro e w1 ⟨rfl, hb1⟩
      have hb0 : Below w.heap.size w (w.alloc (.cells #[.int .i64 W, .int .i64 H, .slice A cs.length c] 29)) := (Below.refl _ _).alloc (Nat.le_refl _) _
      go_wp2_with fail
      go_ret
      exact ⟨ret_bool HR.out.symm, hb0.trans (hb1.mono hb0.size)⟩
    · have hq' : ((cs.length : Int) == W * H) = false := by simpa using hq
      have HR : Hid (gridB W H cs = false) := by show _ = _; rw [gridB, decide_eq_false hq]; simp
      clear hq
      go_enter Try.func23, Try.ntmps23
      go_wp2_with (go_at_call 64; refine (isSize_any _ _ _).mono ?_; rintro e w' ⟨he, rfl⟩; rw [HS.out] at he; subst he)
      go_ret
      exact ⟨ret_bool HR.out.symm, (by (repeat (first | exact Below.refl _ _ | (refine Below.alloc ?_ (by first | omega | (simp; done) | (simp; omega)) _) | (refine Below.drew ?_) | (refine below_drewN ?_ _) | (refine below_at1 ?_ (by first | omega | (simp; done) | (simp; omega))) | (refine Below.setCell ?_ (by first | omega | (simp; done) | (simp; omega)) _) | (refine Below.trans ?_ (Below.mono (by assumption) (by first | omega | (simp; done) | (simp; omega)))))))⟩
  · have HS : Hid (sizeB W H = false) := by show _ = _; simpa using hs
    have HR : Hid (gridB W H cs = false) := by show _ = _; rw [gridB, HS.out]; simp
    clear hs
    go_enter Try.func23, Try.ntmps23
    go_wp2_with (go_at_call 64; refine (isSize_any _ _ _).mono ?_; rintro e w' ⟨he, rfl⟩; rw [HS.out] at he; subst he)
    go_ret
    exact ⟨ret_bool HR.out.symm, (by (repeat (first | exact Below.refl _ _ | (refine Below.alloc ?_ (by first | omega | (simp; done) | (simp; omega)) _) | (refine Below.drew ?_) | (refine below_drewN ?_ _) | (refine below_at1 ?_ (by first | omega | (simp; done) | (simp; omega))) | (refine Below.setCell ?_ (by first | omega | (simp; done) | (simp; omega)) _) | (refine Below.trans ?_ (Below.mono (by assumption) (by first | omega | (simp; done) | (simp; omega)))))))⟩
set_option maxHeartbeats 2000000 in
theorem gridOk_spec (W H : Int) (A : Option Addr) (c : Nat) (cs : List Cl) (w : World) (ha : Gs w A cs) (h1 : cs.length ≤ 1048576) :
    Calls Try.prog 50 #[gV W H A cs.length c] w fun e w' => e = .returned (.bool (gridB W H cs)) ∧ Below w.heap.size w w' := by
  by_cases k1 : W < 1
  · have HR : Hid (gridB W H cs = false) := by show _ = _; rw [gridB, sizeB, decide_eq_false (by omega)]; simp
    go_enter Try.func50, Try.ntmps50
    go_wp2_with fail
    go_ret
    exact ⟨ret_bool HR.out.symm, (by (repeat (first | exact Below.refl _ _ | (refine Below.alloc ?_ (by first | omega | (simp; done) | (simp; omega)) _) | (refine Below.drew ?_) | (refine below_drewN ?_ _) | (refine below_at1 ?_ (by first | omega | (simp; done) | (simp; omega))) | (refine Below.setCell ?_ (by first | omega | (simp; done) | (simp; omega)) _) | (refine Below.trans ?_ (Below.mono (by assumption) (by first | omega | (simp; done) | (simp; omega)))))))⟩
  by_cases k2 : 120 < W
  · have HR : Hid (gridB W H cs = false) := by show _ = _; rw [gridB, sizeB, decide_eq_false (by omega)]; simp
    go_enter Try.func50, Try.ntmps50
    go_wp2_with fail
    go_ret
    exact ⟨ret_bool HR.out.symm, (by (repeat (first | exact Below.refl _ _ | (refine Below.alloc ?_ (by first | omega | (simp; done) | (simp; omega)) _) | (refine Below.drew ?_) | (refine below_drewN ?_ _) | (refine below_at1 ?_ (by first | omega | (simp; done) | (simp; omega))) | (refine Below.setCell ?_ (by first | omega | (simp; done) | (simp; omega)) _) | (refine Below.trans ?_ (Below.mono (by assumption) (by first | omega | (simp; done) | (simp; omega)))))))⟩
  by_cases k3 : H < 1
  · have HR : Hid (gridB W H cs = false) := by show _ = _; rw [gridB, sizeB, decide_eq_false (by omega)]; simp
    go_enter Try.func50, Try.ntmps50
    go_wp2_with fail
    go_ret
    exact ⟨ret_bool HR.out.symm, (by (repeat (first | exact Below.refl _ _ | (refine Below.alloc ?_ (by first | omega | (simp; done) | (simp; omega)) _) | (refine Below.drew ?_) | (refine below_drewN ?_ _) | (refine below_at1 ?_ (by first | omega | (simp; done) | (simp; omega))) | (refine Below.setCell ?_ (by first | omega | (simp; done) | (simp; omega)) _) | (refine Below.trans ?_ (Below.mono (by assumption) (by first | omega | (simp; done) | (simp; omega)))))))⟩
  by_cases k4 : 120 < H
  · have HR : Hid (gridB W H cs = false) := by show _ = _; rw [gridB, sizeB, decide_eq_false (by omega)]; simp
    go_enter Try.func50, Try.ntmps50
    go_wp2_with fail
    go_ret
    exact ⟨ret_bool HR.out.symm, (by (repeat (first | exact Below.refl _ _ | (refine Below.alloc ?_ (by first | omega | (simp; done) | (simp; omega)) _) | (refine Below.drew ?_) | (refine below_drewN ?_ _) | (refine below_at1 ?_ (by first | omega | (simp; done) | (simp; omega))) | (refine Below.setCell ?_ (by first | omega | (simp; done) | (simp; omega)) _) | (refine Below.trans ?_ (Below.mono (by assumption) (by first | omega | (simp; done) | (simp; omega)))))))⟩
  obtain ⟨p1, p2⟩ := prod_bd (W := W) (H := H) (by omega) (by omega) (by omega) (by omega)
  by_cases k5 : 4000 < W * H
  · have HR : Hid (gridB W H cs = false) := by show _ = _; rw [gridB, sizeB, decide_eq_false (by omega)]; simp
    go_enter Try.func50, Try.ntmps50
    go_wp2_with fail
    go_ret
    exact ⟨ret_bool HR.out.symm, (by (repeat (first | exact Below.refl _ _ | (refine Below.alloc ?_ (by first | omega | (simp; done) | (simp; omega)) _) | (refine Below.drew ?_) | (refine below_drewN ?_ _) | (refine below_at1 ?_ (by first | omega | (simp; done) | (simp; omega))) | (refine Below.setCell ?_ (by first | omega | (simp; done) | (simp; omega)) _) | (refine Below.trans ?_ (Below.mono (by assumption) (by first | omega | (simp; done) | (simp; omega)))))))⟩
  by_cases hq : (cs.length : Int) = W * H
  case neg =>
    have hq' : ((cs.length : Int) != W * H) = true := by simpa using hq
    have HR : Hid (gridB W H cs = false) := by show _ = _; rw [gridB, decide_eq_false hq]; simp
    clear hq
    go_enter Try.func50, Try.ntmps50
    go_wp2_with fail
    go_ret
    exact ⟨ret_bool HR.out.symm, (by (repeat (first | exact Below.refl _ _ | (refine Below.alloc ?_ (by first | omega | (simp; done) | (simp; omega)) _) | (refine Below.drew ?_) | (refine below_drewN ?_ _) | (refine below_at1 ?_ (by first | omega | (simp; done) | (simp; omega))) | (refine Below.setCell ?_ (by first | omega | (simp; done) | (simp; omega)) _) | (refine Below.trans ?_ (Below.mono (by assumption) (by first | omega | (simp; done) | (simp; omega)))))))⟩
  have hq' : ((cs.length : Int) != W * H) = false := by simpa using hq
  have HR : Hid (gridB W H cs = cs.all cellB) := by show _ = _; rw [gridB, sizeB, decide_eq_true (by omega), decide_eq_true hq]; simp
  clear hq
  go_enter Try.func50, Try.ntmps50
  go_wp2_with fail
  go_loopw [45] (fun i wr => ∃ k : Nat, k ≤ cs.length ∧ i = .int .i64 k ∧ Hid ((cs.take k).all cellB = true) ∧ Below w.heap.size w wr) (fun i _ => cs.length - (intOf i).toNat)
  case atStart => exact ⟨0, Nat.zero_le _, rfl, by show _ = _; simp, by (repeat (first | exact Below.refl _ _ | (refine Below.alloc ?_ (by first | omega | (simp; done) | (simp; omega)) _) | (refine Below.drew ?_) | (refine below_drewN ?_ _) | (refine below_at1 ?_ (by first | omega | (simp; done) | (simp; omega))) | (refine Below.setCell ?_ (by first | omega | (simp; done) | (simp; omega)) _) | (refine Below.trans ?_ (Below.mono (by assumption) (by first | omega | (simp; done) | (simp; omega))))))⟩
  case round =>
    obtain ⟨k, hk, rfl, ht, hb⟩ := hrel
    have zb := hb.size
    by_cases hlt : k < cs.length
    · obtain ⟨b, o, rfl, hbs, x0, x1, x2, x3, x4, x5⟩ := (ha.below hb).get hlt
      have hlt' : (k : Int) < cs.length := by omega
      have hbA : Below wr.heap.size wr (wr.alloc (.cells #[.int .i64 cs[k].1, .int .i64 cs[k].2.1, .int .i64 cs[k].2.2.1, .bool cs[k].2.2.2.1, .bool cs[k].2.2.2.2.1, .bool cs[k].2.2.2.2.2] 44)) := (Below.refl _ _).alloc (Nat.le_refl _) _
      cases hq : cellB cs[k] with
      | true =>
        have HT := Lib.hid (all_step hlt ht.out hq)
        have HQ : Hid ((showsB cs[k].1 && attrOkB cs[k].2.1 cs[k].2.2.1) = true) := hq
        clear hq ht
        go_wp2_with (go_at_call 114; refine (cellOk_spec _ _ _ _ _ _ _).mono ?_; rintro e w2 ⟨he, hb2'⟩; rw [HQ.out] at he; subst he)
        have hb2 := hbA.trans (hb2'.mono hbA.size)
        go_roundw
        case rel => exact ⟨k + 1, by omega, by go_num, HT, hb.trans (hb2.mono zb)⟩
        case measure => simp [intOf]; omega
      | false =>
        have HX := Lib.hid (all_bad hlt hq)
        have HQ : Hid ((showsB cs[k].1 && attrOkB cs[k].2.1 cs[k].2.2.1) = false) := hq
        clear hq ht
        go_wp2_with (go_at_call 114; refine (cellOk_spec _ _ _ _ _ _ _).mono ?_; rintro e w2 ⟨he, hb2'⟩; rw [HQ.out] at he; subst he)
        have hb2 := hbA.trans (hb2'.mono hbA.size)
        go_ret
        exact ⟨ret_bool (by rw [HR.out, HX.out]), hb.trans (hb2.mono zb)⟩
    · have hlt' : ¬ (k : Int) < cs.length := by omega
      have hk' : k = cs.length := by omega
      rw [hk', List.take_length] at ht
      clear hk'
      go_wp2_with fail
      go_ret
      exact ⟨ret_bool (by rw [HR.out, ht.out]), hb⟩
end Go.Proofs.Ytnilgcahggmncaa
