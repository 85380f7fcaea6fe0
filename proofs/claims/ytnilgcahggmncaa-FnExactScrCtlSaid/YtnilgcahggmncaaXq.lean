/- ScrCtl: the program's way. -/
import Derived.Test.YtnilgcahggmncaaY7
import Derived.Test.YtnilgcahggmncaaY6
namespace Go.Proofs.Ytnilgcahggmncaa
open Go.RowKit
set_option linter.unusedVariables false
set_option maxRecDepth 100000

theorem tabN_skip {ts : List Int} {X W : Int} : ∀ (k : Nat), k ≤ ts.length → (∀ j (h : j < ts.length), j < k → ts[j] ≤ X) → tabN ts X W = tabN (ts.drop k) X W
  | 0, _, _ => rfl
  | k + 1, hk, h => by
    rw [tabN_skip k (by omega) (fun j hj hl => h j hj (by omega)), tabN_drop (by omega), if_neg (by have := h k (by omega) (by omega); omega)]
/-- The place of the next tab stop. -/
def IdxIs (ts : List Int) (X r : Int) : Prop := (r = -1 ∧ ∀ W, tabN ts X W = W - 1) ∨ ∃ k, ∃ h : k < ts.length, r = (k : Int) ∧ ∀ W, tabN ts X W = ts[k]
theorem tabClosure_any (n X : Int) (g gp : Nat) (w : World) (hp : w.cell? ⟨gp, 0, none⟩ = some (.pointer (some ⟨g, 0, none⟩))) (hX : w.cell? ⟨g, 9, none⟩ = some (.int .i64 X)) :
    Calls Try.prog 137 #[.int .i64 n, .pointer (some ⟨gp, 0, none⟩)] w fun e w' => e = .returned (.bool (decide (X < n))) ∧ w = w' := by
  go_enter Try.func137, Try.ntmps137
  by_cases h : X < n
  · go_wp2_with fail
    go_ret
    exact ⟨ret_bool (by simpa using h), rfl⟩
  · go_wp2_with fail
    go_ret
    exact ⟨ret_bool (by simpa using h), rfl⟩
set_option maxHeartbeats 4000000 in
theorem idxFunc_any (A : Option Addr) (c : Nat) (ts : List Int) (X : Int) (g gp : Nat) (w : World) (ha : Cs w A (ts.map I)) (hl : ts.length ≤ 1048576) (hp : w.cell? ⟨gp, 0, none⟩ = some (.pointer (some ⟨g, 0, none⟩))) (hX : w.cell? ⟨g, 9, none⟩ = some (.int .i64 X)) :
    Calls Try.prog 136 #[.slice A ts.length c, .func (.func 137) #[] #[.pointer (some ⟨gp, 0, none⟩)]] w fun e w' => ∃ r, e = .returned (.int .i64 r) ∧ IdxIs ts X r ∧ w = w' := by
  have HP := Lib.hid hp
  have HX := Lib.hid hX
  clear hp hX
  go_enter Try.func136, Try.ntmps136
  go_wp2_with fail
  go_loopw [8] (fun i wr => ∃ k : Nat, k ≤ ts.length ∧ i = .int .i64 k ∧ Hid (∀ j (h : j < ts.length), j < k → ts[j] ≤ X) ∧ w = wr) (fun i _ => ts.length - (intOf i).toNat)
  case atStart => exact ⟨0, Nat.zero_le _, rfl, fun j _ h => by omega, rfl⟩
  case round =>
    obtain ⟨k, hk, rfl, hno, rfl⟩ := hrel
    by_cases hlt : k < ts.length
    · have hlt' : (k : Int) < ts.length := by omega
      have hk0 : (0 : Int) ≤ (k : Int) := Int.natCast_nonneg k
      obtain ⟨tb, tq, rfl, hx⟩ := ha.ints hlt
      obtain ⟨x, hxe⟩ : ∃ x, Hid (x = ts[k]) := ⟨ts[k], Lib.hid rfl⟩
      rw [← hxe.out] at hx
      by_cases hgt : X < x
      · have HI : Hid (IdxIs ts X (k : Int)) := .inr ⟨k, hlt, rfl, fun W => by rw [tabN_skip k (by omega) hno.out, tabN_drop hlt, ← hxe.out, if_pos hgt]⟩
        go_wp2_with (go_at_call 137; refine (tabClosure_any _ X g gp _ HP.out HX.out).mono ?_; rintro e w' ⟨he, hw⟩; rw [decide_eq_true hgt] at he; replace hw := hw.symm; subst he hw)
        go_ret
        exact ⟨_, rfl, HI.out, rfl⟩
      · go_wp2_with (go_at_call 137; refine (tabClosure_any _ X g gp _ HP.out HX.out).mono ?_; rintro e w' ⟨he, hw⟩; rw [decide_eq_false hgt] at he; replace hw := hw.symm; subst he hw)
        go_roundw
        case rel => exact ⟨k + 1, by omega, by go_num, fun j hj hjk => by
          rcases Nat.lt_or_ge j k with h | h
          · exact hno.out j hj h
          · have : j = k := by omega
            subst this
            rw [← hxe.out]
            omega, by first | rfl | trivial⟩
        case measure => simp [intOf]; omega
    · have hlt' : ¬ (k : Int) < ts.length := by omega
      have hk' : k = ts.length := by omega
      subst hk'
      have HI : Hid (IdxIs ts X (-1)) := .inl ⟨rfl, fun W => by rw [tabN_skip ts.length (Nat.le_refl _) hno.out, List.drop_length]; rfl⟩
      go_wp2_with fail
      go_ret
      exact ⟨_, rfl, HI.out, rfl⟩
set_option maxHeartbeats 4000000 in
theorem ctlP_8 (s : Sc) (M A : Rw) (T : Ti) (B : Tr) (c : Cont) (b : Int) (lo g : Nat) (w : World) (hq : scrB s c = true) (hb : w.heap[g]? = some (.cells (sC s M A T B) 49 (0, 0))) (ho : So w lo M A T B) (hh : Hid (Holds M A T B c)) (hn : some g ∉ sft M A T B) (hlg : lo ≤ g) (h : b = 8) :
    Calls Try.prog 113 #[.pointer (some ⟨g, 0, none⟩), .int .i64 b] w (ChPost lo g M A T B w (ctlS s c b) (ctlC s c b)) := by
  obtain ⟨⟨d1, d2⟩, d3, d4⟩ := scr_dims hq
  obtain ⟨-, ⟨x1, x2, -, -⟩, -, -⟩ := scr_nums hq
  have zg := (Array.getElem?_eq_some_iff.1 hb).1
  have h0 : Below w.heap.size w (w.alloc (.cells #[.pointer (some ⟨g, 0, none⟩)] 112)) := (Below.refl _ _).alloc (Nat.le_refl _) _
  obtain ⟨v, hv⟩ : ∃ v, v = w.alloc (.cells #[.pointer (some ⟨g, 0, none⟩)] 112) := ⟨_, rfl⟩
  have bp : v.heap[w.heap.size]? = some (.cells #[.pointer (some ⟨g, 0, none⟩)] 112 (0, 0)) := by rw [hv]; exact heap_alloc_new _ _
  rw [← hv] at h0
  have HV := Lib.hid hv
  clear hv
  have bv := (h0.block _ zg).trans hb
  have q : ∀ i, v.cell? ⟨g, i, none⟩ = _ := fun i => cell_of_row v _ i _ _ (0, 0) bv
  have r : ∀ i, v.frozen? ⟨g, i, none⟩ = false := frz bv
  have qp : v.cell? ⟨w.heap.size, 0, none⟩ = some (.pointer (some ⟨g, 0, none⟩)) := cell_of_row v _ 0 _ _ (0, 0) bp
  have e1 : ctlS s c b = goS s (s.X - 1) s.Y := if_pos h
  have e2 : ctlC s c b = c := if_neg (by omega)
  rw [e1, e2]
  clear e1 e2
  have ew : IntKind.i64.wrap (s.X - 1) = s.X - 1 := by rw [IntKind.wrap_i64]; omega
  have HMV := Lib.hid (fun (w' : World) (hbw : w'.heap[g]? = some (.cells (sC s M A T B) 49 (0, 0))) => move_any s M A T B (s.X - 1) s.Y g w' hbw d1 d2 d3 d4)
  have k8 : (b == 8) = true := by simp; omega
  clear h
  go_enter Try.func113, Try.ntmps113
  go_wp2_with fail
  rw [← HV.out]
  go_region_with (go_at_call 99; refine (HMV.out v.drew bv).mono ?_; rintro e w1 ⟨rfl, b1, k1⟩)
  all_goals (
    go_wp2_with fail
    refine bodyPost_end (results_none rfl _ _ _) rfl ?_
    have hc1 := (Chg.of_below [some g] h0.drew).trans k1
    exact ⟨rfl, M, A, T, B, b1, hh, ho.chg hc1 (fun k hk hm => by simp at hm; exact hn (by rw [← hm]; exact hk)), hn, hc1.mono (fun k hk => List.mem_cons.2 (.inl (by simpa using hk))), fun k hk => .inl hk⟩)
set_option maxHeartbeats 4000000 in
theorem ctlP_13 (s : Sc) (M A : Rw) (T : Ti) (B : Tr) (c : Cont) (b : Int) (lo g : Nat) (w : World) (hq : scrB s c = true) (hb : w.heap[g]? = some (.cells (sC s M A T B) 49 (0, 0))) (ho : So w lo M A T B) (hh : Hid (Holds M A T B c)) (hn : some g ∉ sft M A T B) (hlg : lo ≤ g) (h : b = 13) :
    Calls Try.prog 113 #[.pointer (some ⟨g, 0, none⟩), .int .i64 b] w (ChPost lo g M A T B w (ctlS s c b) (ctlC s c b)) := by
  obtain ⟨⟨d1, d2⟩, d3, d4⟩ := scr_dims hq
  obtain ⟨-, ⟨x1, x2, -, -⟩, -, -⟩ := scr_nums hq
  have zg := (Array.getElem?_eq_some_iff.1 hb).1
  have h0 : Below w.heap.size w (w.alloc (.cells #[.pointer (some ⟨g, 0, none⟩)] 112)) := (Below.refl _ _).alloc (Nat.le_refl _) _
  obtain ⟨v, hv⟩ : ∃ v, v = w.alloc (.cells #[.pointer (some ⟨g, 0, none⟩)] 112) := ⟨_, rfl⟩
  have bp : v.heap[w.heap.size]? = some (.cells #[.pointer (some ⟨g, 0, none⟩)] 112 (0, 0)) := by rw [hv]; exact heap_alloc_new _ _
  rw [← hv] at h0
  have HV := Lib.hid hv
  clear hv
  have bv := (h0.block _ zg).trans hb
  have q : ∀ i, v.cell? ⟨g, i, none⟩ = _ := fun i => cell_of_row v _ i _ _ (0, 0) bv
  have r : ∀ i, v.frozen? ⟨g, i, none⟩ = false := frz bv
  have qp : v.cell? ⟨w.heap.size, 0, none⟩ = some (.pointer (some ⟨g, 0, none⟩)) := cell_of_row v _ 0 _ _ (0, 0) bp
  have e1 : ctlS s c b = goS s 0 s.Y := (if_neg (by omega)).trans ((if_neg (by omega)).trans ((if_neg (by omega)).trans (if_pos h)))
  have e2 : ctlC s c b = c := if_neg (by omega)
  rw [e1, e2]
  clear e1 e2
  have HMV := Lib.hid (fun (w' : World) (hbw : w'.heap[g]? = some (.cells (sC s M A T B) 49 (0, 0))) => move_any s M A T B (0) s.Y g w' hbw d1 d2 d3 d4)
  have k8 : (b == 8) = false := by simp; omega
  have k9 : (b == 9) = false := by simp; omega
  have k10 : (b == 10) = false := by simp; omega
  have k11 : (b == 11) = false := by simp; omega
  have k12 : (b == 12) = false := by simp; omega
  have k13 : (b == 13) = true := by simp; omega
  clear h
  go_enter Try.func113, Try.ntmps113
  go_wp2_with fail
  rw [← HV.out]
  go_region_with (go_at_call 99; refine (HMV.out v.drew bv).mono ?_; rintro e w1 ⟨rfl, b1, k1⟩)
  all_goals (
    go_wp2_with fail
    refine bodyPost_end (results_none rfl _ _ _) rfl ?_
    have hc1 := (Chg.of_below [some g] h0.drew).trans k1
    exact ⟨rfl, M, A, T, B, b1, hh, ho.chg hc1 (fun k hk hm => by simp at hm; exact hn (by rw [← hm]; exact hk)), hn, hc1.mono (fun k hk => List.mem_cons.2 (.inl (by simpa using hk))), fun k hk => .inl hk⟩)
set_option maxHeartbeats 4000000 in
theorem ctlP_10 (s : Sc) (M A : Rw) (T : Ti) (B : Tr) (c : Cont) (b : Int) (lo g : Nat) (w : World) (hq : scrB s c = true) (hb : w.heap[g]? = some (.cells (sC s M A T B) 49 (0, 0))) (ho : So w lo M A T B) (hh : Hid (Holds M A T B c)) (hn : some g ∉ sft M A T B) (hlg : lo ≤ g) (h : b = 10) :
    Calls Try.prog 113 #[.pointer (some ⟨g, 0, none⟩), .int .i64 b] w (ChPost lo g M A T B w (ctlS s c b) (ctlC s c b)) := by
  obtain ⟨⟨d1, d2⟩, d3, d4⟩ := scr_dims hq
  obtain ⟨-, ⟨x1, x2, -, -⟩, -, -⟩ := scr_nums hq
  have zg := (Array.getElem?_eq_some_iff.1 hb).1
  have h0 : Below w.heap.size w (w.alloc (.cells #[.pointer (some ⟨g, 0, none⟩)] 112)) := (Below.refl _ _).alloc (Nat.le_refl _) _
  obtain ⟨v, hv⟩ : ∃ v, v = w.alloc (.cells #[.pointer (some ⟨g, 0, none⟩)] 112) := ⟨_, rfl⟩
  have bp : v.heap[w.heap.size]? = some (.cells #[.pointer (some ⟨g, 0, none⟩)] 112 (0, 0)) := by rw [hv]; exact heap_alloc_new _ _
  rw [← hv] at h0
  have HV := Lib.hid hv
  clear hv
  have bv := (h0.block _ zg).trans hb
  have q : ∀ i, v.cell? ⟨g, i, none⟩ = _ := fun i => cell_of_row v _ i _ _ (0, 0) bv
  have r : ∀ i, v.frozen? ⟨g, i, none⟩ = false := frz bv
  have qp : v.cell? ⟨w.heap.size, 0, none⟩ = some (.pointer (some ⟨g, 0, none⟩)) := cell_of_row v _ 0 _ _ (0, 0) bp
  have e1 : ctlS s c b = downS s := (if_neg (by omega)).trans ((if_neg (by omega)).trans (if_pos (by omega)))
  have e2 : ctlC s c b = downC s c := if_pos (by omega)
  rw [e1, e2]
  clear e1 e2
  have k8 : (b == 8) = false := by simp; omega
  have k9 : (b == 9) = false := by simp; omega
  have k10 : (b == 10) = true := by simp; omega
  clear h
  have HD := Lib.hid (down_any s M A T B c lo g v hq bv (ho.below h0 (Nat.le_refl _)) hh hn hlg)
  go_enter Try.func113, Try.ntmps113
  go_wp2_with fail
  rw [← HV.out]
  refine HD.out.mono ?_
  rintro e w1 ⟨rfl, h1⟩
  clear q r qp
  go_wp2_with fail
  refine bodyPost_end (results_none rfl _ _ _) rfl ?_
  exact ChPost.trans ⟨rfl, h1⟩ (Chg.of_below _ h0) (fun k hk => .inl hk)
set_option maxHeartbeats 4000000 in
theorem ctlP_11 (s : Sc) (M A : Rw) (T : Ti) (B : Tr) (c : Cont) (b : Int) (lo g : Nat) (w : World) (hq : scrB s c = true) (hb : w.heap[g]? = some (.cells (sC s M A T B) 49 (0, 0))) (ho : So w lo M A T B) (hh : Hid (Holds M A T B c)) (hn : some g ∉ sft M A T B) (hlg : lo ≤ g) (h : b = 11) :
    Calls Try.prog 113 #[.pointer (some ⟨g, 0, none⟩), .int .i64 b] w (ChPost lo g M A T B w (ctlS s c b) (ctlC s c b)) := by
  obtain ⟨⟨d1, d2⟩, d3, d4⟩ := scr_dims hq
  obtain ⟨-, ⟨x1, x2, -, -⟩, -, -⟩ := scr_nums hq
  have zg := (Array.getElem?_eq_some_iff.1 hb).1
  have h0 : Below w.heap.size w (w.alloc (.cells #[.pointer (some ⟨g, 0, none⟩)] 112)) := (Below.refl _ _).alloc (Nat.le_refl _) _
  obtain ⟨v, hv⟩ : ∃ v, v = w.alloc (.cells #[.pointer (some ⟨g, 0, none⟩)] 112) := ⟨_, rfl⟩
  have bp : v.heap[w.heap.size]? = some (.cells #[.pointer (some ⟨g, 0, none⟩)] 112 (0, 0)) := by rw [hv]; exact heap_alloc_new _ _
  rw [← hv] at h0
  have HV := Lib.hid hv
  clear hv
  have bv := (h0.block _ zg).trans hb
  have q : ∀ i, v.cell? ⟨g, i, none⟩ = _ := fun i => cell_of_row v _ i _ _ (0, 0) bv
  have r : ∀ i, v.frozen? ⟨g, i, none⟩ = false := frz bv
  have qp : v.cell? ⟨w.heap.size, 0, none⟩ = some (.pointer (some ⟨g, 0, none⟩)) := cell_of_row v _ 0 _ _ (0, 0) bp
  have e1 : ctlS s c b = downS s := (if_neg (by omega)).trans ((if_neg (by omega)).trans (if_pos (by omega)))
  have e2 : ctlC s c b = downC s c := if_pos (by omega)
  rw [e1, e2]
  clear e1 e2
  have k8 : (b == 8) = false := by simp; omega
  have k9 : (b == 9) = false := by simp; omega
  have k10 : (b == 10) = false := by simp; omega
  have k11 : (b == 11) = true := by simp; omega
  clear h
  have HD := Lib.hid (down_any s M A T B c lo g v hq bv (ho.below h0 (Nat.le_refl _)) hh hn hlg)
  go_enter Try.func113, Try.ntmps113
  go_wp2_with fail
  rw [← HV.out]
  refine HD.out.mono ?_
  rintro e w1 ⟨rfl, h1⟩
  clear q r qp
  go_wp2_with fail
  refine bodyPost_end (results_none rfl _ _ _) rfl ?_
  exact ChPost.trans ⟨rfl, h1⟩ (Chg.of_below _ h0) (fun k hk => .inl hk)
set_option maxHeartbeats 4000000 in
theorem ctlP_12 (s : Sc) (M A : Rw) (T : Ti) (B : Tr) (c : Cont) (b : Int) (lo g : Nat) (w : World) (hq : scrB s c = true) (hb : w.heap[g]? = some (.cells (sC s M A T B) 49 (0, 0))) (ho : So w lo M A T B) (hh : Hid (Holds M A T B c)) (hn : some g ∉ sft M A T B) (hlg : lo ≤ g) (h : b = 12) :
    Calls Try.prog 113 #[.pointer (some ⟨g, 0, none⟩), .int .i64 b] w (ChPost lo g M A T B w (ctlS s c b) (ctlC s c b)) := by
  obtain ⟨⟨d1, d2⟩, d3, d4⟩ := scr_dims hq
  obtain ⟨-, ⟨x1, x2, -, -⟩, -, -⟩ := scr_nums hq
  have zg := (Array.getElem?_eq_some_iff.1 hb).1
  have h0 : Below w.heap.size w (w.alloc (.cells #[.pointer (some ⟨g, 0, none⟩)] 112)) := (Below.refl _ _).alloc (Nat.le_refl _) _
  obtain ⟨v, hv⟩ : ∃ v, v = w.alloc (.cells #[.pointer (some ⟨g, 0, none⟩)] 112) := ⟨_, rfl⟩
  have bp : v.heap[w.heap.size]? = some (.cells #[.pointer (some ⟨g, 0, none⟩)] 112 (0, 0)) := by rw [hv]; exact heap_alloc_new _ _
  rw [← hv] at h0
  have HV := Lib.hid hv
  clear hv
  have bv := (h0.block _ zg).trans hb
  have q : ∀ i, v.cell? ⟨g, i, none⟩ = _ := fun i => cell_of_row v _ i _ _ (0, 0) bv
  have r : ∀ i, v.frozen? ⟨g, i, none⟩ = false := frz bv
  have qp : v.cell? ⟨w.heap.size, 0, none⟩ = some (.pointer (some ⟨g, 0, none⟩)) := cell_of_row v _ 0 _ _ (0, 0) bp
  have e1 : ctlS s c b = downS s := (if_neg (by omega)).trans ((if_neg (by omega)).trans (if_pos (by omega)))
  have e2 : ctlC s c b = downC s c := if_pos (by omega)
  rw [e1, e2]
  clear e1 e2
  have k8 : (b == 8) = false := by simp; omega
  have k9 : (b == 9) = false := by simp; omega
  have k10 : (b == 10) = false := by simp; omega
  have k11 : (b == 11) = false := by simp; omega
  have k12 : (b == 12) = true := by simp; omega
  clear h
  have HD := Lib.hid (down_any s M A T B c lo g v hq bv (ho.below h0 (Nat.le_refl _)) hh hn hlg)
  go_enter Try.func113, Try.ntmps113
  go_wp2_with fail
  rw [← HV.out]
  refine HD.out.mono ?_
  rintro e w1 ⟨rfl, h1⟩
  clear q r qp
  go_wp2_with fail
  refine bodyPost_end (results_none rfl _ _ _) rfl ?_
  exact ChPost.trans ⟨rfl, h1⟩ (Chg.of_below _ h0) (fun k hk => .inl hk)
set_option maxHeartbeats 4000000 in
theorem ctlP_no (s : Sc) (M A : Rw) (T : Ti) (B : Tr) (c : Cont) (b : Int) (lo g : Nat) (w : World) (hq : scrB s c = true) (hb : w.heap[g]? = some (.cells (sC s M A T B) 49 (0, 0))) (ho : So w lo M A T B) (hh : Hid (Holds M A T B c)) (hn : some g ∉ sft M A T B) (hlg : lo ≤ g) (h : b ≠ 8 ∧ b ≠ 9 ∧ b ≠ 10 ∧ b ≠ 11 ∧ b ≠ 12 ∧ b ≠ 13) :
    Calls Try.prog 113 #[.pointer (some ⟨g, 0, none⟩), .int .i64 b] w (ChPost lo g M A T B w (ctlS s c b) (ctlC s c b)) := by
  obtain ⟨⟨d1, d2⟩, d3, d4⟩ := scr_dims hq
  obtain ⟨-, ⟨x1, x2, -, -⟩, -, -⟩ := scr_nums hq
  have zg := (Array.getElem?_eq_some_iff.1 hb).1
  have h0 : Below w.heap.size w (w.alloc (.cells #[.pointer (some ⟨g, 0, none⟩)] 112)) := (Below.refl _ _).alloc (Nat.le_refl _) _
  obtain ⟨v, hv⟩ : ∃ v, v = w.alloc (.cells #[.pointer (some ⟨g, 0, none⟩)] 112) := ⟨_, rfl⟩
  have bp : v.heap[w.heap.size]? = some (.cells #[.pointer (some ⟨g, 0, none⟩)] 112 (0, 0)) := by rw [hv]; exact heap_alloc_new _ _
  rw [← hv] at h0
  have HV := Lib.hid hv
  clear hv
  have bv := (h0.block _ zg).trans hb
  have q : ∀ i, v.cell? ⟨g, i, none⟩ = _ := fun i => cell_of_row v _ i _ _ (0, 0) bv
  have r : ∀ i, v.frozen? ⟨g, i, none⟩ = false := frz bv
  have qp : v.cell? ⟨w.heap.size, 0, none⟩ = some (.pointer (some ⟨g, 0, none⟩)) := cell_of_row v _ 0 _ _ (0, 0) bp
  have e1 : ctlS s c b = s := (if_neg (by omega)).trans ((if_neg (by omega)).trans ((if_neg (by omega)).trans (if_neg (by omega))))
  have e2 : ctlC s c b = c := if_neg (by omega)
  rw [e1, e2]
  clear e1 e2
  have k8 : (b == 8) = false := by simp; omega
  have k9 : (b == 9) = false := by simp; omega
  have k10 : (b == 10) = false := by simp; omega
  have k11 : (b == 11) = false := by simp; omega
  have k12 : (b == 12) = false := by simp; omega
  have k13 : (b == 13) = false := by simp; omega
  clear h
  go_enter Try.func113, Try.ntmps113
  go_wp2_with fail
  refine bodyPost_end (results_none rfl _ _ _) rfl ?_
  rw [← HV.out]
  exact ⟨rfl, M, A, T, B, bv, hh, ho.below h0 (Nat.le_refl _), hn, Chg.of_below _ h0, fun k hk => .inl hk⟩
set_option maxHeartbeats 4000000 in
theorem ctlP_9 (s : Sc) (M A : Rw) (T : Ti) (B : Tr) (c : Cont) (b : Int) (lo g : Nat) (w : World) (hq : scrB s c = true) (hb : w.heap[g]? = some (.cells (sC s M A T B) 49 (0, 0))) (ho : So w lo M A T B) (hh : Hid (Holds M A T B c)) (hn : some g ∉ sft M A T B) (hlg : lo ≤ g) (h : b = 9) :
    Calls Try.prog 113 #[.pointer (some ⟨g, 0, none⟩), .int .i64 b] w (ChPost lo g M A T B w (ctlS s c b) (ctlC s c b)) := by
  obtain ⟨⟨d1, d2⟩, d3, d4⟩ := scr_dims hq
  obtain ⟨-, ⟨x1, x2, -, -⟩, -, -⟩ := scr_nums hq
  obtain ⟨tA, tc, ts⟩ := T
  have zg := (Array.getElem?_eq_some_iff.1 hb).1
  have h0 : Below w.heap.size w (w.alloc (.cells #[.pointer (some ⟨g, 0, none⟩)] 112)) := (Below.refl _ _).alloc (Nat.le_refl _) _
  obtain ⟨v, hv⟩ : ∃ v, v = w.alloc (.cells #[.pointer (some ⟨g, 0, none⟩)] 112) := ⟨_, rfl⟩
  have bp : v.heap[w.heap.size]? = some (.cells #[.pointer (some ⟨g, 0, none⟩)] 112 (0, 0)) := by rw [hv]; exact heap_alloc_new _ _
  rw [← hv] at h0
  have HV := Lib.hid hv
  clear hv
  have bv := (h0.block _ zg).trans hb
  have q : ∀ i, v.cell? ⟨g, i, none⟩ = _ := fun i => cell_of_row v _ i _ _ (0, 0) bv
  have r : ∀ i, v.frozen? ⟨g, i, none⟩ = false := frz bv
  have qp : v.cell? ⟨w.heap.size, 0, none⟩ = some (.pointer (some ⟨g, 0, none⟩)) := cell_of_row v _ 0 _ _ (0, 0) bp
  have e1 : ctlS s c b = goS s (tabN c.t s.X s.W) s.Y := (if_neg (by omega)).trans (if_pos h)
  have e2 : ctlC s c b = c := if_neg (by omega)
  rw [e1, e2]
  clear e1 e2
  have ew : IntKind.i64.wrap (s.W - 1) = s.W - 1 := by rw [IntKind.wrap_i64]; omega
  have hts : ts = c.t := hh.out.2.2.1
  rw [← hts]
  have hlt3 : ts.length ≤ 1048576 := by
    obtain ⟨_, _, _, e4, _⟩ := scr_grids hq
    have := asc_len e4 (by omega)
    rw [hts]
    omega
  have hcs : Cs v tA (ts.map I) := ho.ot.cs.below h0
  have HID := Lib.hid (idxFunc_any tA tc ts s.X g w.heap.size v hcs hlt3 qp (by rw [q 9]; rfl))
  dsimp only [sC, tv, bv, rv] at q
  have qw : ∀ i, w.cell? ⟨g, i, none⟩ = _ := fun i => cell_of_row w _ i _ _ (0, 0) hb
  dsimp only [sC, tv, bv, rv] at qw
  clear hts
  obtain ⟨x9, hx9⟩ : ∃ x, Hid (x = tabN ts s.X s.W) := ⟨_, Lib.hid rfl⟩
  rw [← hx9.out]
  have HMV := Lib.hid (fun (w' : World) (hbw : w'.heap[g]? = some (.cells (sC s M A (tA, tc, ts) B) 49 (0, 0))) => move_any s M A (tA, tc, ts) B (x9) s.Y g w' hbw d1 d2 d3 d4)
  have k8 : (b == 8) = false := by simp; omega
  have k9 : (b == 9) = true := by simp; omega
  clear h
  go_enter Try.func113, Try.ntmps113
  go_wp2_with fail
  rw [← HV.out]
  refine HID.out.mono ?_
  clear qw
  rintro e w1 ⟨r9, rfl, hi, hw⟩
  subst hw
  rcases hi with ⟨hr9, hx⟩ | ⟨k, hk, hr9, hx⟩
  · have hm : ¬ (0 : Int) ≤ r9 := by omega
    have HE : Hid (s.W - 1 = x9) := by show _ = _; rw [hx9.out, hx]
    clear hx hr9
    go_wp2_with fail
    rw [HE.out]
    go_region_with (go_at_call 99; refine (HMV.out v.drew bv).mono ?_; rintro e w1 ⟨rfl, b1, k1⟩)
    all_goals (
      go_wp2_with fail
      refine bodyPost_end (results_none rfl _ _ _) rfl ?_
      have hc1 := (Chg.of_below [some g] h0.drew).trans k1
      exact ⟨rfl, M, A, (_, tc, ts), B, b1, hh, ho.chg hc1 (fun k hk hm => by simp at hm; exact hn (by rw [← hm]; exact hk)), hn, hc1.mono (fun k hk => List.mem_cons.2 (.inl (by simpa using hk))), fun k hk => .inl hk⟩)
  · have hm : (0 : Int) ≤ r9 := by omega
    obtain ⟨tb, tq, rfl, hcell⟩ := hcs.ints hk
    have HE : Hid (ts[k] = x9) := by show _ = _; rw [hx9.out, hx]
    rw [HE.out] at hcell
    have hk0 : (0 : Int) ≤ (k : Int) := Int.natCast_nonneg k
    have hk' : (k : Int) < ts.length := by omega
    clear hx hm
    subst hr9
    go_wp2_with fail
    go_region_with (go_at_call 99; refine (HMV.out v.drew bv).mono ?_; rintro e w1 ⟨rfl, b1, k1⟩)
    all_goals (
      go_wp2_with fail
      refine bodyPost_end (results_none rfl _ _ _) rfl ?_
      have hc1 := (Chg.of_below [some g] h0.drew).trans k1
      exact ⟨rfl, M, A, (_, tc, ts), B, b1, hh, ho.chg hc1 (fun k hk hm => by simp at hm; exact hn (by rw [← hm]; exact hk)), hn, hc1.mono (fun k hk => List.mem_cons.2 (.inl (by simpa using hk))), fun k hk => .inl hk⟩)
theorem ctl_any (s : Sc) (M A : Rw) (T : Ti) (B : Tr) (c : Cont) (b : Int) (lo g : Nat) (w : World) (hq : scrB s c = true) (hb : w.heap[g]? = some (.cells (sC s M A T B) 49 (0, 0))) (ho : So w lo M A T B) (hh : Hid (Holds M A T B c)) (hn : some g ∉ sft M A T B) (hlg : lo ≤ g) :
    Calls Try.prog 113 #[.pointer (some ⟨g, 0, none⟩), .int .i64 b] w (ChPost lo g M A T B w (ctlS s c b) (ctlC s c b)) := by
  by_cases h8 : b = 8
  · exact ctlP_8 s M A T B c b lo g w hq hb ho hh hn hlg h8
  by_cases h9 : b = 9
  · exact ctlP_9 s M A T B c b lo g w hq hb ho hh hn hlg h9
  by_cases h10 : b = 10
  · exact ctlP_10 s M A T B c b lo g w hq hb ho hh hn hlg h10
  by_cases h11 : b = 11
  · exact ctlP_11 s M A T B c b lo g w hq hb ho hh hn hlg h11
  by_cases h12 : b = 12
  · exact ctlP_12 s M A T B c b lo g w hq hb ho hh hn hlg h12
  by_cases h13 : b = 13
  · exact ctlP_13 s M A T B c b lo g w hq hb ho hh hn hlg h13
  exact ctlP_no s M A T B c b lo g w hq hb ho hh hn hlg ⟨h8, h9, h10, h11, h12, h13⟩
theorem ctlClosure_any (s : Sc) (M A : Rw) (T : Ti) (B : Tr) (c : Cont) (b : Int) (lo g g1 : Nat) (w : World) (hq : scrB s c = true) (hb : w.heap[g]? = some (.cells (sC s M A T B) 49 (0, 0))) (ho : So w lo M A T B) (hh : Hid (Holds M A T B c)) (hn : some g ∉ sft M A T B) (hlg : lo ≤ g) (h1 : w.cell? ⟨g1, 0, none⟩ = some (.int .i64 b)) :
    Calls Try.prog 112 #[.pointer (some ⟨g, 0, none⟩), .pointer (some ⟨g1, 0, none⟩)] w (ChPost lo g M A T B w (ctlS s c b) (ctlC s c b)) := by
  have HU := Lib.hid (ctl_any s M A T B c b lo g w hq hb ho hh hn hlg)
  go_enter Try.func112, Try.ntmps112
  go_wp2_with fail
  refine HU.out.mono ?_
  rintro e w1 ⟨rfl, h1⟩
  go_wp2_with fail
  refine bodyPost_end (results_none rfl _ _ _) rfl ?_
  exact ⟨rfl, h1⟩
set_option maxHeartbeats 4000000 in
theorem scrCtl_impl (s : Sc) (M A : Rw) (T : Ti) (B : Tr) (c : Cont) (b : Int) (w : World) (hr : Sr w M A T B) (hz : Sz M A T B 1048576) (hh : Hid (Holds M A T B c)) :
    Calls Try.prog 48 #[sV s M A T B, .int .i64 b] w (ScrOwn w (chS s c (ctlS s c b)) (chC s c (ctlC s c b))) := by
  obtain ⟨rs, hrs⟩ : ∃ x', Hid (x' = chS s c (ctlS s c b)) := ⟨_, Lib.hid rfl⟩
  obtain ⟨rc, hrc⟩ : ∃ x', Hid (x' = chC s c (ctlC s c b)) := ⟨_, Lib.hid rfl⟩
  rw [← hrs.out, ← hrc.out]
  have b0 : (((w.alloc (.cells (sC s M A T B) 49)).alloc (.cells #[.int .i64 b] 3)).alloc (.cells zC 49)).heap[w.heap.size]? = some (.cells (sC s M A T B) 49 (0, 0)) := heap_alloc_of _ (heap_alloc_of _ (heap_alloc_new _ _))
  have c0 : (((w.alloc (.cells (sC s M A T B) 49)).alloc (.cells #[.int .i64 b] 3)).alloc (.cells zC 49)).heap[w.heap.size + 1]? = some (.cells #[.int .i64 b] 3 (0, 0)) := heap_alloc_of _ (hat2 _ _ _)
  have z0 : (((w.alloc (.cells (sC s M A T B) 49)).alloc (.cells #[.int .i64 b] 3)).alloc (.cells zC 49)).heap[w.heap.size + 1 + 1]? = some (.cells zC 49 (0, 0)) := hat3 _ _ _ _
  have t0 : Below w.heap.size w (((w.alloc (.cells (sC s M A T B) 49)).alloc (.cells #[.int .i64 b] 3)).alloc (.cells zC 49)) := bel3 _ _ _ _
  go_enter Try.func48, Try.ntmps48
  go_wp2_with (first | (refine wpList_load_row rfl 49 _ rfl (w.heap.size) rfl 49 (sC s M A T B) (0, 0) _ b0 Try.underlying49 rfl size_scr ?_))
  refine (changed_any 112 #[.pointer (some ⟨w.heap.size + 1, 0, none⟩)] s M A T B c (ctlS s c b) (ctlC s c b) _ (hr.below t0) hz hh (fun args w => by go_simp) (fun hq lo g M1 A1 T1 B1 w1 hb1 hB ho hH hn _ hlg => ?_)).mono ?_
  · have c1 := (hb1.block _ (Array.getElem?_eq_some_iff.1 c0).1).trans c0
    exact ctlClosure_any s M1 A1 T1 B1 c b lo g (w.heap.size + 1) w1 hq hB ho hH hn hlg (cell_of_row w1 _ 0 _ _ (0, 0) c1)
  rw [← hrs.out, ← hrc.out]
  rintro e w2 ⟨M2, A2, T2, B2, rfl, hh2, ho2, hb2⟩
  have z2 := (hb2.block _ (Array.getElem?_eq_some_iff.1 z0).1).trans z0
  have zz2 := (Array.getElem?_eq_some_iff.1 z2).1
  have t2 := t0.trans (hb2.mono t0.size)
  have x0 := t0.size
  have lz := (Array.getElem?_eq_some_iff.1 z0).1
  clear b0 c0 z0
  go_wp2_with (first | (refine wp_store_blk rfl 49 _ _ rfl (w.heap.size + 1 + 1) (sC rs M2 A2 T2 B2) rfl rfl 49 zC z2 size_scr rfl (sC_one rs M2 A2 T2 B2) ?_; intro w7 B7 C7 z7))
  refine bodyPost_ret (results_cell_row Try.results48 _ _ (w.heap.size + 1 + 1) 49 (sC rs M2 A2 T2 B2) (0, 0) _ rfl B7 Try.underlying49 rfl size_scr) rfl ?_
  exact ⟨M2, A2, T2, B2, rfl, hh2, (ho2.chg C7 (fun k hk hm => by have := (ho2.lt hk).1; simp at hm; omega)).mono (by omega), t2.trans (C7.below (fun k hk => by simp at hk; omega) (by omega))⟩
end Go.Proofs.Ytnilgcahggmncaa
