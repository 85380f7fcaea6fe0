/- The walks of NumAttr and AttrNum's law. -/
import Derived.Test.YtlpheblbhpeopaaR1
namespace Go.Proofs.Ytlpheblbhpeopaa
open Go.RowKit
set_option linter.unusedVariables false
def numAttrD (n : Int) : Int × Int × Bool × Bool × Bool × Bool :=
  if 0 ≤ n ∧ n < 648 then (n / 8 % 9, n / 72, n % 2 == 1, n / 2 % 2 == 1, n / 4 % 2 == 1, true) else (0, 0, false, false, false, false)
def numAttrV (n : Int) : Value := .tuple #[.agg #[.int .i64 (numAttrD n).1, .int .i64 (numAttrD n).2.1, .bool (numAttrD n).2.2.1, .bool (numAttrD n).2.2.2.1, .bool (numAttrD n).2.2.2.2.1], .bool (numAttrD n).2.2.2.2.2]
theorem numAttrD_no {n : Int} (h : n < 0 ∨ 648 ≤ n) : numAttrD n = (0, 0, false, false, false, false) := if_neg (by omega)
theorem numAttr_spec (n : Int) (w : World) :
    Calls Try.prog 19 #[.int .i64 n] w fun e w' => e = .returned (numAttrV n) ∧ Below w.heap.size w w' := by
  by_cases h0 : 0 ≤ n
  · by_cases h1 : n < 648
    · go_enter Try.func19, Try.ntmps19
      go_wp2
      exact bodyPost_ret (v := numAttrV n) (by simp [results, Try.results19, go_sem, numAttrV, numAttrD, h0, h1]) rfl ⟨rfl, (by (repeat (first | exact Below.refl _ _ | (refine Below.alloc ?_ (by first | omega | (simp; done) | (simp; omega)) _) | (refine Below.drew ?_) | (refine below_drewN ?_ _) | (refine below_at1 ?_ (by first | omega | (simp; done) | (simp; omega))) | (refine Below.setCell ?_ (by first | omega | (simp; done) | (simp; omega)) _) | (refine Below.trans ?_ (Below.mono (by assumption) (by first | omega | (simp; done) | (simp; omega)))))))⟩
    · go_enter Try.func19, Try.ntmps19
      go_wp2
      exact bodyPost_ret (v := numAttrV n) (by simp [results, Try.results19, go_sem, numAttrV, numAttrD_no (n := n) (by omega)]) rfl ⟨rfl, (by (repeat (first | exact Below.refl _ _ | (refine Below.alloc ?_ (by first | omega | (simp; done) | (simp; omega)) _) | (refine Below.drew ?_) | (refine below_drewN ?_ _) | (refine below_at1 ?_ (by first | omega | (simp; done) | (simp; omega))) | (refine Below.setCell ?_ (by first | omega | (simp; done) | (simp; omega)) _) | (refine Below.trans ?_ (Below.mono (by assumption) (by first | omega | (simp; done) | (simp; omega)))))))⟩
  · go_enter Try.func19, Try.ntmps19
    go_wp2
    exact bodyPost_ret (v := numAttrV n) (by simp [results, Try.results19, go_sem, numAttrV, numAttrD_no (n := n) (by omega)]) rfl ⟨rfl, (by (repeat (first | exact Below.refl _ _ | (refine Below.alloc ?_ (by first | omega | (simp; done) | (simp; omega)) _) | (refine Below.drew ?_) | (refine below_drewN ?_ _) | (refine below_at1 ?_ (by first | omega | (simp; done) | (simp; omega))) | (refine Below.setCell ?_ (by first | omega | (simp; done) | (simp; omega)) _) | (refine Below.trans ?_ (Below.mono (by assumption) (by first | omega | (simp; done) | (simp; omega)))))))⟩
theorem and_pow (n : Int) (i : Nat) (h0 : 0 ≤ n) (h1 : n ≤ 9223372036854775807) (hi : i < 60) : (bits .and .i64 n (((2 ^ i : Nat)) : Int) == (((2 ^ i : Nat)) : Int)) = (n / (((2 ^ i : Nat)) : Int) % 2 == 1) := by
  obtain ⟨k, rfl⟩ := Int.eq_ofNat_of_zero_le h0
  have hp : (2 ^ i : Nat) < 9223372036854775808 := Nat.lt_trans (Nat.pow_lt_pow_right (by omega) hi) (by decide)
  have e0 : k &&& 2 ^ i = (k / 2 ^ i % 2) * 2 ^ i := by
    apply Nat.eq_of_testBit_eq
    intro j
    rw [Nat.testBit_and, Nat.testBit_two_pow, Nat.mul_comm, Nat.testBit_two_pow_mul]
    by_cases hj : i = j
    · subst hj
      simp [Nat.testBit_eq_decide_div_mod_eq]
    · simp [hj]
      intro hle
      have hlt : k / 2 ^ i % 2 < 2 := Nat.mod_lt _ (by omega)
      have hs : j - i = (j - i - 1) + 1 := by omega
      rw [hs, Nat.testBit_succ]
      have : k / 2 ^ i % 2 / 2 = 0 := by omega
      rw [this]
      simp
  rw [i64_and_nat _ _ (by omega) hp, e0]
  have hpos : 0 < 2 ^ i := Nat.two_pow_pos i
  have e : ((k : Int) / ((2 ^ i : Nat) : Int) % 2) = ((k / 2 ^ i % 2 : Nat) : Int) := by simp
  rw [e]
  have hlt : k / 2 ^ i % 2 < 2 := Nat.mod_lt _ (by omega)
  generalize k / 2 ^ i % 2 = x at *
  generalize 2 ^ i = p at *
  match x, hlt with
  | 0, _ => rw [Bool.eq_iff_iff]; simp; omega
  | 1, _ => simp
theorem ite_num (b : Bool) (e : Int) (h : e = 0 ∨ e = 1) (hb : b = (e == 1)) (c : Int) : (if b = true then c else 0) = c * e := by
  subst hb; rcases h with rfl | rfl <;> simp
set_option maxHeartbeats 1000000 in
theorem numAttr_impl (n : Int) (w : World) (hn : n ≤ 9223372036854775807) :
    Calls Try.prog 20 #[.int .i64 n] w fun e w' => e = .returned (numAttrV n) ∧ Below w.heap.size w w' := by
  by_cases h0 : 0 ≤ n
  · have b1 : (bits .and .i64 n 1 == 1) = (n % 2 == 1) := by simpa using and_pow n 0 h0 hn (by omega)
    have b2 : (bits .and .i64 n 2 == 2) = (n / 2 % 2 == 1) := by simpa using and_pow n 1 h0 hn (by omega)
    have b3 : (bits .and .i64 n 4 == 4) = (n / 4 % 2 == 1) := by simpa using and_pow n 2 h0 hn (by omega)
    by_cases h1 : n < 648
    · have ha : attrNumZ (n % 72 / 8) (n / 72) (n % 2 == 1) (n / 2 % 2 == 1) (n / 4 % 2 == 1) = n := by
        have ho : attrOkB (n % 72 / 8) (n / 72) = true := by simp [attrOkB]; omega
        unfold attrNumZ
        rw [if_pos ho, ite_num _ (n % 2) (by omega) rfl, ite_num _ (n / 2 % 2) (by omega) rfl, ite_num _ (n / 4 % 2) (by omega) rfl]
        omega
      have HD : Hid (numAttrD n = (n % 72 / 8, n / 72, n % 2 == 1, n / 2 % 2 == 1, n / 4 % 2 == 1, true)) := by
        have hq : n % 72 / 8 = n / 8 % 9 := by omega
        show _ = _
        rw [hq]; exact if_pos ⟨h0, h1⟩
      have hne : (attrNumZ (n % 72 / 8) (n / 72) (n % 2 == 1) (n / 2 % 2 == 1) (n / 4 % 2 == 1) != n) = false := by simp [ha]
      clear ha
      go_enter Try.func20, Try.ntmps20
      go_wp2_with fail
      refine (attrNum_impl _ _ _ _ _ _).mono ?_
      rintro e w1 ⟨rfl, hb1⟩
      obtain ⟨w1, rfl, hb1, z0, z1⟩ := take2 hb1 (g := w.heap.size) (h := w.heap.size + 1) (by first | omega | (simp; done) | (simp; omega)) (by first | omega | (simp; done) | (simp; omega)) (by repeat (first | assumption | exact heap_alloc_at _ (by first | rfl | (simp; done) | omega) | refine heap_alloc_of _ ?_ | refine heap_setCell_of _ (by first | omega | (simp; done) | (simp; omega)) ?_ | refine heap_setCell_same _ ?_ | exact heap_at1_same (by first | omega | (simp; done) | (simp; omega)) | refine heap_at1_of (by first | omega | (simp; done) | (simp; omega)) ?_)) (by repeat (first | assumption | exact heap_alloc_at _ (by first | rfl | (simp; done) | omega) | refine heap_alloc_of _ ?_ | refine heap_setCell_of _ (by first | omega | (simp; done) | (simp; omega)) ?_ | refine heap_setCell_same _ ?_ | exact heap_at1_same (by first | omega | (simp; done) | (simp; omega)) | refine heap_at1_of (by first | omega | (simp; done) | (simp; omega)) ?_))
      go_wp2_with fail
      refine bodyPost_ret (v := .tuple #[.agg #[.int .i64 (n % 72 / 8), .int .i64 (n / 72), .bool (n % 2 == 1), .bool (n / 2 % 2 == 1), .bool (n / 4 % 2 == 1)], .bool true]) ?_ rfl ⟨?_, ?_⟩
      · simp [results, Try.results20, go_sem, z0]
      · rw [numAttrV, HD.out]
      · (repeat (first | exact Below.refl _ _ | (refine Below.alloc ?_ (by first | omega | (simp; done) | (simp; omega)) _) | (refine Below.drew ?_) | (refine below_drewN ?_ _) | (refine below_at1 ?_ (by first | omega | (simp; done) | (simp; omega))) | (refine Below.setCell ?_ (by first | omega | (simp; done) | (simp; omega)) _) | (refine Below.trans ?_ (Below.mono (by assumption) (by first | omega | (simp; done) | (simp; omega))))))
    · have ho : attrOkB (n % 72 / 8) (n / 72) = false := by simp [attrOkB]; omega
      have ha : attrNumZ (n % 72 / 8) (n / 72) (n % 2 == 1) (n / 2 % 2 == 1) (n / 4 % 2 == 1) = -1 := by simp [attrNumZ, ho]
      have hne : (attrNumZ (n % 72 / 8) (n / 72) (n % 2 == 1) (n / 2 % 2 == 1) (n / 4 % 2 == 1) != n) = true := by simp [ha]; omega
      clear ha ho
      go_enter Try.func20, Try.ntmps20
      go_wp2_with fail
      refine (attrNum_impl _ _ _ _ _ _).mono ?_
      rintro e w1 ⟨rfl, hb1⟩
      obtain ⟨w1, rfl, hb1, z0, z1⟩ := take2 hb1 (g := w.heap.size) (h := w.heap.size + 1) (by first | omega | (simp; done) | (simp; omega)) (by first | omega | (simp; done) | (simp; omega)) (by repeat (first | assumption | exact heap_alloc_at _ (by first | rfl | (simp; done) | omega) | refine heap_alloc_of _ ?_ | refine heap_setCell_of _ (by first | omega | (simp; done) | (simp; omega)) ?_ | refine heap_setCell_same _ ?_ | exact heap_at1_same (by first | omega | (simp; done) | (simp; omega)) | refine heap_at1_of (by first | omega | (simp; done) | (simp; omega)) ?_)) (by repeat (first | assumption | exact heap_alloc_at _ (by first | rfl | (simp; done) | omega) | refine heap_alloc_of _ ?_ | refine heap_setCell_of _ (by first | omega | (simp; done) | (simp; omega)) ?_ | refine heap_setCell_same _ ?_ | exact heap_at1_same (by first | omega | (simp; done) | (simp; omega)) | refine heap_at1_of (by first | omega | (simp; done) | (simp; omega)) ?_))
      go_wp2_with fail
      refine bodyPost_ret (v := .tuple #[.agg #[.int .i64 0, .int .i64 0, .bool false, .bool false, .bool false], .bool false]) ?_ rfl ⟨?_, ?_⟩
      · simp [results, Try.results20, go_sem, z0]
      · rw [numAttrV, numAttrD_no (n := n) (by omega)]
      · (repeat (first | exact Below.refl _ _ | (refine Below.alloc ?_ (by first | omega | (simp; done) | (simp; omega)) _) | (refine Below.drew ?_) | (refine below_drewN ?_ _) | (refine below_at1 ?_ (by first | omega | (simp; done) | (simp; omega))) | (refine Below.setCell ?_ (by first | omega | (simp; done) | (simp; omega)) _) | (refine Below.trans ?_ (Below.mono (by assumption) (by first | omega | (simp; done) | (simp; omega))))))
  · go_enter Try.func20, Try.ntmps20
    go_wp2_with fail
    refine bodyPost_ret (v := numAttrV n) ?_ rfl ⟨rfl, ?_⟩
    · simp [results, Try.results20, go_sem, numAttrV, numAttrD_no (n := n) (by omega)]
    · (repeat (first | exact Below.refl _ _ | (refine Below.alloc ?_ (by first | omega | (simp; done) | (simp; omega)) _) | (refine Below.drew ?_) | (refine below_drewN ?_ _) | (refine below_at1 ?_ (by first | omega | (simp; done) | (simp; omega))) | (refine Below.setCell ?_ (by first | omega | (simp; done) | (simp; omega)) _) | (refine Below.trans ?_ (Below.mono (by assumption) (by first | omega | (simp; done) | (simp; omega))))))
theorem eqAttr_any (f b f' b' : Int) (x y z x' y' z' : Bool) (w : World) :
    Calls Try.prog 21 #[.agg #[.int .i64 f, .int .i64 b, .bool x, .bool y, .bool z], .agg #[.int .i64 f', .int .i64 b', .bool x', .bool y', .bool z']] w fun e w' => e = .returned (.bool (f == f' && b == b' && x == x' && y == y' && z == z')) ∧ Below w.heap.size w w' := by
  go_enter Try.func21, Try.ntmps21
  go_wp2
  all_goals (go_ret; exact ⟨ret_bool (by simp_all), (by (repeat (first | exact Below.refl _ _ | (refine Below.alloc ?_ (by first | omega | (simp; done) | (simp; omega)) _) | (refine Below.drew ?_) | (refine below_drewN ?_ _) | (refine below_at1 ?_ (by first | omega | (simp; done) | (simp; omega))) | (refine Below.setCell ?_ (by first | omega | (simp; done) | (simp; omega)) _) | (refine Below.trans ?_ (Below.mono (by assumption) (by first | omega | (simp; done) | (simp; omega)))))))⟩)
theorem eqAttr_same (f b : Int) (x y z : Bool) (w : World) :
    Calls Try.prog 21 #[.agg #[.int .i64 f, .int .i64 b, .bool x, .bool y, .bool z], .agg #[.int .i64 f, .int .i64 b, .bool x, .bool y, .bool z]] w fun e w' => e = .returned (.bool true) ∧ Below w.heap.size w w' :=
  (eqAttr_any f b f b x y z x y z w).mono fun e w' ⟨he, hb⟩ => ⟨he.trans (by simp), hb⟩
theorem walk_FnExactAttrNum (cs : List Value) (w : World) (h : Rd Try.prog w 25 cs) :
    Calls Try.prog 7 #[.agg cs.toArray] w fun e w' => e = .returned (.bool true) ∧ Below w.heap.size w w' := by
  obtain ⟨f, b, x, y, z, rfl⟩ := rd_AttrL h
  clear h
  go_enter Try.func7, Try.ntmps7
  go_wp2_with fail
  refine (toAttr_any _ _ _ _ _ _).mono ?_
  rintro e w1 ⟨rfl, rfl⟩
  go_wp2_with fail
  refine (attrNum_spec _ _ _ _ _ _).mono ?_
  rintro e w2 ⟨rfl, hb2⟩
  obtain ⟨B2, c2, f2, z2⟩ := keep_blk hb2 (g := w.heap.size) (by repeat (first | assumption | exact heap_alloc_at _ (by first | rfl | (simp; done) | omega) | refine heap_alloc_of _ ?_ | refine heap_setCell_of _ (by first | omega | (simp; done) | (simp; omega)) ?_ | refine heap_setCell_same _ ?_ | exact heap_at1_same (by first | omega | (simp; done) | (simp; omega)) | refine heap_at1_of (by first | omega | (simp; done) | (simp; omega)) ?_))
  go_wp2_with fail
  refine (toAttr_any _ _ _ _ _ _).mono ?_
  rintro e w3 ⟨rfl, rfl⟩
  go_wp2_with fail
  refine (attrNum_impl _ _ _ _ _ _).mono ?_
  rintro e w4 ⟨rfl, hb4⟩
  go_wp2_with fail
  go_ret
  exact ⟨rfl, (by (repeat (first | exact Below.refl _ _ | (refine Below.alloc ?_ (by first | omega | (simp; done) | (simp; omega)) _) | (refine Below.drew ?_) | (refine below_drewN ?_ _) | (refine below_at1 ?_ (by first | omega | (simp; done) | (simp; omega))) | (refine Below.setCell ?_ (by first | omega | (simp; done) | (simp; omega)) _) | (refine Below.trans ?_ (Below.mono (by assumption) (by first | omega | (simp; done) | (simp; omega)))))))⟩
theorem walk_FnExactNumAttr (n : Int) (w : World) (h : (Lit.int .i64 n).wf = true) :
    Calls Try.prog 8 #[.int .i64 n] w fun e w' => e = .returned (.bool true) ∧ Below w.heap.size w w' := by
  have hn := (i64_bd h).2
  clear h
  go_enter Try.func8, Try.ntmps8
  go_wp2_with fail
  refine (numAttr_spec _ _).mono ?_
  rintro e w1 ⟨rfl, hb1⟩
  have sz1 := hb1.size
  unfold numAttrV
  go_wp2_with fail
  refine (numAttr_impl _ _ hn).mono ?_
  rintro e w2 ⟨rfl, hb2⟩
  obtain ⟨w2, rfl, hb2, z2⟩ := take1 hb2 (g := w1.heap.size) (by first | omega | (simp; done) | (simp; omega)) (by repeat (first | assumption | exact heap_alloc_at _ (by first | rfl | (simp; done) | omega) | refine heap_alloc_of _ ?_ | refine heap_setCell_of _ (by first | omega | (simp; done) | (simp; omega)) ?_ | refine heap_setCell_same _ ?_ | exact heap_at1_same (by first | omega | (simp; done) | (simp; omega)) | refine heap_at1_of (by first | omega | (simp; done) | (simp; omega)) ?_))
  unfold numAttrV
  go_wp2_with fail
  refine (eqAttr_same _ _ _ _ _ _).mono ?_
  rintro e w3 ⟨rfl, hb3⟩
  go_wp2_with fail
  go_ret
  exact ⟨rfl, (by (repeat (first | exact Below.refl _ _ | (refine Below.alloc ?_ (by first | omega | (simp; done) | (simp; omega)) _) | (refine Below.drew ?_) | (refine below_drewN ?_ _) | (refine below_at1 ?_ (by first | omega | (simp; done) | (simp; omega))) | (refine Below.setCell ?_ (by first | omega | (simp; done) | (simp; omega)) _) | (refine Below.trans ?_ (Below.mono (by assumption) (by first | omega | (simp; done) | (simp; omega)))))))⟩
end Go.Proofs.Ytlpheblbhpeopaa
