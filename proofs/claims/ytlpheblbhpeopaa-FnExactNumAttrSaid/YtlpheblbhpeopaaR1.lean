/- The walks of the first seat: small functions of one number or one attribute. -/
import Derived.Test.YtlpheblbhpeopaaRows
import Derived.Test.YtlpheblbhpeopaaBase
import Derived.WalkKit
import Derived.Handy
import Derived.WalkSpells
import Derived.WalkLawsBesides
import Derived.BigQuiet
import Derived.Deep.QuietTactic
namespace Go.Proofs.Ytlpheblbhpeopaa
open Go.RowKit
set_option linter.unusedVariables false

def withinB (n lo hi : Int) : Bool := decide (lo ≤ n ∧ n ≤ hi)
def attrOkB (f b : Int) : Bool := decide (0 ≤ f ∧ f ≤ 8 ∧ 0 ≤ b ∧ b ≤ 8)
def showsB (n : Int) : Bool := decide (32 ≤ n ∧ n ≤ 126 ∨ 160 ≤ n ∧ n ≤ 65535 ∧ ¬ (55296 ≤ n ∧ n ≤ 57343))
theorem cellsInt : Try.prog.cellsOf 3 = 1 := by kernel_rfl
theorem cellsBool : Try.prog.cellsOf 4 = 1 := by kernel_rfl
theorem cellsAttrL : Try.prog.cellsOf 25 = 5 := by kernel_rfl
theorem cellsCellL : Try.prog.cellsOf 31 = 6 := by kernel_rfl

theorem rd_AttrL {w : World} {cs : List Value} (h : Rd Try.prog w 25 cs) : ∃ (f b : Int) (x y z : Bool), cs = [.int .i64 f, .int .i64 b, .bool x, .bool y, .bool z] := by
  obtain ⟨hl, hf⟩ := h.struct Try.underlying25
  match cs, hl.trans cellsAttrL with
  | [c0, c1, c2, c3, c4], _ =>
    obtain ⟨f, e0, _⟩ := (hf 0 _ rfl).int Try.underlying3
    obtain ⟨b, e1, _⟩ := (hf 1 _ rfl).int Try.underlying3
    obtain ⟨x, e2⟩ := (hf 2 _ rfl).bool Try.underlying4
    obtain ⟨y, e3⟩ := (hf 3 _ rfl).bool Try.underlying4
    obtain ⟨z, e4⟩ := (hf 4 _ rfl).bool Try.underlying4
    simp [cellsInt, cellsBool] at e0 e1 e2 e3 e4
    exact ⟨f, b, x, y, z, by rw [e0, e1, e2, e3, e4]⟩
theorem rd_CellL {w : World} {cs : List Value} (h : Rd Try.prog w 31 cs) : ∃ (r f b : Int) (x y z : Bool), cs = [.int .i64 r, .int .i64 f, .int .i64 b, .bool x, .bool y, .bool z] := by
  obtain ⟨hl, hf⟩ := h.struct Try.underlying31
  match cs, hl.trans cellsCellL with
  | [c0, c1, c2, c3, c4, c5], _ =>
    obtain ⟨r, e0, _⟩ := (hf 0 _ rfl).int Try.underlying3
    obtain ⟨f, b, x, y, z, e1⟩ := rd_AttrL (hf 1 _ rfl)
    simp [cellsInt, cellsAttrL] at e0 e1
    obtain ⟨e1, e2, e3, e4, e5⟩ := e1
    exact ⟨r, f, b, x, y, z, by rw [e0, e1, e2, e3, e4, e5]⟩

theorem within_any (n lo hi : Int) (w : World) :
    Calls Try.prog 22 #[.int .i64 n, .int .i64 lo, .int .i64 hi] w fun e w' => e = .returned (.bool (withinB n lo hi)) ∧ w = w' := by
  go_enter Try.func22, Try.ntmps22
  go_wp2
  all_goals (go_ret; exact ⟨ret_bool (by (try rw [Bool.eq_iff_iff]); simp [withinB]; omega), rfl⟩)

theorem shows_spec (n : Int) (w : World) :
    Calls Try.prog 9 #[.int .i64 n] w fun e w' => e = .returned (.bool (showsB n)) ∧ w = w' := by
  go_enter Try.func9, Try.ntmps9
  go_wp2
  all_goals (go_ret; exact ⟨ret_bool (by (try rw [Bool.eq_iff_iff]); simp [showsB]; omega), rfl⟩)

theorem shows_impl (n : Int) (w : World) :
    Calls Try.prog 10 #[.int .i64 n] w fun e w' => e = .returned (.bool (showsB n)) ∧ w = w' := by
  go_enter Try.func10, Try.ntmps10
  go_wp2_with (go_at_call 22; refine (within_any _ _ _ _).mono ?_; rintro e w' ⟨rfl, rfl⟩)
  all_goals (go_ret; exact ⟨ret_bool (by (try rw [Bool.eq_iff_iff]); simp_all [showsB, withinB]; try omega), rfl⟩)

theorem toAttr_any (f b : Int) (x y z : Bool) (w : World) :
    Calls Try.prog 12 #[.agg #[.int .i64 f, .int .i64 b, .bool x, .bool y, .bool z]] w fun e w' => e = .returned (.agg #[.int .i64 f, .int .i64 b, .bool x, .bool y, .bool z]) ∧
      ((w.alloc (.cells #[.int .i64 f, .int .i64 b, .bool x, .bool y, .bool z] 25)).alloc (.cells #[.int .i64 f, .int .i64 b, .bool x, .bool y, .bool z] 27)).alloc (.cells #[.int .i64 f, .int .i64 b, .bool x, .bool y, .bool z] 27) = w' := by
  go_enter Try.func12, Try.ntmps12
  go_wp2
  exact bodyPost_ret (v := .agg #[.int .i64 f, .int .i64 b, .bool x, .bool y, .bool z]) (by simp [results, Try.results12, go_sem]) rfl ⟨rfl, rfl⟩

theorem toCell_any (r f b : Int) (x y z : Bool) (w : World) :
    Calls Try.prog 15 #[.agg #[.int .i64 r, .int .i64 f, .int .i64 b, .bool x, .bool y, .bool z]] w fun e w' => e = .returned (.agg #[.int .i64 r, .int .i64 f, .int .i64 b, .bool x, .bool y, .bool z]) ∧
      Below w.heap.size w w' := by
  go_enter Try.func15, Try.ntmps15
  go_wp2_with (go_at_call 12; refine (toAttr_any _ _ _ _ _ _).mono ?_; rintro e w1 ⟨rfl, rfl⟩)
  exact bodyPost_ret (v := .agg #[.int .i64 r, .int .i64 f, .int .i64 b, .bool x, .bool y, .bool z]) (by simp [results, Try.results15, go_sem]) rfl ⟨rfl, (by (repeat (first | exact Below.refl _ _ | (refine Below.alloc ?_ (by first | omega | (simp; done) | (simp; omega)) _) | (refine Below.drew ?_) | (refine below_drewN ?_ _) | (refine below_at1 ?_ (by first | omega | (simp; done) | (simp; omega))) | (refine Below.setCell ?_ (by first | omega | (simp; done) | (simp; omega)) _) | (refine Below.trans ?_ (Below.mono (by assumption) (by first | omega | (simp; done) | (simp; omega)))))))⟩

theorem attrOk_spec (f b : Int) (x y z : Bool) (w : World) :
    Calls Try.prog 11 #[.agg #[.int .i64 f, .int .i64 b, .bool x, .bool y, .bool z]] w fun e w' => e = .returned (.bool (attrOkB f b)) ∧ ∃ o : Obj, w.alloc o = w' := by
  go_enter Try.func11, Try.ntmps11
  go_wp2
  all_goals (go_ret; exact ⟨ret_bool (by (try rw [Bool.eq_iff_iff]); simp_all [attrOkB]; try omega), _, rfl⟩)

theorem attrOk_impl (f b : Int) (x y z : Bool) (w : World) :
    Calls Try.prog 13 #[.agg #[.int .i64 f, .int .i64 b, .bool x, .bool y, .bool z]] w fun e w' => e = .returned (.bool (attrOkB f b)) ∧ ∃ o : Obj, w.alloc o = w' := by
  go_enter Try.func13, Try.ntmps13
  go_wp2_with (go_at_call 22; refine (within_any _ _ _ _).mono ?_; rintro e w' ⟨rfl, rfl⟩)
  all_goals (go_ret; exact ⟨ret_bool (by (try rw [Bool.eq_iff_iff]); simp_all [attrOkB, withinB]; try omega), _, rfl⟩)

theorem cellOk_spec (r f b : Int) (x y z : Bool) (w : World) :
    Calls Try.prog 14 #[.agg #[.int .i64 r, .int .i64 f, .int .i64 b, .bool x, .bool y, .bool z]] w fun e w' => e = .returned (.bool (showsB r && attrOkB f b)) ∧ Below w.heap.size w w' := by
  go_enter Try.func14, Try.ntmps14
  go_wp2_with (first | (go_at_call 9; refine (shows_spec _ _).mono ?_; rintro e w' ⟨rfl, rfl⟩) | (go_at_call 11; refine (attrOk_spec _ _ _ _ _ _).mono ?_; rintro e w' ⟨rfl, o, rfl⟩))
  all_goals (go_ret; exact ⟨ret_bool (by simp_all), (by (repeat (first | exact Below.refl _ _ | (refine Below.alloc ?_ (by first | omega | (simp; done) | (simp; omega)) _) | (refine Below.drew ?_) | (refine below_drewN ?_ _) | (refine below_at1 ?_ (by first | omega | (simp; done) | (simp; omega))) | (refine Below.setCell ?_ (by first | omega | (simp; done) | (simp; omega)) _) | (refine Below.trans ?_ (Below.mono (by assumption) (by first | omega | (simp; done) | (simp; omega)))))))⟩)

theorem cellOk_impl (r f b : Int) (x y z : Bool) (w : World) :
    Calls Try.prog 16 #[.agg #[.int .i64 r, .int .i64 f, .int .i64 b, .bool x, .bool y, .bool z]] w fun e w' => e = .returned (.bool (showsB r && attrOkB f b)) ∧ Below w.heap.size w w' := by
  go_enter Try.func16, Try.ntmps16
  go_wp2_with (first | (go_at_call 10; refine (shows_impl _ _).mono ?_; rintro e w' ⟨rfl, rfl⟩) | (go_at_call 13; refine (attrOk_impl _ _ _ _ _ _).mono ?_; rintro e w' ⟨rfl, o, rfl⟩))
  all_goals (go_ret; exact ⟨ret_bool (by simp_all), (by (repeat (first | exact Below.refl _ _ | (refine Below.alloc ?_ (by first | omega | (simp; done) | (simp; omega)) _) | (refine Below.drew ?_) | (refine below_drewN ?_ _) | (refine below_at1 ?_ (by first | omega | (simp; done) | (simp; omega))) | (refine Below.setCell ?_ (by first | omega | (simp; done) | (simp; omega)) _) | (refine Below.trans ?_ (Below.mono (by assumption) (by first | omega | (simp; done) | (simp; omega)))))))⟩)

theorem walk_FnExactConstants (w : World) : Calls Try.prog 3 #[] w fun e w' => e = .returned (.bool true) ∧ Below w.heap.size w w' := by
  go_enter Try.func3, Try.ntmps3
  go_wp2
  go_ret
  exact ⟨rfl, Below.refl _ _⟩

theorem walk_FnExactShows (n : Int) (w : World) (h : (Lit.int .i64 n).wf = true) :
    Calls Try.prog 4 #[.int .i64 n] w fun e w' => e = .returned (.bool true) ∧ Below w.heap.size w w' := by
  clear h
  go_enter Try.func4, Try.ntmps4
  go_wp2_with (first | (go_at_call 9; refine (shows_spec _ _).mono ?_; rintro e w' ⟨rfl, rfl⟩) | (go_at_call 10; refine (shows_impl _ _).mono ?_; rintro e w' ⟨rfl, rfl⟩))
  go_ret
  exact ⟨rfl, Below.refl _ _⟩

theorem walk_FnExactAttrOk (cs : List Value) (w : World) (h : Rd Try.prog w 25 cs) :
    Calls Try.prog 5 #[.agg cs.toArray] w fun e w' => e = .returned (.bool true) ∧ Below w.heap.size w w' := by
  obtain ⟨f, b, x, y, z, rfl⟩ := rd_AttrL h
  clear h
  go_enter Try.func5, Try.ntmps5
  go_wp2_with (first
    | (go_at_call 12; refine (toAttr_any _ _ _ _ _ _).mono ?_; rintro e w1 ⟨rfl, rfl⟩)
    | (go_at_call 11; refine (attrOk_spec _ _ _ _ _ _).mono ?_; rintro e w1 ⟨rfl, _, rfl⟩)
    | (go_at_call 13; refine (attrOk_impl _ _ _ _ _ _).mono ?_; rintro e w1 ⟨rfl, _, rfl⟩))
  go_ret
  exact ⟨rfl, (by (repeat (first | exact Below.refl _ _ | (refine Below.alloc ?_ (by first | omega | (simp; done) | (simp; omega)) _) | (refine Below.drew ?_) | (refine below_drewN ?_ _) | (refine below_at1 ?_ (by first | omega | (simp; done) | (simp; omega))) | (refine Below.setCell ?_ (by first | omega | (simp; done) | (simp; omega)) _) | (refine Below.trans ?_ (Below.mono (by assumption) (by first | omega | (simp; done) | (simp; omega)))))))⟩
theorem walk_FnExactCellOk (cs : List Value) (w : World) (h : Rd Try.prog w 31 cs) :
    Calls Try.prog 6 #[.agg cs.toArray] w fun e w' => e = .returned (.bool true) ∧ Below w.heap.size w w' := by
  obtain ⟨r, f, b, x, y, z, rfl⟩ := rd_CellL h
  clear h
  go_enter Try.func6, Try.ntmps6
  go_wp2_with fail
  refine (toCell_any _ _ _ _ _ _ _).mono ?_
  rintro e w1 ⟨rfl, hb1⟩
  obtain ⟨B1, c1, f1, z1⟩ := keep_blk hb1 (g := w.heap.size) (by repeat (first | assumption | exact heap_alloc_at _ (by first | rfl | (simp; done) | omega) | refine heap_alloc_of _ ?_ | refine heap_setCell_of _ (by first | omega | (simp; done) | (simp; omega)) ?_ | refine heap_setCell_same _ ?_ | exact heap_at1_same (by first | omega | (simp; done) | (simp; omega)) | refine heap_at1_of (by first | omega | (simp; done) | (simp; omega)) ?_))
  go_wp2_with fail
  refine (cellOk_spec _ _ _ _ _ _ _).mono ?_
  rintro e w2 ⟨rfl, hb2⟩
  obtain ⟨B2, c2, f2, z2⟩ := keep_blk hb2 B1
  clear B1 c1 f1
  go_wp2_with fail
  refine (toCell_any _ _ _ _ _ _ _).mono ?_
  rintro e w3 ⟨rfl, hb3⟩
  obtain ⟨B3, c3, f3, z3⟩ := keep_blk hb3 B2
  go_wp2_with fail
  refine (cellOk_impl _ _ _ _ _ _ _).mono ?_
  rintro e w4 ⟨rfl, hb4⟩
  go_wp2_with fail
  go_ret
  exact ⟨rfl, (by (repeat (first | exact Below.refl _ _ | (refine Below.alloc ?_ (by first | omega | (simp; done) | (simp; omega)) _) | (refine Below.drew ?_) | (refine below_drewN ?_ _) | (refine below_at1 ?_ (by first | omega | (simp; done) | (simp; omega))) | (refine Below.setCell ?_ (by first | omega | (simp; done) | (simp; omega)) _) | (refine Below.trans ?_ (Below.mono (by assumption) (by first | omega | (simp; done) | (simp; omega)))))))⟩
def attrNumZ (f b : Int) (x y z : Bool) : Int := if attrOkB f b then 72 * b + 8 * f + (if x then 1 else 0) + (if y then 2 else 0) + (if z then 4 else 0) else -1
theorem attrOk_no {f b : Int} (h : attrOkB f b = true) : 0 ≤ f ∧ f ≤ 8 ∧ 0 ≤ b ∧ b ≤ 8 := of_decide_eq_true h
theorem or_low (n : Int) (m c : Nat) (h0 : 0 ≤ n) (h1 : n ≤ 10000) (hm : m < 8) (hc : c < 8) : bits .or .i64 (8 * n + (m : Int)) (c : Int) = 8 * n + ((m ||| c : Nat) : Int) := by
  obtain ⟨k, rfl⟩ := Int.eq_ofNat_of_zero_le h0
  have e : (8 * (k : Int) + (m : Int)) = ((8 * k + m : Nat) : Int) := by omega
  have e2 : (8 * k + m) ||| c = 8 * k + (m ||| c) := by
    have h := Nat.two_pow_add_eq_or_of_lt (i := 3) hm k
    have h3 : m ||| c < 2 ^ 3 := Nat.or_lt_two_pow (by omega) (by omega)
    have h2 := Nat.two_pow_add_eq_or_of_lt h3 k
    have h' : 8 * k + m = 8 * k ||| m := h
    have h2' : 8 * k + (m ||| c) = 8 * k ||| (m ||| c) := h2
    rw [h', h2', Nat.or_assoc]
  rw [e, i64_or_nat _ _ (by omega) (by omega), e2]
  omega
theorem attrNum_spec (f b : Int) (x y z : Bool) (w : World) :
    Calls Try.prog 17 #[.agg #[.int .i64 f, .int .i64 b, .bool x, .bool y, .bool z]] w fun e w' => e = .returned (.int .i64 (attrNumZ f b x y z)) ∧ Below w.heap.size w w' := by
  cases h : attrOkB f b
  · go_enter Try.func17, Try.ntmps17
    go_wp2_with (first
      | (go_at_call 11; refine (attrOk_spec _ _ _ _ _ _).mono ?_; rintro e w1 ⟨rfl, _, rfl⟩))
    go_ret; exact ⟨ret_int (by simp [attrNumZ, h]), (by (repeat (first | exact Below.refl _ _ | (refine Below.alloc ?_ (by first | omega | (simp; done) | (simp; omega)) _) | (refine Below.drew ?_) | (refine below_drewN ?_ _) | (refine below_at1 ?_ (by first | omega | (simp; done) | (simp; omega))) | (refine Below.setCell ?_ (by first | omega | (simp; done) | (simp; omega)) _) | (refine Below.trans ?_ (Below.mono (by assumption) (by first | omega | (simp; done) | (simp; omega)))))))⟩
  · obtain ⟨h1, h2, h3, h4⟩ := attrOk_no h
    go_enter Try.func17, Try.ntmps17
    go_wp2_with (first
      | (go_at_call 11; refine (attrOk_spec _ _ _ _ _ _).mono ?_; rintro e w1 ⟨rfl, _, rfl⟩))
    all_goals (go_ret; refine ⟨ret_int ?_, (by (repeat (first | exact Below.refl _ _ | (refine Below.alloc ?_ (by first | omega | (simp; done) | (simp; omega)) _) | (refine Below.drew ?_) | (refine below_drewN ?_ _) | (refine below_at1 ?_ (by first | omega | (simp; done) | (simp; omega))) | (refine Below.setCell ?_ (by first | omega | (simp; done) | (simp; omega)) _) | (refine Below.trans ?_ (Below.mono (by assumption) (by first | omega | (simp; done) | (simp; omega)))))))⟩; simp_all [attrNumZ]; try omega)
set_option maxHeartbeats 1000000 in
theorem attrNum_impl (f b : Int) (x y z : Bool) (w : World) :
    Calls Try.prog 18 #[.agg #[.int .i64 f, .int .i64 b, .bool x, .bool y, .bool z]] w fun e w' => e = .returned (.int .i64 (attrNumZ f b x y z)) ∧ Below w.heap.size w w' := by
  cases h : attrOkB f b
  · go_enter Try.func18, Try.ntmps18
    go_wp2_with (first
      | (go_at_call 13; refine (attrOk_impl _ _ _ _ _ _).mono ?_; rintro e w1 ⟨rfl, _, rfl⟩))
    go_ret; exact ⟨ret_int (by simp [attrNumZ, h]), (by (repeat (first | exact Below.refl _ _ | (refine Below.alloc ?_ (by first | omega | (simp; done) | (simp; omega)) _) | (refine Below.drew ?_) | (refine below_drewN ?_ _) | (refine below_at1 ?_ (by first | omega | (simp; done) | (simp; omega))) | (refine Below.setCell ?_ (by first | omega | (simp; done) | (simp; omega)) _) | (refine Below.trans ?_ (Below.mono (by assumption) (by first | omega | (simp; done) | (simp; omega)))))))⟩
  · obtain ⟨h1, h2, h3, h4⟩ := attrOk_no h
    have e0 : (72 * b + 8 * f : Int) = 8 * (9 * b + f) + ((0 : Nat) : Int) := by omega
    have o1 := or_low (9 * b + f) 0 1 (by omega) (by omega) (by omega) (by omega)
    have o2 := or_low (9 * b + f) 0 2 (by omega) (by omega) (by omega) (by omega)
    have o3 := or_low (9 * b + f) 1 2 (by omega) (by omega) (by omega) (by omega)
    have o4 := or_low (9 * b + f) 0 4 (by omega) (by omega) (by omega) (by omega)
    have o5 := or_low (9 * b + f) 1 4 (by omega) (by omega) (by omega) (by omega)
    have o6 := or_low (9 * b + f) 2 4 (by omega) (by omega) (by omega) (by omega)
    have o7 := or_low (9 * b + f) 3 4 (by omega) (by omega) (by omega) (by omega)
    have e1 : (0 ||| 1 : Nat) = 1 := rfl
    have e2 : (0 ||| 2 : Nat) = 2 := rfl
    have e3 : (1 ||| 2 : Nat) = 3 := rfl
    have e4 : (0 ||| 4 : Nat) = 4 := rfl
    have e5 : (1 ||| 4 : Nat) = 5 := rfl
    have e6 : (2 ||| 4 : Nat) = 6 := rfl
    have e7 : (3 ||| 4 : Nat) = 7 := rfl
    rw [e1] at o1; rw [e2] at o2; rw [e3] at o3; rw [e4] at o4; rw [e5] at o5; rw [e6] at o6; rw [e7] at o7
    have key : Hid (∀ u, u = (72 * b + 8 * f : Int) → bits .or .i64 u 1 = u + 1 ∧ bits .or .i64 u 2 = u + 2 ∧ bits .or .i64 u 4 = u + 4 ∧ bits .or .i64 (u + 1) 2 = u + 3 ∧ bits .or .i64 (u + 1) 4 = u + 5 ∧ bits .or .i64 (u + 2) 4 = u + 6 ∧ bits .or .i64 (u + 3) 4 = u + 7) := by
      rintro u rfl
      rw [e0]
      simp only [Int.natCast_zero, Int.add_zero] at *
      exact ⟨o1, o2, o4, o3, o5, o6, o7⟩
    clear e0 o1 o2 o3 o4 o5 o6 o7 e1 e2 e3 e4 e5 e6 e7
    cases x <;> cases y <;> cases z
    all_goals
      go_enter Try.func18, Try.ntmps18
      go_wp2_with (first
        | (go_at_call 13; refine (attrOk_impl _ _ _ _ _ _).mono ?_; rintro e w1 ⟨rfl, _, rfl⟩))
      go_rounds 4
      go_ret
      refine ⟨ret_int ?_, (by (repeat (first | exact Below.refl _ _ | (refine Below.alloc ?_ (by first | omega | (simp; done) | (simp; omega)) _) | (refine Below.drew ?_) | (refine below_drewN ?_ _) | (refine below_at1 ?_ (by first | omega | (simp; done) | (simp; omega))) | (refine Below.setCell ?_ (by first | omega | (simp; done) | (simp; omega)) _) | (refine Below.trans ?_ (Below.mono (by assumption) (by first | omega | (simp; done) | (simp; omega)))))))⟩
      obtain ⟨k1, k2, k4, k3, k5, k6, k7⟩ := key.out _ rfl
      simp [attrNumZ, h, k1, k2, k3, k4, k5, k6, k7]
      try omega
end Go.Proofs.Ytlpheblbhpeopaa
