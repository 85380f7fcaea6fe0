/- Which generation a file's name tells: the program's way, and the law. -/
import Derived.Test.YtpaeffmjkkikbaaGreatDoorTa
import Derived.Test.YtpaeffmjkkikbaaGreatDoorSh4
import Derived.RegionTactic
namespace Go.Proofs.YtpaeffmjkkikbaaGreatDoor
open Go.RowKit Go.Lib
set_option linter.unusedVariables false
set_option maxRecDepth 100000

theorem ib_at {c : UInt8} : ∀ (l : List UInt8) (k : Nat), l[k]? = some c → (∀ j, j < k → l[j]? ≠ some c) → indexByte l c = k
  | [], k, h, _ => by simp at h
  | b :: l, 0, h, _ => by
    simp at h
    subst h
    simp [indexByte]
  | b :: l, k + 1, h, hj => by
    have h0 : (b == c) = false := by
      rw [beq_eq_false_iff_ne]
      intro e
      exact hj 0 (by omega) (by simp [e])
    have h1 := ib_at l k (by simpa using h) (fun j hjk => by simpa using hj (j + 1) (by omega))
    have h2 : ((k : Int) == -1) = false := by rw [beq_eq_false_iff_ne]; omega
    rw [indexByte, h0, h1, h2]
    simp
theorem ib_lt {c : UInt8} : ∀ (l : List UInt8), indexByte l c = -1 ∨ ∃ k : Nat, indexByte l c = k ∧ k < l.length
  | [] => .inl rfl
  | b :: l => by
    rw [indexByte]
    by_cases h0 : (b == c) = true
    · rw [if_pos h0]; exact .inr ⟨0, rfl, by simp⟩
    · rw [if_neg h0]
      rcases ib_lt l with h | ⟨k, h, hk⟩
      · rw [h]; exact .inl rfl
      · have h2 : ((k : Int) == -1) = false := by rw [beq_eq_false_iff_ne]; omega
        rw [h, h2]
        exact .inr ⟨k + 1, by simp, by simp; omega⟩
/-- What stands behind the first dot. -/
def aftL (xs : List UInt8) : List UInt8 := if 0 ≤ indexByte xs 46 then xs.drop ((indexByte xs 46).toNat + 1) else []
theorem gok_aft {xs : List UInt8} {n : Nat} (h : gok xs n) : aftL xs = decDigits n := by
  obtain ⟨k, h1, h2, h3, _⟩ := gok_dot h
  have h4 := ib_at xs k h1 h3
  rw [aftL, h4, if_pos (by omega), ← h2]
  simp
theorem slCut_any (xs : List UInt8) (w : World) (h1 : xs.length ≤ 1048576) :
    Calls Tryz.prog 91 #[.string (bstr xs), .string ⟨#[46]⟩] w fun e w' => ∃ a f, e = .returned (.tuple #[.string a, .string (bstr (aftL xs)), .bool f]) ∧ Below w.heap.size w w' := by
  have hs : (bstr xs).size = xs.length := bstr_size xs
  have hI := fun w => Tryz.stringslite_Index_one (bstr xs) 46 w
  have hdx : (bstr xs).data.toList = xs := by simp [bstr]
  rw [hdx] at hI
  rcases ib_lt (c := 46) xs with h | ⟨k, h, hk⟩
  · have hA : aftL xs = [] := by rw [aftL, h]; rfl
    rw [h] at hI
    have HI := Lib.hid hI
    have HA := Lib.hid hA
    clear hI h hA
    rw [HA.out]
    go_enter Tryz.func91, Tryz.ntmps91
    go_wp2_with fail
    refine (HI.out _).mono ?_
    rintro e w1 ⟨rfl, rfl⟩
    go_wp2_with fail
    exact bodyPost_ret (v := .tuple #[.string (bstr xs), .string (bstr []), .bool false]) (by simp [results, Tryz.results91, go_sem, *, bstr]) rfl ⟨_, _, rfl, (by (repeat (first | exact Below.refl _ _ | (refine Below.alloc ?_ (by first | omega | (simp; done) | (simp; omega)) _) | (refine Below.drew ?_) | (refine below_drewN ?_ _) | (refine below_at1 ?_ (by first | omega | (simp; done) | (simp; omega))) | (refine Below.setCell ?_ (by first | omega | (simp; done) | (simp; omega)) _) | (refine Below.trans ?_ (Below.mono (by assumption) (by first | omega | (simp; done) | (simp; omega)))))))⟩
  · have hA : aftL xs = xs.drop (k + 1) := by rw [aftL, h, if_pos (by omega)]; simp
    rw [h] at hI
    have HI := Lib.hid hI
    have HA := Lib.hid hA
    clear hI h hA
    rw [HA.out]
    have hk' : (k : Int) < xs.length := by omega
    have hk1 : (k : Int) ≤ xs.length := by omega
    have hk2 : (k : Int) + 1 ≤ xs.length := by omega
    have hex : (bstr xs).extract (k + 1) xs.length = bstr (xs.drop (k + 1)) := bstr_drop xs (k + 1)
    go_enter Tryz.func91, Tryz.ntmps91
    go_wp2_with fail
    refine (HI.out _).mono ?_
    rintro e w1 ⟨rfl, rfl⟩
    go_wp2_with fail
    have ek : IntKind.i64.wrap ((k : Int) + 1) = (k : Int) + 1 := by rw [IntKind.wrap_i64]; omega
    have ek2 : IntKind.i64.wrap (k : Int) = (k : Int) := by rw [IntKind.wrap_i64]; omega
    have z0 : (0 : Int) ≤ (k : Int) := Int.natCast_nonneg k
    have z1 : (0 : Int) ≤ (k : Int) + 1 := by omega
    go_region
    all_goals (go_wp2_with fail; exact bodyPost_ret (v := .tuple #[.string ((bstr xs).extract 0 k), .string (bstr (xs.drop (k + 1))), .bool true]) (by simp [results, Tryz.results91, go_sem, *]) rfl ⟨_, _, rfl, (by (repeat (first | exact Below.refl _ _ | (refine Below.alloc ?_ (by first | omega | (simp; done) | (simp; omega)) _) | (refine Below.drew ?_) | (refine below_drewN ?_ _) | (refine below_at1 ?_ (by first | omega | (simp; done) | (simp; omega))) | (refine Below.setCell ?_ (by first | omega | (simp; done) | (simp; omega)) _) | (refine Below.trans ?_ (Below.mono (by assumption) (by first | omega | (simp; done) | (simp; omega)))))))⟩)
theorem cut_any (xs : List UInt8) (w : World) (h1 : xs.length ≤ 1048576) :
    Calls Tryz.prog 60 #[.string (bstr xs), .string ⟨#[46]⟩] w fun e w' => ∃ a f, e = .returned (.tuple #[.string a, .string (bstr (aftL xs)), .bool f]) ∧ Below w.heap.size w w' := by
  go_enter Tryz.func60, Tryz.ntmps60
  go_wp2_with fail
  refine (slCut_any xs w h1).mono ?_
  rintro e w1 ⟨a, f, rfl, hb1⟩
  go_wp2_with fail
  exact bodyPost_ret (v := .tuple #[.string a, .string (bstr (aftL xs)), .bool f]) (by simp [results, Tryz.results60, go_sem, *]) rfl ⟨_, _, rfl, hb1⟩
theorem aft_len {xs : List UInt8} : (aftL xs).length ≤ xs.length := by
  unfold aftL
  split
  · simp
  · simp
set_option maxHeartbeats 2000000 in
theorem genOf_impl (xs : List UInt8) (w : World) (h1 : xs.length ≤ 1048576) (hl : Lv w) :
    Calls Tryz.prog 30 #[.string (bstr xs)] w fun e w' => ∃ v, e = .returned v ∧ goP xs v ∧ Below w.heap.size w w' := by
  have hal := aft_len (xs := xs)
  have hT := fun w hl => textNum_impl (aftL xs) w (by omega) hl
  cases htn : tnB (aftL xs) with
  | false =>
    rw [tnVal_no htn] at hT
    have HG : Hid (∀ n, ¬ gok xs n) := by
      show ∀ n, _
      intro n hg
      rw [gok_aft hg, tn_dec (by have := hg.2.1; omega)] at htn
      cases htn
    have HT := Lib.hid hT
    clear hT htn
    go_enter Tryz.func30, Tryz.ntmps30
    go_wp2_with fail
    refine (cut_any xs w h1).mono ?_
    rintro e w1 ⟨a, f, rfl, hb1⟩
    go_wp2_with fail
    refine (HT.out _ (hl.below hb1 (Nat.le_refl _))).mono ?_
    rintro e w2 ⟨rfl, hb2⟩
    go_wp2_with fail
    exact bodyPost_ret (v := .tuple #[.int .i64 0, .bool false]) (by simp [results, Tryz.results30, go_sem, *]) rfl ⟨_, rfl, .inr ⟨HG.out, rfl⟩, hb1.trans (hb2.mono hb1.size)⟩
  | true =>
    obtain ⟨n, hn, hrest⟩ := tn_iff.1 htn
    rw [tnVal_yes htn, hrest, valF_dec] at hT
    have huq : ∀ m, gok xs m → m = n := fun m hg => dec_inj ((gok_aft hg).symm.trans hrest)
    have HT := Lib.hid hT
    clear hT htn hal
    have hn2 : (n : Int) ≤ 4294967295 := by omega
    cases hgb : genB n with
    | false =>
      have HB := Lib.hid hgb
      have HG : Hid (∀ m, ¬ gok xs m) := by
        show ∀ m, _
        intro m hg
        obtain rfl := huq m hg
        have h3 := of_decide_eq_false hgb
        exact h3 ⟨by have := hg.1; omega, by have := hg.2.1; omega⟩
      have HC := Lib.hid (cut_any xs w h1)
      rw [hrest] at HC
      clear hgb huq
      go_enter Tryz.func30, Tryz.ntmps30
      go_wp2_with fail
      refine HC.out.mono ?_
      rintro e w1 ⟨a, f, rfl, hb1⟩
      go_wp2_with fail
      refine (HT.out _ (hl.below hb1 (Nat.le_refl _))).mono ?_
      rintro e w2 ⟨rfl, hb2⟩
      go_wp2_with fail
      refine (isGen_any n w2).mono ?_
      rintro e w3 ⟨he, rfl⟩
      rw [HB.out] at he
      subst he
      go_wp2_with fail
      exact bodyPost_ret (v := .tuple #[.int .i64 0, .bool false]) (by simp [results, Tryz.results30, go_sem, *]) rfl ⟨_, rfl, .inr ⟨HG.out, rfl⟩, hb1.trans (hb2.mono hb1.size)⟩
    | true =>
      have HB := Lib.hid hgb
      have hg1 := (of_decide_eq_true hgb).1
      have hne : xs ≠ [] := by
        intro e
        rw [e] at hrest
        exact dec_ne n hrest.symm
      have HC := Lib.hid (cut_any xs w h1)
      rw [hrest] at HC
      have hl2 : ∀ w' : World, Below w.heap.size w w' → Lv w' := fun w' h => hl.below h (Nat.le_refl _)
      have HL := Lib.hid hl2
      clear hgb hl2 hrest
      by_cases hq1 : nmL snapS n = xs
      · have HG := Lib.hid ((nm_gok hne).1 (.inl hq1))
        have e1 : ((bstr xs).toList == (bstr (nmL snapS n)).toList) = true := by rw [hq1]; simp
        clear huq hq1
        go_enter Tryz.func30, Tryz.ntmps30
        go_wp2_with fail
        refine HC.out.mono ?_
        rintro e w1 ⟨a, f, rfl, hb1⟩
        go_wp2_with fail
        refine (HT.out _ (HL.out _ hb1)).mono ?_
        rintro e w2 ⟨rfl, hb2⟩
        have t2 := hb1.trans (hb2.mono hb1.size)
        go_wp2_with fail
        refine (isGen_any n w2).mono ?_
        rintro e w3 ⟨he, rfl⟩
        rw [HB.out] at he
        subst he
        go_wp2_with fail
        refine (snapName_impl n w2 ⟨by omega, by omega⟩ (HL.out _ t2).1).mono ?_
        rintro e w4 ⟨rfl, hb4⟩
        go_wp2_with fail
        exact bodyPost_ret (v := .tuple #[.int .i64 n, .bool true]) (by simp [results, Tryz.results30, go_sem, *]) rfl ⟨_, rfl, .inl ⟨n, HG.out, rfl⟩, t2.trans (hb4.mono t2.size)⟩
      have e1 : ((bstr xs).toList == (bstr (nmL snapS n)).toList) = false := by rw [bstr_tl, bstr_tl, beq_eq_false_iff_ne]; exact fun e => hq1 e.symm
      by_cases hq2 : nmL logS n = xs
      · have HG := Lib.hid ((nm_gok hne).1 (.inr hq2))
        have e2 : ((bstr xs).toList == (bstr (nmL logS n)).toList) = true := by rw [hq2]; simp
        clear huq hq1 hq2
        go_enter Tryz.func30, Tryz.ntmps30
        go_wp2_with fail
        refine HC.out.mono ?_
        rintro e w1 ⟨a, f, rfl, hb1⟩
        go_wp2_with fail
        refine (HT.out _ (HL.out _ hb1)).mono ?_
        rintro e w2 ⟨rfl, hb2⟩
        have t2 := hb1.trans (hb2.mono hb1.size)
        go_wp2_with fail
        refine (isGen_any n w2).mono ?_
        rintro e w3 ⟨he, rfl⟩
        rw [HB.out] at he
        subst he
        go_wp2_with fail
        refine (snapName_impl n w2 ⟨by omega, by omega⟩ (HL.out _ t2).1).mono ?_
        rintro e w4 ⟨rfl, hb4⟩
        have t4 := t2.trans (hb4.mono t2.size)
        go_wp2_with fail
        refine (logName_impl n w4 ⟨by omega, by omega⟩ (HL.out _ t4).1).mono ?_
        rintro e w5 ⟨rfl, hb5⟩
        go_wp2_with fail
        exact bodyPost_ret (v := .tuple #[.int .i64 n, .bool true]) (by simp [results, Tryz.results30, go_sem, *]) rfl ⟨_, rfl, .inl ⟨n, HG.out, rfl⟩, t4.trans (hb5.mono t4.size)⟩
      · have HG : Hid (∀ m, ¬ gok xs m) := by
          show ∀ m, _
          intro m hg
          obtain rfl := huq m hg
          rcases (nm_gok hne).2 hg with h | h
          · exact hq1 h
          · exact hq2 h
        have e2 : ((bstr xs).toList == (bstr (nmL logS n)).toList) = false := by rw [bstr_tl, bstr_tl, beq_eq_false_iff_ne]; exact fun e => hq2 e.symm
        clear huq hq1 hq2
        go_enter Tryz.func30, Tryz.ntmps30
        go_wp2_with fail
        refine HC.out.mono ?_
        rintro e w1 ⟨a, f, rfl, hb1⟩
        go_wp2_with fail
        refine (HT.out _ (HL.out _ hb1)).mono ?_
        rintro e w2 ⟨rfl, hb2⟩
        have t2 := hb1.trans (hb2.mono hb1.size)
        go_wp2_with fail
        refine (isGen_any n w2).mono ?_
        rintro e w3 ⟨he, rfl⟩
        rw [HB.out] at he
        subst he
        go_wp2_with fail
        refine (snapName_impl n w2 ⟨by omega, by omega⟩ (HL.out _ t2).1).mono ?_
        rintro e w4 ⟨rfl, hb4⟩
        have t4 := t2.trans (hb4.mono t2.size)
        go_wp2_with fail
        refine (logName_impl n w4 ⟨by omega, by omega⟩ (HL.out _ t4).1).mono ?_
        rintro e w5 ⟨rfl, hb5⟩
        go_wp2_with fail
        exact bodyPost_ret (v := .tuple #[.int .i64 0, .bool false]) (by simp [results, Tryz.results30, go_sem, *]) rfl ⟨_, rfl, .inr ⟨HG.out, rfl⟩, t4.trans (hb5.mono t4.size)⟩
end Go.Proofs.YtpaeffmjkkikbaaGreatDoor
