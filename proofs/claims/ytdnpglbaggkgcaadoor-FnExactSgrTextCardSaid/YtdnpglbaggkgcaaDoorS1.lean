/- An attribute's text: the reference's way. -/
import Derived.Test.YtdnpglbaggkgcaaDoorRB
namespace Go.Proofs.YtdnpglbaggkgcaaDoor
open Go.RowKit Go.Lib
set_option linter.unusedVariables false
set_option maxRecDepth 100000

/-- What SgrText answers. -/
def sgL (f b : Int) (x y z : Bool) : List UInt8 :=
  if attrOkB f b = true then [27, 91, 48] ++ (if x = true then [59, 49] else []) ++ (if y = true then [59, 52] else []) ++ (if z = true then [59, 55] else []) ++ (if f = 0 then [] else 59 :: ntL (f + 29)) ++ (if b = 0 then [] else 59 :: ntL (b + 39)) ++ [109] else []
theorem sg_no {f b : Int} {x y z : Bool} (h : attrOkB f b = false) : sgL f b x y z = [] := if_neg (by rw [h]; simp)
theorem sg_yes {f b : Int} {x y z : Bool} (h : attrOkB f b = true) : sgL f b x y z = [27, 91, 48] ++ (if x = true then [59, 49] else []) ++ (if y = true then [59, 52] else []) ++ (if z = true then [59, 55] else []) ++ (if f = 0 then [] else 59 :: ntL (f + 29)) ++ (if b = 0 then [] else 59 :: ntL (b + 39)) ++ [109] := if_pos h
/-- Two figures. -/
theorem nt_two {n : Int} (h1 : 10 ≤ n) (h2 : n ≤ 99) : ∃ u v : UInt8, ntL n = [u, v] := by
  obtain ⟨k, rfl⟩ := Int.eq_ofNat_of_zero_le (show 0 ≤ n by omega)
  obtain ⟨d, _, h⟩ := nt_big (n := k) (by omega) (by omega)
  obtain ⟨c, _, h'⟩ := nt_small (n := k / 10) (by omega)
  exact ⟨c, d, by rw [h, h']; rfl⟩
set_option maxHeartbeats 4000000 in
theorem sgrText_spec (f b : Int) (x y z : Bool) (w : World) :
    Calls Tryd.prog 25 #[.agg #[.int .i64 f, .int .i64 b, .bool x, .bool y, .bool z]] w fun e w' => e = .returned (.string (bstr (sgL f b x y z))) ∧ Below w.heap.size w w' := by
  cases hok : attrOkB f b with
  | false =>
    have HR := Lib.hid (sg_no (x := x) (y := y) (z := z) hok)
    have HO := Lib.hid hok
    clear hok
    rw [HR.out]
    go_enter Tryd.func25, Tryd.ntmps25
    go_wp2_with (go_at_call 37; refine (attrOk_spec _ _ _ _ _ _).mono ?_; rintro e w' ⟨he, o, rfl⟩; rw [HO.out] at he; subst he)
    go_ret
    exact ⟨rfl, (by (repeat (first | exact Below.refl _ _ | (refine Below.alloc ?_ (by first | omega | (simp; done) | (simp; omega)) _) | (refine Below.drew ?_) | (refine below_drewN ?_ _) | (refine below_at1 ?_ (by first | omega | (simp; done) | (simp; omega))) | (refine Below.setCell ?_ (by first | omega | (simp; done) | (simp; omega)) _) | (refine Below.trans ?_ (Below.mono (by assumption) (by first | omega | (simp; done) | (simp; omega)))))))⟩
  | true =>
    have HR := Lib.hid (sg_yes (x := x) (y := y) (z := z) hok)
    have HO := Lib.hid hok
    obtain ⟨hf0, hf8, hb0, hb8⟩ := of_decide_eq_true hok
    clear hok
    obtain ⟨u, v, huv⟩ := nt_two (n := f + 29) (by omega) (by omega)
    obtain ⟨u', v', huv'⟩ := nt_two (n := b + 39) (by omega) (by omega)
    rw [huv, huv'] at HR
    have hF := fun w => numText_spec (f + 29) w ⟨by omega, by omega⟩
    have hB := fun w => numText_spec (b + 39) w ⟨by omega, by omega⟩
    rw [huv] at hF
    rw [huv'] at hB
    have HF := Lib.hid hF
    have HB := Lib.hid hB
    clear hF hB huv huv'
    have z1 : (bstr [u, v]).size = 2 := bstr_size _
    have z2 : (bstr [u', v']).size = 2 := bstr_size _
    by_cases h1 : f = 0
    case neg =>
      have g1 : (0 : Int) < f := by omega
      by_cases h2 : b = 0
      case neg =>
        have g2 : (0 : Int) < b := by omega
        go_enter Tryd.func25, Tryd.ntmps25
        cases x <;> cases y <;> cases z
        all_goals (go_wp2_with (first | (go_at_call 37; refine (attrOk_spec _ _ _ _ _ _).mono ?_; rintro e w' ⟨he, o, rfl⟩; rw [HO.out] at he; subst he) | (go_at_call_of 10 f; refine (HF.out _).mono ?_; rintro e w1 ⟨rfl, hb1⟩; obtain ⟨B1, q1, r1, y1⟩ := keep_blk hb1 (g := w.heap.size) (by repeat (first | assumption | exact heap_alloc_at _ (by first | rfl | (simp; done) | omega) | refine heap_alloc_of _ ?_ | refine heap_setCell_of _ (by first | omega | (simp; done) | (simp; omega)) ?_ | refine heap_setCell_same _ ?_ | exact heap_at1_same (by first | omega | (simp; done) | (simp; omega)) | refine heap_at1_of (by first | omega | (simp; done) | (simp; omega)) ?_)); have t1 : Below w.heap.size w w1 := Below.trans (by (repeat (first | exact Below.refl _ _ | (refine Below.alloc ?_ (by first | omega | (simp; done) | (simp; omega)) _) | (refine Below.drew ?_) | (refine below_drewN ?_ _) | (refine below_at1 ?_ (by first | omega | (simp; done) | (simp; omega))) | (refine Below.setCell ?_ (by first | omega | (simp; done) | (simp; omega)) _) | (refine Below.trans ?_ (Below.mono (by assumption) (by first | omega | (simp; done) | (simp; omega))))))) (hb1.mono (by simp; omega))) | (go_at_call_of 10 b; refine (HB.out _).mono ?_; rintro e w2 ⟨rfl, hb2⟩; first | (have t2 : Below w.heap.size w w2 := t1.trans (hb2.mono t1.size)) | (have t2 : Below w.heap.size w w2 := Below.trans (by (repeat (first | exact Below.refl _ _ | (refine Below.alloc ?_ (by first | omega | (simp; done) | (simp; omega)) _) | (refine Below.drew ?_) | (refine below_drewN ?_ _) | (refine below_at1 ?_ (by first | omega | (simp; done) | (simp; omega))) | (refine Below.setCell ?_ (by first | omega | (simp; done) | (simp; omega)) _) | (refine Below.trans ?_ (Below.mono (by assumption) (by first | omega | (simp; done) | (simp; omega))))))) (hb2.mono (by simp; omega))))))
        all_goals exact bodyPost_ret (v := .string (bstr (sgL f b _ _ _))) (by simp [results, Tryd.results25, go_sem, *, HR.out, bstr, ByteArray.mk_append_mk]) rfl ⟨rfl, t2⟩
      case pos =>
        have g2 : ¬ (0 : Int) < b := by omega
        rw [show (if b = 0 then ([] : List UInt8) else [59, u', v']) = [] from if_pos h2] at HR
        clear h2
        go_enter Tryd.func25, Tryd.ntmps25
        cases x <;> cases y <;> cases z
        all_goals (go_wp2_with (first | (go_at_call 37; refine (attrOk_spec _ _ _ _ _ _).mono ?_; rintro e w' ⟨he, o, rfl⟩; rw [HO.out] at he; subst he) | (go_at_call_of 10 f; refine (HF.out _).mono ?_; rintro e w1 ⟨rfl, hb1⟩; obtain ⟨B1, q1, r1, y1⟩ := keep_blk hb1 (g := w.heap.size) (by repeat (first | assumption | exact heap_alloc_at _ (by first | rfl | (simp; done) | omega) | refine heap_alloc_of _ ?_ | refine heap_setCell_of _ (by first | omega | (simp; done) | (simp; omega)) ?_ | refine heap_setCell_same _ ?_ | exact heap_at1_same (by first | omega | (simp; done) | (simp; omega)) | refine heap_at1_of (by first | omega | (simp; done) | (simp; omega)) ?_)); have t1 : Below w.heap.size w w1 := Below.trans (by (repeat (first | exact Below.refl _ _ | (refine Below.alloc ?_ (by first | omega | (simp; done) | (simp; omega)) _) | (refine Below.drew ?_) | (refine below_drewN ?_ _) | (refine below_at1 ?_ (by first | omega | (simp; done) | (simp; omega))) | (refine Below.setCell ?_ (by first | omega | (simp; done) | (simp; omega)) _) | (refine Below.trans ?_ (Below.mono (by assumption) (by first | omega | (simp; done) | (simp; omega))))))) (hb1.mono (by simp; omega)))))
        all_goals exact bodyPost_ret (v := .string (bstr (sgL f b _ _ _))) (by simp [results, Tryd.results25, go_sem, *, HR.out, bstr, ByteArray.mk_append_mk]) rfl ⟨rfl, t1⟩
    case pos =>
      have g1 : ¬ (0 : Int) < f := by omega
      rw [show (if f = 0 then ([] : List UInt8) else [59, u, v]) = [] from if_pos h1] at HR
      clear h1
      by_cases h2 : b = 0
      case neg =>
        have g2 : (0 : Int) < b := by omega
        go_enter Tryd.func25, Tryd.ntmps25
        cases x <;> cases y <;> cases z
        all_goals (go_wp2_with (first | (go_at_call 37; refine (attrOk_spec _ _ _ _ _ _).mono ?_; rintro e w' ⟨he, o, rfl⟩; rw [HO.out] at he; subst he) | (go_at_call_of 10 b; refine (HB.out _).mono ?_; rintro e w2 ⟨rfl, hb2⟩; first | (have t2 : Below w.heap.size w w2 := t1.trans (hb2.mono t1.size)) | (have t2 : Below w.heap.size w w2 := Below.trans (by (repeat (first | exact Below.refl _ _ | (refine Below.alloc ?_ (by first | omega | (simp; done) | (simp; omega)) _) | (refine Below.drew ?_) | (refine below_drewN ?_ _) | (refine below_at1 ?_ (by first | omega | (simp; done) | (simp; omega))) | (refine Below.setCell ?_ (by first | omega | (simp; done) | (simp; omega)) _) | (refine Below.trans ?_ (Below.mono (by assumption) (by first | omega | (simp; done) | (simp; omega))))))) (hb2.mono (by simp; omega))))))
        all_goals exact bodyPost_ret (v := .string (bstr (sgL f b _ _ _))) (by simp [results, Tryd.results25, go_sem, *, HR.out, bstr, ByteArray.mk_append_mk]) rfl ⟨rfl, t2⟩
      case pos =>
        have g2 : ¬ (0 : Int) < b := by omega
        rw [show (if b = 0 then ([] : List UInt8) else [59, u', v']) = [] from if_pos h2] at HR
        clear h2
        go_enter Tryd.func25, Tryd.ntmps25
        cases x <;> cases y <;> cases z
        all_goals (go_wp2_with (first | (go_at_call 37; refine (attrOk_spec _ _ _ _ _ _).mono ?_; rintro e w' ⟨he, o, rfl⟩; rw [HO.out] at he; subst he)))
        all_goals exact bodyPost_ret (v := .string (bstr (sgL f b _ _ _))) (by simp [results, Tryd.results25, go_sem, *, HR.out, bstr, ByteArray.mk_append_mk]) rfl ⟨rfl, (by (repeat (first | exact Below.refl _ _ | (refine Below.alloc ?_ (by first | omega | (simp; done) | (simp; omega)) _) | (refine Below.drew ?_) | (refine below_drewN ?_ _) | (refine below_at1 ?_ (by first | omega | (simp; done) | (simp; omega))) | (refine Below.setCell ?_ (by first | omega | (simp; done) | (simp; omega)) _) | (refine Below.trans ?_ (Below.mono (by assumption) (by first | omega | (simp; done) | (simp; omega)))))))⟩
end Go.Proofs.YtdnpglbaggkgcaaDoor
