/- A grid of blanks: both ways. -/
import Derived.Test.YtnilgcahggmncaaN5
import Derived.Test.YtnilgcahggmncaaGm
namespace Go.Proofs.Ytnilgcahggmncaa
open Go.RowKit
set_option linter.unusedVariables false
set_option maxRecDepth 100000

def gnR (W H : Int) : Gr × Bool := if (1 ≤ W ∧ W ≤ 120) ∧ (1 ≤ H ∧ H ≤ 120) ∧ W * H ≤ 4000 then ((W, H, List.replicate (W * H).toNat bk), true) else (gr0, false)
theorem gn_no {W H : Int} (h : ¬ ((1 ≤ W ∧ W ≤ 120) ∧ (1 ≤ H ∧ H ≤ 120) ∧ W * H ≤ 4000)) : gnR W H = (gr0, false) := if_neg h
theorem gn_yes {a b n : Nat} (hn : n = b * a) (h : (1 ≤ a ∧ a ≤ 120) ∧ (1 ≤ b ∧ b ≤ 120) ∧ n ≤ 4000) : gnR a b = (((a : Int), (b : Int), List.replicate n bk), true) := by
  have e : (a : Int) * (b : Int) = (n : Int) := by rw [hn, Int.mul_comm]; exact (Int.natCast_mul b a).symm
  unfold gnR
  rw [e, if_pos (by omega)]
  rfl
theorem gn_len (W H : Int) : (gnR W H).1.2.2.length ≤ 4000 := by
  unfold gnR
  split
  · rename_i h
    show (List.replicate _ _).length ≤ 4000
    rw [List.length_replicate]
    omega
  · simp
def GnPost (w : World) (R : Gr × Bool) (e : Ending) (w' : World) : Prop :=
  ∃ A' c', e = .returned (.tuple #[gV R.1.1 R.1.2.1 A' R.1.2.2.length c', .bool R.2]) ∧ Og w' w.heap.size A' c' R.1.2.2 ∧ Below w.heap.size w w'
theorem gn_nil {w w' : World} (hb : Below w.heap.size w w') : GnPost w (gr0, false) (.returned (.tuple #[.agg #[.int .i64 0, .int .i64 0, .slice none 0 0], .bool false])) w' :=
  ⟨none, 0, rfl, ownsG_nil _ _ _ _, hb⟩
theorem size_no {W H : Int} (h : sizeB W H = false) : gnR W H = (gr0, false) := by
  apply gn_no
  intro k
  rw [sizeB, decide_eq_false_iff_not] at h
  exact h ⟨k.1.1, k.1.2, k.2.1.1, k.2.1.2, k.2.2⟩
set_option maxHeartbeats 2000000 in
theorem gridNew_impl (W H : Int) (w : World) : Calls Try.prog 22 #[.int .i64 W, .int .i64 H] w (GnPost w (gnR W H)) := by
  cases hs : sizeB W H with
  | false =>
    have HS := Lib.hid hs
    rw [size_no hs]
    clear hs
    go_enter Try.func22, Try.ntmps22
    go_wp2_with (go_at_call 64; refine (isSize_any _ _ _).mono ?_; rintro e w' ⟨he, rfl⟩; rw [HS.out] at he; subst he)
    exact bodyPost_ret (v := .tuple #[.agg #[.int .i64 0, .int .i64 0, .slice none 0 0], .bool false]) (by simp [results, Try.results22, go_sem, *]) rfl (gn_nil (by (repeat (first | exact Below.refl _ _ | (refine Below.alloc ?_ (by first | omega | (simp; done) | (simp; omega)) _) | (refine Below.drew ?_) | (refine below_drewN ?_ _) | (refine below_at1 ?_ (by first | omega | (simp; done) | (simp; omega))) | (refine Below.setCell ?_ (by first | omega | (simp; done) | (simp; omega)) _) | (refine Below.trans ?_ (Below.mono (by assumption) (by first | omega | (simp; done) | (simp; omega))))))))
  | true =>
    have HS := Lib.hid hs
    obtain ⟨s1, s2, s3, s4, s5⟩ := of_decide_eq_true hs
    clear hs
    obtain ⟨a, rfl⟩ := Int.eq_ofNat_of_zero_le (show 0 ≤ W by omega)
    obtain ⟨b, rfl⟩ := Int.eq_ofNat_of_zero_le (show 0 ≤ H by omega)
    obtain ⟨n, hn⟩ : ∃ n, Hid (n = b * a) := ⟨_, rfl⟩
    have e : (a : Int) * (b : Int) = (n : Int) := by rw [hn.out, Int.mul_comm]; exact (Int.natCast_mul b a).symm
    rw [e] at s5
    have h1 : 1 ≤ n := by rw [hn.out]; exact Nat.mul_le_mul (show 1 ≤ b by omega) (show 1 ≤ a by omega)
    have h2 : n ≤ 4000 := by omega
    rw [gn_yes hn.out ⟨⟨by omega, by omega⟩, ⟨by omega, by omega⟩, h2⟩]
    clear e s5
    have hb0 : Below w.heap.size w (w.alloc (.cells #[.int .i64 0, .int .i64 0, .slice none 0 0] 29)) := (Below.refl _ _).alloc (Nat.le_refl _) _
    go_enter Try.func22, Try.ntmps22
    go_wp2_with (go_at_call 64; refine (isSize_any _ _ _).mono ?_; rintro e w' ⟨he, hw⟩; replace hw := hw.symm; subst hw; rw [HS.out] at he; subst he)
    refine (gridOf_any a b n _ hn h1 h2).mono ?_
    rintro e w2 ⟨A2, c2, rfl, ho2, _, _, hb2⟩
    rw [List.length_replicate]
    obtain ⟨C2, qq2, rr2, zz2⟩ := keep_blk hb2 (g := w.heap.size) (by repeat (first | assumption | exact heap_alloc_at _ (by first | rfl | (simp; done) | omega) | refine heap_alloc_of _ ?_ | refine heap_setCell_of _ (by first | omega | (simp; done) | (simp; omega)) ?_ | refine heap_setCell_same _ ?_ | exact heap_at1_same (by first | omega | (simp; done) | (simp; omega)) | refine heap_at1_of (by first | omega | (simp; done) | (simp; omega)) ?_))
    have t2 := hb0.trans (hb2.mono hb0.size)
    go_wp2_with fail
    have ho3 := (((ho2.setCell (p := ⟨w.heap.size, 0, none⟩) (by first | omega | (simp; done) | (simp; omega)) (.int .i64 a)).setCell (p := ⟨w.heap.size, 1, none⟩) (by first | omega | (simp; done) | (simp; omega)) (.int .i64 b)).setCell (p := ⟨w.heap.size, 2, none⟩) (by first | omega | (simp; done) | (simp; omega)) (.slice A2 n c2))
    refine bodyPost_ret (v := .tuple #[gV a b A2 n c2, .bool true]) (by simp [results, Try.results22, go_sem, *]) rfl ?_
    exact ⟨A2, c2, by simp, ho3.mono (by first | omega | (simp; done) | (simp; omega)), ((t2.setCell (by first | omega | (simp; done) | (simp; omega)) _).setCell (by first | omega | (simp; done) | (simp; omega)) _).setCell (by first | omega | (simp; done) | (simp; omega)) _⟩
set_option maxHeartbeats 8000000 in
theorem gridNew_spec (W H : Int) (w : World) : Calls Try.prog 70 #[.int .i64 W, .int .i64 H] w (GnPost w (gnR W H)) := by
  by_cases k0 : W < 1
  · have HR := Lib.hid (gn_no (W := W) (H := H) (by omega))
    rw [HR.out]
    go_enter Try.func70, Try.ntmps70
    go_wp2_with fail
    exact bodyPost_ret (v := .tuple #[.agg #[.int .i64 0, .int .i64 0, .slice none 0 0], .bool false]) (by simp [results, Try.results70, go_sem, *]) rfl (gn_nil (by (repeat (first | exact Below.refl _ _ | (refine Below.alloc ?_ (by first | omega | (simp; done) | (simp; omega)) _) | (refine Below.drew ?_) | (refine below_drewN ?_ _) | (refine below_at1 ?_ (by first | omega | (simp; done) | (simp; omega))) | (refine Below.setCell ?_ (by first | omega | (simp; done) | (simp; omega)) _) | (refine Below.trans ?_ (Below.mono (by assumption) (by first | omega | (simp; done) | (simp; omega))))))))
  by_cases k1 : 120 < W
  · have HR := Lib.hid (gn_no (W := W) (H := H) (by omega))
    rw [HR.out]
    go_enter Try.func70, Try.ntmps70
    go_wp2_with fail
    exact bodyPost_ret (v := .tuple #[.agg #[.int .i64 0, .int .i64 0, .slice none 0 0], .bool false]) (by simp [results, Try.results70, go_sem, *]) rfl (gn_nil (by (repeat (first | exact Below.refl _ _ | (refine Below.alloc ?_ (by first | omega | (simp; done) | (simp; omega)) _) | (refine Below.drew ?_) | (refine below_drewN ?_ _) | (refine below_at1 ?_ (by first | omega | (simp; done) | (simp; omega))) | (refine Below.setCell ?_ (by first | omega | (simp; done) | (simp; omega)) _) | (refine Below.trans ?_ (Below.mono (by assumption) (by first | omega | (simp; done) | (simp; omega))))))))
  by_cases k2 : H < 1
  · have HR := Lib.hid (gn_no (W := W) (H := H) (by omega))
    rw [HR.out]
    go_enter Try.func70, Try.ntmps70
    go_wp2_with fail
    exact bodyPost_ret (v := .tuple #[.agg #[.int .i64 0, .int .i64 0, .slice none 0 0], .bool false]) (by simp [results, Try.results70, go_sem, *]) rfl (gn_nil (by (repeat (first | exact Below.refl _ _ | (refine Below.alloc ?_ (by first | omega | (simp; done) | (simp; omega)) _) | (refine Below.drew ?_) | (refine below_drewN ?_ _) | (refine below_at1 ?_ (by first | omega | (simp; done) | (simp; omega))) | (refine Below.setCell ?_ (by first | omega | (simp; done) | (simp; omega)) _) | (refine Below.trans ?_ (Below.mono (by assumption) (by first | omega | (simp; done) | (simp; omega))))))))
  by_cases k3 : 120 < H
  · have HR := Lib.hid (gn_no (W := W) (H := H) (by omega))
    rw [HR.out]
    go_enter Try.func70, Try.ntmps70
    go_wp2_with fail
    exact bodyPost_ret (v := .tuple #[.agg #[.int .i64 0, .int .i64 0, .slice none 0 0], .bool false]) (by simp [results, Try.results70, go_sem, *]) rfl (gn_nil (by (repeat (first | exact Below.refl _ _ | (refine Below.alloc ?_ (by first | omega | (simp; done) | (simp; omega)) _) | (refine Below.drew ?_) | (refine below_drewN ?_ _) | (refine below_at1 ?_ (by first | omega | (simp; done) | (simp; omega))) | (refine Below.setCell ?_ (by first | omega | (simp; done) | (simp; omega)) _) | (refine Below.trans ?_ (Below.mono (by assumption) (by first | omega | (simp; done) | (simp; omega))))))))
  obtain ⟨p1, p2⟩ := prod_bd (W := W) (H := H) (by omega) (by omega) (by omega) (by omega)
  by_cases k5 : 4000 < W * H
  · have HR := Lib.hid (gn_no (W := W) (H := H) (by omega))
    rw [HR.out]
    go_enter Try.func70, Try.ntmps70
    go_wp2_with fail
    exact bodyPost_ret (v := .tuple #[.agg #[.int .i64 0, .int .i64 0, .slice none 0 0], .bool false]) (by simp [results, Try.results70, go_sem, *]) rfl (gn_nil (by (repeat (first | exact Below.refl _ _ | (refine Below.alloc ?_ (by first | omega | (simp; done) | (simp; omega)) _) | (refine Below.drew ?_) | (refine below_drewN ?_ _) | (refine below_at1 ?_ (by first | omega | (simp; done) | (simp; omega))) | (refine Below.setCell ?_ (by first | omega | (simp; done) | (simp; omega)) _) | (refine Below.trans ?_ (Below.mono (by assumption) (by first | omega | (simp; done) | (simp; omega))))))))
  obtain ⟨a, rfl⟩ := Int.eq_ofNat_of_zero_le (show 0 ≤ W by omega)
  obtain ⟨b, rfl⟩ := Int.eq_ofNat_of_zero_le (show 0 ≤ H by omega)
  obtain ⟨n, hn⟩ : ∃ n, Hid (n = b * a) := ⟨_, rfl⟩
  have ep : (a : Int) * (b : Int) = (n : Int) := by rw [hn.out, Int.mul_comm]; exact (Int.natCast_mul b a).symm
  rw [ep] at p1 p2 k5
  have h1 : 1 ≤ n := by omega
  have h2 : n ≤ 4000 := by omega
  rw [gn_yes hn.out ⟨⟨by omega, by omega⟩, ⟨by omega, by omega⟩, h2⟩]
  have HEP := Lib.hid ep
  have hb0 : Below w.heap.size w ((w.alloc (.cells #[.int .i64 0, .int .i64 0, .slice none 0 0] 29)).alloc (.cells #[.int .i64 a, .int .i64 b, .slice none 0 0] 29)) := by (repeat (first | exact Below.refl _ _ | (refine Below.alloc ?_ (by first | omega | (simp; done) | (simp; omega)) _) | (refine Below.drew ?_) | (refine below_drewN ?_ _) | (refine below_at1 ?_ (by first | omega | (simp; done) | (simp; omega))) | (refine Below.setCell ?_ (by first | omega | (simp; done) | (simp; omega)) _) | (refine Below.trans ?_ (Below.mono (by assumption) (by first | omega | (simp; done) | (simp; omega))))))
  go_enter Try.func70, Try.ntmps70
  go_wp2_with fail
  clear ep
  go_loopw [7] (fun i wr => ∃ (k c : Nat) (A : Option Addr), k ≤ n ∧ i = .int .i64 k ∧ Og wr (w.heap.size + 2) A c (List.replicate k bk) ∧ Hid (wr.heap[w.heap.size]? = (some (.cells #[.int .i64 0, .int .i64 0, .slice none 0 0] 29 (0, 0)))) ∧ Hid (wr.heap[w.heap.size + 1]? = some (.cells #[.int .i64 a, .int .i64 b, .slice A k c] 29 (0, 0))) ∧ Below w.heap.size w wr ∧ w.heap.size + 2 ≤ wr.heap.size) (fun i _ => n - (intOf i).toNat)
  case atStart => exact ⟨0, 0, none, Nat.zero_le _, rfl, ownsG_nil _ _ _ _, (by repeat (first | assumption | exact heap_alloc_at _ (by first | rfl | (simp; done) | omega) | refine heap_alloc_of _ ?_ | refine heap_setCell_of _ (by first | omega | (simp; done) | (simp; omega)) ?_ | refine heap_setCell_same _ ?_ | exact heap_at1_same (by first | omega | (simp; done) | (simp; omega)) | refine heap_at1_of (by first | omega | (simp; done) | (simp; omega)) ?_)), (by repeat (first | assumption | exact heap_alloc_at _ (by first | rfl | (simp; done) | omega) | refine heap_alloc_of _ ?_ | refine heap_setCell_of _ (by first | omega | (simp; done) | (simp; omega)) ?_ | refine heap_setCell_same _ ?_ | exact heap_at1_same (by first | omega | (simp; done) | (simp; omega)) | refine heap_at1_of (by first | omega | (simp; done) | (simp; omega)) ?_)), hb0, by simp⟩
  case round =>
    obtain ⟨k, c, A, hk, rfl, ho, hC, hD, hb, hs⟩ := hrel
    have qc : ∀ i, wr.cell? ⟨w.heap.size, i, none⟩ = _ := fun i => cell_of_row wr _ i _ _ (0, 0) hC.out
    have rc : ∀ i, wr.frozen? ⟨w.heap.size, i, none⟩ = false := fun i => by simp [World.frozen?, hC.out]
    have qd : ∀ i, wr.cell? ⟨w.heap.size + 1, i, none⟩ = _ := fun i => cell_of_row wr _ i _ _ (0, 0) hD.out
    by_cases hlt : k < n
    · have hlt' : (k : Int) < n := by omega
      have ep := HEP.out
      go_wp2_with fail
      clear ep
      go_region_law (first | (go_simp; go_at_call 125; refine (l07Blank_any _).mono ?_; rintro e w5 ⟨rfl, hb5'⟩; have hb5 : Below wr.heap.size wr w5 := (Below.drew (Below.refl _ _)).trans hb5'; obtain ⟨C5, qq5, rr5, zz5⟩ := keep_blk hb5 hC.out; obtain ⟨D5, qd5, rd5, zd5⟩ := keep_blk hb5 hD.out; have ho5 := ho.below hb5 (Nat.le_refl _); have zs5 := hb5.size; have t5 := hb.trans (hb5.mono hb.size); have v5 : Below w5.heap.size w5 (w5.alloc (.cells #[.int .i64 32, .int .i64 0, .int .i64 0, .bool false, .bool false, .bool false] 44)) := (Below.refl _ _).alloc (Nat.le_refl _) _; have t5' := t5.trans (v5.mono t5.size); have hlo5 : w.heap.size + 2 ≤ w5.heap.size := Nat.le_trans hs zs5) | (refine step_appG rfl _ _ rfl (w.heap.size + 2) _ _ (List.replicate k bk) _ _ [bk] (ho5.alloc _) (Gs.lit (x := bk)) (by simp) k 1 (by simp) rfl rfl rfl (by simp; omega) (by simp) (by simp; omega) ?_; intro A6 c6 w6 ho6 hb6; have C6 := (hb6.block w.heap.size (by omega)).trans (heap_alloc_of _ C5); have D6 := (hb6.block (w.heap.size + 1) (by omega)).trans (heap_alloc_of _ D5); have qd6 : (∀ i, w6.cell? ⟨w.heap.size + 1, i, none⟩ = _) := (fun i => cell_of_row w6 _ i _ _ (0, 0) D6); have rd6 : (∀ i, w6.frozen? ⟨w.heap.size + 1, i, none⟩ = false) := (fun i => by simp [World.frozen?, D6]); have zz6 := hb6.size))
      all_goals (
        go_wp2_with fail
        have eR : List.replicate k bk ++ [bk] = List.replicate (k + 1) bk := by rw [List.replicate_succ']
        have ho7 := ho6.out
        rw [eR] at ho7
        go_roundw
        case rel => exact ⟨k + 1, c6, A6, by omega, by go_num, ho7.setCell (by simp) _, Lib.hid (heap_setCell_of _ (by simp) C6), Lib.hid (heap_setCell_same _ D6), (t5'.trans (hb6.mono (by omega))).setCell (by simp) _, by simp at zz6 ⊢; omega⟩
        case measure => simp [intOf]; omega)
    · have hkn : k = n := by omega
      rw [hkn] at ho hD qd
      have hlt' : ¬ (k : Int) < n := by omega
      have ep := HEP.out
      have zr := (Array.getElem?_eq_some_iff.1 hC.out).1
      have hkn' : (k : Int) = n := by omega
      go_wp2_with fail
      clear ep
      have ho3 := (((ho.setCell (p := ⟨w.heap.size, 0, none⟩) (by first | omega | (simp; done) | (simp; omega)) (.int .i64 a)).setCell (p := ⟨w.heap.size, 1, none⟩) (by first | omega | (simp; done) | (simp; omega)) (.int .i64 b)).setCell (p := ⟨w.heap.size, 2, none⟩) (by first | omega | (simp; done) | (simp; omega)) (.slice A n c))
      refine bodyPost_ret (v := .tuple #[gV a b A n c, .bool true]) (by simp [results, Try.results70, go_sem, *]) rfl ?_
      exact ⟨A, c, by simp, ho3.mono (by first | omega | (simp; done) | (simp; omega)), ((hb.setCell (by first | omega | (simp; done) | (simp; omega)) _).setCell (by first | omega | (simp; done) | (simp; omega)) _).setCell (by first | omega | (simp; done) | (simp; omega)) _⟩
end Go.Proofs.Ytnilgcahggmncaa
