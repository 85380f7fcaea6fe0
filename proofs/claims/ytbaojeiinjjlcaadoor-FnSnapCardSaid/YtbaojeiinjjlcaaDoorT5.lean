/- What a decimal numeral spells: the program's way, and the law. -/
import Derived.Test.YtbaojeiinjjlcaaDoorT4
import Derived.Test.YtbaojeiinjjlcaaDoorSh2
import Derived.Lib.AtoiAllCases
namespace Go.Proofs.YtbaojeiinjjlcaaDoor
open Go.RowKit Go.Lib
set_option linter.unusedVariables false
set_option maxRecDepth 100000

/-- The variable at g holds some error. -/
def Ev (g : Nat) (w : World) : Prop := ∃ ev, w.cell? ⟨g, 0, none⟩ = some ev ∧ (ev = .nilIface ∨ ∃ te pe, ev = .iface te pe)
theorem Ev.below {g : Nat} {w w' : World} (h : Ev g w) {B : Nat} (hb : Below B w w') (hB : w.heap.size ≤ B) : Ev g w' := by
  obtain ⟨ev, hc, he⟩ := h
  have hl := World.block_lt_of_cell? w _ hc
  exact ⟨ev, (hb.cell (Nat.lt_of_lt_of_le hl hB)).trans hc, he⟩
/-- What the library's variables must hold. -/
def Lv (w : World) : Prop := Tb w ∧ Ev 0 w ∧ Ev 1 w
theorem Lv.below {w w' : World} (h : Lv w) {B : Nat} (hb : Below B w w') (hB : w.heap.size ≤ B) : Lv w' := ⟨h.1.below hb hB, h.2.1.below hb hB, h.2.2.below hb hB⟩
theorem tn_spell2 {xs : List UInt8} {v : Int} (hA : atoiAll xs = .ok v) : ((bstr (ntL v)).toList == (bstr xs).toList) = tnB xs := by
  rw [bstr_tl, bstr_tl]
  by_cases h : 0 ≤ v ∧ v ≤ 4294967295
  · rw [tn_of_atoi hA h.1 h.2, ntL, if_pos h, Bool.eq_iff_iff, beq_iff_eq, decide_eq_true_eq]
  · rw [tn_out hA h, nt_no h, beq_eq_false_iff_ne]
    intro e
    rw [← e] at hA
    simp [atoiAll] at hA
/-- Atoi at what is no int: an error that is not nil. -/
theorem atoi_err (xs : List UInt8) (w : World) (h1 : xs.length ≤ 1099511627776) (hno : ∀ v, atoiAll xs ≠ .ok v) (hv : Ev 0 w) (hv' : Ev 1 w) :
    Calls Tryd.prog 24 #[.string (bstr xs)] w fun e w' => ∃ z te pe, e = .returned (.tuple #[.int .i64 z, .iface te pe]) ∧ Below w.heap.size w w' := by
  have hs : (bstr xs).size = xs.length := bstr_size xs
  have hdx : (bstr xs).data.toList = xs := by simp [bstr]
  obtain ⟨ev, hc, hev⟩ := hv
  obtain ⟨ev', hc', hev'⟩ := hv'
  cases hA : atoiAll xs
  · exact absurd hA (hno _)
  · refine (Any.strconv_Atoi_syntax Tryd.laysC172 (bstr xs) (by omega) (by rw [hdx]; exact hA) ev _ hc hev).mono ?_
    rintro e w1 ⟨N, rfl, _, _, hb1⟩
    exact ⟨_, _, _, rfl, hb1⟩
  · refine (Tryd.strconv_Atoi_range (bstr xs) (by omega) (by rw [hdx]; exact hA) ev' _ hc' hev').mono ?_
    rintro e w1 ⟨N, rfl, _, _, hb1⟩
    exact ⟨_, _, _, rfl, hb1⟩
set_option maxHeartbeats 1000000 in
theorem textNum_impl (xs : List UInt8) (w : World) (h1 : xs.length ≤ 1099511627776) (hl : Lv w) :
    Calls Tryd.prog 11 #[.string (bstr xs)] w fun e w' => e = .returned (tnV xs) ∧ Below w.heap.size w w' := by
  have hs : (bstr xs).size = xs.length := bstr_size xs
  have hdx : (bstr xs).data.toList = xs := by simp [bstr]
  obtain ⟨ht, he1, he2⟩ := hl
  by_cases hok : ∃ v, atoiAll xs = .ok v
  · obtain ⟨v, hA⟩ := hok
    have hsp := tn_spell2 hA
    obtain ⟨vb0, vb1⟩ := atoiAll_bounds hA
    cases htn : tnB xs with
    | true =>
      have hv := tn_val hA htn
      have HR := Lib.hid (tnV_yes htn)
      rw [← hv] at HR
      rw [htn] at hsp
      clear hv htn
      go_enter Tryd.func11, Tryd.ntmps11
      go_wp2_with fail
      refine (Tryd.strconv_Atoi_ok (bstr xs) (by omega) v (by rw [hdx]; exact hA) _).mono ?_
      rintro e w1 ⟨rfl, hw⟩
      have hb1 : Below w.heap.size w w1 := by
        rcases hw with rfl | ⟨t, rfl⟩
        · exact Below.refl _ _
        · exact bytesWorld_below _ _ _
      clear hw
      go_wp2_with fail
      refine (numText_impl v _ ⟨by omega, by omega⟩ (ht.below hb1 (Nat.le_refl _))).mono ?_
      rintro e w2 ⟨rfl, hb2⟩
      go_wp2_with fail
      exact bodyPost_ret (v := .tuple #[.int .i64 v, .bool true]) (by simp [results, Tryd.results11, go_sem, *]) rfl ⟨congrArg Ending.returned HR.out.symm, hb1.trans (hb2.mono hb1.size)⟩
    | false =>
      have HR := Lib.hid (tnV_no htn)
      rw [htn] at hsp
      clear htn
      go_enter Tryd.func11, Tryd.ntmps11
      go_wp2_with fail
      refine (Tryd.strconv_Atoi_ok (bstr xs) (by omega) v (by rw [hdx]; exact hA) _).mono ?_
      rintro e w1 ⟨rfl, hw⟩
      have hb1 : Below w.heap.size w w1 := by
        rcases hw with rfl | ⟨t, rfl⟩
        · exact Below.refl _ _
        · exact bytesWorld_below _ _ _
      clear hw
      go_wp2_with fail
      refine (numText_impl v _ ⟨by omega, by omega⟩ (ht.below hb1 (Nat.le_refl _))).mono ?_
      rintro e w2 ⟨rfl, hb2⟩
      go_wp2_with fail
      exact bodyPost_ret (v := .tuple #[.int .i64 0, .bool false]) (by simp [results, Tryd.results11, go_sem, *]) rfl ⟨congrArg Ending.returned HR.out.symm, hb1.trans (hb2.mono hb1.size)⟩
  · have hno : ∀ v, atoiAll xs ≠ .ok v := fun v h => hok ⟨v, h⟩
    have HR := Lib.hid (tnV_no (tn_err (l := xs) hno))
    clear hok
    go_enter Tryd.func11, Tryd.ntmps11
    go_wp2_with fail
    refine (atoi_err xs _ h1 hno he1 he2).mono ?_
    rintro e w1 ⟨z, te, pe, rfl, hb1⟩
    go_wp2_with fail
    exact bodyPost_ret (v := .tuple #[.int .i64 0, .bool false]) (by simp [results, Tryd.results11, go_sem, *]) rfl ⟨congrArg Ending.returned HR.out.symm, hb1⟩
end Go.Proofs.YtbaojeiinjjlcaaDoor
