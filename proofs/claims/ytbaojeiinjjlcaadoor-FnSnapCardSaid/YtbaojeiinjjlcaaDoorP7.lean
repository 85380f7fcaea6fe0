/- Texts, put and got. -/
import Derived.Test.YtbaojeiinjjlcaaDoorP6
namespace Go.Proofs.YtbaojeiinjjlcaaDoor
open Go.RowKit
set_option linter.unusedVariables false
set_option maxRecDepth 100000

def putTextR (xs : List UInt8) (t : ByteArray) : List UInt8 × Bool := if t.size ≤ 4000 then (xs ++ varB t.size ++ t.data.toList, true) else ([], false)
theorem putTextR_len (xs : List UInt8) (t : ByteArray) : (putTextR xs t).1.length ≤ xs.length + 4005 := by
  unfold putTextR
  split
  · have := varB_len5 (n := t.size) (by omega); have := str_len t
    simp only [List.length_append]; omega
  · simp
set_option maxHeartbeats 1000000 in
theorem putText_impl (A : Option Addr) (c : Nat) (xs : List UInt8) (t : ByteArray) (w : World) (ha : By w A xs) (h1 : xs.length ≤ 274877906944) :
    Calls Tryd.prog 9 #[.slice A xs.length c, .string t] w (PutPost w (putTextR xs t)) := by
  by_cases ht : t.size ≤ 4000
  · have ht' : ¬ (4000 : Int) < t.size := by omega
    go_enter Tryd.func9, Tryd.ntmps9
    go_wp2_with fail
    refine (clone_any _ _ _ _ ha (by omega)).mono ?_
    rintro e w0 ⟨A0, c0, rfl, ho0, hb0⟩
    go_wp2_with fail
    refine (putVar_any w.heap.size _ _ _ _ _ ho0 hb0.size (by omega) (by omega)).mono ?_
    rintro e w1 ⟨A1, c1, u1, hu1, rfl, ho1, hb1⟩
    have hl1 : u1.length ≤ xs.length + 5 := by have := varB_len5 (n := t.size) (by omega); rw [hu1.out]; simp; omega
    have z0 := hb0.size
    have z1 := hb1.size
    go_wp2_with (refine wp_appS rfl _ _ rfl w.heap.size _ _ _ _ t ho1 rfl rfl (by omega) (by omega) (by omega) ?_; intro A2 c2 w2 u2 hu2 ho2 hb2)
    go_ret2
    exact ⟨A2, c2, u2, true, Lib.hid (by rw [hu2.out, hu1.out, putTextR, if_pos ht]), Lib.hid (by rw [putTextR, if_pos ht]), rfl, ho2, hb0.trans (hb1.trans hb2)⟩
  · have ht' : (4000 : Int) < t.size := by omega
    go_enter Tryd.func9, Tryd.ntmps9
    go_wp2_with fail
    go_ret2
    exact ⟨none, 0, [], false, Lib.hid (by rw [putTextR, if_neg ht]), Lib.hid (by rw [putTextR, if_neg ht]), rfl, ownsG_nil _ _ _ _, Below.refl _ _⟩

/-- What GetText answers. -/
def gtAt (xs : List UInt8) (z : Int) : List UInt8 × Int × Bool :=
  if (gvAt xs z).2.2 = true ∧ (gvAt xs z).1 ≤ 4000 ∧ (gvAt xs z).1 ≤ xs.length - (gvAt xs z).2.1 then
    ((xs.drop (gvAt xs z).2.1.toNat).take (gvAt xs z).1.toNat, (gvAt xs z).2.1 + (gvAt xs z).1, true) else ([], 0, false)
def gtV (xs : List UInt8) (z : Int) : Value := .tuple #[.string (bstr (gtAt xs z).1), .int .i64 (gtAt xs z).2.1, .bool (gtAt xs z).2.2]
theorem gvAt_cases (xs : List UInt8) (z : Int) : (gvAt xs z = (0, 0, false)) ∨ ∃ n q : Nat, gvAt xs z = ((n : Int), (q : Int), true) ∧ n ≤ 4294967295 ∧ q ≤ xs.length ∧ z < q ∧ (0 ≤ z ∧ gv (xs.drop z.toNat) = some (n, q - z.toNat)) := by
  by_cases hz : 0 ≤ z ∧ z ≤ xs.length
  · obtain ⟨k, rfl⟩ := Int.eq_ofNat_of_zero_le hz.1
    cases hg : gv (xs.drop k) with
    | none => exact .inl (gvAt_none hg)
    | some r =>
      obtain ⟨n, j⟩ := r
      right
      obtain ⟨h1, h2, h3, h4, _⟩ := gv_some hg
      rw [List.length_drop] at h3
      refine ⟨n, k + j, by rw [gvAt_some hg (by omega)]; simp, h1, by omega, by omega, by omega, ?_⟩
      rw [Int.toNat_natCast, hg]
      simp
  · exact .inl (gvAt_out (by omega))
set_option maxHeartbeats 1000000 in
theorem getText_impl (A : Option Addr) (c : Nat) (xs : List UInt8) (z : Int) (w : World) (ha : By w A xs) (hc : xs.length ≤ c) (h1 : xs.length ≤ 549755813888) :
    Calls Tryd.prog 10 #[.slice A xs.length c, .int .i64 z] w fun e w' => e = .returned (gtV xs z) ∧ w = w' := by
  rcases gvAt_cases xs z with hg | ⟨n, q, hg, hn, hq, hzq, _⟩
  · have hv : gvV xs z = .tuple #[.int .i64 0, .int .i64 0, .bool false] := by rw [gvV, hg]
    have HN : Hid (gtV xs z = .tuple #[.string ⟨#[]⟩, .int .i64 0, .bool false]) := by show _ = _; rw [gtV, gtAt, hg, if_neg (by simp)]; rfl
    have HV := Lib.hid hv
    clear hv hg
    go_enter Tryd.func10, Tryd.ntmps10
    go_wp2_with fail
    refine (getVar_implR _ _ _ _ _ ha hc h1).mono ?_
    rintro e w1 ⟨rfl, rfl⟩
    rw [HV.out]
    go_wp2_with fail
    go_ret3
    exact ⟨by rw [HN.out]; rfl, rfl⟩
  · have hv : gvV xs z = .tuple #[.int .i64 n, .int .i64 q, .bool true] := by rw [gvV, hg]
    have HV := Lib.hid hv
    by_cases hc1 : n ≤ 4000 ∧ n ≤ xs.length - q
    · have HN : Hid (gtV xs z = .tuple #[.string (bstr ((xs.drop q).take n)), .int .i64 ((q : Int) + n), .bool true]) := by
        show _ = _
        rw [gtV, gtAt, hg, if_pos ⟨rfl, by simp; omega, by simp; omega⟩]
        simp
      clear hv hg
      obtain ⟨h4, h5⟩ := hc1
      have i1 : ¬ (4000 : Int) < n := by omega
      have i2 : ¬ ((xs.length : Int) - q) < n := by omega
      obtain ⟨A2, c2, u2, hu2, hc2, hby2, hrun2⟩ := slice_lh_run A c q (q + n) xs .i64 .i64 (by omega) (by omega) hc
      have hcv2 : ∀ m, (convert 22 9 (.slice A2 u2.length c2)).run Tryd.prog (w.drewN m) = .ok (.string (bstr u2)) (w.drewN m) := fun m => conv_by ((hby2 w ha).drewN m)
      have hcv3 := hcv2 0
      simp only [World.drewN_zero] at hcv3
      have e1 : ((q + n : Nat) : Int) = (q : Int) + n := by omega
      rw [e1] at hrun2
      clear e1
      go_enter Tryd.func10, Tryd.ntmps10
      go_wp2_with fail
      refine (getVar_implR _ _ _ _ _ ha hc h1).mono ?_
      rintro e w1 ⟨rfl, rfl⟩
      rw [HV.out]
      go_wp2_with fail
      go_ret3
      exact ⟨by rw [HN.out, hu2.out]; simp, rfl⟩
    · have HN : Hid (gtV xs z = .tuple #[.string ⟨#[]⟩, .int .i64 0, .bool false]) := by
        show _ = _
        rw [gtV, gtAt, hg, if_neg (by simp; omega)]
        rfl
      clear hv hg
      by_cases h4 : n ≤ 4000
      · have i1 : ¬ (4000 : Int) < n := by omega
        have i2 : ((xs.length : Int) - q) < n := by omega
        go_enter Tryd.func10, Tryd.ntmps10
        go_wp2_with fail
        refine (getVar_implR _ _ _ _ _ ha hc h1).mono ?_
        rintro e w1 ⟨rfl, rfl⟩
        rw [HV.out]
        go_wp2_with fail
        go_ret3
        exact ⟨by rw [HN.out]; rfl, rfl⟩
      · have i1 : (4000 : Int) < n := by omega
        go_enter Tryd.func10, Tryd.ntmps10
        go_wp2_with fail
        refine (getVar_implR _ _ _ _ _ ha hc h1).mono ?_
        rintro e w1 ⟨rfl, rfl⟩
        rw [HV.out]
        go_wp2_with fail
        go_ret3
        exact ⟨by rw [HN.out]; rfl, rfl⟩
end Go.Proofs.YtbaojeiinjjlcaaDoor
