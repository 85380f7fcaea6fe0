/- Numbers and texts are recovered from their encodings: the law. -/
import Derived.Test.YtbaojeiinjjlcaaDoorC2
import Derived.Test.YtbaojeiinjjlcaaDoorJ0
import Derived.Test.YtbaojeiinjjlcaaDoorP9
import Derived.Test.YtbaojeiinjjlcaaDoorT5
import Derived.Test.YtbaojeiinjjlcaaDoorT6
namespace Go.Proofs.YtbaojeiinjjlcaaDoor
open Go.RowKit Go.Lib
set_option linter.unusedVariables false
set_option maxRecDepth 100000

/-- The numeral of a number spells it. -/
theorem tn_back {n : Nat} (hn : n ≤ 4294967295) : tnV (ntL n) = .tuple #[.int .i64 n, .bool true] := by
  rw [nt_yes (by omega), tnV_yes (tn_dec hn), valF_dec]
set_option maxHeartbeats 1000000 in
theorem walk_FnNumbers (A : Option Addr) (n c : Nat) (w : World) (h : Rd Tryd.prog w 22 [.slice A n c]) (hl : Lv w) :
    Calls Tryd.prog 3 #[.slice A n c] w fun e w' => e = .returned (.bool true) ∧ Below w.heap.size w w' := by
  obtain ⟨xs, rfl, ha, hm⟩ := rd_bytes h
  unfold maxLen at hm
  clear h
  by_cases hbig : 1048576 < xs.length
  · have hbig' : (1048576 : Int) < xs.length := by omega
    go_enter Tryd.func3, Tryd.ntmps3
    go_wp2
    go_ret
    exact ⟨rfl, Below.refl _ _⟩
  have hbig' : ¬ (1048576 : Int) < xs.length := by omega
  go_enter Tryd.func3, Tryd.ntmps3
  go_wp2_with fail
  refine (makeBytes_any A c xs w ha (by omega)).mono ?_
  rintro e w1 ⟨A1, c1, u1, rfl, hl1, ho1, hb1⟩
  have z1 := hb1.size
  go_wp2_with fail
  refine (crc_impl _ _ _ _ ho1.by_ (by omega)).mono ?_
  rintro e w1' ⟨rfl, rfl⟩
  have hcr := crcN_le u1
  obtain ⟨N, hN⟩ : ∃ N, N = crcN u1 := ⟨_, rfl⟩
  rw [← hN] at hcr ⊢
  clear hN
  go_wp2_with fail
  refine (putVar_implR _ _ _ _ _ ho1.by_ (by omega)).mono ?_
  rintro e w2 ⟨A2, c2, u2, k2, hu2, hk2, rfl, ho2, hb2⟩
  have H2 : Hid (u2 = u1 ++ varB N) := by show _ = _; rw [hu2.out, putVarR, if_pos (by omega)]; rfl
  obtain rfl : k2 = true := by rw [hk2.out, putVarR, if_pos (by omega)]
  have hv2 := varB_len5 hcr
  have hlu2 : u2.length = u1.length + (varB N).length := by rw [H2.out]; simp
  have G2 : Hid (gvV u2 u1.length = .tuple #[.int .i64 N, .int .i64 u2.length, .bool true]) := by
    show _ = _
    rw [gvV, gvAt_varB hcr u1 [] (by rw [H2.out]; simp) rfl, hlu2]
  have hlt2 : u2.length ≤ u1.length + 5 := by omega
  clear hlu2
  have z2 := hb2.size
  clear hu2 hk2
  go_wp2_with fail
  refine (getVar_implR _ _ _ _ _ ho2.by_ ho2.le_cap (by omega)).mono ?_
  rintro e w2' ⟨he, rfl⟩
  rw [G2.out] at he
  subst he
  have hcv : ∀ w', Below w1.heap.size w1 w' → (convert 22 9 (.slice A1 u1.length c1)).run Tryd.prog w' = .ok (.string (bstr u1)) w' := fun w' hb => conv_by (ho1.by_.below hb)
  have hcv2 := hcv _ hb2
  have HCV := Lib.hid hcv
  clear hcv
  have hbs : (bstr u1).size = u1.length := bstr_size u1
  go_wp2_with fail
  refine (putText_impl _ _ _ (bstr u1) _ ho2.by_ (by omega)).mono ?_
  rintro e w3 ⟨A3, c3, u3, k3, hu3, hk3, rfl, ho3, hb3⟩
  have H3 : Hid (u3 = u2 ++ (varB u1.length ++ u1)) := by
    show _ = _
    rw [hu3.out, putTextR, if_pos (by omega), hbs]
    simp [bstr]
  obtain rfl : k3 = true := by rw [hk3.out, putTextR, if_pos (by omega)]
  have hv3 := varB_len5 (n := u1.length) (by omega)
  have hlu3 : u3.length = u2.length + (varB u1.length).length + u1.length := by rw [H3.out]; simp; omega
  have G3 : Hid (gtV u3 u2.length = .tuple #[.string (bstr u1), .int .i64 u3.length, .bool true]) := by
    show _ = _
    rw [gtV, gtAt_text u2 u1 (by omega) H3.out rfl]
  have hlt3 : u3.length ≤ u2.length + 5 + u1.length := by omega
  clear hlu3
  have z3 := hb3.size
  clear hu3 hk3 hcv2
  go_wp2_with fail
  refine (getText_impl _ _ _ _ _ ho3.by_ ho3.le_cap (by omega)).mono ?_
  rintro e w3' ⟨he, rfl⟩
  rw [G3.out] at he
  subst he
  have hb13 := hb2.trans (hb3.mono hb2.size)
  have hb03 := hb1.trans (hb13.mono hb1.size)
  go_wp2_with fail
  refine (numText_impl N _ ⟨by omega, by omega⟩ (hl.below hb03 (Nat.le_refl _)).1).mono ?_
  rintro e w4 ⟨rfl, hb4⟩
  have hb04 := hb03.trans (hb4.mono hb03.size)
  have hb14 := hb13.trans (hb4.mono hb13.size)
  go_wp2_with fail
  refine (textNum_impl _ _ ?_ (hl.below hb04 (Nat.le_refl _))).mono ?_
  · have := nt_len (n := (N : Int)); omega
  rintro e w5 ⟨he, hb5⟩
  rw [tn_back hcr] at he
  subst he
  have hb15 := hb14.trans (hb5.mono hb14.size)
  have hcv5 := HCV.out _ hb15
  go_wp2_with fail
  exact bodyPost_ret (v := .bool true) (by simp [results, Tryd.results3, go_sem, *]) rfl ⟨rfl, hb04.trans (hb5.mono hb04.size)⟩
theorem ld_FnNumbers {w : World} (h : laidMetH Tryd.prog Rows.fnNumbersRow.laid w) : Lv w := by
  rw [MakeChecks.laidMetH_plain _ _ _ (by kernel_rfl)] at h
  exact lv_met h
end Go.Proofs.YtbaojeiinjjlcaaDoor
