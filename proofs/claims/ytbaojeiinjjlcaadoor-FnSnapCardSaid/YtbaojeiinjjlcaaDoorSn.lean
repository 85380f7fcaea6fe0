/- A snapshot is recovered from its encoding, and not with a changed byte in its data or an additional byte: the law. -/
import Derived.Test.YtbaojeiinjjlcaaDoorC3
import Derived.Test.YtbaojeiinjjlcaaDoorJ3
import Derived.Test.YtbaojeiinjjlcaaDoorP23
import Derived.Test.YtbaojeiinjjlcaaDoorT8
import Derived.Deep.RegionHeld3
namespace Go.Proofs.YtbaojeiinjjlcaaDoor
open Go.RowKit Go.Lib
set_option linter.unusedVariables false
set_option maxRecDepth 100000

theorem Ob.setB {w : World} {lo c g : Nat} {bs : List UInt8} (h : Ob w lo (some ⟨g, 0, none⟩) c bs) {k : Nat} (hk : k < bs.length) (x : UInt8) :
    Ob (w.setCell ⟨g, k, none⟩ (.int .u8 (x.toNat : Int))) lo (some ⟨g, 0, none⟩) c (bs.set k x) := by
  rcases h.2 with ⟨h1, _⟩ | ⟨g', cap, cur, fz, hv, hlo, hh, hz, hn, hm, hs, ht⟩
  · simp at h1
  · simp only [Value.slice.injEq, Option.some.injEq, Addr.mk.injEq, true_and, and_true] at hv
    obtain ⟨rfl, rfl⟩ := hv
    refine ⟨by simp, .inr ⟨g, c, _, fz, by rw [List.length_set], hlo, heap_setCell_same _ hh, by simpa using hz, by simpa using hn, hm, by simpa using hs, ?_⟩⟩
    rw [List.map_set, ← ht]
    simp only [Array.toList_setIfInBounds, List.take_set, List.length_set]
theorem Ob.at_ {w : World} {lo c : Nat} {A : Option Addr} {bs : List UInt8} (h : Ob w lo A c bs) {k : Nat} {x : UInt8} (hk : bs[k]? = some x) : ∃ g, A = some ⟨g, 0, none⟩ ∧ lo ≤ g ∧ g < w.heap.size ∧ w.cell? ⟨g, k, none⟩ = some (.int .u8 (x.toNat : Int)) ∧ w.frozen? ⟨g, k, none⟩ = false := by
  have hb : bs.length ≠ 0 := by intro e; rw [List.eq_nil_of_length_eq_zero e] at hk; simp at hk
  rcases h.2 with ⟨_, h2⟩ | ⟨g, cap, cur, fz, hv, hlo, hh, hz, hn, hm, hs, ht⟩
  · exact absurd h2 hb
  · have hkl := (List.getElem?_eq_some_iff.1 hk).1
    injection hv with hA _ hc
    subst hA hc
    refine ⟨g, rfl, hlo, (Array.getElem?_eq_some_iff.1 hh).1, ?_, ?_⟩
    · exact h.cells (g := g) rfl k _ (by rw [List.getElem?_map, hk]; rfl)
    · rcases hz with rfl | hz
      · simp [World.frozen?, hh]
      · simp [World.frozen?, hh]; omega
theorem ld_FnSnap {w : World} (h : laidMetH Tryd.prog Rows.fnSnapRow.laid w) : Lv w := by
  rw [MakeChecks.laidMetH_plain _ _ _ (by kernel_rfl)] at h
  exact lv_met h
theorem xor8 (x z : UInt8) : bits .xor .u8 (x.toNat : Int) (z.toNat : Int) = ((x ^^^ z).toNat : Int) := by
  have hx := UInt8.toNat_lt x
  have hz := UInt8.toNat_lt z
  show IntKind.u8.wrap (((BitVec.ofInt 8 (x.toNat : Int) ^^^ BitVec.ofInt 8 (z.toNat : Int)).toNat : Nat) : Int) = _
  have h1 : (BitVec.ofInt 8 (x.toNat : Int) ^^^ BitVec.ofInt 8 (z.toNat : Int)).toNat = (x ^^^ z).toNat := by
    rw [UInt8.toNat_xor, BitVec.toNat_xor, BitVec.toNat_ofInt, BitVec.toNat_ofInt]
    have e1 : ((x.toNat : Int) % ((2 ^ 8 : Nat) : Int)).toNat = x.toNat := by omega
    have e2 : ((z.toNat : Int) % ((2 ^ 8 : Nat) : Int)).toNat = z.toNat := by omega
    rw [e1, e2]
  rw [h1, IntKind.wrap_u8]
  have := UInt8.toNat_lt (x ^^^ z)
  omega
theorem xor_ne {x z : UInt8} (h : z ≠ 0) : x ^^^ z ≠ x := by
  intro e
  apply h
  have : x ^^^ (x ^^^ z) = x ^^^ x := by rw [e]
  rw [← UInt8.xor_assoc, UInt8.xor_self, UInt8.zero_xor] at this
  exact this
theorem gok77 (l : List UInt8) (h : l = nmL snapS 77) : gok l 77 :=
  ⟨by omega, by omega, .inl (by rw [h]; exact (nm_nat (n := 77)).trans (if_pos (by omega)))⟩
theorem nm_nat' : nmL snapS 77 = snapS ++ decDigits 77 := (nm_nat (n := 77)).trans (if_pos (by omega))
theorem nm_len' : (nmL snapS 77).length ≤ 1048576 := by
  have := nt_len (n := 77)
  rw [nmL, if_pos (by omega), List.length_append]
  simp [snapS]
  omega
set_option maxHeartbeats 1000000 in
theorem walk_FnSnap (A : Option Addr) (n c : Nat) (w : World) (h : Rd Tryd.prog w 22 [.slice A n c]) (hl : Lv w) :
    Calls Tryd.prog 4 #[.slice A n c] w fun e w' => e = .returned (.bool true) ∧ Below w.heap.size w w' := by
  obtain ⟨xs, rfl, ha, hm⟩ := rd_bytes h
  unfold maxLen at hm
  clear h
  by_cases hbig : 1048576 < xs.length
  · have hbig' : (1048576 : Int) < xs.length := by omega
    go_enter Tryd.func4, Tryd.ntmps4
    go_wp2
    go_ret
    exact ⟨rfl, Below.refl _ _⟩
  have hbig' : ¬ (1048576 : Int) < xs.length := by omega
  go_enter Tryd.func4, Tryd.ntmps4
  go_wp2_with fail
  refine (makeBytes_any A c xs w ha (by omega)).mono ?_
  rintro e w1 ⟨A1, c1, u1, rfl, hl1, ho1, hb1⟩
  have z1 := hb1.size
  go_wp2_with fail
  refine (snapBytes_impl _ _ _ 3 9 _ ho1.by_ (by omega)).mono ?_
  rintro e w2 ⟨A2, c2, u2, k2, hu2, hk2, rfl, ho2, hb2⟩
  have hsg : snapGood 3 9 u1 := ⟨by omega, by omega, by omega⟩
  rw [snapR_yes hsg] at hu2 hk2
  have H2 : Hid (u2 = snapB 3 9 u1) := hu2
  obtain rfl : k2 = true := hk2.out
  have hlu2 : u2.length ≤ u1.length + 24 := by rw [hu2.out]; have := snapR_len 3 9 u1; rw [snapR_yes hsg] at this; exact this
  have z2 := hb2.size
  clear hu2 hk2
  go_wp2_with fail
  refine (snapRead_impl _ _ _ _ ho2.by_ ho2.le_cap (by omega)).mono ?_
  rintro e w3 ⟨n3, p3, A3, c3, u3, k3, hu3, rfl, ho3, hb3⟩
  rw [H2.out, snap_back (by omega)] at hu3
  obtain ⟨rfl, rfl, rfl, rfl⟩ : (3 : Int) = n3 ∧ (9 : Int) = p3 ∧ u1 = u3 ∧ (0 : Int) = k3 := by simpa using hu3.out
  clear hu3
  have z3 := hb3.size
  have hbox : Below w3.heap.size w3 (w3.alloc (.cells #[] 5)) := (Below.refl _ _).alloc (Nat.le_refl _) _
  go_wp2_with (first
    | (at_builtin; refine wp_appN rfl _ _ rfl w3.heap.size _ _ [] _ _ _ u2 Ob.empty ((ho2.by_.below hb3).below hbox) rfl rfl (by simp) (by omega) (by simp) ?_; intro A4 c4 w4 u4 hu4 ho4 hb4; have z4 := (hbox.trans hb4).size; have l4 : u4.length ≤ u1.length + 24 := (by rw [hu4.out]; simp; omega))
    | (at_builtin; refine wp_app1 rfl _ _ rfl w3.heap.size _ _ u4 _ _ 0 ho4 rfl rfl rfl (by omega) (by omega) ?_; intro A5 c5 w5 u5 hu5 ho5 hb5))
  have hb35 := (hbox.trans hb4).trans hb5
  have z5 := hb35.size
  have E5 : Hid (u5 = snapB 3 9 u1 ++ [0]) := by show _ = _; rw [hu5.out, hu4.out, H2.out]; simp
  have l5 : u5.length ≤ u1.length + 25 := by rw [hu5.out]; simp; omega
  clear hu4 hu5
  refine (snapRead_impl _ _ _ _ ho5.by_ ho5.le_cap (by omega)).mono ?_
  rintro e w6 ⟨n6, p6, A6, c6, u6, k6, hu6, rfl, ho6, hb6⟩
  rw [E5.out, snap_more (by omega)] at hu6
  obtain ⟨rfl, rfl, rfl, rfl⟩ : (0 : Int) = n6 ∧ (0 : Int) = p6 ∧ [] = u6 ∧ (3 : Int) = k6 := by simpa using hu6.out
  clear hu6
  have z6 := hb6.size
  have hb26 := hb3.trans ((hb35.trans (hb6.mono z5)).mono z3)
  have hb16 := hb2.trans (hb26.mono z2)
  have hcv : (convert 22 9 (.slice A1 u1.length c1)).run Tryd.prog w6 = .ok (.string (bstr u1)) w6 := conv_by (ho1.by_.below hb16)
  have hcv3 : (convert 22 9 (.slice A3 u1.length c3)).run Tryd.prog w6 = .ok (.string (bstr u1)) w6 := conv_by (ho3.by_.below (hb35.trans (hb6.mono z5)))
  by_cases hu0 : 0 < u1.length
  case pos =>
    have hu0' : (0 : Int) < u1.length := by omega
    have ho26 := ho2.below hb26 (Nat.le_refl _)
    have hj := numN_lt xs (n := u1.length) (by omega)
    have hy := numN_lt xs (n := 255) (by omega)
    have hN1 := fun w ha => makeNum_det A c xs u1.length w ha (by omega) (by omega) (by omega)
    have hN2 := fun w ha => makeNum_det A c xs 255 w ha (by omega) (by omega) (by omega)
    generalize numN xs u1.length = j at hj hN1
    generalize numN xs 255 = y at hy hN2
    have hlu3 : u1.length < u2.length := by rw [H2.out, snapB, List.length_append, List.length_append, snapHead]; simp; omega
    obtain ⟨p, hp⟩ : ∃ p, p + 1 + j = u2.length := ⟨u2.length - 1 - j, by omega⟩
    obtain ⟨x, hx⟩ : ∃ x, u2[p]? = some x := ⟨u2[p]'(by omega), List.getElem?_eq_getElem (by omega)⟩
    obtain ⟨g, rfl, hg1, hg2, hcg, hfg⟩ := ho26.at_ hx
    have HN1 := Lib.hid hN1
    have HN2 := Lib.hid hN2
    have HP := Lib.hid hp
    have HX := Lib.hid hx
    clear hN1 hN2 hx
    have hw1 : IntKind.i64.wrap ((u2.length : Int) - 1) = (u2.length : Int) - 1 := by rw [IntKind.wrap_i64]; omega
    have hw2 : IntKind.i64.wrap ((u2.length : Int) - 1 - j) = (p : Int) := by rw [IntKind.wrap_i64]; omega
    have hw3 : IntKind.i64.wrap (1 + (y : Int)) = 1 + (y : Int) := by rw [IntKind.wrap_i64]; omega
    have hw4 : IntKind.u8.wrap (1 + (y : Int)) = ((UInt8.ofNat (1 + y)).toNat : Int) := by rw [UInt8.toNat_ofNat', IntKind.wrap_u8]; omega
    have hz0 : UInt8.ofNat (1 + y) ≠ 0 := by
      intro e
      have := congrArg UInt8.toNat e
      rw [UInt8.toNat_ofNat'] at this
      simp at this
      omega
    have hxz := xor8 x (UInt8.ofNat (1 + y))
    have HNE := Lib.hid (xor_ne (x := x) hz0)
    generalize UInt8.ofNat (1 + y) = z at hw4 hxz HNE
    clear hz0 hp
    have B6 := hb1.trans (hb16.mono hb1.size)
    have hp2 : (p : Int) < u2.length := by have := HP.out; omega
    go_wp2_with fail
    go_region_with (first
        | (go_at_call_of 15 u1; refine (HN1.out _ (ha.below (Below.drew B6))).mono ?_; rintro e w7 ⟨rfl, hb7⟩; have s7 : Below w6.heap.size w6 w7 := (Below.drew (Below.refl _ _)).trans hb7; have o7 := ho26.below s7 (Nat.le_refl _); have k7 := s7.block _ hg2; have c7 := (s7.cell (p := ⟨g, p, none⟩) hg2).trans hcg; have f7 : w7.frozen? ⟨g, p, none⟩ = false := (by rw [← hfg]; simp only [World.frozen?, k7]); have hkeep := s7.size)
        | (go_at_call 15; refine (HN2.out _ (ha.below (B6.trans (s7.mono B6.size)))).mono ?_; rintro e w8 ⟨rfl, hb8⟩; have s8 : Below w6.heap.size w6 w8 := s7.trans (hb8.mono s7.size); have o8 := ho26.below s8 (Nat.le_refl _); have k8 := s8.block _ hg2; have c8 := (s8.cell (p := ⟨g, p, none⟩) hg2).trans hcg; have f8 : w8.frozen? ⟨g, p, none⟩ = false := (by rw [← hfg]; simp only [World.frozen?, k8]); have hkeep2 := s8.size))
    all_goals
      have ho9 := o8.setB (k := p) (by omega) (x ^^^ z)
      rw [UInt8.toNat_xor] at ho9
      have B8 := B6.trans (s8.mono B6.size)
      have B9 := B8.setCell (p := ⟨g, p, none⟩) (by have := hb1.size; dsimp only; omega) (.int .u8 ((x.toNat ^^^ z.toNat : Nat) : Int))
      have hsr := snap_set (H2.out) (by omega) hj HP.out HX.out HNE.out
      have hl9 : (u2.set p (x ^^^ z)).length = u2.length := by simp
      generalize u2.set p (x ^^^ z) = u9 at ho9 hsr hl9
      have HSR := Lib.hid hsr
      have HL9 := Lib.hid hl9
      have HCL := Lib.hid (snapRead_impl _ _ _ _ ho9.by_ ho9.le_cap (by omega))
      rw [hl9] at HCL
      clear hsr hl9
      go_wp2_with fail
      refine HCL.out.mono ?_
      rintro e w9 ⟨n9, p9, A9, c9, u9', k9, hu9, rfl, ho9', hb9⟩
      rw [HSR.out] at hu9
      obtain ⟨rfl, rfl, rfl, rfl⟩ : (0 : Int) = n9 ∧ (0 : Int) = p9 ∧ [] = u9' ∧ (4 : Int) = k9 := by simpa using hu9.out
      clear hu9
      replace B9 := B9.trans (hb9.mono B9.size)
      go_wp2_with fail
      refine (snapName_impl 77 _ (by omega) (hl.below B9 (Nat.le_refl _)).1).mono ?_
      rintro e wa ⟨rfl, hba⟩
      have Ba := B9.trans (hba.mono B9.size)
      go_wp2_with fail
      refine (genOf_impl (nmL snapS 77) _ nm_len' (hl.below Ba (Nat.le_refl _))).mono ?_
      rintro e wb ⟨v, rfl, hv, hbb⟩
      obtain rfl := goP_uniq hv (.inl ⟨77, gok77 _ rfl, rfl⟩)
      go_wp2_with fail
      exact bodyPost_ret (v := .bool true) (by simp [results, Tryd.results4, go_sem, *]) rfl ⟨rfl, Ba.trans (hbb.mono Ba.size)⟩
  have hu0' : ¬ (0 : Int) < u1.length := by omega
  have B9 := hb1.trans (hb16.mono hb1.size)
  go_wp2_with fail
  refine (snapName_impl 77 _ (by omega) (hl.below B9 (Nat.le_refl _)).1).mono ?_
  rintro e wa ⟨rfl, hba⟩
  have Ba := B9.trans (hba.mono B9.size)
  go_wp2_with fail
  refine (genOf_impl (nmL snapS 77) _ nm_len' (hl.below Ba (Nat.le_refl _))).mono ?_
  rintro e wb ⟨v, rfl, hv, hbb⟩
  obtain rfl := goP_uniq hv (.inl ⟨77, gok77 _ rfl, rfl⟩)
  go_wp2_with fail
  exact bodyPost_ret (v := .bool true) (by simp [results, Tryd.results4, go_sem, *]) rfl ⟨rfl, Ba.trans (hbb.mono Ba.size)⟩
end Go.Proofs.YtbaojeiinjjlcaaDoor
