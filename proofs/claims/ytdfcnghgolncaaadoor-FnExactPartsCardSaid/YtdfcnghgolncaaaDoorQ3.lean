/- Parts: both ways; its law. -/
import Derived.Test.YtdfcnghgolncaaaDoorQ2
namespace Go.Proofs.YtdfcnghgolncaaaDoor
open Go.RowKit
set_option linter.unusedVariables false
set_option maxRecDepth 100000

theorem bstr_is (s : ByteArray) : s = bstr s.data.toList := by simp [bstr]
theorem bstr_cut (xs : List UInt8) (f i : Nat) : (bstr xs).extract f i = bstr ((xs.take i).drop f) := by
  apply ByteArray.ext
  apply Array.ext'
  simp [bstr, List.drop_take]
theorem info_str : (Tryd.prog.info? 9).map (fun i => (i.zero, i.size, i.bytes)) = some (some (.string ⟨#[]⟩), 1, 16) := by kernel_rfl
def PtPost (w : World) (R : List (List UInt8)) (e : Ending) (w' : World) : Prop :=
  ∃ A' c', e = .returned (.slice A' R.length c') ∧ Oc 9 w' w.heap.size A' c' (R.map sV) ∧ Below w.heap.size w w'
theorem spL_at {xs : List UInt8} {k : Nat} (h : k < xs.length) : xs.drop k = xs[k] :: xs.drop (k + 1) := List.drop_eq_getElem_cons h
set_option maxHeartbeats 4000000 in
theorem parts_spec (xs : List UInt8) (w : World) (h1 : xs.length ≤ 1048576) :
    Calls Tryd.prog 4 #[.string (bstr xs)] w (PtPost w (spL xs)) := by
  have hs : (bstr xs).size = xs.length := bstr_size xs
  obtain ⟨s, hS⟩ : ∃ s, s = bstr xs := ⟨_, rfl⟩
  have hdx : s.data.toList = xs := by rw [hS]; simp [bstr]
  rw [← hS] at hs ⊢
  have HS := Lib.hid hS
  clear hS
  go_enter Tryd.func4, Tryd.ntmps4
  go_wp2_with fail
  have hb0 : Below w.heap.size w (w.alloc (.cells #[] 9)) := (Below.refl _ _).alloc (Nat.le_refl _) _
  have ho0 : Oc 9 (w.alloc (.cells #[] 9)) w.heap.size (some ⟨w.heap.size, 0, none⟩) 0 [] := Oc.empty
  go_loopw [3, 4, 5] (fun ov fv iv wr => ∃ (i f : Nat) (A' : Option Addr) (c' : Nat) (vs : List Value) (us : List (List UInt8)), iv = .int .i64 i ∧ fv = .int .i64 f ∧ ov = .slice A' vs.length c' ∧ f ≤ i ∧ i ≤ xs.length ∧ Hid (vs = us.map sV) ∧ vs.length ≤ i ∧ Hid (us ++ glue ((xs.take i).drop f) (spL (xs.drop i)) = spL xs) ∧ Oc 9 wr w.heap.size A' c' vs ∧ Below w.heap.size w wr) (fun _ _ iv _ => xs.length - (intOf iv).toNat)
  case atStart => exact ⟨0, 0, _, _, [], [], rfl, rfl, rfl, Nat.le_refl _, Nat.zero_le _, rfl, Nat.le_refl _, by show _ = _; simp [glue_nil], ho0, hb0⟩
  case round =>
    obtain ⟨i, f, A', c', vs, us, rfl, rfl, rfl, hfi, hi, hvs, hvl, hg, ho, hb⟩ := hrel
    have zb := hb.size
    have hfi' : (f : Int) ≤ (i : Int) := by omega
    have hf0 : (0 : Int) ≤ (f : Int) := Int.natCast_nonneg f
    by_cases hlt : i < xs.length
    · obtain ⟨x, hx⟩ : ∃ x, xs[i]? = some x := ⟨_, List.getElem?_eq_getElem hlt⟩
      have hsx : s.data[i]? = some x := by rw [← hdx] at hx; simpa using hx
      have HX : Hid (xs[i] = x) := by show _ = _; rw [List.getElem?_eq_getElem hlt] at hx; exact Option.some.inj hx
      clear hx
      have hlt' : (i : Int) < xs.length := by omega
      have hi' : (i : Int) ≤ xs.length := by omega
      have hi0 : (0 : Int) ≤ (i : Int) := Int.natCast_nonneg i
      obtain rfl : s[i]'(by rw [hs]; exact hlt) = x := (Array.getElem?_eq_some_iff.1 hsx).2
      have hbx := u8_lt (s[i]'(by rw [hs]; exact hlt))
      by_cases hd : (s[i]'(by rw [hs]; exact hlt)).toNat = 32
      · have hdt : (((s[i]'(by rw [hs]; exact hlt)).toNat : Int) == 32) = true := by rw [beq_iff_eq]; omega
        have hx32 : xs[i] = 32 := by rw [HX.out]; exact UInt8.toNat_inj.1 hd
        have HG : Hid ((us ++ [(xs.take i).drop f]) ++ glue ((xs.take (i + 1)).drop (i + 1)) (spL (xs.drop (i + 1))) = spL xs) := by
          show _ = _
          have := hg.out
          rw [spL_at hlt, hx32, glue_sp] at this
          have e0 : (xs.take (i + 1)).drop (i + 1) = [] := List.drop_eq_nil_of_le (by rw [List.length_take]; omega)
          rw [e0, ← this, List.append_assoc]
          rfl
        have HP : Hid (Value.string (s.extract f i) = sV ((xs.take i).drop f)) := by show _ = _; rw [HS.out, bstr_cut]
        have e1 : IntKind.i64.wrap ((i : Int) + 1) = ((i + 1 : Nat) : Int) := by rw [IntKind.wrap_i64]; omega
        clear hd hsx
        go_wp2_with (at_builtin; refine wp_app1C 22 9 (.string ⟨#[]⟩) 16 Tryd.underlying22 info_str (by omega) rfl rfl _ _ rfl w.heap.size A' c' vs wr _ (.string (s.extract f i)) rfl ho rfl rfl rfl (by omega) zb ?_; intro A3 c3 w3 vs3 hvs3 ho3 hb3 hkp3)
        clear hkp3
        go_roundw
        case rel => exact ⟨i + 1, i + 1, A3, c3, vs3, us ++ [(xs.take i).drop f], by go_num, by go_num, rfl, Nat.le_refl _, by omega, by show _ = _; rw [hvs3.out, hvs.out, HP.out]; simp, by rw [hvs3.out]; simp; omega, HG, ho3, hb.trans hb3⟩
        case measure => simp [intOf]; omega
      · have hdf : (((s[i]'(by rw [hs]; exact hlt)).toNat : Int) == 32) = false := by rw [beq_eq_false_iff_ne]; omega
        have HG : Hid (us ++ glue ((xs.take (i + 1)).drop f) (spL (xs.drop (i + 1))) = spL xs) := by
          show _ = _
          have := hg.out
          rw [spL_at hlt, glue_no (by rw [HX.out]; intro e; exact hd (by rw [e]; rfl))] at this
          rw [← this, List.take_add_one, List.getElem?_eq_getElem hlt, List.drop_append_of_le_length (by rw [List.length_take]; omega)]
          rfl
        clear hd hsx
        go_wp2_with fail
        go_roundw
        case rel => exact ⟨i + 1, f, A', c', vs, us, by go_num, rfl, rfl, by omega, by omega, hvs, by omega, HG, ho, hb⟩
        case measure => simp [intOf]; omega
    · have hlt' : ¬ (i : Int) < xs.length := by omega
      obtain rfl : i = xs.length := by omega
      have hfx : (f : Int) ≤ (xs.length : Int) := hfi'
      have HP : Hid (Value.string (s.extract f xs.length) = sV (xs.drop f)) := by show _ = _; rw [HS.out, bstr_cut, List.take_length]
      have HG : Hid (us ++ [xs.drop f] = spL xs) := by
        show _ = _
        have := hg.out
        rw [List.drop_length, List.take_length] at this
        simpa [spL, glue] using this
      go_wp2_with (at_builtin; refine wp_app1C 22 9 (.string ⟨#[]⟩) 16 Tryd.underlying22 info_str (by omega) rfl rfl _ _ rfl w.heap.size A' c' vs wr _ (.string (s.extract f xs.length)) rfl ho rfl rfl rfl (by omega) zb ?_; intro A3 c3 w3 vs3 hvs3 ho3 hb3 hkp3)
      clear hkp3
      go_ret
      have hR : vs3 = (spL xs).map sV := by rw [hvs3.out, hvs.out, HP.out, ← HG.out]; simp
      have hRl : vs3.length = (spL xs).length := by rw [hR]; simp
      exact ⟨A3, c3, by rw [← hRl]; rfl, by rw [← hR]; exact ho3, hb.trans hb3⟩
/-- What the library's cutting answers. -/
theorem split_eq (xs : List UInt8) : Lib.splitB ⟨#[32]⟩ 0 (Lib.countB (bstr xs) ⟨#[32]⟩) (bstr xs) = (spL xs).map bstr := by
  have h := Lib.splitB_data ⟨#[32]⟩ 0 (Lib.countB (bstr xs) ⟨#[32]⟩) (bstr xs)
  have h2 : (bstr xs).data.toList = xs := by simp [bstr]
  rw [h2] at h
  have h3 : Lib.countB (bstr xs) ⟨#[32]⟩ = Lib.count xs [32] := by unfold Lib.countB; rw [h2]
  rw [h3] at h ⊢
  have h4 : Lib.splitK [32] 0 (Lib.count xs [32]) xs = spL xs := split_sp xs
  have h5 : (Lib.splitB ⟨#[32]⟩ 0 (Lib.count xs [32]) (bstr xs)).map (·.data.toList) = spL xs := h.trans h4
  have h6 := congrArg (List.map bstr) h5
  rw [List.map_map] at h6
  rw [← h6]
  exact (List.map_id'' (fun b => (bstr_is b).symm) _).symm
theorem parts_impl (xs : List UInt8) (w : World) (h1 : xs.length ≤ 1048576) (hM : ∃ m, w.cell? ⟨0, 0, none⟩ = some (.int .i64 m)) :
    Calls Tryd.prog 5 #[.string (bstr xs)] w (PtPost w (spL xs)) := by
  obtain ⟨m, hm⟩ := hM
  have hsz : (bstr xs).size < 4294967281 := by rw [bstr_size]; omega
  have HC := Lib.hid (Tryd.strings_Split (bstr xs) ⟨#[32]⟩ m w hsz hm (by decide))
  clear hm hsz
  go_enter Tryd.func5, Tryd.ntmps5
  go_wp2_with fail
  refine HC.out.mono ?_
  rintro e w1 ⟨rfl, rfl⟩
  have hn := Lib.splitB_all ⟨#[32]⟩ (by decide) 0 _ (bstr xs) rfl
  rw [split_eq, List.length_map] at hn
  go_wp2_with fail
  go_ret
  rw [split_eq, ← hn]
  refine ⟨some ⟨w.heap.size, 0, none⟩, (spL xs).length, rfl, ?_, (Below.refl _ _).alloc (Nat.le_refl _) _⟩
  have hl := spL_len xs
  refine ⟨by simp, .inr ⟨w.heap.size, (spL xs).length, _, (0, 0), by simp, Nat.le_refl _, heap_alloc_new _ _, .inl rfl, by simp, by unfold maxLen; omega, by simp, ?_⟩⟩
  simp
  exact List.take_of_length_le (by simp)
set_option maxHeartbeats 4000000 in
theorem walk_FnExactParts (s : ByteArray) (w : World) (h : s.size ≤ maxLen) (hM : ∃ m, w.cell? ⟨0, 0, none⟩ = some (.int .i64 m)) :
    Calls Tryd.prog 3 #[.string s] w fun e w' => e = .returned (.bool true) ∧ Below w.heap.size w w' := by
  unfold maxLen at h
  by_cases hbig : 1048576 < s.size
  · have hbig' : (1048576 : Int) < s.size := by omega
    go_enter Tryd.func3, Tryd.ntmps3
    go_wp2
    go_ret
    exact ⟨rfl, (by (repeat (first | exact Below.refl _ _ | (refine Below.alloc ?_ (by first | omega | (simp; done) | (simp; omega)) _) | (refine Below.drew ?_) | (refine below_drewN ?_ _) | (refine below_at1 ?_ (by first | omega | (simp; done) | (simp; omega))) | (refine Below.setCell ?_ (by first | omega | (simp; done) | (simp; omega)) _) | (refine Below.trans ?_ (Below.mono (by assumption) (by first | omega | (simp; done) | (simp; omega)))))))⟩
  obtain ⟨xs, rfl⟩ : ∃ xs, s = bstr xs := ⟨_, bstr_is s⟩
  have hbig' : ¬ (1048576 : Int) < ((bstr xs).size : Int) := by omega
  have h1 : xs.length ≤ 1048576 := by rw [bstr_size] at hbig; omega
  obtain ⟨R, hR⟩ : ∃ R, Hid (R = spL xs) := ⟨_, Lib.hid rfl⟩
  have hRl : R.length ≤ 1048577 := by rw [hR.out]; have := spL_len xs; omega
  have hR0 : 0 < R.length := by rw [hR.out]; exact List.length_pos_iff.2 (spL_ne xs)
  have HSP : Hid (∀ w', Calls Tryd.prog 4 #[.string (bstr xs)] w' (PtPost w' R)) := fun w' => by rw [hR.out]; exact parts_spec xs w' h1
  have HIM : Hid (∀ w', (∃ m, w'.cell? ⟨0, 0, none⟩ = some (.int .i64 m)) → Calls Tryd.prog 5 #[.string (bstr xs)] w' (PtPost w' R)) := fun w' hm => by rw [hR.out]; exact parts_impl xs w' h1 hm
  have hw0 : 0 < w.heap.size := by
    obtain ⟨m, hm⟩ := hM
    have := World.block_lt_of_cell? w _ hm
    exact this
  have cellK : ∀ w', Below w.heap.size w w' → ∃ m, w'.cell? ⟨0, 0, none⟩ = some (.int .i64 m) := fun w' hb => by
    obtain ⟨m, hm⟩ := hM
    exact ⟨m, (hb.cell (p := ⟨0, 0, none⟩) hw0).trans hm⟩
  have HCK := Lib.hid cellK
  clear cellK hM hbig h
  go_enter Tryd.func3, Tryd.ntmps3
  go_wp2_with fail
  refine (HSP.out w).mono ?_
  rintro e w1 ⟨A1, c1, rfl, ho1, t1⟩
  go_wp2_with fail
  refine (HIM.out w1 (HCK.out _ t1)).mono ?_
  rintro e w2 ⟨A2, c2, rfl, ho2, hb2⟩
  have t2 := t1.trans (hb2.mono t1.size)
  have o1_2 := ho1.below hb2 (Nat.le_refl _)
  go_wp2_with fail
  refine (eqS_same A2 A1 c2 c1 R w2 ho2.cs o1_2.cs (by omega)).mono ?_
  rintro e w3 ⟨rfl, hb3⟩
  have t3 := t2.trans (hb3.mono t2.size)
  have o1_3 := o1_2.below hb3 (Nat.le_refl _)
  have o2_3 := ho2.below hb3 (Nat.le_refl _)
  go_wp2_with fail
  refine (markS_any w1.heap.size A2 c2 1 R.length (R.map sV) w3 o2_3 (by simp) hR0 (Nat.le_refl _) (by omega)).mono ?_
  rintro e w4 ⟨g, rfl, hg, rfl, ho4, gr4⟩
  have z1 := t1.size
  have t4 : Below w.heap.size w w4 := t3.grown gr4 t3.size (fun k hk => by injection hk with hk; omega)
  have o1_4 : Oc 9 w4 w.heap.size A1 c1 (R.map sV) := by
    refine ownsG.kept (row := some g) o1_3 gr4 ?_
    cases A1 with
    | none => exact .inl rfl
    | some ad =>
      refine .inr ?_
      have := (ho1.lt ad.block rfl).2
      simp [Value.ownBlock]
      omega
  go_wp2_with fail
  refine (heldS_any (some ⟨g, 0, none⟩) c2 1 R.length w4 ho4.cs (Nat.le_refl _) (by omega)).mono ?_
  rintro e w5 ⟨rfl, hb5⟩
  have t5 := t4.trans (hb5.mono t4.size)
  have o1_5 := o1_4.below hb5 (Nat.le_refl _)
  have ho5 := ho4.below hb5 (Nat.le_refl _)
  have hpos : ¬ ((1 + R.length : Nat) : Int) < 0 := by omega
  go_wp2_with fail
  refine (HIM.out w5 (HCK.out _ t5)).mono ?_
  rintro e w6 ⟨A6, c6, rfl, ho6, hb6⟩
  have t6 := t5.trans (hb6.mono t5.size)
  have o1_6 := o1_5.below hb6 (Nat.le_refl _)
  have ho6' := ho5.below hb6 (Nat.le_refl _)
  go_wp2_with fail
  refine (eqS_same A6 A1 c6 c1 R w6 ho6.cs o1_6.cs (by omega)).mono ?_
  rintro e w7 ⟨rfl, hb7⟩
  have t7 := t6.trans (hb7.mono t6.size)
  have ho7 := ho6'.below hb7 (Nat.le_refl _)
  go_wp2_with fail
  refine (heldS_any (some ⟨g, 0, none⟩) c2 1 R.length w7 ho7.cs (Nat.le_refl _) (by omega)).mono ?_
  rintro e w8 ⟨rfl, hb8⟩
  have t8 := t7.trans (hb8.mono t7.size)
  go_wp2_with fail
  go_ret
  exact ⟨rfl, t8⟩
end Go.Proofs.YtdfcnghgolncaaaDoor
