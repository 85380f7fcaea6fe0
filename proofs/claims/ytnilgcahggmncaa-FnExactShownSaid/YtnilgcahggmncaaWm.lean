/- The law of ScrOk. -/
import Derived.Test.YtnilgcahggmncaaWl
import Derived.Test.YtnilgcahggmncaaW9
import Derived.Test.YtnilgcahggmncaaWb
import Derived.Deep.RegionHeld3
import Derived.Deep.DeepCutAuto
namespace Go.Proofs.Ytnilgcahggmncaa
open Go.RowKit
set_option linter.unusedVariables false
set_option maxRecDepth 100000

theorem size_scrL : (Try.prog.info? 58).map (·.size) = some 31 := by kernel_rfl
/-- A whole struct read in a region that draws. -/
theorem yields_row {P : Program} {ops : Array Oper} {S : World → Prop} {o : Oper} {a : Act} (hw : Region.wanted o (yielded ops a.tmps) = true) (ty : TypeId) (x : Operand) (ho : o.op = .load ty x) (g : Nat) (hx : a.eval x = .pointer (some ⟨g, 0, none⟩)) (t : TypeId) (cs : Array Value) (fr : Nat × Nat) (d : TypeDesc) (hg : ∀ w, S w → w.heap[g]? = some (.cells cs t fr)) (hu : P.underlying ty = some d) (hd : (match d with | .struct _ | .array _ _ => true | _ => false) = true) (hi : (P.info? ty).map (·.size) = some cs.size) : YieldsIf P ops S o (.agg cs) a :=
  Or.inl ⟨hw, fun w hS => by
    unfold execOp
    simp only [ho, hx, Instr.loadAt, Instr.sureAddr, Sem.run_bind, Sem.run_pure, Result.andThen_ok, run_loadVar_row w g t ty cs fr d (hg w hS) hu hd hi]⟩
theorem Holds.eq {M A : Rw} {T : Ti} {B : Tr} {c : Cont} (h : Holds M A T B c) : (⟨M.2.2, A.2.2, T.2.2, rcs B.2.2⟩ : Cont) = c := by
  obtain ⟨h1, h2, h3, h4⟩ := h
  cases c
  simp only at h1 h2 h3 h4
  rw [h1, h2, h3, h4]
set_option maxHeartbeats 8000000 in
theorem walk_FnExactScrOk (vs0 : List Value) (w : World) (h0 : Rd Try.prog w 58 vs0) :
    Calls Try.prog 6 #[.agg vs0.toArray] w fun e w' => e = .returned (.bool true) ∧ Below w.heap.size w w' := by
  obtain ⟨s, M, A, T, B, rfl, hr, hz, hsb⟩ := rd_scr h0
  clear h0 hsb
  show Calls Try.prog _ #[sV s M A T B] _ _
  have t0 : Below w.heap.size w (w.alloc (.cells (sC s M A T B) 58)) := (Below.refl _ _).alloc (Nat.le_refl _) _
  have b0 : (w.alloc (.cells (sC s M A T B) 58)).heap[w.heap.size]? = some (.cells (sC s M A T B) 58 (0, 0)) := heap_alloc_new _ _
  go_enter Try.func6, Try.ntmps6
  go_wp2_with (first | (refine wpList_load_row rfl 58 _ rfl (w.heap.size) rfl 58 (sC s M A T B) (0, 0) _ b0 Try.underlying58 rfl size_scrL ?_))
  refine (szScr_any s M A T B _ (hr.below t0) hz).mono ?_
  rintro e w1 ⟨z, rfl, hb1, hz1⟩
  have t1 := t0.trans (hb1.mono t0.size)
  have b1 := (hb1.block _ (Array.getElem?_eq_some_iff.1 b0).1).trans b0
  clear b0
  rcases hz1.out with hneg | ⟨hpos, hN⟩
  · clear hz1
    go_wp2_with fail
    go_ret
    exact ⟨rfl, t1⟩
  have hz' := Sz.of hN
  have hng : ¬ z < 0 := by omega
  obtain ⟨c, hc⟩ : ∃ c : Cont, Hid (c = ⟨M.2.2, A.2.2, T.2.2, rcs B.2.2⟩) := ⟨_, Lib.hid rfl⟩
  have hC : cTot c ≤ 1048576 := by rw [← cTot_holds (M := M) (A := A) (T := T) (B := B) (c := c) (by rw [hc.out]; exact ⟨rfl, rfl, rfl, rfl⟩)]; exact hN
  have HZ := Lib.hid hz'
  have HC := Lib.hid hC
  clear hz hz1 hN hz' hC hpos
  obtain ⟨v, hv⟩ : ∃ v, Hid (v = scrB s c) := ⟨_, Lib.hid rfl⟩
  go_wp2_with (first | (refine wpList_load_row rfl 58 _ rfl (w.heap.size) rfl 58 (sC s M A T B) (0, 0) _ b1 Try.underlying58 rfl size_scrL ?_))
  refine (toScr_any s M A T B _ (hr.below t1) HZ.out).mono ?_
  rw [← hc.out]
  rintro e w2 ⟨M2, A2, T2, B2, rfl, hh2, ho2, hb2⟩
  have t2 := t1.trans (hb2.mono t1.size)
  have b2 := (hb2.block _ (Array.getElem?_eq_some_iff.1 b1).1).trans b1
  clear b1
  go_wp2_with fail
  refine (scrOk_spec s M2 A2 T2 B2 _ ho2.sr (Sz.of (by rw [cTot_holds hh2.out]; exact HC.out))).mono ?_
  rw [hh2.out.eq, ← hv.out]
  rintro e w3 ⟨rfl, hb3⟩
  have t3 := t2.trans (hb3.mono t2.size)
  have b3 := (hb3.block _ (Array.getElem?_eq_some_iff.1 b2).1).trans b2
  clear b2
  go_wp2_with (first | (refine wpList_load_row rfl 58 _ rfl (w.heap.size) rfl 58 (sC s M A T B) (0, 0) _ b3 Try.underlying58 rfl size_scrL ?_))
  refine (toScr_any s M A T B _ (hr.below t3) HZ.out).mono ?_
  rw [← hc.out]
  rintro e w4 ⟨M4, A4, T4, B4, rfl, hh4, ho4, hb4⟩
  have t4 := t3.trans (hb4.mono t3.size)
  have b4 := (hb4.block _ (Array.getElem?_eq_some_iff.1 b3).1).trans b3
  have s4 := (Array.getElem?_eq_some_iff.1 b4).1
  clear b3
  go_wp2_with (first | (refine wp_store_blk rfl 49 _ _ rfl w4.heap.size (sC s M4 A4 T4 B4) rfl rfl 49 zC (heap_alloc_new _ _) size_scr rfl (sC_one s M4 A4 T4 B4) ?_; intro w5 b5 k5 z5; have h5 : Below w4.heap.size w4 w5 := ((Below.refl _ _).alloc (Nat.le_refl _) _).trans (k5.below (fun k hk => by simp at hk; omega) (by simp))) | (refine wpList_load_row rfl 49 _ rfl (w4.heap.size) rfl 49 (sC s M4 A4 T4 B4) (0, 0) _ b5 Try.underlying49 rfl size_scr ?_))
  have ho5 := ho4.below h5 (Nat.le_refl _)
  have t5 := t4.trans (h5.mono t4.size)
  have s5 := (Array.getElem?_eq_some_iff.1 b5).1
  have c5 := (h5.block _ s4).trans b4
  clear b4 h5 k5
  refine (scrOk_impl s M4 A4 T4 B4 _ ho5.sr (Sz.of (by rw [cTot_holds hh4.out]; exact HC.out))).mono ?_
  rw [hh4.out.eq, ← hv.out]
  rintro e w6 ⟨rfl, hb6⟩
  have t6 := t5.trans (hb6.mono t5.size)
  have b6 := (hb6.block _ s5).trans b5
  have c6 := (hb6.block _ (Array.getElem?_eq_some_iff.1 c5).1).trans c5
  have ho6 := ho5.below hb6 (Nat.le_refl _)
  clear b5 c5
  go_wp2_with fail
  refine wp_region_held_drew (S := fun w' => w'.heap[w.heap.size]? = some (.cells (sC s M A T B) 58 (0, 0)) ∧ w'.heap[w4.heap.size]? = some (.cells (sC s M4 A4 T4 B4) 49 (0, 0))) (by kernel_rfl) ⟨c6, b6⟩ (fun hHeld => ?_)
  refine wpAnyH_take (i := 0) (v := sV s M4 A4 T4 B4) rfl (by kernel_rfl) (by kernel_rfl) (by kernel_rfl) (fun _ _ _ h => h) (yields_row (by rfl) 49 _ rfl (w4.heap.size) rfl 49 (sC s M4 A4 T4 B4) (0, 0) _ (fun _ h => h.2) Try.underlying49 rfl size_scr) (by assumption) ?_
  try simp only [Act.put, List.getElem_toArray, List.getElem_cons_zero, List.setIfInBounds_toArray, List.set_cons_zero, List.set_cons_succ]
  refine wpAnyH_take (i := 1) (v := sV s M A T B) rfl (by kernel_rfl) (by kernel_rfl) (by kernel_rfl) (fun _ _ _ h => h) (yields_row (by rfl) 58 _ rfl (w.heap.size) rfl 58 (sC s M A T B) (0, 0) _ (fun _ h => h.1) Try.underlying58 rfl size_scrL) (by assumption) ?_
  try simp only [Act.put, List.getElem_toArray, List.getElem_cons_succ, List.getElem_cons_zero, List.setIfInBounds_toArray, List.set_cons_zero, List.set_cons_succ]
  refine wpAnyH_ready (rs := [2]) (by kernel_rfl) (by simp) ?_
  refine AllReadyH.cons rfl (fun K hK => ?_) AllReadyH.nil
  go_simp
  refine (toScr_any s M A T B _ (hr.below t6.drew) HZ.out).mono ?_
  rw [← hc.out]
  rintro e w7 ⟨M7, A7, T7, B7, rfl, hh7, ho7, hb7⟩
  have t7 := t6.drew.trans (hb7.mono t6.size)
  have b7 := (hb7.block _ (Array.getElem?_eq_some_iff.1 b6).1).trans b6
  have c7 := (hb7.block _ (Array.getElem?_eq_some_iff.1 c6).1).trans c6
  refine hK.out _ _ ⟨c7, b7⟩ (fun hHeld => ?_)
  clear hK K
  try simp only [Act.put, List.getElem_toArray, List.getElem_cons_succ, List.getElem_cons_zero, List.setIfInBounds_toArray, List.set_cons_zero, List.set_cons_succ]
  refine wpAnyH_ready (rs := [3]) (by kernel_rfl) (by simp) ?_
  refine AllReadyH.cons rfl (fun K hK => ?_) AllReadyH.nil
  go_simp
  refine (eqScr_same s M4 A4 T4 B4 M7 A7 T7 B7 c _ ((ho6.below (Below.refl w6.heap.size w6).drew (Nat.le_refl _)).below hb7 (Nat.le_refl _)).sr ho7.sr hh4 hh7 HC.out).mono ?_
  rintro e w8 ⟨rfl, hb8⟩
  have t8 := t7.trans (hb8.mono t7.size)
  refine hK.out _ _ ⟨(hb8.block _ (Array.getElem?_eq_some_iff.1 c7).1).trans c7, (hb8.block _ (Array.getElem?_eq_some_iff.1 b7).1).trans b7⟩ (fun hHeld => ?_)
  clear hK K
  try simp only [Act.put, List.getElem_toArray, List.getElem_cons_succ, List.getElem_cons_zero, List.setIfInBounds_toArray, List.set_cons_zero, List.set_cons_succ]
  refine wpAnyH_take (i := 4) (v := .bool false) rfl (by kernel_rfl) (by kernel_rfl) (by kernel_rfl) (fun _ _ _ h => h) (Or.inl ⟨by rfl, (by intro w hSw; (try dsimp only at hSw); go_simp; try first | rfl | assumption)⟩) (by assumption) ?_
  try simp only [Act.put, List.getElem_toArray, List.getElem_cons_succ, List.getElem_cons_zero, List.setIfInBounds_toArray, List.set_cons_zero, List.set_cons_succ]
  refine wpAnyH_done (by kernel_rfl) ?_ _
  clear hHeld
  go_wp2_with fail
  go_ret
  exact ⟨rfl, t8⟩
end Go.Proofs.Ytnilgcahggmncaa
