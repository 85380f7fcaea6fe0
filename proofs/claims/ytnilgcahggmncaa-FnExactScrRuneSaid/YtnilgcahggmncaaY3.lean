/- Rows of the shown grid scrolled in a screen's block; the cursor moved up: the program's way. A grid put in a screen: the reference's way. ScrUp: the reference's way. -/
import Derived.Test.YtnilgcahggmncaaX7
import Derived.Test.YtnilgcahggmncaaRq
import Derived.RegionTactic
import Derived.Deep.RegionWith
import Derived.Test.YtnilgcahggmncaaRo2
namespace Go.Proofs.Ytnilgcahggmncaa
open Go.RowKit

set_option linter.unusedVariables false
set_option maxRecDepth 100000

section
variable {w : World} {lo m : Nat} {M A : Rw} {T : Ti} {B : Tr}
theorem So.putM {M' : Rw} (h : So w lo M A T B) (hM : Og w m M'.1 M'.2.1 M'.2.2) (hlt : ∀ k, some k ∈ sft M A T B → k < m) (hlo : lo ≤ m) : So w lo M' A T B := by
  obtain ⟨h1, h2⟩ := List.pairwise_cons.1 h.sep
  refine ⟨hM.mono hlo, h.oa, h.ot, h.ol, h.ow, List.pairwise_cons.2 ⟨fun x hx => ?_, h2⟩⟩
  intro k e1 e2
  have a1 := (hM.ob_lt e1).1
  have a2 := hlt k (List.mem_cons.2 (.inr (e2 ▸ hx)))
  omega
theorem So.putA {A' : Rw} (h : So w lo M A T B) (hA : Og w m A'.1 A'.2.1 A'.2.2) (hlt : ∀ k, some k ∈ sft M A T B → k < m) (hlo : lo ≤ m) : So w lo M A' T B := by
  obtain ⟨h1, h2⟩ := List.pairwise_cons.1 h.sep
  obtain ⟨h3, h4⟩ := List.pairwise_cons.1 h2
  refine ⟨h.om, hA.mono hlo, h.ot, h.ol, h.ow, List.pairwise_cons.2 ⟨fun x hx => ?_, List.pairwise_cons.2 ⟨fun x hx => ?_, h4⟩⟩⟩
  · rcases List.mem_cons.1 hx with rfl | hx
    · intro k e1 e2
      have a1 := (hA.ob_lt e2).1
      have a2 := hlt k (List.mem_cons.2 (.inl e1.symm))
      omega
    · exact h1 x (List.mem_cons.2 (.inr hx))
  · intro k e1 e2
    have a1 := (hA.ob_lt e1).1
    have a2 := hlt k (List.mem_cons.2 (.inr (List.mem_cons.2 (.inr (e2 ▸ hx)))))
    omega
theorem sft_putM {M' : Rw} {k : Nat} (h : some k ∈ sft M' A T B) : ob M'.1 = some k ∨ some k ∈ sft M A T B := by
  rcases List.mem_cons.1 h with h | h
  · exact .inl h.symm
  · exact .inr (List.mem_cons.2 (.inr h))
theorem sft_putA {A' : Rw} {k : Nat} (h : some k ∈ sft M A' T B) : ob A'.1 = some k ∨ some k ∈ sft M A T B := by
  rcases List.mem_cons.1 h with h | h
  · exact .inr (List.mem_cons.2 (.inl h))
  · rcases List.mem_cons.1 h with h | h
    · exact .inl h.symm
    · exact .inr (List.mem_cons.2 (.inr (List.mem_cons.2 (.inr h))))
end
theorem scr_nums {s : Sc} {c : Cont} (h : scrB s c = true) : (s.mW = s.W ∧ s.mH = s.H ∧ s.aW = s.W ∧ s.aH = s.H) ∧ (0 ≤ s.X ∧ s.X < s.W ∧ 0 ≤ s.Y ∧ s.Y < s.H) ∧ (0 ≤ s.top ∧ s.bot < s.H ∧ s.top ≤ s.bot) ∧ (0 ≤ s.limit ∧ s.limit ≤ 100 ∧ (c.b.length : Int) ≤ s.limit) := by
  obtain ⟨_, _, e3, _, _⟩ := scr_grids h
  have := of_decide_eq_true e3
  exact ⟨this.1, this.2.1, ⟨this.2.2.2.2.2.1.1, this.2.2.2.2.2.1.2.1, this.2.2.2.2.2.1.2.2.1⟩, this.2.2.2.2.2.2⟩
theorem rollZ_any (W H top bot n : Int) (A : Option Addr) (c : Nat) (cs : List Cl) (w : World) (hg : gridB W H cs = true) (h1 : 0 ≤ top) (h2 : top ≤ bot) (h3 : bot < H) (ha : Gs w A cs) (hc : cs.length ≤ c) :
    Calls Try.prog 59 #[gV W H A cs.length c, .int .i64 top, .int .i64 bot, .int .i64 n] w (GridPost w W H (roL cs W.toNat top.toNat bot.toNat n)) := by
  obtain ⟨⟨p1, p2⟩, ⟨p3, p4⟩, _, p5⟩ := grid_len hg
  obtain ⟨q1, q2⟩ := grid_pos hg
  obtain ⟨a, rfl⟩ := Int.eq_ofNat_of_zero_le (show 0 ≤ W by omega)
  obtain ⟨b, rfl⟩ := Int.eq_ofNat_of_zero_le (show 0 ≤ H by omega)
  obtain ⟨j, rfl⟩ := Int.eq_ofNat_of_zero_le h1
  obtain ⟨k, rfl⟩ := Int.eq_ofNat_of_zero_le (show 0 ≤ bot by omega)
  have := roll_any a b j k n A c cs w ha hc (by omega) (by omega) (by omega) (by omega) (by omega) (by show _ = _; rw [← Int.natCast_mul] at p5; rw [Nat.mul_comm]; exact Int.ofNat_inj.1 p5) (by omega)
  simpa using this
/-- The content with the shown grid scrolled. -/
def rollC (s : Sc) (c : Cont) (n : Int) : Cont := if s.onA = true then { c with a := roL c.a s.aW.toNat s.top.toNat s.bot.toNat n } else { c with m := roL c.m s.mW.toNat s.top.toNat s.bot.toNat n }
set_option maxHeartbeats 4000000 in
theorem rollS_any (s : Sc) (M A : Rw) (T : Ti) (B : Tr) (c : Cont) (n : Int) (lo g : Nat) (w : World) (hq : scrB s c = true) (hb : w.heap[g]? = some (.cells (sC s M A T B) 49 (0, 0))) (ho : So w lo M A T B) (hh : Hid (Holds M A T B c)) (hn : some g ∉ sft M A T B) (hlg : lo ≤ g) :
    Calls Try.prog 132 #[.pointer (some ⟨g, 0, none⟩), .int .i64 s.top, .int .i64 s.bot, .int .i64 n] w (ChPost lo g M A T B w s (rollC s c n)) := by
  have q : ∀ i, w.cell? ⟨g, i, none⟩ = _ := fun i => cell_of_row w _ i _ _ (0, 0) hb
  have zg := (Array.getElem?_eq_some_iff.1 hb).1
  obtain ⟨⟨u1, u2, u3, u4⟩, _, ⟨v1, v2, v3⟩, _⟩ := scr_nums hq
  obtain ⟨e1, e2, _, _, _⟩ := scr_grids hq
  obtain ⟨cm, ca, ct, cb⟩ := c
  obtain ⟨p1, p2, p3, p4⟩ := hh.out
  simp only at p1 p2 p3 p4 e1 e2
  subst p1 p2 p3 p4
  clear hh hq
  have hlo : ∀ k, some k ∈ sft M A T B → k < w.heap.size := fun k hk => (ho.lt hk).2
  cases hoA : s.onA with
  | true =>
    have hR : rollC s ⟨M.2.2, A.2.2, T.2.2, rcs B.2.2⟩ n = ⟨M.2.2, roL A.2.2 s.aW.toNat s.top.toNat s.bot.toNat n, T.2.2, rcs B.2.2⟩ := if_pos hoA
    rw [hR]
    have hg := rollZ_any s.aW s.aH s.top s.bot n A.1 A.2.1 A.2.2 w e2 v1 v3 (by omega) ho.oa.gs ho.oa.cap
    obtain ⟨ns, hns⟩ : ∃ ns, Hid (ns = roL A.2.2 s.aW.toNat s.top.toNat s.bot.toNat n) := ⟨_, Lib.hid rfl⟩
    rw [← hns.out] at hg ⊢
    have HG := Lib.hid hg
    clear hg hR u1 u2 u3 u4 v1 v2 v3 e1 e2
    go_enter Try.func132, Try.ntmps132
    go_wp2_with fail
    refine (shown_alt s M A T B g _ hb hoA).mono ?_
    rintro e w0 ⟨rfl, rfl⟩
    go_wp2_with fail
    refine HG.out.mono ?_
    rintro e w1 ⟨A1, a1, rfl, oa1, _, _, hb1⟩
    have b1 := (hb1.block _ zg).trans hb
    have q1 : ∀ i, w1.cell? ⟨g, i, none⟩ = _ := fun i => cell_of_row w1 _ i _ _ (0, 0) b1
    have r1 : ∀ i, w1.frozen? ⟨g, i, none⟩ = false := fun i => by simp [World.frozen?, b1]
    have k1 := blk_alt b1 s.aW s.aH (A1, a1, ns)
    have K1 := Lib.hid k1
    clear k1
    go_wp2_with fail
    refine bodyPost_end (results_none rfl _ _ _) rfl ?_
    have k1 := K1.out
    have ho1 := ((ho.below hb1 (Nat.le_refl _)).chg k1.2.1 (fun k hk hm => by simp at hm; exact hn (by rw [← hm]; exact hk))).putA (A' := (A1, a1, ns)) (oa1.chg k1.2.1 (fun k hk hm => by have := (oa1.ob_lt hk).1; simp at hm; omega)) hlo (by omega)
    exact ⟨rfl, M, (A1, a1, ns), T, B, k1.1, ⟨rfl, rfl, rfl, rfl⟩, ho1, fun h => by
      rcases sft_putA h with h | h
      · have := (oa1.ob_lt h).1; omega
      · exact hn h, (Chg.of_below _ hb1).trans (k1.2.1.mono (fun k hk => List.mem_cons.2 (.inl (by simpa using hk)))), fun k hk => (sft_putA hk).elim (fun h => .inr (oa1.ob_lt h).1) .inl⟩
  | false =>
    have hR : rollC s ⟨M.2.2, A.2.2, T.2.2, rcs B.2.2⟩ n = ⟨roL M.2.2 s.mW.toNat s.top.toNat s.bot.toNat n, A.2.2, T.2.2, rcs B.2.2⟩ := if_neg (by rw [hoA]; simp)
    rw [hR]
    have hg := rollZ_any s.mW s.mH s.top s.bot n M.1 M.2.1 M.2.2 w e1 v1 v3 (by omega) ho.om.gs ho.om.cap
    obtain ⟨ns, hns⟩ : ∃ ns, Hid (ns = roL M.2.2 s.mW.toNat s.top.toNat s.bot.toNat n) := ⟨_, Lib.hid rfl⟩
    rw [← hns.out] at hg ⊢
    have HG := Lib.hid hg
    clear hg hR u1 u2 u3 u4 v1 v2 v3 e1 e2
    go_enter Try.func132, Try.ntmps132
    go_wp2_with fail
    refine (shown_main s M A T B g _ hb hoA).mono ?_
    rintro e w0 ⟨rfl, rfl⟩
    go_wp2_with fail
    refine HG.out.mono ?_
    rintro e w1 ⟨A1, a1, rfl, oa1, _, _, hb1⟩
    have b1 := (hb1.block _ zg).trans hb
    have q1 : ∀ i, w1.cell? ⟨g, i, none⟩ = _ := fun i => cell_of_row w1 _ i _ _ (0, 0) b1
    have r1 : ∀ i, w1.frozen? ⟨g, i, none⟩ = false := fun i => by simp [World.frozen?, b1]
    have k1 := blk_main b1 s.mW s.mH (A1, a1, ns)
    have K1 := Lib.hid k1
    clear k1
    go_wp2_with fail
    refine bodyPost_end (results_none rfl _ _ _) rfl ?_
    have k1 := K1.out
    have ho1 := ((ho.below hb1 (Nat.le_refl _)).chg k1.2.1 (fun k hk hm => by simp at hm; exact hn (by rw [← hm]; exact hk))).putM (M' := (A1, a1, ns)) (oa1.chg k1.2.1 (fun k hk hm => by have := (oa1.ob_lt hk).1; simp at hm; omega)) hlo (by omega)
    exact ⟨rfl, (A1, a1, ns), A, T, B, k1.1, ⟨rfl, rfl, rfl, rfl⟩, ho1, fun h => by
      rcases sft_putM h with h | h
      · have := (oa1.ob_lt h).1; omega
      · exact hn h, (Chg.of_below _ hb1).trans (k1.2.1.mono (fun k hk => List.mem_cons.2 (.inl (by simpa using hk)))), fun k hk => (sft_putM hk).elim (fun h => .inr (oa1.ob_lt h).1) .inl⟩
/-- The cursor one row up. -/
def upS (s : Sc) : Sc := { s with Y := if s.Y = s.top then s.Y else if 0 < s.Y then s.Y - 1 else s.Y, wrap := false }
def upC (s : Sc) (c : Cont) : Cont := if s.Y = s.top then rollC s c (-1) else c
set_option maxHeartbeats 4000000 in
theorem up_any (s : Sc) (M A : Rw) (T : Ti) (B : Tr) (c : Cont) (lo g : Nat) (w : World) (hq : scrB s c = true) (hb : w.heap[g]? = some (.cells (sC s M A T B) 49 (0, 0))) (ho : So w lo M A T B) (hh : Hid (Holds M A T B c)) (hn : some g ∉ sft M A T B) (hlg : lo ≤ g) :
    Calls Try.prog 103 #[.pointer (some ⟨g, 0, none⟩)] w (ChPost lo g M A T B w (upS s) (upC s c)) := by
  have q : ∀ i, w.cell? ⟨g, i, none⟩ = _ := fun i => cell_of_row w _ i _ _ (0, 0) hb
  have r : ∀ i, w.frozen? ⟨g, i, none⟩ = false := fun i => by simp [World.frozen?, hb]
  have zg := (Array.getElem?_eq_some_iff.1 hb).1
  obtain ⟨_, ⟨_, _, y1, y2⟩, ⟨v1, v2, v3⟩, _⟩ := scr_nums hq
  obtain ⟨⟨d1, d2⟩, d3, d4⟩ := scr_dims hq
  by_cases h1 : s.Y = s.top
  · have h1' : (s.Y == s.top) = true := by simpa using h1
    have e1 : upS s = { s with wrap := false } := by unfold upS; rw [if_pos h1]
    have e2 : upC s c = rollC s c (-1) := if_pos h1
    have HR := Lib.hid (fun w hb ho hn => rollS_any s M A T B c (-1) lo g w hq hb ho hh hn hlg)
    have E1 := Lib.hid e1
    have E2 := Lib.hid e2
    clear e1 e2 h1
    go_enter Try.func103, Try.ntmps103
    go_wp2_with fail
    go_region
    go_wp2_with fail
    go_region_with (go_at_call 132; refine (HR.out w.drew.drew hb (ho.below (Below.drew (Below.drew (Below.refl w.heap.size w))) (Nat.le_refl _)) hn).mono ?_; rintro e w1 ⟨rfl, M1, A1, T1, B1, b1, hh1, ho1, hn1, k1, nb1⟩)
    all_goals (
      have q1 : ∀ i, w1.cell? ⟨g, i, none⟩ = _ := fun i => cell_of_row w1 _ i _ _ (0, 0) b1
      have r1 : ∀ i, w1.frozen? ⟨g, i, none⟩ = false := fun i => by simp [World.frozen?, b1]
      have kw := blk_wrap b1 false
      go_wp2_with fail
      refine bodyPost_end (results_none rfl _ _ _) rfl ?_
      refine ⟨rfl, M1, A1, T1, B1, by rw [E1.out]; exact kw.1, by rw [E2.out]; exact hh1, ho1.chg kw.2.1 (fun k hk hm => by simp at hm; exact hn1 (by rw [← hm]; exact hk)), hn1, (Chg.of_below _ (Below.drew (Below.drew (Below.refl w.heap.size w)))).trans (k1.trans (kw.2.1.mono (fun k hk => List.mem_cons.2 (.inl (by simpa using hk))))), nb1⟩)
  · have h1' : (s.Y == s.top) = false := by simpa using h1
    have e2 : upC s c = c := if_neg h1
    have E2 := Lib.hid e2
    clear e2
    by_cases h2 : 0 < s.Y
    · have e1 : upS s = { s with Y := s.Y - 1, wrap := false } := by unfold upS; rw [if_neg h1, if_pos h2]
      have E1 := Lib.hid e1
      clear e1 h1
      have ky := blk_y (w := w.drew) hb (s.Y - 1)
      have kw := blk_wrap ky.1 false
      go_enter Try.func103, Try.ntmps103
      go_wp2_with fail
      go_region
      go_wp2_with fail
      refine bodyPost_end (results_none rfl _ _ _) rfl ?_
      exact ⟨rfl, M, A, T, B, by rw [E1.out]; exact kw.1, by rw [E2.out]; exact hh, ho.chg ((Chg.of_below _ (Below.drew (Below.refl w.heap.size w))).trans (ky.2.1.trans kw.2.1)) (fun k hk hm => by simp at hm; exact hn (by rw [← hm]; exact hk)), hn, ((Chg.of_below _ (Below.drew (Below.refl w.heap.size w))).trans (ky.2.1.trans kw.2.1)).mono (fun k hk => List.mem_cons.2 (.inl (by simpa using hk))), fun k hk => .inl hk⟩
    · have e1 : upS s = { s with wrap := false } := by unfold upS; rw [if_neg h1, if_neg h2]
      have E1 := Lib.hid e1
      clear e1 h1
      have kw := blk_wrap (w := w.drew) hb false
      go_enter Try.func103, Try.ntmps103
      go_wp2_with fail
      go_region
      go_wp2_with fail
      refine bodyPost_end (results_none rfl _ _ _) rfl ?_
      exact ⟨rfl, M, A, T, B, by rw [E1.out]; exact kw.1, by rw [E2.out]; exact hh, ho.chg ((Chg.of_below _ (Below.drew (Below.refl w.heap.size w))).trans kw.2.1) (fun k hk hm => by simp at hm; exact hn (by rw [← hm]; exact hk)), hn, ((Chg.of_below _ (Below.drew (Below.refl w.heap.size w))).trans kw.2.1).mono (fun k hk => List.mem_cons.2 (.inl (by simpa using hk))), fun k hk => .inl hk⟩
theorem upClosure_any (s : Sc) (M A : Rw) (T : Ti) (B : Tr) (c : Cont) (lo g : Nat) (w : World) (hq : scrB s c = true) (hb : w.heap[g]? = some (.cells (sC s M A T B) 49 (0, 0))) (ho : So w lo M A T B) (hh : Hid (Holds M A T B c)) (hn : some g ∉ sft M A T B) (hlg : lo ≤ g) :
    Calls Try.prog 102 #[.pointer (some ⟨g, 0, none⟩)] w (ChPost lo g M A T B w (upS s) (upC s c)) := by
  have HU := Lib.hid (up_any s M A T B c lo g w hq hb ho hh hn hlg)
  go_enter Try.func102, Try.ntmps102
  go_wp2_with fail
  refine HU.out.mono ?_
  rintro e w1 ⟨rfl, h1⟩
  go_wp2_with fail
  refine bodyPost_end (results_none rfl _ _ _) rfl ?_
  exact ⟨rfl, h1⟩
set_option maxHeartbeats 4000000 in
theorem scrUp_impl (s : Sc) (M A : Rw) (T : Ti) (B : Tr) (c : Cont) (w : World) (hr : Sr w M A T B) (hz : Sz M A T B 1048576) (hh : Hid (Holds M A T B c)) :
    Calls Try.prog 42 #[sV s M A T B] w (ScrOwn w (chS s c (upS s)) (chC s c (upC s c))) := by
  obtain ⟨rs, hrs⟩ : ∃ x', Hid (x' = chS s c (upS s)) := ⟨_, Lib.hid rfl⟩
  obtain ⟨rc, hrc⟩ : ∃ x', Hid (x' = chC s c (upC s c)) := ⟨_, Lib.hid rfl⟩
  rw [← hrs.out, ← hrc.out]
  have b0 : ((w.alloc (.cells (sC s M A T B) 49)).alloc (.cells zC 49)).heap[w.heap.size]? = some (.cells (sC s M A T B) 49 (0, 0)) := heap_alloc_of _ (heap_alloc_new _ _)
  have z0 : ((w.alloc (.cells (sC s M A T B) 49)).alloc (.cells zC 49)).heap[w.heap.size + 1]? = some (.cells zC 49 (0, 0)) := heap_alloc_at _ (by simp)
  have t0 : Below w.heap.size w ((w.alloc (.cells (sC s M A T B) 49)).alloc (.cells zC 49)) := (((Below.refl _ _).alloc (Nat.le_refl _) _).alloc (by simp) _)
  go_enter Try.func42, Try.ntmps42
  go_wp2_with (first | (refine wpList_load_row rfl 49 _ rfl (w.heap.size) rfl 49 (sC s M A T B) (0, 0) _ b0 Try.underlying49 rfl size_scr ?_))
  refine (changed_any 102 #[] s M A T B c (upS s) (upC s c) _ (hr.below t0) hz hh (fun args w => by go_simp) (fun hq lo g M1 A1 T1 B1 w1 hb1 hB ho hH hn _ hlg => upClosure_any s M1 A1 T1 B1 c lo g w1 hq hB ho hH hn hlg)).mono ?_
  rw [← hrs.out, ← hrc.out]
  rintro e w2 ⟨M2, A2, T2, B2, rfl, hh2, ho2, hb2⟩
  have z2 := (hb2.block _ (Array.getElem?_eq_some_iff.1 z0).1).trans z0
  have t2 := t0.trans (hb2.mono t0.size)
  have x0 := t0.size
  have x2 := t2.size
  have lz := (Array.getElem?_eq_some_iff.1 z0).1
  clear b0 z0
  go_wp2_with (first | (refine wp_store_blk rfl 49 _ _ rfl (w.heap.size + 1) (sC rs M2 A2 T2 B2) rfl rfl 49 zC z2 size_scr rfl (sC_one rs M2 A2 T2 B2) ?_; intro w7 B7 C7 z7))
  refine bodyPost_ret (results_cell_row Try.results42 _ _ (w.heap.size + 1) 49 (sC rs M2 A2 T2 B2) (0, 0) _ rfl B7 Try.underlying49 rfl size_scr) rfl ?_
  exact ⟨M2, A2, T2, B2, rfl, hh2, (ho2.chg C7 (fun k hk hm => by have := (ho2.lt hk).1; simp at hm; omega)).mono (by omega), t2.trans (C7.below (fun k hk => by simp at hk; omega) (by omega))⟩

set_option linter.unusedVariables false
set_option maxRecDepth 100000

theorem frz {w : World} {g : Nat} {cs : Array Value} {t : TypeId} (h : w.heap[g]? = some (.cells cs t (0, 0))) (i : Nat) : w.frozen? ⟨g, i, none⟩ = false := by simp [World.frozen?, h]
set_option maxHeartbeats 4000000 in
theorem put_alt (cs : Array Value) (A : Option Addr) (n c : Nat) (W H : Int) (w : World) (h31 : cs.size = 31) (h8 : cs[8]? = some (.bool true)) (h1 : (((cs.setIfInBounds 5 (.int .i64 W)).setIfInBounds 6 (.int .i64 H)).setIfInBounds 7 (.slice A n c)).all (·.oneCell') = true) :
    Calls Try.prog 100 #[.agg cs, gV W H A n c] w fun e w' => e = .returned (.agg (((cs.setIfInBounds 5 (.int .i64 W)).setIfInBounds 6 (.int .i64 H)).setIfInBounds 7 (.slice A n c))) ∧ Below w.heap.size w w' := by
  obtain ⟨x5, h5⟩ : ∃ v, cs[5]? = some v := ⟨_, Array.getElem?_eq_getElem (by omega)⟩
  obtain ⟨x6, h6⟩ : ∃ v, cs[6]? = some v := ⟨_, Array.getElem?_eq_getElem (by omega)⟩
  obtain ⟨x7, h7⟩ : ∃ v, cs[7]? = some v := ⟨_, Array.getElem?_eq_getElem (by omega)⟩
  obtain ⟨ds, hds⟩ : ∃ ds, Hid (ds = ((cs.setIfInBounds 5 (.int .i64 W)).setIfInBounds 6 (.int .i64 H)).setIfInBounds 7 (.slice A n c)) := ⟨_, Lib.hid rfl⟩
  have HD : Hid (ds.size = 31) := by show _ = _; rw [hds.out]; simpa using h31
  have HO : Hid (ds.all (·.oneCell') = true) := by show _ = _; rw [hds.out]; exact h1
  have hsz : (Try.prog.info? 49).map (·.size) = some ds.size := by rw [HD.out]; exact size_scr
  have HSZ := Lib.hid hsz
  clear h1 hsz
  rw [← hds.out]
  have t0 : Below w.heap.size w (((w.alloc (.cells cs 49)).alloc (.cells #[.int .i64 W, .int .i64 H, .slice A n c] 29)).alloc (.cells zC 49)) := bel3 _ _ _ _
  have b0 : (((w.alloc (.cells cs 49)).alloc (.cells #[.int .i64 W, .int .i64 H, .slice A n c] 29)).alloc (.cells zC 49)).heap[w.heap.size]? = some (.cells cs 49 (0, 0)) := heap_alloc_of _ (heap_alloc_of _ (heap_alloc_new _ _))
  have z0 : (((w.alloc (.cells cs 49)).alloc (.cells #[.int .i64 W, .int .i64 H, .slice A n c] 29)).alloc (.cells zC 49)).heap[w.heap.size + 1 + 1]? = some (.cells zC 49 (0, 0)) := hat3 _ _ _ _
  have g0 : (((w.alloc (.cells cs 49)).alloc (.cells #[.int .i64 W, .int .i64 H, .slice A n c] 29)).alloc (.cells zC 49)).heap[w.heap.size + 1]? = some (.cells #[.int .i64 W, .int .i64 H, .slice A n c] 29 (0, 0)) := heap_alloc_of _ (hat2 _ _ _)
  go_enter Try.func100, Try.ntmps100
  go_wp2_with fail
  obtain ⟨W0, hW0⟩ : ∃ v, v = (((w.alloc (.cells cs 49)).alloc (.cells #[.int .i64 W, .int .i64 H, .slice A n c] 29)).alloc (.cells zC 49)) := ⟨_, rfl⟩
  rw [← hW0] at t0 b0 z0 g0 ⊢
  have x0 : w.heap.size + 3 ≤ W0.heap.size := by rw [hW0]; simp
  clear hW0
  have e8 : cs[8] = .bool true := by rw [Array.getElem?_eq_getElem (by omega)] at h8; exact Option.some.inj h8
  rw [e8]
  have c5 : W0.cell? ⟨w.heap.size, 5, none⟩ = some x5 := (cell_of_row _ _ _ _ _ (0, 0) b0).trans h5
  have c6 : W0.cell? ⟨w.heap.size, 6, none⟩ = some x6 := (cell_of_row _ _ _ _ _ (0, 0) b0).trans h6
  have c7 : W0.cell? ⟨w.heap.size, 7, none⟩ = some x7 := (cell_of_row _ _ _ _ _ (0, 0) b0).trans h7
  have r0 : ∀ i, W0.frozen? ⟨w.heap.size, i, none⟩ = false := frz b0
  have qg : ∀ i, W0.cell? ⟨w.heap.size + 1, i, none⟩ = _ := fun i => cell_of_row _ _ i _ _ (0, 0) g0
  have HB : Hid ((((W0.setCell ⟨w.heap.size, 5, none⟩ (.int .i64 W)).setCell ⟨w.heap.size, 6, none⟩ (.int .i64 H)).setCell ⟨w.heap.size, 7, none⟩ (.slice A n c)).heap[w.heap.size]? = some (.cells ds 49 (0, 0))) := by
    show _ = _
    rw [hds.out]
    exact heap_setCell_same (i := 7) (.slice A n c) (heap_setCell_same (i := 6) (.int .i64 H) (heap_setCell_same (i := 5) (.int .i64 W) b0))
  have k0 : Chg [some w.heap.size] W0 (((W0.setCell ⟨w.heap.size, 5, none⟩ (.int .i64 W)).setCell ⟨w.heap.size, 6, none⟩ (.int .i64 H)).setCell ⟨w.heap.size, 7, none⟩ (.slice A n c)) := ((chg1 _ _ _ _).trans (chg1 _ _ _ _)).trans (chg1 _ _ _ _)
  have HZ := Lib.hid (keep_chg k0 z0 (by intro hm; simp at hm; omega)).1
  have HK := Lib.hid k0
  have HS : Hid ((((W0.setCell ⟨w.heap.size, 5, none⟩ (.int .i64 W)).setCell ⟨w.heap.size, 6, none⟩ (.int .i64 H)).setCell ⟨w.heap.size, 7, none⟩ (.slice A n c)).heap.size = W0.heap.size) := by show _ = _; simp
  clear k0 b0 z0 g0 h5 h6 h7 h8
  go_wp2_with (first | (refine wpList_load_row rfl 49 _ rfl (w.heap.size) rfl 49 ds (0, 0) _ HB.out Try.underlying49 rfl HSZ.out ?_) | (refine wp_store_blk rfl 49 _ _ rfl (w.heap.size + 1 + 1) ds rfl rfl 49 zC HZ.out (by rw [HD.out]; exact size_scr) (by rw [HD.out]; rfl) HO.out ?_; intro w7 B7 C7 z7))
  refine bodyPost_ret (results_cell_row Try.results100 _ _ (w.heap.size + 1 + 1) 49 ds (0, 0) _ rfl B7 Try.underlying49 rfl HSZ.out) rfl ?_
  have hs := HS.out
  exact ⟨rfl, (t0.trans (HK.out.below (fun k hk => by simp at hk; omega) (by omega))).trans (C7.below (fun k hk => by simp at hk; omega) (by omega))⟩
set_option maxHeartbeats 4000000 in
theorem put_main (cs : Array Value) (A : Option Addr) (n c : Nat) (W H : Int) (w : World) (h31 : cs.size = 31) (h8 : cs[8]? = some (.bool false)) (h1 : (((cs.setIfInBounds 2 (.int .i64 W)).setIfInBounds 3 (.int .i64 H)).setIfInBounds 4 (.slice A n c)).all (·.oneCell') = true) :
    Calls Try.prog 100 #[.agg cs, gV W H A n c] w fun e w' => e = .returned (.agg (((cs.setIfInBounds 2 (.int .i64 W)).setIfInBounds 3 (.int .i64 H)).setIfInBounds 4 (.slice A n c))) ∧ Below w.heap.size w w' := by
  obtain ⟨x5, h5⟩ : ∃ v, cs[2]? = some v := ⟨_, Array.getElem?_eq_getElem (by omega)⟩
  obtain ⟨x6, h6⟩ : ∃ v, cs[3]? = some v := ⟨_, Array.getElem?_eq_getElem (by omega)⟩
  obtain ⟨x7, h7⟩ : ∃ v, cs[4]? = some v := ⟨_, Array.getElem?_eq_getElem (by omega)⟩
  obtain ⟨ds, hds⟩ : ∃ ds, Hid (ds = ((cs.setIfInBounds 2 (.int .i64 W)).setIfInBounds 3 (.int .i64 H)).setIfInBounds 4 (.slice A n c)) := ⟨_, Lib.hid rfl⟩
  have HD : Hid (ds.size = 31) := by show _ = _; rw [hds.out]; simpa using h31
  have HO : Hid (ds.all (·.oneCell') = true) := by show _ = _; rw [hds.out]; exact h1
  have hsz : (Try.prog.info? 49).map (·.size) = some ds.size := by rw [HD.out]; exact size_scr
  have HSZ := Lib.hid hsz
  clear h1 hsz
  rw [← hds.out]
  have t0 : Below w.heap.size w (((w.alloc (.cells cs 49)).alloc (.cells #[.int .i64 W, .int .i64 H, .slice A n c] 29)).alloc (.cells zC 49)) := bel3 _ _ _ _
  have b0 : (((w.alloc (.cells cs 49)).alloc (.cells #[.int .i64 W, .int .i64 H, .slice A n c] 29)).alloc (.cells zC 49)).heap[w.heap.size]? = some (.cells cs 49 (0, 0)) := heap_alloc_of _ (heap_alloc_of _ (heap_alloc_new _ _))
  have z0 : (((w.alloc (.cells cs 49)).alloc (.cells #[.int .i64 W, .int .i64 H, .slice A n c] 29)).alloc (.cells zC 49)).heap[w.heap.size + 1 + 1]? = some (.cells zC 49 (0, 0)) := hat3 _ _ _ _
  have g0 : (((w.alloc (.cells cs 49)).alloc (.cells #[.int .i64 W, .int .i64 H, .slice A n c] 29)).alloc (.cells zC 49)).heap[w.heap.size + 1]? = some (.cells #[.int .i64 W, .int .i64 H, .slice A n c] 29 (0, 0)) := heap_alloc_of _ (hat2 _ _ _)
  go_enter Try.func100, Try.ntmps100
  go_wp2_with fail
  obtain ⟨W0, hW0⟩ : ∃ v, v = (((w.alloc (.cells cs 49)).alloc (.cells #[.int .i64 W, .int .i64 H, .slice A n c] 29)).alloc (.cells zC 49)) := ⟨_, rfl⟩
  rw [← hW0] at t0 b0 z0 g0 ⊢
  have x0 : w.heap.size + 3 ≤ W0.heap.size := by rw [hW0]; simp
  clear hW0
  have e8 : cs[8] = .bool false := by rw [Array.getElem?_eq_getElem (by omega)] at h8; exact Option.some.inj h8
  rw [e8]
  have c5 : W0.cell? ⟨w.heap.size, 2, none⟩ = some x5 := (cell_of_row _ _ _ _ _ (0, 0) b0).trans h5
  have c6 : W0.cell? ⟨w.heap.size, 3, none⟩ = some x6 := (cell_of_row _ _ _ _ _ (0, 0) b0).trans h6
  have c7 : W0.cell? ⟨w.heap.size, 4, none⟩ = some x7 := (cell_of_row _ _ _ _ _ (0, 0) b0).trans h7
  have r0 : ∀ i, W0.frozen? ⟨w.heap.size, i, none⟩ = false := frz b0
  have qg : ∀ i, W0.cell? ⟨w.heap.size + 1, i, none⟩ = _ := fun i => cell_of_row _ _ i _ _ (0, 0) g0
  have HB : Hid ((((W0.setCell ⟨w.heap.size, 2, none⟩ (.int .i64 W)).setCell ⟨w.heap.size, 3, none⟩ (.int .i64 H)).setCell ⟨w.heap.size, 4, none⟩ (.slice A n c)).heap[w.heap.size]? = some (.cells ds 49 (0, 0))) := by
    show _ = _
    rw [hds.out]
    exact heap_setCell_same (i := 4) (.slice A n c) (heap_setCell_same (i := 3) (.int .i64 H) (heap_setCell_same (i := 2) (.int .i64 W) b0))
  have k0 : Chg [some w.heap.size] W0 (((W0.setCell ⟨w.heap.size, 2, none⟩ (.int .i64 W)).setCell ⟨w.heap.size, 3, none⟩ (.int .i64 H)).setCell ⟨w.heap.size, 4, none⟩ (.slice A n c)) := ((chg1 _ _ _ _).trans (chg1 _ _ _ _)).trans (chg1 _ _ _ _)
  have HZ := Lib.hid (keep_chg k0 z0 (by intro hm; simp at hm; omega)).1
  have HK := Lib.hid k0
  have HS : Hid ((((W0.setCell ⟨w.heap.size, 2, none⟩ (.int .i64 W)).setCell ⟨w.heap.size, 3, none⟩ (.int .i64 H)).setCell ⟨w.heap.size, 4, none⟩ (.slice A n c)).heap.size = W0.heap.size) := by show _ = _; simp
  clear k0 b0 z0 g0 h5 h6 h7 h8
  go_wp2_with (first | (refine wpList_load_row rfl 49 _ rfl (w.heap.size) rfl 49 ds (0, 0) _ HB.out Try.underlying49 rfl HSZ.out ?_) | (refine wp_store_blk rfl 49 _ _ rfl (w.heap.size + 1 + 1) ds rfl rfl 49 zC HZ.out (by rw [HD.out]; exact size_scr) (by rw [HD.out]; rfl) HO.out ?_; intro w7 B7 C7 z7))
  refine bodyPost_ret (results_cell_row Try.results100 _ _ (w.heap.size + 1 + 1) 49 ds (0, 0) _ rfl B7 Try.underlying49 rfl HSZ.out) rfl ?_
  have hs := HS.out
  exact ⟨rfl, (t0.trans (HK.out.below (fun k hk => by simp at hk; omega) (by omega))).trans (C7.below (fun k hk => by simp at hk; omega) (by omega))⟩
theorem set_alt (s : Sc) (M A : Rw) (T : Ti) (B : Tr) (G : Option Addr) (c : Nat) (cs : List Cl) (W H : Int) : (((sC s M A T B).setIfInBounds 5 (.int .i64 W)).setIfInBounds 6 (.int .i64 H)).setIfInBounds 7 (.slice G cs.length c) = sC { s with aW := W, aH := H } M (G, c, cs) T B := by
  unfold sC
  simp only [List.setIfInBounds_toArray, List.set_cons_succ, List.set_cons_zero]
theorem set_main (s : Sc) (M A : Rw) (T : Ti) (B : Tr) (G : Option Addr) (c : Nat) (cs : List Cl) (W H : Int) : (((sC s M A T B).setIfInBounds 2 (.int .i64 W)).setIfInBounds 3 (.int .i64 H)).setIfInBounds 4 (.slice G cs.length c) = sC { s with mW := W, mH := H } (G, c, cs) A T B := by
  unfold sC
  simp only [List.setIfInBounds_toArray, List.set_cons_succ, List.set_cons_zero]
theorem l09Put_alt (s : Sc) (M A : Rw) (T : Ti) (B : Tr) (G : Option Addr) (n c : Nat) (cs : List Cl) (W H : Int) (w : World) (hn : n = cs.length) (ho : s.onA = true) :
    Calls Try.prog 100 #[sV s M A T B, gV W H G n c] w fun e w' => e = .returned (sV { s with aW := W, aH := H } M (G, c, cs) T B) ∧ Below w.heap.size w w' := by
  subst hn
  have := put_alt (sC s M A T B) G cs.length c W H w rfl (by rw [← ho]; rfl) (by rw [set_alt s M A T B G c cs W H]; exact sC_one _ _ _ _ _)
  rw [set_alt s M A T B G c cs W H] at this
  exact this
theorem l09Put_main (s : Sc) (M A : Rw) (T : Ti) (B : Tr) (G : Option Addr) (n c : Nat) (cs : List Cl) (W H : Int) (w : World) (hn : n = cs.length) (ho : s.onA = false) :
    Calls Try.prog 100 #[sV s M A T B, gV W H G n c] w fun e w' => e = .returned (sV { s with mW := W, mH := H } (G, c, cs) A T B) ∧ Below w.heap.size w w' := by
  subst hn
  have := put_main (sC s M A T B) G cs.length c W H w rfl (by rw [← ho]; rfl) (by rw [set_main s M A T B G c cs W H]; exact sC_one _ _ _ _ _)
  rw [set_main s M A T B G c cs W H] at this
  exact this

set_option linter.unusedVariables false
set_option maxRecDepth 100000

set_option maxHeartbeats 4000000 in
theorem scrUp_spec (s : Sc) (M A : Rw) (T : Ti) (B : Tr) (c : Cont) (w : World) (hr : Sr w M A T B) (hz : Sz M A T B 1048576) (hh : Hid (Holds M A T B c)) :
    Calls Try.prog 41 #[sV s M A T B] w (ScrOwn w (chS s c (upS s)) (chC s c (upC s c))) := by
  have hno := Lib.hid (fun h => ch_no (s := s) (c := c) h (upS s) (upC s c))
  have hyes := Lib.hid (fun h => ch_yes (s := s) (c := c) h (upS s) (upC s c))
  obtain ⟨rs, hrs⟩ : ∃ x', Hid (x' = chS s c (upS s)) := ⟨_, Lib.hid rfl⟩
  obtain ⟨rc, hrc⟩ : ∃ x', Hid (x' = chC s c (upC s c)) := ⟨_, Lib.hid rfl⟩
  rw [← hrs.out, ← hrc.out] at hno hyes ⊢
  have t0 : Below w.heap.size w ((w.alloc (.cells (sC s M A T B) 49)).alloc (.cells zC 49)) := bel2 _ _ _
  have b0 : ((w.alloc (.cells (sC s M A T B) 49)).alloc (.cells zC 49)).heap[w.heap.size]? = some (.cells (sC s M A T B) 49 (0, 0)) := heap_alloc_of _ (heap_alloc_new _ _)
  have z0 : ((w.alloc (.cells (sC s M A T B) 49)).alloc (.cells zC 49)).heap[w.heap.size + 1]? = some (.cells zC 49 (0, 0)) := hat2 _ _ _
  go_enter Try.func41, Try.ntmps41
  go_wp2_with (first | (refine wpList_load_row rfl 49 _ rfl (w.heap.size) rfl 49 (sC s M A T B) (0, 0) _ b0 Try.underlying49 rfl size_scr ?_))
  refine (scrOk_spec s M A T B _ (hr.below t0) hz).mono ?_
  rw [hh.out.eq]
  rintro e w1 ⟨he, hb1⟩
  have b1 := (hb1.block _ (Array.getElem?_eq_some_iff.1 b0).1).trans b0
  have z1 := (hb1.block _ (Array.getElem?_eq_some_iff.1 z0).1).trans z0
  have zz1 := (Array.getElem?_eq_some_iff.1 z1).1
  have t1 := t0.trans (hb1.mono t0.size)
  clear b0 z0
  cases hq : scrB s c with
  | false =>
    obtain ⟨e1, e2⟩ := hno.out hq
    subst e1 e2
    rw [hq] at he
    subst he
    clear hq hno hyes hrs hrc
    go_wp2_with (first | (refine wp_store_blk rfl 49 _ _ rfl (w.heap.size + 1) zC rfl rfl 49 zC z1 size_scr rfl (by simp [Value.oneCell']) ?_; intro w7 B7 C7 z7))
    refine bodyPost_ret (results_cell_row Try.results41 _ _ (w.heap.size + 1) 49 zC (0, 0) _ rfl B7 Try.underlying49 rfl size_scr) rfl ?_
    exact own_nil (t1.trans (C7.below (fun k hk => by simp at hk; omega) (by omega)))
  | true =>
    obtain ⟨e1, e2⟩ := hyes.out hq
    have E1 := Lib.hid e1
    clear e1
    have E2 := Lib.hid e2
    clear e2
    have hq' : scrB s ⟨M.2.2, A.2.2, T.2.2, rcs B.2.2⟩ = true := by rw [hh.out.eq]; exact hq
    obtain ⟨⟨d1, d2⟩, d3, d4⟩ := scr_dims hq
    rw [hq] at he
    subst he
    have HQ := Lib.hid hq'
    have HQQ := Lib.hid hq
    clear hq hno hyes hrs hrc hq'
    go_wp2_with (first | (refine wpList_load_row rfl 49 _ rfl (w.heap.size) rfl 49 (sC s M A T B) (0, 0) _ b1 Try.underlying49 rfl size_scr ?_))
    refine (l09Copy_any s M A T B _ (hr.below t1) hz HQ.out).mono ?_
    rw [hh.out.eq]
    rintro e w2 ⟨M2, A2, T2, B2, rfl, hh2, ho2, hb2⟩
    have b2 := (hb2.block _ (Array.getElem?_eq_some_iff.1 b1).1).trans b1
    have z2 := (hb2.block _ (Array.getElem?_eq_some_iff.1 z1).1).trans z1
    have zz2 := (Array.getElem?_eq_some_iff.1 z2).1
    have x2 := hb2.size
    have t2 := t1.trans (hb2.mono t1.size)
    clear b1 z1
    have n1 : ¬ w2.heap.size = w.heap.size := by omega
    have n2 : ¬ w.heap.size = w2.heap.size := by omega
    by_cases h1 : s.Y = s.top
    · have h1' : (s.Y == s.top) = true := by simpa using h1
      have e1 : upS s = { s with wrap := false } := by unfold upS; rw [if_pos h1]
      have e2 : upC s c = rollC s c (-1) := if_pos h1
      have F1 := Lib.hid (E1.out.trans e1)
      have F2 := Lib.hid (E2.out.trans e2)
      clear e1 e2 h1
      go_wp2_with (first | (refine wp_store_blk rfl 49 _ _ rfl w2.heap.size (sC s M2 A2 T2 B2) rfl rfl 49 zC (heap_alloc_new _ _) size_scr rfl (sC_one s M2 A2 T2 B2) ?_; intro w3 b3 k3 zz3; have h3 : Below w2.heap.size w2 w3 := ((Below.refl _ _).alloc (Nat.le_refl _) _).trans (k3.below (fun k hk => by simp at hk; omega) (by simp)); have bP3 := (h3.block _ (Array.getElem?_eq_some_iff.1 b2).1).trans b2; have z3 := (h3.block _ zz2).trans z2; have qP : ∀ i, w3.cell? ⟨w.heap.size, i, none⟩ = _ := (fun i => cell_of_row w3 _ i _ _ (0, 0) bP3); have rG : ∀ i, w3.frozen? ⟨w2.heap.size, i, none⟩ = false := (fun i => by simp [World.frozen?, b3]); have qG : ∀ i, w3.cell? ⟨w2.heap.size, i, none⟩ = _ := (fun i => cell_of_row w3 _ i _ _ (0, 0) b3)))
      obtain ⟨v3, hv3⟩ : ∃ v, v = w3.setCell ⟨w2.heap.size, 11, none⟩ (.bool false) := ⟨_, rfl⟩
      rw [← hv3]
      have kw : Bk w2.heap.size w3 v3 (sC rs M2 A2 T2 B2) := by rw [hv3, F1.out]; exact blk_wrap b3 false
      have bO := kw.1
      have bP := (keep_chg kw.2.1 bP3 (by intro hm; simp at hm; omega)).1
      have zO := (keep_chg kw.2.1 z3 (by intro hm; simp at hm; omega)).1
      have HK := Lib.hid kw.2.1
      have HS := Lib.hid kw.2.2
      clear kw hv3 qP rG qG b3 bP3 z3 b2 z2
      have tP : Below w.heap.size w v3 := (t2.trans (h3.mono t2.size)).trans (HK.out.below (fun k hk => by simp at hk; omega) (by have := h3.size; omega))
      have hq := HQQ.out
      obtain ⟨⟨u1, u2, u3, u4⟩, _, ⟨v1, v2, v3'⟩, _⟩ := scr_nums hq
      obtain ⟨g1, g2, _, _, _⟩ := scr_grids hq
      obtain ⟨pp1, pp2⟩ := grid_pos g1
      obtain ⟨pp3, pp4⟩ := grid_pos g2
      have hHo := hh.out
      have hX2 := hb2.size
      have hX3 := h3.size
      rcases Bool.eq_false_or_eq_true s.onA with ho | ho
      ·
        obtain ⟨ns, hns⟩ : ∃ ns, Hid (ns = roL c.a s.aW.toNat s.top.toNat s.bot.toNat (-1)) := ⟨_, Lib.hid rfl⟩
        have hRC : rollC s c (-1) = { c with a := ns } := by rw [hns.out]; exact if_pos ho
        have hR : roR s.aW s.aH c.a s.top s.bot (-1) = (s.aW, s.aH, ns) := by rw [hns.out]; exact if_pos ⟨g2, v1, v3', by omega⟩
        have hE1 : rs.aW = s.aW := by rw [F1.out]
        have hE2 : rs.aH = s.aH := by rw [F1.out]
        have HO := Lib.hid ho
        have HO1 : Hid (rs.onA = true) := by show _ = _; rw [F1.out]; exact ho
        have HGS : Hid (∀ w', Below w.heap.size w w' → Gs w' A.1 A.2.2) := fun w' hb => hr.ga.below hb
        have HGR : Hid (∀ w', Gs w' A.1 A.2.2 → Calls Try.prog 101 #[gV s.aW s.aH A.1 A.2.2.length A.2.1, .int .i64 s.top, .int .i64 s.bot, .int .i64 (-1)] w' (GridPost w' rs.aW rs.aH ns)) := fun w' hg => by
          rw [hE1, hE2]
          have := gridRoll_spec s.aW s.aH A.1 A.2.1 A.2.2 s.top s.bot (-1) w' hg (by rw [hHo.2.1]; omega)
          rw [hHo.2.1, hR] at this
          rw [hHo.2.1]
          exact this
        have F3 := Lib.hid (F2.out.trans hRC)
        clear ho hE1 hE2 hRC hR u1 u2 u3 u4 v1 v2 v3' g1 g2 pp1 pp2 pp3 pp4 hHo hq n1 n2
        refine wp_regionK (fun w' => w'.heap[w.heap.size]? = some (.cells (sC s M A T B) 49 (0, 0)) ∧ w'.heap[w2.heap.size]? = some (.cells (sC rs M2 A2 T2 B2) 49 (0, 0))) 9 (by kernel_rfl) ?_
        refine wpAnyK_take (i := 0) (v := sV rs M2 A2 T2 B2) rfl (by kernel_rfl) (by kernel_rfl) (by kernel_rfl) (fun _ _ _ h => h) (by kernel_rfl) (by kernel_rfl) (by decide) (yields_row (by rfl) 49 _ rfl (w2.heap.size) rfl 49 (sC rs M2 A2 T2 B2) (0, 0) _ (fun _ h => h.2) Try.underlying49 rfl size_scr) (⟨bP, bO⟩) ?_
        try simp only [Act.put, List.getElem_toArray, List.getElem_cons_zero, List.setIfInBounds_toArray, List.set_cons_zero, List.set_cons_succ]
        refine wpAnyK_take (i := 1) (v := sV s M A T B) rfl (by kernel_rfl) (by kernel_rfl) (by kernel_rfl) (fun _ _ _ h => h) (by kernel_rfl) (by kernel_rfl) (by decide) (yields_row (by rfl) 49 _ rfl (w.heap.size) rfl 49 (sC s M A T B) (0, 0) _ (fun _ h => h.1) Try.underlying49 rfl size_scr) (⟨bP, bO⟩) ?_
        try simp only [Act.put, List.getElem_toArray, List.getElem_cons_succ, List.getElem_cons_zero, List.setIfInBounds_toArray, List.set_cons_zero, List.set_cons_succ]
        refine wpAnyK_free (i := 3) (v := .pointer (some ⟨w.heap.size, 17, none⟩)) rfl (by kernel_rfl) (by kernel_rfl) (by kernel_rfl) (fun _ _ _ h => h) (by decide) (Or.inl ⟨by rfl, (by intro w' _; go_simp; try rfl)⟩) (fun _ => ⟨bP, bO⟩) ?_
        try simp only [Act.put, List.getElem_toArray, List.getElem_cons_succ, List.getElem_cons_zero, List.setIfInBounds_toArray, List.set_cons_zero, List.set_cons_succ]
        refine wpAnyK_take (i := 4) (v := .int .i64 s.top) rfl (by kernel_rfl) (by kernel_rfl) (by kernel_rfl) (fun _ _ _ h => h) (by kernel_rfl) (by kernel_rfl) (by decide) (Or.inl ⟨by rfl, (by intro w' hSw; have q : ∀ i, w'.cell? ⟨w.heap.size, i, none⟩ = _ := fun i => cell_of_row w' _ i _ _ (0, 0) hSw.1; go_simp; try first | rfl | simp [q])⟩) (⟨bP, bO⟩) ?_
        try simp only [Act.put, List.getElem_toArray, List.getElem_cons_succ, List.getElem_cons_zero, List.setIfInBounds_toArray, List.set_cons_zero, List.set_cons_succ]
        refine wpAnyK_free (i := 5) (v := .pointer (some ⟨w.heap.size, 18, none⟩)) rfl (by kernel_rfl) (by kernel_rfl) (by kernel_rfl) (fun _ _ _ h => h) (by decide) (Or.inl ⟨by rfl, (by intro w' _; go_simp; try rfl)⟩) (fun _ => ⟨bP, bO⟩) ?_
        try simp only [Act.put, List.getElem_toArray, List.getElem_cons_succ, List.getElem_cons_zero, List.setIfInBounds_toArray, List.set_cons_zero, List.set_cons_succ]
        refine wpAnyK_take (i := 6) (v := .int .i64 s.bot) rfl (by kernel_rfl) (by kernel_rfl) (by kernel_rfl) (fun _ _ _ h => h) (by kernel_rfl) (by kernel_rfl) (by decide) (Or.inl ⟨by rfl, (by intro w' hSw; have q : ∀ i, w'.cell? ⟨w.heap.size, i, none⟩ = _ := fun i => cell_of_row w' _ i _ _ (0, 0) hSw.1; go_simp; try first | rfl | simp [q])⟩) (⟨bP, bO⟩) ?_
        try simp only [Act.put, List.getElem_toArray, List.getElem_cons_succ, List.getElem_cons_zero, List.setIfInBounds_toArray, List.set_cons_zero, List.set_cons_succ]
        refine wpAnyK_ready (rs := [2]) (by kernel_rfl) (by simp) ?_
        refine AllReadyK.cons rfl (fun K hK => ?_) AllReadyK.nil
        go_simp
        refine (l09Shown_any s M A T B _).mono ?_
        rintro e w4 ⟨he, hb4⟩
        rw [if_pos HO.out] at he
        subst he
        have t4 := tP.drew.trans (hb4.mono tP.size)
        have bP4 := (hb4.block _ (Array.getElem?_eq_some_iff.1 bP).1).trans bP
        have bO4 := (hb4.block _ (Array.getElem?_eq_some_iff.1 bO).1).trans bO
        have zO4 := (hb4.block _ (Array.getElem?_eq_some_iff.1 zO).1).trans zO
        refine hK.out _ _ (fun _ => ⟨bP4, bO4⟩) ?_
        clear hK K
        try simp only [Act.put, List.getElem_toArray, List.getElem_cons_succ, List.getElem_cons_zero, List.setIfInBounds_toArray, List.set_cons_zero, List.set_cons_succ]
        refine wpAnyK_ready (rs := [7]) (by kernel_rfl) (by simp) ?_
        refine AllReadyK.cons rfl (fun K hK => ?_) AllReadyK.nil
        go_simp
        refine (HGR.out _ (HGS.out _ t4)).mono ?_
        rintro e w5 ⟨G, gc, rfl, og5, _, _, hb5⟩
        have t5 := t4.trans (hb5.mono t4.size)
        have bP5 := (hb5.block _ (Array.getElem?_eq_some_iff.1 bP4).1).trans bP4
        have bO5 := (hb5.block _ (Array.getElem?_eq_some_iff.1 bO4).1).trans bO4
        have zO5 := (hb5.block _ (Array.getElem?_eq_some_iff.1 zO4).1).trans zO4
        refine hK.out _ _ (fun _ => ⟨bP5, bO5⟩) ?_
        clear hK K
        try simp only [Act.put, List.getElem_toArray, List.getElem_cons_succ, List.getElem_cons_zero, List.setIfInBounds_toArray, List.set_cons_zero, List.set_cons_succ]
        refine wpAnyK_ready (rs := [8]) (by kernel_rfl) (by simp) ?_
        refine AllReadyK.cons rfl (fun K hK => ?_) AllReadyK.nil
        go_simp
        refine (l09Put_alt rs M2 A2 T2 B2 G ns.length gc ns rs.aW rs.aH _ rfl HO1.out).mono ?_
        rintro e w6 ⟨rfl, hb6⟩
        have t6 := t5.trans (hb6.mono t5.size)
        have bP6 := (hb6.block _ (Array.getElem?_eq_some_iff.1 bP5).1).trans bP5
        have bO6 := (hb6.block _ (Array.getElem?_eq_some_iff.1 bO5).1).trans bO5
        have zO6 := (hb6.block _ (Array.getElem?_eq_some_iff.1 zO5).1).trans zO5
        refine hK.out _ _ (fun _ => ⟨bP6, bO6⟩) ?_
        clear hK K
        try simp only [Act.put, List.getElem_toArray, List.getElem_cons_succ, List.getElem_cons_zero, List.setIfInBounds_toArray, List.set_cons_zero, List.set_cons_succ]
        refine wpAnyK_ready (rs := [9]) (by kernel_rfl) (by simp) ?_
        refine AllReadyK.cons rfl (fun K hK => ?_) AllReadyK.nil
        rw [if_pos (by rfl)]
        refine wp_store_blkO 49 _ _ rfl (w.heap.size + 1) (sC rs M2 (G, gc, ns) T2 B2) rfl rfl 49 zC zO6 size_scr rfl (sC_one _ _ _ _ _) ?_
        intro w7 B7 C7 z7
        refine hK.out _ _ (late (by kernel_rfl)) ?_
        clear hK K
        try simp only [Act.put, List.getElem_toArray, List.getElem_cons_succ, List.getElem_cons_zero]
        refine wpAnyK_done (by kernel_rfl) ?_ _
        go_wp2_with fail
        refine bodyPost_ret (results_cell_row Try.results41 _ _ (w.heap.size + 1) 49 (sC rs M2 (G, gc, ns) T2 B2) (0, 0) _ rfl B7 Try.underlying49 rfl size_scr) rfl ?_
        rw [F3.out]
        have hs := HS.out
        have y4 := hb4.size
        have y5 := hb5.size
        have y6 := hb6.size
        have oV : So v3 w1.heap.size M2 A2 T2 B2 := (ho2.below h3 (Nat.le_refl _)).chg HK.out (fun k hk hm => by have := (ho2.lt hk).2; simp at hm; omega)
        have o6 : So w6 w1.heap.size M2 A2 T2 B2 := ((((oV.below (Below.refl v3.heap.size v3).drew (Nat.le_refl _)).below hb4 (Nat.le_refl _)).below hb5 (Nat.le_refl _)).below hb6 (Nat.le_refl _))
        have o7 := o6.chg C7 (fun k hk hm => by have := (ho2.lt hk).1; simp at hm; omega)
        have og7 : Og w7 w4.heap.size G gc ns := (og5.below hb6 (Nat.le_refl _)).chg C7 (fun k hk hm => by have := (og5.ob_lt hk).1; simp at hm; simp at y4; omega)
        simp at y4
        exact ⟨M2, (G, gc, ns), T2, B2, rfl, ⟨hh2.out.1, rfl, hh2.out.2.2.1, hh2.out.2.2.2⟩, (o7.putA (A' := (G, gc, ns)) og7 (fun k hk => by have := (ho2.lt hk).2; omega) (by omega)).mono (by omega), t6.trans (C7.below (fun k hk => by simp at hk; omega) (by have := t6.size; omega))⟩
      ·
        obtain ⟨ns, hns⟩ : ∃ ns, Hid (ns = roL c.m s.mW.toNat s.top.toNat s.bot.toNat (-1)) := ⟨_, Lib.hid rfl⟩
        have hRC : rollC s c (-1) = { c with m := ns } := by rw [hns.out]; exact if_neg (by rw [ho]; simp)
        have hR : roR s.mW s.mH c.m s.top s.bot (-1) = (s.mW, s.mH, ns) := by rw [hns.out]; exact if_pos ⟨g1, v1, v3', by omega⟩
        have hE1 : rs.mW = s.mW := by rw [F1.out]
        have hE2 : rs.mH = s.mH := by rw [F1.out]
        have HO := Lib.hid ho
        have HO1 : Hid (rs.onA = false) := by show _ = _; rw [F1.out]; exact ho
        have HGS : Hid (∀ w', Below w.heap.size w w' → Gs w' M.1 M.2.2) := fun w' hb => hr.gm.below hb
        have HGR : Hid (∀ w', Gs w' M.1 M.2.2 → Calls Try.prog 101 #[gV s.mW s.mH M.1 M.2.2.length M.2.1, .int .i64 s.top, .int .i64 s.bot, .int .i64 (-1)] w' (GridPost w' rs.mW rs.mH ns)) := fun w' hg => by
          rw [hE1, hE2]
          have := gridRoll_spec s.mW s.mH M.1 M.2.1 M.2.2 s.top s.bot (-1) w' hg (by rw [hHo.1]; omega)
          rw [hHo.1, hR] at this
          rw [hHo.1]
          exact this
        have F3 := Lib.hid (F2.out.trans hRC)
        clear ho hE1 hE2 hRC hR u1 u2 u3 u4 v1 v2 v3' g1 g2 pp1 pp2 pp3 pp4 hHo hq n1 n2
        refine wp_regionK (fun w' => w'.heap[w.heap.size]? = some (.cells (sC s M A T B) 49 (0, 0)) ∧ w'.heap[w2.heap.size]? = some (.cells (sC rs M2 A2 T2 B2) 49 (0, 0))) 9 (by kernel_rfl) ?_
        refine wpAnyK_take (i := 0) (v := sV rs M2 A2 T2 B2) rfl (by kernel_rfl) (by kernel_rfl) (by kernel_rfl) (fun _ _ _ h => h) (by kernel_rfl) (by kernel_rfl) (by decide) (yields_row (by rfl) 49 _ rfl (w2.heap.size) rfl 49 (sC rs M2 A2 T2 B2) (0, 0) _ (fun _ h => h.2) Try.underlying49 rfl size_scr) (⟨bP, bO⟩) ?_
        try simp only [Act.put, List.getElem_toArray, List.getElem_cons_zero, List.setIfInBounds_toArray, List.set_cons_zero, List.set_cons_succ]
        refine wpAnyK_take (i := 1) (v := sV s M A T B) rfl (by kernel_rfl) (by kernel_rfl) (by kernel_rfl) (fun _ _ _ h => h) (by kernel_rfl) (by kernel_rfl) (by decide) (yields_row (by rfl) 49 _ rfl (w.heap.size) rfl 49 (sC s M A T B) (0, 0) _ (fun _ h => h.1) Try.underlying49 rfl size_scr) (⟨bP, bO⟩) ?_
        try simp only [Act.put, List.getElem_toArray, List.getElem_cons_succ, List.getElem_cons_zero, List.setIfInBounds_toArray, List.set_cons_zero, List.set_cons_succ]
        refine wpAnyK_free (i := 3) (v := .pointer (some ⟨w.heap.size, 17, none⟩)) rfl (by kernel_rfl) (by kernel_rfl) (by kernel_rfl) (fun _ _ _ h => h) (by decide) (Or.inl ⟨by rfl, (by intro w' _; go_simp; try rfl)⟩) (fun _ => ⟨bP, bO⟩) ?_
        try simp only [Act.put, List.getElem_toArray, List.getElem_cons_succ, List.getElem_cons_zero, List.setIfInBounds_toArray, List.set_cons_zero, List.set_cons_succ]
        refine wpAnyK_take (i := 4) (v := .int .i64 s.top) rfl (by kernel_rfl) (by kernel_rfl) (by kernel_rfl) (fun _ _ _ h => h) (by kernel_rfl) (by kernel_rfl) (by decide) (Or.inl ⟨by rfl, (by intro w' hSw; have q : ∀ i, w'.cell? ⟨w.heap.size, i, none⟩ = _ := fun i => cell_of_row w' _ i _ _ (0, 0) hSw.1; go_simp; try first | rfl | simp [q])⟩) (⟨bP, bO⟩) ?_
        try simp only [Act.put, List.getElem_toArray, List.getElem_cons_succ, List.getElem_cons_zero, List.setIfInBounds_toArray, List.set_cons_zero, List.set_cons_succ]
        refine wpAnyK_free (i := 5) (v := .pointer (some ⟨w.heap.size, 18, none⟩)) rfl (by kernel_rfl) (by kernel_rfl) (by kernel_rfl) (fun _ _ _ h => h) (by decide) (Or.inl ⟨by rfl, (by intro w' _; go_simp; try rfl)⟩) (fun _ => ⟨bP, bO⟩) ?_
        try simp only [Act.put, List.getElem_toArray, List.getElem_cons_succ, List.getElem_cons_zero, List.setIfInBounds_toArray, List.set_cons_zero, List.set_cons_succ]
        refine wpAnyK_take (i := 6) (v := .int .i64 s.bot) rfl (by kernel_rfl) (by kernel_rfl) (by kernel_rfl) (fun _ _ _ h => h) (by kernel_rfl) (by kernel_rfl) (by decide) (Or.inl ⟨by rfl, (by intro w' hSw; have q : ∀ i, w'.cell? ⟨w.heap.size, i, none⟩ = _ := fun i => cell_of_row w' _ i _ _ (0, 0) hSw.1; go_simp; try first | rfl | simp [q])⟩) (⟨bP, bO⟩) ?_
        try simp only [Act.put, List.getElem_toArray, List.getElem_cons_succ, List.getElem_cons_zero, List.setIfInBounds_toArray, List.set_cons_zero, List.set_cons_succ]
        refine wpAnyK_ready (rs := [2]) (by kernel_rfl) (by simp) ?_
        refine AllReadyK.cons rfl (fun K hK => ?_) AllReadyK.nil
        go_simp
        refine (l09Shown_any s M A T B _).mono ?_
        rintro e w4 ⟨he, hb4⟩
        rw [if_neg (by rw [HO.out]; simp)] at he
        subst he
        have t4 := tP.drew.trans (hb4.mono tP.size)
        have bP4 := (hb4.block _ (Array.getElem?_eq_some_iff.1 bP).1).trans bP
        have bO4 := (hb4.block _ (Array.getElem?_eq_some_iff.1 bO).1).trans bO
        have zO4 := (hb4.block _ (Array.getElem?_eq_some_iff.1 zO).1).trans zO
        refine hK.out _ _ (fun _ => ⟨bP4, bO4⟩) ?_
        clear hK K
        try simp only [Act.put, List.getElem_toArray, List.getElem_cons_succ, List.getElem_cons_zero, List.setIfInBounds_toArray, List.set_cons_zero, List.set_cons_succ]
        refine wpAnyK_ready (rs := [7]) (by kernel_rfl) (by simp) ?_
        refine AllReadyK.cons rfl (fun K hK => ?_) AllReadyK.nil
        go_simp
        refine (HGR.out _ (HGS.out _ t4)).mono ?_
        rintro e w5 ⟨G, gc, rfl, og5, _, _, hb5⟩
        have t5 := t4.trans (hb5.mono t4.size)
        have bP5 := (hb5.block _ (Array.getElem?_eq_some_iff.1 bP4).1).trans bP4
        have bO5 := (hb5.block _ (Array.getElem?_eq_some_iff.1 bO4).1).trans bO4
        have zO5 := (hb5.block _ (Array.getElem?_eq_some_iff.1 zO4).1).trans zO4
        refine hK.out _ _ (fun _ => ⟨bP5, bO5⟩) ?_
        clear hK K
        try simp only [Act.put, List.getElem_toArray, List.getElem_cons_succ, List.getElem_cons_zero, List.setIfInBounds_toArray, List.set_cons_zero, List.set_cons_succ]
        refine wpAnyK_ready (rs := [8]) (by kernel_rfl) (by simp) ?_
        refine AllReadyK.cons rfl (fun K hK => ?_) AllReadyK.nil
        go_simp
        refine (l09Put_main rs M2 A2 T2 B2 G ns.length gc ns rs.mW rs.mH _ rfl HO1.out).mono ?_
        rintro e w6 ⟨rfl, hb6⟩
        have t6 := t5.trans (hb6.mono t5.size)
        have bP6 := (hb6.block _ (Array.getElem?_eq_some_iff.1 bP5).1).trans bP5
        have bO6 := (hb6.block _ (Array.getElem?_eq_some_iff.1 bO5).1).trans bO5
        have zO6 := (hb6.block _ (Array.getElem?_eq_some_iff.1 zO5).1).trans zO5
        refine hK.out _ _ (fun _ => ⟨bP6, bO6⟩) ?_
        clear hK K
        try simp only [Act.put, List.getElem_toArray, List.getElem_cons_succ, List.getElem_cons_zero, List.setIfInBounds_toArray, List.set_cons_zero, List.set_cons_succ]
        refine wpAnyK_ready (rs := [9]) (by kernel_rfl) (by simp) ?_
        refine AllReadyK.cons rfl (fun K hK => ?_) AllReadyK.nil
        rw [if_pos (by rfl)]
        refine wp_store_blkO 49 _ _ rfl (w.heap.size + 1) (sC rs (G, gc, ns) A2 T2 B2) rfl rfl 49 zC zO6 size_scr rfl (sC_one _ _ _ _ _) ?_
        intro w7 B7 C7 z7
        refine hK.out _ _ (late (by kernel_rfl)) ?_
        clear hK K
        try simp only [Act.put, List.getElem_toArray, List.getElem_cons_succ, List.getElem_cons_zero]
        refine wpAnyK_done (by kernel_rfl) ?_ _
        go_wp2_with fail
        refine bodyPost_ret (results_cell_row Try.results41 _ _ (w.heap.size + 1) 49 (sC rs (G, gc, ns) A2 T2 B2) (0, 0) _ rfl B7 Try.underlying49 rfl size_scr) rfl ?_
        rw [F3.out]
        have hs := HS.out
        have y4 := hb4.size
        have y5 := hb5.size
        have y6 := hb6.size
        have oV : So v3 w1.heap.size M2 A2 T2 B2 := (ho2.below h3 (Nat.le_refl _)).chg HK.out (fun k hk hm => by have := (ho2.lt hk).2; simp at hm; omega)
        have o6 : So w6 w1.heap.size M2 A2 T2 B2 := ((((oV.below (Below.refl v3.heap.size v3).drew (Nat.le_refl _)).below hb4 (Nat.le_refl _)).below hb5 (Nat.le_refl _)).below hb6 (Nat.le_refl _))
        have o7 := o6.chg C7 (fun k hk hm => by have := (ho2.lt hk).1; simp at hm; omega)
        have og7 : Og w7 w4.heap.size G gc ns := (og5.below hb6 (Nat.le_refl _)).chg C7 (fun k hk hm => by have := (og5.ob_lt hk).1; simp at hm; simp at y4; omega)
        simp at y4
        exact ⟨(G, gc, ns), A2, T2, B2, rfl, ⟨rfl, hh2.out.2.1, hh2.out.2.2.1, hh2.out.2.2.2⟩, (o7.putM (M' := (G, gc, ns)) og7 (fun k hk => by have := (ho2.lt hk).2; omega) (by omega)).mono (by omega), t6.trans (C7.below (fun k hk => by simp at hk; omega) (by have := t6.size; omega))⟩
    · have h1' : (s.Y == s.top) = false := by simpa using h1
      have e2 : upC s c = c := if_neg h1
      have F2 := Lib.hid (E2.out.trans e2)
      obtain ⟨_, ⟨_, _, y1, y2⟩, _, _⟩ := scr_nums HQQ.out
      clear e2
      by_cases h2 : 0 < s.Y
      · have e1 : upS s = { s with Y := s.Y - 1, wrap := false } := by unfold upS; rw [if_neg h1, if_pos h2]
        have F1 := Lib.hid (E1.out.trans e1)
        clear e1 h1
        go_wp2_with (first | (refine wpList_load_row rfl 49 _ rfl (w2.heap.size) rfl 49 (sC rs M2 A2 T2 B2) (0, 0) _ HB.out Try.underlying49 rfl size_scr ?_) | (refine wp_store_blk rfl 49 _ _ rfl (w.heap.size + 1) (sC rs M2 A2 T2 B2) rfl rfl 49 zC HZ.out size_scr rfl (sC_one _ _ _ _ _) ?_; intro w7 B7 C7 z7) | (refine wp_store_blk rfl 49 _ _ rfl w2.heap.size (sC s M2 A2 T2 B2) rfl rfl 49 zC (heap_alloc_new _ _) size_scr rfl (sC_one s M2 A2 T2 B2) ?_; intro w3 b3 k3 zz3; have h3 : Below w2.heap.size w2 w3 := ((Below.refl _ _).alloc (Nat.le_refl _) _).trans (k3.below (fun k hk => by simp at hk; omega) (by simp)); have bP3 := (h3.block _ (Array.getElem?_eq_some_iff.1 b2).1).trans b2; have z3 := (h3.block _ zz2).trans z2; have qP : ∀ i, w3.cell? ⟨w.heap.size, i, none⟩ = _ := (fun i => cell_of_row w3 _ i _ _ (0, 0) bP3); have rG : ∀ i, w3.frozen? ⟨w2.heap.size, i, none⟩ = false := (fun i => by simp [World.frozen?, b3]); have qG : ∀ i, w3.cell? ⟨w2.heap.size, i, none⟩ = _ := (fun i => cell_of_row w3 _ i _ _ (0, 0) b3); have ka := blk_wrap b3 false; have kk := blk_y ka.1 (s.Y - 1); have kk0 := ka.2.1.trans kk.2.1; clear ka; have HB : Hid (((w3.setCell ⟨w2.heap.size, 11, none⟩ (.bool false)).setCell ⟨w2.heap.size, 10, none⟩ (.int .i64 (s.Y - 1))).heap[w2.heap.size]? = some (.cells (sC rs M2 A2 T2 B2) 49 (0, 0))) := (by show _ = _; rw [F1.out]; exact kk.1); have HZ := Lib.hid (keep_chg kk0 z3 (by intro hm; simp at hm; omega)).1; have HK : Hid (Chg [some w2.heap.size] w3 ((w3.setCell ⟨w2.heap.size, 11, none⟩ (.bool false)).setCell ⟨w2.heap.size, 10, none⟩ (.int .i64 (s.Y - 1)))) := kk0; have HS : Hid (((w3.setCell ⟨w2.heap.size, 11, none⟩ (.bool false)).setCell ⟨w2.heap.size, 10, none⟩ (.int .i64 (s.Y - 1))).heap.size = w3.heap.size) := (by show _ = _; simp); clear kk kk0 z3))
        refine bodyPost_ret (results_cell_row Try.results41 _ _ (w.heap.size + 1) 49 (sC rs M2 A2 T2 B2) (0, 0) _ rfl B7 Try.underlying49 rfl size_scr) rfl ?_
        rw [F2.out]
        have hs := HS.out
        have hX3 := h3.size
        have t3 := t2.trans (h3.mono t2.size)
        have ho3 := ho2.below h3 (Nat.le_refl _)
        exact ⟨M2, A2, T2, B2, rfl, hh2, (((ho3.chg HK.out (fun k hk hm => by have := (ho2.lt hk).2; simp at hm; omega)).chg C7 (fun k hk hm => by have := (ho2.lt hk).1; simp at hm; omega))).mono (by omega), (t3.trans (HK.out.below (fun k hk => by simp at hk; omega) (by omega))).trans (C7.below (fun k hk => by simp at hk; omega) (by omega))⟩
      · have e1 : upS s = { s with wrap := false } := by unfold upS; rw [if_neg h1, if_neg h2]
        have F1 := Lib.hid (E1.out.trans e1)
        clear e1 h1
        go_wp2_with (first | (refine wpList_load_row rfl 49 _ rfl (w2.heap.size) rfl 49 (sC rs M2 A2 T2 B2) (0, 0) _ HB.out Try.underlying49 rfl size_scr ?_) | (refine wp_store_blk rfl 49 _ _ rfl (w.heap.size + 1) (sC rs M2 A2 T2 B2) rfl rfl 49 zC HZ.out size_scr rfl (sC_one _ _ _ _ _) ?_; intro w7 B7 C7 z7) | (refine wp_store_blk rfl 49 _ _ rfl w2.heap.size (sC s M2 A2 T2 B2) rfl rfl 49 zC (heap_alloc_new _ _) size_scr rfl (sC_one s M2 A2 T2 B2) ?_; intro w3 b3 k3 zz3; have h3 : Below w2.heap.size w2 w3 := ((Below.refl _ _).alloc (Nat.le_refl _) _).trans (k3.below (fun k hk => by simp at hk; omega) (by simp)); have bP3 := (h3.block _ (Array.getElem?_eq_some_iff.1 b2).1).trans b2; have z3 := (h3.block _ zz2).trans z2; have qP : ∀ i, w3.cell? ⟨w.heap.size, i, none⟩ = _ := (fun i => cell_of_row w3 _ i _ _ (0, 0) bP3); have rG : ∀ i, w3.frozen? ⟨w2.heap.size, i, none⟩ = false := (fun i => by simp [World.frozen?, b3]); have qG : ∀ i, w3.cell? ⟨w2.heap.size, i, none⟩ = _ := (fun i => cell_of_row w3 _ i _ _ (0, 0) b3); have kk := blk_wrap b3 false; have kk0 := kk.2.1; have HB : Hid ((w3.setCell ⟨w2.heap.size, 11, none⟩ (.bool false)).heap[w2.heap.size]? = some (.cells (sC rs M2 A2 T2 B2) 49 (0, 0))) := (by show _ = _; rw [F1.out]; exact kk.1); have HZ := Lib.hid (keep_chg kk0 z3 (by intro hm; simp at hm; omega)).1; have HK : Hid (Chg [some w2.heap.size] w3 (w3.setCell ⟨w2.heap.size, 11, none⟩ (.bool false))) := kk0; have HS : Hid ((w3.setCell ⟨w2.heap.size, 11, none⟩ (.bool false)).heap.size = w3.heap.size) := (by show _ = _; simp); clear kk kk0 z3))
        refine bodyPost_ret (results_cell_row Try.results41 _ _ (w.heap.size + 1) 49 (sC rs M2 A2 T2 B2) (0, 0) _ rfl B7 Try.underlying49 rfl size_scr) rfl ?_
        rw [F2.out]
        have hs := HS.out
        have hX3 := h3.size
        have t3 := t2.trans (h3.mono t2.size)
        have ho3 := ho2.below h3 (Nat.le_refl _)
        exact ⟨M2, A2, T2, B2, rfl, hh2, (((ho3.chg HK.out (fun k hk hm => by have := (ho2.lt hk).2; simp at hm; omega)).chg C7 (fun k hk hm => by have := (ho2.lt hk).1; simp at hm; omega))).mono (by omega), (t3.trans (HK.out.below (fun k hk => by simp at hk; omega) (by omega))).trans (C7.below (fun k hk => by simp at hk; omega) (by omega))⟩
end Go.Proofs.Ytnilgcahggmncaa
