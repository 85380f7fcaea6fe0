/- A screen: its size. A screen of one's own: the blocks that its slices own. A screen copied out of the law's own struct. -/
import Derived.Test.YtnilgcahggmncaaZa
import Derived.Laws.Rows
import Derived.Laws.Tables
namespace Go.Proofs.Ytnilgcahggmncaa
open Go.RowKit

set_option linter.unusedVariables false
set_option maxRecDepth 100000

/-- Too large, or all slices together have at most 2^20 cells and numbers. -/
def SzPost (w : World) (m a : Rw) (t : Ti) (b : Tr) (e : Ending) (w' : World) : Prop :=
  ∃ z : Int, e = .returned (.int .i64 z) ∧ Below w.heap.size w w' ∧ Hid (z < 0 ∨ (0 ≤ z ∧ m.2.2.length + a.2.2.length + t.2.2.length + b.2.2.length + rtot b.2.2 ≤ 1048576))
set_option maxHeartbeats 4000000 in
theorem szScr_any (s : Sc) (m a : Rw) (t : Ti) (b : Tr) (w : World) (hr : Sr w m a t b) (hz : Sz m a t b maxLen) :
    Calls Try.prog 31 #[sV s m a t b, .int .i64 1048576] w (SzPost w m a t b) := by
  have t0 : Below w.heap.size w (w.alloc (.cells (sC s m a t b) 58)) := (Below.refl _ _).alloc (Nat.le_refl _) _
  obtain ⟨l1, l2, l3, l4, l5⟩ := hz
  by_cases k1 : (1048576 : Int) < (m.2.2.length : Int)
  · have HS1 : Hid (szR ((1048576 : Int)) (m.2.2.length : Int) = -1) := szR_no k1
    go_enter Try.func31, Try.ntmps31
    go_wp2_with fail
    refine (szGrid_any s.mW s.mH m.1 _ m.2.1 _ _ l1 (by omega) (by omega)).mono ?_
    rintro e w1 ⟨he, hb1⟩
    rw [HS1.out] at he
    subst he
    obtain ⟨B1, q1, r1, z1⟩ := keep_blk hb1 (g := w.heap.size) (by repeat (first | assumption | exact heap_alloc_at _ (by first | rfl | (simp; done) | omega) | refine heap_alloc_of _ ?_ | refine heap_setCell_of _ (by first | omega | (simp; done) | (simp; omega)) ?_ | refine heap_setCell_same _ ?_ | exact heap_at1_same (by first | omega | (simp; done) | (simp; omega)) | refine heap_at1_of (by first | omega | (simp; done) | (simp; omega)) ?_))
    have t1 := t0.trans (hb1.mono t0.size)
    go_wp2_with fail
    go_ret
    exact ⟨_, rfl, t1, .inl (by omega)⟩
  have HS1 : Hid (szR ((1048576 : Int)) (m.2.2.length : Int) = (1048576 : Int) - (m.2.2.length : Int)) := szR_yes k1
  have p1 : ¬ (1048576 : Int) - (m.2.2.length : Int) < 0 := by omega
  by_cases k2 : (1048576 : Int) - (m.2.2.length : Int) < (a.2.2.length : Int)
  · have HS2 : Hid (szR ((1048576 : Int) - (m.2.2.length : Int)) (a.2.2.length : Int) = -1) := szR_no k2
    go_enter Try.func31, Try.ntmps31
    go_wp2_with fail
    refine (szGrid_any s.mW s.mH m.1 _ m.2.1 _ _ l1 (by omega) (by omega)).mono ?_
    rintro e w1 ⟨he, hb1⟩
    rw [HS1.out] at he
    subst he
    obtain ⟨B1, q1, r1, z1⟩ := keep_blk hb1 (g := w.heap.size) (by repeat (first | assumption | exact heap_alloc_at _ (by first | rfl | (simp; done) | omega) | refine heap_alloc_of _ ?_ | refine heap_setCell_of _ (by first | omega | (simp; done) | (simp; omega)) ?_ | refine heap_setCell_same _ ?_ | exact heap_at1_same (by first | omega | (simp; done) | (simp; omega)) | refine heap_at1_of (by first | omega | (simp; done) | (simp; omega)) ?_))
    have t1 := t0.trans (hb1.mono t0.size)
    go_wp2_with fail
    refine (szGrid_any s.aW s.aH a.1 _ a.2.1 _ _ l2 (by omega) (by omega)).mono ?_
    rintro e w2 ⟨he, hb2⟩
    rw [HS2.out] at he
    subst he
    obtain ⟨B2, q2, r2, z2⟩ := keep_blk hb2 (g := w.heap.size) (by repeat (first | assumption | exact heap_alloc_at _ (by first | rfl | (simp; done) | omega) | refine heap_alloc_of _ ?_ | refine heap_setCell_of _ (by first | omega | (simp; done) | (simp; omega)) ?_ | refine heap_setCell_same _ ?_ | exact heap_at1_same (by first | omega | (simp; done) | (simp; omega)) | refine heap_at1_of (by first | omega | (simp; done) | (simp; omega)) ?_))
    have t2 := t1.trans (hb2.mono t1.size)
    clear B1 q1 r1
    go_wp2_with fail
    go_ret
    exact ⟨_, rfl, t2, .inl (by omega)⟩
  have HS2 : Hid (szR ((1048576 : Int) - (m.2.2.length : Int)) (a.2.2.length : Int) = (1048576 : Int) - (m.2.2.length : Int) - (a.2.2.length : Int)) := szR_yes k2
  have p2 : ¬ (1048576 : Int) - (m.2.2.length : Int) - (a.2.2.length : Int) < 0 := by omega
  by_cases k3 : (1048576 : Int) - (m.2.2.length : Int) - (a.2.2.length : Int) < (t.2.2.length : Int)
  · have HS3 : Hid (szR ((1048576 : Int) - (m.2.2.length : Int) - (a.2.2.length : Int)) (t.2.2.length : Int) = -1) := szR_no k3
    go_enter Try.func31, Try.ntmps31
    go_wp2_with fail
    refine (szGrid_any s.mW s.mH m.1 _ m.2.1 _ _ l1 (by omega) (by omega)).mono ?_
    rintro e w1 ⟨he, hb1⟩
    rw [HS1.out] at he
    subst he
    obtain ⟨B1, q1, r1, z1⟩ := keep_blk hb1 (g := w.heap.size) (by repeat (first | assumption | exact heap_alloc_at _ (by first | rfl | (simp; done) | omega) | refine heap_alloc_of _ ?_ | refine heap_setCell_of _ (by first | omega | (simp; done) | (simp; omega)) ?_ | refine heap_setCell_same _ ?_ | exact heap_at1_same (by first | omega | (simp; done) | (simp; omega)) | refine heap_at1_of (by first | omega | (simp; done) | (simp; omega)) ?_))
    have t1 := t0.trans (hb1.mono t0.size)
    go_wp2_with fail
    refine (szGrid_any s.aW s.aH a.1 _ a.2.1 _ _ l2 (by omega) (by omega)).mono ?_
    rintro e w2 ⟨he, hb2⟩
    rw [HS2.out] at he
    subst he
    obtain ⟨B2, q2, r2, z2⟩ := keep_blk hb2 (g := w.heap.size) (by repeat (first | assumption | exact heap_alloc_at _ (by first | rfl | (simp; done) | omega) | refine heap_alloc_of _ ?_ | refine heap_setCell_of _ (by first | omega | (simp; done) | (simp; omega)) ?_ | refine heap_setCell_same _ ?_ | exact heap_at1_same (by first | omega | (simp; done) | (simp; omega)) | refine heap_at1_of (by first | omega | (simp; done) | (simp; omega)) ?_))
    have t2 := t1.trans (hb2.mono t1.size)
    clear B1 q1 r1
    go_wp2_with fail
    refine (szIntS_any t.1 _ t.2.1 _ _ l3 (by omega) (by omega)).mono ?_
    rintro e w' ⟨he, rfl⟩
    rw [HS3.out] at he
    subst he
    go_wp2_with fail
    go_ret
    exact ⟨_, rfl, t2, .inl (by omega)⟩
  have HS3 : Hid (szR ((1048576 : Int) - (m.2.2.length : Int) - (a.2.2.length : Int)) (t.2.2.length : Int) = (1048576 : Int) - (m.2.2.length : Int) - (a.2.2.length : Int) - (t.2.2.length : Int)) := szR_yes k3
  have p3 : ¬ (1048576 : Int) - (m.2.2.length : Int) - (a.2.2.length : Int) - (t.2.2.length : Int) < 0 := by omega
  by_cases k4 : (1048576 : Int) - (m.2.2.length : Int) - (a.2.2.length : Int) - (t.2.2.length : Int) < ((b.2.2.length : Int) + (rtot b.2.2 : Int))
  · have HS4 : Hid (szR ((1048576 : Int) - (m.2.2.length : Int) - (a.2.2.length : Int) - (t.2.2.length : Int)) ((b.2.2.length : Int) + (rtot b.2.2 : Int)) = -1) := szR_no k4
    go_enter Try.func31, Try.ntmps31
    go_wp2_with fail
    refine (szGrid_any s.mW s.mH m.1 _ m.2.1 _ _ l1 (by omega) (by omega)).mono ?_
    rintro e w1 ⟨he, hb1⟩
    rw [HS1.out] at he
    subst he
    obtain ⟨B1, q1, r1, z1⟩ := keep_blk hb1 (g := w.heap.size) (by repeat (first | assumption | exact heap_alloc_at _ (by first | rfl | (simp; done) | omega) | refine heap_alloc_of _ ?_ | refine heap_setCell_of _ (by first | omega | (simp; done) | (simp; omega)) ?_ | refine heap_setCell_same _ ?_ | exact heap_at1_same (by first | omega | (simp; done) | (simp; omega)) | refine heap_at1_of (by first | omega | (simp; done) | (simp; omega)) ?_))
    have t1 := t0.trans (hb1.mono t0.size)
    go_wp2_with fail
    refine (szGrid_any s.aW s.aH a.1 _ a.2.1 _ _ l2 (by omega) (by omega)).mono ?_
    rintro e w2 ⟨he, hb2⟩
    rw [HS2.out] at he
    subst he
    obtain ⟨B2, q2, r2, z2⟩ := keep_blk hb2 (g := w.heap.size) (by repeat (first | assumption | exact heap_alloc_at _ (by first | rfl | (simp; done) | omega) | refine heap_alloc_of _ ?_ | refine heap_setCell_of _ (by first | omega | (simp; done) | (simp; omega)) ?_ | refine heap_setCell_same _ ?_ | exact heap_at1_same (by first | omega | (simp; done) | (simp; omega)) | refine heap_at1_of (by first | omega | (simp; done) | (simp; omega)) ?_))
    have t2 := t1.trans (hb2.mono t1.size)
    clear B1 q1 r1
    go_wp2_with fail
    refine (szIntS_any t.1 _ t.2.1 _ _ l3 (by omega) (by omega)).mono ?_
    rintro e w' ⟨he, rfl⟩
    rw [HS3.out] at he
    subst he
    go_wp2_with fail
    refine (szRowS_any b.1 b.2.1 b.2.2 _ _ (hr.gb.below t2) l4 l5 (by omega) (by omega)).mono ?_
    rintro e w4 ⟨he, hb4⟩
    rw [HS4.out] at he
    subst he
    obtain ⟨B4, q4, r4, z4⟩ := keep_blk hb4 (g := w.heap.size) (by repeat (first | assumption | exact heap_alloc_at _ (by first | rfl | (simp; done) | omega) | refine heap_alloc_of _ ?_ | refine heap_setCell_of _ (by first | omega | (simp; done) | (simp; omega)) ?_ | refine heap_setCell_same _ ?_ | exact heap_at1_same (by first | omega | (simp; done) | (simp; omega)) | refine heap_at1_of (by first | omega | (simp; done) | (simp; omega)) ?_))
    have t4 := t2.trans (hb4.mono t2.size)
    clear B2 q2 r2
    go_wp2_with fail
    go_ret
    exact ⟨_, rfl, t4, .inl (by omega)⟩
  have HS4 : Hid (szR ((1048576 : Int) - (m.2.2.length : Int) - (a.2.2.length : Int) - (t.2.2.length : Int)) ((b.2.2.length : Int) + (rtot b.2.2 : Int)) = (1048576 : Int) - (m.2.2.length : Int) - (a.2.2.length : Int) - (t.2.2.length : Int) - ((b.2.2.length : Int) + (rtot b.2.2 : Int))) := szR_yes k4
  have p4 : ¬ (1048576 : Int) - (m.2.2.length : Int) - (a.2.2.length : Int) - (t.2.2.length : Int) - ((b.2.2.length : Int) + (rtot b.2.2 : Int)) < 0 := by omega
  go_enter Try.func31, Try.ntmps31
  go_wp2_with fail
  refine (szGrid_any s.mW s.mH m.1 _ m.2.1 _ _ l1 (by omega) (by omega)).mono ?_
  rintro e w1 ⟨he, hb1⟩
  rw [HS1.out] at he
  subst he
  obtain ⟨B1, q1, r1, z1⟩ := keep_blk hb1 (g := w.heap.size) (by repeat (first | assumption | exact heap_alloc_at _ (by first | rfl | (simp; done) | omega) | refine heap_alloc_of _ ?_ | refine heap_setCell_of _ (by first | omega | (simp; done) | (simp; omega)) ?_ | refine heap_setCell_same _ ?_ | exact heap_at1_same (by first | omega | (simp; done) | (simp; omega)) | refine heap_at1_of (by first | omega | (simp; done) | (simp; omega)) ?_))
  have t1 := t0.trans (hb1.mono t0.size)
  go_wp2_with fail
  refine (szGrid_any s.aW s.aH a.1 _ a.2.1 _ _ l2 (by omega) (by omega)).mono ?_
  rintro e w2 ⟨he, hb2⟩
  rw [HS2.out] at he
  subst he
  obtain ⟨B2, q2, r2, z2⟩ := keep_blk hb2 (g := w.heap.size) (by repeat (first | assumption | exact heap_alloc_at _ (by first | rfl | (simp; done) | omega) | refine heap_alloc_of _ ?_ | refine heap_setCell_of _ (by first | omega | (simp; done) | (simp; omega)) ?_ | refine heap_setCell_same _ ?_ | exact heap_at1_same (by first | omega | (simp; done) | (simp; omega)) | refine heap_at1_of (by first | omega | (simp; done) | (simp; omega)) ?_))
  have t2 := t1.trans (hb2.mono t1.size)
  clear B1 q1 r1
  go_wp2_with fail
  refine (szIntS_any t.1 _ t.2.1 _ _ l3 (by omega) (by omega)).mono ?_
  rintro e w' ⟨he, rfl⟩
  rw [HS3.out] at he
  subst he
  go_wp2_with fail
  refine (szRowS_any b.1 b.2.1 b.2.2 _ _ (hr.gb.below t2) l4 l5 (by omega) (by omega)).mono ?_
  rintro e w4 ⟨he, hb4⟩
  rw [HS4.out] at he
  subst he
  obtain ⟨B4, q4, r4, z4⟩ := keep_blk hb4 (g := w.heap.size) (by repeat (first | assumption | exact heap_alloc_at _ (by first | rfl | (simp; done) | omega) | refine heap_alloc_of _ ?_ | refine heap_setCell_of _ (by first | omega | (simp; done) | (simp; omega)) ?_ | refine heap_setCell_same _ ?_ | exact heap_at1_same (by first | omega | (simp; done) | (simp; omega)) | refine heap_at1_of (by first | omega | (simp; done) | (simp; omega)) ?_))
  have t4 := t2.trans (hb4.mono t2.size)
  clear B2 q2 r2
  go_wp2_with fail
  go_ret
  exact ⟨_, rfl, t4, .inr ⟨by omega, by omega⟩⟩

set_option linter.unusedVariables false
set_option maxRecDepth 100000

theorem Chg.setCell {F : List (Option Nat)} {a w : World} {p : Addr} (h : Chg F a w) (hp : some p.block ∈ F) (v : Value) : Chg F a (w.setCell p v) :=
  h.trans ⟨rfl, rfl, rfl, by simp [World.setCell], fun q hq hn => Below.heap_setCell w _ _ q (by rintro rfl; exact hn hp)⟩
theorem Chg.alloc {F : List (Option Nat)} {a w : World} (h : Chg F a w) (o : Obj) : Chg F a (w.alloc o) := h.trans (Chg.of_below _ ((Below.refl _ _).alloc (Nat.le_refl _) _))
theorem Chg.drew {F : List (Option Nat)} {a w : World} (h : Chg F a w) : Chg F a w.drew := h.trans (Chg.of_below _ (Below.refl _ _).drew)
theorem Or.mono {w : World} {lo lo' c : Nat} {A : Option Addr} {es : List Rw} (h : Or w lo A c es) (hl : lo' ≤ lo) : Or w lo' A c es := ownsG.mono h hl
/-- The blocks of a screen's slices. -/
abbrev sft (M A : Rw) (T : Ti) (B : Tr) : List (Option Nat) := ob M.1 :: ob A.1 :: ob T.1 :: ob B.1 :: ft B.2.2
structure So (w : World) (lo : Nat) (M A : Rw) (T : Ti) (B : Tr) : Prop where
  om : Og w lo M.1 M.2.1 M.2.2
  oa : Og w lo A.1 A.2.1 A.2.2
  ot : Oi w lo T.1 T.2.1 T.2.2
  ol : Or w lo B.1 B.2.1 B.2.2
  ow : ∀ e, e ∈ B.2.2 → Og w lo e.1 e.2.1 e.2.2
  sep : (sft M A T B).Pairwise Sep
section
variable {w w' : World} {lo : Nat} {M A : Rw} {T : Ti} {B : Tr}
theorem So.rows (h : So w lo M A T B) : Ow w lo B.1 B.2.2 := by
  have h1 := (List.pairwise_cons.1 h.sep).2
  have h2 := (List.pairwise_cons.1 h1).2
  have h3 := (List.pairwise_cons.1 h2).2
  have h4 := List.pairwise_cons.1 h3
  exact ⟨h.ow, h4.2, fun e he => h4.1 _ (List.mem_map.2 ⟨e, he, rfl⟩)⟩
theorem So.chg {F : List (Option Nat)} (h : So w lo M A T B) (hc : Chg F w w') (hn : ∀ k, some k ∈ sft M A T B → some k ∉ F) : So w' lo M A T B :=
  ⟨h.om.chg hc fun k hk => hn k (by rw [← hk]; simp), h.oa.chg hc fun k hk => hn k (by rw [← hk]; simp), h.ot.chg hc fun k hk => hn k (by rw [← hk]; simp), h.ol.chg hc fun k hk => hn k (by rw [← hk]; simp),
    fun e he => (h.ow e he).chg hc fun k hk => hn k (by rw [← hk]; exact List.mem_cons_of_mem _ (List.mem_cons_of_mem _ (List.mem_cons_of_mem _ (List.mem_cons_of_mem _ (List.mem_map.2 ⟨e, he, rfl⟩))))), h.sep⟩
theorem So.lt (h : So w lo M A T B) {k : Nat} (hk : some k ∈ sft M A T B) : lo ≤ k ∧ k < w.heap.size := by
  simp only [sft, List.mem_cons] at hk
  rcases hk with hk | hk | hk | hk | hk
  · exact h.om.ob_lt hk.symm
  · exact h.oa.ob_lt hk.symm
  · exact h.ot.ob_lt hk.symm
  · exact h.ol.ob_lt hk.symm
  · obtain ⟨e, he, hq⟩ := List.mem_map.1 hk
    exact (h.ow e he).ob_lt hq
theorem So.below {B' : Nat} (h : So w lo M A T B) (hb : Below B' w w') (hB : w.heap.size ≤ B') : So w' lo M A T B := h.chg (F := []) (Chg.of_below _ (hb.mono hB)) (fun _ _ h => by simp at h)
theorem So.mono {lo' : Nat} (h : So w lo M A T B) (hl : lo' ≤ lo) : So w lo' M A T B := ⟨h.om.mono hl, h.oa.mono hl, h.ot.mono hl, h.ol.mono hl, fun e he => (h.ow e he).mono hl, h.sep⟩
theorem So.sr (h : So w lo M A T B) : Sr w M A T B := ⟨h.om.gs, h.oa.gs, h.ot.cs, h.ol.cs, fun e he => (h.ow e he).gs⟩
theorem So.of_order {n1 n2 n3 : Nat} (om : Og w lo M.1 M.2.1 M.2.2) (oa : Og w lo A.1 A.2.1 A.2.2) (ot : Oi w lo T.1 T.2.1 T.2.2) (ol : Or w lo B.1 B.2.1 B.2.2) (ow : Ow w lo B.1 B.2.2)
    (h1 : ∀ k, ob M.1 = some k → k < n1) (h2 : ∀ k, ob A.1 = some k → n1 ≤ k ∧ k < n2) (h3 : ∀ k, ob T.1 = some k → n2 ≤ k ∧ k < n3) (h4 : ∀ k, some k ∈ ob B.1 :: ft B.2.2 → n3 ≤ k) (h12 : n1 ≤ n2) (h23 : n2 ≤ n3) : So w lo M A T B := by
  refine ⟨om, oa, ot, ol, ow.own, ?_⟩
  refine List.pairwise_cons.2 ⟨fun x hx => ?_, List.pairwise_cons.2 ⟨fun x hx => ?_, List.pairwise_cons.2 ⟨fun x hx => ?_, List.pairwise_cons.2 ⟨fun x hx => ?_, ow.sep⟩⟩⟩⟩
  · refine Sep.lt h1 fun k hk => ?_
    subst hk
    rcases List.mem_cons.1 hx with hx | hx
    · exact (h2 k hx.symm).1
    · rcases List.mem_cons.1 hx with hx | hx
      · have := (h3 k hx.symm).1; omega
      · have := h4 k hx; omega
  · refine Sep.lt (fun k hk => (h2 k hk).2) fun k hk => ?_
    subst hk
    rcases List.mem_cons.1 hx with hx | hx
    · have := (h3 k hx.symm).1; omega
    · have := h4 k hx; omega
  · refine Sep.lt (fun k hk => (h3 k hk).2) fun k hk => ?_
    subst hk
    exact h4 k hx
  · obtain ⟨e, he, hq⟩ := List.mem_map.1 hx
    rw [← hq]
    exact ow.list e he
end
/-- What the slices of a screen hold. -/
structure Cont where
  (m a : List Cl)
  t : List Int
  b : List (List Cl)
def Holds (M A : Rw) (T : Ti) (B : Tr) (c : Cont) : Prop := M.2.2 = c.m ∧ A.2.2 = c.a ∧ T.2.2 = c.t ∧ rcs B.2.2 = c.b
/-- A new screen is answered. -/
def ScrOwn (w : World) (s : Sc) (c : Cont) (e : Ending) (w' : World) : Prop :=
  ∃ (M A : Rw) (T : Ti) (B : Tr), e = .returned (sV s M A T B) ∧ Hid (Holds M A T B c) ∧ So w' w.heap.size M A T B ∧ Below w.heap.size w w'
theorem Sz.of {m a : Rw} {t : Ti} {b : Tr} (h : m.2.2.length + a.2.2.length + t.2.2.length + b.2.2.length + rtot b.2.2 ≤ 1048576) : Sz m a t b 1048576 :=
  ⟨by omega, by omega, by omega, by omega, fun e he => by have := rtot_mem he; omega⟩
/-- How large a screen's slices are, all together. -/
def cTot (c : Cont) : Nat := c.m.length + c.a.length + c.t.length + c.b.length + (c.b.map List.length).sum
theorem cTot_holds {M A : Rw} {T : Ti} {B : Tr} {c : Cont} (h : Holds M A T B c) : M.2.2.length + A.2.2.length + T.2.2.length + B.2.2.length + rtot B.2.2 = cTot c := by
  obtain ⟨h1, h2, h3, h4⟩ := h
  rw [cTot, ← h1, ← h2, ← h3, ← h4]
  simp [rcs, rtot, Function.comp_def]
theorem Chg.of_row {w : World} {g : Nat} (cs : Array Value) : Chg [some g] w (w.setRow g cs) :=
  ⟨rfl, rfl, rfl, by simp, fun q hq hn => setRow_other w g q cs (by rintro rfl; exact hn (List.mem_singleton.2 rfl))⟩
/-- A whole struct stored into a block of its size: the block is known behind it, all else is as it was. -/
theorem wp_store_blk {ops : Array Oper} {rest : List Oper} {o : Oper} {a : Act} {w : World} {Q : Exit → Act → World → Prop} (hgd : o.guard = none) (ty : TypeId) (x y : Operand) (ho : o.op = .store ty x y)
    (g : Nat) (cells : Array Value) (hx : a.eval x = .pointer (some ⟨g, 0, none⟩)) (hy : a.eval y = .agg cells)
    (t : TypeId) (old : Array Value) (hg : w.heap[g]? = some (.cells old t (0, 0))) (hi : (Try.prog.info? ty).map (·.size) = some cells.size)
    (hold : old.size = cells.size) (h1 : cells.all (·.oneCell') = true)
    (h : ∀ w', w'.heap[g]? = some (.cells cells t (0, 0)) → Chg [some g] w w' → w'.heap.size = w.heap.size → wpList Try.prog ops Q rest (a.put o.dst undef) w') : wpList Try.prog ops Q (o :: rest) a w :=
  wpList_store_row hgd ty x y ho g cells hx hy t old hg hi hold h1 (h _ (setRow_heap w g old cells t (0, 0) hg) (Chg.of_row cells) (by simp))
theorem wp_store_blkO {o : Oper} {a : Act} {w : World} {K : Act → World → Prop} {Q : Exit → Act → World → Prop} (ty : TypeId) (x y : Operand) (ho : o.op = .store ty x y)
    (g : Nat) (cells : Array Value) (hx : a.eval x = .pointer (some ⟨g, 0, none⟩)) (hy : a.eval y = .agg cells)
    (t : TypeId) (old : Array Value) (hg : w.heap[g]? = some (.cells old t (0, 0))) (hi : (Try.prog.info? ty).map (·.size) = some cells.size)
    (hold : old.size = cells.size) (h1 : cells.all (·.oneCell') = true)
    (h : ∀ w', w'.heap[g]? = some (.cells cells t (0, 0)) → Chg [some g] w w' → w'.heap.size = w.heap.size → K (a.put o.dst undef) w') : o.wp Try.prog a w K Q :=
  wp_store_row ty x y ho g cells hx hy t old hg hi hold h1 (h _ (setRow_heap w g old cells t (0, 0) hg) (Chg.of_row cells) (by simp))
theorem size_scr : (Try.prog.info? 49).map (·.size) = some 31 := by kernel_rfl
theorem sC_one (s : Sc) (m a : Rw) (t : Ti) (b : Tr) : (sC s m a t b).all (·.oneCell') = true := by simp [Value.oneCell']

set_option linter.unusedVariables false
set_option maxRecDepth 100000

theorem toAttr_bel (a : At) (w : World) : Calls Try.prog 85 #[aV a] w fun e w' => e = .returned (aV a) ∧ Below w.heap.size w w' := by
  obtain ⟨f, b, x, y, z⟩ := a
  refine (toAttr_any _ _ _ _ _ _).mono ?_
  rintro e w1 ⟨rfl, rfl⟩
  exact ⟨rfl, (by (repeat (first | exact Below.refl _ _ | (refine Below.alloc ?_ (by first | omega | (simp; done) | (simp; omega)) _) | (refine Below.drew ?_) | (refine below_drewN ?_ _) | (refine below_at1 ?_ (by first | omega | (simp; done) | (simp; omega))) | (refine Below.setCell ?_ (by first | omega | (simp; done) | (simp; omega)) _) | (refine Below.trans ?_ (Below.mono (by assumption) (by first | omega | (simp; done) | (simp; omega)))))))⟩
set_option maxHeartbeats 8000000 in
theorem toScr_any (s : Sc) (m a : Rw) (t : Ti) (b : Tr) (w : World) (hr : Sr w m a t b) (hz : Sz m a t b 1048576) :
    Calls Try.prog 33 #[sV s m a t b] w (ScrOwn w s ⟨m.2.2, a.2.2, t.2.2, rcs b.2.2⟩) := by
  obtain ⟨l1, l2, l3, l4, l5⟩ := hz
  go_enter Try.func33, Try.ntmps33
  go_wp2_with fail
  have t0 : Below w.heap.size w (((w.alloc (.cells (sC s m a t b) 58)).alloc (.cells #[.int .i64 0, .int .i64 0, .int .i64 0, .int .i64 0, .slice none 0 0, .int .i64 0, .int .i64 0, .slice none 0 0, .bool false, .int .i64 0, .int .i64 0, .bool false, .int .i64 0, .int .i64 0, .bool false, .bool false, .bool false, .int .i64 0, .int .i64 0, .bool false, .bool false, .int .i64 0, .int .i64 0, .int .i64 0, .int .i64 0, .bool false, .bool false, .bool false, .slice none 0 0, .int .i64 0, .slice none 0 0] 49)).alloc (.cells #[.int .i64 s.W, .int .i64 s.H, .int .i64 0, .int .i64 0, .slice none 0 0, .int .i64 0, .int .i64 0, .slice none 0 0, .bool false, .int .i64 0, .int .i64 0, .bool false, .int .i64 0, .int .i64 0, .bool false, .bool false, .bool false, .int .i64 0, .int .i64 0, .bool false, .bool false, .int .i64 0, .int .i64 0, .int .i64 0, .int .i64 0, .bool false, .bool false, .bool false, .slice none 0 0, .int .i64 0, .slice none 0 0] 49)) := by (repeat (first | exact Below.refl _ _ | (refine Below.alloc ?_ (by first | omega | (simp; done) | (simp; omega)) _) | (refine Below.drew ?_) | (refine below_drewN ?_ _) | (refine below_at1 ?_ (by first | omega | (simp; done) | (simp; omega))) | (refine Below.setCell ?_ (by first | omega | (simp; done) | (simp; omega)) _) | (refine Below.trans ?_ (Below.mono (by assumption) (by first | omega | (simp; done) | (simp; omega))))))
  refine (toGrid_any s.mW s.mH _ _ _ _ ?h l1).mono ?_
  case h => exact hr.gm.below t0
  rintro e w1 ⟨M1, M2, rfl, om1, gm1, im1, hb1⟩
  obtain ⟨a1, qa1, ra1, ya1⟩ := keep_blk hb1 (g := w.heap.size) (by repeat (first | assumption | exact heap_alloc_at _ (by first | rfl | (simp; done) | omega) | refine heap_alloc_of _ ?_ | refine heap_setCell_of _ (by first | omega | (simp; done) | (simp; omega)) ?_ | refine heap_setCell_same _ ?_ | exact heap_at1_same (by first | omega | (simp; done) | (simp; omega)) | refine heap_at1_of (by first | omega | (simp; done) | (simp; omega)) ?_))
  obtain ⟨z1, qz1, rz1, yz1⟩ := keep_blk hb1 (g := w.heap.size + 1) (by repeat (first | assumption | exact heap_alloc_at _ (by first | rfl | (simp; done) | omega) | refine heap_alloc_of _ ?_ | refine heap_setCell_of _ (by first | omega | (simp; done) | (simp; omega)) ?_ | refine heap_setCell_same _ ?_ | exact heap_at1_same (by first | omega | (simp; done) | (simp; omega)) | refine heap_at1_of (by first | omega | (simp; done) | (simp; omega)) ?_))
  obtain ⟨o1, qo1, ro1, yo1⟩ := keep_blk hb1 (g := w.heap.size + 1 + 1) (by repeat (first | assumption | exact heap_alloc_at _ (by first | rfl | (simp; done) | omega) | refine heap_alloc_of _ ?_ | refine heap_setCell_of _ (by first | omega | (simp; done) | (simp; omega)) ?_ | refine heap_setCell_same _ ?_ | exact heap_at1_same (by first | omega | (simp; done) | (simp; omega)) | refine heap_at1_of (by first | omega | (simp; done) | (simp; omega)) ?_))
  have t1 := t0.trans (hb1.mono t0.size)
  go_wp2_with fail
  obtain ⟨v1, hv1⟩ : ∃ v, v = (((w1.setCell ⟨w.heap.size + 1 + 1, 2, none⟩ (.int .i64 s.mW)).setCell ⟨w.heap.size + 1 + 1, 3, none⟩ (.int .i64 s.mH)).setCell ⟨w.heap.size + 1 + 1, 4, none⟩ (.slice M1 m.2.2.length M2)) := ⟨_, rfl⟩
  rw [← hv1]
  have av1 : v1.heap[w.heap.size]? = some (.cells (sC s m a t b) 58 (0, 0)) := by rw [hv1]; exact (heap_setCell_of _ (by first | omega | (simp; done) | (simp; omega)) (heap_setCell_of _ (by first | omega | (simp; done) | (simp; omega)) (heap_setCell_of _ (by first | omega | (simp; done) | (simp; omega)) a1)))
  have zv1 : v1.heap[w.heap.size + 1]? = some (.cells #[.int .i64 0, .int .i64 0, .int .i64 0, .int .i64 0, .slice none 0 0, .int .i64 0, .int .i64 0, .slice none 0 0, .bool false, .int .i64 0, .int .i64 0, .bool false, .int .i64 0, .int .i64 0, .bool false, .bool false, .bool false, .int .i64 0, .int .i64 0, .bool false, .bool false, .int .i64 0, .int .i64 0, .int .i64 0, .int .i64 0, .bool false, .bool false, .bool false, .slice none 0 0, .int .i64 0, .slice none 0 0] 49 (0, 0)) := by rw [hv1]; exact (heap_setCell_of _ (by first | omega | (simp; done) | (simp; omega)) (heap_setCell_of _ (by first | omega | (simp; done) | (simp; omega)) (heap_setCell_of _ (by first | omega | (simp; done) | (simp; omega)) z1)))
  have ov1 : v1.heap[w.heap.size + 1 + 1]? = some (.cells #[.int .i64 s.W, .int .i64 s.H, .int .i64 s.mW, .int .i64 s.mH, .slice M1 m.2.2.length M2, .int .i64 0, .int .i64 0, .slice none 0 0, .bool false, .int .i64 0, .int .i64 0, .bool false, .int .i64 0, .int .i64 0, .bool false, .bool false, .bool false, .int .i64 0, .int .i64 0, .bool false, .bool false, .int .i64 0, .int .i64 0, .int .i64 0, .int .i64 0, .bool false, .bool false, .bool false, .slice none 0 0, .int .i64 0, .slice none 0 0] 49 (0, 0)) := by rw [hv1]; have h := (heap_setCell_same (i := 4) (.slice M1 m.2.2.length M2) (heap_setCell_same (i := 3) (.int .i64 s.mH) (heap_setCell_same (i := 2) (.int .i64 s.mW) o1))); simpa only [List.setIfInBounds_toArray, List.set_cons_succ, List.set_cons_zero] using h
  have cv1 : Chg [some (w.heap.size + 1 + 1)] w1 v1 := by rw [hv1]; exact (((Chg.refl [some (w.heap.size + 1 + 1)] w1).setCell (List.mem_singleton.2 rfl) _).setCell (List.mem_singleton.2 rfl) _).setCell (List.mem_singleton.2 rfl) _
  have s1 : v1.heap.size = w1.heap.size := by rw [hv1]; simp
  have tv1 : Below w.heap.size w v1 := by rw [hv1]; exact (((t1.setCell (by first | omega | (simp; done) | (simp; omega)) _).setCell (by first | omega | (simp; done) | (simp; omega)) _).setCell (by first | omega | (simp; done) | (simp; omega)) _)
  clear hv1 qa1 qz1 qo1 ra1 rz1 ro1 a1 z1 o1
  refine (toGrid_any s.aW s.aH _ _ _ _ ?h l2).mono ?_
  case h => exact hr.ga.below tv1
  rintro e w2 ⟨L1, L2, rfl, oa2, ga2, ia2, hb2⟩
  obtain ⟨a2, qa2, ra2, ya2⟩ := keep_blk hb2 av1
  obtain ⟨z2, qz2, rz2, yz2⟩ := keep_blk hb2 zv1
  obtain ⟨o2, qo2, ro2, yo2⟩ := keep_blk hb2 ov1
  clear av1 zv1 ov1
  have t2 := tv1.trans (hb2.mono tv1.size)
  go_wp2_with fail
  obtain ⟨v2, hv2⟩ : ∃ v, v = (((((((w2.setCell ⟨w.heap.size + 1 + 1, 5, none⟩ (.int .i64 s.aW)).setCell ⟨w.heap.size + 1 + 1, 6, none⟩ (.int .i64 s.aH)).setCell ⟨w.heap.size + 1 + 1, 7, none⟩ (.slice L1 a.2.2.length L2)).setCell ⟨w.heap.size + 1 + 1, 8, none⟩ (.bool s.onA)).setCell ⟨w.heap.size + 1 + 1, 9, none⟩ (.int .i64 s.X)).setCell ⟨w.heap.size + 1 + 1, 10, none⟩ (.int .i64 s.Y)).setCell ⟨w.heap.size + 1 + 1, 11, none⟩ (.bool s.wrap)) := ⟨_, rfl⟩
  rw [← hv2]
  have av2 : v2.heap[w.heap.size]? = some (.cells (sC s m a t b) 58 (0, 0)) := by rw [hv2]; exact (heap_setCell_of _ (by first | omega | (simp; done) | (simp; omega)) (heap_setCell_of _ (by first | omega | (simp; done) | (simp; omega)) (heap_setCell_of _ (by first | omega | (simp; done) | (simp; omega)) (heap_setCell_of _ (by first | omega | (simp; done) | (simp; omega)) (heap_setCell_of _ (by first | omega | (simp; done) | (simp; omega)) (heap_setCell_of _ (by first | omega | (simp; done) | (simp; omega)) (heap_setCell_of _ (by first | omega | (simp; done) | (simp; omega)) a2)))))))
  have zv2 : v2.heap[w.heap.size + 1]? = some (.cells #[.int .i64 0, .int .i64 0, .int .i64 0, .int .i64 0, .slice none 0 0, .int .i64 0, .int .i64 0, .slice none 0 0, .bool false, .int .i64 0, .int .i64 0, .bool false, .int .i64 0, .int .i64 0, .bool false, .bool false, .bool false, .int .i64 0, .int .i64 0, .bool false, .bool false, .int .i64 0, .int .i64 0, .int .i64 0, .int .i64 0, .bool false, .bool false, .bool false, .slice none 0 0, .int .i64 0, .slice none 0 0] 49 (0, 0)) := by rw [hv2]; exact (heap_setCell_of _ (by first | omega | (simp; done) | (simp; omega)) (heap_setCell_of _ (by first | omega | (simp; done) | (simp; omega)) (heap_setCell_of _ (by first | omega | (simp; done) | (simp; omega)) (heap_setCell_of _ (by first | omega | (simp; done) | (simp; omega)) (heap_setCell_of _ (by first | omega | (simp; done) | (simp; omega)) (heap_setCell_of _ (by first | omega | (simp; done) | (simp; omega)) (heap_setCell_of _ (by first | omega | (simp; done) | (simp; omega)) z2)))))))
  have ov2 : v2.heap[w.heap.size + 1 + 1]? = some (.cells #[.int .i64 s.W, .int .i64 s.H, .int .i64 s.mW, .int .i64 s.mH, .slice M1 m.2.2.length M2, .int .i64 s.aW, .int .i64 s.aH, .slice L1 a.2.2.length L2, .bool s.onA, .int .i64 s.X, .int .i64 s.Y, .bool s.wrap, .int .i64 0, .int .i64 0, .bool false, .bool false, .bool false, .int .i64 0, .int .i64 0, .bool false, .bool false, .int .i64 0, .int .i64 0, .int .i64 0, .int .i64 0, .bool false, .bool false, .bool false, .slice none 0 0, .int .i64 0, .slice none 0 0] 49 (0, 0)) := by rw [hv2]; have h := (heap_setCell_same (i := 11) (.bool s.wrap) (heap_setCell_same (i := 10) (.int .i64 s.Y) (heap_setCell_same (i := 9) (.int .i64 s.X) (heap_setCell_same (i := 8) (.bool s.onA) (heap_setCell_same (i := 7) (.slice L1 a.2.2.length L2) (heap_setCell_same (i := 6) (.int .i64 s.aH) (heap_setCell_same (i := 5) (.int .i64 s.aW) o2))))))); simpa only [List.setIfInBounds_toArray, List.set_cons_succ, List.set_cons_zero] using h
  have cv2 : Chg [some (w.heap.size + 1 + 1)] w2 v2 := by rw [hv2]; exact (((((((Chg.refl [some (w.heap.size + 1 + 1)] w2).setCell (List.mem_singleton.2 rfl) _).setCell (List.mem_singleton.2 rfl) _).setCell (List.mem_singleton.2 rfl) _).setCell (List.mem_singleton.2 rfl) _).setCell (List.mem_singleton.2 rfl) _).setCell (List.mem_singleton.2 rfl) _).setCell (List.mem_singleton.2 rfl) _
  have s2 : v2.heap.size = w2.heap.size := by rw [hv2]; simp
  have tv2 : Below w.heap.size w v2 := by rw [hv2]; exact (((((((t2.setCell (by first | omega | (simp; done) | (simp; omega)) _).setCell (by first | omega | (simp; done) | (simp; omega)) _).setCell (by first | omega | (simp; done) | (simp; omega)) _).setCell (by first | omega | (simp; done) | (simp; omega)) _).setCell (by first | omega | (simp; done) | (simp; omega)) _).setCell (by first | omega | (simp; done) | (simp; omega)) _).setCell (by first | omega | (simp; done) | (simp; omega)) _)
  clear hv2 qa2 qz2 qo2 ra2 rz2 ro2 a2 z2 o2
  refine (toAttr_bel s.A _).mono ?_
  rintro e w3 ⟨rfl, hb3⟩
  obtain ⟨a3, qa3, ra3, ya3⟩ := keep_blk hb3 av2
  obtain ⟨z3, qz3, rz3, yz3⟩ := keep_blk hb3 zv2
  obtain ⟨o3, qo3, ro3, yo3⟩ := keep_blk hb3 ov2
  clear av2 zv2 ov2
  have t3 := tv2.trans (hb3.mono tv2.size)
  go_wp2_with fail
  obtain ⟨v3, hv3⟩ : ∃ v, v = (((((((((((w3.setCell ⟨w.heap.size + 1 + 1, 12, none⟩ (.int .i64 s.A.1)).setCell ⟨w.heap.size + 1 + 1, 13, none⟩ (.int .i64 s.A.2.1)).setCell ⟨w.heap.size + 1 + 1, 14, none⟩ (.bool s.A.2.2.1)).setCell ⟨w.heap.size + 1 + 1, 15, none⟩ (.bool s.A.2.2.2.1)).setCell ⟨w.heap.size + 1 + 1, 16, none⟩ (.bool s.A.2.2.2.2)).setCell ⟨w.heap.size + 1 + 1, 17, none⟩ (.int .i64 s.top)).setCell ⟨w.heap.size + 1 + 1, 18, none⟩ (.int .i64 s.bot)).setCell ⟨w.heap.size + 1 + 1, 19, none⟩ (.bool s.noWrap)).setCell ⟨w.heap.size + 1 + 1, 20, none⟩ (.bool s.hide)).setCell ⟨w.heap.size + 1 + 1, 21, none⟩ (.int .i64 s.sX)).setCell ⟨w.heap.size + 1 + 1, 22, none⟩ (.int .i64 s.sY)) := ⟨_, rfl⟩
  rw [← hv3]
  have av3 : v3.heap[w.heap.size]? = some (.cells (sC s m a t b) 58 (0, 0)) := by rw [hv3]; exact (heap_setCell_of _ (by first | omega | (simp; done) | (simp; omega)) (heap_setCell_of _ (by first | omega | (simp; done) | (simp; omega)) (heap_setCell_of _ (by first | omega | (simp; done) | (simp; omega)) (heap_setCell_of _ (by first | omega | (simp; done) | (simp; omega)) (heap_setCell_of _ (by first | omega | (simp; done) | (simp; omega)) (heap_setCell_of _ (by first | omega | (simp; done) | (simp; omega)) (heap_setCell_of _ (by first | omega | (simp; done) | (simp; omega)) (heap_setCell_of _ (by first | omega | (simp; done) | (simp; omega)) (heap_setCell_of _ (by first | omega | (simp; done) | (simp; omega)) (heap_setCell_of _ (by first | omega | (simp; done) | (simp; omega)) (heap_setCell_of _ (by first | omega | (simp; done) | (simp; omega)) a3)))))))))))
  have zv3 : v3.heap[w.heap.size + 1]? = some (.cells #[.int .i64 0, .int .i64 0, .int .i64 0, .int .i64 0, .slice none 0 0, .int .i64 0, .int .i64 0, .slice none 0 0, .bool false, .int .i64 0, .int .i64 0, .bool false, .int .i64 0, .int .i64 0, .bool false, .bool false, .bool false, .int .i64 0, .int .i64 0, .bool false, .bool false, .int .i64 0, .int .i64 0, .int .i64 0, .int .i64 0, .bool false, .bool false, .bool false, .slice none 0 0, .int .i64 0, .slice none 0 0] 49 (0, 0)) := by rw [hv3]; exact (heap_setCell_of _ (by first | omega | (simp; done) | (simp; omega)) (heap_setCell_of _ (by first | omega | (simp; done) | (simp; omega)) (heap_setCell_of _ (by first | omega | (simp; done) | (simp; omega)) (heap_setCell_of _ (by first | omega | (simp; done) | (simp; omega)) (heap_setCell_of _ (by first | omega | (simp; done) | (simp; omega)) (heap_setCell_of _ (by first | omega | (simp; done) | (simp; omega)) (heap_setCell_of _ (by first | omega | (simp; done) | (simp; omega)) (heap_setCell_of _ (by first | omega | (simp; done) | (simp; omega)) (heap_setCell_of _ (by first | omega | (simp; done) | (simp; omega)) (heap_setCell_of _ (by first | omega | (simp; done) | (simp; omega)) (heap_setCell_of _ (by first | omega | (simp; done) | (simp; omega)) z3)))))))))))
  have ov3 : v3.heap[w.heap.size + 1 + 1]? = some (.cells #[.int .i64 s.W, .int .i64 s.H, .int .i64 s.mW, .int .i64 s.mH, .slice M1 m.2.2.length M2, .int .i64 s.aW, .int .i64 s.aH, .slice L1 a.2.2.length L2, .bool s.onA, .int .i64 s.X, .int .i64 s.Y, .bool s.wrap, .int .i64 s.A.1, .int .i64 s.A.2.1, .bool s.A.2.2.1, .bool s.A.2.2.2.1, .bool s.A.2.2.2.2, .int .i64 s.top, .int .i64 s.bot, .bool s.noWrap, .bool s.hide, .int .i64 s.sX, .int .i64 s.sY, .int .i64 0, .int .i64 0, .bool false, .bool false, .bool false, .slice none 0 0, .int .i64 0, .slice none 0 0] 49 (0, 0)) := by rw [hv3]; have h := (heap_setCell_same (i := 22) (.int .i64 s.sY) (heap_setCell_same (i := 21) (.int .i64 s.sX) (heap_setCell_same (i := 20) (.bool s.hide) (heap_setCell_same (i := 19) (.bool s.noWrap) (heap_setCell_same (i := 18) (.int .i64 s.bot) (heap_setCell_same (i := 17) (.int .i64 s.top) (heap_setCell_same (i := 16) (.bool s.A.2.2.2.2) (heap_setCell_same (i := 15) (.bool s.A.2.2.2.1) (heap_setCell_same (i := 14) (.bool s.A.2.2.1) (heap_setCell_same (i := 13) (.int .i64 s.A.2.1) (heap_setCell_same (i := 12) (.int .i64 s.A.1) o3))))))))))); simpa only [List.setIfInBounds_toArray, List.set_cons_succ, List.set_cons_zero] using h
  have cv3 : Chg [some (w.heap.size + 1 + 1)] w3 v3 := by rw [hv3]; exact (((((((((((Chg.refl [some (w.heap.size + 1 + 1)] w3).setCell (List.mem_singleton.2 rfl) _).setCell (List.mem_singleton.2 rfl) _).setCell (List.mem_singleton.2 rfl) _).setCell (List.mem_singleton.2 rfl) _).setCell (List.mem_singleton.2 rfl) _).setCell (List.mem_singleton.2 rfl) _).setCell (List.mem_singleton.2 rfl) _).setCell (List.mem_singleton.2 rfl) _).setCell (List.mem_singleton.2 rfl) _).setCell (List.mem_singleton.2 rfl) _).setCell (List.mem_singleton.2 rfl) _
  have s3 : v3.heap.size = w3.heap.size := by rw [hv3]; simp
  have tv3 : Below w.heap.size w v3 := by rw [hv3]; exact (((((((((((t3.setCell (by first | omega | (simp; done) | (simp; omega)) _).setCell (by first | omega | (simp; done) | (simp; omega)) _).setCell (by first | omega | (simp; done) | (simp; omega)) _).setCell (by first | omega | (simp; done) | (simp; omega)) _).setCell (by first | omega | (simp; done) | (simp; omega)) _).setCell (by first | omega | (simp; done) | (simp; omega)) _).setCell (by first | omega | (simp; done) | (simp; omega)) _).setCell (by first | omega | (simp; done) | (simp; omega)) _).setCell (by first | omega | (simp; done) | (simp; omega)) _).setCell (by first | omega | (simp; done) | (simp; omega)) _).setCell (by first | omega | (simp; done) | (simp; omega)) _)
  clear hv3 qa3 qz3 qo3 ra3 rz3 ro3 a3 z3 o3
  refine (toAttr_bel s.sA _).mono ?_
  rintro e w4 ⟨rfl, hb4⟩
  obtain ⟨a4, qa4, ra4, ya4⟩ := keep_blk hb4 av3
  obtain ⟨z4, qz4, rz4, yz4⟩ := keep_blk hb4 zv3
  obtain ⟨o4, qo4, ro4, yo4⟩ := keep_blk hb4 ov3
  clear av3 zv3 ov3
  have t4 := tv3.trans (hb4.mono tv3.size)
  go_wp2_with fail
  obtain ⟨v4, hv4⟩ : ∃ v, v = (((((w4.setCell ⟨w.heap.size + 1 + 1, 23, none⟩ (.int .i64 s.sA.1)).setCell ⟨w.heap.size + 1 + 1, 24, none⟩ (.int .i64 s.sA.2.1)).setCell ⟨w.heap.size + 1 + 1, 25, none⟩ (.bool s.sA.2.2.1)).setCell ⟨w.heap.size + 1 + 1, 26, none⟩ (.bool s.sA.2.2.2.1)).setCell ⟨w.heap.size + 1 + 1, 27, none⟩ (.bool s.sA.2.2.2.2)) := ⟨_, rfl⟩
  rw [← hv4]
  have av4 : v4.heap[w.heap.size]? = some (.cells (sC s m a t b) 58 (0, 0)) := by rw [hv4]; exact (heap_setCell_of _ (by first | omega | (simp; done) | (simp; omega)) (heap_setCell_of _ (by first | omega | (simp; done) | (simp; omega)) (heap_setCell_of _ (by first | omega | (simp; done) | (simp; omega)) (heap_setCell_of _ (by first | omega | (simp; done) | (simp; omega)) (heap_setCell_of _ (by first | omega | (simp; done) | (simp; omega)) a4)))))
  have zv4 : v4.heap[w.heap.size + 1]? = some (.cells #[.int .i64 0, .int .i64 0, .int .i64 0, .int .i64 0, .slice none 0 0, .int .i64 0, .int .i64 0, .slice none 0 0, .bool false, .int .i64 0, .int .i64 0, .bool false, .int .i64 0, .int .i64 0, .bool false, .bool false, .bool false, .int .i64 0, .int .i64 0, .bool false, .bool false, .int .i64 0, .int .i64 0, .int .i64 0, .int .i64 0, .bool false, .bool false, .bool false, .slice none 0 0, .int .i64 0, .slice none 0 0] 49 (0, 0)) := by rw [hv4]; exact (heap_setCell_of _ (by first | omega | (simp; done) | (simp; omega)) (heap_setCell_of _ (by first | omega | (simp; done) | (simp; omega)) (heap_setCell_of _ (by first | omega | (simp; done) | (simp; omega)) (heap_setCell_of _ (by first | omega | (simp; done) | (simp; omega)) (heap_setCell_of _ (by first | omega | (simp; done) | (simp; omega)) z4)))))
  have ov4 : v4.heap[w.heap.size + 1 + 1]? = some (.cells #[.int .i64 s.W, .int .i64 s.H, .int .i64 s.mW, .int .i64 s.mH, .slice M1 m.2.2.length M2, .int .i64 s.aW, .int .i64 s.aH, .slice L1 a.2.2.length L2, .bool s.onA, .int .i64 s.X, .int .i64 s.Y, .bool s.wrap, .int .i64 s.A.1, .int .i64 s.A.2.1, .bool s.A.2.2.1, .bool s.A.2.2.2.1, .bool s.A.2.2.2.2, .int .i64 s.top, .int .i64 s.bot, .bool s.noWrap, .bool s.hide, .int .i64 s.sX, .int .i64 s.sY, .int .i64 s.sA.1, .int .i64 s.sA.2.1, .bool s.sA.2.2.1, .bool s.sA.2.2.2.1, .bool s.sA.2.2.2.2, .slice none 0 0, .int .i64 0, .slice none 0 0] 49 (0, 0)) := by rw [hv4]; have h := (heap_setCell_same (i := 27) (.bool s.sA.2.2.2.2) (heap_setCell_same (i := 26) (.bool s.sA.2.2.2.1) (heap_setCell_same (i := 25) (.bool s.sA.2.2.1) (heap_setCell_same (i := 24) (.int .i64 s.sA.2.1) (heap_setCell_same (i := 23) (.int .i64 s.sA.1) o4))))); simpa only [List.setIfInBounds_toArray, List.set_cons_succ, List.set_cons_zero] using h
  have cv4 : Chg [some (w.heap.size + 1 + 1)] w4 v4 := by rw [hv4]; exact (((((Chg.refl [some (w.heap.size + 1 + 1)] w4).setCell (List.mem_singleton.2 rfl) _).setCell (List.mem_singleton.2 rfl) _).setCell (List.mem_singleton.2 rfl) _).setCell (List.mem_singleton.2 rfl) _).setCell (List.mem_singleton.2 rfl) _
  have s4 : v4.heap.size = w4.heap.size := by rw [hv4]; simp
  have tv4 : Below w.heap.size w v4 := by rw [hv4]; exact (((((t4.setCell (by first | omega | (simp; done) | (simp; omega)) _).setCell (by first | omega | (simp; done) | (simp; omega)) _).setCell (by first | omega | (simp; done) | (simp; omega)) _).setCell (by first | omega | (simp; done) | (simp; omega)) _).setCell (by first | omega | (simp; done) | (simp; omega)) _)
  clear hv4 qa4 qz4 qo4 ra4 rz4 ro4 a4 z4 o4
  refine (toIntS_own _ _ _ _ ?h l3).mono ?_
  case h => exact hr.gt.below tv4
  rintro e w5 ⟨T1, T2, rfl, ot5, hb5⟩
  obtain ⟨a5, qa5, ra5, ya5⟩ := keep_blk hb5 av4
  obtain ⟨z5, qz5, rz5, yz5⟩ := keep_blk hb5 zv4
  obtain ⟨o5, qo5, ro5, yo5⟩ := keep_blk hb5 ov4
  clear av4 zv4 ov4
  have t5 := tv4.trans (hb5.mono tv4.size)
  go_wp2_with fail
  obtain ⟨v5, hv5⟩ : ∃ v, v = ((w5.setCell ⟨w.heap.size + 1 + 1, 28, none⟩ (.slice T1 t.2.2.length T2)).setCell ⟨w.heap.size + 1 + 1, 29, none⟩ (.int .i64 s.limit)) := ⟨_, rfl⟩
  rw [← hv5]
  have av5 : v5.heap[w.heap.size]? = some (.cells (sC s m a t b) 58 (0, 0)) := by rw [hv5]; exact (heap_setCell_of _ (by first | omega | (simp; done) | (simp; omega)) (heap_setCell_of _ (by first | omega | (simp; done) | (simp; omega)) a5))
  have zv5 : v5.heap[w.heap.size + 1]? = some (.cells #[.int .i64 0, .int .i64 0, .int .i64 0, .int .i64 0, .slice none 0 0, .int .i64 0, .int .i64 0, .slice none 0 0, .bool false, .int .i64 0, .int .i64 0, .bool false, .int .i64 0, .int .i64 0, .bool false, .bool false, .bool false, .int .i64 0, .int .i64 0, .bool false, .bool false, .int .i64 0, .int .i64 0, .int .i64 0, .int .i64 0, .bool false, .bool false, .bool false, .slice none 0 0, .int .i64 0, .slice none 0 0] 49 (0, 0)) := by rw [hv5]; exact (heap_setCell_of _ (by first | omega | (simp; done) | (simp; omega)) (heap_setCell_of _ (by first | omega | (simp; done) | (simp; omega)) z5))
  have ov5 : v5.heap[w.heap.size + 1 + 1]? = some (.cells #[.int .i64 s.W, .int .i64 s.H, .int .i64 s.mW, .int .i64 s.mH, .slice M1 m.2.2.length M2, .int .i64 s.aW, .int .i64 s.aH, .slice L1 a.2.2.length L2, .bool s.onA, .int .i64 s.X, .int .i64 s.Y, .bool s.wrap, .int .i64 s.A.1, .int .i64 s.A.2.1, .bool s.A.2.2.1, .bool s.A.2.2.2.1, .bool s.A.2.2.2.2, .int .i64 s.top, .int .i64 s.bot, .bool s.noWrap, .bool s.hide, .int .i64 s.sX, .int .i64 s.sY, .int .i64 s.sA.1, .int .i64 s.sA.2.1, .bool s.sA.2.2.1, .bool s.sA.2.2.2.1, .bool s.sA.2.2.2.2, .slice T1 t.2.2.length T2, .int .i64 s.limit, .slice none 0 0] 49 (0, 0)) := by rw [hv5]; have h := (heap_setCell_same (i := 29) (.int .i64 s.limit) (heap_setCell_same (i := 28) (.slice T1 t.2.2.length T2) o5)); simpa only [List.setIfInBounds_toArray, List.set_cons_succ, List.set_cons_zero] using h
  have cv5 : Chg [some (w.heap.size + 1 + 1)] w5 v5 := by rw [hv5]; exact ((Chg.refl [some (w.heap.size + 1 + 1)] w5).setCell (List.mem_singleton.2 rfl) _).setCell (List.mem_singleton.2 rfl) _
  have s5 : v5.heap.size = w5.heap.size := by rw [hv5]; simp
  have tv5 : Below w.heap.size w v5 := by rw [hv5]; exact ((t5.setCell (by first | omega | (simp; done) | (simp; omega)) _).setCell (by first | omega | (simp; done) | (simp; omega)) _)
  clear hv5 qa5 qz5 qo5 ra5 rz5 ro5 a5 z5 o5
  refine (toRowS_any _ _ _ _ ?h l4 l5).mono ?_
  case h => exact hr.gb.below tv5
  rintro e w6 ⟨B1, B2, fs, rfl, hd6, ol6, ow6, hb6⟩
  obtain ⟨a6, qa6, ra6, ya6⟩ := keep_blk hb6 av5
  obtain ⟨z6, qz6, rz6, yz6⟩ := keep_blk hb6 zv5
  obtain ⟨o6, qo6, ro6, yo6⟩ := keep_blk hb6 ov5
  clear av5 zv5 ov5
  have t6 := tv5.trans (hb6.mono tv5.size)
  have hfl := rcs_len hd6.out
  have hO : (w6.setCell ⟨w.heap.size + 1 + 1, 30, none⟩ (.slice B1 b.2.2.length B2)).heap[w.heap.size + 1 + 1]? = some (.cells #[.int .i64 s.W, .int .i64 s.H, .int .i64 s.mW, .int .i64 s.mH, .slice M1 m.2.2.length M2, .int .i64 s.aW, .int .i64 s.aH, .slice L1 a.2.2.length L2, .bool s.onA, .int .i64 s.X, .int .i64 s.Y, .bool s.wrap, .int .i64 s.A.1, .int .i64 s.A.2.1, .bool s.A.2.2.1, .bool s.A.2.2.2.1, .bool s.A.2.2.2.2, .int .i64 s.top, .int .i64 s.bot, .bool s.noWrap, .bool s.hide, .int .i64 s.sX, .int .i64 s.sY, .int .i64 s.sA.1, .int .i64 s.sA.2.1, .bool s.sA.2.2.1, .bool s.sA.2.2.2.1, .bool s.sA.2.2.2.2, .slice T1 t.2.2.length T2, .int .i64 s.limit, .slice B1 b.2.2.length B2] 49 (0, 0)) := by
    have h := heap_setCell_same (i := 30) (.slice B1 b.2.2.length B2) o6
    simpa only [List.setIfInBounds_toArray, List.set_cons_succ, List.set_cons_zero] using h
  have hZ : (w6.setCell ⟨w.heap.size + 1 + 1, 30, none⟩ (.slice B1 b.2.2.length B2)).heap[w.heap.size + 1]? = some (.cells #[.int .i64 0, .int .i64 0, .int .i64 0, .int .i64 0, .slice none 0 0, .int .i64 0, .int .i64 0, .slice none 0 0, .bool false, .int .i64 0, .int .i64 0, .bool false, .int .i64 0, .int .i64 0, .bool false, .bool false, .bool false, .int .i64 0, .int .i64 0, .bool false, .bool false, .int .i64 0, .int .i64 0, .int .i64 0, .int .i64 0, .bool false, .bool false, .bool false, .slice none 0 0, .int .i64 0, .slice none 0 0] 49 (0, 0)) := heap_setCell_of _ (by first | omega | (simp; done) | (simp; omega)) z6
  have hone : (#[.int .i64 s.W, .int .i64 s.H, .int .i64 s.mW, .int .i64 s.mH, .slice M1 m.2.2.length M2, .int .i64 s.aW, .int .i64 s.aH, .slice L1 a.2.2.length L2, .bool s.onA, .int .i64 s.X, .int .i64 s.Y, .bool s.wrap, .int .i64 s.A.1, .int .i64 s.A.2.1, .bool s.A.2.2.1, .bool s.A.2.2.2.1, .bool s.A.2.2.2.2, .int .i64 s.top, .int .i64 s.bot, .bool s.noWrap, .bool s.hide, .int .i64 s.sX, .int .i64 s.sY, .int .i64 s.sA.1, .int .i64 s.sA.2.1, .bool s.sA.2.2.1, .bool s.sA.2.2.2.1, .bool s.sA.2.2.2.2, .slice T1 t.2.2.length T2, .int .i64 s.limit, .slice B1 b.2.2.length B2] : Array Value).all (·.oneCell') = true := by simp [Value.oneCell']
  have HO := Lib.hid hO
  have HZ := Lib.hid hZ
  have HONE := Lib.hid hone
  have HFL := Lib.hid hfl
  clear hO hZ hone hfl
  go_wp2_with (first
    | (refine wpList_load_row rfl 49 _ rfl (w.heap.size + 1 + 1) rfl 49 #[.int .i64 s.W, .int .i64 s.H, .int .i64 s.mW, .int .i64 s.mH, .slice M1 m.2.2.length M2, .int .i64 s.aW, .int .i64 s.aH, .slice L1 a.2.2.length L2, .bool s.onA, .int .i64 s.X, .int .i64 s.Y, .bool s.wrap, .int .i64 s.A.1, .int .i64 s.A.2.1, .bool s.A.2.2.1, .bool s.A.2.2.2.1, .bool s.A.2.2.2.2, .int .i64 s.top, .int .i64 s.bot, .bool s.noWrap, .bool s.hide, .int .i64 s.sX, .int .i64 s.sY, .int .i64 s.sA.1, .int .i64 s.sA.2.1, .bool s.sA.2.2.1, .bool s.sA.2.2.2.1, .bool s.sA.2.2.2.2, .slice T1 t.2.2.length T2, .int .i64 s.limit, .slice B1 b.2.2.length B2] (0, 0) _ HO.out Try.underlying49 rfl size_scr ?_)
    | (refine wp_store_blk rfl 49 _ _ rfl (w.heap.size + 1) #[.int .i64 s.W, .int .i64 s.H, .int .i64 s.mW, .int .i64 s.mH, .slice M1 m.2.2.length M2, .int .i64 s.aW, .int .i64 s.aH, .slice L1 a.2.2.length L2, .bool s.onA, .int .i64 s.X, .int .i64 s.Y, .bool s.wrap, .int .i64 s.A.1, .int .i64 s.A.2.1, .bool s.A.2.2.1, .bool s.A.2.2.2.1, .bool s.A.2.2.2.2, .int .i64 s.top, .int .i64 s.bot, .bool s.noWrap, .bool s.hide, .int .i64 s.sX, .int .i64 s.sY, .int .i64 s.sA.1, .int .i64 s.sA.2.1, .bool s.sA.2.2.1, .bool s.sA.2.2.2.1, .bool s.sA.2.2.2.2, .slice T1 t.2.2.length T2, .int .i64 s.limit, .slice B1 b.2.2.length B2] rfl rfl 49 #[.int .i64 0, .int .i64 0, .int .i64 0, .int .i64 0, .slice none 0 0, .int .i64 0, .int .i64 0, .slice none 0 0, .bool false, .int .i64 0, .int .i64 0, .bool false, .int .i64 0, .int .i64 0, .bool false, .bool false, .bool false, .int .i64 0, .int .i64 0, .bool false, .bool false, .int .i64 0, .int .i64 0, .int .i64 0, .int .i64 0, .bool false, .bool false, .bool false, .slice none 0 0, .int .i64 0, .slice none 0 0] HZ.out size_scr rfl HONE.out ?_; intro w7 B7 C7 z7))
  refine bodyPost_ret (results_cell_row Try.results33 _ _ (w.heap.size + 1) 49 #[.int .i64 s.W, .int .i64 s.H, .int .i64 s.mW, .int .i64 s.mH, .slice M1 m.2.2.length M2, .int .i64 s.aW, .int .i64 s.aH, .slice L1 a.2.2.length L2, .bool s.onA, .int .i64 s.X, .int .i64 s.Y, .bool s.wrap, .int .i64 s.A.1, .int .i64 s.A.2.1, .bool s.A.2.2.1, .bool s.A.2.2.2.1, .bool s.A.2.2.2.2, .int .i64 s.top, .int .i64 s.bot, .bool s.noWrap, .bool s.hide, .int .i64 s.sX, .int .i64 s.sY, .int .i64 s.sA.1, .int .i64 s.sA.2.1, .bool s.sA.2.2.1, .bool s.sA.2.2.2.1, .bool s.sA.2.2.2.2, .slice T1 t.2.2.length T2, .int .i64 s.limit, .slice B1 b.2.2.length B2] (0, 0) _ rfl B7 Try.underlying49 rfl size_scr) rfl ?_
  have hfl := HFL.out
  have F0 : ∀ k, w.heap.size + 3 ≤ k → some k ∉ [some (w.heap.size + 1), some (w.heap.size + 1 + 1)] := fun k hk hm => by
    simp at hm
    omega
  have M1' : ∀ k, some k ∈ [some (w.heap.size + 1)] → some k ∈ [some (w.heap.size + 1), some (w.heap.size + 1 + 1)] := fun k hk => by simp at hk ⊢; omega
  have M2' : ∀ k, some k ∈ [some (w.heap.size + 1 + 1)] → some k ∈ [some (w.heap.size + 1), some (w.heap.size + 1 + 1)] := fun k hk => by simp at hk ⊢; omega
  have c6 : Chg [some (w.heap.size + 1), some (w.heap.size + 1 + 1)] w6 w7 := ((Chg.refl _ w6).setCell (by simp) _).trans (C7.mono M1')
  have c5 := (cv5.mono M2').trans ((Chg.of_below _ hb6).trans c6)
  have c4 := (cv4.mono M2').trans ((Chg.of_below _ hb5).trans c5)
  have c3 := (cv3.mono M2').trans ((Chg.of_below _ hb4).trans c4)
  have c2 := (cv2.mono M2').trans ((Chg.of_below _ hb3).trans c3)
  have c1 := (cv1.mono M2').trans ((Chg.of_below _ hb2).trans c2)
  have x1 := hb1.size
  have x2 := hb2.size
  have x3 := hb3.size
  have x4 := hb4.size
  have x5 := hb5.size
  have x6 := hb6.size
  simp only [World.size_alloc] at x1 om1
  have om : Og w7 w.heap.size M1 M2 m.2.2 := (om1.chg c1 fun k hk => F0 k (by have := (om1.ob_lt hk).1; omega)).mono (by omega)
  have oa : Og w7 w.heap.size L1 L2 a.2.2 := (oa2.chg c2 fun k hk => F0 k (by have := (oa2.ob_lt hk).1; omega)).mono (by omega)
  have ot : Oi w7 w.heap.size T1 T2 t.2.2 := (ot5.chg c5 fun k hk => F0 k (by have := (ot5.ob_lt hk).1; omega)).mono (by omega)
  rw [← hfl] at *
  have ol : Or w7 w.heap.size B1 B2 fs := (ol6.chg c6 fun k hk => F0 k (by have := (ol6.ob_lt hk).1; omega)).mono (by omega)
  have ow : Ow w7 w.heap.size B1 fs := (ow6.chg c6 fun k hk => F0 k (by have := (ow6.lt hk).1; omega)).mono (by omega)
  refine ⟨(M1, M2, m.2.2), (L1, L2, a.2.2), (T1, T2, t.2.2), (B1, B2, fs), rfl, ⟨rfl, rfl, rfl, hd6.out⟩, So.of_order (n1 := w1.heap.size) (n2 := w2.heap.size) (n3 := w5.heap.size) om oa ot ol ow (fun k hk => (om1.ob_lt hk).2) (fun k hk => ⟨by have := (oa2.ob_lt hk).1; omega, (oa2.ob_lt hk).2⟩) (fun k hk => ⟨by have := (ot5.ob_lt hk).1; omega, (ot5.ob_lt hk).2⟩) (fun k hk => ?_) (by omega) (by omega), ?_⟩
  · rcases List.mem_cons.1 hk with hk | hk
    · have := (ol6.ob_lt hk.symm).1; omega
    · have := (ow6.lt hk).1; omega
  · exact (t6.setCell (by simp; omega) _).trans (C7.below (fun k hk => by simp at hk; omega) (by simp; omega))
end Go.Proofs.Ytnilgcahggmncaa
