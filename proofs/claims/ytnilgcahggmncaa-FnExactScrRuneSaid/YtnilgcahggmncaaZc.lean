/- Screens compared, marked, held. Screens marked, held. The tab stops of a new screen: both ways. -/
import Derived.Test.YtnilgcahggmncaaZb
import Derived.Test.YtnilgcahggmncaaOc
namespace Go.Proofs.Ytnilgcahggmncaa
open Go.RowKit

set_option linter.unusedVariables false
set_option maxRecDepth 100000

/-- A block that what changed leaves alone. -/
theorem keep_chg {F : List (Option Nat)} {W w1 : World} (hc : Chg F W w1) {g : Nat} {t : TypeId} {cs : Array Value} (hB : W.heap[g]? = some (.cells cs t (0, 0))) (hn : some g ∉ F) :
    w1.heap[g]? = some (.cells cs t (0, 0)) ∧ (∀ i, w1.cell? ⟨g, i, none⟩ = cs[i]?) ∧ (∀ i, w1.frozen? ⟨g, i, none⟩ = false) ∧ g < w1.heap.size := by
  have hg : g < W.heap.size := (Array.getElem?_eq_some_iff.1 hB).1
  have h1 : w1.heap[g]? = some (.cells cs t (0, 0)) := (hc.block g hg hn).trans hB
  exact ⟨h1, fun i => cell_of_row w1 g i cs t (0, 0) h1, fun i => by simp [World.frozen?, h1], Nat.lt_of_lt_of_le hg hc.size⟩
theorem sV_len {s : Sc} {m a : Rw} {t : Ti} {A : Option Addr} {c : Nat} {es fs : List Rw} (h : fs.length = es.length) : sV s m a t (A, c, fs) = sV s m a t (A, c, es) := by
  have : bv (A, c, fs) = bv (A, c, es) := by simp only [bv, h]
  show Value.agg #[_, _, _, _, _, _, _, _, _, _, _, _, _, _, _, _, _, _, _, _, _, _, _, _, _, _, _, _, _, _, bv (A, c, fs)] = _
  rw [this]
set_option maxHeartbeats 4000000 in
theorem eqScr_same (s : Sc) (M A : Rw) (T : Ti) (B : Tr) (M' A' : Rw) (T' : Ti) (B' : Tr) (c : Cont) (w : World) (hr : Sr w M A T B) (hr' : Sr w M' A' T' B') (hc : Hid (Holds M A T B c)) (hc' : Hid (Holds M' A' T' B' c)) (hN : cTot c ≤ 1048576) :
    Calls Try.prog 28 #[sV s M A T B, sV s M' A' T' B'] w fun e w' => e = .returned (.bool true) ∧ Below w.heap.size w w' := by
  have hz := Sz.of (by rw [cTot_holds hc.out]; exact hN)
  obtain ⟨l1, l2, l3, l4, l5⟩ := hz
  obtain ⟨mA, mc, ms⟩ := M
  obtain ⟨aA, ac, xs⟩ := A
  obtain ⟨tA, tc, ts⟩ := T
  obtain ⟨bA, bc, bs⟩ := B
  obtain ⟨mA', mc', ms'⟩ := M'
  obtain ⟨aA', ac', xs'⟩ := A'
  obtain ⟨tA', tc', ts'⟩ := T'
  obtain ⟨bA', bc', bs'⟩ := B'
  obtain ⟨g1, g2, g3, g4⟩ := hr
  obtain ⟨g1', g2', g3', g4'⟩ := hr'
  obtain ⟨cm, ca, ct, cb⟩ := c
  obtain ⟨h1, h2, h3, h4⟩ := hc.out
  obtain ⟨h1', h2', h3', h4'⟩ := hc'.out
  simp only at *
  subst h1' h2' h3' h1 h2 h3
  have hd : rcs bs' = rcs bs := h4'.trans h4.symm
  have hfl := rcs_len hd
  have HD := Lib.hid hd
  rw [sV_len hfl]
  clear h4 h4' hd hfl hc hc' hN
  go_enter Try.func28, Try.ntmps28
  go_wp2_with fail
  have t0 : Below w.heap.size w ((w.alloc (.cells (sC s (mA, mc, ms) (aA, ac, xs) (tA, tc, ts) (bA, bc, bs)) 49)).alloc (.cells (sC s (mA', mc', ms) (aA', ac', xs) (tA', tc', ts) (bA', bc', bs)) 49)) := by (repeat (first | exact Below.refl _ _ | (refine Below.alloc ?_ (by first | omega | (simp; done) | (simp; omega)) _) | (refine Below.drew ?_) | (refine below_drewN ?_ _) | (refine below_at1 ?_ (by first | omega | (simp; done) | (simp; omega))) | (refine Below.setCell ?_ (by first | omega | (simp; done) | (simp; omega)) _) | (refine Below.trans ?_ (Below.mono (by assumption) (by first | omega | (simp; done) | (simp; omega))))))
  refine (eqGrid_same s.mW s.mH mA mA' mc mc' ms _ (g1.below t0) (g1'.below t0) (by omega)).mono ?_
  rintro e w1 ⟨rfl, hb1⟩
  obtain ⟨B1, q1, r1, z1⟩ := keep_blk hb1 (g := w.heap.size) (by repeat (first | assumption | exact heap_alloc_at _ (by first | rfl | (simp; done) | omega) | refine heap_alloc_of _ ?_ | refine heap_setCell_of _ (by first | omega | (simp; done) | (simp; omega)) ?_ | refine heap_setCell_same _ ?_ | exact heap_at1_same (by first | omega | (simp; done) | (simp; omega)) | refine heap_at1_of (by first | omega | (simp; done) | (simp; omega)) ?_))
  obtain ⟨C1, p1, s1, y1⟩ := keep_blk hb1 (g := w.heap.size + 1) (by repeat (first | assumption | exact heap_alloc_at _ (by first | rfl | (simp; done) | omega) | refine heap_alloc_of _ ?_ | refine heap_setCell_of _ (by first | omega | (simp; done) | (simp; omega)) ?_ | refine heap_setCell_same _ ?_ | exact heap_at1_same (by first | omega | (simp; done) | (simp; omega)) | refine heap_at1_of (by first | omega | (simp; done) | (simp; omega)) ?_))
  have t1 := t0.trans (hb1.mono t0.size)
  go_wp2_with fail
  refine (eqGrid_same s.aW s.aH aA aA' ac ac' xs _ (g2.below t1) (g2'.below t1) (by omega)).mono ?_
  rintro e w2 ⟨rfl, hb2⟩
  obtain ⟨B2, q2, r2, z2⟩ := keep_blk hb2 B1
  obtain ⟨C2, p2, s2, y2⟩ := keep_blk hb2 C1
  clear B1 q1 r1 C1 p1 s1
  have t2 := t1.trans (hb2.mono t1.size)
  go_wp2_with fail
  refine (eqAttr_same s.A _).mono ?_
  rintro e w3 ⟨rfl, hb3⟩
  obtain ⟨B3, q3, r3, z3⟩ := keep_blk hb3 B2
  obtain ⟨C3, p3, s3, y3⟩ := keep_blk hb3 C2
  clear B2 q2 r2 C2 p2 s2
  have t3 := t2.trans (hb3.mono t2.size)
  go_wp2_with fail
  refine (eqAttr_same s.sA _).mono ?_
  rintro e w4 ⟨rfl, hb4⟩
  obtain ⟨B4, q4, r4, z4⟩ := keep_blk hb4 B3
  obtain ⟨C4, p4, s4, y4⟩ := keep_blk hb4 C3
  clear B3 q3 r3 C3 p3 s3
  have t4 := t3.trans (hb4.mono t3.size)
  go_wp2_with fail
  refine (eqIntS_same tA tA' tc tc' ts _ (g3.below t4) (g3'.below t4) (by omega)).mono ?_
  rintro e w' ⟨rfl, m5, hw5⟩
  have hb5 : Below w4.heap.size w4 w' := by rw [← hw5]; exact below_drewN (Below.refl _ _) _
  clear hw5
  obtain ⟨B5, q5, r5, z5⟩ := keep_blk hb5 B4
  obtain ⟨C5, p5, s5, y5⟩ := keep_blk hb5 C4
  clear B4 q4 r4 C4 p4 s4
  have t5 := t4.trans (hb5.mono t4.size)
  go_wp2_with fail
  refine (eqRowS_same bA bA' bc bc' bs.length bs bs' _ rfl (g4.below t5) (g4'.below t5) HD (by omega) l5).mono ?_
  rintro e w6 ⟨rfl, hb6⟩
  obtain ⟨B6, q6, r6, z6⟩ := keep_blk hb6 B5
  obtain ⟨C6, p6, s6, y6⟩ := keep_blk hb6 C5
  clear B5 q5 r5 C5 p5 s5
  have t6 := t5.trans (hb6.mono t5.size)
  go_wp2_with fail
  go_ret
  exact ⟨rfl, t6⟩

set_option linter.unusedVariables false
set_option maxRecDepth 100000

/-- The slices of a screen, marked from k on. -/
abbrev mkM (k : Int) (M : Rw) : Rw := (M.1, M.2.1, markC k M.2.2.length)
abbrev mkT (k : Int) (T : Ti) : Ti := (T.1, T.2.1, markI k T.2.2.length)
abbrev mkB (k : Int) (B : Tr) : Tr := (B.1, B.2.1, markR k B.2.2)
/-- How many numbers are marked. -/
def nMark (M A : Rw) (T : Ti) (B : Tr) : Int := 6 * (M.2.2.length : Int) + 6 * (A.2.2.length : Int) + (T.2.2.length : Int) + 6 * (rtot B.2.2 : Int)
theorem Og.mk_sep {w : World} {lo : Nat} {e e' : Rw} (h : Sep (ob e.1) (ob e'.1)) : ∀ k, ob e'.1 = some k → some k ∉ [ob e.1] := fun k hk hm => h k (List.mem_singleton.1 hm).symm hk
theorem So.pairs {w : World} {lo : Nat} {M A : Rw} {T : Ti} {B : Tr} (h : So w lo M A T B) :
    (Sep (ob M.1) (ob A.1) ∧ Sep (ob M.1) (ob T.1) ∧ Sep (ob M.1) (ob B.1) ∧ ∀ x, x ∈ ft B.2.2 → Sep (ob M.1) x) ∧ (Sep (ob A.1) (ob T.1) ∧ Sep (ob A.1) (ob B.1) ∧ ∀ x, x ∈ ft B.2.2 → Sep (ob A.1) x) ∧ (Sep (ob T.1) (ob B.1) ∧ ∀ x, x ∈ ft B.2.2 → Sep (ob T.1) x) ∧ ∀ x, x ∈ ft B.2.2 → Sep (ob B.1) x := by
  have h1 := List.pairwise_cons.1 h.sep
  have h2 := List.pairwise_cons.1 h1.2
  have h3 := List.pairwise_cons.1 h2.2
  have h4 := List.pairwise_cons.1 h3.2
  refine ⟨⟨h1.1 _ (by simp), h1.1 _ (by simp), h1.1 _ (by simp), fun x hx => h1.1 _ (by simp only [List.mem_cons]; exact .inr (.inr (.inr hx)))⟩, ⟨h2.1 _ (by simp), h2.1 _ (by simp), fun x hx => h2.1 _ (by simp only [List.mem_cons]; exact .inr (.inr hx))⟩, ⟨h3.1 _ (by simp), fun x hx => h3.1 _ (List.mem_cons_of_mem _ hx)⟩, fun x hx => h4.1 _ hx⟩
theorem nm1 {a b : Option Nat} (h : Sep a b) : ∀ k, b = some k → some k ∉ [a] := fun k hk hm => h k (List.mem_singleton.1 hm).symm hk
theorem nm2 {a b : Option Nat} (h : Sep a b) : ∀ k, a = some k → some k ∉ [b] := fun k hk hm => h k hk (List.mem_singleton.1 hm).symm
theorem nmL {a : Option Nat} {l : List (Option Nat)} (h : ∀ x, x ∈ l → Sep a x) : ∀ k, a = some k → some k ∉ l := fun k hk hm => h _ hm k hk rfl
theorem nmR {a : Option Nat} {l : List (Option Nat)} (h : ∀ x, x ∈ l → Sep a x) : ∀ k, some k ∈ l → some k ∉ [a] := fun k hk hm => h _ hk k (List.mem_singleton.1 hm).symm rfl
set_option maxHeartbeats 4000000 in
theorem markScr_any (s : Sc) (lo : Nat) (M A : Rw) (T : Ti) (B : Tr) (w : World) (ho : So w lo M A T B) (hN : M.2.2.length + A.2.2.length + T.2.2.length + B.2.2.length + rtot B.2.2 ≤ 1048576) :
    Calls Try.prog 29 #[sV s M A T B, .int .i64 1] w fun e w' => e = .returned (.int .i64 (1 + nMark M A T B)) ∧ So w' lo (mkM 1 M) (mkM (1 + 6 * (M.2.2.length : Int)) A) (mkT (1 + 6 * (M.2.2.length : Int) + 6 * (A.2.2.length : Int)) T) (mkB (1 + 6 * (M.2.2.length : Int) + 6 * (A.2.2.length : Int) + (T.2.2.length : Int)) B) ∧ Chg (sft M A T B) w w' := by
  obtain ⟨⟨x1, x2, x3, x4⟩, ⟨x5, x6, x7⟩, ⟨x8, x9⟩, x10⟩ := ho.pairs
  have how := ho.rows
  obtain ⟨om, oa, ot, ol, ow, hsep⟩ := ho
  have hlt : ∀ k, some k ∈ sft M A T B → k < w.heap.size := fun k hk => (So.lt ⟨om, oa, ot, ol, ow, hsep⟩ hk).2
  have hg1 : some w.heap.size ∉ [ob M.1] := fun h => by have := hlt _ (by rw [List.mem_singleton.1 h]; simp); omega
  have hg2 : some w.heap.size ∉ [ob A.1] := fun h => by have := hlt _ (by rw [List.mem_singleton.1 h]; simp); omega
  have hg3 : some w.heap.size ∉ [ob T.1] := fun h => by have := hlt _ (by rw [List.mem_singleton.1 h]; simp); omega
  have c0 : Chg (sft M A T B) w (w.alloc (.cells (sC s M A T B) 49)) := (Chg.refl _ _).alloc _
  have n0 := fun (l : List (Option Nat)) => Chg.of_below (w := w) (w' := w.alloc (.cells (sC s M A T B) 49)) l ((Below.refl _ _).alloc (Nat.le_refl _) _)
  have om0 : Og (w.alloc (.cells (sC s M A T B) 49)) lo M.1 M.2.1 M.2.2 := om.alloc _
  have oa0 : Og (w.alloc (.cells (sC s M A T B) 49)) lo A.1 A.2.1 A.2.2 := oa.alloc _
  have ot0 : Oi (w.alloc (.cells (sC s M A T B) 49)) lo T.1 T.2.1 T.2.2 := ownsG.alloc ot _
  have ol0 : Or (w.alloc (.cells (sC s M A T B) 49)) lo B.1 B.2.1 B.2.2 := ownsG.alloc ol _
  have ow0 : Ow (w.alloc (.cells (sC s M A T B) 49)) lo B.1 B.2.2 := how.below ((Below.refl _ _).alloc (Nat.le_refl _) _)
  have i1 : ∀ k, some k ∈ [ob M.1] → some k ∈ sft M A T B := fun k hk => by rw [List.mem_singleton.1 hk]; simp
  have i2 : ∀ k, some k ∈ [ob A.1] → some k ∈ sft M A T B := fun k hk => by rw [List.mem_singleton.1 hk]; simp
  have i3 : ∀ k, some k ∈ [ob T.1] → some k ∈ sft M A T B := fun k hk => by rw [List.mem_singleton.1 hk]; simp
  have i4 : ∀ k, some k ∈ ft B.2.2 → some k ∈ sft M A T B := fun k hk => by simp only [List.mem_cons]; exact .inr (.inr (.inr (.inr hk)))
  obtain ⟨mA, mc, ms⟩ := M
  obtain ⟨aA, ac, xs⟩ := A
  obtain ⟨tA, tc, ts⟩ := T
  obtain ⟨bA, bc, bs⟩ := B
  simp only at *
  obtain ⟨z2, hz2⟩ : ∃ z : Int, Hid (z = 1 + 6 * (ms.length : Int)) := ⟨_, Lib.hid rfl⟩
  obtain ⟨z3, hz3⟩ : ∃ z : Int, Hid (z = z2 + 6 * (xs.length : Int)) := ⟨_, Lib.hid rfl⟩
  obtain ⟨z4, hz4⟩ : ∃ z : Int, Hid (z = z3 + (ts.length : Int)) := ⟨_, Lib.hid rfl⟩
  obtain ⟨z5, hz5⟩ : ∃ z : Int, Hid (z = z4 + 6 * (rtot bs : Int)) := ⟨_, Lib.hid rfl⟩
  have b2 : 0 ≤ z2 ∧ z2 ≤ 1 + 6 * (ms.length : Int) := by have := hz2.out; omega
  have b3 : 0 ≤ z3 ∧ z3 ≤ 1 + 6 * (ms.length : Int) + 6 * (xs.length : Int) := by have := hz3.out; omega
  have b4 : 0 ≤ z4 ∧ z4 ≤ 1 + 6 * (ms.length : Int) + 6 * (xs.length : Int) + (ts.length : Int) := by have := hz4.out; omega
  go_enter Try.func29, Try.ntmps29
  go_wp2_with fail
  refine (markGrid_any s.mW s.mH mA mc lo ms 1 _ om0 (by omega) (by omega) (by omega)).mono ?_
  rintro e w1 ⟨rfl, om1, hg⟩
  have c1 : Chg [ob mA] _ w1 := Chg.of_grown hg fun k hk => by rw [ob_eq] at hk; rw [hk]; simp
  obtain ⟨B1, q1, r1, y1⟩ := keep_chg c1 (heap_alloc_new _ _) hg1
  have oa1 := oa0.chg c1 (nm1 x1)
  have ot1 := ot0.chg c1 (nm1 x2)
  have ol1 := ol0.chg c1 (nm1 x3)
  have ow1 := ow0.chg c1 (nmR x4)
  rw [← hz2.out]
  have t1 := c0.trans (c1.mono i1)
  clear om0 oa0 ot0 ol0 ow0 hg
  go_wp2_with fail
  refine (markGrid_any s.aW s.aH aA ac lo xs z2 _ oa1 (by omega) (by omega) (by omega)).mono ?_
  rintro e w2 ⟨rfl, oa2, hg⟩
  have c2 : Chg [ob aA] _ w2 := Chg.of_grown hg fun k hk => by rw [ob_eq] at hk; rw [hk]; simp
  clear hg
  obtain ⟨B2, q2, r2, y2⟩ := keep_chg c2 B1 hg2
  have om2 := om1.chg c2 (nm2 x1)
  have ot2 := ot1.chg c2 (nm1 x5)
  have ol2 := ol1.chg c2 (nm1 x6)
  have ow2 := ow1.chg c2 (nmR x7)
  rw [← hz3.out]
  have t2 := t1.trans (c2.mono i2)
  clear om1 oa1 ot1 ol1 ow1 B1 q1 r1
  go_wp2_with fail
  refine (markIntS_any tA tc lo ts z3 _ ot2 (by omega) (by omega) (by omega)).mono ?_
  rintro e w3 ⟨rfl, ot3, c3⟩
  obtain ⟨B3, q3, r3, y3⟩ := keep_chg c3 B2 hg3
  have om3 := om2.chg c3 (nm2 x2)
  have oa3 := oa2.chg c3 (nm2 x5)
  have ol3 := ol2.chg c3 (nm1 x8)
  have ow3 := ow2.chg c3 (nmR x9)
  rw [← hz4.out]
  have t3 := t2.trans (c3.mono i3)
  clear om2 oa2 ot2 ol2 ow2 B2 q2 r2
  go_wp2_with fail
  refine (markRowS_any bA bc lo bs z4 _ ol3.cs ow3 (by omega) (by omega) (by omega) (by omega)).mono ?_
  rintro e w4 ⟨rfl, ow4, c4⟩
  have om4 := om3.chg c4 (nmL x4)
  have oa4 := oa3.chg c4 (nmL x7)
  have ot4 := ot3.chg c4 (nmL x9)
  have ol4 := ol3.chg c4 (nmL x10)
  have t4 := t3.trans (c4.mono i4)
  rw [← hz5.out]
  clear om3 oa3 ot3 ol3 ow3 B3 q3 r3
  go_wp2_with fail
  go_ret
  have e2 := hz2.out
  have e3 := hz3.out
  have e4 := hz4.out
  have e5 := hz5.out
  subst e2 e3 e4 e5
  refine ⟨ret_int (by simp only [nMark]; omega), ⟨om4, oa4, ot4, ?_, ow4.own, ?_⟩, t4⟩
  · unfold Or at ol4 ⊢
    rw [markR_map, markR_len]
    exact ol4
  · show (ob mA :: ob aA :: ob tA :: ob bA :: ft (markR _ bs)).Pairwise Sep
    rw [markR_ft]
    exact hsep
set_option maxHeartbeats 4000000 in
theorem heldScr_any (s : Sc) (M A : Rw) (T : Ti) (B : Tr) (w : World) (gm : Gs w M.1 (markC 1 M.2.2.length)) (ga : Gs w A.1 (markC (1 + 6 * (M.2.2.length : Int)) A.2.2.length)) (gt : Cs w T.1 ((markI (1 + 6 * (M.2.2.length : Int) + 6 * (A.2.2.length : Int)) T.2.2.length).map I)) (gl : Cs w B.1 (B.2.2.map rv)) (gb : ∀ e, e ∈ markR (1 + 6 * (M.2.2.length : Int) + 6 * (A.2.2.length : Int) + (T.2.2.length : Int)) B.2.2 → Gs w e.1 e.2.2) (hN : M.2.2.length + A.2.2.length + T.2.2.length + B.2.2.length + rtot B.2.2 ≤ 1048576) :
    Calls Try.prog 30 #[sV s M A T B, .int .i64 1] w fun e w' => e = .returned (.int .i64 (1 + nMark M A T B)) ∧ Below w.heap.size w w' := by
  have t0 : Below w.heap.size w (w.alloc (.cells (sC s M A T B) 49)) := (Below.refl _ _).alloc (Nat.le_refl _) _
  obtain ⟨mA, mc, ms⟩ := M
  obtain ⟨aA, ac, xs⟩ := A
  obtain ⟨tA, tc, ts⟩ := T
  obtain ⟨bA, bc, bs⟩ := B
  simp only at *
  obtain ⟨z2, hz2⟩ : ∃ z : Int, Hid (z = 1 + 6 * (ms.length : Int)) := ⟨_, Lib.hid rfl⟩
  rw [← hz2.out] at ga gt gb
  obtain ⟨z3, hz3⟩ : ∃ z : Int, Hid (z = z2 + 6 * (xs.length : Int)) := ⟨_, Lib.hid rfl⟩
  rw [← hz3.out] at gt gb
  obtain ⟨z4, hz4⟩ : ∃ z : Int, Hid (z = z3 + (ts.length : Int)) := ⟨_, Lib.hid rfl⟩
  rw [← hz4.out] at gb
  obtain ⟨z5, hz5⟩ : ∃ z : Int, Hid (z = z4 + 6 * (rtot bs : Int)) := ⟨_, Lib.hid rfl⟩
  have b2 : 0 ≤ z2 ∧ z2 ≤ 1 + 6 * (ms.length : Int) := by have := hz2.out; omega
  have b3 : 0 ≤ z3 ∧ z3 ≤ 1 + 6 * (ms.length : Int) + 6 * (xs.length : Int) := by have := hz3.out; omega
  have b4 : 0 ≤ z4 ∧ z4 ≤ 1 + 6 * (ms.length : Int) + 6 * (xs.length : Int) + (ts.length : Int) := by have := hz4.out; omega
  have b5 : 0 ≤ z5 := by have := hz5.out; omega
  have n2 : ¬ z2 < 0 := by omega
  have n3 : ¬ z3 < 0 := by omega
  have n4 : ¬ z4 < 0 := by omega
  have n5 : ¬ z5 < 0 := by omega
  go_enter Try.func30, Try.ntmps30
  go_wp2_with fail
  refine (heldGrid_any s.mW s.mH mA mc ms.length 1 _ (gm.below t0) (by omega) (by omega) (by omega)).mono ?_
  rintro e w1 ⟨rfl, hb1⟩
  obtain ⟨B1, q1, r1, y1⟩ := keep_blk hb1 (g := w.heap.size) (by repeat (first | assumption | exact heap_alloc_at _ (by first | rfl | (simp; done) | omega) | refine heap_alloc_of _ ?_ | refine heap_setCell_of _ (by first | omega | (simp; done) | (simp; omega)) ?_ | refine heap_setCell_same _ ?_ | exact heap_at1_same (by first | omega | (simp; done) | (simp; omega)) | refine heap_at1_of (by first | omega | (simp; done) | (simp; omega)) ?_))
  have t1 := t0.trans (hb1.mono t0.size)
  rw [← hz2.out]
  go_wp2_with fail
  refine (heldGrid_any s.aW s.aH aA ac xs.length z2 _ (ga.below t1) (by omega) (by omega) (by omega)).mono ?_
  rintro e w2 ⟨rfl, hb2⟩
  obtain ⟨B2, q2, r2, y2⟩ := keep_blk hb2 B1
  have t2 := t1.trans (hb2.mono t1.size)
  rw [← hz3.out]
  clear B1 q1 r1
  go_wp2_with fail
  refine (heldIntS_any tA tc ts.length z3 _ (gt.below t2) (by omega) (by omega) (by omega)).mono ?_
  rintro e w3 ⟨rfl, m3, hw3⟩
  have hb3 : Below w2.heap.size w2 w3 := by rw [← hw3]; exact below_drewN (Below.refl _ _) _
  clear hw3
  obtain ⟨B3, q3, r3, y3⟩ := keep_blk hb3 B2
  have t3 := t2.trans (hb3.mono t2.size)
  rw [← hz4.out]
  clear B2 q2 r2
  go_wp2_with fail
  refine (heldRowS_any bA bc bs z4 _ (gl.below t3) (fun e he => (gb e he).below t3) (by omega) (by omega) (by omega) (by omega)).mono ?_
  rintro e w4 ⟨rfl, m4, hw4⟩
  have hb4 : Below w3.heap.size w3 w4 := by rw [← hw4]; exact below_drewN (Below.refl _ _) _
  clear hw4
  have t4 := t3.trans (hb4.mono t3.size)
  rw [← hz5.out]
  clear B3 q3 r3
  go_wp2_with fail
  go_ret
  exact ⟨ret_int (by have := hz2.out; have := hz3.out; have := hz4.out; have := hz5.out; simp only [nMark]; omega), t4⟩

set_option linter.unusedVariables false
set_option maxRecDepth 100000

/-- The first n tab stops. -/
def tabL (n : Nat) : List Int := (List.range n).map fun (i : Nat) => 8 * (i : Int) + 8
theorem tabL_len (n : Nat) : (tabL n).length = n := by simp [tabL]
theorem tabL_succ (n : Nat) : tabL (n + 1) = tabL n ++ [8 * (n : Int) + 8] := by simp [tabL, List.range_succ]
/-- How many a screen of this width has. -/
def tabK (W : Int) : Nat := ((W - 1) / 8).toNat
theorem Oi.of_oc {w : World} {lo c : Nat} {A : Option Addr} {ns : List Int} {vs : List Value} (h : Oc 3 w lo A c vs) (hv : vs = ns.map I) : Oi w lo A c ns := by
  subst hv
  unfold Oc at h
  rw [List.length_map] at h
  exact h
theorem Oi.oc {w : World} {lo c : Nat} {A : Option Addr} {ns : List Int} (h : Oi w lo A c ns) : Oc 3 w lo A c (ns.map I) := by
  unfold Oc
  rw [List.length_map]
  exact h
theorem tabsOf_impl (W : Int) (w : World) (h1 : 1 ≤ W) (h2 : W ≤ 120) :
    Calls Try.prog 73 #[.int .i64 W] w (IntsOwn w (tabL (tabK W))) := by
  obtain ⟨K, hK⟩ : ∃ K, Hid (K = tabK W) := ⟨_, Lib.hid rfl⟩
  rw [← hK.out]
  have hK1 : 8 * (K : Int) < W ∧ W ≤ 8 * (K : Int) + 8 := by have := hK.out; unfold tabK at this; omega
  go_enter Try.func73, Try.ntmps73
  go_wp2_with fail
  go_loopw [3, 4] (fun ov xv wr => ∃ (j c1 : Nat) (A1 : Option Addr), j ≤ K ∧ ov = .slice A1 j c1 ∧ xv = .int .i64 (8 * (j : Int) + 8) ∧ Oi wr w.heap.size A1 c1 (tabL j) ∧ Below w.heap.size w wr) (fun _ xv _ => (120 - intOf xv).toNat)
  case atStart => exact ⟨0, 0, _, Nat.zero_le _, rfl, rfl, Oc.empty, (Below.refl _ _).alloc (Nat.le_refl _) _⟩
  case round =>
    obtain ⟨j, c1, A1, hj, rfl, rfl, ho, hb⟩ := hrel
    have zb := hb.size
    by_cases hlt : j < K
    · have hlt' : 8 * (j : Int) + 8 < W := by omega
      have hl : ((tabL j).map I).length = j := by rw [List.length_map, tabL_len]
      have HL := Lib.hid hl
      clear hl
      go_wp2_with (at_builtin; refine wp_app1C 46 3 (.int .i64 0) 8 Try.underlying46 info_int (by omega) rfl rfl _ _ rfl w.heap.size A1 c1 ((tabL j).map I) _ _ (I (8 * (j : Int) + 8)) rfl ho.oc HL.out.symm rfl rfl (by rw [HL.out]; omega) zb ?_; intro A2 c2 w2 us hus ho2 hb2 _; have hul : us.length = j + 1 := (by rw [hus.out, List.length_append, HL.out]; rfl); rw [hul])
      go_roundw
      case rel =>
        refine ⟨j + 1, c2, A2, by omega, rfl, by go_num, Oi.of_oc ho2 ?_, hb.trans hb2⟩
        rw [hus.out, tabL_succ, List.map_append]
        rfl
      case measure => simp [intOf]; omega
    · have hlt' : ¬ 8 * (j : Int) + 8 < W := by omega
      obtain rfl : j = K := by omega
      go_wp2_with fail
      go_ret
      exact ⟨A1, c1, by rw [tabL_len]; rfl, ho, hb⟩
theorem tabs_spec (W : Int) (w : World) (h1 : 1 ≤ W) (h2 : W ≤ 120) :
    Calls Try.prog 72 #[.int .i64 W] w (IntsOwn w (tabL (tabK W))) := by
  obtain ⟨K, hK⟩ : ∃ K, Hid (K = tabK W) := ⟨_, Lib.hid rfl⟩
  rw [← hK.out]
  have hK1 : 8 * (K : Int) < W ∧ W ≤ 8 * (K : Int) + 8 := by have := hK.out; unfold tabK at this; omega
  go_enter Try.func72, Try.ntmps72
  go_wp2_with fail
  go_loopw [3, 4] (fun ov xv wr => ∃ (j c1 : Nat) (A1 : Option Addr), j ≤ K ∧ ov = .slice A1 j c1 ∧ xv = .int .i64 (8 * (j : Int) + 8) ∧ Oi wr w.heap.size A1 c1 (tabL j) ∧ Below w.heap.size w wr) (fun _ xv _ => (120 - intOf xv).toNat)
  case atStart => exact ⟨0, 0, _, Nat.zero_le _, rfl, rfl, Oc.empty, (Below.refl _ _).alloc (Nat.le_refl _) _⟩
  case round =>
    obtain ⟨j, c1, A1, hj, rfl, rfl, ho, hb⟩ := hrel
    have zb := hb.size
    by_cases hlt : j < K
    · have hlt' : 8 * (j : Int) + 8 < W := by omega
      have hl : ((tabL j).map I).length = j := by rw [List.length_map, tabL_len]
      have HL := Lib.hid hl
      clear hl
      go_wp2_with (at_builtin; refine wp_app1C 46 3 (.int .i64 0) 8 Try.underlying46 info_int (by omega) rfl rfl _ _ rfl w.heap.size A1 c1 ((tabL j).map I) _ _ (I (8 * (j : Int) + 8)) rfl ho.oc HL.out.symm rfl rfl (by rw [HL.out]; omega) zb ?_; intro A2 c2 w2 us hus ho2 hb2 _; have hul : us.length = j + 1 := (by rw [hus.out, List.length_append, HL.out]; rfl); rw [hul])
      go_roundw
      case rel =>
        refine ⟨j + 1, c2, A2, by omega, rfl, by go_num, Oi.of_oc ho2 ?_, hb.trans hb2⟩
        rw [hus.out, tabL_succ, List.map_append]
        rfl
      case measure => simp [intOf]; omega
    · have hlt' : ¬ 8 * (j : Int) + 8 < W := by omega
      obtain rfl : j = K := by omega
      go_wp2_with fail
      go_ret
      exact ⟨A1, c1, by rw [tabL_len]; rfl, ho, hb⟩
end Go.Proofs.Ytnilgcahggmncaa
