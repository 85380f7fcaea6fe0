/- A rune written on a screen: plain. ScrRune: the reference's way. ScrRune: the program's way. -/
import Derived.Test.YtnilgcahggmncaaY4
import Derived.Test.YtnilgcahggmncaaF1
import Derived.Test.YtnilgcahggmncaaY5
import Derived.Test.YtnilgcahggmncaaFi2
import Derived.Test.YtnilgcahggmncaaY6
namespace Go.Proofs.Ytnilgcahggmncaa
open Go.RowKit

set_option linter.unusedVariables false
set_option maxRecDepth 100000

theorem all_upd {cs : List Cl} {f : Nat → Cl} {lo hi : Nat} (h : cs.all cellB = true) (hf : ∀ i, lo ≤ i → i < hi → i < cs.length → cellB (f i) = true) : (upd cs f lo hi).all cellB = true := by
  refine List.all_eq_true.2 fun x hx => ?_
  unfold upd at hx
  obtain ⟨i, hi, rfl⟩ := List.mem_map.1 hx
  have hl := List.mem_range.1 hi
  split
  · rename_i h1
    exact hf i h1.1 h1.2 hl
  · rw [List.getD_eq_getElem?_getD, List.getElem?_eq_getElem hl]
    exact List.all_eq_true.1 h _ (List.getElem_mem hl)
theorem grid_parts {W H : Int} {cs : List Cl} (h : gridB W H cs = true) : sizeB W H = true ∧ decide ((cs.length : Int) = W * H) = true ∧ cs.all cellB = true := by
  rw [gridB, Bool.and_eq_true, Bool.and_eq_true] at h
  exact ⟨h.1.1, h.1.2, h.2⟩
theorem grid_of {W H : Int} {cs ds : List Cl} (h : gridB W H cs = true) (hl : ds.length = cs.length) (ha : ds.all cellB = true) : gridB W H ds = true := by
  obtain ⟨h1, h2, _⟩ := grid_parts h
  rw [gridB, h1, hl, h2, ha]
  rfl
theorem grid_set {W H : Int} {cs : List Cl} {i : Nat} {x : Cl} (h : gridB W H cs = true) (hx : cellB x = true) : gridB W H (cs.set i x) = true := by
  refine grid_of h (by simp) (List.all_eq_true.2 fun y hy => ?_)
  rcases List.mem_or_eq_of_mem_set hy with h1 | h1
  · exact List.all_eq_true.1 (grid_parts h).2.2 y h1
  · rw [h1]; exact hx
theorem bk_ok : cellB bk = true := by decide
theorem roL_ok {W H : Int} {cs : List Cl} {top bot : Int} (n : Int) (h : gridB W H cs = true) (h1 : 0 ≤ top) (h2 : top ≤ bot) (h3 : bot < H) : gridB W H (roL cs W.toNat top.toNat bot.toNat n) = true := by
  obtain ⟨⟨a1, a2⟩, ⟨b1, b2⟩, _, f⟩ := grid_len h
  obtain ⟨a, rfl⟩ := Int.eq_ofNat_of_zero_le (show 0 ≤ W by omega)
  obtain ⟨b, rfl⟩ := Int.eq_ofNat_of_zero_le (show 0 ≤ H by omega)
  obtain ⟨j, rfl⟩ := Int.eq_ofNat_of_zero_le h1
  obtain ⟨k, rfl⟩ := Int.eq_ofNat_of_zero_le (show 0 ≤ bot by omega)
  have hf : cs.length = a * b := by rw [← Int.natCast_mul] at f; exact Int.ofNat_inj.1 f
  simp only [Int.toNat_natCast]
  have hall := (grid_parts h).2.2
  refine grid_of h (by unfold roL; exact upd_len) ?_
  unfold roL
  refine all_upd hall fun i hi1 hi2 hi3 => ?_
  unfold roF
  split
  · rename_i hc
    obtain ⟨q, hq⟩ := Int.eq_ofNat_of_zero_le (show 0 ≤ ((i / a : Nat) : Int) + n by omega)
    rw [hq, Int.toNat_natCast]
    have hqk : q ≤ k := by omega
    have m1 : q * a ≤ k * a := Nat.mul_le_mul_right a hqk
    have m2 : i % a < a := Nat.mod_lt _ (by omega)
    have m3 : (k + 1) * a ≤ b * a := Nat.mul_le_mul_right a (by omega)
    rw [Nat.add_mul, Nat.one_mul] at m3
    have m4 : b * a = a * b := Nat.mul_comm _ _
    have hlt : q * a + i % a < cs.length := by omega
    rw [List.getD_eq_getElem?_getD, List.getElem?_eq_getElem hlt]
    exact List.all_eq_true.1 hall _ (List.getElem_mem hlt)
  · exact bk_ok
theorem scr_of {s t : Sc} {c d : Cont} (h : scrB s c = true) (e1 : gridB t.mW t.mH d.m = true) (e2 : gridB t.aW t.aH d.a = true) (e3 : numB t d.b.length = true) (e4 : t.W = s.W) (e5 : d.t = c.t) (e6 : rowsB d.b = true) : scrB t d = true := by
  have := (scr_grids h).2.2.2.1
  rw [← e4, ← e5] at this
  rw [scrB]
  simp only [e1, e2, e3, this, e6, Bool.and_self]
theorem scr_roll {s : Sc} {c : Cont} (n : Int) (h : scrB s c = true) : scrB s (rollC s c n) = true := by
  obtain ⟨e1, e2, e3, e4, e5⟩ := scr_grids h
  obtain ⟨⟨u1, u2, u3, u4⟩, _, ⟨v1, v2, v3⟩, _⟩ := scr_nums h
  unfold rollC
  split
  · exact scr_of h e1 (roL_ok n e2 v1 v3 (by omega)) e3 rfl rfl e5
  · exact scr_of h (roL_ok n e1 v1 v3 (by omega)) e2 e3 rfl rfl e5
theorem scr_move {s : Sc} {c : Cont} {x y : Int} (h : scrB s c = true) (hx : 0 ≤ x ∧ x < s.W) (hy : 0 ≤ y ∧ y < s.H) : scrB { s with X := x, Y := y, wrap := false } c = true := by
  obtain ⟨e1, e2, e3, e4, e5⟩ := scr_grids h
  refine scr_of h e1 e2 ?_ rfl rfl e5
  have := of_decide_eq_true e3
  exact decide_eq_true ⟨this.1, ⟨hx.1, hx.2, hy.1, hy.2⟩, fun h => by simp at h, this.2.2.2⟩
theorem scr_downC {s : Sc} {c : Cont} (h : scrB s c = true) : scrB s (downC s c) = true := by
  unfold downC
  split
  · exact scr_roll 1 (scr_keep h)
  · exact h
/-- The screen when the rune is written: a line on, where the cursor waits at the end of one. -/
def rS1 (s : Sc) : Sc := if s.wrap = true then { downS s with X := 0 } else s
def rC1 (s : Sc) (c : Cont) : Cont := if s.wrap = true then downC s c else c
theorem scr_r1 {s : Sc} {c : Cont} (h : scrB s c = true) : scrB (rS1 s) (rC1 s c) = true := by
  unfold rS1 rC1
  split
  · obtain ⟨_, ⟨x1, x2, y1, y2⟩, _, _⟩ := scr_nums h
    have hy : 0 ≤ (downS s).Y ∧ (downS s).Y < s.H := by
      unfold downS
      simp only
      split
      · omega
      · split <;> omega
    have := scr_move (x := 0) (scr_downC h) (by omega) hy
    exact this
  · exact h
/-- The cell set. -/
def putC (t : Sc) (c : Cont) (r : Int) : Cont :=
  if t.onA = true then { c with a := c.a.set (t.Y.toNat * t.W.toNat + t.X.toNat) (r, t.A) } else { c with m := c.m.set (t.Y.toNat * t.W.toNat + t.X.toNat) (r, t.A) }
def runS (t : Sc) : Sc := if t.X = t.W - 1 then { t with wrap := !t.noWrap } else { t with X := t.X + 1 }
def ruS (s : Sc) (r : Int) : Sc := if showsB r = true then runS (rS1 s) else s
def ruC (s : Sc) (c : Cont) (r : Int) : Cont := if showsB r = true then putC (rS1 s) (rC1 s c) r else c
theorem ru_tot {s : Sc} {c : Cont} (r : Int) (h : scrB s c = true) : cTot (ruC s c r) ≤ 1048576 := by
  unfold ruC
  split
  · have h1 := scr_tot (scr_r1 h)
    have : cTot (putC (rS1 s) (rC1 s c) r) = cTot (rC1 s c) := by
      unfold putC
      split <;> simp [cTot]
    rw [this]
    exact h1
  · exact scr_tot h
theorem cell_ok {s : Sc} {c : Cont} {r : Int} (h : scrB s c = true) (hr : showsB r = true) : cellB (r, s.A) = true := by
  have := of_decide_eq_true (scr_grids h).2.2.1
  rw [cellB, hr, this.2.2.2.2.1.1]
  rfl
theorem place_lt {W H : Int} {cs : List Cl} {x y : Int} (h : gridB W H cs = true) (hx : 0 ≤ x ∧ x < W) (hy : 0 ≤ y ∧ y < H) : y.toNat * W.toNat + x.toNat < cs.length ∧ y.toNat * W.toNat + W.toNat ≤ cs.length := by
  obtain ⟨⟨a1, a2⟩, ⟨b1, b2⟩, _, f⟩ := grid_len h
  obtain ⟨a, rfl⟩ := Int.eq_ofNat_of_zero_le (show 0 ≤ W by omega)
  obtain ⟨b, rfl⟩ := Int.eq_ofNat_of_zero_le (show 0 ≤ H by omega)
  obtain ⟨j, rfl⟩ := Int.eq_ofNat_of_zero_le hx.1
  obtain ⟨k, rfl⟩ := Int.eq_ofNat_of_zero_le hy.1
  have hf : cs.length = a * b := by rw [← Int.natCast_mul] at f; exact Int.ofNat_inj.1 f
  simp only [Int.toNat_natCast]
  have m3 : (k + 1) * a ≤ b * a := Nat.mul_le_mul_right a (by omega)
  rw [Nat.add_mul, Nat.one_mul] at m3
  have m4 : b * a = a * b := Nat.mul_comm _ _
  omega
theorem fi_one {cs : List Cl} {a j k : Nat} {cl : Cl} (hj : j < a) : fiL cs a (j : Int) (k : Int) 1 1 cl = cs.set (k * a + j) cl := by
  apply List.ext_getElem?
  intro i
  by_cases hi : i < cs.length
  · rw [fiL, upd_get hi, if_pos ⟨Nat.zero_le _, hi⟩, List.getElem?_set]
    by_cases he : k * a + j = i
    · have h1 : i % a = j := by rw [← he, Nat.mul_comm, Nat.mul_add_mod, Nat.mod_eq_of_lt hj]
      have h2 : i / a = k := by rw [← he, Nat.mul_comm, Nat.mul_add_div (by omega), Nat.div_eq_of_lt hj, Nat.add_zero]
      rw [if_pos he, if_pos (by omega), fiF, if_pos]
      rw [fiIn, h1, h2]
      exact decide_eq_true (by omega)
    · rw [if_neg he, fiF, if_neg, List.getD_eq_getElem?_getD, List.getElem?_eq_getElem hi]
      · rfl
      · intro hin
        have := of_decide_eq_true hin
        have h1 : i % a = j := by omega
        have h2 : i / a = k := by omega
        have h3 := Nat.div_add_mod i a
        rw [h1, h2, Nat.mul_comm] at h3
        exact he h3
  · rw [List.getElem?_eq_none (by rw [fiL, upd_len]; omega), List.getElem?_eq_none (by simp; omega)]
theorem fi_put {W H : Int} {cs : List Cl} {x y : Int} {cl : Cl} (h : gridB W H cs = true) (hc : cellB cl = true) (hx : 0 ≤ x ∧ x < W) (hy : 0 ≤ y ∧ y < H) : fiR W H cs x y 1 1 cl = (W, H, cs.set (y.toNat * W.toNat + x.toNat) cl) := by
  obtain ⟨⟨a1, a2⟩, ⟨b1, b2⟩, _, _⟩ := grid_len h
  have e1 : smB x = true := decide_eq_true (by omega)
  have e2 : smB y = true := decide_eq_true (by omega)
  rw [fiR, if_pos ⟨h, hc, e1, e2, by decide, by decide⟩]
  obtain ⟨a, rfl⟩ := Int.eq_ofNat_of_zero_le (show 0 ≤ W by omega)
  obtain ⟨j, rfl⟩ := Int.eq_ofNat_of_zero_le hx.1
  obtain ⟨k, rfl⟩ := Int.eq_ofNat_of_zero_le hy.1
  rw [Int.toNat_natCast, Int.toNat_natCast, Int.toNat_natCast, fi_one (by omega)]

set_option linter.unusedVariables false
set_option maxRecDepth 100000

theorem set_x (s : Sc) (M A : Rw) (T : Ti) (B : Tr) (x : Int) : (sC s M A T B).setIfInBounds 9 (.int .i64 x) = sC { s with X := x } M A T B := by
  unfold sC
  simp only [List.setIfInBounds_toArray, List.set_cons_succ, List.set_cons_zero]
set_option maxHeartbeats 8000000 in
theorem rune_no (s : Sc) (M A : Rw) (T : Ti) (B : Tr) (c : Cont) (r : Int) (w : World) (hr_ : Sr w M A T B) (hz : Sz M A T B 1048576) (hh : Hid (Holds M A T B c)) (hr : showsB r = false) :
    Calls Try.prog 45 #[sV s M A T B, .int .i64 r] w (ScrRead w (chS s c (ruS s r)) (chC s c (ruC s c r))) := by
  have hno := Lib.hid (fun h => ch_no (s := s) (c := c) h (ruS s r) (ruC s c r))
  have hyes := Lib.hid (fun h => ch_yes (s := s) (c := c) h (ruS s r) (ruC s c r))
  obtain ⟨rs, hrs⟩ : ∃ x', Hid (x' = chS s c (ruS s r)) := ⟨_, Lib.hid rfl⟩
  obtain ⟨rc, hrc⟩ : ∃ x', Hid (x' = chC s c (ruC s c r)) := ⟨_, Lib.hid rfl⟩
  rw [← hrs.out, ← hrc.out] at hno hyes ⊢
  have t0 : Below w.heap.size w ((w.alloc (.cells (sC s M A T B) 49)).alloc (.cells zC 49)) := bel2 _ _ _
  have b0 : ((w.alloc (.cells (sC s M A T B) 49)).alloc (.cells zC 49)).heap[w.heap.size]? = some (.cells (sC s M A T B) 49 (0, 0)) := heap_alloc_of _ (heap_alloc_new _ _)
  have z0 : ((w.alloc (.cells (sC s M A T B) 49)).alloc (.cells zC 49)).heap[w.heap.size + 1]? = some (.cells zC 49 (0, 0)) := hat2 _ _ _
  go_enter Try.func45, Try.ntmps45
  go_wp2_with (first | (refine wpList_load_row rfl 49 _ rfl (w.heap.size) rfl 49 (sC s M A T B) (0, 0) _ b0 Try.underlying49 rfl size_scr ?_))
  refine (scrOk_spec s M A T B _ (hr_.below t0) hz).mono ?_
  rw [hh.out.eq]
  rintro e w1 ⟨he, hb1⟩
  have b1 := (hb1.block _ (Array.getElem?_eq_some_iff.1 b0).1).trans b0
  have z1 := (hb1.block _ (Array.getElem?_eq_some_iff.1 z0).1).trans z0
  have zz1 := (Array.getElem?_eq_some_iff.1 z1).1
  have t1 := t0.trans (hb1.mono t0.size)
  clear b0 z0
  cases hq : scrB s c with
  | false =>
    obtain ⟨e1, e2⟩ := hno.out hq
    subst e1 e2
    rw [hq] at he
    subst he
    clear hq hno hyes hrs hrc
    go_wp2_with (first | (refine wp_store_blk rfl 49 _ _ rfl (w.heap.size + 1) zC rfl rfl 49 zC z1 size_scr rfl (by simp [Value.oneCell']) ?_; intro w7 B7 C7 z7))
    refine bodyPost_ret (results_cell_row Try.results45 _ _ (w.heap.size + 1) 49 zC (0, 0) _ rfl B7 Try.underlying49 rfl size_scr) rfl ?_
    exact read_nil (t1.trans (C7.below (fun k hk => by simp at hk; omega) (by omega)))
  | true =>
    obtain ⟨e1, e2⟩ := hyes.out hq
    have E1 := Lib.hid e1
    clear e1
    have E2 := Lib.hid e2
    clear e2
    have hq' : scrB s ⟨M.2.2, A.2.2, T.2.2, rcs B.2.2⟩ = true := by rw [hh.out.eq]; exact hq
    obtain ⟨⟨d1, d2⟩, d3, d4⟩ := scr_dims hq
    rw [hq] at he
    subst he
    have HQ := Lib.hid hq'
    have HQQ := Lib.hid hq
    clear hq hno hyes hrs hrc hq'
    go_wp2_with (first | (refine wpList_load_row rfl 49 _ rfl (w.heap.size) rfl 49 (sC s M A T B) (0, 0) _ b1 Try.underlying49 rfl size_scr ?_))
    refine (l09Copy_any s M A T B _ (hr_.below t1) hz HQ.out).mono ?_
    rw [hh.out.eq]
    rintro e w2 ⟨M2, A2, T2, B2, rfl, hh2, ho2, hb2⟩
    have b2 := (hb2.block _ (Array.getElem?_eq_some_iff.1 b1).1).trans b1
    have z2 := (hb2.block _ (Array.getElem?_eq_some_iff.1 z1).1).trans z1
    have zz2 := (Array.getElem?_eq_some_iff.1 z2).1
    have x2 := hb2.size
    have t2 := t1.trans (hb2.mono t1.size)
    clear b1 z1
    have n1 : ¬ w2.heap.size = w.heap.size := by omega
    have n2 : ¬ w.heap.size = w2.heap.size := by omega
    have F1 : Hid (rs = s) := E1.out.trans (if_neg (by rw [hr]; simp))
    have F2 : Hid (rc = c) := E2.out.trans (if_neg (by rw [hr]; simp))
    go_wp2_with (first | (refine wp_store_blk rfl 49 _ _ rfl w2.heap.size (sC s M2 A2 T2 B2) rfl rfl 49 zC (heap_alloc_new _ _) size_scr rfl (sC_one s M2 A2 T2 B2) ?_; intro w3 b3 k3 zz3; have h3 : Below w2.heap.size w2 w3 := ((Below.refl _ _).alloc (Nat.le_refl _) _).trans (k3.below (fun k hk => by simp at hk; omega) (by simp)); have z3 := (h3.block _ zz2).trans z2) | (go_at_call 107; refine (shows_spec r _).mono ?_; rintro e w' ⟨he, hw⟩; rw [hr] at he; subst he hw) | (refine wpList_load_row rfl 49 _ rfl (w2.heap.size) rfl 49 (sC s M2 A2 T2 B2) (0, 0) _ b3 Try.underlying49 rfl size_scr ?_) | (refine wp_store_blk rfl 49 _ _ rfl (w.heap.size + 1) (sC s M2 A2 T2 B2) rfl rfl 49 zC z3 size_scr rfl (sC_one _ _ _ _ _) ?_; intro w9 B9 C9 z9))
    refine bodyPost_ret (results_cell_row Try.results45 _ _ (w.heap.size + 1) 49 (sC s M2 A2 T2 B2) (0, 0) _ rfl B9 Try.underlying49 rfl size_scr) rfl ?_
    rw [F1.out, F2.out]
    have y1 := t1.size
    have y3 := h3.size
    have t3 := t2.trans (h3.mono t2.size)
    exact ⟨M2, A2, T2, B2, rfl, hh2, (Wk.of_so ((ho2.below h3 (Nat.le_refl _)).chg C9 (fun k hk hm => by have := (ho2.lt hk).1; simp at hm; omega))).mono (by omega), t3.trans (C9.below (fun k hk => by simp at hk; omega) (by omega))⟩
set_option maxHeartbeats 8000000 in
theorem rune_a (s : Sc) (M A : Rw) (T : Ti) (B : Tr) (c : Cont) (r : Int) (w : World) (hr_ : Sr w M A T B) (hz : Sz M A T B 1048576) (hh : Hid (Holds M A T B c)) (hr : showsB r = true) (hw0 : s.wrap = false) :
    Calls Try.prog 45 #[sV s M A T B, .int .i64 r] w (ScrRead w (chS s c (ruS s r)) (chC s c (ruC s c r))) := by
  have hno := Lib.hid (fun h => ch_no (s := s) (c := c) h (ruS s r) (ruC s c r))
  have hyes := Lib.hid (fun h => ch_yes (s := s) (c := c) h (ruS s r) (ruC s c r))
  obtain ⟨rs, hrs⟩ : ∃ x', Hid (x' = chS s c (ruS s r)) := ⟨_, Lib.hid rfl⟩
  obtain ⟨rc, hrc⟩ : ∃ x', Hid (x' = chC s c (ruC s c r)) := ⟨_, Lib.hid rfl⟩
  rw [← hrs.out, ← hrc.out] at hno hyes ⊢
  have t0 : Below w.heap.size w ((w.alloc (.cells (sC s M A T B) 49)).alloc (.cells zC 49)) := bel2 _ _ _
  have b0 : ((w.alloc (.cells (sC s M A T B) 49)).alloc (.cells zC 49)).heap[w.heap.size]? = some (.cells (sC s M A T B) 49 (0, 0)) := heap_alloc_of _ (heap_alloc_new _ _)
  have z0 : ((w.alloc (.cells (sC s M A T B) 49)).alloc (.cells zC 49)).heap[w.heap.size + 1]? = some (.cells zC 49 (0, 0)) := hat2 _ _ _
  go_enter Try.func45, Try.ntmps45
  go_wp2_with (first | (refine wpList_load_row rfl 49 _ rfl (w.heap.size) rfl 49 (sC s M A T B) (0, 0) _ b0 Try.underlying49 rfl size_scr ?_))
  refine (scrOk_spec s M A T B _ (hr_.below t0) hz).mono ?_
  rw [hh.out.eq]
  rintro e w1 ⟨he, hb1⟩
  have b1 := (hb1.block _ (Array.getElem?_eq_some_iff.1 b0).1).trans b0
  have z1 := (hb1.block _ (Array.getElem?_eq_some_iff.1 z0).1).trans z0
  have zz1 := (Array.getElem?_eq_some_iff.1 z1).1
  have t1 := t0.trans (hb1.mono t0.size)
  clear b0 z0
  cases hq : scrB s c with
  | false =>
    obtain ⟨e1, e2⟩ := hno.out hq
    subst e1 e2
    rw [hq] at he
    subst he
    clear hq hno hyes hrs hrc
    go_wp2_with (first | (refine wp_store_blk rfl 49 _ _ rfl (w.heap.size + 1) zC rfl rfl 49 zC z1 size_scr rfl (by simp [Value.oneCell']) ?_; intro w7 B7 C7 z7))
    refine bodyPost_ret (results_cell_row Try.results45 _ _ (w.heap.size + 1) 49 zC (0, 0) _ rfl B7 Try.underlying49 rfl size_scr) rfl ?_
    exact read_nil (t1.trans (C7.below (fun k hk => by simp at hk; omega) (by omega)))
  | true =>
    obtain ⟨e1, e2⟩ := hyes.out hq
    have E1 := Lib.hid e1
    clear e1
    have E2 := Lib.hid e2
    clear e2
    have hq' : scrB s ⟨M.2.2, A.2.2, T.2.2, rcs B.2.2⟩ = true := by rw [hh.out.eq]; exact hq
    obtain ⟨⟨d1, d2⟩, d3, d4⟩ := scr_dims hq
    rw [hq] at he
    subst he
    have HQ := Lib.hid hq'
    have HQQ := Lib.hid hq
    clear hq hno hyes hrs hrc hq'
    go_wp2_with (first | (refine wpList_load_row rfl 49 _ rfl (w.heap.size) rfl 49 (sC s M A T B) (0, 0) _ b1 Try.underlying49 rfl size_scr ?_))
    refine (l09Copy_any s M A T B _ (hr_.below t1) hz HQ.out).mono ?_
    rw [hh.out.eq]
    rintro e w2 ⟨M2, A2, T2, B2, rfl, hh2, ho2, hb2⟩
    have b2 := (hb2.block _ (Array.getElem?_eq_some_iff.1 b1).1).trans b1
    have z2 := (hb2.block _ (Array.getElem?_eq_some_iff.1 z1).1).trans z1
    have zz2 := (Array.getElem?_eq_some_iff.1 z2).1
    have x2 := hb2.size
    have t2 := t1.trans (hb2.mono t1.size)
    clear b1 z1
    have n1 : ¬ w2.heap.size = w.heap.size := by omega
    have n2 : ¬ w.heap.size = w2.heap.size := by omega
    obtain ⟨t, ht⟩ : ∃ t, Hid (t = rS1 s) := ⟨_, Lib.hid rfl⟩
    obtain ⟨c1, hc1⟩ : ∃ c1, Hid (c1 = rC1 s c) := ⟨_, Lib.hid rfl⟩
    have F1 : Hid (rs = runS t) := by show _ = _; rw [E1.out, ht.out]; exact if_pos hr
    have F2 : Hid (rc = putC t c1 r) := by show _ = _; rw [E2.out, ht.out, hc1.out]; exact if_pos hr
    have ht1 : t = s := by rw [ht.out]; exact if_neg (by rw [hw0]; simp)
    have hc2 : c1 = c := by rw [hc1.out]; exact if_neg (by rw [hw0]; simp)
    have HT1 := Lib.hid ht1
    have HC2 := Lib.hid hc2
    have HW0 := Lib.hid hw0
    clear ht1 hc2 hw0
    go_wp2_with (first | (refine wp_store_blk rfl 49 _ _ rfl w2.heap.size (sC s M2 A2 T2 B2) rfl rfl 49 zC (heap_alloc_new _ _) size_scr rfl (sC_one s M2 A2 T2 B2) ?_; intro w3 b3 k3 zz3; have h3 : Below w2.heap.size w2 w3 := ((Below.refl _ _).alloc (Nat.le_refl _) _).trans (k3.below (fun k hk => by simp at hk; omega) (by simp)); have z3 := (h3.block _ zz2).trans z2; have q11 : w3.cell? ⟨w2.heap.size, 11, none⟩ = some (.bool false) := (by rw [cell_of_row w3 _ 11 _ _ (0, 0) b3]; show some (Value.bool s.wrap) = _; rw [HW0.out]); have r11 : w3.frozen? ⟨w2.heap.size, 11, none⟩ = false := frz b3 11) | (go_at_call 107; refine (shows_spec r _).mono ?_; rintro e w' ⟨he, hw⟩; rw [hr] at he; subst he hw))
    have HLO : Hid (w.heap.size + 1 < w1.heap.size ∧ w1.heap.size ≤ w2.heap.size ∧ w2.heap.size < w3.heap.size) := ⟨zz1, hb2.size, (Array.getElem?_eq_some_iff.1 b3).1⟩
    have HWK0 : Hid (Wk w3 w1.heap.size M2 A2 T2 B2) := Wk.of_so (ho2.below h3 (Nat.le_refl _))
    have HNG0 : Hid (∀ k, some k ∈ sft M2 A2 T2 B2 → k ≠ w2.heap.size ∧ k ≠ w.heap.size + 1) := fun k hk => by have := ho2.lt hk; omega
    have HTV0 : Hid (Below w.heap.size w w3) := t2.trans (h3.mono t2.size)
    obtain ⟨M3, hM3⟩ : ∃ x, x = M2 := ⟨_, rfl⟩
    obtain ⟨A3, hA3⟩ : ∃ x, x = A2 := ⟨_, rfl⟩
    obtain ⟨T3, hT3⟩ : ∃ x, x = T2 := ⟨_, rfl⟩
    obtain ⟨B3, hB3⟩ : ∃ x, x = B2 := ⟨_, rfl⟩
    have bO : w3.heap[w2.heap.size]? = some (.cells (sC t M3 A3 T3 B3) 49 (0, 0)) := by rw [HT1.out, hM3, hA3, hT3, hB3]; exact b3
    have HH : Hid (Holds M3 A3 T3 B3 c1) := by rw [HC2.out, hM3, hA3, hT3, hB3]; exact hh2
    have HWK : Hid (Wk w3 w1.heap.size M3 A3 T3 B3) := by rw [hM3, hA3, hT3, hB3]; exact HWK0
    have HNG : Hid (∀ k, some k ∈ sft M3 A3 T3 B3 → k ≠ w2.heap.size ∧ k ≠ w.heap.size + 1) := by rw [hM3, hA3, hT3, hB3]; exact HNG0
    have HTV := HTV0
    have zO := z3
    clear q11 r11 b3 hM3 hA3 hT3 hB3 b2 z2 z3
    have HV : Hid (scrB t c1 = true) := by show _ = _; rw [ht.out, hc1.out]; exact scr_r1 HQQ.out
    obtain ⟨⟨u1, u2, u3, u4⟩, ⟨x1, x2, y1, y2⟩, _, _⟩ := scr_nums HV.out
    obtain ⟨g1, g2, _, _, _⟩ := scr_grids HV.out
    obtain ⟨pp1, pp2⟩ := grid_pos g1
    obtain ⟨pp3, pp4⟩ := grid_pos g2
    have HD : Hid ((1 ≤ t.W ∧ t.W ≤ 120) ∧ 0 ≤ t.X ∧ t.X < t.W) := ⟨(scr_dims HV.out).1, x1, x2⟩
    have hHo := HH.out
    rcases Bool.eq_false_or_eq_true t.onA with ho | ho
    ·
      obtain ⟨ns, hns⟩ : ∃ ns, Hid (ns = c1.a.set (t.Y.toNat * t.W.toNat + t.X.toNat) (r, t.A)) := ⟨_, Lib.hid rfl⟩
      have hR : fiR t.aW t.aH c1.a t.X t.Y 1 1 (r, t.A) = (t.aW, t.aH, ns) := by
        rw [fi_put g2 (cell_ok HV.out hr) (by omega) (by omega), hns.out, u3]
      have HGF : Hid (∀ w', Gs w' A3.1 A3.2.2 → Calls Try.prog 108 #[gV t.aW t.aH A3.1 A3.2.2.length A3.2.1, .int .i64 t.X, .int .i64 t.Y, .int .i64 1, .int .i64 1, cV (r, t.A)] w' (GridPost w' t.aW t.aH ns)) := fun w' hg => by
        have := gridFill_spec t.aW t.aH A3.1 A3.2.1 A3.2.2 t.X t.Y 1 1 (r, t.A) w' hg (by rw [hHo.2.1]; omega)
        rw [hHo.2.1, hR] at this
        rw [hHo.2.1]
        exact this
      have HGS : Hid (∀ w', Below w3.heap.size w3 w' → Gs w' A3.1 A3.2.2) := fun w' hb => HWK.out.sr.ga.below hb
      have HO := Lib.hid ho
      have F3 : Hid (rc = { c1 with a := ns }) := by show _ = _; rw [F2.out, hns.out]; exact if_pos ho
      clear ho hR u1 u2 u3 u4 g1 g2 pp1 pp2 pp3 pp4 hHo x1 x2 y1 y2
      refine wp_regionK (fun w' => w'.heap[w2.heap.size]? = some (.cells (sC t M3 A3 T3 B3) 49 (0, 0))) 13 (by kernel_rfl) ?_
      refine wpAnyK_take (i := 0) (v := sV t M3 A3 T3 B3) rfl (by kernel_rfl) (by kernel_rfl) (by kernel_rfl) (fun _ _ _ h => h) (by kernel_rfl) (by kernel_rfl) (by decide) (yields_row (by rfl) 49 _ rfl (w2.heap.size) rfl 49 (sC t M3 A3 T3 B3) (0, 0) _ (fun _ h => h) Try.underlying49 rfl size_scr) (bO) ?_
      try simp only [Act.put, List.getElem_toArray, List.getElem_cons_zero, List.setIfInBounds_toArray, List.set_cons_zero, List.set_cons_succ]
      refine wpAnyK_take (i := 1) (v := sV t M3 A3 T3 B3) rfl (by kernel_rfl) (by kernel_rfl) (by kernel_rfl) (fun _ _ _ h => h) (by kernel_rfl) (by kernel_rfl) (by decide) (yields_row (by rfl) 49 _ rfl (w2.heap.size) rfl 49 (sC t M3 A3 T3 B3) (0, 0) _ (fun _ h => h) Try.underlying49 rfl size_scr) (bO) ?_
      try simp only [Act.put, List.getElem_toArray, List.getElem_cons_succ, List.getElem_cons_zero, List.setIfInBounds_toArray, List.set_cons_zero, List.set_cons_succ]
      refine wpAnyK_free (i := 3) (v := .pointer (some ⟨w2.heap.size, 9, none⟩)) rfl (by kernel_rfl) (by kernel_rfl) (by kernel_rfl) (fun _ _ _ h => h) (by decide) (Or.inl ⟨by rfl, (by intro w' _; go_simp; try first | rfl | (simp [*, Addr.add_lit]; done))⟩) (fun _ => bO) ?_
      try simp only [Act.put, List.getElem_toArray, List.getElem_cons_succ, List.getElem_cons_zero, List.setIfInBounds_toArray, List.set_cons_zero, List.set_cons_succ]
      refine wpAnyK_take (i := 4) (v := .int .i64 t.X) rfl (by kernel_rfl) (by kernel_rfl) (by kernel_rfl) (fun _ _ _ h => h) (by kernel_rfl) (by kernel_rfl) (by decide) (Or.inl ⟨by rfl, (by intro w' hSw; have q : ∀ i, w'.cell? ⟨w2.heap.size, i, none⟩ = _ := fun i => cell_of_row w' _ i _ _ (0, 0) hSw; go_simp; try first | rfl | simp [q])⟩) (bO) ?_
      try simp only [Act.put, List.getElem_toArray, List.getElem_cons_succ, List.getElem_cons_zero, List.setIfInBounds_toArray, List.set_cons_zero, List.set_cons_succ]
      refine wpAnyK_free (i := 5) (v := .pointer (some ⟨w2.heap.size, 10, none⟩)) rfl (by kernel_rfl) (by kernel_rfl) (by kernel_rfl) (fun _ _ _ h => h) (by decide) (Or.inl ⟨by rfl, (by intro w' _; go_simp; try first | rfl | (simp [*, Addr.add_lit]; done))⟩) (fun _ => bO) ?_
      try simp only [Act.put, List.getElem_toArray, List.getElem_cons_succ, List.getElem_cons_zero, List.setIfInBounds_toArray, List.set_cons_zero, List.set_cons_succ]
      refine wpAnyK_take (i := 6) (v := .int .i64 t.Y) rfl (by kernel_rfl) (by kernel_rfl) (by kernel_rfl) (fun _ _ _ h => h) (by kernel_rfl) (by kernel_rfl) (by decide) (Or.inl ⟨by rfl, (by intro w' hSw; have q : ∀ i, w'.cell? ⟨w2.heap.size, i, none⟩ = _ := fun i => cell_of_row w' _ i _ _ (0, 0) hSw; go_simp; try first | rfl | simp [q])⟩) (bO) ?_
      try simp only [Act.put, List.getElem_toArray, List.getElem_cons_succ, List.getElem_cons_zero, List.setIfInBounds_toArray, List.set_cons_zero, List.set_cons_succ]
      refine wpAnyK_free (i := 7) (v := .int .i64 r) rfl (by kernel_rfl) (by kernel_rfl) (by kernel_rfl) (fun _ _ _ h => h) (by decide) (Or.inl ⟨by rfl, (by intro w' _; go_simp; try first | rfl | (simp [*, Addr.add_lit]; done))⟩) (fun _ => bO) ?_
      try simp only [Act.put, List.getElem_toArray, List.getElem_cons_succ, List.getElem_cons_zero, List.setIfInBounds_toArray, List.set_cons_zero, List.set_cons_succ]
      refine wpAnyK_free (i := 8) (v := .pointer (some ⟨w2.heap.size, 12, none⟩)) rfl (by kernel_rfl) (by kernel_rfl) (by kernel_rfl) (fun _ _ _ h => h) (by decide) (Or.inl ⟨by rfl, (by intro w' _; go_simp; try first | rfl | (simp [*, Addr.add_lit]; done))⟩) (fun _ => bO) ?_
      try simp only [Act.put, List.getElem_toArray, List.getElem_cons_succ, List.getElem_cons_zero, List.setIfInBounds_toArray, List.set_cons_zero, List.set_cons_succ]
      refine wpAnyK_take (i := 9) (v := .agg #[.int .i64 t.A.1, .int .i64 t.A.2.1, .bool t.A.2.2.1, .bool t.A.2.2.2.1, .bool t.A.2.2.2.2]) rfl (by kernel_rfl) (by kernel_rfl) (by kernel_rfl) (fun _ _ _ h => h) (by kernel_rfl) (by kernel_rfl) (by decide) (Or.inl ⟨by rfl, (by intro w' hSw; have q : ∀ i, w'.cell? ⟨w2.heap.size, i, none⟩ = _ := fun i => cell_of_row w' _ i _ _ (0, 0) hSw; go_simp; try first | rfl | simp [q])⟩) (bO) ?_
      try simp only [Act.put, List.getElem_toArray, List.getElem_cons_succ, List.getElem_cons_zero, List.setIfInBounds_toArray, List.set_cons_zero, List.set_cons_succ]
      refine wpAnyK_free (i := 10) (v := cV (r, t.A)) rfl (by kernel_rfl) (by kernel_rfl) (by kernel_rfl) (fun _ _ _ h => h) (by decide) (Or.inl ⟨by rfl, (by intro w' _; go_simp; try first | rfl | (simp [*, Addr.add_lit]; done))⟩) (fun _ => bO) ?_
      try simp only [Act.put, List.getElem_toArray, List.getElem_cons_succ, List.getElem_cons_zero, List.setIfInBounds_toArray, List.set_cons_zero, List.set_cons_succ]
      refine wpAnyK_ready (rs := [2]) (by kernel_rfl) (by simp) ?_
      refine AllReadyK.cons rfl (fun K hK => ?_) AllReadyK.nil
      go_simp
      refine (l09Shown_any t M3 A3 T3 B3 _).mono ?_
      rintro e v4 ⟨he, hb4⟩
      rw [if_pos HO.out] at he
      subst he
      have hb4' : Below w3.heap.size w3 v4 := (Below.refl _ _).drew.trans hb4
      have y4 := hb4'.size
      have bO4 := (hb4.block _ (Array.getElem?_eq_some_iff.1 bO).1).trans bO
      have zO4 := (hb4.block _ (Array.getElem?_eq_some_iff.1 zO).1).trans zO
      refine hK.out _ _ (fun _ => bO4) ?_
      clear hK K
      try simp only [Act.put, List.getElem_toArray, List.getElem_cons_succ, List.getElem_cons_zero, List.setIfInBounds_toArray, List.set_cons_zero, List.set_cons_succ]
      refine wpAnyK_ready (rs := [11]) (by kernel_rfl) (by simp) ?_
      refine AllReadyK.cons rfl (fun K hK => ?_) AllReadyK.nil
      go_simp
      refine (HGF.out _ (HGS.out _ hb4')).mono ?_
      rintro e v5 ⟨G, gc, rfl, og5, _, _, hb5⟩
      have bO5 := (hb5.block _ (Array.getElem?_eq_some_iff.1 bO4).1).trans bO4
      have zO5 := (hb5.block _ (Array.getElem?_eq_some_iff.1 zO4).1).trans zO4
      have y5 := hb5.size
      refine hK.out _ _ (fun _ => bO5) ?_
      clear hK K
      try simp only [Act.put, List.getElem_toArray, List.getElem_cons_succ, List.getElem_cons_zero, List.setIfInBounds_toArray, List.set_cons_zero, List.set_cons_succ]
      refine wpAnyK_ready (rs := [12]) (by kernel_rfl) (by simp) ?_
      refine AllReadyK.cons rfl (fun K hK => ?_) AllReadyK.nil
      go_simp
      refine (l09Put_alt t M3 A3 T3 B3 G ns.length gc ns t.aW t.aH _ rfl HO.out).mono ?_
      rintro e v6 ⟨rfl, hb6⟩
      have bO6 := (hb6.block _ (Array.getElem?_eq_some_iff.1 bO5).1).trans bO5
      have zO6 := (hb6.block _ (Array.getElem?_eq_some_iff.1 zO5).1).trans zO5
      have y6 := hb6.size
      refine hK.out _ _ (fun _ => bO6) ?_
      clear hK K
      try simp only [Act.put, List.getElem_toArray, List.getElem_cons_succ, List.getElem_cons_zero, List.setIfInBounds_toArray, List.set_cons_zero, List.set_cons_succ]
      refine wpAnyK_ready (rs := [13]) (by kernel_rfl) (by simp) ?_
      refine AllReadyK.cons rfl (fun K hK => ?_) AllReadyK.nil
      rw [if_pos (by rfl)]
      refine wp_store_blkO 49 _ _ rfl w2.heap.size (sC t M3 (G, gc, ns) T3 B3) rfl rfl 49 (sC t M3 A3 T3 B3) bO6 size_scr rfl (sC_one _ _ _ _ _) ?_
      intro w7 b7 C7 s7
      refine hK.out _ _ (late (by kernel_rfl)) ?_
      clear hK K
      try simp only [Act.put, List.getElem_toArray, List.getElem_cons_succ, List.getElem_cons_zero]
      refine wpAnyK_done (by kernel_rfl) ?_ _
      have z7 := (keep_chg C7 zO6 (by intro hm; simp at hm; omega)).1
      have q7 : ∀ i, w7.cell? ⟨w2.heap.size, i, none⟩ = _ := fun i => cell_of_row w7 _ i _ _ (0, 0) b7
      have r7 : ∀ i, w7.frozen? ⟨w2.heap.size, i, none⟩ = false := frz b7
      have s46 : Below w3.heap.size w3 v6 := hb4'.trans ((hb5.mono hb4'.size).trans (hb6.mono (Nat.le_trans hb4'.size hb5.size)))
      have zg6 := (Array.getElem?_eq_some_iff.1 bO4).1
      have K7 : Hid (Wk w7 w1.heap.size M3 (G, gc, ns) T3 B3) := ((HWK.out.below s46 (Nat.le_refl _)).chg C7 (fun k hk hm => by have := HNG.out k hk; simp at hm; omega)).newA ((og5.below hb6 (Nat.le_refl _)).chg C7 (fun k hk hm => by have := (og5.ob_lt hk).1; simp at hm; omega)).gs (fun k hk => by have := og5.ob_lt hk; have := HLO.out; omega)
      have N7 : Hid (∀ k, some k ∈ sft M3 (G, gc, ns) T3 B3 → k ≠ w2.heap.size ∧ k ≠ w.heap.size + 1) := fun k hk => (sft_putA hk).elim (fun h => by have := (og5.ob_lt h).1; have := HLO.out; omega) (HNG.out k)
      have T7 : Hid (Below w.heap.size w w7) := (HTV.out.trans (s46.mono (by have := HTV.out.size; omega))).trans (C7.below (fun k hk => by simp at hk; have := HLO.out; omega) (by have := HLO.out; omega))
      have HH7 : Hid (Holds M3 (G, gc, ns) T3 B3 rc) := by
        rw [F3.out]
        exact ⟨HH.out.1, rfl, HH.out.2.2.1, HH.out.2.2.2⟩
      have Z7 := Lib.hid s7
      have HZ7 := Lib.hid z7
      clear bO bO4 bO5 bO6 zO zO4 zO5 zO6 z7
      by_cases hx : t.X = t.W - 1
      · have FS : Hid (rs = { t with wrap := !t.noWrap }) := F1.out.trans (if_pos hx)
        have ew : IntKind.i64.wrap (t.W - 1) = t.W - 1 := by rw [IntKind.wrap_i64]; have := HD.out; omega
        have kx : (t.X == t.W - 1) = true := by simpa using hx
        clear hx
        go_wp2_with (first | (refine wp_store_c rfl _ _ _ rfl w2.heap.size 11 (.bool (!t.noWrap)) rfl rfl rfl (sC t M3 (G, gc, ns) T3 B3) 49 b7 (show 11 < 31 by omega) (by kernel_rfl) ?_; intro w8 b8' k8 s8; have b8 : w8.heap[w2.heap.size]? = some (.cells (sC rs M3 (G, gc, ns) T3 B3) 49 (0, 0)) := (by rw [b8', FS.out]; exact congrArg _ (congrArg (fun x => Obj.cells x 49 (0, 0)) (set_wrap t _ _ _ _ _))); have z8 := (keep_chg k8 HZ7.out (by intro hm; have := HLO.out; simp at hm; omega)).1; clear b8') | (refine wpList_load_row rfl 49 _ rfl (w2.heap.size) rfl 49 (sC rs M3 (G, gc, ns) T3 B3) (0, 0) _ b8 Try.underlying49 rfl size_scr ?_) | (refine wp_store_blk rfl 49 _ _ rfl (w.heap.size + 1) (sC rs M3 (G, gc, ns) T3 B3) rfl rfl 49 zC z8 size_scr rfl (sC_one _ _ _ _ _) ?_; intro w9 B9 C9 z9))
        refine bodyPost_ret (results_cell_row Try.results45 _ _ (w.heap.size + 1) 49 (sC rs M3 (G, gc, ns) T3 B3) (0, 0) _ rfl B9 Try.underlying49 rfl size_scr) rfl ?_
        have hlo := HLO.out
        have x9 := T7.out.size
        exact ⟨M3, (G,  gc,  ns), T3, B3, rfl, HH7.out, ((K7.out.chg k8 (fun k hk hm => by have := N7.out k hk; simp at hm; omega)).chg C9 (fun k hk hm => by have := N7.out k hk; simp at hm; omega)).mono (by omega), (T7.out.trans (k8.below (fun k hk => by simp at hk; omega) (by omega))).trans (C9.below (fun k hk => by simp at hk; omega) (by omega))⟩
      · have FS : Hid (rs = { t with X := t.X + 1 }) := F1.out.trans (if_neg hx)
        have ew : IntKind.i64.wrap (t.W - 1) = t.W - 1 := by rw [IntKind.wrap_i64]; have := HD.out; omega
        have ew2 : IntKind.i64.wrap (t.X + 1) = t.X + 1 := by rw [IntKind.wrap_i64]; have := HD.out; omega
        have kx : (t.X == t.W - 1) = false := by simpa using hx
        clear hx
        go_wp2_with (first | (refine wp_store_c rfl _ _ _ rfl w2.heap.size 9 (.int .i64 (t.X + 1)) rfl rfl rfl (sC t M3 (G, gc, ns) T3 B3) 49 b7 (show 9 < 31 by omega) (by kernel_rfl) ?_; intro w8 b8' k8 s8; have b8 : w8.heap[w2.heap.size]? = some (.cells (sC rs M3 (G, gc, ns) T3 B3) 49 (0, 0)) := (by rw [b8', FS.out]; exact congrArg _ (congrArg (fun x => Obj.cells x 49 (0, 0)) (set_x t _ _ _ _ _))); have z8 := (keep_chg k8 HZ7.out (by intro hm; have := HLO.out; simp at hm; omega)).1; clear b8') | (refine wpList_load_row rfl 49 _ rfl (w2.heap.size) rfl 49 (sC rs M3 (G, gc, ns) T3 B3) (0, 0) _ b8 Try.underlying49 rfl size_scr ?_) | (refine wp_store_blk rfl 49 _ _ rfl (w.heap.size + 1) (sC rs M3 (G, gc, ns) T3 B3) rfl rfl 49 zC z8 size_scr rfl (sC_one _ _ _ _ _) ?_; intro w9 B9 C9 z9))
        refine bodyPost_ret (results_cell_row Try.results45 _ _ (w.heap.size + 1) 49 (sC rs M3 (G, gc, ns) T3 B3) (0, 0) _ rfl B9 Try.underlying49 rfl size_scr) rfl ?_
        have hlo := HLO.out
        have x9 := T7.out.size
        exact ⟨M3, (G,  gc,  ns), T3, B3, rfl, HH7.out, ((K7.out.chg k8 (fun k hk hm => by have := N7.out k hk; simp at hm; omega)).chg C9 (fun k hk hm => by have := N7.out k hk; simp at hm; omega)).mono (by omega), (T7.out.trans (k8.below (fun k hk => by simp at hk; omega) (by omega))).trans (C9.below (fun k hk => by simp at hk; omega) (by omega))⟩
    ·
      obtain ⟨ns, hns⟩ : ∃ ns, Hid (ns = c1.m.set (t.Y.toNat * t.W.toNat + t.X.toNat) (r, t.A)) := ⟨_, Lib.hid rfl⟩
      have hR : fiR t.mW t.mH c1.m t.X t.Y 1 1 (r, t.A) = (t.mW, t.mH, ns) := by
        rw [fi_put g1 (cell_ok HV.out hr) (by omega) (by omega), hns.out, u1]
      have HGF : Hid (∀ w', Gs w' M3.1 M3.2.2 → Calls Try.prog 108 #[gV t.mW t.mH M3.1 M3.2.2.length M3.2.1, .int .i64 t.X, .int .i64 t.Y, .int .i64 1, .int .i64 1, cV (r, t.A)] w' (GridPost w' t.mW t.mH ns)) := fun w' hg => by
        have := gridFill_spec t.mW t.mH M3.1 M3.2.1 M3.2.2 t.X t.Y 1 1 (r, t.A) w' hg (by rw [hHo.1]; omega)
        rw [hHo.1, hR] at this
        rw [hHo.1]
        exact this
      have HGS : Hid (∀ w', Below w3.heap.size w3 w' → Gs w' M3.1 M3.2.2) := fun w' hb => HWK.out.sr.gm.below hb
      have HO := Lib.hid ho
      have F3 : Hid (rc = { c1 with m := ns }) := by show _ = _; rw [F2.out, hns.out]; exact if_neg (by rw [ho]; simp)
      clear ho hR u1 u2 u3 u4 g1 g2 pp1 pp2 pp3 pp4 hHo x1 x2 y1 y2
      refine wp_regionK (fun w' => w'.heap[w2.heap.size]? = some (.cells (sC t M3 A3 T3 B3) 49 (0, 0))) 13 (by kernel_rfl) ?_
      refine wpAnyK_take (i := 0) (v := sV t M3 A3 T3 B3) rfl (by kernel_rfl) (by kernel_rfl) (by kernel_rfl) (fun _ _ _ h => h) (by kernel_rfl) (by kernel_rfl) (by decide) (yields_row (by rfl) 49 _ rfl (w2.heap.size) rfl 49 (sC t M3 A3 T3 B3) (0, 0) _ (fun _ h => h) Try.underlying49 rfl size_scr) (bO) ?_
      try simp only [Act.put, List.getElem_toArray, List.getElem_cons_zero, List.setIfInBounds_toArray, List.set_cons_zero, List.set_cons_succ]
      refine wpAnyK_take (i := 1) (v := sV t M3 A3 T3 B3) rfl (by kernel_rfl) (by kernel_rfl) (by kernel_rfl) (fun _ _ _ h => h) (by kernel_rfl) (by kernel_rfl) (by decide) (yields_row (by rfl) 49 _ rfl (w2.heap.size) rfl 49 (sC t M3 A3 T3 B3) (0, 0) _ (fun _ h => h) Try.underlying49 rfl size_scr) (bO) ?_
      try simp only [Act.put, List.getElem_toArray, List.getElem_cons_succ, List.getElem_cons_zero, List.setIfInBounds_toArray, List.set_cons_zero, List.set_cons_succ]
      refine wpAnyK_free (i := 3) (v := .pointer (some ⟨w2.heap.size, 9, none⟩)) rfl (by kernel_rfl) (by kernel_rfl) (by kernel_rfl) (fun _ _ _ h => h) (by decide) (Or.inl ⟨by rfl, (by intro w' _; go_simp; try first | rfl | (simp [*, Addr.add_lit]; done))⟩) (fun _ => bO) ?_
      try simp only [Act.put, List.getElem_toArray, List.getElem_cons_succ, List.getElem_cons_zero, List.setIfInBounds_toArray, List.set_cons_zero, List.set_cons_succ]
      refine wpAnyK_take (i := 4) (v := .int .i64 t.X) rfl (by kernel_rfl) (by kernel_rfl) (by kernel_rfl) (fun _ _ _ h => h) (by kernel_rfl) (by kernel_rfl) (by decide) (Or.inl ⟨by rfl, (by intro w' hSw; have q : ∀ i, w'.cell? ⟨w2.heap.size, i, none⟩ = _ := fun i => cell_of_row w' _ i _ _ (0, 0) hSw; go_simp; try first | rfl | simp [q])⟩) (bO) ?_
      try simp only [Act.put, List.getElem_toArray, List.getElem_cons_succ, List.getElem_cons_zero, List.setIfInBounds_toArray, List.set_cons_zero, List.set_cons_succ]
      refine wpAnyK_free (i := 5) (v := .pointer (some ⟨w2.heap.size, 10, none⟩)) rfl (by kernel_rfl) (by kernel_rfl) (by kernel_rfl) (fun _ _ _ h => h) (by decide) (Or.inl ⟨by rfl, (by intro w' _; go_simp; try first | rfl | (simp [*, Addr.add_lit]; done))⟩) (fun _ => bO) ?_
      try simp only [Act.put, List.getElem_toArray, List.getElem_cons_succ, List.getElem_cons_zero, List.setIfInBounds_toArray, List.set_cons_zero, List.set_cons_succ]
      refine wpAnyK_take (i := 6) (v := .int .i64 t.Y) rfl (by kernel_rfl) (by kernel_rfl) (by kernel_rfl) (fun _ _ _ h => h) (by kernel_rfl) (by kernel_rfl) (by decide) (Or.inl ⟨by rfl, (by intro w' hSw; have q : ∀ i, w'.cell? ⟨w2.heap.size, i, none⟩ = _ := fun i => cell_of_row w' _ i _ _ (0, 0) hSw; go_simp; try first | rfl | simp [q])⟩) (bO) ?_
      try simp only [Act.put, List.getElem_toArray, List.getElem_cons_succ, List.getElem_cons_zero, List.setIfInBounds_toArray, List.set_cons_zero, List.set_cons_succ]
      refine wpAnyK_free (i := 7) (v := .int .i64 r) rfl (by kernel_rfl) (by kernel_rfl) (by kernel_rfl) (fun _ _ _ h => h) (by decide) (Or.inl ⟨by rfl, (by intro w' _; go_simp; try first | rfl | (simp [*, Addr.add_lit]; done))⟩) (fun _ => bO) ?_
      try simp only [Act.put, List.getElem_toArray, List.getElem_cons_succ, List.getElem_cons_zero, List.setIfInBounds_toArray, List.set_cons_zero, List.set_cons_succ]
      refine wpAnyK_free (i := 8) (v := .pointer (some ⟨w2.heap.size, 12, none⟩)) rfl (by kernel_rfl) (by kernel_rfl) (by kernel_rfl) (fun _ _ _ h => h) (by decide) (Or.inl ⟨by rfl, (by intro w' _; go_simp; try first | rfl | (simp [*, Addr.add_lit]; done))⟩) (fun _ => bO) ?_
      try simp only [Act.put, List.getElem_toArray, List.getElem_cons_succ, List.getElem_cons_zero, List.setIfInBounds_toArray, List.set_cons_zero, List.set_cons_succ]
      refine wpAnyK_take (i := 9) (v := .agg #[.int .i64 t.A.1, .int .i64 t.A.2.1, .bool t.A.2.2.1, .bool t.A.2.2.2.1, .bool t.A.2.2.2.2]) rfl (by kernel_rfl) (by kernel_rfl) (by kernel_rfl) (fun _ _ _ h => h) (by kernel_rfl) (by kernel_rfl) (by decide) (Or.inl ⟨by rfl, (by intro w' hSw; have q : ∀ i, w'.cell? ⟨w2.heap.size, i, none⟩ = _ := fun i => cell_of_row w' _ i _ _ (0, 0) hSw; go_simp; try first | rfl | simp [q])⟩) (bO) ?_
      try simp only [Act.put, List.getElem_toArray, List.getElem_cons_succ, List.getElem_cons_zero, List.setIfInBounds_toArray, List.set_cons_zero, List.set_cons_succ]
      refine wpAnyK_free (i := 10) (v := cV (r, t.A)) rfl (by kernel_rfl) (by kernel_rfl) (by kernel_rfl) (fun _ _ _ h => h) (by decide) (Or.inl ⟨by rfl, (by intro w' _; go_simp; try first | rfl | (simp [*, Addr.add_lit]; done))⟩) (fun _ => bO) ?_
      try simp only [Act.put, List.getElem_toArray, List.getElem_cons_succ, List.getElem_cons_zero, List.setIfInBounds_toArray, List.set_cons_zero, List.set_cons_succ]
      refine wpAnyK_ready (rs := [2]) (by kernel_rfl) (by simp) ?_
      refine AllReadyK.cons rfl (fun K hK => ?_) AllReadyK.nil
      go_simp
      refine (l09Shown_any t M3 A3 T3 B3 _).mono ?_
      rintro e v4 ⟨he, hb4⟩
      rw [if_neg (by rw [HO.out]; simp)] at he
      subst he
      have hb4' : Below w3.heap.size w3 v4 := (Below.refl _ _).drew.trans hb4
      have y4 := hb4'.size
      have bO4 := (hb4.block _ (Array.getElem?_eq_some_iff.1 bO).1).trans bO
      have zO4 := (hb4.block _ (Array.getElem?_eq_some_iff.1 zO).1).trans zO
      refine hK.out _ _ (fun _ => bO4) ?_
      clear hK K
      try simp only [Act.put, List.getElem_toArray, List.getElem_cons_succ, List.getElem_cons_zero, List.setIfInBounds_toArray, List.set_cons_zero, List.set_cons_succ]
      refine wpAnyK_ready (rs := [11]) (by kernel_rfl) (by simp) ?_
      refine AllReadyK.cons rfl (fun K hK => ?_) AllReadyK.nil
      go_simp
      refine (HGF.out _ (HGS.out _ hb4')).mono ?_
      rintro e v5 ⟨G, gc, rfl, og5, _, _, hb5⟩
      have bO5 := (hb5.block _ (Array.getElem?_eq_some_iff.1 bO4).1).trans bO4
      have zO5 := (hb5.block _ (Array.getElem?_eq_some_iff.1 zO4).1).trans zO4
      have y5 := hb5.size
      refine hK.out _ _ (fun _ => bO5) ?_
      clear hK K
      try simp only [Act.put, List.getElem_toArray, List.getElem_cons_succ, List.getElem_cons_zero, List.setIfInBounds_toArray, List.set_cons_zero, List.set_cons_succ]
      refine wpAnyK_ready (rs := [12]) (by kernel_rfl) (by simp) ?_
      refine AllReadyK.cons rfl (fun K hK => ?_) AllReadyK.nil
      go_simp
      refine (l09Put_main t M3 A3 T3 B3 G ns.length gc ns t.mW t.mH _ rfl HO.out).mono ?_
      rintro e v6 ⟨rfl, hb6⟩
      have bO6 := (hb6.block _ (Array.getElem?_eq_some_iff.1 bO5).1).trans bO5
      have zO6 := (hb6.block _ (Array.getElem?_eq_some_iff.1 zO5).1).trans zO5
      have y6 := hb6.size
      refine hK.out _ _ (fun _ => bO6) ?_
      clear hK K
      try simp only [Act.put, List.getElem_toArray, List.getElem_cons_succ, List.getElem_cons_zero, List.setIfInBounds_toArray, List.set_cons_zero, List.set_cons_succ]
      refine wpAnyK_ready (rs := [13]) (by kernel_rfl) (by simp) ?_
      refine AllReadyK.cons rfl (fun K hK => ?_) AllReadyK.nil
      rw [if_pos (by rfl)]
      refine wp_store_blkO 49 _ _ rfl w2.heap.size (sC t (G, gc, ns) A3 T3 B3) rfl rfl 49 (sC t M3 A3 T3 B3) bO6 size_scr rfl (sC_one _ _ _ _ _) ?_
      intro w7 b7 C7 s7
      refine hK.out _ _ (late (by kernel_rfl)) ?_
      clear hK K
      try simp only [Act.put, List.getElem_toArray, List.getElem_cons_succ, List.getElem_cons_zero]
      refine wpAnyK_done (by kernel_rfl) ?_ _
      have z7 := (keep_chg C7 zO6 (by intro hm; simp at hm; omega)).1
      have q7 : ∀ i, w7.cell? ⟨w2.heap.size, i, none⟩ = _ := fun i => cell_of_row w7 _ i _ _ (0, 0) b7
      have r7 : ∀ i, w7.frozen? ⟨w2.heap.size, i, none⟩ = false := frz b7
      have s46 : Below w3.heap.size w3 v6 := hb4'.trans ((hb5.mono hb4'.size).trans (hb6.mono (Nat.le_trans hb4'.size hb5.size)))
      have zg6 := (Array.getElem?_eq_some_iff.1 bO4).1
      have K7 : Hid (Wk w7 w1.heap.size (G, gc, ns) A3 T3 B3) := ((HWK.out.below s46 (Nat.le_refl _)).chg C7 (fun k hk hm => by have := HNG.out k hk; simp at hm; omega)).newM ((og5.below hb6 (Nat.le_refl _)).chg C7 (fun k hk hm => by have := (og5.ob_lt hk).1; simp at hm; omega)).gs (fun k hk => by have := og5.ob_lt hk; have := HLO.out; omega)
      have N7 : Hid (∀ k, some k ∈ sft (G, gc, ns) A3 T3 B3 → k ≠ w2.heap.size ∧ k ≠ w.heap.size + 1) := fun k hk => (sft_putM hk).elim (fun h => by have := (og5.ob_lt h).1; have := HLO.out; omega) (HNG.out k)
      have T7 : Hid (Below w.heap.size w w7) := (HTV.out.trans (s46.mono (by have := HTV.out.size; omega))).trans (C7.below (fun k hk => by simp at hk; have := HLO.out; omega) (by have := HLO.out; omega))
      have HH7 : Hid (Holds (G, gc, ns) A3 T3 B3 rc) := by
        rw [F3.out]
        exact ⟨rfl, HH.out.2.1, HH.out.2.2.1, HH.out.2.2.2⟩
      have Z7 := Lib.hid s7
      have HZ7 := Lib.hid z7
      clear bO bO4 bO5 bO6 zO zO4 zO5 zO6 z7
      by_cases hx : t.X = t.W - 1
      · have FS : Hid (rs = { t with wrap := !t.noWrap }) := F1.out.trans (if_pos hx)
        have ew : IntKind.i64.wrap (t.W - 1) = t.W - 1 := by rw [IntKind.wrap_i64]; have := HD.out; omega
        have kx : (t.X == t.W - 1) = true := by simpa using hx
        clear hx
        go_wp2_with (first | (refine wp_store_c rfl _ _ _ rfl w2.heap.size 11 (.bool (!t.noWrap)) rfl rfl rfl (sC t (G, gc, ns) A3 T3 B3) 49 b7 (show 11 < 31 by omega) (by kernel_rfl) ?_; intro w8 b8' k8 s8; have b8 : w8.heap[w2.heap.size]? = some (.cells (sC rs (G, gc, ns) A3 T3 B3) 49 (0, 0)) := (by rw [b8', FS.out]; exact congrArg _ (congrArg (fun x => Obj.cells x 49 (0, 0)) (set_wrap t _ _ _ _ _))); have z8 := (keep_chg k8 HZ7.out (by intro hm; have := HLO.out; simp at hm; omega)).1; clear b8') | (refine wpList_load_row rfl 49 _ rfl (w2.heap.size) rfl 49 (sC rs (G, gc, ns) A3 T3 B3) (0, 0) _ b8 Try.underlying49 rfl size_scr ?_) | (refine wp_store_blk rfl 49 _ _ rfl (w.heap.size + 1) (sC rs (G, gc, ns) A3 T3 B3) rfl rfl 49 zC z8 size_scr rfl (sC_one _ _ _ _ _) ?_; intro w9 B9 C9 z9))
        refine bodyPost_ret (results_cell_row Try.results45 _ _ (w.heap.size + 1) 49 (sC rs (G, gc, ns) A3 T3 B3) (0, 0) _ rfl B9 Try.underlying49 rfl size_scr) rfl ?_
        have hlo := HLO.out
        have x9 := T7.out.size
        exact ⟨(G,  gc,  ns), A3, T3, B3, rfl, HH7.out, ((K7.out.chg k8 (fun k hk hm => by have := N7.out k hk; simp at hm; omega)).chg C9 (fun k hk hm => by have := N7.out k hk; simp at hm; omega)).mono (by omega), (T7.out.trans (k8.below (fun k hk => by simp at hk; omega) (by omega))).trans (C9.below (fun k hk => by simp at hk; omega) (by omega))⟩
      · have FS : Hid (rs = { t with X := t.X + 1 }) := F1.out.trans (if_neg hx)
        have ew : IntKind.i64.wrap (t.W - 1) = t.W - 1 := by rw [IntKind.wrap_i64]; have := HD.out; omega
        have ew2 : IntKind.i64.wrap (t.X + 1) = t.X + 1 := by rw [IntKind.wrap_i64]; have := HD.out; omega
        have kx : (t.X == t.W - 1) = false := by simpa using hx
        clear hx
        go_wp2_with (first | (refine wp_store_c rfl _ _ _ rfl w2.heap.size 9 (.int .i64 (t.X + 1)) rfl rfl rfl (sC t (G, gc, ns) A3 T3 B3) 49 b7 (show 9 < 31 by omega) (by kernel_rfl) ?_; intro w8 b8' k8 s8; have b8 : w8.heap[w2.heap.size]? = some (.cells (sC rs (G, gc, ns) A3 T3 B3) 49 (0, 0)) := (by rw [b8', FS.out]; exact congrArg _ (congrArg (fun x => Obj.cells x 49 (0, 0)) (set_x t _ _ _ _ _))); have z8 := (keep_chg k8 HZ7.out (by intro hm; have := HLO.out; simp at hm; omega)).1; clear b8') | (refine wpList_load_row rfl 49 _ rfl (w2.heap.size) rfl 49 (sC rs (G, gc, ns) A3 T3 B3) (0, 0) _ b8 Try.underlying49 rfl size_scr ?_) | (refine wp_store_blk rfl 49 _ _ rfl (w.heap.size + 1) (sC rs (G, gc, ns) A3 T3 B3) rfl rfl 49 zC z8 size_scr rfl (sC_one _ _ _ _ _) ?_; intro w9 B9 C9 z9))
        refine bodyPost_ret (results_cell_row Try.results45 _ _ (w.heap.size + 1) 49 (sC rs (G, gc, ns) A3 T3 B3) (0, 0) _ rfl B9 Try.underlying49 rfl size_scr) rfl ?_
        have hlo := HLO.out
        have x9 := T7.out.size
        exact ⟨(G,  gc,  ns), A3, T3, B3, rfl, HH7.out, ((K7.out.chg k8 (fun k hk hm => by have := N7.out k hk; simp at hm; omega)).chg C9 (fun k hk hm => by have := N7.out k hk; simp at hm; omega)).mono (by omega), (T7.out.trans (k8.below (fun k hk => by simp at hk; omega) (by omega))).trans (C9.below (fun k hk => by simp at hk; omega) (by omega))⟩
set_option maxHeartbeats 8000000 in
theorem rune_w (s : Sc) (M A : Rw) (T : Ti) (B : Tr) (c : Cont) (r : Int) (w : World) (hr_ : Sr w M A T B) (hz : Sz M A T B 1048576) (hh : Hid (Holds M A T B c)) (hr : showsB r = true) (hw0 : s.wrap = true) :
    Calls Try.prog 45 #[sV s M A T B, .int .i64 r] w (ScrRead w (chS s c (ruS s r)) (chC s c (ruC s c r))) := by
  have hno := Lib.hid (fun h => ch_no (s := s) (c := c) h (ruS s r) (ruC s c r))
  have hyes := Lib.hid (fun h => ch_yes (s := s) (c := c) h (ruS s r) (ruC s c r))
  obtain ⟨rs, hrs⟩ : ∃ x', Hid (x' = chS s c (ruS s r)) := ⟨_, Lib.hid rfl⟩
  obtain ⟨rc, hrc⟩ : ∃ x', Hid (x' = chC s c (ruC s c r)) := ⟨_, Lib.hid rfl⟩
  rw [← hrs.out, ← hrc.out] at hno hyes ⊢
  have t0 : Below w.heap.size w ((w.alloc (.cells (sC s M A T B) 49)).alloc (.cells zC 49)) := bel2 _ _ _
  have b0 : ((w.alloc (.cells (sC s M A T B) 49)).alloc (.cells zC 49)).heap[w.heap.size]? = some (.cells (sC s M A T B) 49 (0, 0)) := heap_alloc_of _ (heap_alloc_new _ _)
  have z0 : ((w.alloc (.cells (sC s M A T B) 49)).alloc (.cells zC 49)).heap[w.heap.size + 1]? = some (.cells zC 49 (0, 0)) := hat2 _ _ _
  go_enter Try.func45, Try.ntmps45
  go_wp2_with (first | (refine wpList_load_row rfl 49 _ rfl (w.heap.size) rfl 49 (sC s M A T B) (0, 0) _ b0 Try.underlying49 rfl size_scr ?_))
  refine (scrOk_spec s M A T B _ (hr_.below t0) hz).mono ?_
  rw [hh.out.eq]
  rintro e w1 ⟨he, hb1⟩
  have b1 := (hb1.block _ (Array.getElem?_eq_some_iff.1 b0).1).trans b0
  have z1 := (hb1.block _ (Array.getElem?_eq_some_iff.1 z0).1).trans z0
  have zz1 := (Array.getElem?_eq_some_iff.1 z1).1
  have t1 := t0.trans (hb1.mono t0.size)
  clear b0 z0
  cases hq : scrB s c with
  | false =>
    obtain ⟨e1, e2⟩ := hno.out hq
    subst e1 e2
    rw [hq] at he
    subst he
    clear hq hno hyes hrs hrc
    go_wp2_with (first | (refine wp_store_blk rfl 49 _ _ rfl (w.heap.size + 1) zC rfl rfl 49 zC z1 size_scr rfl (by simp [Value.oneCell']) ?_; intro w7 B7 C7 z7))
    refine bodyPost_ret (results_cell_row Try.results45 _ _ (w.heap.size + 1) 49 zC (0, 0) _ rfl B7 Try.underlying49 rfl size_scr) rfl ?_
    exact read_nil (t1.trans (C7.below (fun k hk => by simp at hk; omega) (by omega)))
  | true =>
    obtain ⟨e1, e2⟩ := hyes.out hq
    have E1 := Lib.hid e1
    clear e1
    have E2 := Lib.hid e2
    clear e2
    have hq' : scrB s ⟨M.2.2, A.2.2, T.2.2, rcs B.2.2⟩ = true := by rw [hh.out.eq]; exact hq
    obtain ⟨⟨d1, d2⟩, d3, d4⟩ := scr_dims hq
    rw [hq] at he
    subst he
    have HQ := Lib.hid hq'
    have HQQ := Lib.hid hq
    clear hq hno hyes hrs hrc hq'
    go_wp2_with (first | (refine wpList_load_row rfl 49 _ rfl (w.heap.size) rfl 49 (sC s M A T B) (0, 0) _ b1 Try.underlying49 rfl size_scr ?_))
    refine (l09Copy_any s M A T B _ (hr_.below t1) hz HQ.out).mono ?_
    rw [hh.out.eq]
    rintro e w2 ⟨M2, A2, T2, B2, rfl, hh2, ho2, hb2⟩
    have b2 := (hb2.block _ (Array.getElem?_eq_some_iff.1 b1).1).trans b1
    have z2 := (hb2.block _ (Array.getElem?_eq_some_iff.1 z1).1).trans z1
    have zz2 := (Array.getElem?_eq_some_iff.1 z2).1
    have x2 := hb2.size
    have t2 := t1.trans (hb2.mono t1.size)
    clear b1 z1
    have n1 : ¬ w2.heap.size = w.heap.size := by omega
    have n2 : ¬ w.heap.size = w2.heap.size := by omega
    obtain ⟨t, ht⟩ : ∃ t, Hid (t = rS1 s) := ⟨_, Lib.hid rfl⟩
    obtain ⟨c1, hc1⟩ : ∃ c1, Hid (c1 = rC1 s c) := ⟨_, Lib.hid rfl⟩
    have F1 : Hid (rs = runS t) := by show _ = _; rw [E1.out, ht.out]; exact if_pos hr
    have F2 : Hid (rc = putC t c1 r) := by show _ = _; rw [E2.out, ht.out, hc1.out]; exact if_pos hr
    obtain ⟨ds, hds⟩ : ∃ x, Hid (x = downS s) := ⟨_, Lib.hid rfl⟩
    have HT1 : Hid (t = { ds with X := 0 }) := by show _ = _; rw [ht.out, hds.out]; exact if_pos hw0
    have hc2 : c1 = downC s c := by rw [hc1.out]; exact if_pos hw0
    have HDN : Hid (∀ w', So w' w1.heap.size M2 A2 T2 B2 → w2.heap.size ≤ w'.heap.size → Calls Try.prog 104 #[sV s M2 A2 T2 B2] w' (ReadPost w1.heap.size w2.heap.size w' ds c1)) := fun w' hs hl => by
      have := l09Down_any s M2 A2 T2 B2 c w1.heap.size w2.heap.size w' HQQ.out (fun k hk => (ho2.lt hk).2) hl hs hh2 (by have := hb2.size; omega)
      rwa [← hds.out, ← hc2] at this
    have HW0 := Lib.hid hw0
    clear hc2 hw0
    go_wp2_with (first | (refine wp_store_blk rfl 49 _ _ rfl w2.heap.size (sC s M2 A2 T2 B2) rfl rfl 49 zC (heap_alloc_new _ _) size_scr rfl (sC_one s M2 A2 T2 B2) ?_; intro w3 b3 k3 zz3; have h3 : Below w2.heap.size w2 w3 := ((Below.refl _ _).alloc (Nat.le_refl _) _).trans (k3.below (fun k hk => by simp at hk; omega) (by simp)); have z3 := (h3.block _ zz2).trans z2; have q11 : w3.cell? ⟨w2.heap.size, 11, none⟩ = some (.bool true) := (by rw [cell_of_row w3 _ 11 _ _ (0, 0) b3]; show some (Value.bool s.wrap) = _; rw [HW0.out]); have r11 : w3.frozen? ⟨w2.heap.size, 11, none⟩ = false := frz b3 11) | (go_at_call 107; refine (shows_spec r _).mono ?_; rintro e w' ⟨he, hw⟩; rw [hr] at he; subst he hw) | (refine wpList_load_row rfl 49 _ rfl (w2.heap.size) rfl 49 (sC s M2 A2 T2 B2) (0, 0) _ b3 Try.underlying49 rfl size_scr ?_))
    have zg3 := (Array.getElem?_eq_some_iff.1 b3).1
    refine (HDN.out _ (ho2.below h3 (Nat.le_refl _)) h3.size).mono ?_
    rintro e w4 ⟨M3, A3, T3, B3, rfl, hh3, ho3, hn3, hv3, hb3⟩
    have b4 := (hv3 _ (Nat.le_refl _) zg3).trans b3
    have z4 := (hb3.block _ zz1).trans z3
    have y4 := hb3.size
    clear q11 r11 b3 z3
    go_wp2_with (first | (refine wp_store_blk rfl 49 _ _ rfl w2.heap.size (sC ds M3 A3 T3 B3) rfl rfl 49 (sC s M2 A2 T2 B2) b4 size_scr rfl (sC_one _ _ _ _ _) ?_; intro w5 b5 k5 s5; have z5 := (keep_chg k5 z4 (by intro hm; simp at hm; omega)).1; have qO : ∀ i, w5.cell? ⟨w2.heap.size, i, none⟩ = _ := (fun i => cell_of_row w5 _ i _ _ (0, 0) b5); have rO : ∀ i, w5.frozen? ⟨w2.heap.size, i, none⟩ = false := frz b5) | (refine wp_store_c rfl _ _ _ rfl w2.heap.size 9 (.int .i64 0) rfl rfl rfl (sC ds M3 A3 T3 B3) 49 b5 (show 9 < 31 by omega) (by kernel_rfl) ?_; intro w6 b6' k6 s6; have bO : w6.heap[w2.heap.size]? = some (.cells (sC t M3 A3 T3 B3) 49 (0, 0)) := (by rw [b6', HT1.out]; exact congrArg _ (congrArg (fun x => Obj.cells x 49 (0, 0)) (set_x ds _ _ _ _ _))); have zO := (keep_chg k6 z5 (by intro hm; simp at hm; omega)).1; clear b6'))
    have HLO : Hid (w.heap.size + 1 < w1.heap.size ∧ w1.heap.size ≤ w2.heap.size ∧ w2.heap.size < w6.heap.size) := ⟨zz1, hb2.size, (Array.getElem?_eq_some_iff.1 bO).1⟩
    have hn9 : ∀ k, some k ∈ sft M3 A3 T3 B3 → k ≠ w2.heap.size ∧ k ≠ w.heap.size + 1 := fun k hk => by have h1 := hn3 k hk; have h2 := (ho3.lt hk).1; have h3 := HLO.out; omega
    have HNG := Lib.hid hn9
    have HWK : Hid (Wk w6 w1.heap.size M3 A3 T3 B3) := (ho3.chg k5 (fun k hk hm => by have := hn9 k hk; simp at hm; omega)).chg k6 (fun k hk hm => by have := hn9 k hk; simp at hm; omega)
    have HTV : Hid (Below w.heap.size w w6) := by
      have h1 := t2.size
      have h2 := h3.size
      have h4 := HLO.out
      exact (((t2.trans (h3.mono t2.size)).trans (hb3.mono (by omega))).trans (k5.below (fun k hk => by simp at hk; omega) (by omega))).trans (k6.below (fun k hk => by simp at hk; omega) (by omega))
    have HH := hh3
    clear qO rO b5 z5 b4 z4 b2 z2 hn9
    have HV : Hid (scrB t c1 = true) := by show _ = _; rw [ht.out, hc1.out]; exact scr_r1 HQQ.out
    obtain ⟨⟨u1, u2, u3, u4⟩, ⟨x1, x2, y1, y2⟩, _, _⟩ := scr_nums HV.out
    obtain ⟨g1, g2, _, _, _⟩ := scr_grids HV.out
    obtain ⟨pp1, pp2⟩ := grid_pos g1
    obtain ⟨pp3, pp4⟩ := grid_pos g2
    have HD : Hid ((1 ≤ t.W ∧ t.W ≤ 120) ∧ 0 ≤ t.X ∧ t.X < t.W) := ⟨(scr_dims HV.out).1, x1, x2⟩
    have hHo := HH.out
    rcases Bool.eq_false_or_eq_true t.onA with ho | ho
    ·
      obtain ⟨ns, hns⟩ : ∃ ns, Hid (ns = c1.a.set (t.Y.toNat * t.W.toNat + t.X.toNat) (r, t.A)) := ⟨_, Lib.hid rfl⟩
      have hR : fiR t.aW t.aH c1.a t.X t.Y 1 1 (r, t.A) = (t.aW, t.aH, ns) := by
        rw [fi_put g2 (cell_ok HV.out hr) (by omega) (by omega), hns.out, u3]
      have HGF : Hid (∀ w', Gs w' A3.1 A3.2.2 → Calls Try.prog 108 #[gV t.aW t.aH A3.1 A3.2.2.length A3.2.1, .int .i64 t.X, .int .i64 t.Y, .int .i64 1, .int .i64 1, cV (r, t.A)] w' (GridPost w' t.aW t.aH ns)) := fun w' hg => by
        have := gridFill_spec t.aW t.aH A3.1 A3.2.1 A3.2.2 t.X t.Y 1 1 (r, t.A) w' hg (by rw [hHo.2.1]; omega)
        rw [hHo.2.1, hR] at this
        rw [hHo.2.1]
        exact this
      have HGS : Hid (∀ w', Below w6.heap.size w6 w' → Gs w' A3.1 A3.2.2) := fun w' hb => HWK.out.sr.ga.below hb
      have HO := Lib.hid ho
      have F3 : Hid (rc = { c1 with a := ns }) := by show _ = _; rw [F2.out, hns.out]; exact if_pos ho
      clear ho hR u1 u2 u3 u4 g1 g2 pp1 pp2 pp3 pp4 hHo x1 x2 y1 y2
      refine wp_regionK (fun w' => w'.heap[w2.heap.size]? = some (.cells (sC t M3 A3 T3 B3) 49 (0, 0))) 13 (by kernel_rfl) ?_
      refine wpAnyK_take (i := 0) (v := sV t M3 A3 T3 B3) rfl (by kernel_rfl) (by kernel_rfl) (by kernel_rfl) (fun _ _ _ h => h) (by kernel_rfl) (by kernel_rfl) (by decide) (yields_row (by rfl) 49 _ rfl (w2.heap.size) rfl 49 (sC t M3 A3 T3 B3) (0, 0) _ (fun _ h => h) Try.underlying49 rfl size_scr) (bO) ?_
      try simp only [Act.put, List.getElem_toArray, List.getElem_cons_zero, List.setIfInBounds_toArray, List.set_cons_zero, List.set_cons_succ]
      refine wpAnyK_take (i := 1) (v := sV t M3 A3 T3 B3) rfl (by kernel_rfl) (by kernel_rfl) (by kernel_rfl) (fun _ _ _ h => h) (by kernel_rfl) (by kernel_rfl) (by decide) (yields_row (by rfl) 49 _ rfl (w2.heap.size) rfl 49 (sC t M3 A3 T3 B3) (0, 0) _ (fun _ h => h) Try.underlying49 rfl size_scr) (bO) ?_
      try simp only [Act.put, List.getElem_toArray, List.getElem_cons_succ, List.getElem_cons_zero, List.setIfInBounds_toArray, List.set_cons_zero, List.set_cons_succ]
      refine wpAnyK_free (i := 3) (v := .pointer (some ⟨w2.heap.size, 9, none⟩)) rfl (by kernel_rfl) (by kernel_rfl) (by kernel_rfl) (fun _ _ _ h => h) (by decide) (Or.inl ⟨by rfl, (by intro w' _; go_simp; try first | rfl | (simp [*, Addr.add_lit]; done))⟩) (fun _ => bO) ?_
      try simp only [Act.put, List.getElem_toArray, List.getElem_cons_succ, List.getElem_cons_zero, List.setIfInBounds_toArray, List.set_cons_zero, List.set_cons_succ]
      refine wpAnyK_take (i := 4) (v := .int .i64 t.X) rfl (by kernel_rfl) (by kernel_rfl) (by kernel_rfl) (fun _ _ _ h => h) (by kernel_rfl) (by kernel_rfl) (by decide) (Or.inl ⟨by rfl, (by intro w' hSw; have q : ∀ i, w'.cell? ⟨w2.heap.size, i, none⟩ = _ := fun i => cell_of_row w' _ i _ _ (0, 0) hSw; go_simp; try first | rfl | simp [q])⟩) (bO) ?_
      try simp only [Act.put, List.getElem_toArray, List.getElem_cons_succ, List.getElem_cons_zero, List.setIfInBounds_toArray, List.set_cons_zero, List.set_cons_succ]
      refine wpAnyK_free (i := 5) (v := .pointer (some ⟨w2.heap.size, 10, none⟩)) rfl (by kernel_rfl) (by kernel_rfl) (by kernel_rfl) (fun _ _ _ h => h) (by decide) (Or.inl ⟨by rfl, (by intro w' _; go_simp; try first | rfl | (simp [*, Addr.add_lit]; done))⟩) (fun _ => bO) ?_
      try simp only [Act.put, List.getElem_toArray, List.getElem_cons_succ, List.getElem_cons_zero, List.setIfInBounds_toArray, List.set_cons_zero, List.set_cons_succ]
      refine wpAnyK_take (i := 6) (v := .int .i64 t.Y) rfl (by kernel_rfl) (by kernel_rfl) (by kernel_rfl) (fun _ _ _ h => h) (by kernel_rfl) (by kernel_rfl) (by decide) (Or.inl ⟨by rfl, (by intro w' hSw; have q : ∀ i, w'.cell? ⟨w2.heap.size, i, none⟩ = _ := fun i => cell_of_row w' _ i _ _ (0, 0) hSw; go_simp; try first | rfl | simp [q])⟩) (bO) ?_
      try simp only [Act.put, List.getElem_toArray, List.getElem_cons_succ, List.getElem_cons_zero, List.setIfInBounds_toArray, List.set_cons_zero, List.set_cons_succ]
      refine wpAnyK_free (i := 7) (v := .int .i64 r) rfl (by kernel_rfl) (by kernel_rfl) (by kernel_rfl) (fun _ _ _ h => h) (by decide) (Or.inl ⟨by rfl, (by intro w' _; go_simp; try first | rfl | (simp [*, Addr.add_lit]; done))⟩) (fun _ => bO) ?_
      try simp only [Act.put, List.getElem_toArray, List.getElem_cons_succ, List.getElem_cons_zero, List.setIfInBounds_toArray, List.set_cons_zero, List.set_cons_succ]
      refine wpAnyK_free (i := 8) (v := .pointer (some ⟨w2.heap.size, 12, none⟩)) rfl (by kernel_rfl) (by kernel_rfl) (by kernel_rfl) (fun _ _ _ h => h) (by decide) (Or.inl ⟨by rfl, (by intro w' _; go_simp; try first | rfl | (simp [*, Addr.add_lit]; done))⟩) (fun _ => bO) ?_
      try simp only [Act.put, List.getElem_toArray, List.getElem_cons_succ, List.getElem_cons_zero, List.setIfInBounds_toArray, List.set_cons_zero, List.set_cons_succ]
      refine wpAnyK_take (i := 9) (v := .agg #[.int .i64 t.A.1, .int .i64 t.A.2.1, .bool t.A.2.2.1, .bool t.A.2.2.2.1, .bool t.A.2.2.2.2]) rfl (by kernel_rfl) (by kernel_rfl) (by kernel_rfl) (fun _ _ _ h => h) (by kernel_rfl) (by kernel_rfl) (by decide) (Or.inl ⟨by rfl, (by intro w' hSw; have q : ∀ i, w'.cell? ⟨w2.heap.size, i, none⟩ = _ := fun i => cell_of_row w' _ i _ _ (0, 0) hSw; go_simp; try first | rfl | simp [q])⟩) (bO) ?_
      try simp only [Act.put, List.getElem_toArray, List.getElem_cons_succ, List.getElem_cons_zero, List.setIfInBounds_toArray, List.set_cons_zero, List.set_cons_succ]
      refine wpAnyK_free (i := 10) (v := cV (r, t.A)) rfl (by kernel_rfl) (by kernel_rfl) (by kernel_rfl) (fun _ _ _ h => h) (by decide) (Or.inl ⟨by rfl, (by intro w' _; go_simp; try first | rfl | (simp [*, Addr.add_lit]; done))⟩) (fun _ => bO) ?_
      try simp only [Act.put, List.getElem_toArray, List.getElem_cons_succ, List.getElem_cons_zero, List.setIfInBounds_toArray, List.set_cons_zero, List.set_cons_succ]
      refine wpAnyK_ready (rs := [2]) (by kernel_rfl) (by simp) ?_
      refine AllReadyK.cons rfl (fun K hK => ?_) AllReadyK.nil
      go_simp
      refine (l09Shown_any t M3 A3 T3 B3 _).mono ?_
      rintro e v4 ⟨he, hb4⟩
      rw [if_pos HO.out] at he
      subst he
      have hb4' : Below w6.heap.size w6 v4 := (Below.refl _ _).drew.trans hb4
      have y4 := hb4'.size
      have bO4 := (hb4.block _ (Array.getElem?_eq_some_iff.1 bO).1).trans bO
      have zO4 := (hb4.block _ (Array.getElem?_eq_some_iff.1 zO).1).trans zO
      refine hK.out _ _ (fun _ => bO4) ?_
      clear hK K
      try simp only [Act.put, List.getElem_toArray, List.getElem_cons_succ, List.getElem_cons_zero, List.setIfInBounds_toArray, List.set_cons_zero, List.set_cons_succ]
      refine wpAnyK_ready (rs := [11]) (by kernel_rfl) (by simp) ?_
      refine AllReadyK.cons rfl (fun K hK => ?_) AllReadyK.nil
      go_simp
      refine (HGF.out _ (HGS.out _ hb4')).mono ?_
      rintro e v5 ⟨G, gc, rfl, og5, _, _, hb5⟩
      have bO5 := (hb5.block _ (Array.getElem?_eq_some_iff.1 bO4).1).trans bO4
      have zO5 := (hb5.block _ (Array.getElem?_eq_some_iff.1 zO4).1).trans zO4
      have y5 := hb5.size
      refine hK.out _ _ (fun _ => bO5) ?_
      clear hK K
      try simp only [Act.put, List.getElem_toArray, List.getElem_cons_succ, List.getElem_cons_zero, List.setIfInBounds_toArray, List.set_cons_zero, List.set_cons_succ]
      refine wpAnyK_ready (rs := [12]) (by kernel_rfl) (by simp) ?_
      refine AllReadyK.cons rfl (fun K hK => ?_) AllReadyK.nil
      go_simp
      refine (l09Put_alt t M3 A3 T3 B3 G ns.length gc ns t.aW t.aH _ rfl HO.out).mono ?_
      rintro e v6 ⟨rfl, hb6⟩
      have bO6 := (hb6.block _ (Array.getElem?_eq_some_iff.1 bO5).1).trans bO5
      have zO6 := (hb6.block _ (Array.getElem?_eq_some_iff.1 zO5).1).trans zO5
      have y6 := hb6.size
      refine hK.out _ _ (fun _ => bO6) ?_
      clear hK K
      try simp only [Act.put, List.getElem_toArray, List.getElem_cons_succ, List.getElem_cons_zero, List.setIfInBounds_toArray, List.set_cons_zero, List.set_cons_succ]
      refine wpAnyK_ready (rs := [13]) (by kernel_rfl) (by simp) ?_
      refine AllReadyK.cons rfl (fun K hK => ?_) AllReadyK.nil
      rw [if_pos (by rfl)]
      refine wp_store_blkO 49 _ _ rfl w2.heap.size (sC t M3 (G, gc, ns) T3 B3) rfl rfl 49 (sC t M3 A3 T3 B3) bO6 size_scr rfl (sC_one _ _ _ _ _) ?_
      intro w7 b7 C7 s7
      refine hK.out _ _ (late (by kernel_rfl)) ?_
      clear hK K
      try simp only [Act.put, List.getElem_toArray, List.getElem_cons_succ, List.getElem_cons_zero]
      refine wpAnyK_done (by kernel_rfl) ?_ _
      have z7 := (keep_chg C7 zO6 (by intro hm; simp at hm; omega)).1
      have q7 : ∀ i, w7.cell? ⟨w2.heap.size, i, none⟩ = _ := fun i => cell_of_row w7 _ i _ _ (0, 0) b7
      have r7 : ∀ i, w7.frozen? ⟨w2.heap.size, i, none⟩ = false := frz b7
      have s46 : Below w6.heap.size w6 v6 := hb4'.trans ((hb5.mono hb4'.size).trans (hb6.mono (Nat.le_trans hb4'.size hb5.size)))
      have zg6 := (Array.getElem?_eq_some_iff.1 bO4).1
      have K7 : Hid (Wk w7 w1.heap.size M3 (G, gc, ns) T3 B3) := ((HWK.out.below s46 (Nat.le_refl _)).chg C7 (fun k hk hm => by have := HNG.out k hk; simp at hm; omega)).newA ((og5.below hb6 (Nat.le_refl _)).chg C7 (fun k hk hm => by have := (og5.ob_lt hk).1; simp at hm; omega)).gs (fun k hk => by have := og5.ob_lt hk; have := HLO.out; omega)
      have N7 : Hid (∀ k, some k ∈ sft M3 (G, gc, ns) T3 B3 → k ≠ w2.heap.size ∧ k ≠ w.heap.size + 1) := fun k hk => (sft_putA hk).elim (fun h => by have := (og5.ob_lt h).1; have := HLO.out; omega) (HNG.out k)
      have T7 : Hid (Below w.heap.size w w7) := (HTV.out.trans (s46.mono (by have := HTV.out.size; omega))).trans (C7.below (fun k hk => by simp at hk; have := HLO.out; omega) (by have := HLO.out; omega))
      have HH7 : Hid (Holds M3 (G, gc, ns) T3 B3 rc) := by
        rw [F3.out]
        exact ⟨HH.out.1, rfl, HH.out.2.2.1, HH.out.2.2.2⟩
      have Z7 := Lib.hid s7
      have HZ7 := Lib.hid z7
      clear bO bO4 bO5 bO6 zO zO4 zO5 zO6 z7
      by_cases hx : t.X = t.W - 1
      · have FS : Hid (rs = { t with wrap := !t.noWrap }) := F1.out.trans (if_pos hx)
        have ew : IntKind.i64.wrap (t.W - 1) = t.W - 1 := by rw [IntKind.wrap_i64]; have := HD.out; omega
        have kx : (t.X == t.W - 1) = true := by simpa using hx
        clear hx
        go_wp2_with (first | (refine wp_store_c rfl _ _ _ rfl w2.heap.size 11 (.bool (!t.noWrap)) rfl rfl rfl (sC t M3 (G, gc, ns) T3 B3) 49 b7 (show 11 < 31 by omega) (by kernel_rfl) ?_; intro w8 b8' k8 s8; have b8 : w8.heap[w2.heap.size]? = some (.cells (sC rs M3 (G, gc, ns) T3 B3) 49 (0, 0)) := (by rw [b8', FS.out]; exact congrArg _ (congrArg (fun x => Obj.cells x 49 (0, 0)) (set_wrap t _ _ _ _ _))); have z8 := (keep_chg k8 HZ7.out (by intro hm; have := HLO.out; simp at hm; omega)).1; clear b8') | (refine wpList_load_row rfl 49 _ rfl (w2.heap.size) rfl 49 (sC rs M3 (G, gc, ns) T3 B3) (0, 0) _ b8 Try.underlying49 rfl size_scr ?_) | (refine wp_store_blk rfl 49 _ _ rfl (w.heap.size + 1) (sC rs M3 (G, gc, ns) T3 B3) rfl rfl 49 zC z8 size_scr rfl (sC_one _ _ _ _ _) ?_; intro w9 B9 C9 z9))
        refine bodyPost_ret (results_cell_row Try.results45 _ _ (w.heap.size + 1) 49 (sC rs M3 (G, gc, ns) T3 B3) (0, 0) _ rfl B9 Try.underlying49 rfl size_scr) rfl ?_
        have hlo := HLO.out
        have x9 := T7.out.size
        exact ⟨M3, (G,  gc,  ns), T3, B3, rfl, HH7.out, ((K7.out.chg k8 (fun k hk hm => by have := N7.out k hk; simp at hm; omega)).chg C9 (fun k hk hm => by have := N7.out k hk; simp at hm; omega)).mono (by omega), (T7.out.trans (k8.below (fun k hk => by simp at hk; omega) (by omega))).trans (C9.below (fun k hk => by simp at hk; omega) (by omega))⟩
      · have FS : Hid (rs = { t with X := t.X + 1 }) := F1.out.trans (if_neg hx)
        have ew : IntKind.i64.wrap (t.W - 1) = t.W - 1 := by rw [IntKind.wrap_i64]; have := HD.out; omega
        have ew2 : IntKind.i64.wrap (t.X + 1) = t.X + 1 := by rw [IntKind.wrap_i64]; have := HD.out; omega
        have kx : (t.X == t.W - 1) = false := by simpa using hx
        clear hx
        go_wp2_with (first | (refine wp_store_c rfl _ _ _ rfl w2.heap.size 9 (.int .i64 (t.X + 1)) rfl rfl rfl (sC t M3 (G, gc, ns) T3 B3) 49 b7 (show 9 < 31 by omega) (by kernel_rfl) ?_; intro w8 b8' k8 s8; have b8 : w8.heap[w2.heap.size]? = some (.cells (sC rs M3 (G, gc, ns) T3 B3) 49 (0, 0)) := (by rw [b8', FS.out]; exact congrArg _ (congrArg (fun x => Obj.cells x 49 (0, 0)) (set_x t _ _ _ _ _))); have z8 := (keep_chg k8 HZ7.out (by intro hm; have := HLO.out; simp at hm; omega)).1; clear b8') | (refine wpList_load_row rfl 49 _ rfl (w2.heap.size) rfl 49 (sC rs M3 (G, gc, ns) T3 B3) (0, 0) _ b8 Try.underlying49 rfl size_scr ?_) | (refine wp_store_blk rfl 49 _ _ rfl (w.heap.size + 1) (sC rs M3 (G, gc, ns) T3 B3) rfl rfl 49 zC z8 size_scr rfl (sC_one _ _ _ _ _) ?_; intro w9 B9 C9 z9))
        refine bodyPost_ret (results_cell_row Try.results45 _ _ (w.heap.size + 1) 49 (sC rs M3 (G, gc, ns) T3 B3) (0, 0) _ rfl B9 Try.underlying49 rfl size_scr) rfl ?_
        have hlo := HLO.out
        have x9 := T7.out.size
        exact ⟨M3, (G,  gc,  ns), T3, B3, rfl, HH7.out, ((K7.out.chg k8 (fun k hk hm => by have := N7.out k hk; simp at hm; omega)).chg C9 (fun k hk hm => by have := N7.out k hk; simp at hm; omega)).mono (by omega), (T7.out.trans (k8.below (fun k hk => by simp at hk; omega) (by omega))).trans (C9.below (fun k hk => by simp at hk; omega) (by omega))⟩
    ·
      obtain ⟨ns, hns⟩ : ∃ ns, Hid (ns = c1.m.set (t.Y.toNat * t.W.toNat + t.X.toNat) (r, t.A)) := ⟨_, Lib.hid rfl⟩
      have hR : fiR t.mW t.mH c1.m t.X t.Y 1 1 (r, t.A) = (t.mW, t.mH, ns) := by
        rw [fi_put g1 (cell_ok HV.out hr) (by omega) (by omega), hns.out, u1]
      have HGF : Hid (∀ w', Gs w' M3.1 M3.2.2 → Calls Try.prog 108 #[gV t.mW t.mH M3.1 M3.2.2.length M3.2.1, .int .i64 t.X, .int .i64 t.Y, .int .i64 1, .int .i64 1, cV (r, t.A)] w' (GridPost w' t.mW t.mH ns)) := fun w' hg => by
        have := gridFill_spec t.mW t.mH M3.1 M3.2.1 M3.2.2 t.X t.Y 1 1 (r, t.A) w' hg (by rw [hHo.1]; omega)
        rw [hHo.1, hR] at this
        rw [hHo.1]
        exact this
      have HGS : Hid (∀ w', Below w6.heap.size w6 w' → Gs w' M3.1 M3.2.2) := fun w' hb => HWK.out.sr.gm.below hb
      have HO := Lib.hid ho
      have F3 : Hid (rc = { c1 with m := ns }) := by show _ = _; rw [F2.out, hns.out]; exact if_neg (by rw [ho]; simp)
      clear ho hR u1 u2 u3 u4 g1 g2 pp1 pp2 pp3 pp4 hHo x1 x2 y1 y2
      refine wp_regionK (fun w' => w'.heap[w2.heap.size]? = some (.cells (sC t M3 A3 T3 B3) 49 (0, 0))) 13 (by kernel_rfl) ?_
      refine wpAnyK_take (i := 0) (v := sV t M3 A3 T3 B3) rfl (by kernel_rfl) (by kernel_rfl) (by kernel_rfl) (fun _ _ _ h => h) (by kernel_rfl) (by kernel_rfl) (by decide) (yields_row (by rfl) 49 _ rfl (w2.heap.size) rfl 49 (sC t M3 A3 T3 B3) (0, 0) _ (fun _ h => h) Try.underlying49 rfl size_scr) (bO) ?_
      try simp only [Act.put, List.getElem_toArray, List.getElem_cons_zero, List.setIfInBounds_toArray, List.set_cons_zero, List.set_cons_succ]
      refine wpAnyK_take (i := 1) (v := sV t M3 A3 T3 B3) rfl (by kernel_rfl) (by kernel_rfl) (by kernel_rfl) (fun _ _ _ h => h) (by kernel_rfl) (by kernel_rfl) (by decide) (yields_row (by rfl) 49 _ rfl (w2.heap.size) rfl 49 (sC t M3 A3 T3 B3) (0, 0) _ (fun _ h => h) Try.underlying49 rfl size_scr) (bO) ?_
      try simp only [Act.put, List.getElem_toArray, List.getElem_cons_succ, List.getElem_cons_zero, List.setIfInBounds_toArray, List.set_cons_zero, List.set_cons_succ]
      refine wpAnyK_free (i := 3) (v := .pointer (some ⟨w2.heap.size, 9, none⟩)) rfl (by kernel_rfl) (by kernel_rfl) (by kernel_rfl) (fun _ _ _ h => h) (by decide) (Or.inl ⟨by rfl, (by intro w' _; go_simp; try first | rfl | (simp [*, Addr.add_lit]; done))⟩) (fun _ => bO) ?_
      try simp only [Act.put, List.getElem_toArray, List.getElem_cons_succ, List.getElem_cons_zero, List.setIfInBounds_toArray, List.set_cons_zero, List.set_cons_succ]
      refine wpAnyK_take (i := 4) (v := .int .i64 t.X) rfl (by kernel_rfl) (by kernel_rfl) (by kernel_rfl) (fun _ _ _ h => h) (by kernel_rfl) (by kernel_rfl) (by decide) (Or.inl ⟨by rfl, (by intro w' hSw; have q : ∀ i, w'.cell? ⟨w2.heap.size, i, none⟩ = _ := fun i => cell_of_row w' _ i _ _ (0, 0) hSw; go_simp; try first | rfl | simp [q])⟩) (bO) ?_
      try simp only [Act.put, List.getElem_toArray, List.getElem_cons_succ, List.getElem_cons_zero, List.setIfInBounds_toArray, List.set_cons_zero, List.set_cons_succ]
      refine wpAnyK_free (i := 5) (v := .pointer (some ⟨w2.heap.size, 10, none⟩)) rfl (by kernel_rfl) (by kernel_rfl) (by kernel_rfl) (fun _ _ _ h => h) (by decide) (Or.inl ⟨by rfl, (by intro w' _; go_simp; try first | rfl | (simp [*, Addr.add_lit]; done))⟩) (fun _ => bO) ?_
      try simp only [Act.put, List.getElem_toArray, List.getElem_cons_succ, List.getElem_cons_zero, List.setIfInBounds_toArray, List.set_cons_zero, List.set_cons_succ]
      refine wpAnyK_take (i := 6) (v := .int .i64 t.Y) rfl (by kernel_rfl) (by kernel_rfl) (by kernel_rfl) (fun _ _ _ h => h) (by kernel_rfl) (by kernel_rfl) (by decide) (Or.inl ⟨by rfl, (by intro w' hSw; have q : ∀ i, w'.cell? ⟨w2.heap.size, i, none⟩ = _ := fun i => cell_of_row w' _ i _ _ (0, 0) hSw; go_simp; try first | rfl | simp [q])⟩) (bO) ?_
      try simp only [Act.put, List.getElem_toArray, List.getElem_cons_succ, List.getElem_cons_zero, List.setIfInBounds_toArray, List.set_cons_zero, List.set_cons_succ]
      refine wpAnyK_free (i := 7) (v := .int .i64 r) rfl (by kernel_rfl) (by kernel_rfl) (by kernel_rfl) (fun _ _ _ h => h) (by decide) (Or.inl ⟨by rfl, (by intro w' _; go_simp; try first | rfl | (simp [*, Addr.add_lit]; done))⟩) (fun _ => bO) ?_
      try simp only [Act.put, List.getElem_toArray, List.getElem_cons_succ, List.getElem_cons_zero, List.setIfInBounds_toArray, List.set_cons_zero, List.set_cons_succ]
      refine wpAnyK_free (i := 8) (v := .pointer (some ⟨w2.heap.size, 12, none⟩)) rfl (by kernel_rfl) (by kernel_rfl) (by kernel_rfl) (fun _ _ _ h => h) (by decide) (Or.inl ⟨by rfl, (by intro w' _; go_simp; try first | rfl | (simp [*, Addr.add_lit]; done))⟩) (fun _ => bO) ?_
      try simp only [Act.put, List.getElem_toArray, List.getElem_cons_succ, List.getElem_cons_zero, List.setIfInBounds_toArray, List.set_cons_zero, List.set_cons_succ]
      refine wpAnyK_take (i := 9) (v := .agg #[.int .i64 t.A.1, .int .i64 t.A.2.1, .bool t.A.2.2.1, .bool t.A.2.2.2.1, .bool t.A.2.2.2.2]) rfl (by kernel_rfl) (by kernel_rfl) (by kernel_rfl) (fun _ _ _ h => h) (by kernel_rfl) (by kernel_rfl) (by decide) (Or.inl ⟨by rfl, (by intro w' hSw; have q : ∀ i, w'.cell? ⟨w2.heap.size, i, none⟩ = _ := fun i => cell_of_row w' _ i _ _ (0, 0) hSw; go_simp; try first | rfl | simp [q])⟩) (bO) ?_
      try simp only [Act.put, List.getElem_toArray, List.getElem_cons_succ, List.getElem_cons_zero, List.setIfInBounds_toArray, List.set_cons_zero, List.set_cons_succ]
      refine wpAnyK_free (i := 10) (v := cV (r, t.A)) rfl (by kernel_rfl) (by kernel_rfl) (by kernel_rfl) (fun _ _ _ h => h) (by decide) (Or.inl ⟨by rfl, (by intro w' _; go_simp; try first | rfl | (simp [*, Addr.add_lit]; done))⟩) (fun _ => bO) ?_
      try simp only [Act.put, List.getElem_toArray, List.getElem_cons_succ, List.getElem_cons_zero, List.setIfInBounds_toArray, List.set_cons_zero, List.set_cons_succ]
      refine wpAnyK_ready (rs := [2]) (by kernel_rfl) (by simp) ?_
      refine AllReadyK.cons rfl (fun K hK => ?_) AllReadyK.nil
      go_simp
      refine (l09Shown_any t M3 A3 T3 B3 _).mono ?_
      rintro e v4 ⟨he, hb4⟩
      rw [if_neg (by rw [HO.out]; simp)] at he
      subst he
      have hb4' : Below w6.heap.size w6 v4 := (Below.refl _ _).drew.trans hb4
      have y4 := hb4'.size
      have bO4 := (hb4.block _ (Array.getElem?_eq_some_iff.1 bO).1).trans bO
      have zO4 := (hb4.block _ (Array.getElem?_eq_some_iff.1 zO).1).trans zO
      refine hK.out _ _ (fun _ => bO4) ?_
      clear hK K
      try simp only [Act.put, List.getElem_toArray, List.getElem_cons_succ, List.getElem_cons_zero, List.setIfInBounds_toArray, List.set_cons_zero, List.set_cons_succ]
      refine wpAnyK_ready (rs := [11]) (by kernel_rfl) (by simp) ?_
      refine AllReadyK.cons rfl (fun K hK => ?_) AllReadyK.nil
      go_simp
      refine (HGF.out _ (HGS.out _ hb4')).mono ?_
      rintro e v5 ⟨G, gc, rfl, og5, _, _, hb5⟩
      have bO5 := (hb5.block _ (Array.getElem?_eq_some_iff.1 bO4).1).trans bO4
      have zO5 := (hb5.block _ (Array.getElem?_eq_some_iff.1 zO4).1).trans zO4
      have y5 := hb5.size
      refine hK.out _ _ (fun _ => bO5) ?_
      clear hK K
      try simp only [Act.put, List.getElem_toArray, List.getElem_cons_succ, List.getElem_cons_zero, List.setIfInBounds_toArray, List.set_cons_zero, List.set_cons_succ]
      refine wpAnyK_ready (rs := [12]) (by kernel_rfl) (by simp) ?_
      refine AllReadyK.cons rfl (fun K hK => ?_) AllReadyK.nil
      go_simp
      refine (l09Put_main t M3 A3 T3 B3 G ns.length gc ns t.mW t.mH _ rfl HO.out).mono ?_
      rintro e v6 ⟨rfl, hb6⟩
      have bO6 := (hb6.block _ (Array.getElem?_eq_some_iff.1 bO5).1).trans bO5
      have zO6 := (hb6.block _ (Array.getElem?_eq_some_iff.1 zO5).1).trans zO5
      have y6 := hb6.size
      refine hK.out _ _ (fun _ => bO6) ?_
      clear hK K
      try simp only [Act.put, List.getElem_toArray, List.getElem_cons_succ, List.getElem_cons_zero, List.setIfInBounds_toArray, List.set_cons_zero, List.set_cons_succ]
      refine wpAnyK_ready (rs := [13]) (by kernel_rfl) (by simp) ?_
      refine AllReadyK.cons rfl (fun K hK => ?_) AllReadyK.nil
      rw [if_pos (by rfl)]
      refine wp_store_blkO 49 _ _ rfl w2.heap.size (sC t (G, gc, ns) A3 T3 B3) rfl rfl 49 (sC t M3 A3 T3 B3) bO6 size_scr rfl (sC_one _ _ _ _ _) ?_
      intro w7 b7 C7 s7
      refine hK.out _ _ (late (by kernel_rfl)) ?_
      clear hK K
      try simp only [Act.put, List.getElem_toArray, List.getElem_cons_succ, List.getElem_cons_zero]
      refine wpAnyK_done (by kernel_rfl) ?_ _
      have z7 := (keep_chg C7 zO6 (by intro hm; simp at hm; omega)).1
      have q7 : ∀ i, w7.cell? ⟨w2.heap.size, i, none⟩ = _ := fun i => cell_of_row w7 _ i _ _ (0, 0) b7
      have r7 : ∀ i, w7.frozen? ⟨w2.heap.size, i, none⟩ = false := frz b7
      have s46 : Below w6.heap.size w6 v6 := hb4'.trans ((hb5.mono hb4'.size).trans (hb6.mono (Nat.le_trans hb4'.size hb5.size)))
      have zg6 := (Array.getElem?_eq_some_iff.1 bO4).1
      have K7 : Hid (Wk w7 w1.heap.size (G, gc, ns) A3 T3 B3) := ((HWK.out.below s46 (Nat.le_refl _)).chg C7 (fun k hk hm => by have := HNG.out k hk; simp at hm; omega)).newM ((og5.below hb6 (Nat.le_refl _)).chg C7 (fun k hk hm => by have := (og5.ob_lt hk).1; simp at hm; omega)).gs (fun k hk => by have := og5.ob_lt hk; have := HLO.out; omega)
      have N7 : Hid (∀ k, some k ∈ sft (G, gc, ns) A3 T3 B3 → k ≠ w2.heap.size ∧ k ≠ w.heap.size + 1) := fun k hk => (sft_putM hk).elim (fun h => by have := (og5.ob_lt h).1; have := HLO.out; omega) (HNG.out k)
      have T7 : Hid (Below w.heap.size w w7) := (HTV.out.trans (s46.mono (by have := HTV.out.size; omega))).trans (C7.below (fun k hk => by simp at hk; have := HLO.out; omega) (by have := HLO.out; omega))
      have HH7 : Hid (Holds (G, gc, ns) A3 T3 B3 rc) := by
        rw [F3.out]
        exact ⟨rfl, HH.out.2.1, HH.out.2.2.1, HH.out.2.2.2⟩
      have Z7 := Lib.hid s7
      have HZ7 := Lib.hid z7
      clear bO bO4 bO5 bO6 zO zO4 zO5 zO6 z7
      by_cases hx : t.X = t.W - 1
      · have FS : Hid (rs = { t with wrap := !t.noWrap }) := F1.out.trans (if_pos hx)
        have ew : IntKind.i64.wrap (t.W - 1) = t.W - 1 := by rw [IntKind.wrap_i64]; have := HD.out; omega
        have kx : (t.X == t.W - 1) = true := by simpa using hx
        clear hx
        go_wp2_with (first | (refine wp_store_c rfl _ _ _ rfl w2.heap.size 11 (.bool (!t.noWrap)) rfl rfl rfl (sC t (G, gc, ns) A3 T3 B3) 49 b7 (show 11 < 31 by omega) (by kernel_rfl) ?_; intro w8 b8' k8 s8; have b8 : w8.heap[w2.heap.size]? = some (.cells (sC rs (G, gc, ns) A3 T3 B3) 49 (0, 0)) := (by rw [b8', FS.out]; exact congrArg _ (congrArg (fun x => Obj.cells x 49 (0, 0)) (set_wrap t _ _ _ _ _))); have z8 := (keep_chg k8 HZ7.out (by intro hm; have := HLO.out; simp at hm; omega)).1; clear b8') | (refine wpList_load_row rfl 49 _ rfl (w2.heap.size) rfl 49 (sC rs (G, gc, ns) A3 T3 B3) (0, 0) _ b8 Try.underlying49 rfl size_scr ?_) | (refine wp_store_blk rfl 49 _ _ rfl (w.heap.size + 1) (sC rs (G, gc, ns) A3 T3 B3) rfl rfl 49 zC z8 size_scr rfl (sC_one _ _ _ _ _) ?_; intro w9 B9 C9 z9))
        refine bodyPost_ret (results_cell_row Try.results45 _ _ (w.heap.size + 1) 49 (sC rs (G, gc, ns) A3 T3 B3) (0, 0) _ rfl B9 Try.underlying49 rfl size_scr) rfl ?_
        have hlo := HLO.out
        have x9 := T7.out.size
        exact ⟨(G,  gc,  ns), A3, T3, B3, rfl, HH7.out, ((K7.out.chg k8 (fun k hk hm => by have := N7.out k hk; simp at hm; omega)).chg C9 (fun k hk hm => by have := N7.out k hk; simp at hm; omega)).mono (by omega), (T7.out.trans (k8.below (fun k hk => by simp at hk; omega) (by omega))).trans (C9.below (fun k hk => by simp at hk; omega) (by omega))⟩
      · have FS : Hid (rs = { t with X := t.X + 1 }) := F1.out.trans (if_neg hx)
        have ew : IntKind.i64.wrap (t.W - 1) = t.W - 1 := by rw [IntKind.wrap_i64]; have := HD.out; omega
        have ew2 : IntKind.i64.wrap (t.X + 1) = t.X + 1 := by rw [IntKind.wrap_i64]; have := HD.out; omega
        have kx : (t.X == t.W - 1) = false := by simpa using hx
        clear hx
        go_wp2_with (first | (refine wp_store_c rfl _ _ _ rfl w2.heap.size 9 (.int .i64 (t.X + 1)) rfl rfl rfl (sC t (G, gc, ns) A3 T3 B3) 49 b7 (show 9 < 31 by omega) (by kernel_rfl) ?_; intro w8 b8' k8 s8; have b8 : w8.heap[w2.heap.size]? = some (.cells (sC rs (G, gc, ns) A3 T3 B3) 49 (0, 0)) := (by rw [b8', FS.out]; exact congrArg _ (congrArg (fun x => Obj.cells x 49 (0, 0)) (set_x t _ _ _ _ _))); have z8 := (keep_chg k8 HZ7.out (by intro hm; have := HLO.out; simp at hm; omega)).1; clear b8') | (refine wpList_load_row rfl 49 _ rfl (w2.heap.size) rfl 49 (sC rs (G, gc, ns) A3 T3 B3) (0, 0) _ b8 Try.underlying49 rfl size_scr ?_) | (refine wp_store_blk rfl 49 _ _ rfl (w.heap.size + 1) (sC rs (G, gc, ns) A3 T3 B3) rfl rfl 49 zC z8 size_scr rfl (sC_one _ _ _ _ _) ?_; intro w9 B9 C9 z9))
        refine bodyPost_ret (results_cell_row Try.results45 _ _ (w.heap.size + 1) 49 (sC rs (G, gc, ns) A3 T3 B3) (0, 0) _ rfl B9 Try.underlying49 rfl size_scr) rfl ?_
        have hlo := HLO.out
        have x9 := T7.out.size
        exact ⟨(G,  gc,  ns), A3, T3, B3, rfl, HH7.out, ((K7.out.chg k8 (fun k hk hm => by have := N7.out k hk; simp at hm; omega)).chg C9 (fun k hk hm => by have := N7.out k hk; simp at hm; omega)).mono (by omega), (T7.out.trans (k8.below (fun k hk => by simp at hk; omega) (by omega))).trans (C9.below (fun k hk => by simp at hk; omega) (by omega))⟩
theorem scrRune_spec (s : Sc) (M A : Rw) (T : Ti) (B : Tr) (c : Cont) (r : Int) (w : World) (hr : Sr w M A T B) (hz : Sz M A T B 1048576) (hh : Hid (Holds M A T B c)) :
    Calls Try.prog 45 #[sV s M A T B, .int .i64 r] w (ScrRead w (chS s c (ruS s r)) (chC s c (ruC s c r))) := by
  rcases Bool.eq_false_or_eq_true (showsB r) with h1 | h1
  · rcases Bool.eq_false_or_eq_true s.wrap with h2 | h2
    · exact rune_w s M A T B c r w hr hz hh h1 h2
    · exact rune_a s M A T B c r w hr hz hh h1 h2
  · exact rune_no s M A T B c r w hr hz hh h1

set_option linter.unusedVariables false
set_option maxRecDepth 100000

theorem So.updA {w w' : World} {lo : Nat} {M A A' : Rw} {T : Ti} {B : Tr} (h : So w lo M A T B) (hob : ob A'.1 = ob A.1) (hc : Chg [ob A.1] w w') (hA : Og w' lo A'.1 A'.2.1 A'.2.2) : So w' lo M A' T B := by
  obtain ⟨h1, hs2⟩ := List.pairwise_cons.1 h.sep
  obtain ⟨h2, hs3⟩ := List.pairwise_cons.1 hs2
  refine ⟨h.om.chg hc (fun k hk hm => h1 _ (List.mem_cons.2 (.inl rfl)) k hk (List.mem_singleton.1 hm).symm), hA, h.ot.chg hc (fun k hk hm => h2 _ (List.mem_cons.2 (.inl rfl)) k (List.mem_singleton.1 hm).symm hk), h.ol.chg hc (fun k hk hm => h2 _ (List.mem_cons_of_mem _ (List.mem_cons.2 (.inl rfl))) k (List.mem_singleton.1 hm).symm hk), fun e he => (h.ow e he).chg hc (fun k hk hm => h2 _ (List.mem_cons_of_mem _ (List.mem_cons_of_mem _ (List.mem_map.2 ⟨e, he, rfl⟩))) k (List.mem_singleton.1 hm).symm hk), ?_⟩
  have e : sft M A' T B = sft M A T B := by show ob M.1 :: ob A'.1 :: _ = ob M.1 :: ob A.1 :: _; rw [hob]
  rw [e]
  exact h.sep
theorem So.updM {w w' : World} {lo : Nat} {M A M' : Rw} {T : Ti} {B : Tr} (h : So w lo M A T B) (hob : ob M'.1 = ob M.1) (hc : Chg [ob M.1] w w') (hA : Og w' lo M'.1 M'.2.1 M'.2.2) : So w' lo M' A T B := by
  obtain ⟨h1, hs2⟩ := List.pairwise_cons.1 h.sep
  refine ⟨hA, h.oa.chg hc (fun k hk hm => h1 _ (List.mem_cons.2 (.inl rfl)) k (List.mem_singleton.1 hm).symm hk), h.ot.chg hc (fun k hk hm => h1 _ (List.mem_cons_of_mem _ (List.mem_cons.2 (.inl rfl))) k (List.mem_singleton.1 hm).symm hk), h.ol.chg hc (fun k hk hm => h1 _ (List.mem_cons_of_mem _ (List.mem_cons_of_mem _ (List.mem_cons.2 (.inl rfl)))) k (List.mem_singleton.1 hm).symm hk), fun e he => (h.ow e he).chg hc (fun k hk hm => h1 _ (List.mem_cons_of_mem _ (List.mem_cons_of_mem _ (List.mem_cons_of_mem _ (List.mem_map.2 ⟨e, he, rfl⟩)))) k (List.mem_singleton.1 hm).symm hk), ?_⟩
  have e : sft M' A T B = sft M A T B := by show ob M'.1 :: _ = ob M.1 :: _; rw [hob]
  rw [e]
  exact h.sep
set_option maxHeartbeats 8000000 in
theorem runeP_a (s : Sc) (M A : Rw) (T : Ti) (B : Tr) (c : Cont) (r : Int) (lo g : Nat) (w : World) (hq : scrB s c = true) (hb : w.heap[g]? = some (.cells (sC s M A T B) 49 (0, 0))) (ho : So w lo M A T B) (hh : Hid (Holds M A T B c)) (hn : some g ∉ sft M A T B) (hlg : lo ≤ g) (hw0 : s.wrap = false) :
    Calls Try.prog 111 #[.pointer (some ⟨g, 0, none⟩), .int .i64 r] w (ChPost lo g M A T B w (runS (rS1 s)) (putC (rS1 s) (rC1 s c) r)) := by
  obtain ⟨t, ht⟩ : ∃ t, Hid (t = rS1 s) := ⟨_, Lib.hid rfl⟩
  obtain ⟨c1, hc1⟩ : ∃ c1, Hid (c1 = rC1 s c) := ⟨_, Lib.hid rfl⟩
  obtain ⟨rs, hrs⟩ : ∃ x, Hid (x = runS (rS1 s)) := ⟨_, Lib.hid rfl⟩
  obtain ⟨rc, hrc⟩ : ∃ x, Hid (x = putC (rS1 s) (rC1 s c) r) := ⟨_, Lib.hid rfl⟩
  rw [← hrs.out, ← hrc.out]
  have F1 : Hid (rs = runS t) := by show _ = _; rw [hrs.out, ht.out]
  have F2 : Hid (rc = putC t c1 r) := by show _ = _; rw [hrc.out, ht.out, hc1.out]
  have HV : Hid (scrB t c1 = true) := by show _ = _; rw [ht.out, hc1.out]; exact scr_r1 hq
  have HT1 : Hid (t = s) := by show _ = _; rw [ht.out]; exact if_neg (by rw [hw0]; simp)
  have HC1 : Hid (c1 = c) := by show _ = _; rw [hc1.out]; exact if_neg (by rw [hw0]; simp)
  have q11 : w.cell? ⟨g, 11, none⟩ = some (.bool false) := by rw [cell_of_row w _ 11 _ _ (0, 0) hb]; show some (Value.bool s.wrap) = _; rw [hw0]
  clear hw0
  go_enter Try.func111, Try.ntmps111
  go_wp2_with fail
  clear q11
  obtain ⟨v, hv⟩ : ∃ x, x = w := ⟨_, rfl⟩
  obtain ⟨M3, hM3⟩ : ∃ x, x = M := ⟨_, rfl⟩
  obtain ⟨A3, hA3⟩ : ∃ x, x = A := ⟨_, rfl⟩
  obtain ⟨T3, hT3⟩ : ∃ x, x = T := ⟨_, rfl⟩
  obtain ⟨B3, hB3⟩ : ∃ x, x = B := ⟨_, rfl⟩
  have HBV : Hid (v.heap[g]? = some (.cells (sC t M3 A3 T3 B3) 49 (0, 0))) := by show _ = _; rw [hv, HT1.out, hM3, hA3, hT3, hB3]; exact hb
  have HSO : Hid (So v lo M3 A3 T3 B3) := by rw [hv, hM3, hA3, hT3, hB3]; exact ho
  have HH : Hid (Holds M3 A3 T3 B3 c1) := by rw [HC1.out, hM3, hA3, hT3, hB3]; exact hh
  have HN3 : Hid (some g ∉ sft M3 A3 T3 B3) := by rw [hM3, hA3, hT3, hB3]; exact hn
  have HKV : Hid (Chg (some g :: sft M A T B) w v) := by rw [hv]; exact Chg.refl _ _
  have HSV : Hid (∀ k, some k ∈ sft M3 A3 T3 B3 → some k ∈ sft M A T B ∨ w.heap.size ≤ k) := by rw [hM3, hA3, hT3, hB3]; exact fun k hk => .inl hk
  rw [← hv]
  clear hM3 hA3 hT3 hB3 hb hq hn hv
  obtain ⟨⟨u1, u2, u3, u4⟩, ⟨x1, x2, y1, y2⟩, _, _⟩ := scr_nums HV.out
  obtain ⟨g1, g2, _, _, _⟩ := scr_grids HV.out
  obtain ⟨pp1, pp2⟩ := grid_pos g1
  obtain ⟨pp3, pp4⟩ := grid_pos g2
  obtain ⟨⟨d1, d2⟩, d3, d4⟩ := scr_dims HV.out
  have HD : Hid ((1 ≤ t.W ∧ t.W ≤ 120) ∧ 0 ≤ t.X ∧ t.X < t.W) := ⟨⟨d1, d2⟩, x1, x2⟩
  have hHo := HH.out
  obtain ⟨a, ha⟩ := Int.eq_ofNat_of_zero_le (show 0 ≤ t.W by omega)
  obtain ⟨j, hj⟩ := Int.eq_ofNat_of_zero_le x1
  obtain ⟨k, hk⟩ := Int.eq_ofNat_of_zero_le y1
  have hk120 : k ≤ 120 := by omega
  have ha1 : 1 ≤ a := by omega
  have hja0 : j < a := by omega
  have hWa := Lib.hid ha
  have hXj := Lib.hid hj
  have hYk := Lib.hid hk
  clear ha hj hk
  rcases Bool.eq_false_or_eq_true t.onA with hoA | hoA
  ·
    obtain ⟨xA, xc, xs⟩ := A3
    have eX : xs = c1.a := hHo.2.1
    obtain ⟨gm, hgm, hgl, _, hmc, _⟩ := HSO.out.oa.fill (by rw [eX]; exact pp3)
    simp only at hgm
    subst hgm
    have hpl := place_lt g2 ⟨x1, by omega⟩ ⟨y1, by omega⟩
    rw [← eX, u3, hWa.out, hXj.out, hYk.out, Int.toNat_natCast, Int.toNat_natCast, Int.toNat_natCast] at hpl
    have hTW : t.aW = (a : Int) := u3.trans hWa.out
    obtain ⟨p, hp⟩ : ∃ p, Hid (p = k * a) := ⟨_, Lib.hid rfl⟩
    rw [← hp.out] at hpl
    obtain ⟨hp1, hp2⟩ := hpl
    have hxl : xs.length ≤ 4000 := by rw [eX]; exact pp4
    have hq1 : Hid (p + a = (k + 1) * a) := by show _ = _; rw [hp.out, Nat.add_mul, Nat.one_mul]
    have hrow := fun w' => row_any a t.aH (some ⟨gm, 0, none⟩) xs.length xc k p (p + a) w' hp hq1 (by omega) hp2 hmc hxl (by omega)
    rw [← hTW, ← hYk.out] at hrow
    have HROW := Lib.hid hrow
    have hja : (j : Int) < (a : Int) := by omega
    have hj0 : (0 : Int) ≤ (j : Int) := Int.natCast_nonneg j
    have hgne : g ≠ gm := fun e => HN3.out (by rw [e]; exact List.mem_cons_of_mem _ (List.mem_cons.2 (.inl rfl)))
    have HO := Lib.hid hoA
    obtain ⟨ys, hys⟩ : ∃ ys, Hid (ys = xs.set (p + j) (r, t.A)) := ⟨_, Lib.hid rfl⟩
    have F3 : Hid (rc = { c1 with a := ys }) := by
      show _ = _
      rw [F2.out, hys.out, eX, hp.out, putC, if_pos hoA, hWa.out, hXj.out, hYk.out, Int.toNat_natCast, Int.toNat_natCast, Int.toNat_natCast]
    have HH9 : Hid (Hid (Holds M3 (some ⟨gm, 0, none⟩, xc, ys) T3 B3 rc)) := by
      show Hid _
      rw [F3.out]
      exact ⟨hHo.1, rfl, hHo.2.2.1, hHo.2.2.2⟩
    clear hoA eX hrow u1 u2 u3 u4 g1 g2 pp1 pp2 pp3 pp4 hHo x1 x2 y1 y2 hTW d1 d2 d3 d4
    have bw0 : v.drew.heap[g]? = some (.cells (sC t M3 (some ⟨gm, 0, none⟩, xc, xs) T3 B3) 49 (0, 0)) := HBV.out
    have zgv := (Array.getElem?_eq_some_iff.1 HBV.out).1
    refine wp_regionK (fun w' => w'.heap[g]? = some (.cells (sC t M3 (some ⟨gm, 0, none⟩, xc, xs) T3 B3) 49 (0, 0))) 20 (by kernel_rfl) ?_
    refine wpAnyK_free (i := 0) (v := .pointer (some ⟨g, 0, none⟩)) rfl (by kernel_rfl) (by kernel_rfl) (by kernel_rfl) (fun _ _ _ h => h) (by decide) (Or.inl ⟨by rfl, (by intro w' _; go_simp; try first | rfl | (simp [*, Addr.add_lit]; done))⟩) (fun _ => bw0) ?_
    try simp only [Act.put, List.getElem_toArray, List.getElem_cons_zero, List.setIfInBounds_toArray, List.set_cons_zero, List.set_cons_succ]
    refine wpAnyK_free (i := 4) (v := .pointer (some ⟨g, 0, none⟩)) rfl (by kernel_rfl) (by kernel_rfl) (by kernel_rfl) (fun _ _ _ h => h) (by decide) (Or.inl ⟨by rfl, (by intro w' _; go_simp; try first | rfl | (simp [*, Addr.add_lit]; done))⟩) (fun _ => bw0) ?_
    try simp only [Act.put, List.getElem_toArray, List.getElem_cons_succ, List.getElem_cons_zero, List.setIfInBounds_toArray, List.set_cons_zero, List.set_cons_succ]
    refine wpAnyK_free (i := 5) (v := .pointer (some ⟨g, 0, none⟩)) rfl (by kernel_rfl) (by kernel_rfl) (by kernel_rfl) (fun _ _ _ h => h) (by decide) (Or.inl ⟨by rfl, (by intro w' _; go_simp; try first | rfl | (simp [*, Addr.add_lit]; done))⟩) (fun _ => bw0) ?_
    try simp only [Act.put, List.getElem_toArray, List.getElem_cons_succ, List.getElem_cons_zero, List.setIfInBounds_toArray, List.set_cons_zero, List.set_cons_succ]
    refine wpAnyK_free (i := 6) (v := .pointer (some ⟨g, 10, none⟩)) rfl (by kernel_rfl) (by kernel_rfl) (by kernel_rfl) (fun _ _ _ h => h) (by decide) (Or.inl ⟨by rfl, (by intro w' _; go_simp; try first | rfl | (simp [*, Addr.add_lit]; done))⟩) (fun _ => bw0) ?_
    try simp only [Act.put, List.getElem_toArray, List.getElem_cons_succ, List.getElem_cons_zero, List.setIfInBounds_toArray, List.set_cons_zero, List.set_cons_succ]
    refine wpAnyK_take (i := 7) (v := .int .i64 t.Y) rfl (by kernel_rfl) (by kernel_rfl) (by kernel_rfl) (fun _ _ _ h => h) (by kernel_rfl) (by kernel_rfl) (by decide) (Or.inl ⟨by rfl, (by intro w' hSw; have q : ∀ i, w'.cell? ⟨g, i, none⟩ = _ := fun i => cell_of_row w' _ i _ _ (0, 0) hSw; go_simp; try first | rfl | simp [q])⟩) (bw0) ?_
    try simp only [Act.put, List.getElem_toArray, List.getElem_cons_succ, List.getElem_cons_zero, List.setIfInBounds_toArray, List.set_cons_zero, List.set_cons_succ]
    refine wpAnyK_free (i := 9) (v := .pointer (some ⟨g, 0, none⟩)) rfl (by kernel_rfl) (by kernel_rfl) (by kernel_rfl) (fun _ _ _ h => h) (by decide) (Or.inl ⟨by rfl, (by intro w' _; go_simp; try first | rfl | (simp [*, Addr.add_lit]; done))⟩) (fun _ => bw0) ?_
    try simp only [Act.put, List.getElem_toArray, List.getElem_cons_succ, List.getElem_cons_zero, List.setIfInBounds_toArray, List.set_cons_zero, List.set_cons_succ]
    refine wpAnyK_free (i := 10) (v := .pointer (some ⟨g, 0, none⟩)) rfl (by kernel_rfl) (by kernel_rfl) (by kernel_rfl) (fun _ _ _ h => h) (by decide) (Or.inl ⟨by rfl, (by intro w' _; go_simp; try first | rfl | (simp [*, Addr.add_lit]; done))⟩) (fun _ => bw0) ?_
    try simp only [Act.put, List.getElem_toArray, List.getElem_cons_succ, List.getElem_cons_zero, List.setIfInBounds_toArray, List.set_cons_zero, List.set_cons_succ]
    refine wpAnyK_free (i := 11) (v := .pointer (some ⟨g, 9, none⟩)) rfl (by kernel_rfl) (by kernel_rfl) (by kernel_rfl) (fun _ _ _ h => h) (by decide) (Or.inl ⟨by rfl, (by intro w' _; go_simp; try first | rfl | (simp [*, Addr.add_lit]; done))⟩) (fun _ => bw0) ?_
    try simp only [Act.put, List.getElem_toArray, List.getElem_cons_succ, List.getElem_cons_zero, List.setIfInBounds_toArray, List.set_cons_zero, List.set_cons_succ]
    refine wpAnyK_take (i := 12) (v := .int .i64 t.X) rfl (by kernel_rfl) (by kernel_rfl) (by kernel_rfl) (fun _ _ _ h => h) (by kernel_rfl) (by kernel_rfl) (by decide) (Or.inl ⟨by rfl, (by intro w' hSw; have q : ∀ i, w'.cell? ⟨g, i, none⟩ = _ := fun i => cell_of_row w' _ i _ _ (0, 0) hSw; go_simp; try first | rfl | simp [q])⟩) (bw0) ?_
    try simp only [Act.put, List.getElem_toArray, List.getElem_cons_succ, List.getElem_cons_zero, List.setIfInBounds_toArray, List.set_cons_zero, List.set_cons_succ]
    refine wpAnyK_free (i := 13) (v := .int .i64 r) rfl (by kernel_rfl) (by kernel_rfl) (by kernel_rfl) (fun _ _ _ h => h) (by decide) (Or.inl ⟨by rfl, (by intro w' _; go_simp; try first | rfl | (simp [*, Addr.add_lit]; done))⟩) (fun _ => bw0) ?_
    try simp only [Act.put, List.getElem_toArray, List.getElem_cons_succ, List.getElem_cons_zero, List.setIfInBounds_toArray, List.set_cons_zero, List.set_cons_succ]
    refine wpAnyK_free (i := 14) (v := .pointer (some ⟨g, 0, none⟩)) rfl (by kernel_rfl) (by kernel_rfl) (by kernel_rfl) (fun _ _ _ h => h) (by decide) (Or.inl ⟨by rfl, (by intro w' _; go_simp; try first | rfl | (simp [*, Addr.add_lit]; done))⟩) (fun _ => bw0) ?_
    try simp only [Act.put, List.getElem_toArray, List.getElem_cons_succ, List.getElem_cons_zero, List.setIfInBounds_toArray, List.set_cons_zero, List.set_cons_succ]
    refine wpAnyK_free (i := 15) (v := .pointer (some ⟨g, 0, none⟩)) rfl (by kernel_rfl) (by kernel_rfl) (by kernel_rfl) (fun _ _ _ h => h) (by decide) (Or.inl ⟨by rfl, (by intro w' _; go_simp; try first | rfl | (simp [*, Addr.add_lit]; done))⟩) (fun _ => bw0) ?_
    try simp only [Act.put, List.getElem_toArray, List.getElem_cons_succ, List.getElem_cons_zero, List.setIfInBounds_toArray, List.set_cons_zero, List.set_cons_succ]
    refine wpAnyK_free (i := 16) (v := .pointer (some ⟨g, 12, none⟩)) rfl (by kernel_rfl) (by kernel_rfl) (by kernel_rfl) (fun _ _ _ h => h) (by decide) (Or.inl ⟨by rfl, (by intro w' _; go_simp; try first | rfl | (simp [*, Addr.add_lit]; done))⟩) (fun _ => bw0) ?_
    try simp only [Act.put, List.getElem_toArray, List.getElem_cons_succ, List.getElem_cons_zero, List.setIfInBounds_toArray, List.set_cons_zero, List.set_cons_succ]
    refine wpAnyK_take (i := 17) (v := .agg #[.int .i64 t.A.1, .int .i64 t.A.2.1, .bool t.A.2.2.1, .bool t.A.2.2.2.1, .bool t.A.2.2.2.2]) rfl (by kernel_rfl) (by kernel_rfl) (by kernel_rfl) (fun _ _ _ h => h) (by kernel_rfl) (by kernel_rfl) (by decide) (Or.inl ⟨by rfl, (by intro w' hSw; have q : ∀ i, w'.cell? ⟨g, i, none⟩ = _ := fun i => cell_of_row w' _ i _ _ (0, 0) hSw; go_simp; try first | rfl | simp [q])⟩) (bw0) ?_
    try simp only [Act.put, List.getElem_toArray, List.getElem_cons_succ, List.getElem_cons_zero, List.setIfInBounds_toArray, List.set_cons_zero, List.set_cons_succ]
    refine wpAnyK_free (i := 18) (v := cV (r, t.A)) rfl (by kernel_rfl) (by kernel_rfl) (by kernel_rfl) (fun _ _ _ h => h) (by decide) (Or.inl ⟨by rfl, (by intro w' _; go_simp; try first | rfl | (simp [*, Addr.add_lit]; done))⟩) (fun _ => bw0) ?_
    try simp only [Act.put, List.getElem_toArray, List.getElem_cons_succ, List.getElem_cons_zero, List.setIfInBounds_toArray, List.set_cons_zero, List.set_cons_succ]
    refine wpAnyK_ready (rs := [1]) (by kernel_rfl) (by simp) ?_
    refine AllReadyK.cons rfl (fun K hK => ?_) AllReadyK.nil
    go_simp
    refine (shown_alt t M3 (some ⟨gm, 0, none⟩, xc, xs) T3 B3 g _ bw0 HO.out).mono ?_
    rintro e v4 ⟨rfl, rfl⟩
    refine hK.out _ _ (fun _ => bw0) ?_
    clear hK K
    try simp only [Act.put, List.getElem_toArray, List.getElem_cons_succ, List.getElem_cons_zero, List.setIfInBounds_toArray, List.set_cons_zero, List.set_cons_succ]
    refine wpAnyK_free (i := 2) (v := .pointer (some ⟨g, 5, none⟩)) rfl (by kernel_rfl) (by kernel_rfl) (by kernel_rfl) (fun _ _ _ h => h) (by decide) (Or.inl ⟨by rfl, (by intro w' _; go_simp; try first | rfl | (simp [*, Addr.add_lit]; done))⟩) (fun _ => bw0) ?_
    try simp only [Act.put, List.getElem_toArray, List.getElem_cons_succ, List.getElem_cons_zero, List.setIfInBounds_toArray, List.set_cons_zero, List.set_cons_succ]
    refine wpAnyK_take (i := 3) (v := gV t.aW t.aH (some ⟨gm, 0, none⟩) xs.length xc) rfl (by kernel_rfl) (by kernel_rfl) (by kernel_rfl) (fun _ _ _ h => h) (by kernel_rfl) (by kernel_rfl) (by decide) (Or.inl ⟨by rfl, (by intro w' hSw; have q : ∀ i, w'.cell? ⟨g, i, none⟩ = _ := fun i => cell_of_row w' _ i _ _ (0, 0) hSw; go_simp; try first | rfl | simp [q])⟩) (bw0) ?_
    try simp only [Act.put, List.getElem_toArray, List.getElem_cons_succ, List.getElem_cons_zero, List.setIfInBounds_toArray, List.set_cons_zero, List.set_cons_succ]
    refine wpAnyK_ready (rs := [8]) (by kernel_rfl) (by simp) ?_
    refine AllReadyK.cons rfl (fun K hK => ?_) AllReadyK.nil
    go_simp
    refine (HROW.out _).mono ?_
    rintro e v8 ⟨he, hb8⟩
    have he' : e = .returned (.slice (some ⟨gm, p * 6, none⟩) a (xc - p)) := by rw [he, Nat.add_sub_cancel_left]; simp [Addr.add_lit]
    subst he'
    clear he
    have t8 : Below v.heap.size v v8 := (Below.refl _ _).drew.trans hb8
    have b8 := (t8.block _ zgv).trans HBV.out
    have ho8 := HSO.out.below t8 (Nat.le_refl _)
    have y8 := t8.size
    refine hK.out _ _ (fun _ => b8) ?_
    clear hK K
    try simp only [Act.put, List.getElem_toArray, List.getElem_cons_succ, List.getElem_cons_zero, List.setIfInBounds_toArray, List.set_cons_zero, List.set_cons_succ]
    have hXj' := hXj.out
    rw [hXj']
    refine wpAnyK_free (i := 19) (v := .pointer (some ⟨gm, p * 6 + j * 6, none⟩)) rfl (by kernel_rfl) (by kernel_rfl) (by kernel_rfl) (fun _ _ _ h => h) (by decide) (Or.inl ⟨by rfl, (by intro w' _; go_simp; try first | rfl | (simp [*, Addr.add_lit]; done))⟩) (fun _ => b8) ?_
    try simp only [Act.put, List.getElem_toArray, List.getElem_cons_succ, List.getElem_cons_zero, List.setIfInBounds_toArray, List.set_cons_zero, List.set_cons_succ]
    have oX8 : Og v8 lo (some ⟨gm, 0, none⟩) xc xs := ho8.oa
    obtain ⟨⟨e0, x0⟩, ⟨e1, x1⟩, ⟨e2, x2⟩, ⟨e3, x3⟩, ⟨e4, x4⟩, ⟨e5, x5⟩, f0, f1, f2, f3, f4, f5⟩ := oX8.getA hp1
    refine wpAnyK_ready (rs := [20]) (by kernel_rfl) (by simp) ?_
    refine AllReadyK.cons rfl (fun K hK => ?_) AllReadyK.nil
    go_simp
    obtain ⟨v9, hv9⟩ : ∃ v, v = ((((((v8.setCell ⟨gm, p * 6 + j * 6, none⟩ (.int .i64 r)).setCell ⟨gm, p * 6 + j * 6 + 1, none⟩ (.int .i64 t.A.1)).setCell ⟨gm, p * 6 + j * 6 + 2, none⟩ (.int .i64 t.A.2.1)).setCell ⟨gm, p * 6 + j * 6 + 3, none⟩ (.bool t.A.2.2.1)).setCell ⟨gm, p * 6 + j * 6 + 4, none⟩ (.bool t.A.2.2.2.1)).setCell ⟨gm, p * 6 + j * 6 + 5, none⟩ (.bool t.A.2.2.2.2)) := ⟨_, rfl⟩
    rw [← hv9]
    have b9 : v9.heap[g]? = some (.cells (sC t M3 (some ⟨gm, 0, none⟩, xc, xs) T3 B3) 49 (0, 0)) := by rw [hv9]; exact heap_six b8 hgne _ _ _ _ _ _
    have o9 : Og v9 lo (some ⟨gm, 0, none⟩) xc ys := by rw [hv9, hys.out]; exact oX8.setA hp1 (r, t.A)
    have k9 : Chg [some gm] v8 v9 := by rw [hv9]; exact (((((chg1 _ _ _ _).trans (chg1 _ _ _ _)).trans (chg1 _ _ _ _)).trans (chg1 _ _ _ _)).trans (chg1 _ _ _ _)).trans (chg1 _ _ _ _)
    refine hK.out _ _ (late (by kernel_rfl)) ?_
    clear hK K hv9 x0 x1 x2 x3 x4 x5 f0 f1 f2 f3 f4 f5
    try simp only [Act.put, List.getElem_toArray, List.getElem_cons_succ, List.getElem_cons_zero, List.setIfInBounds_toArray, List.set_cons_zero, List.set_cons_succ]
    refine wpAnyK_done (by kernel_rfl) ?_ _
    have HS9 : Hid (So v9 lo M3 (some ⟨gm, 0, none⟩, xc, ys) T3 B3) := So.updA ho8 (A' := (some ⟨gm, 0, none⟩, xc, ys)) rfl k9 o9
    have HC9 : Hid (Chg (some g :: sft M3 (some ⟨gm, 0, none⟩, xc, xs) T3 B3) v v9) := (Chg.of_below _ t8).trans (k9.mono (fun k hk => by rw [List.mem_singleton.1 hk]; exact List.mem_cons_of_mem _ (List.mem_cons_of_mem _ (List.mem_cons.2 (.inl rfl)))))
    have q9 : ∀ i, v9.cell? ⟨g, i, none⟩ = _ := fun i => cell_of_row v9 _ i _ _ (0, 0) b9
    have r9 : ∀ i, v9.frozen? ⟨g, i, none⟩ = false := frz b9
    have b9' : v9.heap[g]? = some (.cells (sC t M3 (some ⟨gm, 0, none⟩, xc, ys) T3 B3) 49 (0, 0)) := by rw [b9]; simp [sC, rv, hys.out]
    by_cases hx : t.X = t.W - 1
    · have FS : Hid (rs = { t with wrap := !t.noWrap }) := F1.out.trans (if_pos hx)
      have ew : IntKind.i64.wrap (t.W - 1) = t.W - 1 := by rw [IntKind.wrap_i64]; have := HD.out; omega
      have kx : ¬ t.X < t.W - 1 := by omega
      have kz := blk_wrap (w := v9.drew) b9' (!t.noWrap)
      have KZ := Lib.hid kz
      have HX9 := Lib.hid hXj'
      clear hx kz b9 b9' b8 hXj'
      go_wp2_with fail
      go_region
      go_wp2_with fail
      refine bodyPost_end (results_none rfl _ _ _) rfl ?_
      have kc : Chg [some g] v9 _ := (Chg.of_below [some g] (Below.refl v9.heap.size v9).drew).trans KZ.out.2.1
      refine ChPost.trans (M1 := M3) (A1 := (some ⟨gm, 0, none⟩, xc, xs)) (T1 := T3) (B1 := B3) (w1 := v) ⟨rfl, M3, (some ⟨gm, 0, none⟩, xc, ys), T3, B3, by rw [FS.out]; exact KZ.out.1, HH9.out, HS9.out.chg kc (fun k hk hm => by simp at hm; exact HN3.out (by rw [← hm]; exact hk)), HN3.out, HC9.out.trans (kc.mono (fun k hk => List.mem_cons.2 (.inl (by simpa using hk)))), fun k hk => .inl hk⟩ HKV.out HSV.out
    · have FS : Hid (rs = { t with X := t.X + 1 }) := F1.out.trans (if_neg hx)
      have ew : IntKind.i64.wrap (t.W - 1) = t.W - 1 := by rw [IntKind.wrap_i64]; have := HD.out; omega
      have ew2 : IntKind.i64.wrap (t.X + 1) = t.X + 1 := by rw [IntKind.wrap_i64]; have := HD.out; omega
      have kx : t.X < t.W - 1 := by have := HD.out; omega
      have kz := blk_x (w := v9.drew) b9' (t.X + 1)
      have KZ := Lib.hid kz
      have HX9 := Lib.hid hXj'
      clear hx kz b9 b9' b8 hXj'
      go_wp2_with fail
      go_region
      go_wp2_with fail
      refine bodyPost_end (results_none rfl _ _ _) rfl ?_
      have kc : Chg [some g] v9 _ := (Chg.of_below [some g] (Below.refl v9.heap.size v9).drew).trans KZ.out.2.1
      refine ChPost.trans (M1 := M3) (A1 := (some ⟨gm, 0, none⟩, xc, xs)) (T1 := T3) (B1 := B3) (w1 := v) ⟨rfl, M3, (some ⟨gm, 0, none⟩, xc, ys), T3, B3, by rw [FS.out]; exact KZ.out.1, HH9.out, HS9.out.chg kc (fun k hk hm => by simp at hm; exact HN3.out (by rw [← hm]; exact hk)), HN3.out, HC9.out.trans (kc.mono (fun k hk => List.mem_cons.2 (.inl (by simpa using hk)))), fun k hk => .inl hk⟩ HKV.out HSV.out
  ·
    obtain ⟨xA, xc, xs⟩ := M3
    have eX : xs = c1.m := hHo.1
    obtain ⟨gm, hgm, hgl, _, hmc, _⟩ := HSO.out.om.fill (by rw [eX]; exact pp1)
    simp only at hgm
    subst hgm
    have hpl := place_lt g1 ⟨x1, by omega⟩ ⟨y1, by omega⟩
    rw [← eX, u1, hWa.out, hXj.out, hYk.out, Int.toNat_natCast, Int.toNat_natCast, Int.toNat_natCast] at hpl
    have hTW : t.mW = (a : Int) := u1.trans hWa.out
    obtain ⟨p, hp⟩ : ∃ p, Hid (p = k * a) := ⟨_, Lib.hid rfl⟩
    rw [← hp.out] at hpl
    obtain ⟨hp1, hp2⟩ := hpl
    have hxl : xs.length ≤ 4000 := by rw [eX]; exact pp2
    have hq1 : Hid (p + a = (k + 1) * a) := by show _ = _; rw [hp.out, Nat.add_mul, Nat.one_mul]
    have hrow := fun w' => row_any a t.mH (some ⟨gm, 0, none⟩) xs.length xc k p (p + a) w' hp hq1 (by omega) hp2 hmc hxl (by omega)
    rw [← hTW, ← hYk.out] at hrow
    have HROW := Lib.hid hrow
    have hja : (j : Int) < (a : Int) := by omega
    have hj0 : (0 : Int) ≤ (j : Int) := Int.natCast_nonneg j
    have hgne : g ≠ gm := fun e => HN3.out (by rw [e]; exact List.mem_cons.2 (.inl rfl))
    have HO := Lib.hid hoA
    obtain ⟨ys, hys⟩ : ∃ ys, Hid (ys = xs.set (p + j) (r, t.A)) := ⟨_, Lib.hid rfl⟩
    have F3 : Hid (rc = { c1 with m := ys }) := by
      show _ = _
      rw [F2.out, hys.out, eX, hp.out, putC, if_neg (by rw [hoA]; simp), hWa.out, hXj.out, hYk.out, Int.toNat_natCast, Int.toNat_natCast, Int.toNat_natCast]
    have HH9 : Hid (Hid (Holds (some ⟨gm, 0, none⟩, xc, ys) A3 T3 B3 rc)) := by
      show Hid _
      rw [F3.out]
      exact ⟨rfl, hHo.2.1, hHo.2.2.1, hHo.2.2.2⟩
    clear hoA eX hrow u1 u2 u3 u4 g1 g2 pp1 pp2 pp3 pp4 hHo x1 x2 y1 y2 hTW d1 d2 d3 d4
    have bw0 : v.drew.heap[g]? = some (.cells (sC t (some ⟨gm, 0, none⟩, xc, xs) A3 T3 B3) 49 (0, 0)) := HBV.out
    have zgv := (Array.getElem?_eq_some_iff.1 HBV.out).1
    refine wp_regionK (fun w' => w'.heap[g]? = some (.cells (sC t (some ⟨gm, 0, none⟩, xc, xs) A3 T3 B3) 49 (0, 0))) 20 (by kernel_rfl) ?_
    refine wpAnyK_free (i := 0) (v := .pointer (some ⟨g, 0, none⟩)) rfl (by kernel_rfl) (by kernel_rfl) (by kernel_rfl) (fun _ _ _ h => h) (by decide) (Or.inl ⟨by rfl, (by intro w' _; go_simp; try first | rfl | (simp [*, Addr.add_lit]; done))⟩) (fun _ => bw0) ?_
    try simp only [Act.put, List.getElem_toArray, List.getElem_cons_zero, List.setIfInBounds_toArray, List.set_cons_zero, List.set_cons_succ]
    refine wpAnyK_free (i := 4) (v := .pointer (some ⟨g, 0, none⟩)) rfl (by kernel_rfl) (by kernel_rfl) (by kernel_rfl) (fun _ _ _ h => h) (by decide) (Or.inl ⟨by rfl, (by intro w' _; go_simp; try first | rfl | (simp [*, Addr.add_lit]; done))⟩) (fun _ => bw0) ?_
    try simp only [Act.put, List.getElem_toArray, List.getElem_cons_succ, List.getElem_cons_zero, List.setIfInBounds_toArray, List.set_cons_zero, List.set_cons_succ]
    refine wpAnyK_free (i := 5) (v := .pointer (some ⟨g, 0, none⟩)) rfl (by kernel_rfl) (by kernel_rfl) (by kernel_rfl) (fun _ _ _ h => h) (by decide) (Or.inl ⟨by rfl, (by intro w' _; go_simp; try first | rfl | (simp [*, Addr.add_lit]; done))⟩) (fun _ => bw0) ?_
    try simp only [Act.put, List.getElem_toArray, List.getElem_cons_succ, List.getElem_cons_zero, List.setIfInBounds_toArray, List.set_cons_zero, List.set_cons_succ]
    refine wpAnyK_free (i := 6) (v := .pointer (some ⟨g, 10, none⟩)) rfl (by kernel_rfl) (by kernel_rfl) (by kernel_rfl) (fun _ _ _ h => h) (by decide) (Or.inl ⟨by rfl, (by intro w' _; go_simp; try first | rfl | (simp [*, Addr.add_lit]; done))⟩) (fun _ => bw0) ?_
    try simp only [Act.put, List.getElem_toArray, List.getElem_cons_succ, List.getElem_cons_zero, List.setIfInBounds_toArray, List.set_cons_zero, List.set_cons_succ]
    refine wpAnyK_take (i := 7) (v := .int .i64 t.Y) rfl (by kernel_rfl) (by kernel_rfl) (by kernel_rfl) (fun _ _ _ h => h) (by kernel_rfl) (by kernel_rfl) (by decide) (Or.inl ⟨by rfl, (by intro w' hSw; have q : ∀ i, w'.cell? ⟨g, i, none⟩ = _ := fun i => cell_of_row w' _ i _ _ (0, 0) hSw; go_simp; try first | rfl | simp [q])⟩) (bw0) ?_
    try simp only [Act.put, List.getElem_toArray, List.getElem_cons_succ, List.getElem_cons_zero, List.setIfInBounds_toArray, List.set_cons_zero, List.set_cons_succ]
    refine wpAnyK_free (i := 9) (v := .pointer (some ⟨g, 0, none⟩)) rfl (by kernel_rfl) (by kernel_rfl) (by kernel_rfl) (fun _ _ _ h => h) (by decide) (Or.inl ⟨by rfl, (by intro w' _; go_simp; try first | rfl | (simp [*, Addr.add_lit]; done))⟩) (fun _ => bw0) ?_
    try simp only [Act.put, List.getElem_toArray, List.getElem_cons_succ, List.getElem_cons_zero, List.setIfInBounds_toArray, List.set_cons_zero, List.set_cons_succ]
    refine wpAnyK_free (i := 10) (v := .pointer (some ⟨g, 0, none⟩)) rfl (by kernel_rfl) (by kernel_rfl) (by kernel_rfl) (fun _ _ _ h => h) (by decide) (Or.inl ⟨by rfl, (by intro w' _; go_simp; try first | rfl | (simp [*, Addr.add_lit]; done))⟩) (fun _ => bw0) ?_
    try simp only [Act.put, List.getElem_toArray, List.getElem_cons_succ, List.getElem_cons_zero, List.setIfInBounds_toArray, List.set_cons_zero, List.set_cons_succ]
    refine wpAnyK_free (i := 11) (v := .pointer (some ⟨g, 9, none⟩)) rfl (by kernel_rfl) (by kernel_rfl) (by kernel_rfl) (fun _ _ _ h => h) (by decide) (Or.inl ⟨by rfl, (by intro w' _; go_simp; try first | rfl | (simp [*, Addr.add_lit]; done))⟩) (fun _ => bw0) ?_
    try simp only [Act.put, List.getElem_toArray, List.getElem_cons_succ, List.getElem_cons_zero, List.setIfInBounds_toArray, List.set_cons_zero, List.set_cons_succ]
    refine wpAnyK_take (i := 12) (v := .int .i64 t.X) rfl (by kernel_rfl) (by kernel_rfl) (by kernel_rfl) (fun _ _ _ h => h) (by kernel_rfl) (by kernel_rfl) (by decide) (Or.inl ⟨by rfl, (by intro w' hSw; have q : ∀ i, w'.cell? ⟨g, i, none⟩ = _ := fun i => cell_of_row w' _ i _ _ (0, 0) hSw; go_simp; try first | rfl | simp [q])⟩) (bw0) ?_
    try simp only [Act.put, List.getElem_toArray, List.getElem_cons_succ, List.getElem_cons_zero, List.setIfInBounds_toArray, List.set_cons_zero, List.set_cons_succ]
    refine wpAnyK_free (i := 13) (v := .int .i64 r) rfl (by kernel_rfl) (by kernel_rfl) (by kernel_rfl) (fun _ _ _ h => h) (by decide) (Or.inl ⟨by rfl, (by intro w' _; go_simp; try first | rfl | (simp [*, Addr.add_lit]; done))⟩) (fun _ => bw0) ?_
    try simp only [Act.put, List.getElem_toArray, List.getElem_cons_succ, List.getElem_cons_zero, List.setIfInBounds_toArray, List.set_cons_zero, List.set_cons_succ]
    refine wpAnyK_free (i := 14) (v := .pointer (some ⟨g, 0, none⟩)) rfl (by kernel_rfl) (by kernel_rfl) (by kernel_rfl) (fun _ _ _ h => h) (by decide) (Or.inl ⟨by rfl, (by intro w' _; go_simp; try first | rfl | (simp [*, Addr.add_lit]; done))⟩) (fun _ => bw0) ?_
    try simp only [Act.put, List.getElem_toArray, List.getElem_cons_succ, List.getElem_cons_zero, List.setIfInBounds_toArray, List.set_cons_zero, List.set_cons_succ]
    refine wpAnyK_free (i := 15) (v := .pointer (some ⟨g, 0, none⟩)) rfl (by kernel_rfl) (by kernel_rfl) (by kernel_rfl) (fun _ _ _ h => h) (by decide) (Or.inl ⟨by rfl, (by intro w' _; go_simp; try first | rfl | (simp [*, Addr.add_lit]; done))⟩) (fun _ => bw0) ?_
    try simp only [Act.put, List.getElem_toArray, List.getElem_cons_succ, List.getElem_cons_zero, List.setIfInBounds_toArray, List.set_cons_zero, List.set_cons_succ]
    refine wpAnyK_free (i := 16) (v := .pointer (some ⟨g, 12, none⟩)) rfl (by kernel_rfl) (by kernel_rfl) (by kernel_rfl) (fun _ _ _ h => h) (by decide) (Or.inl ⟨by rfl, (by intro w' _; go_simp; try first | rfl | (simp [*, Addr.add_lit]; done))⟩) (fun _ => bw0) ?_
    try simp only [Act.put, List.getElem_toArray, List.getElem_cons_succ, List.getElem_cons_zero, List.setIfInBounds_toArray, List.set_cons_zero, List.set_cons_succ]
    refine wpAnyK_take (i := 17) (v := .agg #[.int .i64 t.A.1, .int .i64 t.A.2.1, .bool t.A.2.2.1, .bool t.A.2.2.2.1, .bool t.A.2.2.2.2]) rfl (by kernel_rfl) (by kernel_rfl) (by kernel_rfl) (fun _ _ _ h => h) (by kernel_rfl) (by kernel_rfl) (by decide) (Or.inl ⟨by rfl, (by intro w' hSw; have q : ∀ i, w'.cell? ⟨g, i, none⟩ = _ := fun i => cell_of_row w' _ i _ _ (0, 0) hSw; go_simp; try first | rfl | simp [q])⟩) (bw0) ?_
    try simp only [Act.put, List.getElem_toArray, List.getElem_cons_succ, List.getElem_cons_zero, List.setIfInBounds_toArray, List.set_cons_zero, List.set_cons_succ]
    refine wpAnyK_free (i := 18) (v := cV (r, t.A)) rfl (by kernel_rfl) (by kernel_rfl) (by kernel_rfl) (fun _ _ _ h => h) (by decide) (Or.inl ⟨by rfl, (by intro w' _; go_simp; try first | rfl | (simp [*, Addr.add_lit]; done))⟩) (fun _ => bw0) ?_
    try simp only [Act.put, List.getElem_toArray, List.getElem_cons_succ, List.getElem_cons_zero, List.setIfInBounds_toArray, List.set_cons_zero, List.set_cons_succ]
    refine wpAnyK_ready (rs := [1]) (by kernel_rfl) (by simp) ?_
    refine AllReadyK.cons rfl (fun K hK => ?_) AllReadyK.nil
    go_simp
    refine (shown_main t (some ⟨gm, 0, none⟩, xc, xs) A3 T3 B3 g _ bw0 HO.out).mono ?_
    rintro e v4 ⟨rfl, rfl⟩
    refine hK.out _ _ (fun _ => bw0) ?_
    clear hK K
    try simp only [Act.put, List.getElem_toArray, List.getElem_cons_succ, List.getElem_cons_zero, List.setIfInBounds_toArray, List.set_cons_zero, List.set_cons_succ]
    refine wpAnyK_free (i := 2) (v := .pointer (some ⟨g, 2, none⟩)) rfl (by kernel_rfl) (by kernel_rfl) (by kernel_rfl) (fun _ _ _ h => h) (by decide) (Or.inl ⟨by rfl, (by intro w' _; go_simp; try first | rfl | (simp [*, Addr.add_lit]; done))⟩) (fun _ => bw0) ?_
    try simp only [Act.put, List.getElem_toArray, List.getElem_cons_succ, List.getElem_cons_zero, List.setIfInBounds_toArray, List.set_cons_zero, List.set_cons_succ]
    refine wpAnyK_take (i := 3) (v := gV t.mW t.mH (some ⟨gm, 0, none⟩) xs.length xc) rfl (by kernel_rfl) (by kernel_rfl) (by kernel_rfl) (fun _ _ _ h => h) (by kernel_rfl) (by kernel_rfl) (by decide) (Or.inl ⟨by rfl, (by intro w' hSw; have q : ∀ i, w'.cell? ⟨g, i, none⟩ = _ := fun i => cell_of_row w' _ i _ _ (0, 0) hSw; go_simp; try first | rfl | simp [q])⟩) (bw0) ?_
    try simp only [Act.put, List.getElem_toArray, List.getElem_cons_succ, List.getElem_cons_zero, List.setIfInBounds_toArray, List.set_cons_zero, List.set_cons_succ]
    refine wpAnyK_ready (rs := [8]) (by kernel_rfl) (by simp) ?_
    refine AllReadyK.cons rfl (fun K hK => ?_) AllReadyK.nil
    go_simp
    refine (HROW.out _).mono ?_
    rintro e v8 ⟨he, hb8⟩
    have he' : e = .returned (.slice (some ⟨gm, p * 6, none⟩) a (xc - p)) := by rw [he, Nat.add_sub_cancel_left]; simp [Addr.add_lit]
    subst he'
    clear he
    have t8 : Below v.heap.size v v8 := (Below.refl _ _).drew.trans hb8
    have b8 := (t8.block _ zgv).trans HBV.out
    have ho8 := HSO.out.below t8 (Nat.le_refl _)
    have y8 := t8.size
    refine hK.out _ _ (fun _ => b8) ?_
    clear hK K
    try simp only [Act.put, List.getElem_toArray, List.getElem_cons_succ, List.getElem_cons_zero, List.setIfInBounds_toArray, List.set_cons_zero, List.set_cons_succ]
    have hXj' := hXj.out
    rw [hXj']
    refine wpAnyK_free (i := 19) (v := .pointer (some ⟨gm, p * 6 + j * 6, none⟩)) rfl (by kernel_rfl) (by kernel_rfl) (by kernel_rfl) (fun _ _ _ h => h) (by decide) (Or.inl ⟨by rfl, (by intro w' _; go_simp; try first | rfl | (simp [*, Addr.add_lit]; done))⟩) (fun _ => b8) ?_
    try simp only [Act.put, List.getElem_toArray, List.getElem_cons_succ, List.getElem_cons_zero, List.setIfInBounds_toArray, List.set_cons_zero, List.set_cons_succ]
    have oX8 : Og v8 lo (some ⟨gm, 0, none⟩) xc xs := ho8.om
    obtain ⟨⟨e0, x0⟩, ⟨e1, x1⟩, ⟨e2, x2⟩, ⟨e3, x3⟩, ⟨e4, x4⟩, ⟨e5, x5⟩, f0, f1, f2, f3, f4, f5⟩ := oX8.getA hp1
    refine wpAnyK_ready (rs := [20]) (by kernel_rfl) (by simp) ?_
    refine AllReadyK.cons rfl (fun K hK => ?_) AllReadyK.nil
    go_simp
    obtain ⟨v9, hv9⟩ : ∃ v, v = ((((((v8.setCell ⟨gm, p * 6 + j * 6, none⟩ (.int .i64 r)).setCell ⟨gm, p * 6 + j * 6 + 1, none⟩ (.int .i64 t.A.1)).setCell ⟨gm, p * 6 + j * 6 + 2, none⟩ (.int .i64 t.A.2.1)).setCell ⟨gm, p * 6 + j * 6 + 3, none⟩ (.bool t.A.2.2.1)).setCell ⟨gm, p * 6 + j * 6 + 4, none⟩ (.bool t.A.2.2.2.1)).setCell ⟨gm, p * 6 + j * 6 + 5, none⟩ (.bool t.A.2.2.2.2)) := ⟨_, rfl⟩
    rw [← hv9]
    have b9 : v9.heap[g]? = some (.cells (sC t (some ⟨gm, 0, none⟩, xc, xs) A3 T3 B3) 49 (0, 0)) := by rw [hv9]; exact heap_six b8 hgne _ _ _ _ _ _
    have o9 : Og v9 lo (some ⟨gm, 0, none⟩) xc ys := by rw [hv9, hys.out]; exact oX8.setA hp1 (r, t.A)
    have k9 : Chg [some gm] v8 v9 := by rw [hv9]; exact (((((chg1 _ _ _ _).trans (chg1 _ _ _ _)).trans (chg1 _ _ _ _)).trans (chg1 _ _ _ _)).trans (chg1 _ _ _ _)).trans (chg1 _ _ _ _)
    refine hK.out _ _ (late (by kernel_rfl)) ?_
    clear hK K hv9 x0 x1 x2 x3 x4 x5 f0 f1 f2 f3 f4 f5
    try simp only [Act.put, List.getElem_toArray, List.getElem_cons_succ, List.getElem_cons_zero, List.setIfInBounds_toArray, List.set_cons_zero, List.set_cons_succ]
    refine wpAnyK_done (by kernel_rfl) ?_ _
    have HS9 : Hid (So v9 lo (some ⟨gm, 0, none⟩, xc, ys) A3 T3 B3) := So.updM ho8 (M' := (some ⟨gm, 0, none⟩, xc, ys)) rfl k9 o9
    have HC9 : Hid (Chg (some g :: sft (some ⟨gm, 0, none⟩, xc, xs) A3 T3 B3) v v9) := (Chg.of_below _ t8).trans (k9.mono (fun k hk => by rw [List.mem_singleton.1 hk]; exact List.mem_cons_of_mem _ (List.mem_cons.2 (.inl rfl))))
    have q9 : ∀ i, v9.cell? ⟨g, i, none⟩ = _ := fun i => cell_of_row v9 _ i _ _ (0, 0) b9
    have r9 : ∀ i, v9.frozen? ⟨g, i, none⟩ = false := frz b9
    have b9' : v9.heap[g]? = some (.cells (sC t (some ⟨gm, 0, none⟩, xc, ys) A3 T3 B3) 49 (0, 0)) := by rw [b9]; simp [sC, rv, hys.out]
    by_cases hx : t.X = t.W - 1
    · have FS : Hid (rs = { t with wrap := !t.noWrap }) := F1.out.trans (if_pos hx)
      have ew : IntKind.i64.wrap (t.W - 1) = t.W - 1 := by rw [IntKind.wrap_i64]; have := HD.out; omega
      have kx : ¬ t.X < t.W - 1 := by omega
      have kz := blk_wrap (w := v9.drew) b9' (!t.noWrap)
      have KZ := Lib.hid kz
      have HX9 := Lib.hid hXj'
      clear hx kz b9 b9' b8 hXj'
      go_wp2_with fail
      go_region
      go_wp2_with fail
      refine bodyPost_end (results_none rfl _ _ _) rfl ?_
      have kc : Chg [some g] v9 _ := (Chg.of_below [some g] (Below.refl v9.heap.size v9).drew).trans KZ.out.2.1
      refine ChPost.trans (M1 := (some ⟨gm, 0, none⟩, xc, xs)) (A1 := A3) (T1 := T3) (B1 := B3) (w1 := v) ⟨rfl, (some ⟨gm, 0, none⟩, xc, ys), A3, T3, B3, by rw [FS.out]; exact KZ.out.1, HH9.out, HS9.out.chg kc (fun k hk hm => by simp at hm; exact HN3.out (by rw [← hm]; exact hk)), HN3.out, HC9.out.trans (kc.mono (fun k hk => List.mem_cons.2 (.inl (by simpa using hk)))), fun k hk => .inl hk⟩ HKV.out HSV.out
    · have FS : Hid (rs = { t with X := t.X + 1 }) := F1.out.trans (if_neg hx)
      have ew : IntKind.i64.wrap (t.W - 1) = t.W - 1 := by rw [IntKind.wrap_i64]; have := HD.out; omega
      have ew2 : IntKind.i64.wrap (t.X + 1) = t.X + 1 := by rw [IntKind.wrap_i64]; have := HD.out; omega
      have kx : t.X < t.W - 1 := by have := HD.out; omega
      have kz := blk_x (w := v9.drew) b9' (t.X + 1)
      have KZ := Lib.hid kz
      have HX9 := Lib.hid hXj'
      clear hx kz b9 b9' b8 hXj'
      go_wp2_with fail
      go_region
      go_wp2_with fail
      refine bodyPost_end (results_none rfl _ _ _) rfl ?_
      have kc : Chg [some g] v9 _ := (Chg.of_below [some g] (Below.refl v9.heap.size v9).drew).trans KZ.out.2.1
      refine ChPost.trans (M1 := (some ⟨gm, 0, none⟩, xc, xs)) (A1 := A3) (T1 := T3) (B1 := B3) (w1 := v) ⟨rfl, (some ⟨gm, 0, none⟩, xc, ys), A3, T3, B3, by rw [FS.out]; exact KZ.out.1, HH9.out, HS9.out.chg kc (fun k hk hm => by simp at hm; exact HN3.out (by rw [← hm]; exact hk)), HN3.out, HC9.out.trans (kc.mono (fun k hk => List.mem_cons.2 (.inl (by simpa using hk)))), fun k hk => .inl hk⟩ HKV.out HSV.out
set_option maxHeartbeats 8000000 in
theorem runeP_w (s : Sc) (M A : Rw) (T : Ti) (B : Tr) (c : Cont) (r : Int) (lo g : Nat) (w : World) (hq : scrB s c = true) (hb : w.heap[g]? = some (.cells (sC s M A T B) 49 (0, 0))) (ho : So w lo M A T B) (hh : Hid (Holds M A T B c)) (hn : some g ∉ sft M A T B) (hlg : lo ≤ g) (hw0 : s.wrap = true) :
    Calls Try.prog 111 #[.pointer (some ⟨g, 0, none⟩), .int .i64 r] w (ChPost lo g M A T B w (runS (rS1 s)) (putC (rS1 s) (rC1 s c) r)) := by
  obtain ⟨t, ht⟩ : ∃ t, Hid (t = rS1 s) := ⟨_, Lib.hid rfl⟩
  obtain ⟨c1, hc1⟩ : ∃ c1, Hid (c1 = rC1 s c) := ⟨_, Lib.hid rfl⟩
  obtain ⟨rs, hrs⟩ : ∃ x, Hid (x = runS (rS1 s)) := ⟨_, Lib.hid rfl⟩
  obtain ⟨rc, hrc⟩ : ∃ x, Hid (x = putC (rS1 s) (rC1 s c) r) := ⟨_, Lib.hid rfl⟩
  rw [← hrs.out, ← hrc.out]
  have F1 : Hid (rs = runS t) := by show _ = _; rw [hrs.out, ht.out]
  have F2 : Hid (rc = putC t c1 r) := by show _ = _; rw [hrc.out, ht.out, hc1.out]
  have HV : Hid (scrB t c1 = true) := by show _ = _; rw [ht.out, hc1.out]; exact scr_r1 hq
  obtain ⟨ds, hds⟩ : ∃ x, Hid (x = downS s) := ⟨_, Lib.hid rfl⟩
  have HT1 : Hid (t = { ds with X := 0 }) := by show _ = _; rw [ht.out, hds.out]; exact if_pos hw0
  have hc2 : c1 = downC s c := by rw [hc1.out]; exact if_pos hw0
  have HDN := Lib.hid (down_any s M A T B c lo g w hq hb ho hh hn hlg)
  rw [← hds.out, ← hc2] at HDN
  have q11 : w.cell? ⟨g, 11, none⟩ = some (.bool true) := by rw [cell_of_row w _ 11 _ _ (0, 0) hb]; show some (Value.bool s.wrap) = _; rw [hw0]
  clear hw0 hc2
  go_enter Try.func111, Try.ntmps111
  go_wp2_with fail
  refine HDN.out.mono ?_
  rintro e w1 ⟨rfl, M3, A3, T3, B3, b1, hh1, ho1, hn1, k1, s1⟩
  have q1 : ∀ i, w1.cell? ⟨g, i, none⟩ = _ := fun i => cell_of_row w1 _ i _ _ (0, 0) b1
  have r1 : ∀ i, w1.frozen? ⟨g, i, none⟩ = false := frz b1
  have kx := blk_x b1 0
  have KX := Lib.hid kx
  clear kx q11
  go_wp2_with fail
  clear q1 r1
  obtain ⟨v, hv⟩ : ∃ x, x = w1.setCell ⟨g, 9, none⟩ (.int .i64 0) := ⟨_, rfl⟩
  have HBV : Hid (v.heap[g]? = some (.cells (sC t M3 A3 T3 B3) 49 (0, 0))) := by show _ = _; rw [hv, HT1.out]; exact KX.out.1
  have HSO : Hid (So v lo M3 A3 T3 B3) := by rw [hv]; exact ho1.chg KX.out.2.1 (fun k hk hm => by simp at hm; exact hn1 (by rw [← hm]; exact hk))
  have HH := hh1
  have HN3 := Lib.hid hn1
  have HKV : Hid (Chg (some g :: sft M A T B) w v) := by rw [hv]; exact k1.trans (KX.out.2.1.mono (fun k hk => List.mem_cons.2 (.inl (by simpa using hk))))
  have HSV := Lib.hid s1
  rw [← hv]
  clear hv hb hq hn b1 hn1 s1 k1
  obtain ⟨⟨u1, u2, u3, u4⟩, ⟨x1, x2, y1, y2⟩, _, _⟩ := scr_nums HV.out
  obtain ⟨g1, g2, _, _, _⟩ := scr_grids HV.out
  obtain ⟨pp1, pp2⟩ := grid_pos g1
  obtain ⟨pp3, pp4⟩ := grid_pos g2
  obtain ⟨⟨d1, d2⟩, d3, d4⟩ := scr_dims HV.out
  have HD : Hid ((1 ≤ t.W ∧ t.W ≤ 120) ∧ 0 ≤ t.X ∧ t.X < t.W) := ⟨⟨d1, d2⟩, x1, x2⟩
  have hHo := HH.out
  obtain ⟨a, ha⟩ := Int.eq_ofNat_of_zero_le (show 0 ≤ t.W by omega)
  obtain ⟨j, hj⟩ := Int.eq_ofNat_of_zero_le x1
  obtain ⟨k, hk⟩ := Int.eq_ofNat_of_zero_le y1
  have hk120 : k ≤ 120 := by omega
  have ha1 : 1 ≤ a := by omega
  have hja0 : j < a := by omega
  have hWa := Lib.hid ha
  have hXj := Lib.hid hj
  have hYk := Lib.hid hk
  clear ha hj hk
  rcases Bool.eq_false_or_eq_true t.onA with hoA | hoA
  ·
    obtain ⟨xA, xc, xs⟩ := A3
    have eX : xs = c1.a := hHo.2.1
    obtain ⟨gm, hgm, hgl, _, hmc, _⟩ := HSO.out.oa.fill (by rw [eX]; exact pp3)
    simp only at hgm
    subst hgm
    have hpl := place_lt g2 ⟨x1, by omega⟩ ⟨y1, by omega⟩
    rw [← eX, u3, hWa.out, hXj.out, hYk.out, Int.toNat_natCast, Int.toNat_natCast, Int.toNat_natCast] at hpl
    have hTW : t.aW = (a : Int) := u3.trans hWa.out
    obtain ⟨p, hp⟩ : ∃ p, Hid (p = k * a) := ⟨_, Lib.hid rfl⟩
    rw [← hp.out] at hpl
    obtain ⟨hp1, hp2⟩ := hpl
    have hxl : xs.length ≤ 4000 := by rw [eX]; exact pp4
    have hq1 : Hid (p + a = (k + 1) * a) := by show _ = _; rw [hp.out, Nat.add_mul, Nat.one_mul]
    have hrow := fun w' => row_any a t.aH (some ⟨gm, 0, none⟩) xs.length xc k p (p + a) w' hp hq1 (by omega) hp2 hmc hxl (by omega)
    rw [← hTW, ← hYk.out] at hrow
    have HROW := Lib.hid hrow
    have hja : (j : Int) < (a : Int) := by omega
    have hj0 : (0 : Int) ≤ (j : Int) := Int.natCast_nonneg j
    have hgne : g ≠ gm := fun e => HN3.out (by rw [e]; exact List.mem_cons_of_mem _ (List.mem_cons.2 (.inl rfl)))
    have HO := Lib.hid hoA
    obtain ⟨ys, hys⟩ : ∃ ys, Hid (ys = xs.set (p + j) (r, t.A)) := ⟨_, Lib.hid rfl⟩
    have F3 : Hid (rc = { c1 with a := ys }) := by
      show _ = _
      rw [F2.out, hys.out, eX, hp.out, putC, if_pos hoA, hWa.out, hXj.out, hYk.out, Int.toNat_natCast, Int.toNat_natCast, Int.toNat_natCast]
    have HH9 : Hid (Hid (Holds M3 (some ⟨gm, 0, none⟩, xc, ys) T3 B3 rc)) := by
      show Hid _
      rw [F3.out]
      exact ⟨hHo.1, rfl, hHo.2.2.1, hHo.2.2.2⟩
    clear hoA eX hrow u1 u2 u3 u4 g1 g2 pp1 pp2 pp3 pp4 hHo x1 x2 y1 y2 hTW d1 d2 d3 d4
    have bw0 : v.drew.heap[g]? = some (.cells (sC t M3 (some ⟨gm, 0, none⟩, xc, xs) T3 B3) 49 (0, 0)) := HBV.out
    have zgv := (Array.getElem?_eq_some_iff.1 HBV.out).1
    refine wp_regionK (fun w' => w'.heap[g]? = some (.cells (sC t M3 (some ⟨gm, 0, none⟩, xc, xs) T3 B3) 49 (0, 0))) 20 (by kernel_rfl) ?_
    refine wpAnyK_free (i := 0) (v := .pointer (some ⟨g, 0, none⟩)) rfl (by kernel_rfl) (by kernel_rfl) (by kernel_rfl) (fun _ _ _ h => h) (by decide) (Or.inl ⟨by rfl, (by intro w' _; go_simp; try first | rfl | (simp [*, Addr.add_lit]; done))⟩) (fun _ => bw0) ?_
    try simp only [Act.put, List.getElem_toArray, List.getElem_cons_zero, List.setIfInBounds_toArray, List.set_cons_zero, List.set_cons_succ]
    refine wpAnyK_free (i := 4) (v := .pointer (some ⟨g, 0, none⟩)) rfl (by kernel_rfl) (by kernel_rfl) (by kernel_rfl) (fun _ _ _ h => h) (by decide) (Or.inl ⟨by rfl, (by intro w' _; go_simp; try first | rfl | (simp [*, Addr.add_lit]; done))⟩) (fun _ => bw0) ?_
    try simp only [Act.put, List.getElem_toArray, List.getElem_cons_succ, List.getElem_cons_zero, List.setIfInBounds_toArray, List.set_cons_zero, List.set_cons_succ]
    refine wpAnyK_free (i := 5) (v := .pointer (some ⟨g, 0, none⟩)) rfl (by kernel_rfl) (by kernel_rfl) (by kernel_rfl) (fun _ _ _ h => h) (by decide) (Or.inl ⟨by rfl, (by intro w' _; go_simp; try first | rfl | (simp [*, Addr.add_lit]; done))⟩) (fun _ => bw0) ?_
    try simp only [Act.put, List.getElem_toArray, List.getElem_cons_succ, List.getElem_cons_zero, List.setIfInBounds_toArray, List.set_cons_zero, List.set_cons_succ]
    refine wpAnyK_free (i := 6) (v := .pointer (some ⟨g, 10, none⟩)) rfl (by kernel_rfl) (by kernel_rfl) (by kernel_rfl) (fun _ _ _ h => h) (by decide) (Or.inl ⟨by rfl, (by intro w' _; go_simp; try first | rfl | (simp [*, Addr.add_lit]; done))⟩) (fun _ => bw0) ?_
    try simp only [Act.put, List.getElem_toArray, List.getElem_cons_succ, List.getElem_cons_zero, List.setIfInBounds_toArray, List.set_cons_zero, List.set_cons_succ]
    refine wpAnyK_take (i := 7) (v := .int .i64 t.Y) rfl (by kernel_rfl) (by kernel_rfl) (by kernel_rfl) (fun _ _ _ h => h) (by kernel_rfl) (by kernel_rfl) (by decide) (Or.inl ⟨by rfl, (by intro w' hSw; have q : ∀ i, w'.cell? ⟨g, i, none⟩ = _ := fun i => cell_of_row w' _ i _ _ (0, 0) hSw; go_simp; try first | rfl | simp [q])⟩) (bw0) ?_
    try simp only [Act.put, List.getElem_toArray, List.getElem_cons_succ, List.getElem_cons_zero, List.setIfInBounds_toArray, List.set_cons_zero, List.set_cons_succ]
    refine wpAnyK_free (i := 9) (v := .pointer (some ⟨g, 0, none⟩)) rfl (by kernel_rfl) (by kernel_rfl) (by kernel_rfl) (fun _ _ _ h => h) (by decide) (Or.inl ⟨by rfl, (by intro w' _; go_simp; try first | rfl | (simp [*, Addr.add_lit]; done))⟩) (fun _ => bw0) ?_
    try simp only [Act.put, List.getElem_toArray, List.getElem_cons_succ, List.getElem_cons_zero, List.setIfInBounds_toArray, List.set_cons_zero, List.set_cons_succ]
    refine wpAnyK_free (i := 10) (v := .pointer (some ⟨g, 0, none⟩)) rfl (by kernel_rfl) (by kernel_rfl) (by kernel_rfl) (fun _ _ _ h => h) (by decide) (Or.inl ⟨by rfl, (by intro w' _; go_simp; try first | rfl | (simp [*, Addr.add_lit]; done))⟩) (fun _ => bw0) ?_
    try simp only [Act.put, List.getElem_toArray, List.getElem_cons_succ, List.getElem_cons_zero, List.setIfInBounds_toArray, List.set_cons_zero, List.set_cons_succ]
    refine wpAnyK_free (i := 11) (v := .pointer (some ⟨g, 9, none⟩)) rfl (by kernel_rfl) (by kernel_rfl) (by kernel_rfl) (fun _ _ _ h => h) (by decide) (Or.inl ⟨by rfl, (by intro w' _; go_simp; try first | rfl | (simp [*, Addr.add_lit]; done))⟩) (fun _ => bw0) ?_
    try simp only [Act.put, List.getElem_toArray, List.getElem_cons_succ, List.getElem_cons_zero, List.setIfInBounds_toArray, List.set_cons_zero, List.set_cons_succ]
    refine wpAnyK_take (i := 12) (v := .int .i64 t.X) rfl (by kernel_rfl) (by kernel_rfl) (by kernel_rfl) (fun _ _ _ h => h) (by kernel_rfl) (by kernel_rfl) (by decide) (Or.inl ⟨by rfl, (by intro w' hSw; have q : ∀ i, w'.cell? ⟨g, i, none⟩ = _ := fun i => cell_of_row w' _ i _ _ (0, 0) hSw; go_simp; try first | rfl | simp [q])⟩) (bw0) ?_
    try simp only [Act.put, List.getElem_toArray, List.getElem_cons_succ, List.getElem_cons_zero, List.setIfInBounds_toArray, List.set_cons_zero, List.set_cons_succ]
    refine wpAnyK_free (i := 13) (v := .int .i64 r) rfl (by kernel_rfl) (by kernel_rfl) (by kernel_rfl) (fun _ _ _ h => h) (by decide) (Or.inl ⟨by rfl, (by intro w' _; go_simp; try first | rfl | (simp [*, Addr.add_lit]; done))⟩) (fun _ => bw0) ?_
    try simp only [Act.put, List.getElem_toArray, List.getElem_cons_succ, List.getElem_cons_zero, List.setIfInBounds_toArray, List.set_cons_zero, List.set_cons_succ]
    refine wpAnyK_free (i := 14) (v := .pointer (some ⟨g, 0, none⟩)) rfl (by kernel_rfl) (by kernel_rfl) (by kernel_rfl) (fun _ _ _ h => h) (by decide) (Or.inl ⟨by rfl, (by intro w' _; go_simp; try first | rfl | (simp [*, Addr.add_lit]; done))⟩) (fun _ => bw0) ?_
    try simp only [Act.put, List.getElem_toArray, List.getElem_cons_succ, List.getElem_cons_zero, List.setIfInBounds_toArray, List.set_cons_zero, List.set_cons_succ]
    refine wpAnyK_free (i := 15) (v := .pointer (some ⟨g, 0, none⟩)) rfl (by kernel_rfl) (by kernel_rfl) (by kernel_rfl) (fun _ _ _ h => h) (by decide) (Or.inl ⟨by rfl, (by intro w' _; go_simp; try first | rfl | (simp [*, Addr.add_lit]; done))⟩) (fun _ => bw0) ?_
    try simp only [Act.put, List.getElem_toArray, List.getElem_cons_succ, List.getElem_cons_zero, List.setIfInBounds_toArray, List.set_cons_zero, List.set_cons_succ]
    refine wpAnyK_free (i := 16) (v := .pointer (some ⟨g, 12, none⟩)) rfl (by kernel_rfl) (by kernel_rfl) (by kernel_rfl) (fun _ _ _ h => h) (by decide) (Or.inl ⟨by rfl, (by intro w' _; go_simp; try first | rfl | (simp [*, Addr.add_lit]; done))⟩) (fun _ => bw0) ?_
    try simp only [Act.put, List.getElem_toArray, List.getElem_cons_succ, List.getElem_cons_zero, List.setIfInBounds_toArray, List.set_cons_zero, List.set_cons_succ]
    refine wpAnyK_take (i := 17) (v := .agg #[.int .i64 t.A.1, .int .i64 t.A.2.1, .bool t.A.2.2.1, .bool t.A.2.2.2.1, .bool t.A.2.2.2.2]) rfl (by kernel_rfl) (by kernel_rfl) (by kernel_rfl) (fun _ _ _ h => h) (by kernel_rfl) (by kernel_rfl) (by decide) (Or.inl ⟨by rfl, (by intro w' hSw; have q : ∀ i, w'.cell? ⟨g, i, none⟩ = _ := fun i => cell_of_row w' _ i _ _ (0, 0) hSw; go_simp; try first | rfl | simp [q])⟩) (bw0) ?_
    try simp only [Act.put, List.getElem_toArray, List.getElem_cons_succ, List.getElem_cons_zero, List.setIfInBounds_toArray, List.set_cons_zero, List.set_cons_succ]
    refine wpAnyK_free (i := 18) (v := cV (r, t.A)) rfl (by kernel_rfl) (by kernel_rfl) (by kernel_rfl) (fun _ _ _ h => h) (by decide) (Or.inl ⟨by rfl, (by intro w' _; go_simp; try first | rfl | (simp [*, Addr.add_lit]; done))⟩) (fun _ => bw0) ?_
    try simp only [Act.put, List.getElem_toArray, List.getElem_cons_succ, List.getElem_cons_zero, List.setIfInBounds_toArray, List.set_cons_zero, List.set_cons_succ]
    refine wpAnyK_ready (rs := [1]) (by kernel_rfl) (by simp) ?_
    refine AllReadyK.cons rfl (fun K hK => ?_) AllReadyK.nil
    go_simp
    refine (shown_alt t M3 (some ⟨gm, 0, none⟩, xc, xs) T3 B3 g _ bw0 HO.out).mono ?_
    rintro e v4 ⟨rfl, rfl⟩
    refine hK.out _ _ (fun _ => bw0) ?_
    clear hK K
    try simp only [Act.put, List.getElem_toArray, List.getElem_cons_succ, List.getElem_cons_zero, List.setIfInBounds_toArray, List.set_cons_zero, List.set_cons_succ]
    refine wpAnyK_free (i := 2) (v := .pointer (some ⟨g, 5, none⟩)) rfl (by kernel_rfl) (by kernel_rfl) (by kernel_rfl) (fun _ _ _ h => h) (by decide) (Or.inl ⟨by rfl, (by intro w' _; go_simp; try first | rfl | (simp [*, Addr.add_lit]; done))⟩) (fun _ => bw0) ?_
    try simp only [Act.put, List.getElem_toArray, List.getElem_cons_succ, List.getElem_cons_zero, List.setIfInBounds_toArray, List.set_cons_zero, List.set_cons_succ]
    refine wpAnyK_take (i := 3) (v := gV t.aW t.aH (some ⟨gm, 0, none⟩) xs.length xc) rfl (by kernel_rfl) (by kernel_rfl) (by kernel_rfl) (fun _ _ _ h => h) (by kernel_rfl) (by kernel_rfl) (by decide) (Or.inl ⟨by rfl, (by intro w' hSw; have q : ∀ i, w'.cell? ⟨g, i, none⟩ = _ := fun i => cell_of_row w' _ i _ _ (0, 0) hSw; go_simp; try first | rfl | simp [q])⟩) (bw0) ?_
    try simp only [Act.put, List.getElem_toArray, List.getElem_cons_succ, List.getElem_cons_zero, List.setIfInBounds_toArray, List.set_cons_zero, List.set_cons_succ]
    refine wpAnyK_ready (rs := [8]) (by kernel_rfl) (by simp) ?_
    refine AllReadyK.cons rfl (fun K hK => ?_) AllReadyK.nil
    go_simp
    refine (HROW.out _).mono ?_
    rintro e v8 ⟨he, hb8⟩
    have he' : e = .returned (.slice (some ⟨gm, p * 6, none⟩) a (xc - p)) := by rw [he, Nat.add_sub_cancel_left]; simp [Addr.add_lit]
    subst he'
    clear he
    have t8 : Below v.heap.size v v8 := (Below.refl _ _).drew.trans hb8
    have b8 := (t8.block _ zgv).trans HBV.out
    have ho8 := HSO.out.below t8 (Nat.le_refl _)
    have y8 := t8.size
    refine hK.out _ _ (fun _ => b8) ?_
    clear hK K
    try simp only [Act.put, List.getElem_toArray, List.getElem_cons_succ, List.getElem_cons_zero, List.setIfInBounds_toArray, List.set_cons_zero, List.set_cons_succ]
    have hXj' := hXj.out
    rw [hXj']
    refine wpAnyK_free (i := 19) (v := .pointer (some ⟨gm, p * 6 + j * 6, none⟩)) rfl (by kernel_rfl) (by kernel_rfl) (by kernel_rfl) (fun _ _ _ h => h) (by decide) (Or.inl ⟨by rfl, (by intro w' _; go_simp; try first | rfl | (simp [*, Addr.add_lit]; done))⟩) (fun _ => b8) ?_
    try simp only [Act.put, List.getElem_toArray, List.getElem_cons_succ, List.getElem_cons_zero, List.setIfInBounds_toArray, List.set_cons_zero, List.set_cons_succ]
    have oX8 : Og v8 lo (some ⟨gm, 0, none⟩) xc xs := ho8.oa
    obtain ⟨⟨e0, x0⟩, ⟨e1, x1⟩, ⟨e2, x2⟩, ⟨e3, x3⟩, ⟨e4, x4⟩, ⟨e5, x5⟩, f0, f1, f2, f3, f4, f5⟩ := oX8.getA hp1
    refine wpAnyK_ready (rs := [20]) (by kernel_rfl) (by simp) ?_
    refine AllReadyK.cons rfl (fun K hK => ?_) AllReadyK.nil
    go_simp
    obtain ⟨v9, hv9⟩ : ∃ v, v = ((((((v8.setCell ⟨gm, p * 6 + j * 6, none⟩ (.int .i64 r)).setCell ⟨gm, p * 6 + j * 6 + 1, none⟩ (.int .i64 t.A.1)).setCell ⟨gm, p * 6 + j * 6 + 2, none⟩ (.int .i64 t.A.2.1)).setCell ⟨gm, p * 6 + j * 6 + 3, none⟩ (.bool t.A.2.2.1)).setCell ⟨gm, p * 6 + j * 6 + 4, none⟩ (.bool t.A.2.2.2.1)).setCell ⟨gm, p * 6 + j * 6 + 5, none⟩ (.bool t.A.2.2.2.2)) := ⟨_, rfl⟩
    rw [← hv9]
    have b9 : v9.heap[g]? = some (.cells (sC t M3 (some ⟨gm, 0, none⟩, xc, xs) T3 B3) 49 (0, 0)) := by rw [hv9]; exact heap_six b8 hgne _ _ _ _ _ _
    have o9 : Og v9 lo (some ⟨gm, 0, none⟩) xc ys := by rw [hv9, hys.out]; exact oX8.setA hp1 (r, t.A)
    have k9 : Chg [some gm] v8 v9 := by rw [hv9]; exact (((((chg1 _ _ _ _).trans (chg1 _ _ _ _)).trans (chg1 _ _ _ _)).trans (chg1 _ _ _ _)).trans (chg1 _ _ _ _)).trans (chg1 _ _ _ _)
    refine hK.out _ _ (late (by kernel_rfl)) ?_
    clear hK K hv9 x0 x1 x2 x3 x4 x5 f0 f1 f2 f3 f4 f5
    try simp only [Act.put, List.getElem_toArray, List.getElem_cons_succ, List.getElem_cons_zero, List.setIfInBounds_toArray, List.set_cons_zero, List.set_cons_succ]
    refine wpAnyK_done (by kernel_rfl) ?_ _
    have HS9 : Hid (So v9 lo M3 (some ⟨gm, 0, none⟩, xc, ys) T3 B3) := So.updA ho8 (A' := (some ⟨gm, 0, none⟩, xc, ys)) rfl k9 o9
    have HC9 : Hid (Chg (some g :: sft M3 (some ⟨gm, 0, none⟩, xc, xs) T3 B3) v v9) := (Chg.of_below _ t8).trans (k9.mono (fun k hk => by rw [List.mem_singleton.1 hk]; exact List.mem_cons_of_mem _ (List.mem_cons_of_mem _ (List.mem_cons.2 (.inl rfl)))))
    have q9 : ∀ i, v9.cell? ⟨g, i, none⟩ = _ := fun i => cell_of_row v9 _ i _ _ (0, 0) b9
    have r9 : ∀ i, v9.frozen? ⟨g, i, none⟩ = false := frz b9
    have b9' : v9.heap[g]? = some (.cells (sC t M3 (some ⟨gm, 0, none⟩, xc, ys) T3 B3) 49 (0, 0)) := by rw [b9]; simp [sC, rv, hys.out]
    by_cases hx : t.X = t.W - 1
    · have FS : Hid (rs = { t with wrap := !t.noWrap }) := F1.out.trans (if_pos hx)
      have ew : IntKind.i64.wrap (t.W - 1) = t.W - 1 := by rw [IntKind.wrap_i64]; have := HD.out; omega
      have kx : ¬ t.X < t.W - 1 := by omega
      have kz := blk_wrap (w := v9.drew) b9' (!t.noWrap)
      have KZ := Lib.hid kz
      have HX9 := Lib.hid hXj'
      clear hx kz b9 b9' b8 hXj'
      go_wp2_with fail
      go_region
      go_wp2_with fail
      refine bodyPost_end (results_none rfl _ _ _) rfl ?_
      have kc : Chg [some g] v9 _ := (Chg.of_below [some g] (Below.refl v9.heap.size v9).drew).trans KZ.out.2.1
      refine ChPost.trans (M1 := M3) (A1 := (some ⟨gm, 0, none⟩, xc, xs)) (T1 := T3) (B1 := B3) (w1 := v) ⟨rfl, M3, (some ⟨gm, 0, none⟩, xc, ys), T3, B3, by rw [FS.out]; exact KZ.out.1, HH9.out, HS9.out.chg kc (fun k hk hm => by simp at hm; exact HN3.out (by rw [← hm]; exact hk)), HN3.out, HC9.out.trans (kc.mono (fun k hk => List.mem_cons.2 (.inl (by simpa using hk)))), fun k hk => .inl hk⟩ HKV.out HSV.out
    · have FS : Hid (rs = { t with X := t.X + 1 }) := F1.out.trans (if_neg hx)
      have ew : IntKind.i64.wrap (t.W - 1) = t.W - 1 := by rw [IntKind.wrap_i64]; have := HD.out; omega
      have ew2 : IntKind.i64.wrap (t.X + 1) = t.X + 1 := by rw [IntKind.wrap_i64]; have := HD.out; omega
      have kx : t.X < t.W - 1 := by have := HD.out; omega
      have kz := blk_x (w := v9.drew) b9' (t.X + 1)
      have KZ := Lib.hid kz
      have HX9 := Lib.hid hXj'
      clear hx kz b9 b9' b8 hXj'
      go_wp2_with fail
      go_region
      go_wp2_with fail
      refine bodyPost_end (results_none rfl _ _ _) rfl ?_
      have kc : Chg [some g] v9 _ := (Chg.of_below [some g] (Below.refl v9.heap.size v9).drew).trans KZ.out.2.1
      refine ChPost.trans (M1 := M3) (A1 := (some ⟨gm, 0, none⟩, xc, xs)) (T1 := T3) (B1 := B3) (w1 := v) ⟨rfl, M3, (some ⟨gm, 0, none⟩, xc, ys), T3, B3, by rw [FS.out]; exact KZ.out.1, HH9.out, HS9.out.chg kc (fun k hk hm => by simp at hm; exact HN3.out (by rw [← hm]; exact hk)), HN3.out, HC9.out.trans (kc.mono (fun k hk => List.mem_cons.2 (.inl (by simpa using hk)))), fun k hk => .inl hk⟩ HKV.out HSV.out
  ·
    obtain ⟨xA, xc, xs⟩ := M3
    have eX : xs = c1.m := hHo.1
    obtain ⟨gm, hgm, hgl, _, hmc, _⟩ := HSO.out.om.fill (by rw [eX]; exact pp1)
    simp only at hgm
    subst hgm
    have hpl := place_lt g1 ⟨x1, by omega⟩ ⟨y1, by omega⟩
    rw [← eX, u1, hWa.out, hXj.out, hYk.out, Int.toNat_natCast, Int.toNat_natCast, Int.toNat_natCast] at hpl
    have hTW : t.mW = (a : Int) := u1.trans hWa.out
    obtain ⟨p, hp⟩ : ∃ p, Hid (p = k * a) := ⟨_, Lib.hid rfl⟩
    rw [← hp.out] at hpl
    obtain ⟨hp1, hp2⟩ := hpl
    have hxl : xs.length ≤ 4000 := by rw [eX]; exact pp2
    have hq1 : Hid (p + a = (k + 1) * a) := by show _ = _; rw [hp.out, Nat.add_mul, Nat.one_mul]
    have hrow := fun w' => row_any a t.mH (some ⟨gm, 0, none⟩) xs.length xc k p (p + a) w' hp hq1 (by omega) hp2 hmc hxl (by omega)
    rw [← hTW, ← hYk.out] at hrow
    have HROW := Lib.hid hrow
    have hja : (j : Int) < (a : Int) := by omega
    have hj0 : (0 : Int) ≤ (j : Int) := Int.natCast_nonneg j
    have hgne : g ≠ gm := fun e => HN3.out (by rw [e]; exact List.mem_cons.2 (.inl rfl))
    have HO := Lib.hid hoA
    obtain ⟨ys, hys⟩ : ∃ ys, Hid (ys = xs.set (p + j) (r, t.A)) := ⟨_, Lib.hid rfl⟩
    have F3 : Hid (rc = { c1 with m := ys }) := by
      show _ = _
      rw [F2.out, hys.out, eX, hp.out, putC, if_neg (by rw [hoA]; simp), hWa.out, hXj.out, hYk.out, Int.toNat_natCast, Int.toNat_natCast, Int.toNat_natCast]
    have HH9 : Hid (Hid (Holds (some ⟨gm, 0, none⟩, xc, ys) A3 T3 B3 rc)) := by
      show Hid _
      rw [F3.out]
      exact ⟨rfl, hHo.2.1, hHo.2.2.1, hHo.2.2.2⟩
    clear hoA eX hrow u1 u2 u3 u4 g1 g2 pp1 pp2 pp3 pp4 hHo x1 x2 y1 y2 hTW d1 d2 d3 d4
    have bw0 : v.drew.heap[g]? = some (.cells (sC t (some ⟨gm, 0, none⟩, xc, xs) A3 T3 B3) 49 (0, 0)) := HBV.out
    have zgv := (Array.getElem?_eq_some_iff.1 HBV.out).1
    refine wp_regionK (fun w' => w'.heap[g]? = some (.cells (sC t (some ⟨gm, 0, none⟩, xc, xs) A3 T3 B3) 49 (0, 0))) 20 (by kernel_rfl) ?_
    refine wpAnyK_free (i := 0) (v := .pointer (some ⟨g, 0, none⟩)) rfl (by kernel_rfl) (by kernel_rfl) (by kernel_rfl) (fun _ _ _ h => h) (by decide) (Or.inl ⟨by rfl, (by intro w' _; go_simp; try first | rfl | (simp [*, Addr.add_lit]; done))⟩) (fun _ => bw0) ?_
    try simp only [Act.put, List.getElem_toArray, List.getElem_cons_zero, List.setIfInBounds_toArray, List.set_cons_zero, List.set_cons_succ]
    refine wpAnyK_free (i := 4) (v := .pointer (some ⟨g, 0, none⟩)) rfl (by kernel_rfl) (by kernel_rfl) (by kernel_rfl) (fun _ _ _ h => h) (by decide) (Or.inl ⟨by rfl, (by intro w' _; go_simp; try first | rfl | (simp [*, Addr.add_lit]; done))⟩) (fun _ => bw0) ?_
    try simp only [Act.put, List.getElem_toArray, List.getElem_cons_succ, List.getElem_cons_zero, List.setIfInBounds_toArray, List.set_cons_zero, List.set_cons_succ]
    refine wpAnyK_free (i := 5) (v := .pointer (some ⟨g, 0, none⟩)) rfl (by kernel_rfl) (by kernel_rfl) (by kernel_rfl) (fun _ _ _ h => h) (by decide) (Or.inl ⟨by rfl, (by intro w' _; go_simp; try first | rfl | (simp [*, Addr.add_lit]; done))⟩) (fun _ => bw0) ?_
    try simp only [Act.put, List.getElem_toArray, List.getElem_cons_succ, List.getElem_cons_zero, List.setIfInBounds_toArray, List.set_cons_zero, List.set_cons_succ]
    refine wpAnyK_free (i := 6) (v := .pointer (some ⟨g, 10, none⟩)) rfl (by kernel_rfl) (by kernel_rfl) (by kernel_rfl) (fun _ _ _ h => h) (by decide) (Or.inl ⟨by rfl, (by intro w' _; go_simp; try first | rfl | (simp [*, Addr.add_lit]; done))⟩) (fun _ => bw0) ?_
    try simp only [Act.put, List.getElem_toArray, List.getElem_cons_succ, List.getElem_cons_zero, List.setIfInBounds_toArray, List.set_cons_zero, List.set_cons_succ]
    refine wpAnyK_take (i := 7) (v := .int .i64 t.Y) rfl (by kernel_rfl) (by kernel_rfl) (by kernel_rfl) (fun _ _ _ h => h) (by kernel_rfl) (by kernel_rfl) (by decide) (Or.inl ⟨by rfl, (by intro w' hSw; have q : ∀ i, w'.cell? ⟨g, i, none⟩ = _ := fun i => cell_of_row w' _ i _ _ (0, 0) hSw; go_simp; try first | rfl | simp [q])⟩) (bw0) ?_
    try simp only [Act.put, List.getElem_toArray, List.getElem_cons_succ, List.getElem_cons_zero, List.setIfInBounds_toArray, List.set_cons_zero, List.set_cons_succ]
    refine wpAnyK_free (i := 9) (v := .pointer (some ⟨g, 0, none⟩)) rfl (by kernel_rfl) (by kernel_rfl) (by kernel_rfl) (fun _ _ _ h => h) (by decide) (Or.inl ⟨by rfl, (by intro w' _; go_simp; try first | rfl | (simp [*, Addr.add_lit]; done))⟩) (fun _ => bw0) ?_
    try simp only [Act.put, List.getElem_toArray, List.getElem_cons_succ, List.getElem_cons_zero, List.setIfInBounds_toArray, List.set_cons_zero, List.set_cons_succ]
    refine wpAnyK_free (i := 10) (v := .pointer (some ⟨g, 0, none⟩)) rfl (by kernel_rfl) (by kernel_rfl) (by kernel_rfl) (fun _ _ _ h => h) (by decide) (Or.inl ⟨by rfl, (by intro w' _; go_simp; try first | rfl | (simp [*, Addr.add_lit]; done))⟩) (fun _ => bw0) ?_
    try simp only [Act.put, List.getElem_toArray, List.getElem_cons_succ, List.getElem_cons_zero, List.setIfInBounds_toArray, List.set_cons_zero, List.set_cons_succ]
    refine wpAnyK_free (i := 11) (v := .pointer (some ⟨g, 9, none⟩)) rfl (by kernel_rfl) (by kernel_rfl) (by kernel_rfl) (fun _ _ _ h => h) (by decide) (Or.inl ⟨by rfl, (by intro w' _; go_simp; try first | rfl | (simp [*, Addr.add_lit]; done))⟩) (fun _ => bw0) ?_
    try simp only [Act.put, List.getElem_toArray, List.getElem_cons_succ, List.getElem_cons_zero, List.setIfInBounds_toArray, List.set_cons_zero, List.set_cons_succ]
    refine wpAnyK_take (i := 12) (v := .int .i64 t.X) rfl (by kernel_rfl) (by kernel_rfl) (by kernel_rfl) (fun _ _ _ h => h) (by kernel_rfl) (by kernel_rfl) (by decide) (Or.inl ⟨by rfl, (by intro w' hSw; have q : ∀ i, w'.cell? ⟨g, i, none⟩ = _ := fun i => cell_of_row w' _ i _ _ (0, 0) hSw; go_simp; try first | rfl | simp [q])⟩) (bw0) ?_
    try simp only [Act.put, List.getElem_toArray, List.getElem_cons_succ, List.getElem_cons_zero, List.setIfInBounds_toArray, List.set_cons_zero, List.set_cons_succ]
    refine wpAnyK_free (i := 13) (v := .int .i64 r) rfl (by kernel_rfl) (by kernel_rfl) (by kernel_rfl) (fun _ _ _ h => h) (by decide) (Or.inl ⟨by rfl, (by intro w' _; go_simp; try first | rfl | (simp [*, Addr.add_lit]; done))⟩) (fun _ => bw0) ?_
    try simp only [Act.put, List.getElem_toArray, List.getElem_cons_succ, List.getElem_cons_zero, List.setIfInBounds_toArray, List.set_cons_zero, List.set_cons_succ]
    refine wpAnyK_free (i := 14) (v := .pointer (some ⟨g, 0, none⟩)) rfl (by kernel_rfl) (by kernel_rfl) (by kernel_rfl) (fun _ _ _ h => h) (by decide) (Or.inl ⟨by rfl, (by intro w' _; go_simp; try first | rfl | (simp [*, Addr.add_lit]; done))⟩) (fun _ => bw0) ?_
    try simp only [Act.put, List.getElem_toArray, List.getElem_cons_succ, List.getElem_cons_zero, List.setIfInBounds_toArray, List.set_cons_zero, List.set_cons_succ]
    refine wpAnyK_free (i := 15) (v := .pointer (some ⟨g, 0, none⟩)) rfl (by kernel_rfl) (by kernel_rfl) (by kernel_rfl) (fun _ _ _ h => h) (by decide) (Or.inl ⟨by rfl, (by intro w' _; go_simp; try first | rfl | (simp [*, Addr.add_lit]; done))⟩) (fun _ => bw0) ?_
    try simp only [Act.put, List.getElem_toArray, List.getElem_cons_succ, List.getElem_cons_zero, List.setIfInBounds_toArray, List.set_cons_zero, List.set_cons_succ]
    refine wpAnyK_free (i := 16) (v := .pointer (some ⟨g, 12, none⟩)) rfl (by kernel_rfl) (by kernel_rfl) (by kernel_rfl) (fun _ _ _ h => h) (by decide) (Or.inl ⟨by rfl, (by intro w' _; go_simp; try first | rfl | (simp [*, Addr.add_lit]; done))⟩) (fun _ => bw0) ?_
    try simp only [Act.put, List.getElem_toArray, List.getElem_cons_succ, List.getElem_cons_zero, List.setIfInBounds_toArray, List.set_cons_zero, List.set_cons_succ]
    refine wpAnyK_take (i := 17) (v := .agg #[.int .i64 t.A.1, .int .i64 t.A.2.1, .bool t.A.2.2.1, .bool t.A.2.2.2.1, .bool t.A.2.2.2.2]) rfl (by kernel_rfl) (by kernel_rfl) (by kernel_rfl) (fun _ _ _ h => h) (by kernel_rfl) (by kernel_rfl) (by decide) (Or.inl ⟨by rfl, (by intro w' hSw; have q : ∀ i, w'.cell? ⟨g, i, none⟩ = _ := fun i => cell_of_row w' _ i _ _ (0, 0) hSw; go_simp; try first | rfl | simp [q])⟩) (bw0) ?_
    try simp only [Act.put, List.getElem_toArray, List.getElem_cons_succ, List.getElem_cons_zero, List.setIfInBounds_toArray, List.set_cons_zero, List.set_cons_succ]
    refine wpAnyK_free (i := 18) (v := cV (r, t.A)) rfl (by kernel_rfl) (by kernel_rfl) (by kernel_rfl) (fun _ _ _ h => h) (by decide) (Or.inl ⟨by rfl, (by intro w' _; go_simp; try first | rfl | (simp [*, Addr.add_lit]; done))⟩) (fun _ => bw0) ?_
    try simp only [Act.put, List.getElem_toArray, List.getElem_cons_succ, List.getElem_cons_zero, List.setIfInBounds_toArray, List.set_cons_zero, List.set_cons_succ]
    refine wpAnyK_ready (rs := [1]) (by kernel_rfl) (by simp) ?_
    refine AllReadyK.cons rfl (fun K hK => ?_) AllReadyK.nil
    go_simp
    refine (shown_main t (some ⟨gm, 0, none⟩, xc, xs) A3 T3 B3 g _ bw0 HO.out).mono ?_
    rintro e v4 ⟨rfl, rfl⟩
    refine hK.out _ _ (fun _ => bw0) ?_
    clear hK K
    try simp only [Act.put, List.getElem_toArray, List.getElem_cons_succ, List.getElem_cons_zero, List.setIfInBounds_toArray, List.set_cons_zero, List.set_cons_succ]
    refine wpAnyK_free (i := 2) (v := .pointer (some ⟨g, 2, none⟩)) rfl (by kernel_rfl) (by kernel_rfl) (by kernel_rfl) (fun _ _ _ h => h) (by decide) (Or.inl ⟨by rfl, (by intro w' _; go_simp; try first | rfl | (simp [*, Addr.add_lit]; done))⟩) (fun _ => bw0) ?_
    try simp only [Act.put, List.getElem_toArray, List.getElem_cons_succ, List.getElem_cons_zero, List.setIfInBounds_toArray, List.set_cons_zero, List.set_cons_succ]
    refine wpAnyK_take (i := 3) (v := gV t.mW t.mH (some ⟨gm, 0, none⟩) xs.length xc) rfl (by kernel_rfl) (by kernel_rfl) (by kernel_rfl) (fun _ _ _ h => h) (by kernel_rfl) (by kernel_rfl) (by decide) (Or.inl ⟨by rfl, (by intro w' hSw; have q : ∀ i, w'.cell? ⟨g, i, none⟩ = _ := fun i => cell_of_row w' _ i _ _ (0, 0) hSw; go_simp; try first | rfl | simp [q])⟩) (bw0) ?_
    try simp only [Act.put, List.getElem_toArray, List.getElem_cons_succ, List.getElem_cons_zero, List.setIfInBounds_toArray, List.set_cons_zero, List.set_cons_succ]
    refine wpAnyK_ready (rs := [8]) (by kernel_rfl) (by simp) ?_
    refine AllReadyK.cons rfl (fun K hK => ?_) AllReadyK.nil
    go_simp
    refine (HROW.out _).mono ?_
    rintro e v8 ⟨he, hb8⟩
    have he' : e = .returned (.slice (some ⟨gm, p * 6, none⟩) a (xc - p)) := by rw [he, Nat.add_sub_cancel_left]; simp [Addr.add_lit]
    subst he'
    clear he
    have t8 : Below v.heap.size v v8 := (Below.refl _ _).drew.trans hb8
    have b8 := (t8.block _ zgv).trans HBV.out
    have ho8 := HSO.out.below t8 (Nat.le_refl _)
    have y8 := t8.size
    refine hK.out _ _ (fun _ => b8) ?_
    clear hK K
    try simp only [Act.put, List.getElem_toArray, List.getElem_cons_succ, List.getElem_cons_zero, List.setIfInBounds_toArray, List.set_cons_zero, List.set_cons_succ]
    have hXj' := hXj.out
    rw [hXj']
    refine wpAnyK_free (i := 19) (v := .pointer (some ⟨gm, p * 6 + j * 6, none⟩)) rfl (by kernel_rfl) (by kernel_rfl) (by kernel_rfl) (fun _ _ _ h => h) (by decide) (Or.inl ⟨by rfl, (by intro w' _; go_simp; try first | rfl | (simp [*, Addr.add_lit]; done))⟩) (fun _ => b8) ?_
    try simp only [Act.put, List.getElem_toArray, List.getElem_cons_succ, List.getElem_cons_zero, List.setIfInBounds_toArray, List.set_cons_zero, List.set_cons_succ]
    have oX8 : Og v8 lo (some ⟨gm, 0, none⟩) xc xs := ho8.om
    obtain ⟨⟨e0, x0⟩, ⟨e1, x1⟩, ⟨e2, x2⟩, ⟨e3, x3⟩, ⟨e4, x4⟩, ⟨e5, x5⟩, f0, f1, f2, f3, f4, f5⟩ := oX8.getA hp1
    refine wpAnyK_ready (rs := [20]) (by kernel_rfl) (by simp) ?_
    refine AllReadyK.cons rfl (fun K hK => ?_) AllReadyK.nil
    go_simp
    obtain ⟨v9, hv9⟩ : ∃ v, v = ((((((v8.setCell ⟨gm, p * 6 + j * 6, none⟩ (.int .i64 r)).setCell ⟨gm, p * 6 + j * 6 + 1, none⟩ (.int .i64 t.A.1)).setCell ⟨gm, p * 6 + j * 6 + 2, none⟩ (.int .i64 t.A.2.1)).setCell ⟨gm, p * 6 + j * 6 + 3, none⟩ (.bool t.A.2.2.1)).setCell ⟨gm, p * 6 + j * 6 + 4, none⟩ (.bool t.A.2.2.2.1)).setCell ⟨gm, p * 6 + j * 6 + 5, none⟩ (.bool t.A.2.2.2.2)) := ⟨_, rfl⟩
    rw [← hv9]
    have b9 : v9.heap[g]? = some (.cells (sC t (some ⟨gm, 0, none⟩, xc, xs) A3 T3 B3) 49 (0, 0)) := by rw [hv9]; exact heap_six b8 hgne _ _ _ _ _ _
    have o9 : Og v9 lo (some ⟨gm, 0, none⟩) xc ys := by rw [hv9, hys.out]; exact oX8.setA hp1 (r, t.A)
    have k9 : Chg [some gm] v8 v9 := by rw [hv9]; exact (((((chg1 _ _ _ _).trans (chg1 _ _ _ _)).trans (chg1 _ _ _ _)).trans (chg1 _ _ _ _)).trans (chg1 _ _ _ _)).trans (chg1 _ _ _ _)
    refine hK.out _ _ (late (by kernel_rfl)) ?_
    clear hK K hv9 x0 x1 x2 x3 x4 x5 f0 f1 f2 f3 f4 f5
    try simp only [Act.put, List.getElem_toArray, List.getElem_cons_succ, List.getElem_cons_zero, List.setIfInBounds_toArray, List.set_cons_zero, List.set_cons_succ]
    refine wpAnyK_done (by kernel_rfl) ?_ _
    have HS9 : Hid (So v9 lo (some ⟨gm, 0, none⟩, xc, ys) A3 T3 B3) := So.updM ho8 (M' := (some ⟨gm, 0, none⟩, xc, ys)) rfl k9 o9
    have HC9 : Hid (Chg (some g :: sft (some ⟨gm, 0, none⟩, xc, xs) A3 T3 B3) v v9) := (Chg.of_below _ t8).trans (k9.mono (fun k hk => by rw [List.mem_singleton.1 hk]; exact List.mem_cons_of_mem _ (List.mem_cons.2 (.inl rfl))))
    have q9 : ∀ i, v9.cell? ⟨g, i, none⟩ = _ := fun i => cell_of_row v9 _ i _ _ (0, 0) b9
    have r9 : ∀ i, v9.frozen? ⟨g, i, none⟩ = false := frz b9
    have b9' : v9.heap[g]? = some (.cells (sC t (some ⟨gm, 0, none⟩, xc, ys) A3 T3 B3) 49 (0, 0)) := by rw [b9]; simp [sC, rv, hys.out]
    by_cases hx : t.X = t.W - 1
    · have FS : Hid (rs = { t with wrap := !t.noWrap }) := F1.out.trans (if_pos hx)
      have ew : IntKind.i64.wrap (t.W - 1) = t.W - 1 := by rw [IntKind.wrap_i64]; have := HD.out; omega
      have kx : ¬ t.X < t.W - 1 := by omega
      have kz := blk_wrap (w := v9.drew) b9' (!t.noWrap)
      have KZ := Lib.hid kz
      have HX9 := Lib.hid hXj'
      clear hx kz b9 b9' b8 hXj'
      go_wp2_with fail
      go_region
      go_wp2_with fail
      refine bodyPost_end (results_none rfl _ _ _) rfl ?_
      have kc : Chg [some g] v9 _ := (Chg.of_below [some g] (Below.refl v9.heap.size v9).drew).trans KZ.out.2.1
      refine ChPost.trans (M1 := (some ⟨gm, 0, none⟩, xc, xs)) (A1 := A3) (T1 := T3) (B1 := B3) (w1 := v) ⟨rfl, (some ⟨gm, 0, none⟩, xc, ys), A3, T3, B3, by rw [FS.out]; exact KZ.out.1, HH9.out, HS9.out.chg kc (fun k hk hm => by simp at hm; exact HN3.out (by rw [← hm]; exact hk)), HN3.out, HC9.out.trans (kc.mono (fun k hk => List.mem_cons.2 (.inl (by simpa using hk)))), fun k hk => .inl hk⟩ HKV.out HSV.out
    · have FS : Hid (rs = { t with X := t.X + 1 }) := F1.out.trans (if_neg hx)
      have ew : IntKind.i64.wrap (t.W - 1) = t.W - 1 := by rw [IntKind.wrap_i64]; have := HD.out; omega
      have ew2 : IntKind.i64.wrap (t.X + 1) = t.X + 1 := by rw [IntKind.wrap_i64]; have := HD.out; omega
      have kx : t.X < t.W - 1 := by have := HD.out; omega
      have kz := blk_x (w := v9.drew) b9' (t.X + 1)
      have KZ := Lib.hid kz
      have HX9 := Lib.hid hXj'
      clear hx kz b9 b9' b8 hXj'
      go_wp2_with fail
      go_region
      go_wp2_with fail
      refine bodyPost_end (results_none rfl _ _ _) rfl ?_
      have kc : Chg [some g] v9 _ := (Chg.of_below [some g] (Below.refl v9.heap.size v9).drew).trans KZ.out.2.1
      refine ChPost.trans (M1 := (some ⟨gm, 0, none⟩, xc, xs)) (A1 := A3) (T1 := T3) (B1 := B3) (w1 := v) ⟨rfl, (some ⟨gm, 0, none⟩, xc, ys), A3, T3, B3, by rw [FS.out]; exact KZ.out.1, HH9.out, HS9.out.chg kc (fun k hk hm => by simp at hm; exact HN3.out (by rw [← hm]; exact hk)), HN3.out, HC9.out.trans (kc.mono (fun k hk => List.mem_cons.2 (.inl (by simpa using hk)))), fun k hk => .inl hk⟩ HKV.out HSV.out
theorem rune_any (s : Sc) (M A : Rw) (T : Ti) (B : Tr) (c : Cont) (r : Int) (lo g : Nat) (w : World) (hq : scrB s c = true) (hb : w.heap[g]? = some (.cells (sC s M A T B) 49 (0, 0))) (ho : So w lo M A T B) (hh : Hid (Holds M A T B c)) (hn : some g ∉ sft M A T B) (hlg : lo ≤ g) :
    Calls Try.prog 111 #[.pointer (some ⟨g, 0, none⟩), .int .i64 r] w (ChPost lo g M A T B w (runS (rS1 s)) (putC (rS1 s) (rC1 s c) r)) := by
  rcases Bool.eq_false_or_eq_true s.wrap with h | h
  · exact runeP_w s M A T B c r lo g w hq hb ho hh hn hlg h
  · exact runeP_a s M A T B c r lo g w hq hb ho hh hn hlg h
theorem runeClosure_any (s : Sc) (M A : Rw) (T : Ti) (B : Tr) (c : Cont) (r : Int) (lo g g1 : Nat) (w : World) (hq : scrB s c = true) (hb : w.heap[g]? = some (.cells (sC s M A T B) 49 (0, 0))) (ho : So w lo M A T B) (hh : Hid (Holds M A T B c)) (hn : some g ∉ sft M A T B) (hlg : lo ≤ g) (h1 : w.cell? ⟨g1, 0, none⟩ = some (.int .i64 r)) :
    Calls Try.prog 109 #[.pointer (some ⟨g, 0, none⟩), .pointer (some ⟨g1, 0, none⟩)] w (ChPost lo g M A T B w (ruS s r) (ruC s c r)) := by
  have HU := Lib.hid (rune_any s M A T B c r lo g w hq hb ho hh hn hlg)
  rcases Bool.eq_false_or_eq_true (showsB r) with hr | hr
  · have e1 : ruS s r = runS (rS1 s) := if_pos hr
    have e2 : ruC s c r = putC (rS1 s) (rC1 s c) r := if_pos hr
    rw [e1, e2]
    clear e1 e2
    go_enter Try.func109, Try.ntmps109
    go_wp2_with (go_at_call 110; refine (shows_impl r _).mono ?_; rintro e w' ⟨he, hw⟩; rw [hr] at he; subst he hw)
    refine HU.out.mono ?_
    rintro e w1 ⟨rfl, h2⟩
    go_wp2_with fail
    refine bodyPost_end (results_none rfl _ _ _) rfl ?_
    exact ⟨rfl, h2⟩
  · have e1 : ruS s r = s := if_neg (by rw [hr]; simp)
    have e2 : ruC s c r = c := if_neg (by rw [hr]; simp)
    rw [e1, e2]
    clear e1 e2
    go_enter Try.func109, Try.ntmps109
    go_wp2_with (go_at_call 110; refine (shows_impl r _).mono ?_; rintro e w' ⟨he, hw⟩; rw [hr] at he; subst he hw)
    refine bodyPost_end (results_none rfl _ _ _) rfl ?_
    exact ⟨rfl, M, A, T, B, hb, hh, ho, hn, Chg.refl _ _, fun k hk => .inl hk⟩
set_option maxHeartbeats 4000000 in
theorem scrRune_impl (s : Sc) (M A : Rw) (T : Ti) (B : Tr) (c : Cont) (r : Int) (w : World) (hr_ : Sr w M A T B) (hz : Sz M A T B 1048576) (hh : Hid (Holds M A T B c)) :
    Calls Try.prog 46 #[sV s M A T B, .int .i64 r] w (ScrOwn w (chS s c (ruS s r)) (chC s c (ruC s c r))) := by
  obtain ⟨rs, hrs⟩ : ∃ x', Hid (x' = chS s c (ruS s r)) := ⟨_, Lib.hid rfl⟩
  obtain ⟨rc, hrc⟩ : ∃ x', Hid (x' = chC s c (ruC s c r)) := ⟨_, Lib.hid rfl⟩
  rw [← hrs.out, ← hrc.out]
  have b0 : (((w.alloc (.cells (sC s M A T B) 49)).alloc (.cells #[.int .i64 r] 3)).alloc (.cells zC 49)).heap[w.heap.size]? = some (.cells (sC s M A T B) 49 (0, 0)) := heap_alloc_of _ (heap_alloc_of _ (heap_alloc_new _ _))
  have c0 : (((w.alloc (.cells (sC s M A T B) 49)).alloc (.cells #[.int .i64 r] 3)).alloc (.cells zC 49)).heap[w.heap.size + 1]? = some (.cells #[.int .i64 r] 3 (0, 0)) := heap_alloc_of _ (hat2 _ _ _)
  have z0 : (((w.alloc (.cells (sC s M A T B) 49)).alloc (.cells #[.int .i64 r] 3)).alloc (.cells zC 49)).heap[w.heap.size + 1 + 1]? = some (.cells zC 49 (0, 0)) := hat3 _ _ _ _
  have t0 : Below w.heap.size w (((w.alloc (.cells (sC s M A T B) 49)).alloc (.cells #[.int .i64 r] 3)).alloc (.cells zC 49)) := bel3 _ _ _ _
  go_enter Try.func46, Try.ntmps46
  go_wp2_with (first | (refine wpList_load_row rfl 49 _ rfl (w.heap.size) rfl 49 (sC s M A T B) (0, 0) _ b0 Try.underlying49 rfl size_scr ?_))
  refine (changed_any 109 #[.pointer (some ⟨w.heap.size + 1, 0, none⟩)] s M A T B c (ruS s r) (ruC s c r) _ (hr_.below t0) hz hh (fun args w => by go_simp) (fun hq lo g M1 A1 T1 B1 w1 hb1 hB ho hH hn _ hlg => ?_)).mono ?_
  · have c1 := (hb1.block _ (Array.getElem?_eq_some_iff.1 c0).1).trans c0
    exact runeClosure_any s M1 A1 T1 B1 c r lo g (w.heap.size + 1) w1 hq hB ho hH hn hlg (cell_of_row w1 _ 0 _ _ (0, 0) c1)
  rw [← hrs.out, ← hrc.out]
  rintro e w2 ⟨M2, A2, T2, B2, rfl, hh2, ho2, hb2⟩
  have z2 := (hb2.block _ (Array.getElem?_eq_some_iff.1 z0).1).trans z0
  have zz2 := (Array.getElem?_eq_some_iff.1 z2).1
  have t2 := t0.trans (hb2.mono t0.size)
  have x0 := t0.size
  have lz := (Array.getElem?_eq_some_iff.1 z0).1
  clear b0 c0 z0
  go_wp2_with (first | (refine wp_store_blk rfl 49 _ _ rfl (w.heap.size + 1 + 1) (sC rs M2 A2 T2 B2) rfl rfl 49 zC z2 size_scr rfl (sC_one rs M2 A2 T2 B2) ?_; intro w7 B7 C7 z7))
  refine bodyPost_ret (results_cell_row Try.results46 _ _ (w.heap.size + 1 + 1) 49 (sC rs M2 A2 T2 B2) (0, 0) _ rfl B7 Try.underlying49 rfl size_scr) rfl ?_
  exact ⟨M2, A2, T2, B2, rfl, hh2, (ho2.chg C7 (fun k hk hm => by have := (ho2.lt hk).1; simp at hm; omega)).mono (by omega), t2.trans (C7.below (fun k hk => by simp at hk; omega) (by omega))⟩
end Go.Proofs.Ytnilgcahggmncaa
