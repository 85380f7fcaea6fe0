/- What scrolling rows of a grid computes (plain law). Rows of a grid scrolled: the program's way. Rows of a grid scrolled: the program's way, walked. -/
import Derived.Test.YtnilgcahggmncaaGw
import Derived.Test.YtnilgcahggmncaaRr
import Derived.Deep.RegionLaw
namespace Go.Proofs.Ytnilgcahggmncaa
open Go.RowKit

set_option linter.unusedVariables false
set_option maxRecDepth 100000

/-- The cell at place i behind a scroll of the rows top to bot by n. -/
def roF (cs : List Cl) (a top bot : Nat) (n : Int) (i : Nat) : Cl :=
  if (top : Int) ≤ ((i / a : Nat) : Int) + n ∧ ((i / a : Nat) : Int) + n ≤ bot then cs.getD ((((i / a : Nat) : Int) + n).toNat * a + i % a) cl0 else bk
def roL (cs : List Cl) (a top bot : Nat) (n : Int) : List Cl := upd cs (roF cs a top bot n) (top * a) ((bot + 1) * a)
def roR (W H : Int) (cs : List Cl) (top bot n : Int) : Gr :=
  if gridB W H cs = true ∧ 0 ≤ top ∧ top ≤ bot ∧ bot < H then (W, H, roL cs W.toNat top.toNat bot.toNat n) else gr0
theorem ro_no {W H : Int} {cs : List Cl} {top bot n : Int} (h : ¬ (gridB W H cs = true ∧ 0 ≤ top ∧ top ≤ bot ∧ bot < H)) : roR W H cs top bot n = gr0 := if_neg h
theorem ro_len {W H : Int} {cs : List Cl} {top bot n : Int} : (roR W H cs top bot n).2.2.length ≤ cs.length := by
  unfold roR
  split
  · show (roL cs _ _ _ n).length ≤ _
    rw [roL, upd_len]
    exact Nat.le_refl _
  · simp
theorem row_div {a y x : Nat} (hx : x < a) : (y * a + x) / a = y ∧ (y * a + x) % a = x := by
  constructor
  · rw [Nat.mul_comm, Nat.mul_add_div (by omega), Nat.div_eq_of_lt hx, Nat.add_zero]
  · rw [Nat.mul_comm, Nat.mul_add_mod, Nat.mod_eq_of_lt hx]
theorem ro_out {cs : List Cl} {a top bot y x : Nat} {n : Int} (hx : x < a) (h : ¬ ((top : Int) ≤ (y : Int) + n ∧ (y : Int) + n ≤ bot)) : roF cs a top bot n (y * a + x) = bk := by
  rw [roF, (row_div hx).1]
  exact if_neg h
theorem ro_in {cs : List Cl} {a top bot y x r : Nat} {n : Int} (hx : x < a) (e : (y : Int) + n = r) (h1 : top ≤ r) (h2 : r ≤ bot) (h3 : r * a + x < cs.length) : roF cs a top bot n (y * a + x) = cs[r * a + x] := by
  rw [roF, (row_div hx).1, (row_div hx).2, e, if_pos ⟨by omega, by omega⟩]
  rw [show ((r : Int)).toNat = r by omega, List.getD_eq_getElem?_getD, List.getElem?_eq_getElem h3]
  rfl
/-- A number cut down to -b .. b scrolls in the same way. -/
theorem ro_clamp {cs : List Cl} {a top bot b : Nat} {n m : Int} (ha : 0 < a) (hb : bot < b) (h : (n = m) ∨ (b ≤ n ∧ b ≤ m) ∨ (n ≤ -b ∧ m ≤ -b)) : roL cs a top bot n = roL cs a top bot m := by
  rcases h with rfl | h
  · rfl
  · refine upd_congr fun i h1 h2 _ => ?_
    have h4 : i / a ≤ bot := Nat.lt_succ_iff.1 ((Nat.div_lt_iff_lt_mul ha).2 h2)
    have h5 : top ≤ i / a := (Nat.le_div_iff_mul_le ha).2 h1
    rw [roF, roF, if_neg (by omega), if_neg (by omega)]

set_option linter.unusedVariables false
set_option maxRecDepth 100000

/-- copy of cells into a slice of one's own, as one step of a region that draws. -/
theorem step_copyG {ops : Array Oper} {o : Oper} {a : Act} {w : World} {K : Act → World → Prop} {Q : Exit → Act → World → Prop} {E : Prop} (hgd : o.guard = none) (d s : Operand) (ho : o.op = .call { callee := .builtin .copy, args := #[d, s], argTypes := #[27, 27] })
    (lo g c k off n dCap dLen sLen sCap : Nat) (cs : List Cl) (A2 : Option Addr) (zs : List Cl) (hO : Og w lo (some ⟨g, 0, none⟩) c cs) (hz : Gs w A2 zs) (h0 : 0 < zs.length) (hoff : off = k * 6) (hn : n = Nat.min sLen dLen) (hzn : zs.length = n)
    (hd : a.eval d = .slice (some ⟨g, off, none⟩) dLen dCap) (hs : a.eval s = .slice A2 sLen sCap) (hfit : k + n ≤ cs.length)
    (h : ∀ w', Hid (Og w' lo (some ⟨g, 0, none⟩) c (spl cs k zs)) → w.grownBy w' (some g) → K (a.put o.dst (goInt n)) w') :
    if Region.wanted o (yielded ops a.tmps) = true then Oper.wp Try.prog o a w K Q else E := by
  have hw : Region.wanted o (yielded ops a.tmps) = true := by simp [Region.wanted, hgd]
  rw [if_pos hw]
  subst hoff
  rcases hz with hz | ⟨b, o', rfl, hc⟩
  · rw [hz] at h0; simp at h0
  obtain ⟨w', hr, h2, h3⟩ := copy_run (dCap := dCap) (sCap := sCap) o.type hO (.inr ⟨b, o', rfl, hc⟩) h0 hn hzn hfit
  have := h w' h2 h3
  unfold Oper.wp execOp
  simp only [ho, resolve, invoke, builtin, Sem.run_bind, Sem.run_pure, Result.andThen_ok, List.map_toArray, List.map_cons, List.map_nil, hd, hs, hr]
  exact this
/-- A row laid over by the cells that scrolling puts there. -/
theorem ro_row {cs zs : List Cl} {a j k y : Nat} {n : Int} (hj : j ≤ y) (hz : zs.length = a) (hfit : y * a + a ≤ cs.length) (h : ∀ x, x < a → zs[x]? = some (roF cs a j k n (y * a + x))) :
    spl (upd cs (roF cs a j k n) (j * a) (y * a)) (y * a) zs = upd cs (roF cs a j k n) (j * a) ((y + 1) * a) := by
  have hja : j * a ≤ y * a := Nat.mul_le_mul_right a hj
  have e : (y + 1) * a = y * a + a := Nat.succ_mul y a
  apply List.ext_getElem?
  intro i
  by_cases hi : i < cs.length
  · rw [upd_get hi, spl, List.getElem?_append]
    have hl : (List.take (y * a) (upd cs (roF cs a j k n) (j * a) (y * a))).length = y * a := by rw [List.length_take, upd_len]; omega
    rw [hl]
    by_cases h1 : i < y * a
    · rw [if_pos h1, List.getElem?_take_of_lt h1, upd_get hi]
      congr 1
      by_cases h2 : j * a ≤ i
      · rw [if_pos ⟨h2, h1⟩, if_pos ⟨h2, by omega⟩]
      · rw [if_neg (by omega), if_neg (by omega)]
    · rw [if_neg h1, List.getElem?_append, hz]
      by_cases h2 : i - y * a < a
      · rw [if_pos h2, h _ h2, if_pos ⟨by omega, by omega⟩, show y * a + (i - y * a) = i by omega]
      · rw [if_neg h2, List.getElem?_drop, show y * a + a + (i - y * a - a) = i by omega, upd_get hi, if_neg (by omega), if_neg (by omega)]
  · have h1 : (spl (upd cs (roF cs a j k n) (j * a) (y * a)) (y * a) zs).length = cs.length := by rw [spl_len (by rw [upd_len]; omega), upd_len]
    rw [List.getElem?_eq_none (by omega), List.getElem?_eq_none (by rw [upd_len]; omega)]

set_option linter.unusedVariables false
set_option maxRecDepth 100000

theorem cell_alloc {w : World} {o : Obj} {b i : Nat} {v : Value} (h : w.cell? ⟨b, i, none⟩ = some v) : (w.alloc o).cell? ⟨b, i, none⟩ = some v :=
  (World.cell?_of_block (a := ⟨b, i, none⟩) (Below.heap_alloc w o b (World.block_lt_of_cell? w _ h))).trans h
set_option maxHeartbeats 8000000 in
theorem roll_any (a bb j k : Nat) (n : Int) (A : Option Addr) (c : Nat) (cs : List Cl) (w : World) (ha : Gs w A cs) (hc : cs.length ≤ c) (ha1 : 1 ≤ a) (ha2 : a ≤ 120) (hk : k < bb) (hbb : bb ≤ 120) (hjk : j ≤ k) (hlN : Hid (cs.length = bb * a)) (hcl : cs.length ≤ 4000) :
    Calls Try.prog 59 #[gV a bb A cs.length c, .int .i64 j, .int .i64 k, .int .i64 n] w (GridPost w a bb (roL cs a j k n)) := by
  have hb0 : Below w.heap.size w ((w.alloc (.cells #[.int .i64 a, .int .i64 bb, .slice A cs.length c] 29)).alloc (.cells #[.int .i64 0, .int .i64 0, .slice none 0 0] 29)) := by (repeat (first | exact Below.refl _ _ | (refine Below.alloc ?_ (by first | omega | (simp; done) | (simp; omega)) _) | (refine Below.drew ?_) | (refine below_drewN ?_ _) | (refine below_at1 ?_ (by first | omega | (simp; done) | (simp; omega))) | (refine Below.setCell ?_ (by first | omega | (simp; done) | (simp; omega)) _) | (refine Below.trans ?_ (Below.mono (by assumption) (by first | omega | (simp; done) | (simp; omega))))))
  have hcl0 : 0 < cs.length := by rw [hlN.out]; exact Nat.mul_pos (by omega) ha1
  go_enter Try.func59, Try.ntmps59
  go_wp2_with fail
  refine (copyGrid_any a bb _ _ cs _ (ha.below hb0) hcl0 (by omega)).mono ?_
  rintro e w3 ⟨A3, c3, rfl, ho3, hs3, hi3, hb3⟩
  obtain ⟨B3, q3, r3, z3⟩ := keep_blk hb3 (g := w.heap.size) (by repeat (first | assumption | exact heap_alloc_at _ (by first | rfl | (simp; done) | omega) | refine heap_alloc_of _ ?_ | refine heap_setCell_of _ (by first | omega | (simp; done) | (simp; omega)) ?_ | refine heap_setCell_same _ ?_ | exact heap_at1_same (by first | omega | (simp; done) | (simp; omega)) | refine heap_at1_of (by first | omega | (simp; done) | (simp; omega)) ?_))
  obtain ⟨C3, qq3, rr3, zz3⟩ := keep_blk hb3 (g := w.heap.size + 1) (by repeat (first | assumption | exact heap_alloc_at _ (by first | rfl | (simp; done) | omega) | refine heap_alloc_of _ ?_ | refine heap_setCell_of _ (by first | omega | (simp; done) | (simp; omega)) ?_ | refine heap_setCell_same _ ?_ | exact heap_at1_same (by first | omega | (simp; done) | (simp; omega)) | refine heap_at1_of (by first | omega | (simp; done) | (simp; omega)) ?_))
  clear hs3 hi3
  have t3 := hb0.trans (hb3.mono hb0.size)
  obtain ⟨g, rfl, hlo, hcm, hxc, _⟩ := ho3.fill hcl0
  have hgl := (ho3.lt g rfl).2
  go_wp2_with fail
  obtain ⟨w4, hw4⟩ : ∃ w4, w4 = w3.alloc (.cells #[.int .i64 a, .int .i64 bb, .slice (some ⟨g, 0, none⟩) cs.length c3] 29) := ⟨_, rfl⟩
  rw [← hw4]
  have HB4 : Hid (w4.heap[w.heap.size]? = (some (.cells #[.int .i64 a, .int .i64 bb, .slice A cs.length c] 29 (0, 0)))) := by subst hw4; exact heap_alloc_of _ B3
  have HC4 : Hid (w4.heap[w.heap.size + 1]? = (some (.cells #[.int .i64 0, .int .i64 0, .slice none 0 0] 29 (0, 0)))) := by subst hw4; exact heap_alloc_of _ C3
  have HD4 : Hid (w4.heap[w3.heap.size]? = (some (.cells #[.int .i64 a, .int .i64 bb, .slice (some ⟨g, 0, none⟩) cs.length c3] 29 (0, 0)))) := by subst hw4; exact heap_alloc_new _ _
  have hlo' : w.heap.size + 2 ≤ g := by simp at hlo; omega
  have ho4 : Og w4 (w.heap.size + 2) (some ⟨g, 0, none⟩) c3 cs := by subst hw4; exact (ho3.alloc _).mono (by simp)
  have t4 : Below w.heap.size w w4 := by subst hw4; exact t3.alloc t3.size _
  have hsz : w3.heap.size < w4.heap.size := by subst hw4; simp
  have hgB : ¬ w.heap.size = g := by omega
  have hgD : ¬ w3.heap.size = g := by omega
  have hgC : ¬ w.heap.size + 1 = g := by omega
  have hAg : (some (⟨g, 0, none⟩ : Addr)).map (·.add (0 * 6)) = some ⟨g, 0, none⟩ := by simp [Addr.add_lit]
  clear hw4 B3 C3 q3 r3 qq3 rr3 hb0 hb3 ho3 hAg
  go_loopw [10] (fun i wr => ∃ yy : Nat, j ≤ yy ∧ yy ≤ k + 1 ∧ i = .int .i64 yy ∧ Og wr (w.heap.size + 2) (some ⟨g, 0, none⟩) c3 (upd cs (roF cs a j k n) (j * a) (yy * a)) ∧ Hid (wr.heap[w.heap.size]? = (some (.cells #[.int .i64 a, .int .i64 bb, .slice A cs.length c] 29 (0, 0)))) ∧ Hid (wr.heap[w.heap.size + 1]? = (some (.cells #[.int .i64 0, .int .i64 0, .slice none 0 0] 29 (0, 0)))) ∧ Hid (wr.heap[w3.heap.size]? = (some (.cells #[.int .i64 a, .int .i64 bb, .slice (some ⟨g, 0, none⟩) cs.length c3] 29 (0, 0)))) ∧ Below w.heap.size w wr ∧ w4.heap.size ≤ wr.heap.size) (fun i _ => k + 1 - (intOf i).toNat)
  case atStart => exact ⟨j, Nat.le_refl _, by omega, rfl, by rw [upd_self]; exact ho4, HB4, HC4, HD4, t4, Nat.le_refl _⟩
  case round =>
    clear ho4 HB4 HC4 HD4
    obtain ⟨yy, hy1, hy2, rfl, ho, hB, hC, hD, hb, hs⟩ := hrel
    have hBl := (Array.getElem?_eq_some_iff.1 hB.out).1
    have hCl := (Array.getElem?_eq_some_iff.1 hC.out).1
    have hDl := (Array.getElem?_eq_some_iff.1 hD.out).1
    by_cases hlty : yy < k + 1
    · obtain ⟨p, hp⟩ : ∃ p, Hid (p = yy * a) := ⟨_, rfl⟩
      obtain ⟨q, hq⟩ : ∃ q, Hid (q = (yy + 1) * a) := ⟨_, rfl⟩
      have hqp : q = p + a := by rw [hp.out, hq.out, Nat.succ_mul]
      have hpq : p < q := by omega
      have hqb : q ≤ cs.length := by
        rw [hlN.out, hqp, hp.out]
        exact (row_bd (show yy < bb by omega) ha1).2
      have hAg : (some (⟨g, 0, none⟩ : Addr)).map (·.add (p * 6)) = some ⟨g, p * 6, none⟩ := by simp [Addr.add_lit]
      have hlty' : (yy : Int) ≤ k := by omega
      by_cases hin : (-120 ≤ n ∧ n ≤ 120) ∧ (j : Int) ≤ (yy : Int) + n ∧ (yy : Int) + n ≤ k
      case neg =>
        have hout : ¬ ((j : Int) ≤ (yy : Int) + n ∧ (yy : Int) + n ≤ k) := by omega
        have hzl : (List.replicate a bk).length = a := List.length_replicate
        have ZL := hzl
        have ZE : ∀ x, x < a → (List.replicate a bk)[x]? = some (roF cs a j k n (yy * a + x)) := by
          intro x hx
          rw [ro_out hx hout, List.getElem?_replicate, if_pos hx]
        have c0 : wr.cell? ⟨w.heap.size, 0, none⟩ = some (.int .i64 a) := by rw [cell_of_row wr w.heap.size 0 _ _ (0, 0) hB.out]; rfl
        have c1 : wr.cell? ⟨w.heap.size, 1, none⟩ = some (.int .i64 bb) := by rw [cell_of_row wr w.heap.size 1 _ _ (0, 0) hB.out]; rfl
        have c2 : wr.cell? ⟨w.heap.size, 2, none⟩ = some (.slice A cs.length c) := by rw [cell_of_row wr w.heap.size 2 _ _ (0, 0) hB.out]; rfl
        have c3' : wr.cell? ⟨w3.heap.size, 0, none⟩ = some (.int .i64 a) := by rw [cell_of_row wr w3.heap.size 0 _ _ (0, 0) hD.out]; rfl
        have c4 : wr.cell? ⟨w3.heap.size, 1, none⟩ = some (.int .i64 bb) := by rw [cell_of_row wr w3.heap.size 1 _ _ (0, 0) hD.out]; rfl
        have c5 : wr.cell? ⟨w3.heap.size, 2, none⟩ = some (.slice (some ⟨g, 0, none⟩) cs.length c3) := by rw [cell_of_row wr w3.heap.size 2 _ _ (0, 0) hD.out]; rfl
        by_cases hn : withinB n (-120) 120 = true
        case neg =>
          have HN : Hid (withinB n (-120) 120 = false) := by show _ = _; simpa using hn
          have HX : Hid (True = True) := rfl
          clear hn hin hout
          go_wp2_with ((go_at_call 63; refine (within_any _ _ _ _).mono ?_; rintro e w6 ⟨he, rfl⟩; rw [HN.out] at he; subst he))
          first
            | (go_region_held3 (fun w' => w'.cell? ⟨w.heap.size, 0, none⟩ = some (.int .i64 a) ∧ w'.cell? ⟨w.heap.size, 1, none⟩ = some (.int .i64 bb) ∧ w'.cell? ⟨w.heap.size, 2, none⟩ = some (.slice A cs.length c) ∧ w'.cell? ⟨w3.heap.size, 0, none⟩ = some (.int .i64 a) ∧ w'.cell? ⟨w3.heap.size, 1, none⟩ = some (.int .i64 bb) ∧ w'.cell? ⟨w3.heap.size, 2, none⟩ = some (.slice (some ⟨g, 0, none⟩) cs.length c3))
                 (first | with_reducible assumption | with_reducible exact ⟨cell_drew c0, cell_drew c1, cell_drew c2, cell_drew c3', cell_drew c4, cell_drew c5⟩ | with_reducible exact ⟨cell_alloc kB0, cell_alloc kB1, cell_alloc kB2, cell_alloc kB3, cell_alloc kB4, cell_alloc kB5⟩)
                 ((first | (go_at_call_of 53 g; refine (row_any a bb _ _ _ yy p q _ hp hq hpq hqb hxc hcl (by omega)).mono ?_; rintro e w5 ⟨rfl, hb5'⟩; rw [hAg, hqp, Nat.add_sub_cancel_left]; have hb5 : Below wr.heap.size wr w5 := (Below.drew (Below.refl _ _)).trans hb5'; have B5 := (hb5.block _ hBl).trans hB.out; have C5 := (hb5.block _ hCl).trans hC.out; have D5 := (hb5.block _ hDl).trans hD.out; have ho5 := ho.below hb5 (Nat.le_refl _); have t5 := hb.trans (hb5.mono hb.size); have z5 := hb5.size; have kA0 : w5.cell? ⟨w.heap.size, 0, none⟩ = some (.int .i64 a) := (by rw [cell_of_row w5 w.heap.size 0 _ _ (0, 0) B5]; rfl); have kA1 : w5.cell? ⟨w.heap.size, 1, none⟩ = some (.int .i64 bb) := (by rw [cell_of_row w5 w.heap.size 1 _ _ (0, 0) B5]; rfl); have kA2 : w5.cell? ⟨w.heap.size, 2, none⟩ = some (.slice A cs.length c) := (by rw [cell_of_row w5 w.heap.size 2 _ _ (0, 0) B5]; rfl); have kA3 : w5.cell? ⟨w3.heap.size, 0, none⟩ = some (.int .i64 a) := (by rw [cell_of_row w5 w3.heap.size 0 _ _ (0, 0) D5]; rfl); have kA4 : w5.cell? ⟨w3.heap.size, 1, none⟩ = some (.int .i64 bb) := (by rw [cell_of_row w5 w3.heap.size 1 _ _ (0, 0) D5]; rfl); have kA5 : w5.cell? ⟨w3.heap.size, 2, none⟩ = some (.slice (some ⟨g, 0, none⟩) cs.length c3) := (by rw [cell_of_row w5 w3.heap.size 2 _ _ (0, 0) D5]; rfl); have hkeep5 := (And.intro kA0 (And.intro kA1 (And.intro kA2 (And.intro kA3 (And.intro kA4 kA5)))))) | (go_at_call 62; refine (blank_any _).mono ?_; rintro e w6 ⟨rfl, hb6⟩; have B6 := (hb6.block _ (Nat.lt_of_lt_of_le hBl z5)).trans B5; have C6 := (hb6.block _ (Nat.lt_of_lt_of_le hCl z5)).trans C5; have D6 := (hb6.block _ (Nat.lt_of_lt_of_le hDl z5)).trans D5; have ho6 := ho5.below hb6 (Nat.le_refl _); have t6 := t5.trans (hb6.mono t5.size); have z6 := hb6.size; have kB0 : w6.cell? ⟨w.heap.size, 0, none⟩ = some (.int .i64 a) := (by rw [cell_of_row w6 w.heap.size 0 _ _ (0, 0) B6]; rfl); have kB1 : w6.cell? ⟨w.heap.size, 1, none⟩ = some (.int .i64 bb) := (by rw [cell_of_row w6 w.heap.size 1 _ _ (0, 0) B6]; rfl); have kB2 : w6.cell? ⟨w.heap.size, 2, none⟩ = some (.slice A cs.length c) := (by rw [cell_of_row w6 w.heap.size 2 _ _ (0, 0) B6]; rfl); have kB3 : w6.cell? ⟨w3.heap.size, 0, none⟩ = some (.int .i64 a) := (by rw [cell_of_row w6 w3.heap.size 0 _ _ (0, 0) D6]; rfl); have kB4 : w6.cell? ⟨w3.heap.size, 1, none⟩ = some (.int .i64 bb) := (by rw [cell_of_row w6 w3.heap.size 1 _ _ (0, 0) D6]; rfl); have kB5 : w6.cell? ⟨w3.heap.size, 2, none⟩ = some (.slice (some ⟨g, 0, none⟩) cs.length c3) := (by rw [cell_of_row w6 w3.heap.size 2 _ _ (0, 0) D6]; rfl); have hkeep6 := (And.intro kB0 (And.intro kB1 (And.intro kB2 (And.intro kB3 (And.intro kB4 kB5)))))) | (go_at_call 120; refine (repeat_any _ _ a bk _ (Gs.lit (x := bk)) ha1 (by omega)).mono ?_; rintro e w7 ⟨A7, c7, rfl, hr7, hb7⟩; have v6 : Below w6.heap.size w6 (w6.alloc (.cells #[.int .i64 32, .int .i64 0, .int .i64 0, .bool false, .bool false, .bool false] 44)) := (Below.refl _ _).alloc (Nat.le_refl _) _; have v67 := v6.trans (hb7.mono v6.size); have z7 := v67.size; have B7 := (v67.block _ (Nat.lt_of_lt_of_le hBl (Nat.le_trans z5 z6))).trans B6; have C7 := (v67.block _ (Nat.lt_of_lt_of_le hCl (Nat.le_trans z5 z6))).trans C6; have D7 := (v67.block _ (Nat.lt_of_lt_of_le hDl (Nat.le_trans z5 z6))).trans D6; have ho7 := ho6.below v67 (Nat.le_refl _); have t7 := t6.trans (v67.mono t6.size); have zz8 := Nat.le_trans z5 (Nat.le_trans z6 z7); have kD0 : w7.cell? ⟨w.heap.size, 0, none⟩ = some (.int .i64 a) := (by rw [cell_of_row w7 w.heap.size 0 _ _ (0, 0) B7]; rfl); have kD1 : w7.cell? ⟨w.heap.size, 1, none⟩ = some (.int .i64 bb) := (by rw [cell_of_row w7 w.heap.size 1 _ _ (0, 0) B7]; rfl); have kD2 : w7.cell? ⟨w.heap.size, 2, none⟩ = some (.slice A cs.length c) := (by rw [cell_of_row w7 w.heap.size 2 _ _ (0, 0) B7]; rfl); have kD3 : w7.cell? ⟨w3.heap.size, 0, none⟩ = some (.int .i64 a) := (by rw [cell_of_row w7 w3.heap.size 0 _ _ (0, 0) D7]; rfl); have kD4 : w7.cell? ⟨w3.heap.size, 1, none⟩ = some (.int .i64 bb) := (by rw [cell_of_row w7 w3.heap.size 1 _ _ (0, 0) D7]; rfl); have kD5 : w7.cell? ⟨w3.heap.size, 2, none⟩ = some (.slice (some ⟨g, 0, none⟩) cs.length c3) := (by rw [cell_of_row w7 w3.heap.size 2 _ _ (0, 0) D7]; rfl); have hkeep7 := (And.intro kD0 (And.intro kD1 (And.intro kD2 (And.intro kD3 (And.intro kD4 kD5)))))) | (refine step_copyG rfl _ _ rfl (w.heap.size + 2) g c3 (yy * a) (p * 6) a _ _ _ _ (upd cs (roF cs a j k n) (j * a) (yy * a)) _ (List.replicate a bk) ho7 hr7.gs (by rw [hzl]; exact ha1) (by rw [hp.out]) (by simp) hzl rfl rfl (by rw [upd_len, ← hp.out]; omega) ?_; intro w8 ho8 hg8; have B8 := (hg8.block w.heap.size (Nat.lt_of_lt_of_le hBl zz8) (by simpa using hgB)).trans B7; have C8 := (hg8.block (w.heap.size + 1) (Nat.lt_of_lt_of_le hCl zz8) (by simpa using hgC)).trans C7; have D8 := (hg8.block w3.heap.size (Nat.lt_of_lt_of_le hDl zz8) (by simpa using hgD)).trans D7; have z8 := hg8.size; have kC0 : w8.cell? ⟨w.heap.size, 0, none⟩ = some (.int .i64 a) := (by rw [cell_of_row w8 w.heap.size 0 _ _ (0, 0) B8]; rfl); have kC1 : w8.cell? ⟨w.heap.size, 1, none⟩ = some (.int .i64 bb) := (by rw [cell_of_row w8 w.heap.size 1 _ _ (0, 0) B8]; rfl); have kC2 : w8.cell? ⟨w.heap.size, 2, none⟩ = some (.slice A cs.length c) := (by rw [cell_of_row w8 w.heap.size 2 _ _ (0, 0) B8]; rfl); have kC3 : w8.cell? ⟨w3.heap.size, 0, none⟩ = some (.int .i64 a) := (by rw [cell_of_row w8 w3.heap.size 0 _ _ (0, 0) D8]; rfl); have kC4 : w8.cell? ⟨w3.heap.size, 1, none⟩ = some (.int .i64 bb) := (by rw [cell_of_row w8 w3.heap.size 1 _ _ (0, 0) D8]; rfl); have kC5 : w8.cell? ⟨w3.heap.size, 2, none⟩ = some (.slice (some ⟨g, 0, none⟩) cs.length c3) := (by rw [cell_of_row w8 w3.heap.size 2 _ _ (0, 0) D8]; rfl); have hkeep8 := (And.intro kC0 (And.intro kC1 (And.intro kC2 (And.intro kC3 (And.intro kC4 kC5)))))))))
            | fail
          clear hkeep5 hkeep8 hkeep6 hkeep7
          go_wp2_with fail
          have ho9 := ho8.out
          rw [ro_row hy1 ZL (by rw [← hp.out]; omega) ZE] at ho9
          have t8 : Below w.heap.size w w8 := t7.grown hg8 t7.size (by intro k hk; injection hk with hk; omega)
          go_roundw
          case rel => exact ⟨yy + 1, by omega, by omega, by go_num, ho9, Lib.hid B8, Lib.hid C8, Lib.hid D8, t8, by omega⟩
          case measure => simp [intOf]; omega

        have HN := Lib.hid hn
        have hn2 : -120 ≤ n ∧ n ≤ 120 := by simpa [withinB] using hn
        obtain ⟨hn3, hn4⟩ := hn2
        have HX : Hid (withinB ((yy : Int) + n) j k = false) := by show _ = _; simp only [withinB]; exact decide_eq_false hout
        have hw1 : -1048576 ≤ (yy : Int) + n := by omega
        have hw2 : (yy : Int) + n ≤ 1048576 := by omega
        obtain ⟨eWk, eW⟩ := small_k hw1 hw2
        clear hn hin hout hn3 hn4 hw1 hw2
        go_wp2_with ((go_at_call 63; refine (within_any _ _ _ _).mono ?_; rintro e w6 ⟨he, rfl⟩; (first | rw [HN.out] at he | rw [HX.out] at he); subst he))
        first
          | (go_region_held3 (fun w' => w'.cell? ⟨w.heap.size, 0, none⟩ = some (.int .i64 a) ∧ w'.cell? ⟨w.heap.size, 1, none⟩ = some (.int .i64 bb) ∧ w'.cell? ⟨w.heap.size, 2, none⟩ = some (.slice A cs.length c) ∧ w'.cell? ⟨w3.heap.size, 0, none⟩ = some (.int .i64 a) ∧ w'.cell? ⟨w3.heap.size, 1, none⟩ = some (.int .i64 bb) ∧ w'.cell? ⟨w3.heap.size, 2, none⟩ = some (.slice (some ⟨g, 0, none⟩) cs.length c3))
               (first | with_reducible assumption | with_reducible exact ⟨cell_drew c0, cell_drew c1, cell_drew c2, cell_drew c3', cell_drew c4, cell_drew c5⟩ | with_reducible exact ⟨cell_alloc kB0, cell_alloc kB1, cell_alloc kB2, cell_alloc kB3, cell_alloc kB4, cell_alloc kB5⟩)
               ((first | (go_at_call_of 53 g; refine (row_any a bb _ _ _ yy p q _ hp hq hpq hqb hxc hcl (by omega)).mono ?_; rintro e w5 ⟨rfl, hb5'⟩; rw [hAg, hqp, Nat.add_sub_cancel_left]; have hb5 : Below wr.heap.size wr w5 := (Below.drew (Below.refl _ _)).trans hb5'; have B5 := (hb5.block _ hBl).trans hB.out; have C5 := (hb5.block _ hCl).trans hC.out; have D5 := (hb5.block _ hDl).trans hD.out; have ho5 := ho.below hb5 (Nat.le_refl _); have t5 := hb.trans (hb5.mono hb.size); have z5 := hb5.size; have kA0 : w5.cell? ⟨w.heap.size, 0, none⟩ = some (.int .i64 a) := (by rw [cell_of_row w5 w.heap.size 0 _ _ (0, 0) B5]; rfl); have kA1 : w5.cell? ⟨w.heap.size, 1, none⟩ = some (.int .i64 bb) := (by rw [cell_of_row w5 w.heap.size 1 _ _ (0, 0) B5]; rfl); have kA2 : w5.cell? ⟨w.heap.size, 2, none⟩ = some (.slice A cs.length c) := (by rw [cell_of_row w5 w.heap.size 2 _ _ (0, 0) B5]; rfl); have kA3 : w5.cell? ⟨w3.heap.size, 0, none⟩ = some (.int .i64 a) := (by rw [cell_of_row w5 w3.heap.size 0 _ _ (0, 0) D5]; rfl); have kA4 : w5.cell? ⟨w3.heap.size, 1, none⟩ = some (.int .i64 bb) := (by rw [cell_of_row w5 w3.heap.size 1 _ _ (0, 0) D5]; rfl); have kA5 : w5.cell? ⟨w3.heap.size, 2, none⟩ = some (.slice (some ⟨g, 0, none⟩) cs.length c3) := (by rw [cell_of_row w5 w3.heap.size 2 _ _ (0, 0) D5]; rfl); have hkeep5 := (And.intro kA0 (And.intro kA1 (And.intro kA2 (And.intro kA3 (And.intro kA4 kA5)))))) | (go_at_call 62; refine (blank_any _).mono ?_; rintro e w6 ⟨rfl, hb6⟩; have B6 := (hb6.block _ (Nat.lt_of_lt_of_le hBl z5)).trans B5; have C6 := (hb6.block _ (Nat.lt_of_lt_of_le hCl z5)).trans C5; have D6 := (hb6.block _ (Nat.lt_of_lt_of_le hDl z5)).trans D5; have ho6 := ho5.below hb6 (Nat.le_refl _); have t6 := t5.trans (hb6.mono t5.size); have z6 := hb6.size; have kB0 : w6.cell? ⟨w.heap.size, 0, none⟩ = some (.int .i64 a) := (by rw [cell_of_row w6 w.heap.size 0 _ _ (0, 0) B6]; rfl); have kB1 : w6.cell? ⟨w.heap.size, 1, none⟩ = some (.int .i64 bb) := (by rw [cell_of_row w6 w.heap.size 1 _ _ (0, 0) B6]; rfl); have kB2 : w6.cell? ⟨w.heap.size, 2, none⟩ = some (.slice A cs.length c) := (by rw [cell_of_row w6 w.heap.size 2 _ _ (0, 0) B6]; rfl); have kB3 : w6.cell? ⟨w3.heap.size, 0, none⟩ = some (.int .i64 a) := (by rw [cell_of_row w6 w3.heap.size 0 _ _ (0, 0) D6]; rfl); have kB4 : w6.cell? ⟨w3.heap.size, 1, none⟩ = some (.int .i64 bb) := (by rw [cell_of_row w6 w3.heap.size 1 _ _ (0, 0) D6]; rfl); have kB5 : w6.cell? ⟨w3.heap.size, 2, none⟩ = some (.slice (some ⟨g, 0, none⟩) cs.length c3) := (by rw [cell_of_row w6 w3.heap.size 2 _ _ (0, 0) D6]; rfl); have hkeep6 := (And.intro kB0 (And.intro kB1 (And.intro kB2 (And.intro kB3 (And.intro kB4 kB5)))))) | (go_at_call 120; refine (repeat_any _ _ a bk _ (Gs.lit (x := bk)) ha1 (by omega)).mono ?_; rintro e w7 ⟨A7, c7, rfl, hr7, hb7⟩; have v6 : Below w6.heap.size w6 (w6.alloc (.cells #[.int .i64 32, .int .i64 0, .int .i64 0, .bool false, .bool false, .bool false] 44)) := (Below.refl _ _).alloc (Nat.le_refl _) _; have v67 := v6.trans (hb7.mono v6.size); have z7 := v67.size; have B7 := (v67.block _ (Nat.lt_of_lt_of_le hBl (Nat.le_trans z5 z6))).trans B6; have C7 := (v67.block _ (Nat.lt_of_lt_of_le hCl (Nat.le_trans z5 z6))).trans C6; have D7 := (v67.block _ (Nat.lt_of_lt_of_le hDl (Nat.le_trans z5 z6))).trans D6; have ho7 := ho6.below v67 (Nat.le_refl _); have t7 := t6.trans (v67.mono t6.size); have zz8 := Nat.le_trans z5 (Nat.le_trans z6 z7); have kD0 : w7.cell? ⟨w.heap.size, 0, none⟩ = some (.int .i64 a) := (by rw [cell_of_row w7 w.heap.size 0 _ _ (0, 0) B7]; rfl); have kD1 : w7.cell? ⟨w.heap.size, 1, none⟩ = some (.int .i64 bb) := (by rw [cell_of_row w7 w.heap.size 1 _ _ (0, 0) B7]; rfl); have kD2 : w7.cell? ⟨w.heap.size, 2, none⟩ = some (.slice A cs.length c) := (by rw [cell_of_row w7 w.heap.size 2 _ _ (0, 0) B7]; rfl); have kD3 : w7.cell? ⟨w3.heap.size, 0, none⟩ = some (.int .i64 a) := (by rw [cell_of_row w7 w3.heap.size 0 _ _ (0, 0) D7]; rfl); have kD4 : w7.cell? ⟨w3.heap.size, 1, none⟩ = some (.int .i64 bb) := (by rw [cell_of_row w7 w3.heap.size 1 _ _ (0, 0) D7]; rfl); have kD5 : w7.cell? ⟨w3.heap.size, 2, none⟩ = some (.slice (some ⟨g, 0, none⟩) cs.length c3) := (by rw [cell_of_row w7 w3.heap.size 2 _ _ (0, 0) D7]; rfl); have hkeep7 := (And.intro kD0 (And.intro kD1 (And.intro kD2 (And.intro kD3 (And.intro kD4 kD5)))))) | (refine step_copyG rfl _ _ rfl (w.heap.size + 2) g c3 (yy * a) (p * 6) a _ _ _ _ (upd cs (roF cs a j k n) (j * a) (yy * a)) _ (List.replicate a bk) ho7 hr7.gs (by rw [hzl]; exact ha1) (by rw [hp.out]) (by simp) hzl rfl rfl (by rw [upd_len, ← hp.out]; omega) ?_; intro w8 ho8 hg8; have B8 := (hg8.block w.heap.size (Nat.lt_of_lt_of_le hBl zz8) (by simpa using hgB)).trans B7; have C8 := (hg8.block (w.heap.size + 1) (Nat.lt_of_lt_of_le hCl zz8) (by simpa using hgC)).trans C7; have D8 := (hg8.block w3.heap.size (Nat.lt_of_lt_of_le hDl zz8) (by simpa using hgD)).trans D7; have z8 := hg8.size; have kC0 : w8.cell? ⟨w.heap.size, 0, none⟩ = some (.int .i64 a) := (by rw [cell_of_row w8 w.heap.size 0 _ _ (0, 0) B8]; rfl); have kC1 : w8.cell? ⟨w.heap.size, 1, none⟩ = some (.int .i64 bb) := (by rw [cell_of_row w8 w.heap.size 1 _ _ (0, 0) B8]; rfl); have kC2 : w8.cell? ⟨w.heap.size, 2, none⟩ = some (.slice A cs.length c) := (by rw [cell_of_row w8 w.heap.size 2 _ _ (0, 0) B8]; rfl); have kC3 : w8.cell? ⟨w3.heap.size, 0, none⟩ = some (.int .i64 a) := (by rw [cell_of_row w8 w3.heap.size 0 _ _ (0, 0) D8]; rfl); have kC4 : w8.cell? ⟨w3.heap.size, 1, none⟩ = some (.int .i64 bb) := (by rw [cell_of_row w8 w3.heap.size 1 _ _ (0, 0) D8]; rfl); have kC5 : w8.cell? ⟨w3.heap.size, 2, none⟩ = some (.slice (some ⟨g, 0, none⟩) cs.length c3) := (by rw [cell_of_row w8 w3.heap.size 2 _ _ (0, 0) D8]; rfl); have hkeep8 := (And.intro kC0 (And.intro kC1 (And.intro kC2 (And.intro kC3 (And.intro kC4 kC5)))))))))
          | fail
        clear hkeep5 hkeep8 hkeep6 hkeep7 eWk eW
        go_wp2_with fail
        have ho9 := ho8.out
        rw [ro_row hy1 ZL (by rw [← hp.out]; omega) ZE] at ho9
        have t8 : Below w.heap.size w w8 := t7.grown hg8 t7.size (by intro k hk; injection hk with hk; omega)
        go_roundw
        case rel => exact ⟨yy + 1, by omega, by omega, by go_num, ho9, Lib.hid B8, Lib.hid C8, Lib.hid D8, t8, by omega⟩
        case measure => simp [intOf]; omega

      obtain ⟨⟨hn3, hn4⟩, hr1, hr2⟩ := hin
      obtain ⟨r, er⟩ := Int.eq_ofNat_of_zero_le (show 0 ≤ (yy : Int) + n by omega)
      have hrj : j ≤ r := by omega
      have hrk : r ≤ k := by omega
      obtain ⟨pr, hpr⟩ : ∃ pr, Hid (pr = r * a) := ⟨_, rfl⟩
      obtain ⟨qr, hqr⟩ : ∃ qr, Hid (qr = (r + 1) * a) := ⟨_, rfl⟩
      have hqpr : qr = pr + a := by rw [hpr.out, hqr.out, Nat.succ_mul]
      have hpqr : pr < qr := by omega
      have hqbr : qr ≤ cs.length := by
        rw [hlN.out, hqpr, hpr.out]
        exact (row_bd (show r < bb by omega) ha1).2
      have hzl : ((cs.drop pr).take a).length = a := by rw [List.length_take, List.length_drop]; omega
      have ZL := hzl
      have ZE : ∀ x, x < a → ((cs.drop pr).take a)[x]? = some (roF cs a j k n (yy * a + x)) := by
        intro x hx
        have h3 : r * a + x < cs.length := by have := hpr.out; omega
        rw [ro_in hx er hrj hrk h3, List.getElem?_take_of_lt hx, List.getElem?_drop, hpr.out, List.getElem?_eq_getElem h3]
      obtain ⟨b, o, rfl, _⟩ := ha.get hcl0
      have hAb : (some (⟨b, o, none⟩ : Addr)).map (·.add (pr * 6)) = some ⟨b, o + pr * 6, none⟩ := by simp [Addr.add_lit]
      have c0 : wr.cell? ⟨w.heap.size, 0, none⟩ = some (.int .i64 a) := by rw [cell_of_row wr w.heap.size 0 _ _ (0, 0) hB.out]; rfl
      have c1 : wr.cell? ⟨w.heap.size, 1, none⟩ = some (.int .i64 bb) := by rw [cell_of_row wr w.heap.size 1 _ _ (0, 0) hB.out]; rfl
      have c2 : wr.cell? ⟨w.heap.size, 2, none⟩ = some (.slice (some ⟨b, o, none⟩) cs.length c) := by rw [cell_of_row wr w.heap.size 2 _ _ (0, 0) hB.out]; rfl
      have c3' : wr.cell? ⟨w3.heap.size, 0, none⟩ = some (.int .i64 a) := by rw [cell_of_row wr w3.heap.size 0 _ _ (0, 0) hD.out]; rfl
      have c4 : wr.cell? ⟨w3.heap.size, 1, none⟩ = some (.int .i64 bb) := by rw [cell_of_row wr w3.heap.size 1 _ _ (0, 0) hD.out]; rfl
      have c5 : wr.cell? ⟨w3.heap.size, 2, none⟩ = some (.slice (some ⟨g, 0, none⟩) cs.length c3) := by rw [cell_of_row wr w3.heap.size 2 _ _ (0, 0) hD.out]; rfl
      have HN : Hid (withinB n (-120) 120 = true) := by show _ = _; simp only [withinB]; exact decide_eq_true ⟨hn3, hn4⟩
      have HX : Hid (withinB (r : Int) j k = true) := by show _ = _; simp only [withinB]; exact decide_eq_true ⟨by omega, by omega⟩
      have hyy : yy ≤ 1000 := by omega
      have hrr : r ≤ 1000 := by omega
      have hft : yy * a + a ≤ cs.length := by rw [← hp.out]; omega
      obtain ⟨erk, erw⟩ := small_k (n := (r : Int)) (by omega) (by omega)
      clear hr1 hr2 hn3 hn4
      go_wp2_with ((go_at_call 63; refine (within_any _ _ _ _).mono ?_; rintro e w6 ⟨he, rfl⟩; (first | rw [HN.out] at he | rw [HX.out] at he); subst he))
      first
        | (go_region_held3 (fun w' => w'.cell? ⟨w.heap.size, 0, none⟩ = some (.int .i64 a) ∧ w'.cell? ⟨w.heap.size, 1, none⟩ = some (.int .i64 bb) ∧ w'.cell? ⟨w.heap.size, 2, none⟩ = some (.slice (some ⟨b, o, none⟩) cs.length c) ∧ w'.cell? ⟨w3.heap.size, 0, none⟩ = some (.int .i64 a) ∧ w'.cell? ⟨w3.heap.size, 1, none⟩ = some (.int .i64 bb) ∧ w'.cell? ⟨w3.heap.size, 2, none⟩ = some (.slice (some ⟨g, 0, none⟩) cs.length c3))
             (first | with_reducible assumption | with_reducible exact ⟨cell_drew c0, cell_drew c1, cell_drew c2, cell_drew c3', cell_drew c4, cell_drew c5⟩ | with_reducible exact ⟨cell_alloc kB0, cell_alloc kB1, cell_alloc kB2, cell_alloc kB3, cell_alloc kB4, cell_alloc kB5⟩)
             ((first | (go_at_call_of 53 g; refine (row_any a bb _ _ _ yy p q _ hp hq hpq hqb hxc hcl hyy).mono ?_; rintro e w5 ⟨rfl, hb5'⟩; rw [hAg, hqp, Nat.add_sub_cancel_left]; have hb5 : Below wr.heap.size wr w5 := (Below.drew (Below.refl _ _)).trans hb5'; have B5 := (hb5.block _ hBl).trans hB.out; have C5 := (hb5.block _ hCl).trans hC.out; have D5 := (hb5.block _ hDl).trans hD.out; have ho5 := ho.below hb5 (Nat.le_refl _); have t5 := hb.trans (hb5.mono hb.size); have z5 := hb5.size; have kA0 : w5.cell? ⟨w.heap.size, 0, none⟩ = some (.int .i64 a) := (by rw [cell_of_row w5 w.heap.size 0 _ _ (0, 0) B5]; rfl); have kA1 : w5.cell? ⟨w.heap.size, 1, none⟩ = some (.int .i64 bb) := (by rw [cell_of_row w5 w.heap.size 1 _ _ (0, 0) B5]; rfl); have kA2 : w5.cell? ⟨w.heap.size, 2, none⟩ = some (.slice (some ⟨b, o, none⟩) cs.length c) := (by rw [cell_of_row w5 w.heap.size 2 _ _ (0, 0) B5]; rfl); have kA3 : w5.cell? ⟨w3.heap.size, 0, none⟩ = some (.int .i64 a) := (by rw [cell_of_row w5 w3.heap.size 0 _ _ (0, 0) D5]; rfl); have kA4 : w5.cell? ⟨w3.heap.size, 1, none⟩ = some (.int .i64 bb) := (by rw [cell_of_row w5 w3.heap.size 1 _ _ (0, 0) D5]; rfl); have kA5 : w5.cell? ⟨w3.heap.size, 2, none⟩ = some (.slice (some ⟨g, 0, none⟩) cs.length c3) := (by rw [cell_of_row w5 w3.heap.size 2 _ _ (0, 0) D5]; rfl); have hkeep5 := (And.intro kA0 (And.intro kA1 (And.intro kA2 (And.intro kA3 (And.intro kA4 kA5)))))) | (go_at_call_of 53 b; refine (row_any a bb _ _ _ r pr qr _ hpr hqr hpqr hqbr hc hcl hrr).mono ?_; rintro e w7 ⟨rfl, hb7⟩; rw [hAb, hqpr, Nat.add_sub_cancel_left]; have B7 := (hb7.block _ (Nat.lt_of_lt_of_le hBl z5)).trans B5; have C7 := (hb7.block _ (Nat.lt_of_lt_of_le hCl z5)).trans C5; have D7 := (hb7.block _ (Nat.lt_of_lt_of_le hDl z5)).trans D5; have ho7 := ho5.below hb7 (Nat.le_refl _); have t7 := t5.trans (hb7.mono t5.size); have zz8 := Nat.le_trans z5 hb7.size; have hz7 := (ha.below t7).sub pr a; have kD0 : w7.cell? ⟨w.heap.size, 0, none⟩ = some (.int .i64 a) := (by rw [cell_of_row w7 w.heap.size 0 _ _ (0, 0) B7]; rfl); have kD1 : w7.cell? ⟨w.heap.size, 1, none⟩ = some (.int .i64 bb) := (by rw [cell_of_row w7 w.heap.size 1 _ _ (0, 0) B7]; rfl); have kD2 : w7.cell? ⟨w.heap.size, 2, none⟩ = some (.slice (some ⟨b, o, none⟩) cs.length c) := (by rw [cell_of_row w7 w.heap.size 2 _ _ (0, 0) B7]; rfl); have kD3 : w7.cell? ⟨w3.heap.size, 0, none⟩ = some (.int .i64 a) := (by rw [cell_of_row w7 w3.heap.size 0 _ _ (0, 0) D7]; rfl); have kD4 : w7.cell? ⟨w3.heap.size, 1, none⟩ = some (.int .i64 bb) := (by rw [cell_of_row w7 w3.heap.size 1 _ _ (0, 0) D7]; rfl); have kD5 : w7.cell? ⟨w3.heap.size, 2, none⟩ = some (.slice (some ⟨g, 0, none⟩) cs.length c3) := (by rw [cell_of_row w7 w3.heap.size 2 _ _ (0, 0) D7]; rfl); have hkeep7 := (And.intro kD0 (And.intro kD1 (And.intro kD2 (And.intro kD3 (And.intro kD4 kD5)))))) | (refine step_copyG rfl _ _ rfl (w.heap.size + 2) g c3 (yy * a) (p * 6) a _ _ _ _ (upd cs (roF cs a j k n) (j * a) (yy * a)) _ ((cs.drop pr).take a) ho7 hz7 (by rw [hzl]; exact ha1) (by rw [hp.out]) (by simp) hzl rfl rfl (by rw [upd_len]; exact hft) ?_; intro w8 ho8 hg8; have B8 := (hg8.block w.heap.size (Nat.lt_of_lt_of_le hBl zz8) (by simpa using hgB)).trans B7; have C8 := (hg8.block (w.heap.size + 1) (Nat.lt_of_lt_of_le hCl zz8) (by simpa using hgC)).trans C7; have D8 := (hg8.block w3.heap.size (Nat.lt_of_lt_of_le hDl zz8) (by simpa using hgD)).trans D7; have z8 := hg8.size; have kC0 : w8.cell? ⟨w.heap.size, 0, none⟩ = some (.int .i64 a) := (by rw [cell_of_row w8 w.heap.size 0 _ _ (0, 0) B8]; rfl); have kC1 : w8.cell? ⟨w.heap.size, 1, none⟩ = some (.int .i64 bb) := (by rw [cell_of_row w8 w.heap.size 1 _ _ (0, 0) B8]; rfl); have kC2 : w8.cell? ⟨w.heap.size, 2, none⟩ = some (.slice (some ⟨b, o, none⟩) cs.length c) := (by rw [cell_of_row w8 w.heap.size 2 _ _ (0, 0) B8]; rfl); have kC3 : w8.cell? ⟨w3.heap.size, 0, none⟩ = some (.int .i64 a) := (by rw [cell_of_row w8 w3.heap.size 0 _ _ (0, 0) D8]; rfl); have kC4 : w8.cell? ⟨w3.heap.size, 1, none⟩ = some (.int .i64 bb) := (by rw [cell_of_row w8 w3.heap.size 1 _ _ (0, 0) D8]; rfl); have kC5 : w8.cell? ⟨w3.heap.size, 2, none⟩ = some (.slice (some ⟨g, 0, none⟩) cs.length c3) := (by rw [cell_of_row w8 w3.heap.size 2 _ _ (0, 0) D8]; rfl); have hkeep8 := (And.intro kC0 (And.intro kC1 (And.intro kC2 (And.intro kC3 (And.intro kC4 kC5)))))))))
        | fail
      clear erk erw er
      clear hkeep5 hkeep8 hkeep7
      go_wp2_with fail
      have ho9 := ho8.out
      rw [ro_row hy1 ZL (by rw [← hp.out]; omega) ZE] at ho9
      have t8 : Below w.heap.size w w8 := t7.grown hg8 t7.size (by intro k hk; injection hk with hk; omega)
      go_roundw
      case rel => exact ⟨yy + 1, by omega, by omega, by go_num, ho9, Lib.hid B8, Lib.hid C8, Lib.hid D8, t8, by omega⟩
      case measure => simp [intOf]; omega

    · have hyk : yy = k + 1 := by omega
      have ho' : Og wr (w.heap.size + 2) (some ⟨g, 0, none⟩) c3 (roL cs a j k n) := by rw [hyk] at ho; exact ho
      have hlty' : ¬ (yy : Int) ≤ k := by omega
      have qd0 : ∀ i, wr.cell? ⟨w3.heap.size, i, none⟩ = _ := fun i => cell_of_row wr _ i _ _ (0, 0) hD.out
      have qq0 : ∀ i, wr.cell? ⟨w.heap.size + 1, i, none⟩ = _ := fun i => cell_of_row wr _ i _ _ (0, 0) hC.out
      have rr0 : ∀ i, wr.frozen? ⟨w.heap.size + 1, i, none⟩ = false := fun i => by simp [World.frozen?, hC.out]
      clear hyk ho
      go_wp2_with fail
      refine bodyPost_ret (v := gV a bb (some ⟨g, 0, none⟩) cs.length c3) (by simp [results, Try.results59, go_sem, *]) rfl ?_
      have hL : (roL cs a j k n).length = cs.length := upd_len
      have ho2 := (((ho'.setCell (p := ⟨w.heap.size + 1, 0, none⟩) (by simp) (.int .i64 a)).setCell (p := ⟨w.heap.size + 1, 1, none⟩) (by simp) (.int .i64 bb)).setCell (p := ⟨w.heap.size + 1, 2, none⟩) (by simp) (.slice (some ⟨g, 0, none⟩) cs.length c3))
      exact ⟨_, c3, by rw [hL], ho2.mono (by omega), ho2.gs, (ho2.mono (by omega)).inB, ((hb.setCell (by first | omega | (simp; done) | (simp; omega)) _).setCell (by first | omega | (simp; done) | (simp; omega)) _).setCell (by first | omega | (simp; done) | (simp; omega)) _⟩
end Go.Proofs.Ytnilgcahggmncaa
