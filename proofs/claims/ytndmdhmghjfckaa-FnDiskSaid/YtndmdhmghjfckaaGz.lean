/- An operation on a disk, of whatever kind: what comes out is valid. A new disk is valid: the reference's. A disk drawn: some operations on a new one; it is valid. -/
import Derived.Test.YtndmdhmghjfckaaE1
import Derived.Test.YtndmdhmghjfckaaE2
import Derived.Test.YtndmdhmghjfckaaE3
import Derived.Test.YtndmdhmghjfckaaE4
import Derived.Test.YtndmdhmghjfckaaE5
import Derived.Test.YtndmdhmghjfckaaE6
import Derived.Test.YtndmdhmghjfckaaDa
import Derived.Test.YtndmdhmghjfckaaCn
namespace Go.Proofs.Ytndmdhmghjfckaa
open Go.RowKit

set_option linter.unusedVariables false

theorem diskDo_any (k : Int) (r f n : Int) (FA : Option Addr) (es : List Fl) (c1 : Nat) (KA : Option Addr) (ks : List Lk) (c2 : Nat) (TA : Option Addr) (ts : List Tn) (c3 : Nat) (s t : ByteArray) (DA : Option Addr) (xs : List UInt8) (dc : Nat) (w : World) (hr : Dr w FA es KA ks TA ts) (hvd : Vd r f n (es.map fc) ks ts) (hop : opB k s t xs.length = true) (hD : By w DA xs) (hdc : xs.length ≤ dc) :
    Calls Try.prog 21 #[dkV r f n FA es.length c1 KA ks.length c2 TA ts.length c3, opV k s t DA xs.length dc] w (DdPost w) := by
  have hk : 1 ≤ k ∧ k ≤ 6 := by
    unfold opB at hop
    simp only [Bool.and_eq_true, decide_eq_true_eq] at hop
    exact hop.1.1.1.1
  rcases (show k = 1 ∨ k = 2 ∨ k = 3 ∨ k = 4 ∨ k = 5 ∨ k = 6 by omega) with rfl | rfl | rfl | rfl | rfl | rfl
  · exact diskDo_1 r f n FA es c1 KA ks c2 TA ts c3 s t DA xs dc w hr hvd hop hD hdc
  · exact diskDo_2 r f n FA es c1 KA ks c2 TA ts c3 s t DA xs dc w hr hvd hop hD hdc
  · exact diskDo_3 r f n FA es c1 KA ks c2 TA ts c3 s t DA xs dc w hr hvd hop hD hdc
  · exact diskDo_4 r f n FA es c1 KA ks c2 TA ts c3 s t DA xs dc w hr hvd hop hD hdc
  · exact diskDo_5 r f n FA es c1 KA ks c2 TA ts c3 s t DA xs dc w hr hvd hop hD hdc
  · exact diskDo_6 r f n FA es c1 KA ks c2 TA ts c3 s t DA xs dc w hr hvd hop hD hdc

set_option linter.unusedVariables false
set_option maxRecDepth 100000

theorem Vd.new {room : Int} (h : 0 ≤ room ∧ room ≤ 400000) : Vd room (-1) 1 [] [] [] :=
  ⟨h, by omega, by omega, by simp, by simp, by simp, by simp [cu]; omega, rfl, rfl, rfl, by simp [idB, idsOf, mkIds]⟩
theorem diskNew_k (room : Int) (w : World) (h : 0 ≤ room ∧ room ≤ 400000) : Calls Try.prog 20 #[.int .i64 room] w fun e w' => e = .returned (.tuple #[dkV room (-1) 1 none 0 0 none 0 0 none 0 0, .bool true]) ∧ Below w.heap.size w w' := by
  have h1 : ¬ room < 0 := by omega
  have h2 : ¬ 400000 < room := by omega
  clear h
  go_enter Try.func20, Try.ntmps20
  go_wp2_with fail
  exact bodyPost_ret (v := .tuple #[dkV room (-1) 1 none 0 0 none 0 0 none 0 0, .bool true]) (by simp [results, Try.results20, go_sem, *]) rfl ⟨rfl, (by (repeat (first | exact Below.refl _ _ | (refine Below.alloc ?_ (by first | omega | (simp; done) | (simp; omega)) _) | (refine Below.drew ?_) | (refine below_drewN ?_ _) | (refine below_at1 ?_ (by first | omega | (simp; done) | (simp; omega))) | (refine Below.setCell ?_ (by first | omega | (simp; done) | (simp; omega)) _) | (refine Below.trans ?_ (Below.mono (by assumption) (by first | omega | (simp; done) | (simp; omega)))))))⟩

set_option linter.unusedVariables false
set_option maxRecDepth 100000

def roomL : List Int := [0, 9, 30, 60, 200, 400000]
theorem roomL_ok {x : Nat} (h : x < 6) : ∃ z, roomL[x]? = some z ∧ 0 ≤ z ∧ z ≤ 400000 := by
  match x, h with
  | 0, _ => exact ⟨_, rfl, by decide, by decide⟩
  | 1, _ => exact ⟨_, rfl, by decide, by decide⟩
  | 2, _ => exact ⟨_, rfl, by decide, by decide⟩
  | 3, _ => exact ⟨_, rfl, by decide, by decide⟩
  | 4, _ => exact ⟨_, rfl, by decide, by decide⟩
  | 5, _ => exact ⟨_, rfl, by decide, by decide⟩
theorem yields_rowD {ops : Array Oper} {S : World → Prop} {o : Oper} {a : Act} (hwt : Region.wanted o (yielded ops a.tmps) = true) (x : Operand) (ho : o.op = .load 27 x) (g : Nat) (hx : a.eval x = .pointer (some ⟨g, 0, none⟩)) (r f n : Int) (FA : Option Addr) (fn c1 : Nat) (KA : Option Addr) (kn c2 : Nat) (TA : Option Addr) (tn c3 : Nat)
    (hg : ∀ w, S w → w.heap[g]? = some (.cells (dkC r f n FA fn c1 KA kn c2 TA tn c3) 27 (0, 0))) : YieldsIf Try.prog ops S o (dkV r f n FA fn c1 KA kn c2 TA tn c3) a :=
  Or.inl ⟨hwt, fun w hS => by
    unfold execOp
    simp only [ho, hx, Instr.loadAt, Instr.sureAddr, Sem.run_bind, Sem.run_pure, Result.andThen_ok, run_loadVar_row w g 27 27 _ (0, 0) _ (hg w hS) Try.underlying27 rfl size_dkD]⟩
theorem wp_stDk {o : Oper} {a : Act} {w : World} {K : Act → World → Prop} {Q : Exit → Act → World → Prop} (x y : Operand) (ho : o.op = .store 27 x y)
    (g : Nat) (hx : a.eval x = .pointer (some ⟨g, 0, none⟩)) (r f n : Int) (FA : Option Addr) (fn c1 : Nat) (KA : Option Addr) (kn c2 : Nat) (TA : Option Addr) (tn c3 : Nat) (hy : a.eval y = dkV r f n FA fn c1 KA kn c2 TA tn c3)
    (old : Array Value) (hg : w.heap[g]? = some (.cells old 27 (0, 0))) (hold : old.size = 6)
    (h : ∀ w', w'.heap[g]? = some (.cells (dkC r f n FA fn c1 KA kn c2 TA tn c3) 27 (0, 0)) → (∀ k, k ≠ g → w'.heap[k]? = w.heap[k]?) → w'.heap.size = w.heap.size → (∀ (B : Nat) (w0 : World), Below B w0 w → B ≤ w0.heap.size → B ≤ g → Below B w0 w') → K (a.put o.dst undef) w') : o.wp Try.prog a w K Q := by
  refine wp_store_row 27 x y ho g _ hx hy 27 old hg size_dkD (by rw [hold]; rfl) (by simp [Value.oneCell']) (h _ (setRow_heap w g old _ _ (0, 0) hg) (fun k hk => setRow_other w g k _ hk) (by simp) fun B w0 hb hB hl => ?_)
  refine hb.trans ?_
  exact below_of_grown (row := some g) ⟨rfl, rfl, rfl, by simp, fun i _ hne => setRow_other w g i _ (by rintro rfl; exact hne rfl)⟩ (Nat.le_trans hB hb.size) (fun k hk => by injection hk with hk; omega)
/-- What a draw's disk is, in block gd: valid. -/
def DdI (w : World) (gd : Nat) : Prop :=
  ∃ r f n FA c1 es KA c2 ks TA c3 ts, w.heap[gd]? = some (.cells (dkC r f n FA es.length c1 KA ks.length c2 TA ts.length c3) 27 (0, 0)) ∧ Vd r f n (es.map fc) ks ts ∧ ts.length ≤ c3 ∧ Cp es ∧ DkW w (gd + 1) w.heap.size FA es KA ks TA ts
/-- What it answers. -/
def DrPost (w : World) (g : Nat) (e : Ending) (w' : World) : Prop :=
  ∃ r f n FA c1 es KA c2 ks TA c3 ts, e = .returned (dkV r f n FA es.length c1 KA ks.length c2 TA ts.length c3) ∧ Vd r f n (es.map fc) ks ts ∧ ts.length ≤ c3 ∧ Cp es ∧ DkW w' (g + 1) w'.heap.size FA es KA ks TA ts ∧ Kp g (g + 1) w w'
set_option maxHeartbeats 8000000 in
theorem l02Draw_k (g : Nat) (A : Option Addr) (c : Nat) (xs : List UInt8) (w : World) (h : CA w g A c xs) :
    Calls Try.prog 10 #[.pointer (some ⟨g, 0, none⟩), .int .i64 20] w (DrPost w g) := by
  have hgl := h.lt
  have hb2 : Below w.heap.size w ((w.alloc (.cells zDk 27)).alloc (.cells #[.int .i64 0, .int .i64 9, .int .i64 30, .int .i64 60, .int .i64 200, .int .i64 400000] 3)) := by (repeat (first | exact Below.refl _ _ | (refine Below.alloc ?_ (by first | omega | (simp; done) | (simp; omega)) _) | (refine Below.drew ?_) | (refine below_drewN ?_ _) | (refine below_at1 ?_ (by first | omega | (simp; done) | (simp; omega))) | (refine Below.setCell ?_ (by first | omega | (simp; done) | (simp; omega)) _) | (refine Below.trans ?_ (Below.mono (by assumption) (by first | omega | (simp; done) | (simp; omega))))))
  have l0 : ((w.alloc (.cells zDk 27)).alloc (.cells #[.int .i64 0, .int .i64 9, .int .i64 30, .int .i64 60, .int .i64 200, .int .i64 400000] 3)).heap[w.heap.size + 1]? = some (.cells #[.int .i64 0, .int .i64 9, .int .i64 30, .int .i64 60, .int .i64 200, .int .i64 400000] 3 (0, 0)) := (by repeat (first | assumption | exact heap_alloc_at _ (by first | rfl | (simp; done) | omega) | refine heap_alloc_of _ ?_ | refine heap_setCell_of _ (by first | omega | (simp; done) | (simp; omega)) ?_ | refine heap_setCell_same _ ?_ | exact heap_at1_same (by first | omega | (simp; done) | (simp; omega)) | refine heap_at1_of (by first | omega | (simp; done) | (simp; omega)) ?_))
  have z0 : ((w.alloc (.cells zDk 27)).alloc (.cells #[.int .i64 0, .int .i64 9, .int .i64 30, .int .i64 60, .int .i64 200, .int .i64 400000] 3)).heap[w.heap.size]? = some (.cells zDk 27 (0, 0)) := (by repeat (first | assumption | exact heap_alloc_at _ (by first | rfl | (simp; done) | omega) | refine heap_alloc_of _ ?_ | refine heap_setCell_of _ (by first | omega | (simp; done) | (simp; omega)) ?_ | refine heap_setCell_same _ ?_ | exact heap_at1_same (by first | omega | (simp; done) | (simp; omega)) | refine heap_at1_of (by first | omega | (simp; done) | (simp; omega)) ?_))
  have k2 : Kp g (g + 1) w ((w.alloc (.cells zDk 27)).alloc (.cells #[.int .i64 0, .int .i64 9, .int .i64 30, .int .i64 60, .int .i64 200, .int .i64 400000] 3)) := (Kp.refl g (g + 1) w).below hb2 (by omega) (Nat.le_refl _)
  have h2 := h.below hb2 hgl
  have s2 : ((w.alloc (.cells zDk 27)).alloc (.cells #[.int .i64 0, .int .i64 9, .int .i64 30, .int .i64 60, .int .i64 200, .int .i64 400000] 3)).heap.size = w.heap.size + 2 := by simp
  go_enter Try.func10, Try.ntmps10
  go_wp2_with fail
  refine (l01Below_k g A c xs 6 _ h2 (by omega) (by omega)).mono ?_
  rintro e w3 ⟨x, hx, rfl, h3, k3⟩
  have z3 := k3.1.size
  have l3 := (k3.2 (w.heap.size + 1) (by omega) (by omega)).trans l0
  have y3 := (k3.2 w.heap.size (by omega) (by omega)).trans z0
  obtain ⟨room, hs, hr⟩ := roomL_ok hx
  have hcell : w3.cell? ⟨w.heap.size + 1, x, none⟩ = some (.int .i64 room) := by
    rw [cell_of_row w3 _ x _ _ (0, 0) l3]
    have : (roomL.map (Value.int .i64))[x]? = some (.int .i64 room) := by rw [List.getElem?_map, hs]; rfl
    simpa [roomL] using this
  have hx' : (x : Int) < 6 := by omega
  have hx0 : (0 : Int) ≤ (x : Int) := Int.natCast_nonneg x
  have k03 := k2.trans k3
  have zw3 : w.heap.size + 2 ≤ w3.heap.size := by omega
  clear l3 l0 z0 hb2 k2 k3 h2 s2 z3
  go_wp2_with fail
  refine (diskNew_k room _ hr).mono ?_
  rintro e w4 ⟨rfl, hb4⟩
  have k04 := k03.below hb4 (by omega) (by omega)
  have h4 := h3.below hb4 (by have := h3.lt; omega)
  have z4 := hb4.size
  clear hcell hx' hx0
  go_wp2_with fail
  have hb5 : Below w4.heap.size w4 (w4.alloc (.cells (dkC room (-1) 1 none 0 0 none 0 0 none 0 0) 27)) := (Below.refl _ _).alloc (Nat.le_refl _) _
  have k05 : Kp g (g + 1) w (w4.alloc (.cells (dkC room (-1) 1 none 0 0 none 0 0 none 0 0) 27)) := k04.below hb5 (by omega) (by omega)
  have h5 := h4.below hb5 (by omega)
  have y4 := (hb4.block w.heap.size (by omega)).trans y3
  have y5 := heap_alloc_of (.cells (dkC room (-1) 1 none 0 0 none 0 0 none 0 0) 27) y4
  have d5 : DdI (w4.alloc (.cells (dkC room (-1) 1 none 0 0 none 0 0 none 0 0) 27)) w4.heap.size :=
    ⟨room, -1, 1, none, 0, [], none, 0, [], none, 0, [], heap_alloc_new _ _, Vd.new hr, Nat.le_refl _, (fun e he => by simp at he), fun w' _ => ⟨⟨SlL.nil, fun e he => by simp at he⟩, SlL.nil, SlL.nil⟩⟩
  go_loopw [7] (fun iv wr => ∃ j : Nat, j ≤ 2 ∧ iv = .int .i64 j ∧ DdI wr w4.heap.size ∧ CA wr g A c xs ∧ Kp g (g + 1) w wr ∧ wr.heap[w.heap.size]? = some (.cells zDk 27 (0, 0))) (fun iv _ => 2 - (intOf iv).toNat)
  case atStart => exact ⟨0, by omega, rfl, d5, h5, k05, y5⟩
  case round =>
    have zw4 : w.heap.size < w4.heap.size := by omega
    clear d5 h5 k05 y5 y4 k04 h4 hb5 y3 k03 h3 hb4
    obtain ⟨j, hj, rfl, hD, hC, hk, hz⟩ := hrel
    by_cases hlt : j < 2
    · have hlt' : (j : Int) < 2 := by omega
      obtain ⟨r, f, n, FA, c1, es, KA, c2, ks, TA, c3, ts, hB, hv, hc, hcp, hw⟩ := hD
      have zr : w4.heap.size < wr.heap.size := (Array.getElem?_eq_some_iff.1 hB).1
      go_wp2_with fail
      have B0 : wr.drew.heap[w4.heap.size]? = some (.cells (dkC r f n FA es.length c1 KA ks.length c2 TA ts.length c3) 27 (0, 0)) := hB
      have bd : Below wr.heap.size wr wr.drew := (Below.refl _ _).drew
      have S0 : wr.drew.heap.size = wr.heap.size := rfl
      refine wp_regionK (fun w' => w'.heap[w4.heap.size]? = some (.cells (dkC r f n FA es.length c1 KA ks.length c2 TA ts.length c3) 27 (0, 0))) 4 (by kernel_rfl) ?_
      refine wpAnyK_take (i := 0) (v := dkV r f n FA es.length c1 KA ks.length c2 TA ts.length c3) rfl (by kernel_rfl) (by kernel_rfl) (by kernel_rfl) (fun _ _ _ h => h) (by kernel_rfl) (by kernel_rfl) (by decide) (yields_rowD (by rfl) _ rfl w4.heap.size rfl r f n FA es.length c1 KA ks.length c2 TA ts.length c3 (fun _ h => h)) (B0) ?_
      try simp only [Act.put, List.getElem_toArray, List.getElem_cons_zero, List.setIfInBounds_toArray, List.set_cons_zero, List.set_cons_succ]
      refine wpAnyK_free (i := 1) (v := .pointer (some ⟨g, 0, none⟩)) rfl (by kernel_rfl) (by kernel_rfl) (by kernel_rfl) (fun _ _ _ h => h) (by decide) (Or.inl ⟨by rfl, (by intro w' _; go_simp; try first | rfl | (simp [*, Addr.add_lit]; done))⟩) (fun _ => B0) ?_
      try simp only [Act.put, List.getElem_toArray, List.getElem_cons_succ, List.getElem_cons_zero, List.setIfInBounds_toArray, List.set_cons_zero, List.set_cons_succ]
      refine wpAnyK_ready (rs := [2]) (by kernel_rfl) (by simp) ?_
      refine AllReadyK.cons rfl (fun K hK => ?_) AllReadyK.nil
      go_simp
      refine (l02Name_k g A c xs wr.drew (hC.below bd (by omega))).mono ?_
      rintro e w6 ⟨s, hs, rfl, h6, k6⟩
      have z6 := k6.1.size
      have B6 := (k6.2 w4.heap.size (by omega) (by omega)).trans B0
      have Z6 := (k6.2 w.heap.size (by omega) (by omega)).trans (show wr.drew.heap[w.heap.size]? = some (.cells zDk 27 (0, 0)) from hz)
      have kw6 := (hk.below bd (by omega) (by omega)).trans k6
      have r6 := ((hw.below bd (Nat.le_refl _)).kp k6 (by omega) (.inr (by omega))).rd
      clear hB hC hk hw hz B0 bd
      refine hK.out _ _ (fun _ => B6) ?_
      clear hK K
      try simp only [Act.put, List.getElem_toArray, List.getElem_cons_succ, List.getElem_cons_zero, List.setIfInBounds_toArray, List.set_cons_zero, List.set_cons_succ]
      refine wpAnyK_free (i := 3) (v := opV 1 s ⟨#[]⟩ none 0 0) rfl (by kernel_rfl) (by kernel_rfl) (by kernel_rfl) (fun _ _ _ h => h) (by decide) (Or.inl ⟨by rfl, (by intro w' _; go_simp; try first | rfl | (simp [*, Addr.add_lit]; done))⟩) (fun _ => B6) ?_
      try simp only [Act.put, List.getElem_toArray, List.getElem_cons_succ, List.getElem_cons_zero, List.setIfInBounds_toArray, List.set_cons_zero, List.set_cons_succ]
      refine wpAnyK_ready (rs := [4]) (by kernel_rfl) (by simp) ?_
      refine AllReadyK.cons rfl (fun K hK => ?_) AllReadyK.nil
      go_simp
      have cD := diskDo_any 1 r f n FA es c1 KA ks c2 TA ts c3 s ⟨#[]⟩ none [] 0 w6 r6 hv (by unfold opB; simp [hs, noB_emp]) (Or.inl rfl) (Nat.le_refl _)
      refine cD.mono ?_
      rintro e w7 ⟨r2, f2, n2, F2, d1, es2, K2, d2, ks2, T2, d3, ts2, z, rfl, hv2, hc2, hcp2, hw7, hb7⟩
      have z7 := hb7.size
      have B7 := (hb7.block w4.heap.size (by omega)).trans B6
      have Z7 := (hb7.block w.heap.size (by omega)).trans Z6
      have kw7 := kw6.below hb7 (by omega) (by omega)
      have h7 := h6.below hb7 (by omega)
      clear cD B6 Z6 kw6 h6 r6 hb7 k6
      refine hK.out _ _ (late (by kernel_rfl)) ?_
      clear hK K
      try simp only [Act.put, List.getElem_toArray, List.getElem_cons_succ, List.getElem_cons_zero, List.setIfInBounds_toArray, List.set_cons_zero, List.set_cons_succ]
      refine wpAnyK_free (i := 5) (v := .tuple #[dkV r2 f2 n2 F2 es2.length d1 K2 ks2.length d2 T2 ts2.length d3, .int .i64 z]) rfl (by kernel_rfl) (by kernel_rfl) (by kernel_rfl) (fun _ _ _ h => h) (by decide) (Or.inl ⟨by rfl, (by intro w' _; go_simp; try first | rfl | (simp [*, Addr.add_lit]; done))⟩) (late (by kernel_rfl)) ?_
      try simp only [Act.put, List.getElem_toArray, List.getElem_cons_succ, List.getElem_cons_zero, List.setIfInBounds_toArray, List.set_cons_zero, List.set_cons_succ]
      refine wpAnyK_free (i := 6) (v := dkV r2 f2 n2 F2 es2.length d1 K2 ks2.length d2 T2 ts2.length d3) rfl (by kernel_rfl) (by kernel_rfl) (by kernel_rfl) (fun _ _ _ h => h) (by decide) (Or.inl ⟨by rfl, (by intro w' _; go_simp; try first | rfl | (simp [*, Addr.add_lit]; done))⟩) (late (by kernel_rfl)) ?_
      try simp only [Act.put, List.getElem_toArray, List.getElem_cons_succ, List.getElem_cons_zero, List.setIfInBounds_toArray, List.set_cons_zero, List.set_cons_succ]
      refine wpAnyK_free (i := 7) (v := .int .i64 z) rfl (by kernel_rfl) (by kernel_rfl) (by kernel_rfl) (fun _ _ _ h => h) (by decide) (Or.inl ⟨by rfl, (by intro w' _; go_simp; try first | rfl | (simp [*, Addr.add_lit]; done))⟩) (late (by kernel_rfl)) ?_
      try simp only [Act.put, List.getElem_toArray, List.getElem_cons_succ, List.getElem_cons_zero, List.setIfInBounds_toArray, List.set_cons_zero, List.set_cons_succ]
      refine wpAnyK_ready (rs := [8]) (by kernel_rfl) (by simp) ?_
      refine AllReadyK.cons rfl (fun K hK => ?_) AllReadyK.nil
      rw [if_pos (by rfl)]
      refine wp_stDk _ _ rfl w4.heap.size rfl r2 f2 n2 F2 es2.length d1 K2 ks2.length d2 T2 ts2.length d3 rfl _ B7 rfl ?_
      intro w8 B8 K8 z8 L8
      refine hK.out _ _ (late (by kernel_rfl)) ?_
      clear hK K
      try simp only [Act.put, List.getElem_toArray, List.getElem_cons_succ, List.getElem_cons_zero]
      refine wpAnyK_done (by kernel_rfl) ?_ _
      have b8 : Below w4.heap.size w7 w8 := L8 w4.heap.size w7 (Below.refl _ _) (by omega) (Nat.le_refl _)
      have Z8 := (K8 w.heap.size (by omega)).trans Z7
      have kw8 := kw7.below b8 (by omega) (by omega)
      have h8 := h7.below b8 (by omega)
      have d8 : DdI w8 w4.heap.size := ⟨r2, f2, n2, F2, d1, es2, K2, d2, ks2, T2, d3, ts2, B8, hv2, hc2, hcp2, ((hw7.wide (lo' := w4.heap.size + 1) (by omega) (Nat.le_refl _)).keep fun q h1 h2 => K8 q (by omega)).wide (Nat.le_refl _) (by omega)⟩
      clear K8 L8 b8 B8 B7 Z7 kw7 h7 hw7 hv2 hc2 hv hc
      go_wp2_with fail
      refine ⟨⟨j + 1, by omega, ?_, d8, h8, kw8, Z8⟩, ?_⟩
      · simp
      · simp [intOf]
        omega
    · have hlt' : ¬ (j : Int) < 2 := by omega
      obtain ⟨wk, hwk⟩ : ∃ wk, wk = wr := ⟨wr, rfl⟩
      subst hwk
      have hk2 := hk
      go_wp2_with fail
      refine (l01Below_k g A c xs 21 _ hC (by omega) (by omega)).mono ?_
      rintro e w5 ⟨m, hm, rfl, h5, k5⟩
      have k05 := hk.trans k5
      have zk : w4.heap.size < wk.heap.size := by
        obtain ⟨r, f, n, FA, c1, es, KA, c2, ks, TA, c3, ts, hB, hv, hc, hcp, hw⟩ := hD
        exact (Array.getElem?_eq_some_iff.1 hB).1
      have z5 := k5.1.size
      have y5 := (k5.2 w.heap.size (by omega) (by omega)).trans hz
      have d5 : DdI w5 w4.heap.size := by
        obtain ⟨r, f, n, FA, c1, es, KA, c2, ks, TA, c3, ts, hB, hv, hc, hcp, hw⟩ := hD
        exact ⟨r, f, n, FA, c1, es, KA, c2, ks, TA, c3, ts, (k5.2 w4.heap.size (by omega) (by omega)).trans hB, hv, hc, hcp, (hw.kp k5 (Nat.le_refl _) (.inr (by omega))).wide (Nat.le_refl _) z5⟩
      clear hD hC hk hz hk2 k5
      go_wp2_with fail
      go_loopw [8] (fun iv wr => ∃ q : Nat, q ≤ 20 ∧ iv = .int .i64 q ∧ DdI wr w4.heap.size ∧ CA wr g A c xs ∧ Kp g (g + 1) w wr ∧ wr.heap[w.heap.size]? = some (.cells zDk 27 (0, 0))) (fun iv _ => (intOf iv).toNat)
      case atStart => exact ⟨m, by omega, rfl, d5, h5, k05, y5⟩
      case round =>
        clear d5 h5 k05 y5
        obtain ⟨q, hq20, rfl, hD, hC, hk, hz⟩ := hrel
        obtain ⟨r, f, n, FA, c1, es, KA, c2, ks, TA, c3, ts, hB, hv, hc, hcp, hw⟩ := hD
        have zr : w4.heap.size < wr.heap.size := (Array.getElem?_eq_some_iff.1 hB).1
        by_cases hq : 0 < q
        · obtain ⟨p, rfl⟩ : ∃ p, q = p + 1 := ⟨q - 1, by omega⟩
          have hlt2 : (0 : Int) < ((p + 1 : Nat) : Int) := by omega
          have ep : ∀ [Inhabited Nat], wrap64 (p : Int) = p := by intro _; unfold wrap64; omega
          go_wp2_with fail
          have B0 : wr.drew.heap[w4.heap.size]? = some (.cells (dkC r f n FA es.length c1 KA ks.length c2 TA ts.length c3) 27 (0, 0)) := hB
          have bd : Below wr.heap.size wr wr.drew := (Below.refl _ _).drew
          have S0 : wr.drew.heap.size = wr.heap.size := rfl
          refine wp_regionK (fun w' => w'.heap[w4.heap.size]? = some (.cells (dkC r f n FA es.length c1 KA ks.length c2 TA ts.length c3) 27 (0, 0))) 3 (by kernel_rfl) ?_
          refine wpAnyK_take (i := 0) (v := dkV r f n FA es.length c1 KA ks.length c2 TA ts.length c3) rfl (by kernel_rfl) (by kernel_rfl) (by kernel_rfl) (fun _ _ _ h => h) (by kernel_rfl) (by kernel_rfl) (by decide) (yields_rowD (by rfl) _ rfl w4.heap.size rfl r f n FA es.length c1 KA ks.length c2 TA ts.length c3 (fun _ h => h)) (B0) ?_
          try simp only [Act.put, List.getElem_toArray, List.getElem_cons_zero, List.setIfInBounds_toArray, List.set_cons_zero, List.set_cons_succ]
          refine wpAnyK_free (i := 1) (v := .pointer (some ⟨g, 0, none⟩)) rfl (by kernel_rfl) (by kernel_rfl) (by kernel_rfl) (fun _ _ _ h => h) (by decide) (Or.inl ⟨by rfl, (by intro w' _; go_simp; try first | rfl | (simp [*, Addr.add_lit]; done))⟩) (fun _ => B0) ?_
          try simp only [Act.put, List.getElem_toArray, List.getElem_cons_succ, List.getElem_cons_zero, List.setIfInBounds_toArray, List.set_cons_zero, List.set_cons_succ]
          refine wpAnyK_ready (rs := [2]) (by kernel_rfl) (by simp) ?_
          refine AllReadyK.cons rfl (fun K hK => ?_) AllReadyK.nil
          go_simp
          refine (l02Op_k g A c xs wr.drew (hC.below bd (by omega))).mono ?_
          rintro e w6 ⟨k, s, t, B, d, us, rfl, hop, hus, ho6, h6, k6⟩
          have z6 := k6.1.size
          have B6 := (k6.2 w4.heap.size (by omega) (by omega)).trans B0
          have Z6 := (k6.2 w.heap.size (by omega) (by omega)).trans (show wr.drew.heap[w.heap.size]? = some (.cells zDk 27 (0, 0)) from hz)
          have kw6 := (hk.below bd (by omega) (by omega)).trans k6
          have r6 := ((hw.below bd (Nat.le_refl _)).kp k6 (by omega) (.inr (by omega))).rd
          clear hB hC hk hw hz B0 bd
          refine hK.out _ _ (fun _ => B6) ?_
          clear hK K
          try simp only [Act.put, List.getElem_toArray, List.getElem_cons_succ, List.getElem_cons_zero, List.setIfInBounds_toArray, List.set_cons_zero, List.set_cons_succ]
          refine wpAnyK_ready (rs := [3]) (by kernel_rfl) (by simp) ?_
          refine AllReadyK.cons rfl (fun K hK => ?_) AllReadyK.nil
          go_simp
          have cD := diskDo_any k r f n FA es c1 KA ks c2 TA ts c3 s t B us d w6 r6 hv hop ho6.by_ ho6.le_cap
          refine cD.mono ?_
          rintro e w7 ⟨r2, f2, n2, F2, d1, es2, K2, d2, ks2, T2, d3, ts2, z, rfl, hv2, hc2, hcp2, hw7, hb7⟩
          have z7 := hb7.size
          have B7 := (hb7.block w4.heap.size (by omega)).trans B6
          have Z7 := (hb7.block w.heap.size (by omega)).trans Z6
          have kw7 := kw6.below hb7 (by omega) (by omega)
          have h7 := h6.below hb7 (by omega)
          clear cD B6 Z6 kw6 h6 r6 hb7 k6
          refine hK.out _ _ (late (by kernel_rfl)) ?_
          clear hK K
          try simp only [Act.put, List.getElem_toArray, List.getElem_cons_succ, List.getElem_cons_zero, List.setIfInBounds_toArray, List.set_cons_zero, List.set_cons_succ]
          refine wpAnyK_free (i := 4) (v := .tuple #[dkV r2 f2 n2 F2 es2.length d1 K2 ks2.length d2 T2 ts2.length d3, .int .i64 z]) rfl (by kernel_rfl) (by kernel_rfl) (by kernel_rfl) (fun _ _ _ h => h) (by decide) (Or.inl ⟨by rfl, (by intro w' _; go_simp; try first | rfl | (simp [*, Addr.add_lit]; done))⟩) (late (by kernel_rfl)) ?_
          try simp only [Act.put, List.getElem_toArray, List.getElem_cons_succ, List.getElem_cons_zero, List.setIfInBounds_toArray, List.set_cons_zero, List.set_cons_succ]
          refine wpAnyK_free (i := 5) (v := dkV r2 f2 n2 F2 es2.length d1 K2 ks2.length d2 T2 ts2.length d3) rfl (by kernel_rfl) (by kernel_rfl) (by kernel_rfl) (fun _ _ _ h => h) (by decide) (Or.inl ⟨by rfl, (by intro w' _; go_simp; try first | rfl | (simp [*, Addr.add_lit]; done))⟩) (late (by kernel_rfl)) ?_
          try simp only [Act.put, List.getElem_toArray, List.getElem_cons_succ, List.getElem_cons_zero, List.setIfInBounds_toArray, List.set_cons_zero, List.set_cons_succ]
          refine wpAnyK_free (i := 6) (v := .int .i64 z) rfl (by kernel_rfl) (by kernel_rfl) (by kernel_rfl) (fun _ _ _ h => h) (by decide) (Or.inl ⟨by rfl, (by intro w' _; go_simp; try first | rfl | (simp [*, Addr.add_lit]; done))⟩) (late (by kernel_rfl)) ?_
          try simp only [Act.put, List.getElem_toArray, List.getElem_cons_succ, List.getElem_cons_zero, List.setIfInBounds_toArray, List.set_cons_zero, List.set_cons_succ]
          refine wpAnyK_ready (rs := [7]) (by kernel_rfl) (by simp) ?_
          refine AllReadyK.cons rfl (fun K hK => ?_) AllReadyK.nil
          rw [if_pos (by rfl)]
          refine wp_stDk _ _ rfl w4.heap.size rfl r2 f2 n2 F2 es2.length d1 K2 ks2.length d2 T2 ts2.length d3 rfl _ B7 rfl ?_
          intro w8 B8 K8 z8 L8
          refine hK.out _ _ (late (by kernel_rfl)) ?_
          clear hK K
          try simp only [Act.put, List.getElem_toArray, List.getElem_cons_succ, List.getElem_cons_zero]
          refine wpAnyK_done (by kernel_rfl) ?_ _
          have b8 : Below w4.heap.size w7 w8 := L8 w4.heap.size w7 (Below.refl _ _) (by omega) (Nat.le_refl _)
          have Z8 := (K8 w.heap.size (by omega)).trans Z7
          have kw8 := kw7.below b8 (by omega) (by omega)
          have h8 := h7.below b8 (by omega)
          have d8 : DdI w8 w4.heap.size := ⟨r2, f2, n2, F2, d1, es2, K2, d2, ks2, T2, d3, ts2, B8, hv2, hc2, hcp2, ((hw7.wide (lo' := w4.heap.size + 1) (by omega) (Nat.le_refl _)).keep fun q h1 h2 => K8 q (by omega)).wide (Nat.le_refl _) (by omega)⟩
          clear K8 L8 b8 B8 B7 Z7 kw7 h7 hw7 hv2 hc2 hv hc
          go_wp2_with fail
          refine ⟨⟨p, by omega, ?_, d8, h8, kw8, Z8⟩, ?_⟩
          · first | rfl | (rw [ep])
          · try rw [ep]
            simp [intOf]
        · have hlt2 : ¬ (0 : Int) < (q : Int) := by omega
          go_wp2_with fail
          refine (l01Below_k g A c xs 6 _ hC (by omega) (by omega)).mono ?_
          rintro e w6 ⟨x, hx, rfl, h6, k6⟩
          have z6 := k6.1.size
          have k06 := hk.trans k6
          have B6 := (k6.2 w4.heap.size (by omega) (by omega)).trans hB
          have Z6 := (k6.2 w.heap.size (by omega) (by omega)).trans hz
          have w06 := (hw.kp k6 (Nat.le_refl _) (.inr (by omega))).wide (Nat.le_refl _) z6
          clear hB hz hw hk hC k6
          by_cases hx0 : x = 0
          · have e0 : ((x : Int) == 0) = true := by rw [hx0]; rfl
            go_wp2_with fail
            refine (l01Below_k g A c xs 4 _ h6 (by omega) (by omega)).mono ?_
            rintro e w7 ⟨y, hy, rfl, h7, k7⟩
            have z7 := k7.1.size
            have k07 := k06.trans k7
            have B7 := (k7.2 w4.heap.size (by omega) (by omega)).trans B6
            have Z7 := (k7.2 w.heap.size (by omega) (by omega)).trans Z6
            have w07 := (w06.kp k7 (Nat.le_refl _) (.inr (by omega))).wide (Nat.le_refl _) z7
            have fr7 : w7.frozen? ⟨w4.heap.size, 1, none⟩ = false := by simp [World.frozen?, B7]
            have y7 : w7.cell? ⟨w4.heap.size, 1, none⟩ = some (.int .i64 f) := cell_of_row w7 w4.heap.size 1 _ _ (0, 0) B7
            clear B6 Z6 w06 h6 k06
            have B8 : (w7.setCell ⟨w4.heap.size, 1, none⟩ (.int .i64 y)).heap[w4.heap.size]? = some (.cells (dkC r y n FA es.length c1 KA ks.length c2 TA ts.length c3) 27 (0, 0)) := heap_setCell_same _ B7
            have K8 : ∀ k, k ≠ w4.heap.size → (w7.setCell ⟨w4.heap.size, 1, none⟩ (.int .i64 y)).heap[k]? = w7.heap[k]? := fun k hk => Below.heap_setCell _ _ _ k hk
            have b8 : Below w4.heap.size w7 (w7.setCell ⟨w4.heap.size, 1, none⟩ (.int .i64 y)) := (Below.refl _ _).setCell (p := ⟨w4.heap.size, 1, none⟩) (Nat.le_refl _) _
            have Z8 := (K8 w.heap.size (by omega)).trans Z7
            have k08 := k07.below b8 (by omega) (by omega)
            have w08 := w07.keep (w' := w7.setCell ⟨w4.heap.size, 1, none⟩ (.int .i64 y)) fun k h1 h2 => K8 k (by omega)
            go_wp2_with (refine at_pos (p := "l02_disk.go:364") rfl ?_; first | (refine wp_ldD rfl _ rfl w4.heap.size rfl r y n FA es.length c1 KA ks.length c2 TA ts.length c3 B8 ?_) | (refine wp_stD rfl _ _ rfl w.heap.size rfl r y n FA es.length c1 KA ks.length c2 TA ts.length c3 rfl zDk Z8 rfl ?_; intro wE ZE kE sE bE))
            refine bodyPost_ret (results_cell_row Try.results10 _ _ w.heap.size 27 _ (0, 0) _ rfl ZE Try.underlying27 rfl size_dkD) rfl ?_
            have sE' : wE.heap.size = w7.heap.size := by rw [sE]; simp
            exact ⟨r, y, n, FA, c1, es, KA, c2, ks, TA, c3, ts, rfl, hv.fuse (by omega), hc, hcp, (w08.keep fun k h1 h2 => kE k (by omega)).wide (by omega) (Nat.le_of_eq sE'.symm), bE g w k08.1 (by omega) (by omega), fun k h1 h2 => (kE k (by omega)).trans (k08.2 k h1 h2)⟩
          · have e0 : ((x : Int) == 0) = false := by simp; omega
            go_wp2_with (refine at_pos (p := "l02_disk.go:364") rfl ?_; first | (refine wp_ldD rfl _ rfl w4.heap.size rfl r f n FA es.length c1 KA ks.length c2 TA ts.length c3 B6 ?_) | (refine wp_stD rfl _ _ rfl w.heap.size rfl r f n FA es.length c1 KA ks.length c2 TA ts.length c3 rfl zDk Z6 rfl ?_; intro wE ZE kE sE bE))
            refine bodyPost_ret (results_cell_row Try.results10 _ _ w.heap.size 27 _ (0, 0) _ rfl ZE Try.underlying27 rfl size_dkD) rfl ?_
            exact ⟨r, f, n, FA, c1, es, KA, c2, ks, TA, c3, ts, rfl, hv, hc, hcp, (w06.keep fun k h1 h2 => kE k (by omega)).wide (by omega) (Nat.le_of_eq sE.symm), bE g w k06.1 (by omega) (by omega), fun k h1 h2 => (kE k (by omega)).trans (k06.2 k h1 h2)⟩
/-- A disk made of a draw's bytes. -/
def MdPost (w : World) (e : Ending) (w' : World) : Prop :=
  ∃ r f n FA c1 es KA c2 ks TA c3 ts, e = .returned (dkV r f n FA es.length c1 KA ks.length c2 TA ts.length c3) ∧ Vd r f n (es.map fc) ks ts ∧ ts.length ≤ c3 ∧ Cp es ∧ Dr w' FA es KA ks TA ts ∧ Below w.heap.size w w'
set_option maxHeartbeats 4000000 in
theorem makeDisk_any (A : Option Addr) (c : Nat) (xs : List UInt8) (w : World) (ha : By w A xs) (h1 : xs.length ≤ 1048576) :
    Calls Try.prog 4 #[.slice A xs.length c] w (MdPost w) := by
  have hb1 : Below w.heap.size w (w.alloc (.cells zDk 27)) := (Below.refl _ _).alloc (Nat.le_refl _) _
  have Z1 : (w.alloc (.cells zDk 27)).heap[w.heap.size]? = some (.cells zDk 27 (0, 0)) := heap_alloc_new _ _
  have s1 : (w.alloc (.cells zDk 27)).heap.size = w.heap.size + 1 := by simp
  have cN := l01New_k A c xs _ (ha.below hb1) h1
  go_enter Try.func4, Try.ntmps4
  go_wp2_with fail
  refine cN.mono ?_
  rintro e w2 ⟨g, rfl, hg, hC, hb2⟩
  have Z2 := (hb2.block w.heap.size (by omega)).trans Z1
  have b02 : Below w.heap.size w w2 := hb1.trans (hb2.mono (by omega))
  have z2 := hb2.size
  have hgl := hC.lt
  clear cN Z1 hb1 hb2
  go_wp2_with fail
  refine (l02Draw_k g A c xs w2 hC).mono ?_
  rintro e w3 ⟨r, f, n, FA, c1, es, KA, c2, ks, TA, c3, ts, rfl, hv, hc, hcp, hw, hk⟩
  have z3 := hk.1.size
  have Z3 : w3.heap[w.heap.size]? = some (.cells zDk 27 (0, 0)) := (hk.1.block w.heap.size (by omega)).trans Z2
  have b03 : Below w.heap.size w w3 := b02.trans (hk.1.mono (by omega))
  have hr := hw.rd
  have W4 := heap_alloc_new w3 (.cells (dkC r f n FA es.length c1 KA ks.length c2 TA ts.length c3) 27)
  have Z4 := heap_alloc_of (.cells (dkC r f n FA es.length c1 KA ks.length c2 TA ts.length c3) 27) Z3
  have b34 : Below w3.heap.size w3 (w3.alloc (.cells (dkC r f n FA es.length c1 KA ks.length c2 TA ts.length c3) 27)) := (Below.refl _ _).alloc (Nat.le_refl _) _
  have b04 := b03.trans (b34.mono (by omega))
  have w4 := hw.below b34 (Nat.le_refl _)
  clear Z2 b02 hC hk
  go_wp2_with (refine at_pos (p := "l25_law.go:55") rfl ?_; first | (refine wp_ldD rfl _ rfl w3.heap.size rfl r f n FA es.length c1 KA ks.length c2 TA ts.length c3 W4 ?_) | (refine wp_stD rfl _ _ rfl w.heap.size rfl r f n FA es.length c1 KA ks.length c2 TA ts.length c3 rfl zDk Z4 rfl ?_; intro wE ZE kE sE bE))
  refine bodyPost_ret (results_cell_row Try.results4 _ _ w.heap.size 27 _ (0, 0) _ rfl ZE Try.underlying27 rfl size_dkD) rfl ?_
  exact ⟨r, f, n, FA, c1, es, KA, c2, ks, TA, c3, ts, rfl, hv, hc, hcp, (w4.keep fun k h1 h2 => kE k (by omega)).rd, bE _ _ b04 (Nat.le_refl _) (Nat.le_refl _)⟩
end Go.Proofs.Ytndmdhmghjfckaa
