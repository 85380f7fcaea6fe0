/- A cell of a grid: the program's way. -/
import Derived.Test.YtdmhmelmoobekaaG17
namespace Go.Proofs.Ytdmhmelmoobekaa
open Go.RowKit
set_option linter.unusedVariables false
set_option maxRecDepth 100000

set_option maxHeartbeats 1000000 in
theorem gridAt_impl (W H : Int) (A : Option Addr) (c : Nat) (cs : List Cl) (x y : Int) (w : World) (ha : Gs w A cs) (hc : cs.length ≤ c) (h1 : cs.length ≤ 1048576) :
    Calls Try.prog 18 #[gV W H A cs.length c, .int .i64 x, .int .i64 y] w fun e w' => e = .returned (cV (gatR W H cs x y)) ∧ Below w.heap.size w w' := by
  have hb0 : Below w.heap.size w ((w.alloc (.cells #[.int .i64 W, .int .i64 H, .slice A cs.length c] 33)).alloc (.cells #[.int .i64 0, .int .i64 0, .int .i64 0, .bool false, .bool false, .bool false] 29)) := by (repeat (first | exact Below.refl _ _ | (refine Below.alloc ?_ (by first | omega | (simp; done) | (simp; omega)) _) | (refine Below.drew ?_) | (refine below_drewN ?_ _) | (refine below_at1 ?_ (by first | omega | (simp; done) | (simp; omega))) | (refine Below.setCell ?_ (by first | omega | (simp; done) | (simp; omega)) _) | (refine Below.trans ?_ (Below.mono (by assumption) (by first | omega | (simp; done) | (simp; omega))))))
  by_cases hg : gridB W H cs = true
  case neg =>
    have HG : Hid (gridB W H cs = false) := by show _ = _; simpa using hg
    have HR := Lib.hid (gat_no (x := x) (y := y) (fun h => hg h.1))
    clear hg
    go_enter Try.func18, Try.ntmps18
    go_wp2_with fail
    refine (gridOk_impl W H _ _ cs _ (ha.below hb0) h1).mono ?_
    rintro e w1 ⟨he, hb1⟩
    rw [HG.out] at he
    subst he
    obtain ⟨C1, qq1, rr1, zz1⟩ := keep_blk hb1 (g := w.heap.size + 1) (by repeat (first | assumption | exact heap_alloc_at _ (by first | rfl | (simp; done) | omega) | refine heap_alloc_of _ ?_ | refine heap_setCell_of _ (by first | omega | (simp; done) | (simp; omega)) ?_ | refine heap_setCell_same _ ?_ | exact heap_at1_same (by first | omega | (simp; done) | (simp; omega)) | refine heap_at1_of (by first | omega | (simp; done) | (simp; omega)) ?_))
    have t1 := hb0.trans (hb1.mono hb0.size)
    go_wp2_with fail
    exact bodyPost_ret (v := cV cl0) (by simp [results, Try.results18, go_sem, *]) rfl ⟨by rw [HR.out], ((((((t1.setCell (by first | omega | (simp; done) | (simp; omega)) _).setCell (by first | omega | (simp; done) | (simp; omega)) _).setCell (by first | omega | (simp; done) | (simp; omega)) _).setCell (by first | omega | (simp; done) | (simp; omega)) _).setCell (by first | omega | (simp; done) | (simp; omega)) _).setCell (by first | omega | (simp; done) | (simp; omega)) _)⟩
  obtain ⟨⟨s1, s2⟩, ⟨s3, s4⟩, s5, hl⟩ := grid_len hg
  have HG := Lib.hid hg
  clear hg
  by_cases hin : (0 ≤ x ∧ x < W) ∧ (0 ≤ y ∧ y < H)
  case neg =>
    have HI : Hid (decide ((0 ≤ x ∧ x < W) ∧ (0 ≤ y ∧ y < H)) = false) := decide_eq_false hin
    have HR := Lib.hid (gat_no (W := W) (H := H) (cs := cs) (x := x) (y := y) (fun h => hin h.2))
    clear hin hl
    go_enter Try.func18, Try.ntmps18
    go_wp2_with fail
    refine (gridOk_impl W H _ _ cs _ (ha.below hb0) h1).mono ?_
    rintro e w1 ⟨he, hb1⟩
    rw [HG.out] at he
    subst he
    obtain ⟨B1, q1, r1, z1⟩ := keep_blk hb1 (g := w.heap.size) (by repeat (first | assumption | exact heap_alloc_at _ (by first | rfl | (simp; done) | omega) | refine heap_alloc_of _ ?_ | refine heap_setCell_of _ (by first | omega | (simp; done) | (simp; omega)) ?_ | refine heap_setCell_same _ ?_ | exact heap_at1_same (by first | omega | (simp; done) | (simp; omega)) | refine heap_at1_of (by first | omega | (simp; done) | (simp; omega)) ?_))
    obtain ⟨C1, qq1, rr1, zz1⟩ := keep_blk hb1 (g := w.heap.size + 1) (by repeat (first | assumption | exact heap_alloc_at _ (by first | rfl | (simp; done) | omega) | refine heap_alloc_of _ ?_ | refine heap_setCell_of _ (by first | omega | (simp; done) | (simp; omega)) ?_ | refine heap_setCell_same _ ?_ | exact heap_at1_same (by first | omega | (simp; done) | (simp; omega)) | refine heap_at1_of (by first | omega | (simp; done) | (simp; omega)) ?_))
    go_wp2_with fail
    refine (has_any W H _ _ _ x y _ ⟨by omega, by omega⟩ ⟨by omega, by omega⟩).mono ?_
    rintro e w2 ⟨he, hb2⟩
    rw [HI.out] at he
    subst he
    obtain ⟨C2, qq2, rr2, zz2⟩ := keep_blk hb2 C1
    clear C1 qq1 rr1
    have t2 := hb0.trans ((hb1.trans (hb2.mono hb1.size)).mono hb0.size)
    go_wp2_with fail
    exact bodyPost_ret (v := cV cl0) (by simp [results, Try.results18, go_sem, *]) rfl ⟨by rw [HR.out], ((((((t2.setCell (by first | omega | (simp; done) | (simp; omega)) _).setCell (by first | omega | (simp; done) | (simp; omega)) _).setCell (by first | omega | (simp; done) | (simp; omega)) _).setCell (by first | omega | (simp; done) | (simp; omega)) _).setCell (by first | omega | (simp; done) | (simp; omega)) _).setCell (by first | omega | (simp; done) | (simp; omega)) _)⟩
  obtain ⟨a, rfl⟩ := Int.eq_ofNat_of_zero_le (show 0 ≤ W by omega)
  obtain ⟨bb, rfl⟩ := Int.eq_ofNat_of_zero_le (show 0 ≤ H by omega)
  obtain ⟨j, rfl⟩ := Int.eq_ofNat_of_zero_le (show 0 ≤ x by omega)
  obtain ⟨k, rfl⟩ := Int.eq_ofNat_of_zero_le (show 0 ≤ y by omega)
  have HI : Hid (decide ((0 ≤ (j : Int) ∧ (j : Int) < a) ∧ (0 ≤ (k : Int) ∧ (k : Int) < bb)) = true) := decide_eq_true hin
  have hj : j < a := by omega
  have hk : k < bb := by omega
  have hlN : cs.length = bb * a := by
    have h : ((bb * a : Nat) : Int) = (a : Int) * bb := by rw [Int.mul_comm]; simp
    omega
  obtain ⟨rb1, rb2⟩ := row_bd hk hj
  obtain ⟨p, hp⟩ : ∃ p, Hid (p = k * a) := ⟨_, rfl⟩
  obtain ⟨q, hq⟩ : ∃ q, Hid (q = (k + 1) * a) := ⟨_, rfl⟩
  have hqp : q = p + a := by rw [hp.out, hq.out, Nat.succ_mul]
  have hpb : p + j < cs.length := by rw [hlN, hp.out]; exact rb1
  have hqb : q ≤ cs.length := by rw [hlN, hqp, hp.out]; exact rb2
  have hcl : cs.length ≤ 4000 := by omega
  have HR : Hid (gatR a bb cs j k = cs[p + j]) := by
    show _ = _
    rw [gatR, if_pos ⟨HG.out, hin⟩]
    have e : ((k : Int) * (a : Int) + (j : Int)).toNat = p + j := by
      have h2 : ((k * a : Nat) : Int) = (k : Int) * (a : Int) := by simp
      rw [← h2, ← hp.out]
      omega
    rw [e, List.getElem?_eq_getElem hpb]
    rfl
  have hjq : (j : Int) < ((q - p : Nat) : Int) := by omega
  have HQ := Lib.hid hqp
  have HL := Lib.hid hlN
  clear hin hl hlN hqp rb1 rb2
  go_enter Try.func18, Try.ntmps18
  go_wp2_with fail
  refine (gridOk_impl a bb _ _ cs _ (ha.below hb0) h1).mono ?_
  rintro e w1 ⟨he, hb1⟩
  rw [HG.out] at he
  subst he
  obtain ⟨B1, q1, r1, z1⟩ := keep_blk hb1 (g := w.heap.size) (by repeat (first | assumption | exact heap_alloc_at _ (by first | rfl | (simp; done) | omega) | refine heap_alloc_of _ ?_ | refine heap_setCell_of _ (by first | omega | (simp; done) | (simp; omega)) ?_ | refine heap_setCell_same _ ?_ | exact heap_at1_same (by first | omega | (simp; done) | (simp; omega)) | refine heap_at1_of (by first | omega | (simp; done) | (simp; omega)) ?_))
  obtain ⟨C1, qq1, rr1, zz1⟩ := keep_blk hb1 (g := w.heap.size + 1) (by repeat (first | assumption | exact heap_alloc_at _ (by first | rfl | (simp; done) | omega) | refine heap_alloc_of _ ?_ | refine heap_setCell_of _ (by first | omega | (simp; done) | (simp; omega)) ?_ | refine heap_setCell_same _ ?_ | exact heap_at1_same (by first | omega | (simp; done) | (simp; omega)) | refine heap_at1_of (by first | omega | (simp; done) | (simp; omega)) ?_))
  go_wp2_with fail
  refine (has_any a bb _ _ _ j k _ ⟨by omega, by omega⟩ ⟨by omega, by omega⟩).mono ?_
  rintro e w2 ⟨he, hb2⟩
  rw [HI.out] at he
  subst he
  obtain ⟨B2, q2, r2, z2⟩ := keep_blk hb2 B1
  obtain ⟨C2, qq2, rr2, zz2⟩ := keep_blk hb2 C1
  clear B1 q1 r1 C1 qq1 rr1
  go_wp2_with fail
  refine (row_any a bb _ _ _ k p q _ hp hq (by omega) hqb hc hcl (by omega)).mono ?_
  rintro e w3 ⟨rfl, hb3⟩
  obtain ⟨C3, qq3, rr3, zz3⟩ := keep_blk hb3 C2
  clear B2 q2 r2 C2 qq2 rr2
  have t3 : Below w.heap.size w w3 := hb0.trans ((hb1.trans ((hb2.trans (hb3.mono hb2.size)).mono hb1.size)).mono hb0.size)
  obtain ⟨b, o, rfl, hbs, x0, x1, x2, x3, x4, x5⟩ := (ha.below t3).get hpb
  have eo : o + (p + j) * 6 = o + p * 6 + j * 6 := by omega
  rw [eo] at x0 x1 x2 x3 x4 x5
  have hA : (some (⟨b, o, none⟩ : Addr)).map (·.add (p * 6)) = some ⟨b, o + p * 6, none⟩ := by simp [Addr.add_lit]
  rw [hA]
  clear hA eo
  go_wp2_with fail
  exact bodyPost_ret (v := cV cs[p + j]) (by simp [results, Try.results18, go_sem, *]) rfl ⟨by rw [HR.out], ((((((t3.setCell (by first | omega | (simp; done) | (simp; omega)) _).setCell (by first | omega | (simp; done) | (simp; omega)) _).setCell (by first | omega | (simp; done) | (simp; omega)) _).setCell (by first | omega | (simp; done) | (simp; omega)) _).setCell (by first | omega | (simp; done) | (simp; omega)) _).setCell (by first | omega | (simp; done) | (simp; omega)) _)⟩
end Go.Proofs.Ytdmhmelmoobekaa
