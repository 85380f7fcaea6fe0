/- A grid of blanks: the program's way. -/
import Derived.Test.YtnilgcahggmncaaRr
import Derived.Test.YtnilgcahggmncaaG15
import Derived.Deep.RegionWith
import Derived.Deep.RegionLaw
namespace Go.Proofs.Ytnilgcahggmncaa
open Go.RowKit
set_option linter.unusedVariables false
set_option maxRecDepth 100000

/-- append of one cell onto a slice of one's own: its run. -/
theorem app_one {w : World} {lo c : Nat} {A : Option Addr} {ys : List Cl} (ty : TypeId) (x : Cl) (ha : Og w lo A c ys) (hl : ys.length ≤ 1048576) (hlo : lo ≤ w.heap.size) :
    ∃ A' c' w', (Builtin.append_ #[27, 27] ty #[.slice A ys.length c, .slice (some ⟨w.heap.size, 0, none⟩) 1 1]).run Try.prog (w.alloc (.cells #[.int .i64 x.1, .int .i64 x.2.1, .int .i64 x.2.2.1, .bool x.2.2.2.1, .bool x.2.2.2.2.1, .bool x.2.2.2.2.2] 44)) = .ok (.slice A' (ys.length + 1) c') w' ∧ Og w' lo A' c' (ys ++ [x]) ∧ Below lo (w.alloc (.cells #[.int .i64 x.1, .int .i64 x.2.1, .int .i64 x.2.2.1, .bool x.2.2.2.1, .bool x.2.2.2.2.1, .bool x.2.2.2.2.2] 44)) w' := by
  obtain ⟨i0, hi, hz0, hz1, hz2⟩ := info_parts info_cell
  have hz : Gs (w.alloc (.cells #[.int .i64 x.1, .int .i64 x.2.1, .int .i64 x.2.2.1, .bool x.2.2.2.1, .bool x.2.2.2.2.1, .bool x.2.2.2.2.2] 44)) (some ⟨w.heap.size, 0, none⟩) [x] := Gs.lit
  rcases hz with hz | ⟨b, o', hA, hc⟩
  · simp at hz
  simp only [Option.some.injEq, Addr.mk.injEq, and_true] at hA
  obtain ⟨rfl, rfl⟩ := hA
  obtain ⟨v', w', hr, h2, h3⟩ := run_append_ownG (P := Try.prog) (w.alloc (.cells #[.int .i64 x.1, .int .i64 x.2.1, .int .i64 x.2.2.1, .bool x.2.2.2.1, .bool x.2.2.2.2.1, .bool x.2.2.2.2.2] 44)) lo 27 ty 44 i0 _ 6 32 Try.underlying27 hi hz0 hz1 hz2 rfl (by decide) _ _ _ (ha.alloc _) ⟨w.heap.size, 0, none⟩ 1 1 (cvs [x]) (cvs_len [x])
    (Gs.news hc) (cvs_one [x]) (by unfold maxLen; omega) (by omega) (by simp; omega)
  obtain ⟨A', c', rfl⟩ := h2.form
  refine ⟨A', c', w', hr, ?_, below_of_grown h3 (by simp; omega) (fun k hk => by
    cases A with
    | none => simp [Value.ownBlock] at hk
    | some ad => exact (ha.lt k (by simpa [Value.ownBlock] using hk)).1)⟩
  unfold Og
  rw [List.length_append, List.length_singleton, cvs_append]
  exact h2
/-- append of cells onto a slice of one's own, as one step of a region that draws. -/
theorem step_appG {ops : Array Oper} {o : Oper} {a : Act} {w : World} {K : Act → World → Prop} {Q : Exit → Act → World → Prop} {E : Prop} (hgd : o.guard = none) (s x : Operand) (ho : o.op = .call { callee := .builtin .append, args := #[s, x], argTypes := #[27, 27] })
    (lo : Nat) (A : Option Addr) (c : Nat) (ys : List Cl) (A2 : Option Addr) (c2 : Nat) (zs : List Cl) (ha : Og w lo A c ys) (hz : Gs w A2 zs) (h0 : 0 < zs.length) (n m : Nat) (hn : n = ys.length) (hm : m = zs.length) (hs : a.eval s = .slice A n c)
    (hx : a.eval x = .slice A2 m c2) (hl : ys.length ≤ 1048576) (hl2 : zs.length ≤ 1048576) (hlo : lo ≤ w.heap.size)
    (h : ∀ A' c' w', Hid (Og w' lo A' c' (ys ++ zs)) → Below lo w w' → K (a.put o.dst (.slice A' (n + m) c')) w') :
    if Region.wanted o (yielded ops a.tmps) = true then Oper.wp Try.prog o a w K Q else E := by
  have hw : Region.wanted o (yielded ops a.tmps) = true := by simp [Region.wanted, hgd]
  rw [if_pos hw]
  obtain ⟨i0, hi, hz0, hz1, hz2⟩ := info_parts info_cell
  subst hn hm
  rcases hz with hz | ⟨b, o', rfl, hc⟩
  · rw [hz] at h0; simp at h0
  obtain ⟨v', w', hr, h2, h3⟩ := run_append_ownG (P := Try.prog) w lo 27 o.type 44 i0 _ 6 32 Try.underlying27 hi hz0 hz1 hz2 rfl (by decide) _ _ _ ha ⟨b, o', none⟩ zs.length c2 (cvs zs) (cvs_len zs)
    (Gs.news hc) (cvs_one zs) (by unfold maxLen; omega) (by omega) hlo
  obtain ⟨A', c', rfl⟩ := h2.form
  have hob : Og w' lo A' c' (ys ++ zs) := by
    unfold Og; rw [List.length_append, cvs_append]; exact h2
  have := h A' c' w' hob (below_of_grown h3 hlo (fun k hk => by
    cases A with
    | none => simp [Value.ownBlock] at hk
    | some ad => exact (ha.lt k (by simpa [Value.ownBlock] using hk)).1))
  unfold Oper.wp execOp
  simp only [ho, resolve, invoke, builtin, Sem.run_bind, Sem.run_pure, Result.andThen_ok, List.map_toArray, List.map_cons, List.map_nil, hs, hx, hr]
  exact this
set_option maxHeartbeats 2000000 in
theorem gridOf_any (a b n : Nat) (w : World) (hn : Hid (n = b * a)) (h0 : 1 ≤ n) (h1 : n ≤ 4000) :
    Calls Try.prog 65 #[.int .i64 a, .int .i64 b] w (GridPost w a b (List.replicate n bk)) := by
  have HM : Hid (IntKind.i64.wrap ((a : Int) * (b : Int)) = (n : Int)) := by show _ = _; rw [Int.mul_comm]; exact mul_natk hn.out (by omega)
  have HMw : Hid (wrap64 ((a : Int) * (b : Int)) = (n : Int)) := by show _ = _; rw [Int.mul_comm]; exact mul_nat hn.out (by omega)
  obtain ⟨enk, enw⟩ := small_k (n := (n : Int)) (by omega) (by omega)
  have em := HM.out
  have emw := HMw.out
  go_enter Try.func65, Try.ntmps65
  have hb0 : Below w.heap.size w (w.alloc (.cells #[.int .i64 0, .int .i64 0, .slice none 0 0] 29)) := (Below.refl _ _).alloc (Nat.le_refl _) _
  go_wp2_with (first | (go_at_call 62; refine (blank_any _).mono ?_; rintro e w1 ⟨rfl, hb1⟩))
  obtain ⟨C1, qq1, rr1, zz1⟩ := keep_blk hb1 (g := w.heap.size) (by repeat (first | assumption | exact heap_alloc_at _ (by first | rfl | (simp; done) | omega) | refine heap_alloc_of _ ?_ | refine heap_setCell_of _ (by first | omega | (simp; done) | (simp; omega)) ?_ | refine heap_setCell_same _ ?_ | exact heap_at1_same (by first | omega | (simp; done) | (simp; omega)) | refine heap_at1_of (by first | omega | (simp; done) | (simp; omega)) ?_))
  have t1 := hb0.trans (hb1.mono hb0.size)
  have v1 : Below w1.heap.size w1 (w1.alloc (.cells #[.int .i64 32, .int .i64 0, .int .i64 0, .bool false, .bool false, .bool false] 44)) := (Below.refl _ _).alloc (Nat.le_refl _) _
  have t1' := t1.trans (v1.mono t1.size)
  refine (repeat_any _ _ n bk _ (Gs.lit (x := bk)) h0 h1).mono ?_
  rintro e w2 ⟨A2, c2, rfl, ho2, hb2⟩
  obtain ⟨C2, qq2, rr2, zz2⟩ := keep_blk hb2 (g := w.heap.size) (by repeat (first | assumption | exact heap_alloc_at _ (by first | rfl | (simp; done) | omega) | refine heap_alloc_of _ ?_ | refine heap_setCell_of _ (by first | omega | (simp; done) | (simp; omega)) ?_ | refine heap_setCell_same _ ?_ | exact heap_at1_same (by first | omega | (simp; done) | (simp; omega)) | refine heap_at1_of (by first | omega | (simp; done) | (simp; omega)) ?_))
  have t2 := t1'.trans (hb2.mono t1'.size)
  clear em emw enk enw C1 qq1 rr1
  go_wp2_with fail
  have ho3 := (((ho2.setCell (p := ⟨w.heap.size, 0, none⟩) (by first | omega | (simp; done) | (simp; omega)) (.int .i64 a)).setCell (p := ⟨w.heap.size, 1, none⟩) (by first | omega | (simp; done) | (simp; omega)) (.int .i64 b)).setCell (p := ⟨w.heap.size, 2, none⟩) (by first | omega | (simp; done) | (simp; omega)) (.slice A2 n c2))
  refine bodyPost_ret (v := gV a b A2 n c2) (by simp [results, Try.results65, go_sem, *]) rfl ?_
  exact ⟨A2, c2, by rw [List.length_replicate], ho3.mono (by first | omega | (simp; done) | (simp; omega)), ho3.gs, (ho3.mono (by first | omega | (simp; done) | (simp; omega))).inB, ((t2.setCell (by first | omega | (simp; done) | (simp; omega)) _).setCell (by first | omega | (simp; done) | (simp; omega)) _).setCell (by first | omega | (simp; done) | (simp; omega)) _⟩
end Go.Proofs.Ytnilgcahggmncaa
