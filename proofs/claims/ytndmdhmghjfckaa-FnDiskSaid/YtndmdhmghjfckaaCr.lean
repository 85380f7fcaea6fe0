/- Numbers and cuts drawn. Turns and cuts of a draw. -/
import Derived.Test.YtndmdhmghjfckaaCk
import Derived.Test.YtndmdhmghjfckaaUb
import Derived.Test.YtndmdhmghjfckaaMa
namespace Go.Proofs.Ytndmdhmghjfckaa
open Go.RowKit

set_option linter.unusedVariables false
set_option maxRecDepth 100000

def rawL : List Int := [127, 128, 16383, 16384, 2097151, 2097152, 268435455, 268435456]
theorem rawL_ok {x : Nat} (h : x < 8) : ∃ z, rawL[x]? = some z := ⟨_, List.getElem?_eq_getElem (by simpa [rawL] using h)⟩
set_option maxHeartbeats 4000000 in
theorem l01Raw_k (g : Nat) (A : Option Addr) (c : Nat) (xs : List UInt8) (w : World) (h : CA w g A c xs) :
    Calls Try.prog 25 #[.pointer (some ⟨g, 0, none⟩)] w fun e w' => ∃ z : Int, e = .returned (.int .i64 z) ∧ CA w' g A c xs ∧ Kp g (g + 1) w w' := by
  have hgl := h.lt
  go_enter Try.func25, Try.ntmps25
  go_wp2_with fail
  refine (l01Below_k g A c xs 12 _ h (by omega) (by omega)).mono ?_
  rintro e w1 ⟨k, hk, rfl, h1, k1⟩
  by_cases c5 : k < 5
  · have c5' : (k : Int) < 5 := by omega
    go_wp2_with fail
    refine (l01Below_k g A c xs 12 _ h1 (by omega) (by omega)).mono ?_
    rintro e w2 ⟨x, hx, rfl, h2, k2⟩
    go_wp2_with fail
    go_ret
    exact ⟨_, rfl, h2, k1.trans k2⟩
  have c5' : ¬ (k : Int) < 5 := by omega
  by_cases c5x : k = 5
  · have e5 : ((k : Int) == 5) = true := by rw [c5x]; rfl
    go_wp2_with fail
    refine (l01Below_k g A c xs 256 _ h1 (by omega) (by omega)).mono ?_
    rintro e w2 ⟨x, hx, rfl, h2, k2⟩
    go_wp2_with fail
    go_ret
    exact ⟨_, rfl, h2, k1.trans k2⟩
  have e5 : ((k : Int) == 5) = false := by rw [beq_eq_false_iff_ne]; omega
  by_cases c6x : k = 6
  · have e6 : ((k : Int) == 6) = true := by rw [c6x]; rfl
    go_wp2_with fail
    refine (l01Below_k g A c xs 2 _ h1 (by omega) (by omega)).mono ?_
    rintro e w2 ⟨x, hx, rfl, h2, k2⟩
    go_wp2_with fail
    refine (l01Below_k g A c xs 3 _ h2 (by omega) (by omega)).mono ?_
    rintro e w3 ⟨y, hy, rfl, h3, k3⟩
    go_wp2_with fail
    go_ret
    exact ⟨_, rfl, h3, (k1.trans k2).trans k3⟩
  have e6 : ((k : Int) == 6) = false := by rw [beq_eq_false_iff_ne]; omega
  by_cases c7x : k = 7
  · have e7 : ((k : Int) == 7) = true := by rw [c7x]; rfl
    go_wp2_with fail
    refine (l01Below_k g A c xs 3 _ h1 (by omega) (by omega)).mono ?_
    rintro e w2 ⟨x, hx, rfl, h2, k2⟩
    go_wp2_with fail
    go_ret
    exact ⟨_, rfl, h2, k1.trans k2⟩
  have e7 : ((k : Int) == 7) = false := by rw [beq_eq_false_iff_ne]; omega
  by_cases c8x : k = 8
  · have e8 : ((k : Int) == 8) = true := by rw [c8x]; rfl
    go_wp2_with fail
    refine (l01Below_k g A c xs 2 _ h1 (by omega) (by omega)).mono ?_
    rintro e w2 ⟨x, hx, rfl, h2, k2⟩
    go_wp2_with fail
    go_ret
    exact ⟨_, rfl, h2, k1.trans k2⟩
  have e8 : ((k : Int) == 8) = false := by rw [beq_eq_false_iff_ne]; omega
  by_cases c9x : k = 9
  · have e9 : ((k : Int) == 9) = true := by rw [c9x]; rfl
    go_wp2_with fail
    refine (l01Below_k g A c xs 2 _ h1 (by omega) (by omega)).mono ?_
    rintro e w2 ⟨x, hx, rfl, h2, k2⟩
    go_wp2_with fail
    go_ret
    exact ⟨_, rfl, h2, k1.trans k2⟩
  have e9 : ((k : Int) == 9) = false := by rw [beq_eq_false_iff_ne]; omega
  by_cases c10x : k = 10
  · have e10 : ((k : Int) == 10) = true := by rw [c10x]; rfl
    go_wp2_with fail
    have hb2 : Below w1.heap.size w1 (w1.alloc (.cells #[.int .i64 127, .int .i64 128, .int .i64 16383, .int .i64 16384, .int .i64 2097151, .int .i64 2097152, .int .i64 268435455, .int .i64 268435456] 3)) := (Below.refl _ _).alloc (Nat.le_refl _) _
    have l0 : (w1.alloc (.cells #[.int .i64 127, .int .i64 128, .int .i64 16383, .int .i64 16384, .int .i64 2097151, .int .i64 2097152, .int .i64 268435455, .int .i64 268435456] 3)).heap[w1.heap.size]? = some (.cells #[.int .i64 127, .int .i64 128, .int .i64 16383, .int .i64 16384, .int .i64 2097151, .int .i64 2097152, .int .i64 268435455, .int .i64 268435456] 3 (0, 0)) := heap_alloc_new _ _
    have z1 := k1.1.size
    have hA2 := h1.below hb2 h1.lt
    have k2 : Kp g (g + 1) w (w1.alloc (.cells #[.int .i64 127, .int .i64 128, .int .i64 16383, .int .i64 16384, .int .i64 2097151, .int .i64 2097152, .int .i64 268435455, .int .i64 268435456] 3)) := k1.below hb2 (by omega) (by omega)
    refine (l01Below_k g A c xs 8 _ hA2 (by omega) (by omega)).mono ?_
    rintro e w3 ⟨x, hx, rfl, h3, k3⟩
    have l3 := (k3.2 w1.heap.size (by omega) (by simp)).trans l0
    obtain ⟨z, hz⟩ := rawL_ok hx
    have hcell : w3.cell? ⟨w1.heap.size, x, none⟩ = some (.int .i64 z) := by
      rw [cell_of_row w3 _ x _ _ (0, 0) l3]
      have : (rawL.map (Value.int .i64))[x]? = some (.int .i64 z) := by rw [List.getElem?_map, hz]; rfl
      simpa [rawL] using this
    have hx' : (x : Int) < 8 := by omega
    have hx0 : (0 : Int) ≤ (x : Int) := Int.natCast_nonneg x
    clear l3 l0
    go_wp2_with fail
    go_ret
    exact ⟨z, rfl, h3, k2.trans k3⟩
  have e10 : ((k : Int) == 10) = false := by rw [beq_eq_false_iff_ne]; omega
  go_wp2_with fail
  refine (l01Below_k g A c xs 65536 _ h1 (by omega) (by omega)).mono ?_
  rintro e w2 ⟨x, hx, rfl, h2, k2⟩
  go_wp2_with fail
  refine (l01Below_k g A c xs 65536 _ h2 (by omega) (by omega)).mono ?_
  rintro e w3 ⟨y, hy, rfl, h3, k3⟩
  go_wp2_with fail
  go_ret
  exact ⟨_, rfl, h3, (k1.trans k2).trans k3⟩
theorem Oi.cs {w : World} {lo c : Nat} {A : Option Addr} {ns : List Int} (h : Oi w lo A c ns) : Cs w A (ns.map I) := by
  rcases Oe.sl (k := 1) (enc := iL) (fun _ => rfl) h with h1 | ⟨b, o, hA, h1⟩
  · left; rw [h1]; rfl
  · refine .inr ⟨b, o, hA, fun i v hv => ?_⟩
    rw [List.getElem?_map] at hv
    cases hx : ns[i]? with
    | none => rw [hx] at hv; cases hv
    | some n =>
      rw [hx] at hv
      injection hv with hv
      subst hv
      simpa using h1 i n hx 0 _ rfl
theorem cut_ok (z y : Int) {x : Nat} (h : x < 10) : ∃ v, ([0, 1, 2, 3, 5, 8, 13, 100000, z, y] : List Int)[x]? = some v := ⟨_, List.getElem?_eq_getElem (by simpa using h)⟩
/-- Cuts drawn. -/
def CtPost (w : World) (g : Nat) (A : Option Addr) (c : Nat) (xs : List UInt8) (e : Ending) (w' : World) : Prop :=
  ∃ B d ns, e = .returned (.slice B ns.length d) ∧ ns.length ≤ 4 ∧ Oi w' w.heap.size B d ns ∧ CA w' g A c xs ∧ Kp g (g + 1) w w'
set_option maxHeartbeats 8000000 in
theorem l02Cuts_k (g : Nat) (A : Option Addr) (c : Nat) (xs : List UInt8) (w : World) (h : CA w g A c xs) :
    Calls Try.prog 12 #[.pointer (some ⟨g, 0, none⟩)] w (CtPost w g A c xs) := by
  have hgl := h.lt
  have hb0 : Below w.heap.size w (w.alloc (.cells #[] 3)) := (Below.refl _ _).alloc (Nat.le_refl _) _
  have k0 : Kp g (g + 1) w (w.alloc (.cells #[] 3)) := (Kp.refl g (g + 1) w).below hb0 (by omega) (Nat.le_refl _)
  have h0 := h.below hb0 hgl
  have o0 : Oi (w.alloc (.cells #[] 3)) w.heap.size (some ⟨w.heap.size, 0, none⟩) 0 [] := Oe.empty
  have hs0 : w.heap.size < (w.alloc (.cells #[] 3)).heap.size := by simp
  go_enter Try.func12, Try.ntmps12
  go_wp2_with fail
  generalize w.alloc (.cells #[] 3) = w0 at hb0 k0 h0 o0 hs0
  refine (l01Below_k g A c xs 4 w0 h0 (by omega) (by omega)).mono ?_
  rintro e w1 ⟨n, hn, rfl, h1, k1⟩
  have k01 := k0.trans k1
  have z1 := k1.1.size
  have o1 : Oi w1 w.heap.size (some ⟨w.heap.size, 0, none⟩) 0 [] := Oe.kp o0 k1 o0.inB (.inr (by omega))
  clear k1 h0 o0 k0
  go_wp2_with fail
  go_loopw [3, 4] (fun s i wr => ∃ (B : Option Addr) (d : Nat) (ns : List Int) (j : Nat), s = .slice B ns.length d ∧ i = .int .i64 j ∧ ns.length + j = n ∧ Oi wr w.heap.size B d ns ∧ CA wr g A c xs ∧ Kp g (g + 1) w wr) (fun _ i _ => (intOf i).toNat)
  case atStart => exact ⟨_, 0, [], n, rfl, rfl, by simp, o1, h1, k01⟩
  case round =>
    clear o1 h1 k01
    obtain ⟨B, d, ns, j, rfl, rfl, hj, ho, hC, kr⟩ := hrel
    have zr := kr.1.size
    by_cases hlt : 0 < j
    · obtain ⟨t, rfl⟩ : ∃ t, j = t + 1 := ⟨j - 1, by omega⟩
      have hlt' : (0 : Int) < ((t + 1 : Nat) : Int) := by omega
      go_wp2_with fail
      refine (l01Raw_k g A c xs wr hC).mono ?_
      rintro e w3 ⟨z, rfl, h3, k3⟩
      have z3 := k3.1.size
      have o3 : Oi w3 w.heap.size B d ns := Oe.kp ho k3 ho.inB (.inr (by omega))
      have kr3 := kr.trans k3
      clear hC ho k3
      go_wp2_with fail
      refine (l01Below_k g A c xs 200 w3 h3 (by omega) (by omega)).mono ?_
      rintro e w4 ⟨y0, hy0, rfl, h4, k4⟩
      obtain ⟨y, hy⟩ : ∃ y : Int, Hid (((y0 : Nat) : Int) = y) := ⟨_, Lib.hid rfl⟩
      have z4 := k4.1.size
      have o4 : Oi w4 w.heap.size B d ns := Oe.kp o3 k4 o3.inB (.inr (by omega))
      have kr4 := kr3.trans k4
      clear h3 o3 k4
      rw [hy.out]
      go_wp2_with fail
      have hb5 : Below w4.heap.size w4 (w4.alloc (.cells #[.int .i64 0, .int .i64 1, .int .i64 2, .int .i64 3, .int .i64 5, .int .i64 8, .int .i64 13, .int .i64 100000, .int .i64 z, .int .i64 y] 3)) := (Below.refl _ _).alloc (Nat.le_refl _) _
      have l5 : (w4.alloc (.cells #[.int .i64 0, .int .i64 1, .int .i64 2, .int .i64 3, .int .i64 5, .int .i64 8, .int .i64 13, .int .i64 100000, .int .i64 z, .int .i64 y] 3)).heap[w4.heap.size]? = some (.cells #[.int .i64 0, .int .i64 1, .int .i64 2, .int .i64 3, .int .i64 5, .int .i64 8, .int .i64 13, .int .i64 100000, .int .i64 z, .int .i64 y] 3 (0, 0)) := heap_alloc_new _ _
      have o5 : Oi (w4.alloc (.cells #[.int .i64 0, .int .i64 1, .int .i64 2, .int .i64 3, .int .i64 5, .int .i64 8, .int .i64 13, .int .i64 100000, .int .i64 z, .int .i64 y] 3)) w.heap.size B d ns := Oe.alloc o4 _
      have h5 := h4.below hb5 h4.lt
      have kr5 : Kp g (g + 1) w (w4.alloc (.cells #[.int .i64 0, .int .i64 1, .int .i64 2, .int .i64 3, .int .i64 5, .int .i64 8, .int .i64 13, .int .i64 100000, .int .i64 z, .int .i64 y] 3)) := kr4.below hb5 (by omega) (by omega)
      have sz5 : (w4.alloc (.cells #[.int .i64 0, .int .i64 1, .int .i64 2, .int .i64 3, .int .i64 5, .int .i64 8, .int .i64 13, .int .i64 100000, .int .i64 z, .int .i64 y] 3)).heap.size = w4.heap.size + 1 := by simp
      refine (l01Below_k g A c xs 10 _ h5 (by omega) (by omega)).mono ?_
      rintro e w6 ⟨x, hx, rfl, h6, k6⟩
      have z6 := k6.1.size
      have l6 := (k6.2 w4.heap.size (by omega) (by omega)).trans l5
      have o6 : Oi w6 w.heap.size B d ns := Oe.kp o5 k6 o5.inB (.inr (by omega))
      have kr6 := kr5.trans k6
      obtain ⟨v, hv⟩ := cut_ok z y hx
      have hcell : w6.cell? ⟨w4.heap.size, x, none⟩ = some (.int .i64 v) := by
        rw [cell_of_row w6 _ x _ _ (0, 0) l6]
        have : (([0, 1, 2, 3, 5, 8, 13, 100000, z, y] : List Int).map (Value.int .i64))[x]? = some (.int .i64 v) := by rw [List.getElem?_map, hv]; rfl
        simpa using this
      have hx' : (x : Int) < 10 := by omega
      have hx0 : (0 : Int) ≤ (x : Int) := Int.natCast_nonneg x
      clear l6 l5 o5 h5 kr5 k6 hb5 hv h4 o4 kr4
      go_wp2_with (at_builtin; refine wp_app1I rfl _ _ rfl w.heap.size B d ns _ _ v o6 rfl rfl _ rfl (by simp) (by omega) (by omega) ?_; intro A2 c2 w7 us hus ho7 hb7 hk7)
      have hl7 : us.length = ns.length + 1 := by rw [hus.out]; simp
      have kr7 : Kp g (g + 1) w w7 := kr6.below hb7 (by omega) (Nat.le_refl _)
      go_roundw
      case rel => exact ⟨A2, c2, us, t, rfl, by go_num, by omega, ho7, h6.below hb7 (by omega), kr7⟩
      case measure => (simp [intOf]; try omega)
    · have hlt' : ¬ (0 : Int) < (j : Int) := by omega
      go_wp2_with fail
      go_ret
      exact ⟨B, d, ns, rfl, by omega, ho, hC, kr⟩

set_option linter.unusedVariables false
set_option maxRecDepth 100000

/-- A number and cuts. -/
def MkCPost (w : World) (e : Ending) (w' : World) : Prop :=
  ∃ t B d ns, e = .returned (.tuple #[.int .i64 t, .slice B ns.length d]) ∧ ns.length ≤ 4 ∧ Oi w' w.heap.size B d ns ∧ Below w.heap.size w w'
set_option maxHeartbeats 2000000 in
theorem makeCut_any (A : Option Addr) (c : Nat) (xs : List UInt8) (w : World) (ha : By w A xs) (h1 : xs.length ≤ 1048576) :
    Calls Try.prog 5 #[.slice A xs.length c] w (MkCPost w) := by
  go_enter Try.func5, Try.ntmps5
  go_wp2_with fail
  refine (l01New_any A c xs w ha h1).mono ?_
  rintro e w1 ⟨g, rfl, hg, hC1, hb1⟩
  obtain ⟨k, h, hk, hh, hG⟩ := hC1
  have qg : ∀ i, w1.cell? ⟨g, i, none⟩ = _ := fun i => cell_of_row w1 _ i _ _ (0, 0) hG
  have rg : ∀ i, w1.frozen? ⟨g, i, none⟩ = false := fun i => by simp [World.frozen?, hG]
  have hgl := (Array.getElem?_eq_some_iff.1 hG).1
  have z1 := hb1.size
  go_wp2_with fail
  have hb2 := hb1.setCell (p := ⟨g, 2, none⟩) hg (.int .i64 (wrap64 (h + 12345)))
  have hA2 : CA (w1.setCell ⟨g, 2, none⟩ (.int .i64 (wrap64 (h + 12345)))) g A c xs :=
    ⟨ha.below hb2, h1, fun ad h h' => (by have := by_blk ha ad h h'; omega), ⟨k, _, hk, wrap64_bd _, heap_setCell_same _ hG⟩⟩
  refine (l01Below_k g A c xs 7 _ hA2 (by omega) (by omega)).mono ?_
  rintro e w3 ⟨x, hx, rfl, h3, k3⟩
  have hb3 : Below w.heap.size w w3 := hb2.trans (k3.1.mono hg)
  go_wp2_with fail
  refine (l02Cuts_k g A c xs w3 h3).mono ?_
  rintro e w4 ⟨B, d, ns, rfl, hl, ho, h4, k4⟩
  go_wp2_with fail
  go_ret2
  exact ⟨x, B, d, ns, rfl, hl, Oe.mono ho hb3.size, hb3.trans (k4.1.mono hg)⟩
end Go.Proofs.Ytndmdhmghjfckaa
