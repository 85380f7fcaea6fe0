/- Some bytes of a draw, and a number of a draw. -/
import Derived.Test.YtbaojeiinjjlcaaC1
import Derived.Test.YtbaojeiinjjlcaaP2
namespace Go.Proofs.Ytbaojeiinjjlcaa
open Go.RowKit
set_option linter.unusedVariables false
set_option maxRecDepth 100000

theorem Cur.below {w w' : World} {g : Nat} {A : Option Addr} {n c B' : Nat} (h : Cur w g A n c) (hb : Below B' w w') (hB : g < B') : Cur w' g A n c := by
  obtain ⟨k, h, hk, hh, hG⟩ := h
  exact ⟨k, h, hk, hh, (hb.block g hB).trans hG⟩
theorem Cur.lt {w : World} {g : Nat} {A : Option Addr} {n c : Nat} (h : Cur w g A n c) : g < w.heap.size := by
  obtain ⟨k, h, hk, hh, hG⟩ := h
  exact (Array.getElem?_eq_some_iff.1 hG).1
theorem Ob.by_cur {w w' : World} {lo c g : Nat} {A : Option Addr} {bs : List UInt8} (h : Ob w lo A c bs) (hg : w.grownBy w' (some g)) (hlo : g < lo) : Ob w' lo A c bs := by
  refine ownsG.kept h hg ?_
  by_cases hn : (Value.slice A bs.length c).ownBlock = none
  · exact .inl hn
  · refine .inr fun e => ?_
    have := own_block_le h g e
    omega
theorem Ob.mono_ {w : World} {lo lo' c : Nat} {A : Option Addr} {bs : List UInt8} (h : Ob w lo A c bs) (hl : lo' ≤ lo) : Ob w lo' A c bs := ownsG.mono h hl
theorem byte_of {x : Nat} (h : x < 256) : (x : Int) % 256 = ((UInt8.ofNat x).toNat : Int) ∧ (x : Int) = ((UInt8.ofNat x).toNat : Int) := by
  rw [UInt8.toNat_ofNat', Nat.mod_eq_of_lt (by omega)]
  omega
set_option maxHeartbeats 1000000 in
/-- Some bytes, no more than most. -/
theorem l01Bytes_any (g lo : Nat) (A : Option Addr) (c : Nat) (xs : List UInt8) (most : Nat) (w : World) (ha : By w A xs) (h1 : xs.length ≤ 1048576) (hne : ∀ ad, A = some ad → xs ≠ [] → ad.block < lo) (hlo : lo ≤ g) (hC : Cur w g A xs.length c) (hm : most < 256) :
    Calls Try.prog 17 #[.pointer (some ⟨g, 0, none⟩), .int .i64 most] w fun e w' => ∃ A' c' us, e = .returned (.slice A' us.length c') ∧ us.length ≤ most ∧ Ob w' w.heap.size A' c' us ∧ Cur w' g A xs.length c ∧ Below lo w w' := by
  have hg := hC.lt
  go_enter Try.func17, Try.ntmps17
  go_wp2_with fail
  refine (l01Below_any g A c xs (most + 1) w ha h1 (fun ad h h' => by have := hne ad h h'; omega) hC (by omega) (by omega)).mono ?_
  rintro e w1 ⟨n, hn, rfl, hC1, hg1⟩
  have z1 := hg1.size
  have hb1 : Below lo w w1 := below_of_grown hg1 (by omega) (fun k hk => by injection hk with hk; omega)
  go_wp2_with fail
  have hb2 : Below lo w (w1.alloc (.cells #[] 5)) := hb1.alloc (by omega) _
  have hC2 : Cur (w1.alloc (.cells #[] 5)) g A xs.length c := hC1.below (B' := w1.heap.size) ((Below.refl _ _).alloc (Nat.le_refl _) _) hC1.lt
  have ho2 := (Ob.empty (w := w1)).mono_ (lo' := w.heap.size) z1
  generalize w1.alloc (.cells #[] 5) = w2 at hb2 hC2 ho2
  go_loopw [6, 7] (fun s i wr => ∃ (A' : Option Addr) (c' : Nat) (ys : List UInt8), s = .slice A' ys.length c' ∧ i = .int .i64 ys.length ∧ ys.length ≤ n ∧ Ob wr w.heap.size A' c' ys ∧ Cur wr g A xs.length c ∧ Below lo w wr) (fun _ i _ => n - (intOf i).toNat)
  case atStart => exact ⟨_, 0, [], rfl, rfl, Nat.zero_le _, ho2, hC2, hb2⟩
  case round =>
    clear ho2 hC2 hb2
    obtain ⟨A', c', ys, rfl, rfl, hys, ho, hCr, hbr⟩ := hrel
    have zr := hbr.size
    have har := by_keep ha hne hbr
    by_cases hlt : ys.length < n
    · have hlt' : (ys.length : Int) < n := by omega
      go_wp2_with fail
      refine (l01Byte_any g A c xs wr har h1 (fun ad h h' => by have := hne ad h h'; omega) hCr).mono ?_
      rintro e w3 ⟨x, hx, rfl, hC3, hg3⟩
      have z3 := hg3.size
      have hb3 : Below lo w w3 := hbr.trans (below_of_grown hg3 (by omega) (fun k hk => by injection hk with hk; omega))
      have ho3 := ho.by_cur hg3 (by omega)
      go_wp2_with (at_builtin; refine wp_app1 rfl _ _ rfl w.heap.size _ _ _ _ _ (UInt8.ofNat x) ho3 rfl (byte_of hx).2 rfl (by omega) (by omega) ?_; intro A2 c2 w4 us hus ho4 hb4)
      have hl5 := hlen_of hus
      rw [List.length_append, List.length_singleton] at hl5
      have el : (ys.length : Int) + 1 = (us.length : Int) := by omega
      refine ⟨⟨A2, c2, us, rfl, ?_, by omega, ho4, hC3.below hb4 (by omega), hb3.trans (hb4.mono (by omega))⟩, ?_⟩
      · rw [← el]
      · simp [intOf]
        omega
    · have hlt' : ¬ (ys.length : Int) < n := by omega
      go_wp2_with fail
      go_ret
      exact ⟨A', c', ys, rfl, by omega, ho, hCr, hbr⟩
set_option maxHeartbeats 1000000 in
/-- A number of a draw, below n. -/
theorem makeNum_any (A : Option Addr) (c : Nat) (xs : List UInt8) (n : Nat) (w : World) (ha : By w A xs) (h1 : xs.length ≤ 1048576) (hn0 : 1 ≤ n) (hn : n ≤ 256) :
    Calls Try.prog 7 #[.slice A xs.length c, .int .i64 n] w fun e w' => ∃ x : Nat, x < n ∧ e = .returned (.int .i64 x) ∧ Below w.heap.size w w' := by
  go_enter Try.func7, Try.ntmps7
  go_wp2_with fail
  refine (l01New_any A c xs w ha h1).mono ?_
  rintro e w1 ⟨g, rfl, hg, hC1, hb1⟩
  obtain ⟨k, h, hk, hh, hG⟩ := hC1
  have qg : ∀ i, w1.cell? ⟨g, i, none⟩ = _ := fun i => cell_of_row w1 _ i _ _ (0, 0) hG
  have rg : ∀ i, w1.frozen? ⟨g, i, none⟩ = false := fun i => by simp [World.frozen?, hG]
  have hgl := (Array.getElem?_eq_some_iff.1 hG).1
  have z1 := hb1.size
  go_wp2_with fail
  have hb2 := hb1.setCell (p := ⟨g, 2, none⟩) hg (.int .i64 (wrap64 (h + 777)))
  refine (l01Below_any g A c xs n _ (ha.below hb2) h1 (fun ad h h' => by have := by_blk ha ad h h'; omega) ⟨k, _, hk, wrap64_bd _, heap_setCell_same _ hG⟩ hn0 hn).mono ?_
  rintro e w3 ⟨x, hx, rfl, hC3, hg3⟩
  go_wp2_with fail
  go_ret
  exact ⟨x, hx, rfl, hb2.trans (below_of_grown hg3 hb2.size (fun k hk => by injection hk with hk; omega))⟩
end Go.Proofs.Ytbaojeiinjjlcaa
