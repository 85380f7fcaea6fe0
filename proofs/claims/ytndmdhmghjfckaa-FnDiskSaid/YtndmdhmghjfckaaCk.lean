/- The cursor over a draw's bytes, bundled. -/
import Derived.Test.YtndmdhmghjfckaaC1
import Derived.Test.YtndmdhmghjfckaaP2
import Derived.Test.YtndmdhmghjfckaaUa
namespace Go.Proofs.Ytndmdhmghjfckaa
open Go.RowKit
set_option linter.unusedVariables false
set_option maxRecDepth 100000


theorem Cur.below {w w' : World} {g : Nat} {A : Option Addr} {n c B' : Nat} (h : Cur w g A n c) (hb : Below B' w w') (hB : g < B') : Cur w' g A n c := by
  obtain ⟨k, h, hk, hh, hG⟩ := h
  exact ⟨k, h, hk, hh, (hb.block g hB).trans hG⟩
theorem Cur.lt {w : World} {g : Nat} {A : Option Addr} {n c : Nat} (h : Cur w g A n c) : g < w.heap.size := by
  obtain ⟨k, h, hk, hh, hG⟩ := h
  exact (Array.getElem?_eq_some_iff.1 hG).1
theorem Ob.by_cur {w w' : World} {lo c g : Nat} {A : Option Addr} {bs : List UInt8} (h : Ob w lo A c bs) (hg : w.grownBy w' (some g)) (hlo : g < lo) : Ob w' lo A c bs := by
  refine ownsG.kept h hg ?_
  by_cases hn : (Value.slice A bs.length c).ownBlock = none
  · exact .inl hn
  · refine .inr fun e => ?_
    have := own_block_le h g e
    omega
theorem Ob.mono_ {w : World} {lo lo' c : Nat} {A : Option Addr} {bs : List UInt8} (h : Ob w lo A c bs) (hl : lo' ≤ lo) : Ob w lo' A c bs := ownsG.mono h hl
theorem byte_of {x : Nat} (h : x < 256) : (x : Int) % 256 = ((UInt8.ofNat x).toNat : Int) ∧ (x : Int) = ((UInt8.ofNat x).toNat : Int) := by
  rw [UInt8.toNat_ofNat', Nat.mod_eq_of_lt (by omega)]
  omega
set_option maxHeartbeats 1000000 in
/-- Some bytes, no more than most. -/
theorem Kp.below {lo hi B' : Nat} {w w1 w2 : World} (h : Kp lo hi w w1) (hb : Below B' w1 w2) (h1 : lo ≤ B') (h2 : w.heap.size ≤ B') : Kp lo hi w w2 :=
  ⟨h.1.trans (hb.mono h1), fun k hk hs => (hb.block k (by omega)).trans (h.2 k hk hs)⟩
theorem Kp.of_cur {w w' : World} {g : Nat} (h : w.grownBy w' (some g)) (hg : g ≤ w.heap.size) : Kp g (g + 1) w w' := by
  refine ⟨below_of_grown h hg (fun k hk => by injection hk with hk; omega), fun k hk hs => h.block k hs ?_⟩
  intro e
  injection e with e
  omega
theorem Cur.kp {w w' : World} {g lo hi : Nat} {A : Option Addr} {n c : Nat} (h : Cur w g A n c) (hk : Kp lo hi w w') (hg : g < lo) : Cur w' g A n c := h.below hk.1 hg
set_option maxHeartbeats 1000000 in
/-- A number below n, n greater than 256. -/
theorem l01Below_big (g : Nat) (A : Option Addr) (c : Nat) (xs : List UInt8) (n : Nat) (w : World) (ha : By w A xs) (h1 : xs.length ≤ 1048576) (hne : ∀ ad, A = some ad → xs ≠ [] → ad.block < g) (hC : Cur w g A xs.length c) (hn0 : 256 < n) (hn : n ≤ 4294967296) :
    Calls Try.prog 11 #[.pointer (some ⟨g, 0, none⟩), .int .i64 n] w fun e w' => ∃ x : Nat, x < n ∧ e = .returned (.int .i64 x) ∧ Cur w' g A xs.length c ∧ w.grownBy w' (some g) := by
  have hn0' : ¬ (n : Int) ≤ 0 := by omega
  have hn' : ¬ (n : Int) ≤ 256 := by omega
  have hnz : ¬ (n : Int) = 0 := by omega
  have hgl := hC.lt
  go_enter Try.func11, Try.ntmps11
  go_wp2_with fail
  refine (l01Byte_any g A c xs w ha h1 hne hC).mono ?_
  rintro e w1 ⟨x1, hx1, rfl, hC1, hg1⟩
  have k1 := Kp.of_cur hg1 (by omega)
  go_wp2_with fail
  refine (l01Byte_any g A c xs w1 (by_keep ha hne k1.1) h1 hne hC1).mono ?_
  rintro e w2 ⟨x2, hx2, rfl, hC2, hg2⟩
  have hg2' := hg1.trans hg2
  go_wp2_with fail
  refine (l01Byte_any g A c xs w2 (by_keep ha hne (Kp.of_cur hg2' (by omega)).1) h1 hne hC2).mono ?_
  rintro e w3 ⟨x3, hx3, rfl, hC3, hg3⟩
  have hg3' := hg2'.trans hg3
  go_wp2_with fail
  refine (l01Byte_any g A c xs w3 (by_keep ha hne (Kp.of_cur hg3' (by omega)).1) h1 hne hC3).mono ?_
  rintro e w4 ⟨x4, hx4, rfl, hC4, hg4⟩
  have hg4' := hg3'.trans hg4
  obtain ⟨y, hy⟩ : ∃ y, y = x1 * 16777216 + x2 * 65536 + x3 * 256 + x4 := ⟨_, rfl⟩
  have hy2 : (x1 : Int) * 16777216 + x2 * 65536 + x3 * 256 + x4 = (y : Int) := by rw [hy]; omega
  obtain ⟨r, hr⟩ : ∃ r, r = y % n := ⟨_, rfl⟩
  have em : Int.tmod (y : Int) (n : Int) = (r : Int) := by rw [hr]; exact (Int.ofNat_tmod _ _).symm
  have em2 : (y : Int) % (n : Int) = (r : Int) := by rw [hr]; simp
  have hrn : r < n := by rw [hr]; exact Nat.mod_lt _ (by omega)
  clear hr hy
  go_wp2_with fail
  go_ret
  exact ⟨r, hrn, rfl, hC4, hg4'⟩
set_option maxHeartbeats 1000000 in
/-- Some bytes, no more than most: what changes is the cursor. -/
theorem l01Bytes_kp (g : Nat) (A : Option Addr) (c : Nat) (xs : List UInt8) (most : Nat) (w : World) (ha : By w A xs) (h1 : xs.length ≤ 1048576) (hne : ∀ ad, A = some ad → xs ≠ [] → ad.block < g) (hC : Cur w g A xs.length c) (hm : most < 256) :
    Calls Try.prog 49 #[.pointer (some ⟨g, 0, none⟩), .int .i64 most] w fun e w' => ∃ A' c' us, e = .returned (.slice A' us.length c') ∧ us.length ≤ most ∧ Ob w' w.heap.size A' c' us ∧ Cur w' g A xs.length c ∧ Kp g (g + 1) w w' := by
  have hg := hC.lt
  go_enter Try.func49, Try.ntmps49
  go_wp2_with fail
  refine (l01Below_any g A c xs (most + 1) w ha h1 hne hC (by omega) (by omega)).mono ?_
  rintro e w1 ⟨n, hn, rfl, hC1, hg1⟩
  have k1 := Kp.of_cur hg1 (by omega)
  have z1 := hg1.size
  go_wp2_with fail
  have k2 : Kp g (g + 1) w (w1.alloc (.cells #[] 5)) := k1.below ((Below.refl w1.heap.size w1).alloc (Nat.le_refl _) _) (by omega) z1
  have hC2 : Cur (w1.alloc (.cells #[] 5)) g A xs.length c := hC1.below (B' := w1.heap.size) ((Below.refl _ _).alloc (Nat.le_refl _) _) hC1.lt
  have ho2 := (Ob.empty (w := w1)).mono_ (lo' := w.heap.size) z1
  generalize w1.alloc (.cells #[] 5) = w2 at k2 hC2 ho2
  go_loopw [6, 7] (fun s i wr => ∃ (A' : Option Addr) (c' : Nat) (ys : List UInt8), s = .slice A' ys.length c' ∧ i = .int .i64 ys.length ∧ ys.length ≤ n ∧ Ob wr w.heap.size A' c' ys ∧ Cur wr g A xs.length c ∧ Kp g (g + 1) w wr) (fun _ i _ => n - (intOf i).toNat)
  case atStart => exact ⟨_, 0, [], rfl, rfl, Nat.zero_le _, ho2, hC2, k2⟩
  case round =>
    clear ho2 hC2 k2
    obtain ⟨A', c', ys, rfl, rfl, hys, ho, hCr, kr⟩ := hrel
    have zr := kr.1.size
    have har := by_keep ha hne kr.1
    by_cases hlt : ys.length < n
    · have hlt' : (ys.length : Int) < n := by omega
      go_wp2_with fail
      refine (l01Byte_any g A c xs wr har h1 hne hCr).mono ?_
      rintro e w3 ⟨x, hx, rfl, hC3, hg3⟩
      have z3 := hg3.size
      have k3 := kr.trans (Kp.of_cur hg3 (by omega))
      have ho3 := ho.by_cur hg3 (by omega)
      go_wp2_with (at_builtin; refine wp_app1 rfl _ _ rfl w.heap.size _ _ _ _ _ (UInt8.ofNat x) ho3 rfl (byte_of hx).2 rfl (by omega) (by omega) ?_; intro A2 c2 w4 us hus ho4 hb4)
      have hl5 := hlen_of hus
      rw [List.length_append, List.length_singleton] at hl5
      have el : (ys.length : Int) + 1 = (us.length : Int) := by omega
      refine ⟨⟨A2, c2, us, rfl, ?_, by omega, ho4, hC3.below hb4 (by omega), k3.below hb4 (by omega) (Nat.le_refl _)⟩, ?_⟩
      · rw [← el]
      · simp [intOf]
        omega
    · have hlt' : ¬ (ys.length : Int) < n := by omega
      go_wp2_with fail
      go_ret
      exact ⟨A', c', ys, rfl, by omega, ho, hCr, kr⟩
/-- The cursor at g and the bytes that it goes over. -/
def CA (w : World) (g : Nat) (A : Option Addr) (c : Nat) (xs : List UInt8) : Prop := By w A xs ∧ xs.length ≤ 1048576 ∧ (∀ ad, A = some ad → xs ≠ [] → ad.block < g) ∧ Cur w g A xs.length c
theorem CA.lt {w : World} {g : Nat} {A : Option Addr} {c : Nat} {xs : List UInt8} (h : CA w g A c xs) : g < w.heap.size := h.2.2.2.lt
theorem CA.below {w w' : World} {g B' : Nat} {A : Option Addr} {c : Nat} {xs : List UInt8} (h : CA w g A c xs) (hb : Below B' w w') (hB : g < B') : CA w' g A c xs :=
  ⟨by_keep h.1 (fun ad ha hx => Nat.lt_trans (h.2.2.1 ad ha hx) hB) hb, h.2.1, h.2.2.1, h.2.2.2.below hb hB⟩
theorem CA.kp {w w' : World} {g : Nat} {A : Option Addr} {c : Nat} {xs : List UInt8} (h : CA w g A c xs) (hk : Kp g (g + 1) w w') (hC : Cur w' g A xs.length c) : CA w' g A c xs :=
  ⟨by_keep h.1 h.2.2.1 hk.1, h.2.1, h.2.2.1, hC⟩
/-- A number below n. -/
theorem l01Below_k (g : Nat) (A : Option Addr) (c : Nat) (xs : List UInt8) (n : Nat) (w : World) (h : CA w g A c xs) (hn0 : 1 ≤ n) (hn : n ≤ 4294967296) :
    Calls Try.prog 11 #[.pointer (some ⟨g, 0, none⟩), .int .i64 n] w fun e w' => ∃ x : Nat, x < n ∧ e = .returned (.int .i64 x) ∧ CA w' g A c xs ∧ Kp g (g + 1) w w' := by
  have hg := h.lt
  by_cases hb : n ≤ 256
  · refine (l01Below_any g A c xs n w h.1 h.2.1 h.2.2.1 h.2.2.2 hn0 hb).mono ?_
    rintro e w' ⟨x, hx, he, hC, hgr⟩
    have hk := Kp.of_cur hgr (by omega)
    exact ⟨x, hx, he, h.kp hk hC, hk⟩
  · refine (l01Below_big g A c xs n w h.1 h.2.1 h.2.2.1 h.2.2.2 (by omega) hn).mono ?_
    rintro e w' ⟨x, hx, he, hC, hgr⟩
    have hk := Kp.of_cur hgr (by omega)
    exact ⟨x, hx, he, h.kp hk hC, hk⟩
theorem l01Bytes_k (g : Nat) (A : Option Addr) (c : Nat) (xs : List UInt8) (most : Nat) (w : World) (h : CA w g A c xs) (hm : most < 256) :
    Calls Try.prog 49 #[.pointer (some ⟨g, 0, none⟩), .int .i64 most] w fun e w' => ∃ A' c' us, e = .returned (.slice A' us.length c') ∧ us.length ≤ most ∧ Ob w' w.heap.size A' c' us ∧ CA w' g A c xs ∧ Kp g (g + 1) w w' := by
  refine (l01Bytes_kp g A c xs most w h.1 h.2.1 h.2.2.1 h.2.2.2 hm).mono ?_
  rintro e w' ⟨A', c', us, he, hl, ho, hC, hk⟩
  exact ⟨A', c', us, he, hl, ho, h.kp hk hC, hk⟩
theorem l01New_k (A : Option Addr) (c : Nat) (xs : List UInt8) (w : World) (ha : By w A xs) (h1 : xs.length ≤ 1048576) :
    Calls Try.prog 9 #[.slice A xs.length c] w fun e w' => ∃ g, e = .returned (.pointer (some ⟨g, 0, none⟩)) ∧ w.heap.size ≤ g ∧ CA w' g A c xs ∧ Below w.heap.size w w' := by
  refine (l01New_any A c xs w ha h1).mono ?_
  rintro e w' ⟨g, he, hg, hC, hb⟩
  exact ⟨g, he, hg, ⟨ha.below hb, h1, fun ad hA hx => Nat.lt_of_lt_of_le (by_blk ha ad hA hx) hg, hC⟩, hb⟩
end Go.Proofs.Ytndmdhmghjfckaa
