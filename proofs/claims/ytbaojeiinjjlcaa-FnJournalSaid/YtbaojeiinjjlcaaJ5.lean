/- Loads of a draw. -/
import Derived.Test.YtbaojeiinjjlcaaC2
import Derived.Test.YtbaojeiinjjlcaaP30
namespace Go.Proofs.Ytbaojeiinjjlcaa
open Go.RowKit
set_option linter.unusedVariables false
set_option maxRecDepth 100000

theorem Kp.below {lo hi B' : Nat} {w w1 w2 : World} (h : Kp lo hi w w1) (hb : Below B' w1 w2) (h1 : lo ≤ B') (h2 : w.heap.size ≤ B') : Kp lo hi w w2 :=
  ⟨h.1.trans (hb.mono h1), fun k hk hs => (hb.block k (by omega)).trans (h.2 k hk hs)⟩
theorem Kp.of_cur {w w' : World} {g : Nat} (h : w.grownBy w' (some g)) (hg : g ≤ w.heap.size) : Kp g (g + 1) w w' := by
  refine ⟨below_of_grown h hg (fun k hk => by injection hk with hk; omega), fun k hk hs => h.block k hs ?_⟩
  intro e
  injection e with e
  omega
theorem Kp.oc {E : TypeId} {lo hi lo' c : Nat} {w w' : World} {A : Option Addr} {vs : List Value} (h : Kp lo hi w w') (ho : Oc E w lo' A c vs) (hh : hi ≤ lo') : Oc E w' lo' A c vs := by
  obtain ⟨h1, h2⟩ := ho
  refine ⟨h1, ?_⟩
  rcases h2 with h2 | ⟨g, cap, cur, fz, hv, hlo, hg, hr⟩
  · exact .inl h2
  · exact .inr ⟨g, cap, cur, fz, hv, hlo, (h.2 g (by omega) (Array.getElem?_eq_some_iff.1 hg).1).trans hg, hr⟩
theorem Cur.kp {w w' : World} {g lo hi : Nat} {A : Option Addr} {n c : Nat} (h : Cur w g A n c) (hk : Kp lo hi w w') (hg : g < lo) : Cur w' g A n c := h.below hk.1 hg
set_option maxHeartbeats 1000000 in
/-- A number below n, n greater than 256. -/
theorem l01Below_big (g : Nat) (A : Option Addr) (c : Nat) (xs : List UInt8) (n : Nat) (w : World) (ha : By w A xs) (h1 : xs.length ≤ 1048576) (hne : ∀ ad, A = some ad → xs ≠ [] → ad.block < g) (hC : Cur w g A xs.length c) (hn0 : 256 < n) (hn : n ≤ 4294967296) :
    Calls Try.prog 10 #[.pointer (some ⟨g, 0, none⟩), .int .i64 n] w fun e w' => ∃ x : Nat, x < n ∧ e = .returned (.int .i64 x) ∧ Cur w' g A xs.length c ∧ w.grownBy w' (some g) := by
  have hn0' : ¬ (n : Int) ≤ 0 := by omega
  have hn' : ¬ (n : Int) ≤ 256 := by omega
  have hnz : ¬ (n : Int) = 0 := by omega
  have hgl := hC.lt
  go_enter Try.func10, Try.ntmps10
  go_wp2_with fail
  refine (l01Byte_any g A c xs w ha h1 hne hC).mono ?_
  rintro e w1 ⟨x1, hx1, rfl, hC1, hg1⟩
  have k1 := Kp.of_cur hg1 (by omega)
  go_wp2_with fail
  refine (l01Byte_any g A c xs w1 (by_keep ha hne k1.1) h1 hne hC1).mono ?_
  rintro e w2 ⟨x2, hx2, rfl, hC2, hg2⟩
  have hg2' := hg1.trans hg2
  go_wp2_with fail
  refine (l01Byte_any g A c xs w2 (by_keep ha hne (Kp.of_cur hg2' (by omega)).1) h1 hne hC2).mono ?_
  rintro e w3 ⟨x3, hx3, rfl, hC3, hg3⟩
  have hg3' := hg2'.trans hg3
  go_wp2_with fail
  refine (l01Byte_any g A c xs w3 (by_keep ha hne (Kp.of_cur hg3' (by omega)).1) h1 hne hC3).mono ?_
  rintro e w4 ⟨x4, hx4, rfl, hC4, hg4⟩
  have hg4' := hg3'.trans hg4
  obtain ⟨y, hy⟩ : ∃ y, y = x1 * 16777216 + x2 * 65536 + x3 * 256 + x4 := ⟨_, rfl⟩
  have hy2 : (x1 : Int) * 16777216 + x2 * 65536 + x3 * 256 + x4 = (y : Int) := by rw [hy]; omega
  obtain ⟨r, hr⟩ : ∃ r, r = y % n := ⟨_, rfl⟩
  have em : Int.tmod (y : Int) (n : Int) = (r : Int) := by rw [hr]; exact (Int.ofNat_tmod _ _).symm
  have em2 : (y : Int) % (n : Int) = (r : Int) := by rw [hr]; simp
  have hrn : r < n := by rw [hr]; exact Nat.mod_lt _ (by omega)
  clear hr hy
  go_wp2_with fail
  go_ret
  exact ⟨r, hrn, rfl, hC4, hg4'⟩
set_option maxHeartbeats 1000000 in
/-- Some bytes, no more than most: what changes is the cursor. -/
theorem l01Bytes_kp (g : Nat) (A : Option Addr) (c : Nat) (xs : List UInt8) (most : Nat) (w : World) (ha : By w A xs) (h1 : xs.length ≤ 1048576) (hne : ∀ ad, A = some ad → xs ≠ [] → ad.block < g) (hC : Cur w g A xs.length c) (hm : most < 256) :
    Calls Try.prog 17 #[.pointer (some ⟨g, 0, none⟩), .int .i64 most] w fun e w' => ∃ A' c' us, e = .returned (.slice A' us.length c') ∧ us.length ≤ most ∧ Ob w' w.heap.size A' c' us ∧ Cur w' g A xs.length c ∧ Kp g (g + 1) w w' := by
  have hg := hC.lt
  go_enter Try.func17, Try.ntmps17
  go_wp2_with fail
  refine (l01Below_any g A c xs (most + 1) w ha h1 hne hC (by omega) (by omega)).mono ?_
  rintro e w1 ⟨n, hn, rfl, hC1, hg1⟩
  have k1 := Kp.of_cur hg1 (by omega)
  have z1 := hg1.size
  go_wp2_with fail
  have k2 : Kp g (g + 1) w (w1.alloc (.cells #[] 5)) := k1.below ((Below.refl w1.heap.size w1).alloc (Nat.le_refl _) _) (by omega) z1
  have hC2 : Cur (w1.alloc (.cells #[] 5)) g A xs.length c := hC1.below (B' := w1.heap.size) ((Below.refl _ _).alloc (Nat.le_refl _) _) hC1.lt
  have ho2 := (Ob.empty (w := w1)).mono_ (lo' := w.heap.size) z1
  generalize w1.alloc (.cells #[] 5) = w2 at k2 hC2 ho2
  go_loopw [6, 7] (fun s i wr => ∃ (A' : Option Addr) (c' : Nat) (ys : List UInt8), s = .slice A' ys.length c' ∧ i = .int .i64 ys.length ∧ ys.length ≤ n ∧ Ob wr w.heap.size A' c' ys ∧ Cur wr g A xs.length c ∧ Kp g (g + 1) w wr) (fun _ i _ => n - (intOf i).toNat)
  case atStart => exact ⟨_, 0, [], rfl, rfl, Nat.zero_le _, ho2, hC2, k2⟩
  case round =>
    clear ho2 hC2 k2
    obtain ⟨A', c', ys, rfl, rfl, hys, ho, hCr, kr⟩ := hrel
    have zr := kr.1.size
    have har := by_keep ha hne kr.1
    by_cases hlt : ys.length < n
    · have hlt' : (ys.length : Int) < n := by omega
      go_wp2_with fail
      refine (l01Byte_any g A c xs wr har h1 hne hCr).mono ?_
      rintro e w3 ⟨x, hx, rfl, hC3, hg3⟩
      have z3 := hg3.size
      have k3 := kr.trans (Kp.of_cur hg3 (by omega))
      have ho3 := ho.by_cur hg3 (by omega)
      go_wp2_with (at_builtin; refine wp_app1 rfl _ _ rfl w.heap.size _ _ _ _ _ (UInt8.ofNat x) ho3 rfl (byte_of hx).2 rfl (by omega) (by omega) ?_; intro A2 c2 w4 us hus ho4 hb4)
      have hl5 := hlen_of hus
      rw [List.length_append, List.length_singleton] at hl5
      have el : (ys.length : Int) + 1 = (us.length : Int) := by omega
      refine ⟨⟨A2, c2, us, rfl, ?_, by omega, ho4, hC3.below hb4 (by omega), k3.below hb4 (by omega) (Nat.le_refl _)⟩, ?_⟩
      · rw [← el]
      · simp [intOf]
        omega
    · have hlt' : ¬ (ys.length : Int) < n := by omega
      go_wp2_with fail
      go_ret
      exact ⟨A', c', ys, rfl, by omega, ho, hCr, kr⟩
/-- What a draw of loads hands back. -/
def LdsPost (w : World) (g most : Nat) (e : Ending) (w' : World) : Prop :=
  ∃ A' c' n fs, e = .returned (.slice A' n c') ∧ fs.length = n ∧ n ≤ most ∧ (∀ e, e ∈ fs → e.2.2.length ≤ 9) ∧ Own w' w.heap.size w'.heap.size A' fs ∧ Kp g (g + 1) w w'
set_option maxHeartbeats 4000000 in
/-- Loads, no more than most, of no more than nine bytes each. -/
theorem l03Loads_any (g : Nat) (A : Option Addr) (c : Nat) (xs : List UInt8) (most : Nat) (w : World) (ha : By w A xs) (h1 : xs.length ≤ 1048576) (hne : ∀ ad, A = some ad → xs ≠ [] → ad.block < g) (hC : Cur w g A xs.length c) (hm : most < 200) :
    Calls Try.prog 11 #[.pointer (some ⟨g, 0, none⟩), .int .i64 most] w (LdsPost w g most) := by
  have hg := hC.lt
  go_enter Try.func11, Try.ntmps11
  go_wp2_with fail
  have hb0 : Below w.heap.size w (w.alloc (.cells #[] 32)) := (Below.refl _ _).alloc (Nat.le_refl _) _
  have k0 : Kp g (g + 1) w (w.alloc (.cells #[] 32)) := (Kp.refl _ _ _).below hb0 (by omega) (Nat.le_refl _)
  have hC0 := hC.below hb0 hg
  have ho0 : Oc 32 (w.alloc (.cells #[] 32)) w.heap.size (some ⟨w.heap.size, 0, none⟩) 0 [] := Oc.empty
  have hs0 : w.heap.size < (w.alloc (.cells #[] 32)).heap.size := by simp
  generalize w.alloc (.cells #[] 32) = w0 at hb0 k0 hC0 ho0 hs0
  refine (l01Below_any g A c xs (most + 1) w0 (ha.below hb0) h1 hne hC0 (by omega) (by omega)).mono ?_
  rintro e w1 ⟨m, hm1, rfl, hC1, hg1⟩
  have k1 := k0.trans (Kp.of_cur hg1 (by omega))
  have z1 := hg1.size
  have ho1 : Oc 32 w1 w.heap.size (some ⟨w.heap.size, 0, none⟩) 0 [] := (Kp.of_cur hg1 (by omega)).oc ho0 (by omega)
  clear ho0 hC0 k0 hb0
  go_wp2_with fail
  go_loopw [5, 6] (fun lv nv wr => ∃ (fs : List Sl) (n k : Nat) (A1 : Option Addr) (c1 : Nat), fs.length = n ∧ lv = .slice A1 n c1 ∧ nv = .int .i64 k ∧ k + n = m ∧ (∀ e, e ∈ fs → e.2.2.length ≤ 9) ∧ Oc 32 wr w.heap.size A1 c1 (fs.map slv) ∧ (∀ e, e ∈ fs → Dj e.1 A1) ∧ Obs wr w.heap.size wr.heap.size fs ∧ Cur wr g A xs.length c ∧ Kp g (g + 1) w wr) (fun _ nv _ => (intOf nv).toNat)
  case atStart => exact ⟨[], 0, m, _, _, rfl, rfl, rfl, rfl, fun e he => by simp at he, ho1, fun e he => by simp at he, (by show _ ≤ _; omega), hC1, k1⟩
  case round =>
    clear ho1 hC1 k1
    obtain ⟨fs, n, k, A1, c1, hn, rfl, rfl, hk, h9, ho, hdj, hob, hCr, kr⟩ := hrel
    have zb := kr.1.size
    by_cases hk0 : 0 < k
    · have hk0' : (0 : Int) < k := by omega
      obtain ⟨k', rfl⟩ : ∃ k', k = k' + 1 := ⟨k - 1, by omega⟩
      have ek : ((k' + 1 : Nat) : Int) - 1 = (k' : Int) := by omega
      go_wp2_with fail
      refine (l01Bytes_kp g A c xs 9 wr (by_keep ha hne kr.1) h1 hne hCr (by omega)).mono ?_
      rintro e w2 ⟨A2, c2, us, rfl, hl2, ho2, hC2, k2⟩
      have z2 := k2.1.size
      have ho1 := k2.oc ho (by omega)
      have hob1 := k2.obs hob (by omega) (Nat.le_refl _)
      go_wp2_with (at_builtin; refine wp_app1C 23 32 (.agg #[.slice none 0 0]) 24 Try.underlying23 info_load (by omega) rfl rfl _ _ rfl w.heap.size A1 c1 (fs.map slv) _ _ (slv (A2, c2, us)) rfl ho1 (by simp [hn]) rfl rfl (by simp; omega) (by omega) ?_; intro A3 c3 w3 vs hvs ho3 hb3 hkp3)
      have z3 := hb3.size
      have hob2 := hob1.snoc ho2 ho2.inB z2
      have hdj2 : ∀ e, e ∈ fs ++ [(A2, c2, us)] → Dj e.1 A1 := by
        intro e he
        rcases List.mem_append.1 he with he | he
        · exact hdj e he
        · rw [List.mem_singleton] at he
          subst he
          intro a a' h1 h2 h3
          have := ho2.inB a h1
          have := ho.inB a' h2
          omega
      obtain ⟨hob3, hdj3⟩ := hob2.keepD hkp3 hdj2
      have hv : vs = (fs ++ [(A2, c2, us)]).map slv := by rw [hvs.out, List.map_append]; rfl
      have hvl : vs.length = n + 1 := by rw [hv]; simp [hn]
      rw [hv] at ho3
      go_roundw
      case rel =>
        refine ⟨fs ++ [(A2, c2, us)], n + 1, k', A3, c3, by simp [hn], by rw [hvl], by simp, by omega, ?_, ho3, hdj3, hob3.widen z3, hC2.below hb3 (by omega), (kr.trans k2).below hb3 (by omega) (Nat.le_refl _)⟩
        intro e he
        rcases List.mem_append.1 he with he | he
        · exact h9 e he
        · rw [List.mem_singleton] at he
          subst he
          exact hl2
      case measure => simp [intOf]
    · have hk0' : ¬ (0 : Int) < k := by omega
      go_wp2_with fail
      go_ret
      exact ⟨A1, c1, n, fs, rfl, hn, by omega, h9, ⟨ho.cs, ho.inB, hob⟩, kr⟩
def MkPost (w : World) (e : Ending) (w' : World) : Prop :=
  ∃ (s : Nat) (A' : Option Addr) (c' n : Nat) (fs : List Sl), e = .returned (.tuple #[.int .i64 s, .slice A' n c']) ∧ (1 ≤ s ∧ s ≤ 300) ∧ fs.length = n ∧ n ≤ 6 ∧ (∀ e, e ∈ fs → e.2.2.length ≤ 9) ∧ Ls w' A' fs ∧ Below w.heap.size w w'
/-- The loads of a draw, and the number of the first. -/
theorem makeLoads_any (A : Option Addr) (c : Nat) (xs : List UInt8) (w : World) (ha : By w A xs) (h1 : xs.length ≤ 1048576) :
    Calls Try.prog 4 #[.slice A xs.length c] w (MkPost w) := by
  go_enter Try.func4, Try.ntmps4
  go_wp2_with fail
  refine (l01New_any A c xs w ha h1).mono ?_
  rintro e w1 ⟨g, rfl, hg, hC1, hb1⟩
  go_wp2_with fail
  have hne : ∀ ad, A = some ad → xs ≠ [] → ad.block < g := fun ad h h' => by have := by_blk ha ad h h'; omega
  have z1 := hb1.size
  refine (l01Below_big g A c xs 300 w1 (ha.below hb1) h1 hne hC1 (by omega) (by omega)).mono ?_
  rintro e w2 ⟨x, hx, rfl, hC2, hg2⟩
  have k2 := Kp.of_cur hg2 (by have := hC1.lt; omega)
  have z2 := k2.1.size
  have hb2 := hb1.trans (k2.1.mono hg)
  have ex : 1 + (x : Int) = ((x + 1 : Nat) : Int) := by omega
  go_wp2_with fail
  refine (l03Loads_any g A c xs 6 w2 (ha.below hb2) h1 hne hC2 (by omega)).mono ?_
  rintro e w3 ⟨A3, c3, n3, fs, rfl, hn3, hm3, h9, hO, k3⟩
  go_wp2_with fail
  go_ret2
  exact ⟨x + 1, A3, c3, n3, fs, rfl, by omega, hn3, hm3, h9, hO.ls, hb2.trans (k3.1.mono hg)⟩
end Go.Proofs.Ytbaojeiinjjlcaa
