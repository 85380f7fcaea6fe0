/- The numbers of a draw, one for one. -/
import Derived.Test.YtbaojeiinjjlcaaC2
import Derived.RegionTactic
namespace Go.Proofs.Ytbaojeiinjjlcaa
open Go.RowKit Go.Lib
set_option linter.unusedVariables false
set_option maxRecDepth 100000

/-- The cursor lies at g, over n bytes at A, k of them read, its state h. -/
def CurD (w : World) (g : Nat) (A : Option Addr) (n c k : Nat) (h : Int) : Prop := w.heap[g]? = some (.cells #[.slice A n c, .int .i64 k, .int .i64 h] 42 (0, 0))
def hStep (z : Int) (y : UInt8) : Int := bits .and .i64 (wrap64 (wrap64 (wrap64 (z * 139) + (y.toNat : Int)) + 7)) 1073741823
def hN (xs : List UInt8) : Nat → Int
  | 0 => 612857 + (xs.length : Int)
  | k + 1 => hStep (hN xs k) (xs.getD k 0)
/-- The cursor's first state. -/
def h0 (xs : List UInt8) : Int := hN xs (min xs.length 4000)
def hUp (h : Int) : Int := wrap64 (wrap64 (h * 6364136223846793005) + 1442695040888963407)
def hX (h : Int) : Int := bits .and .i64 (bits .xor .i64 (hUp h / 8589934592) (hUp h / 35184372088832)) 255
def nextK (n k : Nat) : Nat := if k < n then k + 1 else k
def byteV (xs : List UInt8) (k : Nat) (h : Int) : Int := if k < xs.length then bits .and .i64 (wrap64 (hX h + ((xs.getD k 0).toNat : Int))) 255 else hX h
/-- The next byte. -/
def byteN (xs : List UInt8) (k : Nat) (h : Int) : Nat := (byteV xs k h).toNat
theorem byteV_nat (xs : List UInt8) (k : Nat) (h : Int) : ∃ x : Nat, x < 256 ∧ byteV xs k h = (x : Int) := by
  unfold byteV
  split
  · exact and255 _
  · exact and255 _
theorem byteN_val {xs : List UInt8} {k : Nat} {h : Int} : (byteN xs k h : Int) = byteV xs k h := by
  obtain ⟨x, _, hx⟩ := byteV_nat xs k h
  rw [byteN, hx]
  rfl
theorem byteN_lt (xs : List UInt8) (k : Nat) (h : Int) : byteN xs k h < 256 := by
  obtain ⟨x, h1, hx⟩ := byteV_nat xs k h
  rw [byteN, hx]
  exact h1
set_option maxHeartbeats 1000000 in
theorem l01Byte_det (g : Nat) (A : Option Addr) (c : Nat) (xs : List UInt8) (w : World) (ha : By w A xs) (h1 : xs.length ≤ 1048576) (hne : ∀ ad, A = some ad → xs ≠ [] → ad.block < g) (k : Nat) (h : Int) (hk : k ≤ xs.length) (hG : CurD w g A xs.length c k h) :
    Calls Try.prog 16 #[.pointer (some ⟨g, 0, none⟩)] w fun e w' => e = .returned (.int .i64 (byteN xs k h)) ∧ CurD w' g A xs.length c (nextK xs.length k) (hUp h) ∧ w.grownBy w' (some g) := by
  unfold CurD at hG
  have qg : ∀ i, w.cell? ⟨g, i, none⟩ = _ := fun i => cell_of_row w _ i _ _ (0, 0) hG
  have rg : ∀ i, w.frozen? ⟨g, i, none⟩ = false := fun i => by simp [World.frozen?, hG]
  have hgl := (Array.getElem?_eq_some_iff.1 hG).1
  by_cases hlt : k < xs.length
  · obtain ⟨b, o, rfl, hbs⟩ := ha.pos (by omega)
    have hbg : ¬ b = g := by
      have := hne _ rfl (by intro e; rw [e] at hlt; simp at hlt)
      dsimp only at this
      omega
    have hcb : w.cell? ⟨b, o + k, none⟩ = some (.int .u8 ((xs[k]'hlt).toNat : Int)) := hbs k _ (List.getElem?_eq_getElem hlt)
    have hlt' : (k : Int) < xs.length := by omega
    have ek : IntKind.i64.wrap (k : Int) = (k : Int) := by rw [IntKind.wrap_i64]; omega
    obtain ⟨y, hy⟩ : ∃ y, y = xs[k] := ⟨_, rfl⟩
    rw [← hy] at hcb
    have hy2 := u8_lt y
    have HB : Hid ((byteN xs k h : Int) = bits .and .i64 (wrap64 (hX h + (y.toNat : Int))) 255) := by
      show _ = _
      rw [byteN_val, byteV, if_pos hlt, List.getD_eq_getElem?_getD, List.getElem?_eq_getElem hlt, hy]
      rfl
    clear hy ha hbs
    rw [nextK, if_pos hlt]
    generalize byteN xs k h = X at HB ⊢
    go_enter Try.func16, Try.ntmps16
    go_wp2_with fail
    go_region
    go_wp2_with fail
    go_region
    go_wp2_with fail
    go_region
    go_wp2_with fail
    go_ret
    exact ⟨congrArg (fun z => Ending.returned (Value.int .i64 z)) HB.out.symm, heap_setCell_same _ (heap_setCell_same _ hG), grown_dr (grown_dr (grown_dr (grown_set (grown_set (World.grownBy.refl w _) _) _)))⟩
  · have hlt' : ¬ (k : Int) < xs.length := by omega
    have HB : Hid ((byteN xs k h : Int) = hX h) := by
      show _ = _
      rw [byteN_val, byteV, if_neg hlt]
    rw [nextK, if_neg hlt]
    generalize byteN xs k h = X at HB ⊢
    go_enter Try.func16, Try.ntmps16
    go_wp2_with fail
    go_region
    go_wp2_with fail
    go_region
    go_wp2_with fail
    go_ret
    exact ⟨congrArg (fun z => Ending.returned (Value.int .i64 z)) HB.out.symm, heap_setCell_same _ hG, grown_dr (grown_dr (grown_set (World.grownBy.refl w _) _))⟩
set_option maxHeartbeats 1000000 in
theorem l01New_det (A : Option Addr) (c : Nat) (xs : List UInt8) (w : World) (ha : By w A xs) (h1 : xs.length ≤ 1048576) :
    Calls Try.prog 9 #[.slice A xs.length c] w fun e w' => ∃ g, e = .returned (.pointer (some ⟨g, 0, none⟩)) ∧ w.heap.size ≤ g ∧ w'.heap[g]? = some (.cells #[.slice A xs.length c, .int .i64 0, .int .i64 (h0 xs)] 42 (0, 0)) ∧ Below w.heap.size w w' := by
  obtain ⟨H, hH⟩ : ∃ H, H = h0 xs := ⟨_, rfl⟩
  rw [← hH]
  have HH := Lib.hid hH
  clear hH
  go_enter Try.func9, Try.ntmps9
  go_wp2_with fail
  go_loopw [3, 4] (fun hh i wr => ∃ (z : Int) (k : Nat), hh = .int .i64 z ∧ i = .int .i64 k ∧ (k ≤ xs.length ∧ k ≤ 4000) ∧ Hid (z = hN xs k) ∧ (-9223372036854775808 ≤ z ∧ z ≤ 9223372036854775807) ∧ (∃ m, wr = w.drewN m)) (fun _ i _ => xs.length - (intOf i).toNat)
  case atStart => exact ⟨_, 0, rfl, rfl, ⟨Nat.zero_le _, Nat.zero_le _⟩, rfl, by omega, ⟨0, rfl⟩⟩
  case round =>
    obtain ⟨z, k, rfl, rfl, ⟨hk, hk4⟩, hZ, hz, m, rfl⟩ := hrel
    by_cases hlt : k < xs.length
    · by_cases hlt2 : k < 4000
      · obtain ⟨b, o, rfl, hbs⟩ := ha.pos (by omega)
        have hcb : (w.drewN m).cell? ⟨b, o + k, none⟩ = some (.int .u8 ((xs[k]'hlt).toNat : Int)) := hbs k _ (List.getElem?_eq_getElem hlt)
        have hlt' : (k : Int) < xs.length := by omega
        have hlt2' : (k : Int) < 4000 := by omega
        obtain ⟨y, hy⟩ : ∃ y, y = xs[k] := ⟨_, rfl⟩
        rw [← hy] at hcb
        have hy2 := u8_lt y
        have HY : Hid (hStep z y = hN xs (k + 1)) := by show _ = _; rw [hN, ← hZ.out, hy, List.getD_eq_getElem?_getD, List.getElem?_eq_getElem hlt]; rfl
        clear hy ha hbs
        go_wp2_with fail
        refine ⟨⟨_, k + 1, rfl, by go_num, ⟨by omega, by omega⟩, HY, bits_bd _ _ _, ⟨m, rfl⟩⟩, ?_⟩
        simp [intOf]
        omega
      · have hlt' : (k : Int) < xs.length := by omega
        have hlt2' : ¬ (k : Int) < 4000 := by omega
        have HK : Hid (z = h0 xs) := by show _ = _; rw [hZ.out, h0, Nat.min_def]; congr 1; split <;> omega
        obtain rfl := (HH.out.trans HK.out.symm)
        go_wp2_with fail
        go_ret
        exact ⟨w.heap.size, rfl, Nat.le_refl _, heap_alloc_new (w.drewN m) _, (by (repeat (first | exact Below.refl _ _ | (refine Below.alloc ?_ (by first | omega | (simp; done) | (simp; omega)) _) | (refine Below.drew ?_) | (refine below_drewN ?_ _) | (refine below_at1 ?_ (by first | omega | (simp; done) | (simp; omega))) | (refine Below.setCell ?_ (by first | omega | (simp; done) | (simp; omega)) _) | (refine Below.trans ?_ (Below.mono (by assumption) (by first | omega | (simp; done) | (simp; omega)))))))⟩
    · have hlt' : ¬ (k : Int) < xs.length := by omega
      have HK : Hid (z = h0 xs) := by show _ = _; rw [hZ.out, h0, Nat.min_def, if_pos (by omega)]; congr 1; omega
      obtain rfl := (HH.out.trans HK.out.symm)
      go_wp2_with fail
      go_ret
      exact ⟨w.heap.size, rfl, Nat.le_refl _, heap_alloc_new (w.drewN m) _, (by (repeat (first | exact Below.refl _ _ | (refine Below.alloc ?_ (by first | omega | (simp; done) | (simp; omega)) _) | (refine Below.drew ?_) | (refine below_drewN ?_ _) | (refine below_at1 ?_ (by first | omega | (simp; done) | (simp; omega))) | (refine Below.setCell ?_ (by first | omega | (simp; done) | (simp; omega)) _) | (refine Below.trans ?_ (Below.mono (by assumption) (by first | omega | (simp; done) | (simp; omega)))))))⟩
/-- The number of a draw, below n. -/
def numN (xs : List UInt8) (n : Nat) : Nat := byteN xs 0 (wrap64 (h0 xs + 777)) % n
theorem numN_lt (xs : List UInt8) {n : Nat} (h : 1 ≤ n) : numN xs n < n := Nat.mod_lt _ (by omega)
theorem l01Below_det (g : Nat) (A : Option Addr) (c : Nat) (xs : List UInt8) (n : Nat) (w : World) (ha : By w A xs) (h1 : xs.length ≤ 1048576) (hne : ∀ ad, A = some ad → xs ≠ [] → ad.block < g) (k : Nat) (h : Int) (hk : k ≤ xs.length) (hG : CurD w g A xs.length c k h) (hn0 : 1 ≤ n) (hn : n ≤ 256) :
    Calls Try.prog 10 #[.pointer (some ⟨g, 0, none⟩), .int .i64 n] w fun e w' => e = .returned (.int .i64 (byteN xs k h % n : Nat)) ∧ CurD w' g A xs.length c (nextK xs.length k) (hUp h) ∧ w.grownBy w' (some g) := by
  have hn0' : ¬ (n : Int) ≤ 0 := by omega
  have hn' : (n : Int) ≤ 256 := by omega
  have hnz : ¬ (n : Int) = 0 := by omega
  have hx := byteN_lt xs k h
  have hB := l01Byte_det g A c xs w ha h1 hne k h hk hG
  generalize byteN xs k h = x at hx hB ⊢
  obtain ⟨r, hr⟩ : ∃ r, r = x % n := ⟨_, rfl⟩
  rw [← hr]
  have em : Int.tmod (x : Int) (n : Int) = (r : Int) := by rw [hr]; exact (Int.ofNat_tmod _ _).symm
  have em2 : (x : Int) % (n : Int) = (r : Int) := by rw [hr]; simp
  have hrn : r < n := by rw [hr]; exact Nat.mod_lt _ (by omega)
  clear hr
  have HB := Lib.hid hB
  clear hB
  go_enter Try.func10, Try.ntmps10
  go_wp2_with fail
  refine HB.out.mono ?_
  rintro e w1 ⟨rfl, hC1, hg1⟩
  go_wp2_with fail
  go_ret
  exact ⟨rfl, hC1, hg1⟩
set_option maxHeartbeats 1000000 in
/-- A number of a draw, below n: the same for the same bytes. -/
theorem makeNum_det (A : Option Addr) (c : Nat) (xs : List UInt8) (n : Nat) (w : World) (ha : By w A xs) (h1 : xs.length ≤ 1048576) (hn0 : 1 ≤ n) (hn : n ≤ 256) :
    Calls Try.prog 7 #[.slice A xs.length c, .int .i64 n] w fun e w' => e = .returned (.int .i64 (numN xs n)) ∧ Below w.heap.size w w' := by
  unfold numN
  have hN := l01New_det A c xs w ha h1
  generalize h0 xs = h at hN ⊢
  obtain ⟨r, hr⟩ : ∃ r, r = byteN xs 0 (wrap64 (h + 777)) % n := ⟨_, rfl⟩
  rw [← hr]
  have HR := Lib.hid hr
  have HN := Lib.hid hN
  clear hr hN
  go_enter Try.func7, Try.ntmps7
  go_wp2_with fail
  refine HN.out.mono ?_
  rintro e w1 ⟨g, rfl, hg, hG, hb1⟩
  have qg : ∀ i, w1.cell? ⟨g, i, none⟩ = _ := fun i => cell_of_row w1 _ i _ _ (0, 0) hG
  have rg : ∀ i, w1.frozen? ⟨g, i, none⟩ = false := fun i => by simp [World.frozen?, hG]
  have hgl := (Array.getElem?_eq_some_iff.1 hG).1
  have z1 := hb1.size
  go_wp2_with fail
  have hb2 := hb1.setCell (p := ⟨g, 2, none⟩) hg (.int .i64 (wrap64 (h + 777)))
  refine (l01Below_det g A c xs n _ (ha.below hb2) h1 (fun ad h h' => by have := by_blk ha ad h h'; omega) 0 (wrap64 (h + 777)) (Nat.zero_le _) (heap_setCell_same _ hG) hn0 hn).mono ?_
  rintro e w3 ⟨rfl, hC3, hg3⟩
  rw [← HR.out]
  go_wp2_with fail
  go_ret
  exact ⟨rfl, hb2.trans (below_of_grown hg3 hb2.size (fun k hk => by injection hk with hk; omega))⟩
end Go.Proofs.Ytbaojeiinjjlcaa
