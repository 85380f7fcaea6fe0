/- A file found by its Id: the reference; by its name: the program's way. -/
import Derived.Test.YtfkdifgmhfdbdaaGreatDoorJb
import Derived.Test.YtfkdifgmhfdbdaaGreatDoorPl
namespace Go.Proofs.YtfkdifgmhfdbdaaGreatDoor
open Go.RowKit
set_option linter.unusedVariables false
set_option maxRecDepth 100000

set_option maxHeartbeats 2000000 in
theorem l02At_any (r f n : Int) (FA : Option Addr) (es : List Fl) (c1 : Nat) (KA : Option Addr) (kn c2 : Nat) (TA : Option Addr) (tn c3 : Nat) (id : Int) (w : World) (ha : SlL w FA 3 flL es) (hl : es.length ≤ 1099511627776) :
    Calls Tryz.prog 62 #[dkV r f n FA es.length c1 KA kn c2 TA tn c3, .int .i64 id] w fun e w' => e = .returned (.int .i64 (ixV (fun x : Fl => x.1 == id) es)) ∧ Below w.heap.size w w' := by
  have hb0 : Below w.heap.size w (w.alloc (.cells (dkC r f n FA es.length c1 KA kn c2 TA tn c3) 35)) := by (repeat (first | exact Below.refl _ _ | (refine Below.alloc ?_ (by first | omega | (simp; done) | (simp; omega)) _) | (refine Below.drew ?_) | (refine below_drewN ?_ _) | (refine below_at1 ?_ (by first | omega | (simp; done) | (simp; omega))) | (refine Below.setCell ?_ (by first | omega | (simp; done) | (simp; omega)) _) | (refine Below.trans ?_ (Below.mono (by assumption) (by first | omega | (simp; done) | (simp; omega))))))
  go_enter Tryz.func62, Tryz.ntmps62
  go_wp2_with fail
  go_loopw [10] (fun i wr => ∃ k : Nat, k ≤ es.length ∧ i = .int .i64 k ∧ Hid (∀ j (hj : j < es.length), j < k → (es[j].1 == id) = false) ∧ Below w.heap.size w wr) (fun i _ => es.length - (intOf i).toNat)
  case atStart => exact ⟨0, Nat.zero_le _, rfl, fun j _ h => by omega, hb0⟩
  case round =>
    obtain ⟨k, hk, rfl, hno, hb⟩ := hrel
    have zb := hb.size
    by_cases hlt : k < es.length
    · obtain ⟨b, o, rfl, hbs, x0, x1, x2⟩ := Fl.get (ha.below hb) hlt
      have hlt' : (k : Int) < es.length := by omega
      cases hq : (es[k].1 == id) with
      | true =>
        have HX := Lib.hid (ixV_hit (p := fun x : Fl => x.1 == id) hlt hq hno.out).2
        clear hno
        go_wp2_with fail
        go_ret
        exact ⟨ret_int HX.out.symm, hb.trans (by (repeat (first | exact Below.refl _ _ | (refine Below.alloc ?_ (by first | omega | (simp; done) | (simp; omega)) _) | (refine Below.drew ?_) | (refine below_drewN ?_ _) | (refine below_at1 ?_ (by first | omega | (simp; done) | (simp; omega))) | (refine Below.setCell ?_ (by first | omega | (simp; done) | (simp; omega)) _) | (refine Below.trans ?_ (Below.mono (by assumption) (by first | omega | (simp; done) | (simp; omega)))))))⟩
      | false =>
        have HQ := Lib.hid hq
        go_wp2_with fail
        go_roundw
        case rel => exact ⟨k + 1, by omega, by go_num, fun j hj hjk => by
          rcases Nat.lt_or_ge j k with h | h
          · exact hno.out j hj h
          · obtain rfl : j = k := by omega
            exact HQ.out, hb.trans (by (repeat (first | exact Below.refl _ _ | (refine Below.alloc ?_ (by first | omega | (simp; done) | (simp; omega)) _) | (refine Below.drew ?_) | (refine below_drewN ?_ _) | (refine below_at1 ?_ (by first | omega | (simp; done) | (simp; omega))) | (refine Below.setCell ?_ (by first | omega | (simp; done) | (simp; omega)) _) | (refine Below.trans ?_ (Below.mono (by assumption) (by first | omega | (simp; done) | (simp; omega)))))))⟩
        case measure => simp [intOf]; omega
    · have hlt' : ¬ ((k : Int) < es.length) := by omega
      have HX := Lib.hid (ixV_miss (p := fun x : Fl => x.1 == id) fun j hj => hno.out j hj (by omega)).2
      clear hno
      go_wp2_with fail
      go_ret
      exact ⟨ret_int HX.out.symm, hb⟩
/-- The closure that asks a file's Id: it has captured the directory and the place in it. -/
theorem fileCl_any (B gd gk : Nat) (A : Option Addr) (c : Nat) (dir : List Lk) (k : Nat) (hk : k < dir.length) (w : World) (hB : w.heap.size ≤ B) (hd : w.cell? ⟨gd, 0, none⟩ = some (.slice A dir.length c)) (hkc : w.cell? ⟨gk, 0, none⟩ = some (.int .i64 k)) (ha : Ks w A dir) :
    PredB B w 103 #[.pointer (some ⟨gd, 0, none⟩), .pointer (some ⟨gk, 0, none⟩)] flV fun x => x.1 == dir[k].2 := by
  intro W x hW
  obtain ⟨i, ⟨A2, c2, xs⟩, sf⟩ := x
  have hW' := hW.mono hB
  have hd' := (hW'.cell (World.block_lt_of_cell? w _ hd)).trans hd
  have hk' := (hW'.cell (World.block_lt_of_cell? w _ hkc)).trans hkc
  obtain ⟨b, o, rfl, hbs, x0, x1⟩ := Ks.get (SlL.below ha hW') hk
  have z1 := World.block_lt_of_cell? W _ hd'
  have z2 := World.block_lt_of_cell? W _ hk'
  simp only at z1 z2
  have hne1 : ¬ gd = W.heap.size := by omega
  have hne2 : ¬ gk = W.heap.size := by omega
  have hne3 : ¬ b = W.heap.size := by omega
  have hk0 : (0 : Int) ≤ k := by omega
  have hk1 : (k : Int) < dir.length := by omega
  obtain ⟨d, hdd⟩ : ∃ d, Hid (dir[k].2 = d) := ⟨_, Lib.hid rfl⟩
  rw [hdd.out] at x1 ⊢
  show Calls Tryz.prog _ #[.agg #[.int .i64 i, .slice A2 xs.length c2, .int .i64 sf], .pointer (some ⟨gd, 0, none⟩), .pointer (some ⟨gk, 0, none⟩)] W _
  go_enter Tryz.func103, Tryz.ntmps103
  go_wp2_with fail
  go_quiet (fail)
  go_wp2_with fail
  go_ret
  exact ⟨rfl, below_drewN (by (repeat (first | exact Below.refl _ _ | (refine Below.alloc ?_ (by first | omega | (simp; done) | (simp; omega)) _) | (refine Below.drew ?_) | (refine below_drewN ?_ _) | (refine below_at1 ?_ (by first | omega | (simp; done) | (simp; omega))) | (refine Below.setCell ?_ (by first | omega | (simp; done) | (simp; omega)) _) | (refine Below.trans ?_ (Below.mono (by assumption) (by first | omega | (simp; done) | (simp; omega))))))) _⟩
/-- The place of the file that a name links, in a directory; -1 where there is none. -/
def fileV (dir : List Lk) (es : List Fl) (nm : ByteArray) : Int := match dir[dir.findIdx fun x => eqN x.1 nm]? with
  | some y => ixV (fun x : Fl => x.1 == y.2) es
  | none => -1
theorem fileV_hit {dir : List Lk} {es : List Fl} {nm : ByteArray} {k : Nat} (hk : k < dir.length) (h : ixV (fun x : Lk => eqN x.1 nm) dir = k) : fileV dir es nm = ixV (fun x : Fl => x.1 == dir[k].2) es := by
  unfold ixV at h
  split at h
  · rename_i h2
    have : dir.findIdx (fun x : Lk => eqN x.1 nm) = k := by omega
    rw [fileV, this, List.getElem?_eq_getElem hk]
  · omega
theorem fileV_miss {dir : List Lk} {es : List Fl} {nm : ByteArray} (h : ixV (fun x : Lk => eqN x.1 nm) dir < 0) : fileV dir es nm = -1 := by
  unfold ixV at h
  split at h
  · omega
  · rename_i h2
    rw [fileV, List.getElem?_eq_none (by omega)]
theorem ixV_cases {T : Type} (p : T → Bool) (xs : List T) : (ixV p xs = -1) ∨ ∃ k : Nat, ∃ hk : k < xs.length, ixV p xs = (k : Int) := by
  unfold ixV
  split
  · rename_i h; exact .inr ⟨_, h, rfl⟩
  · exact .inl rfl
set_option maxHeartbeats 4000000 in
theorem file_any (r f n : Int) (FA : Option Addr) (es : List Fl) (c1 : Nat) (KA : Option Addr) (ks : List Lk) (c2 : Nat) (TA : Option Addr) (ts : List Tn) (c3 : Nat) (nm : ByteArray) (w : World) (hr0 : Dr w FA es KA ks TA ts) (hel : es.length ≤ 1048576) (hkl : ks.length ≤ 100) (htl : ts.length ≤ 100) (hs : Srt ks) (hr : runI ks ts = true) :
    Calls Tryz.prog 66 #[dkV r f n FA es.length c1 KA ks.length c2 TA ts.length c3, .string nm] w fun e w' => e = .returned (.int .i64 (fileV (dirS ks ts) es nm)) ∧ Below w.heap.size w w' := by
  have hb0 : Below w.heap.size w (w.alloc (.cells (dkC r f n FA es.length c1 KA ks.length c2 TA ts.length c3) 35)) := by (repeat (first | exact Below.refl _ _ | (refine Below.alloc ?_ (by first | omega | (simp; done) | (simp; omega)) _) | (refine Below.drew ?_) | (refine below_drewN ?_ _) | (refine below_at1 ?_ (by first | omega | (simp; done) | (simp; omega))) | (refine Below.setCell ?_ (by first | omega | (simp; done) | (simp; omega)) _) | (refine Below.trans ?_ (Below.mono (by assumption) (by first | omega | (simp; done) | (simp; omega))))))
  have hlen := dirS_len ks ts
  have HS := Lib.hid hs
  have HR := Lib.hid hr
  obtain ⟨dir, hdir⟩ : ∃ dir, Hid (dirS ks ts = dir) := ⟨_, Lib.hid rfl⟩
  have cD := fun W (hW : Below w.heap.size w W) => dkDir_any r f n FA es.length c1 KA ks c2 TA ts c3 W (SlL.below hr0.2.1 hW) (SlL.below hr0.2.2 hW) hkl htl HS.out HR.out
  rw [hdir.out] at hlen cD ⊢
  clear hs hr
  go_enter Tryz.func66, Tryz.ntmps66
  go_wp2_with (go_at_call 78; refine (cD _ hb0).mono ?_; rintro e w1 ⟨A1, d1, rfl, ho1, hb1⟩)
  have t1 := hb0.trans (hb1.mono hb0.size)
  have tb : Below w1.heap.size w1 (w1.alloc (.cells #[.slice A1 dir.length d1] 32)) := (Below.refl _ _).alloc (Nat.le_refl _) _
  have B1 := (hb1.block w.heap.size (by simp)).trans (heap_alloc_new w (.cells (dkC r f n FA es.length c1 KA ks.length c2 TA ts.length c3) 35))
  have hB1 : (w1.alloc (.cells #[.slice A1 dir.length d1] 32)).heap[w1.heap.size]? = some (.cells #[.slice A1 dir.length d1] 32 (0, 0)) := heap_alloc_new _ _
  have B2 := (tb.block w.heap.size (by have := hb1.size; simp at this; omega)).trans B1
  have ks1 := SlL.below (ho1.sl lk2) tb
  obtain ⟨k, hk⟩ : ∃ k, Hid (ixV (fun x : Lk => eqN x.1 nm) dir = k) := ⟨_, Lib.hid rfl⟩
  have cL := linkOf_any A1 d1 dir nm _ ks1 (by omega)
  rw [hk.out] at cL
  have hk2 := ixV_cases (fun x : Lk => eqN x.1 nm) dir
  rw [hk.out] at hk2
  go_wp2_with fail
  refine cL.mono ?_
  rintro e w2 ⟨rfl, hb2⟩
  have B3 := (hb2.block w.heap.size (by have := hb1.size; simp at this; simp; omega)).trans B2
  have hB2 := (hb2.block w1.heap.size (by simp)).trans hB1
  have z1 := hb1.size
  have z2 := hb2.size
  simp at z1 z2
  have t2 : Below w.heap.size w w2 := t1.trans ((tb.trans (hb2.mono tb.size)).mono t1.size)
  have ks2 := SlL.below ks1 hb2
  clear cL ks1 B1 B2 hB1 tb
  rcases hk2 with rfl | ⟨j, hj, rfl⟩
  · have HF := Lib.hid (fileV_miss (es := es) (nm := nm) (dir := dir) (by rw [hk.out]; omega))
    go_wp2_with fail
    go_ret
    rw [HF.out]
    exact ⟨rfl, (by (repeat (first | exact Below.refl _ _ | (refine Below.alloc ?_ (by first | omega | (simp; done) | (simp; omega)) _) | (refine Below.drew ?_) | (refine below_drewN ?_ _) | (refine below_at1 ?_ (by first | omega | (simp; done) | (simp; omega))) | (refine Below.setCell ?_ (by first | omega | (simp; done) | (simp; omega)) _) | (refine Below.trans ?_ (Below.mono (by assumption) (by first | omega | (simp; done) | (simp; omega)))))))⟩
  · have HF := Lib.hid (fileV_hit (es := es) hj hk.out)
    have q3 : w2.cell? ⟨w.heap.size, 3, none⟩ = some (.slice FA es.length c1) := cell_of_row w2 _ 3 _ _ (0, 0) B3
    have hne : ¬ w.heap.size = w2.heap.size := by omega
    have t3 : Below w2.heap.size w2 (w2.alloc (.cells #[.int .i64 j] 3)) := (Below.refl _ _).alloc (Nat.le_refl _) _
    have hB3 := (t3.block w1.heap.size (by omega)).trans hB2
    have hG3 : (w2.alloc (.cells #[.int .i64 j] 3)).heap[w2.heap.size]? = some (.cells #[.int .i64 j] 3 (0, 0)) := heap_alloc_new _ _
    have hp := fileCl_any (w2.alloc (.cells #[.int .i64 j] 3)).heap.size w1.heap.size w2.heap.size A1 d1 dir j hj (w2.alloc (.cells #[.int .i64 j] 3)) (Nat.le_refl _) (cell_of_row _ _ 0 _ _ (0, 0) hB3) (cell_of_row _ _ 0 _ _ (0, 0) hG3) (SlL.below ks2 t3)
    have cF := ixFile_any 103 _ (enters_of Tryz.func103 (by kernel_rfl) rfl) _ FA c1 es _ (hr0.1.below (t2.trans (t3.mono t2.size))).1 (by omega) hp
    rw [← HF.out] at cF
    have q3' := (t3.cell (World.block_lt_of_cell? w2 _ q3)).trans q3
    clear hp hB3 hG3 hB2
    go_wp2_with fail
    refine cF.mono ?_
    rintro e w3 ⟨rfl, hb3⟩
    go_wp2_with fail
    go_ret
    exact ⟨rfl, t2.trans ((t3.trans (hb3.mono t3.size)).mono t2.size)⟩
end Go.Proofs.YtfkdifgmhfdbdaaGreatDoor
