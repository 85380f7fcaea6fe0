/- A file found by its Id: the reference; by its name: the program's way. What a file's name reads: plain. DiskRead: both ways. -/
import Derived.Test.YtpaeffmjkkikbaaGreatDoorJc
import Derived.Test.YtpaeffmjkkikbaaGreatDoorPl
namespace Go.Proofs.YtpaeffmjkkikbaaGreatDoor
open Go.RowKit

set_option linter.unusedVariables false
set_option maxRecDepth 100000

set_option maxHeartbeats 2000000 in
theorem l02At_any (r f n : Int) (FA : Option Addr) (es : List Fl) (c1 : Nat) (KA : Option Addr) (kn c2 : Nat) (TA : Option Addr) (tn c3 : Nat) (id : Int) (w : World) (ha : SlL w FA 3 flL es) (hl : es.length ≤ 1099511627776) :
    Calls Tryz.prog 52 #[dkV r f n FA es.length c1 KA kn c2 TA tn c3, .int .i64 id] w fun e w' => e = .returned (.int .i64 (ixV (fun x : Fl => x.1 == id) es)) ∧ Below w.heap.size w w' := by
  have hb0 : Below w.heap.size w (w.alloc (.cells (dkC r f n FA es.length c1 KA kn c2 TA tn c3) 35)) := by (repeat (first | exact Below.refl _ _ | (refine Below.alloc ?_ (by first | omega | (simp; done) | (simp; omega)) _) | (refine Below.drew ?_) | (refine below_drewN ?_ _) | (refine below_at1 ?_ (by first | omega | (simp; done) | (simp; omega))) | (refine Below.setCell ?_ (by first | omega | (simp; done) | (simp; omega)) _) | (refine Below.trans ?_ (Below.mono (by assumption) (by first | omega | (simp; done) | (simp; omega))))))
  go_enter Tryz.func52, Tryz.ntmps52
  go_wp2_with fail
  go_loopw [10] (fun i wr => ∃ k : Nat, k ≤ es.length ∧ i = .int .i64 k ∧ Hid (∀ j (hj : j < es.length), j < k → (es[j].1 == id) = false) ∧ Below w.heap.size w wr) (fun i _ => es.length - (intOf i).toNat)
  case atStart => exact ⟨0, Nat.zero_le _, rfl, fun j _ h => by omega, hb0⟩
  case round =>
    obtain ⟨k, hk, rfl, hno, hb⟩ := hrel
    have zb := hb.size
    by_cases hlt : k < es.length
    · obtain ⟨b, o, rfl, hbs, x0, x1, x2⟩ := Fl.get (ha.below hb) hlt
      have hlt' : (k : Int) < es.length := by omega
      cases hq : (es[k].1 == id) with
      | true =>
        have HX := Lib.hid (ixV_hit (p := fun x : Fl => x.1 == id) hlt hq hno.out).2
        clear hno
        go_wp2_with fail
        go_ret
        exact ⟨ret_int HX.out.symm, hb.trans (by (repeat (first | exact Below.refl _ _ | (refine Below.alloc ?_ (by first | omega | (simp; done) | (simp; omega)) _) | (refine Below.drew ?_) | (refine below_drewN ?_ _) | (refine below_at1 ?_ (by first | omega | (simp; done) | (simp; omega))) | (refine Below.setCell ?_ (by first | omega | (simp; done) | (simp; omega)) _) | (refine Below.trans ?_ (Below.mono (by assumption) (by first | omega | (simp; done) | (simp; omega)))))))⟩
      | false =>
        have HQ := Lib.hid hq
        go_wp2_with fail
        go_roundw
        case rel => exact ⟨k + 1, by omega, by go_num, fun j hj hjk => by
          rcases Nat.lt_or_ge j k with h | h
          · exact hno.out j hj h
          · obtain rfl : j = k := by omega
            exact HQ.out, hb.trans (by (repeat (first | exact Below.refl _ _ | (refine Below.alloc ?_ (by first | omega | (simp; done) | (simp; omega)) _) | (refine Below.drew ?_) | (refine below_drewN ?_ _) | (refine below_at1 ?_ (by first | omega | (simp; done) | (simp; omega))) | (refine Below.setCell ?_ (by first | omega | (simp; done) | (simp; omega)) _) | (refine Below.trans ?_ (Below.mono (by assumption) (by first | omega | (simp; done) | (simp; omega)))))))⟩
        case measure => simp [intOf]; omega
    · have hlt' : ¬ ((k : Int) < es.length) := by omega
      have HX := Lib.hid (ixV_miss (p := fun x : Fl => x.1 == id) fun j hj => hno.out j hj (by omega)).2
      clear hno
      go_wp2_with fail
      go_ret
      exact ⟨ret_int HX.out.symm, hb⟩
/-- The closure that asks a file's Id: it has captured the directory and the place in it. -/
theorem fileCl_any (B gd gk : Nat) (A : Option Addr) (c : Nat) (dir : List Lk) (k : Nat) (hk : k < dir.length) (w : World) (hB : w.heap.size ≤ B) (hd : w.cell? ⟨gd, 0, none⟩ = some (.slice A dir.length c)) (hkc : w.cell? ⟨gk, 0, none⟩ = some (.int .i64 k)) (ha : Ks w A dir) :
    PredB B w 97 #[.pointer (some ⟨gd, 0, none⟩), .pointer (some ⟨gk, 0, none⟩)] flV fun x => x.1 == dir[k].2 := by
  intro W x hW
  obtain ⟨i, ⟨A2, c2, xs⟩, sf⟩ := x
  have hW' := hW.mono hB
  have hd' := (hW'.cell (World.block_lt_of_cell? w _ hd)).trans hd
  have hk' := (hW'.cell (World.block_lt_of_cell? w _ hkc)).trans hkc
  obtain ⟨b, o, rfl, hbs, x0, x1⟩ := Ks.get (SlL.below ha hW') hk
  have z1 := World.block_lt_of_cell? W _ hd'
  have z2 := World.block_lt_of_cell? W _ hk'
  simp only at z1 z2
  have hne1 : ¬ gd = W.heap.size := by omega
  have hne2 : ¬ gk = W.heap.size := by omega
  have hne3 : ¬ b = W.heap.size := by omega
  have hk0 : (0 : Int) ≤ k := by omega
  have hk1 : (k : Int) < dir.length := by omega
  obtain ⟨d, hdd⟩ : ∃ d, Hid (dir[k].2 = d) := ⟨_, Lib.hid rfl⟩
  rw [hdd.out] at x1 ⊢
  show Calls Tryz.prog _ #[.agg #[.int .i64 i, .slice A2 xs.length c2, .int .i64 sf], .pointer (some ⟨gd, 0, none⟩), .pointer (some ⟨gk, 0, none⟩)] W _
  go_enter Tryz.func97, Tryz.ntmps97
  go_wp2_with fail
  go_quiet (fail)
  go_wp2_with fail
  go_ret
  exact ⟨rfl, below_drewN (by (repeat (first | exact Below.refl _ _ | (refine Below.alloc ?_ (by first | omega | (simp; done) | (simp; omega)) _) | (refine Below.drew ?_) | (refine below_drewN ?_ _) | (refine below_at1 ?_ (by first | omega | (simp; done) | (simp; omega))) | (refine Below.setCell ?_ (by first | omega | (simp; done) | (simp; omega)) _) | (refine Below.trans ?_ (Below.mono (by assumption) (by first | omega | (simp; done) | (simp; omega))))))) _⟩
/-- The place of the file that a name links, in a directory; -1 where there is none. -/
def fileV (dir : List Lk) (es : List Fl) (nm : ByteArray) : Int := match dir[dir.findIdx fun x => eqN x.1 nm]? with
  | some y => ixV (fun x : Fl => x.1 == y.2) es
  | none => -1
theorem fileV_hit {dir : List Lk} {es : List Fl} {nm : ByteArray} {k : Nat} (hk : k < dir.length) (h : ixV (fun x : Lk => eqN x.1 nm) dir = k) : fileV dir es nm = ixV (fun x : Fl => x.1 == dir[k].2) es := by
  unfold ixV at h
  split at h
  · rename_i h2
    have : dir.findIdx (fun x : Lk => eqN x.1 nm) = k := by omega
    rw [fileV, this, List.getElem?_eq_getElem hk]
  · omega
theorem fileV_miss {dir : List Lk} {es : List Fl} {nm : ByteArray} (h : ixV (fun x : Lk => eqN x.1 nm) dir < 0) : fileV dir es nm = -1 := by
  unfold ixV at h
  split at h
  · omega
  · rename_i h2
    rw [fileV, List.getElem?_eq_none (by omega)]
theorem ixV_cases {T : Type} (p : T → Bool) (xs : List T) : (ixV p xs = -1) ∨ ∃ k : Nat, ∃ hk : k < xs.length, ixV p xs = (k : Int) := by
  unfold ixV
  split
  · rename_i h; exact .inr ⟨_, h, rfl⟩
  · exact .inl rfl
set_option maxHeartbeats 4000000 in
theorem file_any (r f n : Int) (FA : Option Addr) (es : List Fl) (c1 : Nat) (KA : Option Addr) (ks : List Lk) (c2 : Nat) (TA : Option Addr) (ts : List Tn) (c3 : Nat) (nm : ByteArray) (w : World) (hr0 : Dr w FA es KA ks TA ts) (hel : es.length ≤ 1048576) (hkl : ks.length ≤ 100) (htl : ts.length ≤ 100) (hs : Srt ks) (hr : runI ks ts = true) :
    Calls Tryz.prog 64 #[dkV r f n FA es.length c1 KA ks.length c2 TA ts.length c3, .string nm] w fun e w' => e = .returned (.int .i64 (fileV (dirS ks ts) es nm)) ∧ Below w.heap.size w w' := by
  have hb0 : Below w.heap.size w (w.alloc (.cells (dkC r f n FA es.length c1 KA ks.length c2 TA ts.length c3) 35)) := by (repeat (first | exact Below.refl _ _ | (refine Below.alloc ?_ (by first | omega | (simp; done) | (simp; omega)) _) | (refine Below.drew ?_) | (refine below_drewN ?_ _) | (refine below_at1 ?_ (by first | omega | (simp; done) | (simp; omega))) | (refine Below.setCell ?_ (by first | omega | (simp; done) | (simp; omega)) _) | (refine Below.trans ?_ (Below.mono (by assumption) (by first | omega | (simp; done) | (simp; omega))))))
  have hlen := dirS_len ks ts
  have HS := Lib.hid hs
  have HR := Lib.hid hr
  obtain ⟨dir, hdir⟩ : ∃ dir, Hid (dirS ks ts = dir) := ⟨_, Lib.hid rfl⟩
  have cD := fun W (hW : Below w.heap.size w W) => dkDir_any r f n FA es.length c1 KA ks c2 TA ts c3 W (SlL.below hr0.2.1 hW) (SlL.below hr0.2.2 hW) hkl htl HS.out HR.out
  rw [hdir.out] at hlen cD ⊢
  clear hs hr
  go_enter Tryz.func64, Tryz.ntmps64
  go_wp2_with (go_at_call 59; refine (cD _ hb0).mono ?_; rintro e w1 ⟨A1, d1, rfl, ho1, hb1⟩)
  have t1 := hb0.trans (hb1.mono hb0.size)
  have tb : Below w1.heap.size w1 (w1.alloc (.cells #[.slice A1 dir.length d1] 32)) := (Below.refl _ _).alloc (Nat.le_refl _) _
  have B1 := (hb1.block w.heap.size (by simp)).trans (heap_alloc_new w (.cells (dkC r f n FA es.length c1 KA ks.length c2 TA ts.length c3) 35))
  have hB1 : (w1.alloc (.cells #[.slice A1 dir.length d1] 32)).heap[w1.heap.size]? = some (.cells #[.slice A1 dir.length d1] 32 (0, 0)) := heap_alloc_new _ _
  have B2 := (tb.block w.heap.size (by have := hb1.size; simp at this; omega)).trans B1
  have ks1 := SlL.below (ho1.sl lk2) tb
  obtain ⟨k, hk⟩ : ∃ k, Hid (ixV (fun x : Lk => eqN x.1 nm) dir = k) := ⟨_, Lib.hid rfl⟩
  have cL := linkOf_any A1 d1 dir nm _ ks1 (by omega)
  rw [hk.out] at cL
  have hk2 := ixV_cases (fun x : Lk => eqN x.1 nm) dir
  rw [hk.out] at hk2
  go_wp2_with fail
  refine cL.mono ?_
  rintro e w2 ⟨rfl, hb2⟩
  have B3 := (hb2.block w.heap.size (by have := hb1.size; simp at this; simp; omega)).trans B2
  have hB2 := (hb2.block w1.heap.size (by simp)).trans hB1
  have z1 := hb1.size
  have z2 := hb2.size
  simp at z1 z2
  have t2 : Below w.heap.size w w2 := t1.trans ((tb.trans (hb2.mono tb.size)).mono t1.size)
  have ks2 := SlL.below ks1 hb2
  clear cL ks1 B1 B2 hB1 tb
  rcases hk2 with rfl | ⟨j, hj, rfl⟩
  · have HF := Lib.hid (fileV_miss (es := es) (nm := nm) (dir := dir) (by rw [hk.out]; omega))
    go_wp2_with fail
    go_ret
    rw [HF.out]
    exact ⟨rfl, (by (repeat (first | exact Below.refl _ _ | (refine Below.alloc ?_ (by first | omega | (simp; done) | (simp; omega)) _) | (refine Below.drew ?_) | (refine below_drewN ?_ _) | (refine below_at1 ?_ (by first | omega | (simp; done) | (simp; omega))) | (refine Below.setCell ?_ (by first | omega | (simp; done) | (simp; omega)) _) | (refine Below.trans ?_ (Below.mono (by assumption) (by first | omega | (simp; done) | (simp; omega)))))))⟩
  · have HF := Lib.hid (fileV_hit (es := es) hj hk.out)
    have q3 : w2.cell? ⟨w.heap.size, 3, none⟩ = some (.slice FA es.length c1) := cell_of_row w2 _ 3 _ _ (0, 0) B3
    have hne : ¬ w.heap.size = w2.heap.size := by omega
    have t3 : Below w2.heap.size w2 (w2.alloc (.cells #[.int .i64 j] 3)) := (Below.refl _ _).alloc (Nat.le_refl _) _
    have hB3 := (t3.block w1.heap.size (by omega)).trans hB2
    have hG3 : (w2.alloc (.cells #[.int .i64 j] 3)).heap[w2.heap.size]? = some (.cells #[.int .i64 j] 3 (0, 0)) := heap_alloc_new _ _
    have hp := fileCl_any (w2.alloc (.cells #[.int .i64 j] 3)).heap.size w1.heap.size w2.heap.size A1 d1 dir j hj (w2.alloc (.cells #[.int .i64 j] 3)) (Nat.le_refl _) (cell_of_row _ _ 0 _ _ (0, 0) hB3) (cell_of_row _ _ 0 _ _ (0, 0) hG3) (SlL.below ks2 t3)
    have cF := ixFile_any 97 _ (enters_of Tryz.func97 (by kernel_rfl) rfl) _ FA c1 es _ (hr0.1.below (t2.trans (t3.mono t2.size))).1 (by omega) hp
    rw [← HF.out] at cF
    have q3' := (t3.cell (World.block_lt_of_cell? w2 _ q3)).trans q3
    clear hp hB3 hG3 hB2
    go_wp2_with fail
    refine cF.mono ?_
    rintro e w3 ⟨rfl, hb3⟩
    go_wp2_with fail
    go_ret
    exact ⟨rfl, t2.trans ((t3.trans (hb3.mono t3.size)).mono t2.size)⟩

set_option linter.unusedVariables false
set_option maxRecDepth 100000

theorem findS_get (dir : List Lk) (nm : ByteArray) : findS dir nm = match dir[dir.findIdx fun x => eqN x.1 nm]? with
    | some y => y.2
    | none => 0 := by
  induction dir with
  | nil => rfl
  | cons x r ih =>
    rw [findS, List.findIdx_cons]
    cases h : eqN x.1 nm with
    | true => rfl
    | false => simpa using ih
/-- What a name reads from a disk; of one that is not valid: nothing. -/
def readV (r f n : Int) (cs : List (Int × List UInt8 × Int)) (u : Nat) (ks : List Lk) (ts : List Tn) (nm : ByteArray) : Option (List UInt8) :=
  if dkB r f n cs u ks ts = true then (cs[cs.findIdx fun x => x.1 == findS (dirS ks ts) nm]?).map fun x => x.2.1 else none
theorem read_cases {r f n : Int} {fs : List Fl} {u : Nat} {ks : List Lk} {ts : List Tn} (h : dkB r f n (fs.map fc) u ks ts = true) (nm : ByteArray) :
    (findS (dirS ks ts) nm = 0 ∧ fileV (dirS ks ts) fs nm = -1 ∧ readV r f n (fs.map fc) u ks ts nm = none) ∨
    ∃ k, ∃ hk : k < fs.length, ¬ findS (dirS ks ts) nm = 0 ∧ ixV (fun x : Fl => x.1 == findS (dirS ks ts) nm) fs = (k : Int) ∧ fileV (dirS ks ts) fs nm = (k : Int) ∧ readV r f n (fs.map fc) u ks ts nm = some fs[k].2.1.2.2 := by
  have hfi : ∀ i : Int, (fs.map fc).findIdx (fun x => x.1 == i) = fs.findIdx (fun x : Fl => x.1 == i) := fun i => by
    rw [List.findIdx_map]; rfl
  have hg := findS_get (dirS ks ts) nm
  cases hx : (dirS ks ts)[(dirS ks ts).findIdx fun x => eqN x.1 nm]? with
  | none =>
    rw [hx] at hg
    refine .inl ⟨hg, by rw [fileV, hx], ?_⟩
    have h2 := h
    rw [dkB] at h2
    simp only [Bool.and_eq_true] at h2
    have hp := (fB_asc n _ 0 h2.1.1.1.2).1
    rw [readV, if_pos h, hg]
    have : (fs.map fc).findIdx (fun x => x.1 == 0) = (fs.map fc).length := by
      rw [List.findIdx_eq_length]
      intro x hx
      have := (hp x hx).2
      simp only [beq_eq_false_iff_ne]
      omega
    rw [this, List.getElem?_eq_none (by omega)]
    rfl
  | some y =>
    rw [hx] at hg
    have hm : y ∈ dirS ks (ts.take ts.length) := by rw [List.take_length]; exact List.mem_of_getElem? hx
    obtain ⟨h3, h4⟩ := dir_files h ts.length y hm
    have hy : findS (dirS ks ts) nm = y.2 := hg
    have hlt : fs.findIdx (fun x : Fl => x.1 == y.2) < fs.length := by
      rw [List.findIdx_lt_length]
      obtain ⟨z, hz, he⟩ := List.mem_map.1 h3
      obtain ⟨q, hq, rfl⟩ := List.mem_map.1 hz
      exact ⟨q, hq, by simpa [fc] using he⟩
    have hix : ixV (fun x : Fl => x.1 == y.2) fs = (fs.findIdx (fun x : Fl => x.1 == y.2) : Int) := by rw [ixV, if_pos hlt]
    refine .inr ⟨fs.findIdx (fun x : Fl => x.1 == y.2), hlt, by omega, by rw [hy]; exact hix, by rw [fileV, hx]; exact hix, ?_⟩
    rw [readV, if_pos h, hy, hfi, List.getElem?_map, List.getElem?_eq_getElem hlt]
    rfl

set_option linter.unusedVariables false
set_option maxRecDepth 100000

theorem Ob.empty {w : World} : Ob (w.alloc (.cells #[] 5)) w.heap.size (some ⟨w.heap.size, 0, none⟩) 0 [] :=
  ⟨rfl, .inr ⟨w.heap.size, 0, #[], (0, 0), rfl, Nat.le_refl _, heap_alloc_new _ _, .inl rfl, Nat.le_refl _, Nat.zero_le _, rfl, rfl⟩⟩
/-- Bytes, and whether there are any. -/
def ByPost (w : World) (v : Option (List UInt8)) (e : Ending) (w' : World) : Prop :=
  Below w.heap.size w w' ∧ ∃ A c, e = .returned (.tuple #[.slice A (v.getD []).length c, .bool v.isSome]) ∧ Ob w' w.heap.size A c (v.getD [])
theorem ByPost.no {w w' : World} (h : Below w.heap.size w w') : ByPost w none (.returned (.tuple #[.slice none 0 0, .bool false])) w' := ⟨h, none, 0, rfl, ownsG_nil _ _ _ _⟩
theorem ByPost.yes {w w' : World} {us : List UInt8} {A' : Option Addr} {c' : Nat} (h : Below w.heap.size w w') (ho : Ob w' w.heap.size A' c' us) : ByPost w (some us) (.returned (.tuple #[.slice A' us.length c', .bool true])) w' := ⟨h, A', c', rfl, ho⟩
set_option maxHeartbeats 1000000 in
theorem cloneB_any (A : Option Addr) (c : Nat) (xs : List UInt8) (w : World) (ha : By w A xs) (h1 : xs.length ≤ 549755813888)  :
    Calls Tryz.prog 65 #[.slice A xs.length c] w fun e w' => ∃ A' c', e = .returned (.slice A' xs.length c') ∧ Ob w' w.heap.size A' c' xs ∧ Below w.heap.size w w' := by
  have hn := fun (w : World) (n : Nat) => Lib.run_eql_slice_nil (P := Tryz.prog) w 28 5 A n c 0 0 Tryz.underlying28
  cases A with
  | none =>
    have h0 : xs = [] := by
      rcases ha with h | ⟨b, o, h, _⟩
      · exact h
      · cases h
    subst h0
    go_enter Tryz.func65, Tryz.ntmps65
    go_wp2
    go_ret
    exact ⟨none, 0, rfl, ownsG_nil _ _ _ _, Below.refl _ _⟩
  | some ad =>
    go_enter Tryz.func65, Tryz.ntmps65
    go_wp2_with (at_builtin; refine wp_appN rfl _ _ rfl w.heap.size _ _ [] _ _ _ xs Ob.empty (ha.below ((Below.refl _ _).alloc (Nat.le_refl _) _)) rfl rfl (by simp) (by omega) (by simp) ?_; intro A1 c1 w1 us1 hus1 ha1 hb1)
    have he : us1 = xs := by rw [hus1.out]; rfl
    rw [he] at ha1
    go_ret
    refine ⟨A1, c1, ?_, ha1, ((Below.refl _ _).alloc (Nat.le_refl _) _).trans hb1⟩
    show Ending.returned (Value.slice A1 us1.length c1) = _
    rw [he]
set_option maxHeartbeats 4000000 in
theorem diskRead_impl (r f n : Int) (FA : Option Addr) (es fs : List Fl) (c1 : Nat) (KA : Option Addr) (ks : List Lk) (c2 : Nat) (TA : Option Addr) (ts : List Tn) (c3 : Nat) (nm : ByteArray) (w : World) (hr : Dr w FA fs KA ks TA ts) (hd : Hid (fs.map fc = es.map fc)) (hg : Good es ks ts) :
    Calls Tryz.prog 32 #[dkV r f n FA es.length c1 KA ks.length c2 TA ts.length c3, .string nm] w (ByPost w (readV r f n (es.map fc) (ftot es) ks ts nm)) := by
  have hb0 : Below w.heap.size w (w.alloc (.cells (dkC r f n FA es.length c1 KA ks.length c2 TA ts.length c3) 35)) := by (repeat (first | exact Below.refl _ _ | (refine Below.alloc ?_ (by first | omega | (simp; done) | (simp; omega)) _) | (refine Below.drew ?_) | (refine below_drewN ?_ _) | (refine below_at1 ?_ (by first | omega | (simp; done) | (simp; omega))) | (refine Below.setCell ?_ (by first | omega | (simp; done) | (simp; omega)) _) | (refine Below.trans ?_ (Below.mono (by assumption) (by first | omega | (simp; done) | (simp; omega))))))
  have B0 := heap_alloc_new w (.cells (dkC r f n FA es.length c1 KA ks.length c2 TA ts.length c3) 35)
  have cok := okImpl_any r f n FA es fs c1 KA ks c2 TA ts c3 _ (hr.below hb0) hd hg
  have hgc := hg.copy hd.out
  have hel : es.length = fs.length := (fc_len hd.out).symm
  rw [hel] at cok hb0 B0 ⊢
  cases hv : dkB r f n (es.map fc) (ftot es) ks ts with
  | false =>
    have HV : Hid (readV r f n (es.map fc) (ftot es) ks ts nm = none) := by show _ = _; rw [readV, hv]; rfl
    rw [hv] at cok
    clear hv
    go_enter Tryz.func32, Tryz.ntmps32
    go_wp2_with (go_at_call 43; refine cok.mono ?_; rintro e w1 ⟨rfl, hb1⟩)
    go_ret2
    rw [HV.out]
    exact ByPost.no (hb0.trans (hb1.mono hb0.size))
  | true =>
    obtain ⟨g0, g1, g2, g3, g4⟩ := dk_parts hv
    rw [hv] at cok
    rw [← hd.out] at hv ⊢
    have hcs := read_cases hv nm
    have hF := fun W (hW : Below w.heap.size w W) => file_any r f n FA fs c1 KA ks c2 TA ts c3 nm W (hr.below hW) hgc.el (by omega) (by omega) g3 g4
    have heb := hgc.ey
    clear hv g0
    obtain ⟨dir, hdir⟩ : ∃ dir, Hid (dirS ks ts = dir) := ⟨_, Lib.hid rfl⟩
    rw [hdir.out] at hcs hF
    have HG3 := Lib.hid g3
    have HG4 := Lib.hid g4
    clear g3 g4
    go_enter Tryz.func32, Tryz.ntmps32
    go_wp2_with fail
    refine cok.mono ?_
    rintro e w1 ⟨rfl, hb1⟩
    have t1 := hb0.trans (hb1.mono hb0.size)
    obtain ⟨B1, y, _, z1⟩ := keep_blk hb1 (g := w.heap.size) B0
    have q0 : w1.cell? ⟨w.heap.size, 0, none⟩ = some (.int .i64 r) := y 0; have q1 : w1.cell? ⟨w.heap.size, 1, none⟩ = some (.int .i64 f) := y 1; have q2 : w1.cell? ⟨w.heap.size, 2, none⟩ = some (.int .i64 n) := y 2; have q3 : w1.cell? ⟨w.heap.size, 3, none⟩ = some (.slice FA fs.length c1) := y 3; have q4 : w1.cell? ⟨w.heap.size, 4, none⟩ = some (.slice KA ks.length c2) := y 4; have q5 : w1.cell? ⟨w.heap.size, 5, none⟩ = some (.slice TA ts.length c3) := y 5
    clear y B0 cok
    have cF := hF w1 t1
    rcases hcs with ⟨_, hf, hR⟩ | ⟨k, hk, _, _, hf, hR⟩
    · rw [hf] at cF
      have HR := Lib.hid hR
      clear hf hR hF
      go_wp2_with (go_at_call 64; refine cF.mono ?_; rintro e w2 ⟨rfl, hb2⟩)
      go_ret2
      rw [HR.out]
      exact ByPost.no (t1.trans (hb2.mono t1.size))
    · rw [hf] at cF
      have HR := Lib.hid hR
      clear hf hR hF
      go_wp2_with fail
      refine cF.mono ?_
      rintro e w2 ⟨rfl, hb2⟩
      have t2 := t1.trans (hb2.mono t1.size)
      obtain ⟨B2, y, _, z2⟩ := keep_blk hb2 (g := w.heap.size) B1
      have p3 : w2.cell? ⟨w.heap.size, 3, none⟩ = some (.slice FA fs.length c1) := y 3
      clear y cF B1
      have hr2 := hr.below t2
      obtain ⟨b, o, rfl, hbs, x0, x1, x2, xb⟩ := Fs.get hr2.1 hk
      have hx : fs[k].2.1.2.2.length ≤ 549755813888 := by have := heb _ (List.getElem_mem hk); omega
      have hk' : (k : Int) < fs.length := by omega
      have hk0 : (0 : Int) ≤ k := by omega
      go_wp2_with (go_at_call 65; refine (cloneB_any _ _ _ _ xb hx).mono ?_; rintro e w3 ⟨A3, d3, rfl, ho3, hb3⟩)
      go_ret2
      rw [HR.out]
      exact ByPost.yes (t2.trans (hb3.mono t2.size)) (ho3.mono t2.size)
end Go.Proofs.YtpaeffmjkkikbaaGreatDoor
