/- A file found by its Id: the reference; by its name: the program's way. What a file's name reads: plain. DiskRead: both ways. -/
import Derived.Test.YtndmdhmghjfckaaJc
import Derived.Test.YtndmdhmghjfckaaPl
namespace Go.Proofs.Ytndmdhmghjfckaa
open Go.RowKit

set_option linter.unusedVariables false
set_option maxRecDepth 100000

set_option maxHeartbeats 2000000 in
theorem l02At_any (r f n : Int) (FA : Option Addr) (es : List Fl) (c1 : Nat) (KA : Option Addr) (kn c2 : Nat) (TA : Option Addr) (tn c3 : Nat) (id : Int) (w : World) (ha : SlL w FA 3 flL es) (hl : es.length ≤ 1099511627776) :
    Calls Try.prog 44 #[dkV r f n FA es.length c1 KA kn c2 TA tn c3, .int .i64 id] w fun e w' => e = .returned (.int .i64 (ixV (fun x : Fl => x.1 == id) es)) ∧ Below w.heap.size w w' := by
  have hb0 : Below w.heap.size w (w.alloc (.cells (dkC r f n FA es.length c1 KA kn c2 TA tn c3) 27)) := by (repeat (first | exact Below.refl _ _ | (refine Below.alloc ?_ (by first | omega | (simp; done) | (simp; omega)) _) | (refine Below.drew ?_) | (refine below_drewN ?_ _) | (refine below_at1 ?_ (by first | omega | (simp; done) | (simp; omega))) | (refine Below.setCell ?_ (by first | omega | (simp; done) | (simp; omega)) _) | (refine Below.trans ?_ (Below.mono (by assumption) (by first | omega | (simp; done) | (simp; omega))))))
  go_enter Try.func44, Try.ntmps44
  go_wp2_with fail
  go_loopw [10] (fun i wr => ∃ k : Nat, k ≤ es.length ∧ i = .int .i64 k ∧ Hid (∀ j (hj : j < es.length), j < k → (es[j].1 == id) = false) ∧ Below w.heap.size w wr) (fun i _ => es.length - (intOf i).toNat)
  case atStart => exact ⟨0, Nat.zero_le _, rfl, fun j _ h => by omega, hb0⟩
  case round =>
    obtain ⟨k, hk, rfl, hno, hb⟩ := hrel
    have zb := hb.size
    by_cases hlt : k < es.length
    · obtain ⟨b, o, rfl, hbs, x0, x1, x2⟩ := Fl.get (ha.below hb) hlt
      have hlt' : (k : Int) < es.length := by omega
      cases hq : (es[k].1 == id) with
      | true =>
        have HX := Lib.hid (ixV_hit (p := fun x : Fl => x.1 == id) hlt hq hno.out).2
        clear hno
        go_wp2_with fail
        go_ret
        exact ⟨ret_int HX.out.symm, hb.trans (by (repeat (first | exact Below.refl _ _ | (refine Below.alloc ?_ (by first | omega | (simp; done) | (simp; omega)) _) | (refine Below.drew ?_) | (refine below_drewN ?_ _) | (refine below_at1 ?_ (by first | omega | (simp; done) | (simp; omega))) | (refine Below.setCell ?_ (by first | omega | (simp; done) | (simp; omega)) _) | (refine Below.trans ?_ (Below.mono (by assumption) (by first | omega | (simp; done) | (simp; omega)))))))⟩
      | false =>
        have HQ := Lib.hid hq
        go_wp2_with fail
        go_roundw
        case rel => exact ⟨k + 1, by omega, by go_num, fun j hj hjk => by
          rcases Nat.lt_or_ge j k with h | h
          · exact hno.out j hj h
          · obtain rfl : j = k := by omega
            exact HQ.out, hb.trans (by (repeat (first | exact Below.refl _ _ | (refine Below.alloc ?_ (by first | omega | (simp; done) | (simp; omega)) _) | (refine Below.drew ?_) | (refine below_drewN ?_ _) | (refine below_at1 ?_ (by first | omega | (simp; done) | (simp; omega))) | (refine Below.setCell ?_ (by first | omega | (simp; done) | (simp; omega)) _) | (refine Below.trans ?_ (Below.mono (by assumption) (by first | omega | (simp; done) | (simp; omega)))))))⟩
        case measure => simp [intOf]; omega
    · have hlt' : ¬ ((k : Int) < es.length) := by omega
      have HX := Lib.hid (ixV_miss (p := fun x : Fl => x.1 == id) fun j hj => hno.out j hj (by omega)).2
      clear hno
      go_wp2_with fail
      go_ret
      exact ⟨ret_int HX.out.symm, hb⟩
/-- The place of the file that a name links, in a directory; -1 where there is none. -/
def fileV (dir : List Lk) (es : List Fl) (nm : ByteArray) : Int := match dir[dir.findIdx fun x => eqN x.1 nm]? with
  | some y => ixV (fun x : Fl => x.1 == y.2) es
  | none => -1
theorem fileV_hit {dir : List Lk} {es : List Fl} {nm : ByteArray} {k : Nat} (hk : k < dir.length) (h : ixV (fun x : Lk => eqN x.1 nm) dir = k) : fileV dir es nm = ixV (fun x : Fl => x.1 == dir[k].2) es := by
  unfold ixV at h
  split at h
  · rename_i h2
    have : dir.findIdx (fun x : Lk => eqN x.1 nm) = k := by omega
    rw [fileV, this, List.getElem?_eq_getElem hk]
  · omega
theorem fileV_miss {dir : List Lk} {es : List Fl} {nm : ByteArray} (h : ixV (fun x : Lk => eqN x.1 nm) dir < 0) : fileV dir es nm = -1 := by
  unfold ixV at h
  split at h
  · omega
  · rename_i h2
    rw [fileV, List.getElem?_eq_none (by omega)]
theorem ixV_cases {T : Type} (p : T → Bool) (xs : List T) : (ixV p xs = -1) ∨ ∃ k : Nat, ∃ hk : k < xs.length, ixV p xs = (k : Int) := by
  unfold ixV
  split
  · rename_i h; exact .inr ⟨_, h, rfl⟩
  · exact .inl rfl
set_option linter.unusedVariables false
set_option maxRecDepth 100000

theorem findS_get (dir : List Lk) (nm : ByteArray) : findS dir nm = match dir[dir.findIdx fun x => eqN x.1 nm]? with
    | some y => y.2
    | none => 0 := by
  induction dir with
  | nil => rfl
  | cons x r ih =>
    rw [findS, List.findIdx_cons]
    cases h : eqN x.1 nm with
    | true => rfl
    | false => simpa using ih
/-- What a name reads from a disk; of one that is not valid: nothing. -/
def readV (r f n : Int) (cs : List (Int × List UInt8 × Int)) (u : Nat) (ks : List Lk) (ts : List Tn) (nm : ByteArray) : Option (List UInt8) :=
  if dkB r f n cs u ks ts = true then (cs[cs.findIdx fun x => x.1 == findS (dirS ks ts) nm]?).map fun x => x.2.1 else none
theorem read_cases {r f n : Int} {fs : List Fl} {u : Nat} {ks : List Lk} {ts : List Tn} (h : dkB r f n (fs.map fc) u ks ts = true) (nm : ByteArray) :
    (findS (dirS ks ts) nm = 0 ∧ fileV (dirS ks ts) fs nm = -1 ∧ readV r f n (fs.map fc) u ks ts nm = none) ∨
    ∃ k, ∃ hk : k < fs.length, ¬ findS (dirS ks ts) nm = 0 ∧ ixV (fun x : Fl => x.1 == findS (dirS ks ts) nm) fs = (k : Int) ∧ fileV (dirS ks ts) fs nm = (k : Int) ∧ readV r f n (fs.map fc) u ks ts nm = some fs[k].2.1.2.2 := by
  have hfi : ∀ i : Int, (fs.map fc).findIdx (fun x => x.1 == i) = fs.findIdx (fun x : Fl => x.1 == i) := fun i => by
    rw [List.findIdx_map]; rfl
  have hg := findS_get (dirS ks ts) nm
  cases hx : (dirS ks ts)[(dirS ks ts).findIdx fun x => eqN x.1 nm]? with
  | none =>
    rw [hx] at hg
    refine .inl ⟨hg, by rw [fileV, hx], ?_⟩
    have h2 := h
    rw [dkB] at h2
    simp only [Bool.and_eq_true] at h2
    have hp := (fB_asc n _ 0 h2.1.1.1.2).1
    rw [readV, if_pos h, hg]
    have : (fs.map fc).findIdx (fun x => x.1 == 0) = (fs.map fc).length := by
      rw [List.findIdx_eq_length]
      intro x hx
      have := (hp x hx).2
      simp only [beq_eq_false_iff_ne]
      omega
    rw [this, List.getElem?_eq_none (by omega)]
    rfl
  | some y =>
    rw [hx] at hg
    have hm : y ∈ dirS ks (ts.take ts.length) := by rw [List.take_length]; exact List.mem_of_getElem? hx
    obtain ⟨h3, h4⟩ := dir_files h ts.length y hm
    have hy : findS (dirS ks ts) nm = y.2 := hg
    have hlt : fs.findIdx (fun x : Fl => x.1 == y.2) < fs.length := by
      rw [List.findIdx_lt_length]
      obtain ⟨z, hz, he⟩ := List.mem_map.1 h3
      obtain ⟨q, hq, rfl⟩ := List.mem_map.1 hz
      exact ⟨q, hq, by simpa [fc] using he⟩
    have hix : ixV (fun x : Fl => x.1 == y.2) fs = (fs.findIdx (fun x : Fl => x.1 == y.2) : Int) := by rw [ixV, if_pos hlt]
    refine .inr ⟨fs.findIdx (fun x : Fl => x.1 == y.2), hlt, by omega, by rw [hy]; exact hix, by rw [fileV, hx]; exact hix, ?_⟩
    rw [readV, if_pos h, hy, hfi, List.getElem?_map, List.getElem?_eq_getElem hlt]
    rfl

set_option linter.unusedVariables false
set_option maxRecDepth 100000

theorem Ob.empty {w : World} : Ob (w.alloc (.cells #[] 5)) w.heap.size (some ⟨w.heap.size, 0, none⟩) 0 [] :=
  ⟨rfl, .inr ⟨w.heap.size, 0, #[], (0, 0), rfl, Nat.le_refl _, heap_alloc_new _ _, .inl rfl, Nat.le_refl _, Nat.zero_le _, rfl, rfl⟩⟩
/-- Bytes, and whether there are any. -/
def ByPost (w : World) (v : Option (List UInt8)) (e : Ending) (w' : World) : Prop :=
  Below w.heap.size w w' ∧ ∃ A c, e = .returned (.tuple #[.slice A (v.getD []).length c, .bool v.isSome]) ∧ Ob w' w.heap.size A c (v.getD [])
theorem ByPost.no {w w' : World} (h : Below w.heap.size w w') : ByPost w none (.returned (.tuple #[.slice none 0 0, .bool false])) w' := ⟨h, none, 0, rfl, ownsG_nil _ _ _ _⟩
theorem ByPost.yes {w w' : World} {us : List UInt8} {A' : Option Addr} {c' : Nat} (h : Below w.heap.size w w') (ho : Ob w' w.heap.size A' c' us) : ByPost w (some us) (.returned (.tuple #[.slice A' us.length c', .bool true])) w' := ⟨h, A', c', rfl, ho⟩
set_option maxHeartbeats 1000000 in
theorem cloneB_any (A : Option Addr) (c : Nat) (xs : List UInt8) (w : World) (ha : By w A xs) (h1 : xs.length ≤ 549755813888)  :
    Calls Try.prog 26 #[.slice A xs.length c] w fun e w' => ∃ A' c', e = .returned (.slice A' xs.length c') ∧ Ob w' w.heap.size A' c' xs ∧ Below w.heap.size w w' := by
  have hn := fun (w : World) (n : Nat) => Lib.run_eql_slice_nil (P := Try.prog) w 22 5 A n c 0 0 Try.underlying22
  cases A with
  | none =>
    have h0 : xs = [] := by
      rcases ha with h | ⟨b, o, h, _⟩
      · exact h
      · cases h
    subst h0
    go_enter Try.func26, Try.ntmps26
    go_wp2
    go_ret
    exact ⟨none, 0, rfl, ownsG_nil _ _ _ _, Below.refl _ _⟩
  | some ad =>
    go_enter Try.func26, Try.ntmps26
    go_wp2_with (at_builtin; refine wp_appN rfl _ _ rfl w.heap.size _ _ [] _ _ _ xs Ob.empty (ha.below ((Below.refl _ _).alloc (Nat.le_refl _) _)) rfl rfl (by simp) (by omega) (by simp) ?_; intro A1 c1 w1 us1 hus1 ha1 hb1)
    have he : us1 = xs := by rw [hus1.out]; rfl
    rw [he] at ha1
    go_ret
    refine ⟨A1, c1, ?_, ha1, ((Below.refl _ _).alloc (Nat.le_refl _) _).trans hb1⟩
    show Ending.returned (Value.slice A1 us1.length c1) = _
    rw [he]
end Go.Proofs.Ytndmdhmghjfckaa
