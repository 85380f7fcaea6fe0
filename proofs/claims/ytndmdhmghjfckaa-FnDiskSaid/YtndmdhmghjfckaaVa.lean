/- A predicate handed to the library: where it first holds; links and files. Where a name goes in a directory: the library's search by halves. Links and turns copied by the library; elements appended, laid over others (laws of the walk). -/
import Derived.Test.YtndmdhmghjfckaaUb
import Derived.Test.YtndmdhmghjfckaaNm
import Derived.Test.YtndmdhmghjfckaaQb
import Derived.Test.YtndmdhmghjfckaaShelf
import Derived.Lib.SliceRun
import Derived.Lib.AppendZeros
import Derived.Lib.AppendZerosOnto
import Derived.Lib.Overlaps
import Derived.Laws.CopyRow
import Derived.Deep.RegionLaw
namespace Go.Proofs.Ytndmdhmghjfckaa
open Go.RowKit

set_option linter.unusedVariables false
set_option maxRecDepth 100000

/-- A function value that says p, in whatever world the blocks ahead of B lie as in w; it leaves all blocks alone. -/
def PredB {T : Type} (B : Nat) (w : World) (g : Nat) (lb : Array Value) (enc : T → Value) (p : T → Bool) : Prop :=
  ∀ (W : World) (x : T), Below B w W → Calls Try.prog g (#[enc x] ++ lb) W fun e w' => e = .returned (.bool (p x)) ∧ Below W.heap.size W w'
theorem PredB.mono {T : Type} {B B' : Nat} {w w' : World} {g : Nat} {lb : Array Value} {enc : T → Value} {p : T → Bool} (h : PredB B w g lb enc p) (hb : Below B w w') (hB : B ≤ B') : PredB B' w' g lb enc p :=
  fun W x hW => h W x (hb.trans (hW.mono hB))
/-- Where p first holds, or -1. -/
def ixV {T : Type} (p : T → Bool) (xs : List T) : Int := if xs.findIdx p < xs.length then (xs.findIdx p : Int) else -1
theorem ixV_hit {T : Type} {p : T → Bool} {xs : List T} {k : Nat} (hk : k < xs.length) (h : p xs[k] = true) (ha : ∀ j (hj : j < xs.length), j < k → p xs[j] = false) : xs.findIdx p = k ∧ ixV p xs = (k : Int) := by
  have e : xs.findIdx p = k := (List.findIdx_eq hk).2 ⟨h, fun j hj => ha j (by omega) hj⟩
  exact ⟨e, by rw [ixV, e, if_pos hk]⟩
theorem ixV_miss {T : Type} {p : T → Bool} {xs : List T} (ha : ∀ j (hj : j < xs.length), p xs[j] = false) : xs.findIdx p = xs.length ∧ ixV p xs = -1 := by
  have e : xs.findIdx p = xs.length := List.findIdx_eq_length.2 fun x hx => by
    obtain ⟨j, hj, rfl⟩ := List.getElem_of_mem hx
    exact ha j hj
  exact ⟨e, by rw [ixV, e, if_neg (by omega)]⟩
theorem ixV_any {T : Type} {p : T → Bool} {xs : List T} : decide (0 ≤ ixV p xs) = xs.any p := by
  rw [Bool.eq_iff_iff, decide_eq_true_eq, List.any_eq_true, ixV]
  have h := @List.findIdx_lt_length _ p xs
  constructor
  · intro h1
    split at h1
    · rename_i h2; obtain ⟨x, hx, hp⟩ := h.1 h2; exact ⟨x, hx, hp⟩
    · omega
  · rintro ⟨x, hx, hp⟩
    rw [if_pos (h.2 ⟨x, hx, hp⟩)]
    omega
theorem Fl.get {w : World} {A : Option Addr} {xs : List Fl} (h : SlL w A 3 flL xs) {k : Nat} (hk : k < xs.length) : ∃ b o, A = some ⟨b, o, none⟩ ∧ b < w.heap.size ∧ w.cell? ⟨b, o + k * 3, none⟩ = some (.int .i64 xs[k].1) ∧ w.cell? ⟨b, o + k * 3 + 1, none⟩ = some (.slice xs[k].2.1.1 xs[k].2.1.2.2.length xs[k].2.1.2.1) ∧ w.cell? ⟨b, o + k * 3 + 2, none⟩ = some (.int .i64 xs[k].2.2) := by
  obtain ⟨b, o, hA, hb, h1⟩ := SlL.get h hk (by simp)
  exact ⟨b, o, hA, hb, h1 0 _ rfl, h1 1 _ rfl, h1 2 _ rfl⟩
set_option maxHeartbeats 2000000 in
theorem ixLink_any (g : Nat) (lb : Array Value) (eg : ∀ args w, (callFunc g args).run Try.prog w = .ok (.enter g args) w) (p : Lk → Bool) (A : Option Addr) (c : Nat) (xs : List Lk) (w : World) (ha : SlL w A 2 lkL xs) (hl : xs.length ≤ 1099511627776) (hp : PredB w.heap.size w g lb lkV p) :
    Calls Try.prog 54 #[.slice A xs.length c, .func (.func g) #[] lb] w fun e w' => e = .returned (.int .i64 (ixV p xs)) ∧ Below w.heap.size w w' := by
  go_enter Try.func54, Try.ntmps54
  go_wp2_with fail
  go_loopw [8] (fun i wr => ∃ k : Nat, k ≤ xs.length ∧ i = .int .i64 k ∧ Hid (∀ j (hj : j < xs.length), j < k → p xs[j] = false) ∧ Below w.heap.size w wr) (fun i _ => xs.length - (intOf i).toNat)
  case atStart => exact ⟨0, Nat.zero_le _, rfl, fun j _ h => by omega, Below.refl _ _⟩
  case round =>
    obtain ⟨k, hk, rfl, hno, hb⟩ := hrel
    have zb := hb.size
    by_cases hlt : k < xs.length
    · obtain ⟨b, o, rfl, hbs, x0, x1⟩ := Ks.get (ha.below hb) hlt
      have hlt' : (k : Int) < xs.length := by omega
      have hcall := hp wr xs[k] hb
      clear hp
      cases hq : p xs[k] with
      | true =>
        rw [hq] at hcall
        have HX := Lib.hid (ixV_hit hlt hq hno.out).2
        clear hq hno
        go_wp2_with (go_at_fn g; refine hcall.mono ?_; rintro e w2 ⟨rfl, hb2⟩)
        go_ret
        exact ⟨ret_int HX.out.symm, hb.trans (hb2.mono zb)⟩
      | false =>
        rw [hq] at hcall
        have HQ := Lib.hid hq
        clear hq
        go_wp2_with (go_at_fn g; refine hcall.mono ?_; rintro e w2 ⟨rfl, hb2⟩)
        go_roundw
        case rel => exact ⟨k + 1, by omega, by go_num, fun j hj hjk => by
          rcases Nat.lt_or_ge j k with h | h
          · exact hno.out j hj h
          · obtain rfl : j = k := by omega
            exact HQ.out, hb.trans (hb2.mono zb)⟩
        case measure => simp [intOf]; omega
    · have hlt' : ¬ ((k : Int) < xs.length) := by omega
      have HX := Lib.hid (ixV_miss (p := p) fun j hj => hno.out j hj (by omega)).2
      clear hno
      go_wp2_with fail
      go_ret
      exact ⟨ret_int HX.out.symm, hb⟩
set_option maxHeartbeats 2000000 in
theorem ixFile_any (g : Nat) (lb : Array Value) (eg : ∀ args w, (callFunc g args).run Try.prog w = .ok (.enter g args) w) (p : Fl → Bool) (A : Option Addr) (c : Nat) (xs : List Fl) (w : World) (ha : SlL w A 3 flL xs) (hl : xs.length ≤ 1099511627776) (hp : PredB w.heap.size w g lb flV p) :
    Calls Try.prog 53 #[.slice A xs.length c, .func (.func g) #[] lb] w fun e w' => e = .returned (.int .i64 (ixV p xs)) ∧ Below w.heap.size w w' := by
  go_enter Try.func53, Try.ntmps53
  go_wp2_with fail
  go_loopw [8] (fun i wr => ∃ k : Nat, k ≤ xs.length ∧ i = .int .i64 k ∧ Hid (∀ j (hj : j < xs.length), j < k → p xs[j] = false) ∧ Below w.heap.size w wr) (fun i _ => xs.length - (intOf i).toNat)
  case atStart => exact ⟨0, Nat.zero_le _, rfl, fun j _ h => by omega, Below.refl _ _⟩
  case round =>
    obtain ⟨k, hk, rfl, hno, hb⟩ := hrel
    have zb := hb.size
    by_cases hlt : k < xs.length
    · obtain ⟨b, o, rfl, hbs, x0, x1, x2⟩ := Fl.get (ha.below hb) hlt
      have hlt' : (k : Int) < xs.length := by omega
      have hcall := hp wr xs[k] hb
      clear hp
      cases hq : p xs[k] with
      | true =>
        rw [hq] at hcall
        have HX := Lib.hid (ixV_hit hlt hq hno.out).2
        clear hq hno
        go_wp2_with (go_at_fn g; refine hcall.mono ?_; rintro e w2 ⟨rfl, hb2⟩)
        go_ret
        exact ⟨ret_int HX.out.symm, hb.trans (hb2.mono zb)⟩
      | false =>
        rw [hq] at hcall
        have HQ := Lib.hid hq
        clear hq
        go_wp2_with (go_at_fn g; refine hcall.mono ?_; rintro e w2 ⟨rfl, hb2⟩)
        go_roundw
        case rel => exact ⟨k + 1, by omega, by go_num, fun j hj hjk => by
          rcases Nat.lt_or_ge j k with h | h
          · exact hno.out j hj h
          · obtain rfl : j = k := by omega
            exact HQ.out, hb.trans (hb2.mono zb)⟩
        case measure => simp [intOf]; omega
    · have hlt' : ¬ ((k : Int) < xs.length) := by omega
      have HX := Lib.hid (ixV_miss (p := p) fun j hj => hno.out j hj (by omega)).2
      clear hno
      go_wp2_with fail
      go_ret
      exact ⟨ret_int HX.out.symm, hb⟩
/-- A variable that a function value has captured: block gp holds it. -/
theorem byName_any (F : Nat) (hF : F = 64 ∨ F = 70) (B gp : Nat) (nm : ByteArray) (w : World) (hB : gp < B) (hp : w.cell? ⟨gp, 0, none⟩ = some (.string nm)) :
    PredB B w F #[.pointer (some ⟨gp, 0, none⟩)] lkV fun x => eqN x.1 nm := by
  intro W x hW
  obtain ⟨s, i⟩ := x
  have hp' := (hW.cell (p := ⟨gp, 0, none⟩) hB).trans hp
  show Calls Try.prog F #[.agg #[.string s, .int .i64 i], .pointer (some ⟨gp, 0, none⟩)] W _
  have hgs := World.block_lt_of_cell? W _ hp'
  simp only at hgs
  have hne : ¬ gp = W.heap.size := by omega
  have HE : Hid (eqN s nm = (s.toList == nm.toList)) := rfl
  rcases hF with rfl | rfl
  · go_enter Try.func64, Try.ntmps64
    go_wp2_with fail
    go_ret
    exact ⟨ret_bool HE.out.symm, (by (repeat (first | exact Below.refl _ _ | (refine Below.alloc ?_ (by first | omega | (simp; done) | (simp; omega)) _) | (refine Below.drew ?_) | (refine below_drewN ?_ _) | (refine below_at1 ?_ (by first | omega | (simp; done) | (simp; omega))) | (refine Below.setCell ?_ (by first | omega | (simp; done) | (simp; omega)) _) | (refine Below.trans ?_ (Below.mono (by assumption) (by first | omega | (simp; done) | (simp; omega)))))))⟩
  · go_enter Try.func70, Try.ntmps70
    go_wp2_with fail
    go_ret
    exact ⟨ret_bool HE.out.symm, (by (repeat (first | exact Below.refl _ _ | (refine Below.alloc ?_ (by first | omega | (simp; done) | (simp; omega)) _) | (refine Below.drew ?_) | (refine below_drewN ?_ _) | (refine below_at1 ?_ (by first | omega | (simp; done) | (simp; omega))) | (refine Below.setCell ?_ (by first | omega | (simp; done) | (simp; omega)) _) | (refine Below.trans ?_ (Below.mono (by assumption) (by first | omega | (simp; done) | (simp; omega)))))))⟩
set_option maxHeartbeats 1000000 in
theorem linkOf_any (A : Option Addr) (c : Nat) (dir : List Lk) (nm : ByteArray) (w : World) (ha : Ks w A dir) (hl : dir.length ≤ 1099511627776) :
    Calls Try.prog 50 #[.slice A dir.length c, .string nm] w fun e w' => e = .returned (.int .i64 (ixV (fun x => eqN x.1 nm) dir)) ∧ Below w.heap.size w w' := by
  have hb0 : Below w.heap.size w (w.alloc (.cells #[.string nm] 9)) := by (repeat (first | exact Below.refl _ _ | (refine Below.alloc ?_ (by first | omega | (simp; done) | (simp; omega)) _) | (refine Below.drew ?_) | (refine below_drewN ?_ _) | (refine below_at1 ?_ (by first | omega | (simp; done) | (simp; omega))) | (refine Below.setCell ?_ (by first | omega | (simp; done) | (simp; omega)) _) | (refine Below.trans ?_ (Below.mono (by assumption) (by first | omega | (simp; done) | (simp; omega))))))
  have hp := byName_any 64 (.inl rfl) (w.alloc (.cells #[.string nm] 9)).heap.size w.heap.size nm (w.alloc (.cells #[.string nm] 9)) (by simp) (cell_of_row _ _ 0 _ _ (0, 0) (heap_alloc_new _ _))
  go_enter Try.func50, Try.ntmps50
  go_wp2_with fail
  refine (ixLink_any 64 _ (enters_of Try.func64 (by kernel_rfl) rfl) _ A c dir _ (SlL.below ha hb0) hl hp).mono ?_
  rintro e w1 ⟨rfl, hb1⟩
  go_wp2_with fail
  go_ret
  exact ⟨rfl, hb0.trans (hb1.mono hb0.size)⟩

set_option linter.unusedVariables false
set_option maxRecDepth 100000

theorem cmpLink_any (a b : Lk) (w : World) :
    Calls Try.prog 66 #[lkV a, lkV b] w fun e w' => e = .returned (.int .i64 (Lib.compareBytes a.1.data.toList b.1.data.toList)) ∧ Below w.heap.size w w' := by
  obtain ⟨s, i⟩ := a
  obtain ⟨t, j⟩ := b
  go_enter Try.func66, Try.ntmps66
  go_wp2_with (go_at_call 67; refine (Try.strings_Compare _ _ _).mono ?_; rintro e w' ⟨rfl, hw⟩; subst hw)
  go_ret
  exact ⟨rfl, (by (repeat (first | exact Below.refl _ _ | (refine Below.alloc ?_ (by first | omega | (simp; done) | (simp; omega)) _) | (refine Below.drew ?_) | (refine below_drewN ?_ _) | (refine below_at1 ?_ (by first | omega | (simp; done) | (simp; omega))) | (refine Below.setCell ?_ (by first | omega | (simp; done) | (simp; omega)) _) | (refine Below.trans ?_ (Below.mono (by assumption) (by first | omega | (simp; done) | (simp; omega)))))))⟩
def BsPost (w : World) (k : Nat) (e : Ending) (w' : World) : Prop := ∃ b, e = .returned (.tuple #[.int .i64 k, .bool b]) ∧ Below w.heap.size w w'
set_option maxHeartbeats 4000000 in
theorem bsearch_any (A : Option Addr) (c : Nat) (dir : List Lk) (l : Lk) (w : World) (ha : Ks w A dir) (hl : dir.length ≤ 1048576) (hs : Srt dir) :
    Calls Try.prog 65 #[.slice A dir.length c, lkV l, .func (.func 66) #[] #[]] w (BsPost w (posN dir l.1)) := by
  have hb0 : Below w.heap.size w (w.alloc (.cells (lkL l).toArray 63)) := by (repeat (first | exact Below.refl _ _ | (refine Below.alloc ?_ (by first | omega | (simp; done) | (simp; omega)) _) | (refine Below.drew ?_) | (refine below_drewN ?_ _) | (refine below_at1 ?_ (by first | omega | (simp; done) | (simp; omega))) | (refine Below.setCell ?_ (by first | omega | (simp; done) | (simp; omega)) _) | (refine Below.trans ?_ (Below.mono (by assumption) (by first | omega | (simp; done) | (simp; omega))))))
  have HS := Lib.hid hs
  clear hs
  go_enter Try.func65, Try.ntmps65
  go_wp2_with fail
  have B0 := heap_alloc_new w (.cells (lkL l).toArray 63)
  go_loopw [9, 10] (fun iv jv wr => ∃ i j : Nat, i ≤ j ∧ j ≤ dir.length ∧ iv = .int .i64 i ∧ jv = .int .i64 j ∧ Hid ((∀ t (ht : t < dir.length), t < i → ltN dir[t].1 l.1 = true) ∧ (∀ t (ht : t < dir.length), j ≤ t → ltN dir[t].1 l.1 = false)) ∧ Below w.heap.size w wr ∧ wr.heap[w.heap.size]? = some (.cells (lkL l).toArray 63 (0, 0))) (fun iv jv _ => (intOf jv).toNat - (intOf iv).toNat)
  case atStart => exact ⟨0, dir.length, Nat.zero_le _, Nat.le_refl _, rfl, rfl, ⟨fun t _ h => by omega, fun t ht h => by omega⟩, hb0, B0⟩
  case round =>
    clear B0 hb0
    obtain ⟨i, j, hij, hjl, rfl, rfl, hinv, hb, hB⟩ := hrel
    have zb := hb.size
    have zB : w.heap.size < wr.heap.size := (Array.getElem?_eq_some_iff.1 hB).1
    have y0 : wr.cell? ⟨w.heap.size, 0, none⟩ = some (.string l.1) := cell_of_row wr _ 0 _ _ (0, 0) hB
    have y1 : wr.cell? ⟨w.heap.size, 1, none⟩ = some (.int .i64 l.2) := cell_of_row wr _ 1 _ _ (0, 0) hB
    by_cases hlt : i < j
    · have hlt' : (i : Int) < j := by omega
      obtain ⟨h, hh⟩ : ∃ h, Hid (h = (i + j) / 2) := ⟨_, Lib.hid rfl⟩
      have h1 : i ≤ h := by have := hh.out; omega
      have h2 : h < j := by have := hh.out; omega
      have hhl : h < dir.length := by omega
      obtain ⟨b, o, rfl, hbs, x0, x1⟩ := Ks.get (ha.below hb) hhl
      have hhl' : (h : Int) < dir.length := by omega
      have hw1 : IntKind.i64.wrap ((i : Int) + j) = (i : Int) + j := by rw [IntKind.wrap_i64]; omega
      have hw2 : IntKind.u64.wrap ((i : Int) + j) = (i : Int) + j := by rw [IntKind.wrap_u64]; omega
      have hw3 : ((i : Int) + j) / 2 = (h : Int) := by have := hh.out; omega
      have hw4 : IntKind.u64.wrap (h : Int) = (h : Int) := by rw [IntKind.wrap_u64]; omega
      have hw5 : IntKind.i64.wrap (h : Int) = (h : Int) := by rw [IntKind.wrap_i64]; omega
      have HW3 := Lib.hid hw3
      clear hw3
      go_wp2_with fail
      rw [HW3.out]
      have qx0 : ∀ p : Bl wr.heap.size wr, p.val.cell? ⟨b, o + h * 2, none⟩ = some (.string dir[h].1) := fun p => p.cell x0
      have qx1 : ∀ p : Bl wr.heap.size wr, p.val.cell? ⟨b, o + h * 2 + 1, none⟩ = some (.int .i64 dir[h].2) := fun p => p.cell x1
      have qy0 : ∀ p : Bl wr.heap.size wr, p.val.cell? ⟨w.heap.size, 0, none⟩ = some (.string l.1) := fun p => p.cell y0
      have qy1 : ∀ p : Bl wr.heap.size wr, p.val.cell? ⟨w.heap.size, 1, none⟩ = some (.int .i64 l.2) := fun p => p.cell y1
      have hh0 : (0 : Int) ≤ h := by omega
      obtain ⟨cv, hcv⟩ : ∃ cv, Hid (Lib.compareBytes dir[h].1.data.toList l.1.data.toList = cv) := ⟨_, Lib.hid rfl⟩
      have HC := Lib.hid (cmp_neg dir[h].1 l.1)
      refine wp_region_qb (by kernel_rfl) (by kernel_rfl) ?_
      cases hq : ltN dir[h].1 l.1 with
      | true =>
        have hc : cv < 0 := by have := HC.out; rw [hq, hcv.out] at this; simpa using this
        have HI : Hid (∀ t (ht : t < dir.length), t < h + 1 → ltN dir[t].1 l.1 = true) := Lib.hid fun t ht h3 => by
          rcases Nat.lt_or_ge t h with h4 | h4
          · exact ltN_trans (HS.out.get h4 hhl) hq
          · obtain rfl : t = h := by omega
            exact hq
        clear hq HC
        repeat (quiet_step ((go_at_call 66; exact Calls.qb ((cmpLink_any dir[h] l _).mono fun _ _ ⟨he, hb9⟩ => ⟨he.trans (ret_int hcv.out), hb9⟩))))
        refine qb_end fun w9 hb9 => ?_
        clear qx0 qx1 qy0 qy1
        have hB9 := (hb9.block _ zB).trans hB
        have hw6 : IntKind.i64.wrap ((h : Int) + 1) = (h : Int) + 1 := by rw [IntKind.wrap_i64]; omega
        go_wp2_with fail
        go_roundw
        case rel => exact ⟨h + 1, j, by omega, hjl, by go_num, rfl, ⟨HI.out, hinv.out.2⟩, hb.trans (hb9.mono zb), hB9⟩
        case measure => simp [intOf]; omega
      | false =>
        have hc : ¬ cv < 0 := by have := HC.out; rw [hq, hcv.out] at this; simpa using this
        have HI : Hid (∀ t (ht : t < dir.length), h ≤ t → ltN dir[t].1 l.1 = false) := Lib.hid fun t ht h3 => by
          rcases Nat.lt_or_ge h t with h4 | h4
          · cases h5 : ltN dir[t].1 l.1 with
            | false => rfl
            | true => rw [ltN_trans (HS.out.get h4 ht) h5] at hq; cases hq
          · obtain rfl : t = h := by omega
            exact hq
        clear hq HC
        repeat (quiet_step ((go_at_call 66; exact Calls.qb ((cmpLink_any dir[h] l _).mono fun _ _ ⟨he, hb9⟩ => ⟨he.trans (ret_int hcv.out), hb9⟩))))
        refine qb_end fun w9 hb9 => ?_
        clear qx0 qx1 qy0 qy1
        have hB9 := (hb9.block _ zB).trans hB
        go_wp2_with fail
        go_roundw
        case rel => exact ⟨i, h, h1, by omega, rfl, rfl, ⟨hinv.out.1, HI.out⟩, hb.trans (hb9.mono zb), hB9⟩
        case measure => simp [intOf]; omega
    · have hlt' : ¬ ((i : Int) < j) := by omega
      obtain rfl : j = i := by omega
      have HP : Hid (posN dir l.1 = j) := posN_eq hjl hinv.out.1 hinv.out.2
      clear hinv hlt
      go_wp2_with fail
      by_cases hin : j < dir.length
      · obtain ⟨b, o, rfl, hbs, x0, x1⟩ := Ks.get (ha.below hb) hin
        have qx0 : ∀ p : Bl wr.heap.size wr, p.val.cell? ⟨b, o + j * 2, none⟩ = some (.string dir[j].1) := fun p => p.cell x0
        have qx1 : ∀ p : Bl wr.heap.size wr, p.val.cell? ⟨b, o + j * 2 + 1, none⟩ = some (.int .i64 dir[j].2) := fun p => p.cell x1
        have qy0 : ∀ p : Bl wr.heap.size wr, p.val.cell? ⟨w.heap.size, 0, none⟩ = some (.string l.1) := fun p => p.cell y0
        have qy1 : ∀ p : Bl wr.heap.size wr, p.val.cell? ⟨w.heap.size, 1, none⟩ = some (.int .i64 l.2) := fun p => p.cell y1
        have hh0 : (0 : Int) ≤ j := by omega
        have hin' : (j : Int) < dir.length := by omega
        refine wp_region_qb (by kernel_rfl) (by kernel_rfl) ?_
        obtain ⟨cv, hcv⟩ : ∃ cv, Hid (Lib.compareBytes dir[j].1.data.toList l.1.data.toList = cv) := ⟨_, Lib.hid rfl⟩
        obtain ⟨cb, hcb⟩ : ∃ cb : Bool, decide (cv = 0) = cb := ⟨_, rfl⟩
        have hcb' : (cv == 0) = cb := by rw [← hcb]; rfl
        repeat (quiet_step ((go_at_call 66; exact Calls.qb ((cmpLink_any dir[j] l _).mono fun _ _ ⟨he, hb9⟩ => ⟨he.trans (ret_int hcv.out), hb9⟩))))
        refine qb_end fun w9 hb9 => ?_
        clear qx0 qx1 qy0 qy1 hcb hcb'
        go_wp2_with fail
        rw [HP.out]
        go_ret2
        exact ⟨_, rfl, hb.trans (hb9.mono zb)⟩
      · have hin' : ¬ (j : Int) < dir.length := by omega
        go_quiet (fail)
        go_wp2_with fail
        rw [HP.out]
        go_ret2
        exact ⟨_, rfl, below_drewN hb _⟩

set_option linter.unusedVariables false
set_option maxRecDepth 100000

section
variable {T : Type} {k : Nat} {enc : T → List Value} {w w' : World}
/-- A slice's elements as cells from its address on. -/
theorem SlL.cells {ad : Addr} {xs : List T} (hk : ∀ x, (enc x).length = k) (h : SlL w (some ad) k enc xs) : ∀ j u, (xs.flatMap enc)[j]? = some u → w.cell? (ad.add j) = some u := by
  rcases h with rfl | ⟨b, o, hA, h⟩
  · intro j u hu; simp at hu
  · injection hA with hA
    subst hA
    intro j u hu
    rw [Addr.add_lit]
    rcases Nat.eq_zero_or_pos k with h0 | h0
    · have : (xs.flatMap enc).length = 0 := by rw [flat_len hk, h0, Nat.mul_zero]
      have := (List.getElem?_eq_some_iff.1 hu).1
      omega
    · have hj := (List.getElem?_eq_some_iff.1 hu).1
      rw [flat_len hk] at hj
      have hq : j / k < xs.length := (Nat.div_lt_iff_lt_mul h0).2 hj
      have hr := Nat.mod_lt j h0
      have hx := List.getElem?_eq_getElem hq
      have hv : ∃ v, (enc xs[j / k])[j % k]? = some v := ⟨_, List.getElem?_eq_getElem (by rw [hk]; exact hr)⟩
      obtain ⟨v, hv⟩ := hv
      have h1 := flat_get hk xs (j / k) _ hx (j % k) v hv
      have e : j / k * k + j % k = j := by rw [Nat.mul_comm]; exact Nat.div_add_mod j k
      rw [e, hu] at h1
      injection h1 with h1
      subst h1
      have := h (j / k) _ hx (j % k) _ hv
      rwa [e] at this
theorem flat_one (h1 : ∀ x, ∀ u ∈ enc x, u.oneCell' = true) (xs : List T) : ∀ u ∈ xs.flatMap enc, u.oneCell' = true := by
  intro u hu
  obtain ⟨x, _, hx⟩ := List.mem_flatMap.1 hu
  exact h1 x u hx
end
theorem lk_one (x : Lk) : ∀ u ∈ lkL x, u.oneCell' = true := by intro u hu; simp at hu; rcases hu with rfl | rfl <;> rfl
theorem tn_one (x : Tn) : ∀ u ∈ tnL x, u.oneCell' = true := by intro u hu; simp at hu; rcases hu with rfl | rfl | rfl | rfl <;> rfl
theorem fl_one (x : Fl) : ∀ u ∈ flL x, u.oneCell' = true := by intro u hu; simp at hu; rcases hu with rfl | rfl | rfl <;> rfl
section
variable {ops : Array Oper} {rest : List Oper} {o : Oper} {a : Act} {Q : Exit → Act → World → Prop}
/-- append(s, ys...) onto a slice of one's own. -/
theorem wp_appE {T : Type} {k : Nat} {enc : T → List Value} (S E : TypeId) (z : Value) (bytes : Nat) (hS : Try.prog.underlying S = some (.slice E)) (hinfo : (Try.prog.info? E).map (fun i => (i.zero, i.size, i.bytes)) = some (some z, k, bytes)) (hby : bytes ≤ 64) (hzk : z.cells.size = k) (h0 : 0 < k)
    (hk : ∀ x, (enc x).length = k) (h1 : ∀ x, ∀ u ∈ enc x, u.oneCell' = true)
    (hgd : o.guard = none) (s x : Operand) (ho : o.op = .call { callee := .builtin .append, args := #[s, x], argTypes := #[S, S] })
    (lo : Nat) (A : Option Addr) (c : Nat) (xs : List T) (w : World) (n : Nat) (ad : Addr) (m c2 : Nat) (ys : List T) (ha : Oe E k enc w lo A c xs) (hy : SlL w (some ad) k enc ys) (hn : n = xs.length) (hm : m = ys.length) (hs : a.eval s = .slice A n c)
    (hx : a.eval x = .slice (some ad) m c2) (hl : xs.length ≤ 1048576) (hl2 : ys.length ≤ 1048576) (hlo : lo ≤ w.heap.size)
    (h : ∀ A' c' w' us, Hid (us = xs ++ ys) → Oe E k enc w' lo A' c' us → Below lo w w' → (∀ b, b < w.heap.size → (∀ ad, A = some ad → ad.block ≠ b) → w'.heap[b]? = w.heap[b]?) → wpList Try.prog ops Q rest (a.put o.dst (.slice A' us.length c')) w') :
    wpList Try.prog ops Q (o :: rest) a w := by
  obtain ⟨i0, hi, hz0, hz2, hz3⟩ := info_parts hinfo
  subst hn hm
  refine wpList_plain hgd fun K hK => ?_
  have hb1 : (xs.length + ys.length) * bytes ≤ 2097152 * 64 := Nat.mul_le_mul (by omega) hby
  obtain ⟨v', w', hr, h2, h3⟩ := run_append_ownG (P := Try.prog) w lo S o.type E i0 z k bytes hS hi hz0 hz2 hz3 hzk h0 _ _ _ ha ad ys.length c2 (ys.flatMap enc) (flat_len hk ys) (SlL.cells hk hy) (flat_one h1 ys) (by unfold maxLen; omega) (by omega) hlo
  obtain ⟨A', c', rfl⟩ := h2.form
  unfold Oper.wp execOp
  simp only [ho, resolve, invoke, builtin, Sem.run_bind, Sem.run_pure, Result.andThen_ok, List.map_toArray, List.map_cons, List.map_nil, hs, hx, hr]
  refine hK _ _ ?_
  have hL : (xs ++ ys).length = xs.length + ys.length := List.length_append
  have hob : Oe E k enc w' lo A' c' (xs ++ ys) := by
    unfold Oe; rw [hL, List.flatMap_append]; exact h2
  have := h A' c' w' _ (Lib.hid rfl) hob (below_of_grown h3 hlo (fun k hk => (ownsG.lt ha k hk).1)) (fun b hb hne => h3.block b hb (by
    intro he
    cases A with
    | none => simp [Value.ownBlock] at he
    | some ad => simp [Value.ownBlock] at he; exact hne ad rfl he.symm))
  rw [hL] at this
  exact this
end
/-- copy(dst, src) behind or over what is written. -/
theorem copy_fillE {P : Program} (w : World) (dT sT ty elem : TypeId) (size n g o dLen dCap N : Nat) (a : Addr) (sLen sCap : Nat) (t : TypeId) (L cs : List Value)
    (hu : P.underlying dT = some (.slice elem)) (hs : (P.info? elem).map (·.size) = some size)
    (hF : Fill w g t N L) (hn : n = Nat.min sLen dLen) (hl : cs.length = n * size)
    (hsrc : ∀ j v, cs[j]? = some v → w.cell? (a.add j) = some v) (hk : o ≤ L.length) (hfit : o + cs.length ≤ N) (h1 : ∀ v ∈ cs, v.oneCell' = true) :
    ∃ w', (Builtin.copy_ #[dT, sT] ty #[.slice (some ⟨g, o, none⟩) dLen dCap, .slice (some a) sLen sCap]).run P w = .ok (goInt n) w' ∧ Fill w' g t N (L.take o ++ cs ++ L.drop (o + cs.length)) ∧ w.grownBy w' (some g) := by
  obtain ⟨cur, fz, hh, hzz, hsz, ht, hd⟩ := hF
  have hl' := run_loadCells_list (P := P) w a cs hsrc
  have hcur : cur.toList.length = N := by rw [Array.length_toList]; exact hsz
  have hst := run_storeCells_atD P g o t fz cs 0 cur w hh hzz (by rw [hsz]; simpa using hfit) h1
  have hsz2 : (cur.toList.take o ++ cs ++ cur.toList.drop (o + cs.length)).toArray.size = cur.size := by
    simp only [List.size_toArray, List.length_append, List.length_take, List.length_drop, Array.length_toList]
    omega
  have hr : (Builtin.copy_ #[dT, sT] ty #[.slice (some ⟨g, o, none⟩) dLen dCap, .slice (some a) sLen sCap]).run P w = .ok (goInt n) (w.setRow g (cur.toList.take o ++ cs ++ cur.toList.drop (o + cs.length)).toArray) := by
    cases hq : P.info? elem with
    | none => simp [hq] at hs
    | some i =>
      have hi : i.size = size := by simpa [hq] using hs
      rw [hl] at hl'
      simp [Builtin.copy_, run_underlying hu, Builtin.lenOf, Builtin.firstCells, sizeOf, typeInfo, hq, hi, ← hn, hl', hst]
  refine ⟨_, hr, ⟨_, fz, setRow_heap w g cur _ _ _ hh, hzz.imp id (by rw [hsz2]; exact id), by rw [hsz2]; exact hsz, ?_, ?_⟩, ⟨rfl, rfl, rfl, by simp, fun i _ hne => setRow_other w g i _ (by rintro rfl; exact hne rfl)⟩⟩
  · have e1 : cur.toList.take o = L.take o := by rw [← ht, List.take_take, Nat.min_eq_left hk]
    have e0 : (L.take o ++ cs).length = o + cs.length := by simp; omega
    show ((cur.toList.take o ++ cs ++ cur.toList.drop (o + cs.length)).toArray).toList.take (L.take o ++ cs ++ L.drop (o + cs.length)).length = _
    rw [List.toList_toArray, e1]
    rw [List.length_append, e0, List.take_append, e0, List.take_of_length_le (by omega), Nat.add_sub_cancel_left]
    congr 1
    rw [List.length_drop, ← List.drop_take, ht]
  · simp only [List.length_append, List.length_take, List.length_drop]
    omega
set_option maxHeartbeats 1000000 in
theorem cloneL_any (A : Option Addr) (c : Nat) (xs : List Lk) (w : World) (ha : Ks w A xs) (hl : xs.length ≤ 1048576) :
    Calls Try.prog 27 #[.slice A xs.length c] w (LkPost w xs) := by
  have hn := fun (w : World) (n : Nat) => Lib.run_eql_slice_nil (P := Try.prog) w 24 63 A n c 0 0 Try.underlying24
  cases A with
  | none =>
    have hx : xs = [] := by rcases ha with h | ⟨b, o, h, _⟩; exact h; cases h
    subst hx
    go_enter Try.func27, Try.ntmps27
    go_wp2_with fail
    go_ret
    exact ⟨none, 0, rfl, ownsG_nil _ _ _ _, Below.refl _ _⟩
  | some ad =>
    go_enter Try.func27, Try.ntmps27
    go_wp2_with (at_builtin; refine wp_appE 24 63 _ _ Try.underlying24 info_link (by decide) rfl (by decide) lk2 lk_one rfl _ _ rfl w.heap.size _ 0 [] _ 0 ad xs.length c xs Oe.empty (SlL.below ha (by (repeat (first | exact Below.refl _ _ | (refine Below.alloc ?_ (by first | omega | (simp; done) | (simp; omega)) _) | (refine Below.drew ?_) | (refine below_drewN ?_ _) | (refine below_at1 ?_ (by first | omega | (simp; done) | (simp; omega))) | (refine Below.setCell ?_ (by first | omega | (simp; done) | (simp; omega)) _) | (refine Below.trans ?_ (Below.mono (by assumption) (by first | omega | (simp; done) | (simp; omega)))))))) rfl rfl rfl rfl (by simp) hl (by simp) ?_; intro A2 c2 w2 us hus ho2 hb2 hk2)
    go_ret
    have hE := hus.out
    rw [List.nil_append] at hE
    subst hE
    exact ⟨A2, c2, rfl, ho2, ((Below.refl _ _).alloc (Nat.le_refl _) _).trans hb2⟩
end Go.Proofs.Ytndmdhmghjfckaa
