/- A predicate handed to the library: where it first holds; links and files. -/
import Derived.Test.YtfkdifgmhfdbdaaGreatDoorU7
namespace Go.Proofs.YtfkdifgmhfdbdaaGreatDoor
open Go.RowKit
set_option linter.unusedVariables false
set_option maxRecDepth 100000

/-- A function value that says p, in whatever world the blocks ahead of B lie as in w; it leaves all blocks alone. -/
def PredB {T : Type} (B : Nat) (w : World) (g : Nat) (lb : Array Value) (enc : T → Value) (p : T → Bool) : Prop :=
  ∀ (W : World) (x : T), Below B w W → Calls Tryz.prog g (#[enc x] ++ lb) W fun e w' => e = .returned (.bool (p x)) ∧ Below W.heap.size W w'
theorem PredB.mono {T : Type} {B B' : Nat} {w w' : World} {g : Nat} {lb : Array Value} {enc : T → Value} {p : T → Bool} (h : PredB B w g lb enc p) (hb : Below B w w') (hB : B ≤ B') : PredB B' w' g lb enc p :=
  fun W x hW => h W x (hb.trans (hW.mono hB))
/-- Where p first holds, or -1. -/
def ixV {T : Type} (p : T → Bool) (xs : List T) : Int := if xs.findIdx p < xs.length then (xs.findIdx p : Int) else -1
theorem ixV_hit {T : Type} {p : T → Bool} {xs : List T} {k : Nat} (hk : k < xs.length) (h : p xs[k] = true) (ha : ∀ j (hj : j < xs.length), j < k → p xs[j] = false) : xs.findIdx p = k ∧ ixV p xs = (k : Int) := by
  have e : xs.findIdx p = k := (List.findIdx_eq hk).2 ⟨h, fun j hj => ha j (by omega) hj⟩
  exact ⟨e, by rw [ixV, e, if_pos hk]⟩
theorem ixV_miss {T : Type} {p : T → Bool} {xs : List T} (ha : ∀ j (hj : j < xs.length), p xs[j] = false) : xs.findIdx p = xs.length ∧ ixV p xs = -1 := by
  have e : xs.findIdx p = xs.length := List.findIdx_eq_length.2 fun x hx => by
    obtain ⟨j, hj, rfl⟩ := List.getElem_of_mem hx
    exact ha j hj
  exact ⟨e, by rw [ixV, e, if_neg (by omega)]⟩
theorem ixV_any {T : Type} {p : T → Bool} {xs : List T} : decide (0 ≤ ixV p xs) = xs.any p := by
  rw [Bool.eq_iff_iff, decide_eq_true_eq, List.any_eq_true, ixV]
  have h := @List.findIdx_lt_length _ p xs
  constructor
  · intro h1
    split at h1
    · rename_i h2; obtain ⟨x, hx, hp⟩ := h.1 h2; exact ⟨x, hx, hp⟩
    · omega
  · rintro ⟨x, hx, hp⟩
    rw [if_pos (h.2 ⟨x, hx, hp⟩)]
    omega
theorem Fl.get {w : World} {A : Option Addr} {xs : List Fl} (h : SlL w A 3 flL xs) {k : Nat} (hk : k < xs.length) : ∃ b o, A = some ⟨b, o, none⟩ ∧ b < w.heap.size ∧ w.cell? ⟨b, o + k * 3, none⟩ = some (.int .i64 xs[k].1) ∧ w.cell? ⟨b, o + k * 3 + 1, none⟩ = some (.slice xs[k].2.1.1 xs[k].2.1.2.2.length xs[k].2.1.2.1) ∧ w.cell? ⟨b, o + k * 3 + 2, none⟩ = some (.int .i64 xs[k].2.2) := by
  obtain ⟨b, o, hA, hb, h1⟩ := SlL.get h hk (by simp)
  exact ⟨b, o, hA, hb, h1 0 _ rfl, h1 1 _ rfl, h1 2 _ rfl⟩
set_option maxHeartbeats 2000000 in
theorem ixLink_any (g : Nat) (lb : Array Value) (eg : ∀ args w, (callFunc g args).run Tryz.prog w = .ok (.enter g args) w) (p : Lk → Bool) (A : Option Addr) (c : Nat) (xs : List Lk) (w : World) (ha : SlL w A 2 lkL xs) (hl : xs.length ≤ 1099511627776) (hp : PredB w.heap.size w g lb lkV p) :
    Calls Tryz.prog 124 #[.slice A xs.length c, .func (.func g) #[] lb] w fun e w' => e = .returned (.int .i64 (ixV p xs)) ∧ Below w.heap.size w w' := by
  go_enter Tryz.func124, Tryz.ntmps124
  go_wp2_with fail
  go_loopw [8] (fun i wr => ∃ k : Nat, k ≤ xs.length ∧ i = .int .i64 k ∧ Hid (∀ j (hj : j < xs.length), j < k → p xs[j] = false) ∧ Below w.heap.size w wr) (fun i _ => xs.length - (intOf i).toNat)
  case atStart => exact ⟨0, Nat.zero_le _, rfl, fun j _ h => by omega, Below.refl _ _⟩
  case round =>
    obtain ⟨k, hk, rfl, hno, hb⟩ := hrel
    have zb := hb.size
    by_cases hlt : k < xs.length
    · obtain ⟨b, o, rfl, hbs, x0, x1⟩ := Ks.get (ha.below hb) hlt
      have hlt' : (k : Int) < xs.length := by omega
      have hcall := hp wr xs[k] hb
      clear hp
      cases hq : p xs[k] with
      | true =>
        rw [hq] at hcall
        have HX := Lib.hid (ixV_hit hlt hq hno.out).2
        clear hq hno
        go_wp2_with (go_at_fn g; refine hcall.mono ?_; rintro e w2 ⟨rfl, hb2⟩)
        go_ret
        exact ⟨ret_int HX.out.symm, hb.trans (hb2.mono zb)⟩
      | false =>
        rw [hq] at hcall
        have HQ := Lib.hid hq
        clear hq
        go_wp2_with (go_at_fn g; refine hcall.mono ?_; rintro e w2 ⟨rfl, hb2⟩)
        go_roundw
        case rel => exact ⟨k + 1, by omega, by go_num, fun j hj hjk => by
          rcases Nat.lt_or_ge j k with h | h
          · exact hno.out j hj h
          · obtain rfl : j = k := by omega
            exact HQ.out, hb.trans (hb2.mono zb)⟩
        case measure => simp [intOf]; omega
    · have hlt' : ¬ ((k : Int) < xs.length) := by omega
      have HX := Lib.hid (ixV_miss (p := p) fun j hj => hno.out j hj (by omega)).2
      clear hno
      go_wp2_with fail
      go_ret
      exact ⟨ret_int HX.out.symm, hb⟩
set_option maxHeartbeats 2000000 in
theorem ixFile_any (g : Nat) (lb : Array Value) (eg : ∀ args w, (callFunc g args).run Tryz.prog w = .ok (.enter g args) w) (p : Fl → Bool) (A : Option Addr) (c : Nat) (xs : List Fl) (w : World) (ha : SlL w A 3 flL xs) (hl : xs.length ≤ 1099511627776) (hp : PredB w.heap.size w g lb flV p) :
    Calls Tryz.prog 102 #[.slice A xs.length c, .func (.func g) #[] lb] w fun e w' => e = .returned (.int .i64 (ixV p xs)) ∧ Below w.heap.size w w' := by
  go_enter Tryz.func102, Tryz.ntmps102
  go_wp2_with fail
  go_loopw [8] (fun i wr => ∃ k : Nat, k ≤ xs.length ∧ i = .int .i64 k ∧ Hid (∀ j (hj : j < xs.length), j < k → p xs[j] = false) ∧ Below w.heap.size w wr) (fun i _ => xs.length - (intOf i).toNat)
  case atStart => exact ⟨0, Nat.zero_le _, rfl, fun j _ h => by omega, Below.refl _ _⟩
  case round =>
    obtain ⟨k, hk, rfl, hno, hb⟩ := hrel
    have zb := hb.size
    by_cases hlt : k < xs.length
    · obtain ⟨b, o, rfl, hbs, x0, x1, x2⟩ := Fl.get (ha.below hb) hlt
      have hlt' : (k : Int) < xs.length := by omega
      have hcall := hp wr xs[k] hb
      clear hp
      cases hq : p xs[k] with
      | true =>
        rw [hq] at hcall
        have HX := Lib.hid (ixV_hit hlt hq hno.out).2
        clear hq hno
        go_wp2_with (go_at_fn g; refine hcall.mono ?_; rintro e w2 ⟨rfl, hb2⟩)
        go_ret
        exact ⟨ret_int HX.out.symm, hb.trans (hb2.mono zb)⟩
      | false =>
        rw [hq] at hcall
        have HQ := Lib.hid hq
        clear hq
        go_wp2_with (go_at_fn g; refine hcall.mono ?_; rintro e w2 ⟨rfl, hb2⟩)
        go_roundw
        case rel => exact ⟨k + 1, by omega, by go_num, fun j hj hjk => by
          rcases Nat.lt_or_ge j k with h | h
          · exact hno.out j hj h
          · obtain rfl : j = k := by omega
            exact HQ.out, hb.trans (hb2.mono zb)⟩
        case measure => simp [intOf]; omega
    · have hlt' : ¬ ((k : Int) < xs.length) := by omega
      have HX := Lib.hid (ixV_miss (p := p) fun j hj => hno.out j hj (by omega)).2
      clear hno
      go_wp2_with fail
      go_ret
      exact ⟨ret_int HX.out.symm, hb⟩
/-- A variable that a function value has captured: block gp holds it. -/
theorem byName_any (F : Nat) (hF : F = 125 ∨ F = 138) (B gp : Nat) (nm : ByteArray) (w : World) (hB : gp < B) (hp : w.cell? ⟨gp, 0, none⟩ = some (.string nm)) :
    PredB B w F #[.pointer (some ⟨gp, 0, none⟩)] lkV fun x => eqN x.1 nm := by
  intro W x hW
  obtain ⟨s, i⟩ := x
  have hp' := (hW.cell (p := ⟨gp, 0, none⟩) hB).trans hp
  show Calls Tryz.prog F #[.agg #[.string s, .int .i64 i], .pointer (some ⟨gp, 0, none⟩)] W _
  have hgs := World.block_lt_of_cell? W _ hp'
  simp only at hgs
  have hne : ¬ gp = W.heap.size := by omega
  have HE : Hid (eqN s nm = (s.toList == nm.toList)) := rfl
  rcases hF with rfl | rfl
  · go_enter Tryz.func125, Tryz.ntmps125
    go_wp2_with fail
    go_ret
    exact ⟨ret_bool HE.out.symm, (by (repeat (first | exact Below.refl _ _ | (refine Below.alloc ?_ (by first | omega | (simp; done) | (simp; omega)) _) | (refine Below.drew ?_) | (refine below_drewN ?_ _) | (refine below_at1 ?_ (by first | omega | (simp; done) | (simp; omega))) | (refine Below.setCell ?_ (by first | omega | (simp; done) | (simp; omega)) _) | (refine Below.trans ?_ (Below.mono (by assumption) (by first | omega | (simp; done) | (simp; omega)))))))⟩
  · go_enter Tryz.func138, Tryz.ntmps138
    go_wp2_with fail
    go_ret
    exact ⟨ret_bool HE.out.symm, (by (repeat (first | exact Below.refl _ _ | (refine Below.alloc ?_ (by first | omega | (simp; done) | (simp; omega)) _) | (refine Below.drew ?_) | (refine below_drewN ?_ _) | (refine below_at1 ?_ (by first | omega | (simp; done) | (simp; omega))) | (refine Below.setCell ?_ (by first | omega | (simp; done) | (simp; omega)) _) | (refine Below.trans ?_ (Below.mono (by assumption) (by first | omega | (simp; done) | (simp; omega)))))))⟩
set_option maxHeartbeats 1000000 in
theorem linkOf_any (A : Option Addr) (c : Nat) (dir : List Lk) (nm : ByteArray) (w : World) (ha : Ks w A dir) (hl : dir.length ≤ 1099511627776) :
    Calls Tryz.prog 101 #[.slice A dir.length c, .string nm] w fun e w' => e = .returned (.int .i64 (ixV (fun x => eqN x.1 nm) dir)) ∧ Below w.heap.size w w' := by
  have hb0 : Below w.heap.size w (w.alloc (.cells #[.string nm] 9)) := by (repeat (first | exact Below.refl _ _ | (refine Below.alloc ?_ (by first | omega | (simp; done) | (simp; omega)) _) | (refine Below.drew ?_) | (refine below_drewN ?_ _) | (refine below_at1 ?_ (by first | omega | (simp; done) | (simp; omega))) | (refine Below.setCell ?_ (by first | omega | (simp; done) | (simp; omega)) _) | (refine Below.trans ?_ (Below.mono (by assumption) (by first | omega | (simp; done) | (simp; omega))))))
  have hp := byName_any 125 (.inl rfl) (w.alloc (.cells #[.string nm] 9)).heap.size w.heap.size nm (w.alloc (.cells #[.string nm] 9)) (by simp) (cell_of_row _ _ 0 _ _ (0, 0) (heap_alloc_new _ _))
  go_enter Tryz.func101, Tryz.ntmps101
  go_wp2_with fail
  refine (ixLink_any 125 _ (enters_of Tryz.func125 (by kernel_rfl) rfl) _ A c dir _ (SlL.below ha hb0) hl hp).mono ?_
  rintro e w1 ⟨rfl, hb1⟩
  go_wp2_with fail
  go_ret
  exact ⟨rfl, hb0.trans (hb1.mono hb0.size)⟩
end Go.Proofs.YtfkdifgmhfdbdaaGreatDoor
