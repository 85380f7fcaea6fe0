/- A link put into a directory, or taken out: the program's way. A turn applied: the program's way. -/
import Derived.Test.YtndmdhmghjfckaaVb
import Derived.Deep.RegionWith
namespace Go.Proofs.Ytndmdhmghjfckaa
open Go.RowKit

set_option linter.unusedVariables false
set_option maxRecDepth 100000

set_option maxHeartbeats 40000000 in
theorem withLink_any (A : Option Addr) (c : Nat) (dir : List Lk) (l : Lk) (w : World) (ha : Ks w A dir) (hl : dir.length ≤ 500) (hs : Srt dir) :
    Calls Try.prog 51 #[.slice A dir.length c, lkV l] w (LkPost w (insL dir (posN dir l.1) l)) := by
  have hb0 : Below w.heap.size w (w.alloc (.cells (lkL l).toArray 63)) := by (repeat (first | exact Below.refl _ _ | (refine Below.alloc ?_ (by first | omega | (simp; done) | (simp; omega)) _) | (refine Below.drew ?_) | (refine below_drewN ?_ _) | (refine below_at1 ?_ (by first | omega | (simp; done) | (simp; omega))) | (refine Below.setCell ?_ (by first | omega | (simp; done) | (simp; omega)) _) | (refine Below.trans ?_ (Below.mono (by assumption) (by first | omega | (simp; done) | (simp; omega))))))
  have hbs := bsearch_any A c dir l _ (SlL.below ha hb0) (by omega) hs
  have hpl := posN_le dir l.1
  obtain ⟨k, hk⟩ : ∃ k, k = posN dir l.1 := ⟨_, rfl⟩
  rw [← hk] at hbs hpl ⊢
  clear hk
  go_enter Try.func51, Try.ntmps51
  go_wp2_with fail
  refine hbs.mono ?_
  rintro e w1 ⟨b, rfl, hb1⟩
  obtain ⟨B1, y, _, z1⟩ := keep_blk hb1 (g := w.heap.size) (heap_alloc_new w _)
  have y0 : w1.cell? ⟨w.heap.size, 0, none⟩ = some (.string l.1) := y 0
  have y1 : w1.cell? ⟨w.heap.size, 1, none⟩ = some (.int .i64 l.2) := y 1
  have t1 := hb0.trans (hb1.mono hb0.size)
  have ha1 := SlL.below ha t1
  clear y B1 hbs hb1
  go_wp2_with fail
  go_region_with (first
    | (go_at_call 27; refine (cloneL_any A c dir _ (SlL.below ha1 (by (repeat (first | exact Below.refl _ _ | (refine Below.alloc ?_ (by first | omega | (simp; done) | (simp; omega)) _) | (refine Below.drew ?_) | (refine below_drewN ?_ _) | (refine below_at1 ?_ (by first | omega | (simp; done) | (simp; omega))) | (refine Below.setCell ?_ (by first | omega | (simp; done) | (simp; omega)) _) | (refine Below.trans ?_ (Below.mono (by assumption) (by first | omega | (simp; done) | (simp; omega)))))))) (by omega)).mono ?_; rintro e w2 ⟨A2, c2, rfl, ho2, hb2⟩; have hk2 : Below w1.heap.size w1 w2 := Below.trans (b := _) (by (repeat (first | exact Below.refl _ _ | (refine Below.alloc ?_ (by first | omega | (simp; done) | (simp; omega)) _) | (refine Below.drew ?_) | (refine below_drewN ?_ _) | (refine below_at1 ?_ (by first | omega | (simp; done) | (simp; omega))) | (refine Below.setCell ?_ (by first | omega | (simp; done) | (simp; omega)) _) | (refine Below.trans ?_ (Below.mono (by assumption) (by first | omega | (simp; done) | (simp; omega))))))) (hb2.mono (by first | omega | (simp; done) | (simp; omega))); have y0' := (hk2.cell (p := ⟨w.heap.size, 0, none⟩) z1).trans y0; have y1' := (hk2.cell (p := ⟨w.heap.size, 1, none⟩) z1).trans y1; have z2 := hb2.size; have z3 := hk2.size)
    | (go_at_call_of 68 w2; refine (insL_any w1.heap.size A2 c2 dir k l w2.heap.size 1 _ ((ho2.mono (show w1.heap.size ≤ _ from Nat.le_refl _)).alloc _) (by omega) hpl (by simp; omega) (heap_alloc_new w2 _) (fun ad h => by have := (ho2.inB ad h).2; omega)).mono ?_; rintro e w3 ⟨A3, c3, rfl, ho3, hb3⟩; have hk3 : Below w1.heap.size w1 w3 := (hk2.alloc hk2.size _).trans hb3)
    | (go_at_call_of 68 w1; refine (insL_any w1.heap.size A2 c2 dir k l w1.heap.size 1 _ (ho2.mono (by simp)) (by omega) hpl z3 ((hb2.block _ (by simp)).trans (heap_alloc_new w1 _)) (fun ad h => by have := (ho2.inB ad h).1; simp at this; omega)).mono ?_; rintro e w3 ⟨A3, c3, rfl, ho3, hb3⟩; have hk3 : Below w1.heap.size w1 w3 := hk2.trans hb3))
  all_goals (
    go_wp2_with fail
    go_ret
    exact ⟨A3, c3, rfl, ho3.mono t1.size, t1.trans (hk3.mono t1.size)⟩)
set_option maxHeartbeats 4000000 in
theorem withoutLink_any (A : Option Addr) (c : Nat) (dir : List Lk) (nm : ByteArray) (w : World) (ha : Ks w A dir) (hl : dir.length ≤ 1000) :
    Calls Try.prog 52 #[.slice A dir.length c, .string nm] w (LkPost w (lessS dir nm)) := by
  have hb0 : Below w.heap.size w (w.alloc (.cells #[.string nm] 9)) := by (repeat (first | exact Below.refl _ _ | (refine Below.alloc ?_ (by first | omega | (simp; done) | (simp; omega)) _) | (refine Below.drew ?_) | (refine below_drewN ?_ _) | (refine below_at1 ?_ (by first | omega | (simp; done) | (simp; omega))) | (refine Below.setCell ?_ (by first | omega | (simp; done) | (simp; omega)) _) | (refine Below.trans ?_ (Below.mono (by assumption) (by first | omega | (simp; done) | (simp; omega))))))
  go_enter Try.func52, Try.ntmps52
  go_wp2_with fail
  refine (cloneL_any A c dir _ (SlL.below ha hb0) (by omega)).mono ?_
  rintro e w2 ⟨A2, c2, rfl, ho2, hb2⟩
  have z0 : (w.alloc (.cells #[.string nm] 9)).heap.size = w.heap.size + 1 := by simp
  rw [z0] at ho2
  obtain ⟨B2, y, _, z2⟩ := keep_blk hb2 (g := w.heap.size) (heap_alloc_new w _)
  have y0 : w2.cell? ⟨w.heap.size, 0, none⟩ = some (.string nm) := y 0
  have hp := byName_any 70 (.inr rfl) (w.heap.size + 1) w.heap.size nm w2 (by omega) y0
  have hd := delLink_any 70 _ (enters_of Try.func70 (by kernel_rfl) rfl) _ (w.heap.size + 1) (w.heap.size + 1) A2 c2 dir w2 ho2 hl z2 (Nat.le_refl _) hp
  have t2 := hb0.trans (hb2.mono hb0.size)
  go_wp2_with fail
  refine hd.mono ?_
  rintro e w3 ⟨rfl, ho3, hb3⟩
  go_wp2_with fail
  go_ret
  exact ⟨A2, c2, rfl, Oe.mono ho3 (by omega), t2.trans (hb3.mono (by omega))⟩
def hasN (dir : List Lk) (n : ByteArray) : Bool := dir.any fun x => eqN x.1 n
/-- Whether a turn is applicable. -/
def okI (dir : List Lk) (t : Tn) : Bool := if t.1 = 1 then !hasN dir t.2.1 else hasN dir t.2.1 && !(decide (t.1 = 4) && eqN t.2.2.1 t.2.1)
theorem hasN_no {dir : List Lk} {n : ByteArray} (h : hasN dir n = false) : ∀ x, x ∈ dir → x.1 ≠ n := fun x hx e => by
  have := List.any_eq_false.1 h x hx
  simp [e, eqN_self] at this
theorem lessS_no (dir : List Lk) (n : ByteArray) : ∀ x, x ∈ lessS dir n → x.1 ≠ n := fun x hx => by
  have h := (List.mem_filter.1 hx).2
  exact eqN_no.1 (by simpa using h)
theorem findS_at : ∀ (dir : List Lk) (n : ByteArray) (k : Nat) (hk : k < dir.length), eqN dir[k].1 n = true → (∀ j (hj : j < dir.length), j < k → eqN dir[j].1 n = false) → findS dir n = dir[k].2
  | x :: r, n, 0, _, h, _ => by rw [findS, show eqN x.1 n = true from h]; rfl
  | x :: r, n, k + 1, hk, h, hno => by
    rw [findS, show eqN x.1 n = false from hno 0 (by simp) (by omega)]
    exact findS_at r n k (by simpa using hk) h fun j hj hjk => hno (j + 1) (by simpa using hj) (by omega)
theorem turnS_srt {dir : List Lk} {t : Tn} (hs : Srt dir) (h : okI dir t = true) : Srt (turnS dir t) := by
  unfold okI at h
  unfold turnS
  split
  · rename_i h1
    rw [if_pos h1] at h
    exact withS_srt dir hs (hasN_no (by simpa using h))
  · split
    · exact withS_srt _ ((hs.filter _).filter _) (lessS_no _ _)
    · exact hs.filter _

set_option linter.unusedVariables false
set_option maxRecDepth 100000

def ApPost (w : World) (ok : Bool) (us : List Lk) (e : Ending) (w' : World) : Prop :=
  Below w.heap.size w w' ∧ if ok = true then ∃ A' c', e = .returned (.tuple #[.slice A' us.length c', .bool true]) ∧ Oe 63 2 lkL w' w.heap.size A' c' us else e = .returned (.tuple #[.slice none 0 0, .bool false])
theorem ApPost.no {w w' : World} {us : List Lk} (h : Below w.heap.size w w') : ApPost w false us (.returned (.tuple #[.slice none 0 0, .bool false])) w' := ⟨h, by simp⟩
theorem ApPost.yes {w w' : World} {us : List Lk} {A' : Option Addr} {c' : Nat} (h : Below w.heap.size w w') (ho : Oe 63 2 lkL w' w.heap.size A' c' us) : ApPost w true us (.returned (.tuple #[.slice A' us.length c', .bool true])) w' := ⟨h, by rw [if_pos rfl]; exact ⟨A', c', rfl, ho⟩⟩
set_option maxHeartbeats 4000000 in
theorem applied_1 (A : Option Addr) (c : Nat) (dir : List Lk) (s u : ByteArray) (i : Int) (w : World) (ha : Ks w A dir) (hl : dir.length ≤ 400) (hs : Srt dir) :
    Calls Try.prog 29 #[.slice A dir.length c, tnV (1, s, u, i)] w (ApPost w (okI dir (1, s, u, i)) (turnS dir (1, s, u, i))) := by
  have hb0 : Below w.heap.size w (w.alloc (.cells (tnL (1, s, u, i)).toArray 66)) := by (repeat (first | exact Below.refl _ _ | (refine Below.alloc ?_ (by first | omega | (simp; done) | (simp; omega)) _) | (refine Below.drew ?_) | (refine below_drewN ?_ _) | (refine below_at1 ?_ (by first | omega | (simp; done) | (simp; omega))) | (refine Below.setCell ?_ (by first | omega | (simp; done) | (simp; omega)) _) | (refine Below.trans ?_ (Below.mono (by assumption) (by first | omega | (simp; done) | (simp; omega))))))
  have hlk := linkOf_any A c dir s _ (SlL.below ha hb0) (by omega)
  have hix : decide (0 ≤ ixV (fun x => eqN x.1 s) dir) = hasN dir s := ixV_any
  generalize ixV (fun x => eqN x.1 s) dir = r at hlk hix
  have HO : Hid (okI dir (1, s, u, i) = !hasN dir s) := if_pos rfl
  have HT : Hid (turnS dir (1, s, u, i) = withS dir s i) := if_pos rfl
  cases hh : hasN dir s with
  | true =>
    have hr : 0 ≤ r := by rw [hh] at hix; simpa using hix
    rw [HO.out, hh]
    clear hix hh HO
    go_enter Try.func29, Try.ntmps29
    go_wp2_with fail
    refine hlk.mono ?_
    rintro e w1 ⟨rfl, hb1⟩
    obtain ⟨B1, y, _, z1⟩ := keep_blk hb1 (g := w.heap.size) (heap_alloc_new w _)
    have y0 : w1.cell? ⟨w.heap.size, 0, none⟩ = some (.int .i64 1) := y 0
    have t1 := hb0.trans (hb1.mono hb0.size)
    clear y B1 hlk
    go_wp2_with fail
    go_ret2
    exact ApPost.no t1
  | false =>
    have hr : ¬ 0 ≤ r := by rw [hh] at hix; simpa using hix
    have HE : Hid (insL dir (posN dir s) (s, i) = withS dir s i) := insN_eq dir hs (hasN_no hh)
    rw [HO.out, hh, HT.out, ← HE.out]
    clear hix hh HO
    go_enter Try.func29, Try.ntmps29
    go_wp2_with fail
    refine hlk.mono ?_
    rintro e w1 ⟨rfl, hb1⟩
    obtain ⟨B1, y, _, z1⟩ := keep_blk hb1 (g := w.heap.size) (heap_alloc_new w _)
    have y0 : w1.cell? ⟨w.heap.size, 0, none⟩ = some (.int .i64 1) := y 0
    have y1 : w1.cell? ⟨w.heap.size, 1, none⟩ = some (.string s) := y 1
    have y3 : w1.cell? ⟨w.heap.size, 3, none⟩ = some (.int .i64 i) := y 3
    have t1 := hb0.trans (hb1.mono hb0.size)
    clear y B1 hlk
    go_wp2_with (go_at_call 51; refine (withLink_any A c dir (s, i) _ (SlL.below ha t1) (by omega) hs).mono ?_; rintro e w2 ⟨A2, c2, rfl, ho2, hb2⟩)
    go_ret2
    exact ApPost.yes (t1.trans (hb2.mono t1.size)) (Oe.mono ho2 t1.size)
set_option maxHeartbeats 4000000 in
theorem applied_n (A : Option Addr) (c : Nat) (dir : List Lk) (k : Int) (s u : ByteArray) (i : Int) (w : World) (ha : Ks w A dir) (hl : dir.length ≤ 400) (hk1 : k ≠ 1) (hno : okI dir (k, s, u, i) = false) (us : List Lk) :
    Calls Try.prog 29 #[.slice A dir.length c, tnV (k, s, u, i)] w (ApPost w false us) := by
  have hb0 : Below w.heap.size w (w.alloc (.cells (tnL (k, s, u, i)).toArray 66)) := by (repeat (first | exact Below.refl _ _ | (refine Below.alloc ?_ (by first | omega | (simp; done) | (simp; omega)) _) | (refine Below.drew ?_) | (refine below_drewN ?_ _) | (refine below_at1 ?_ (by first | omega | (simp; done) | (simp; omega))) | (refine Below.setCell ?_ (by first | omega | (simp; done) | (simp; omega)) _) | (refine Below.trans ?_ (Below.mono (by assumption) (by first | omega | (simp; done) | (simp; omega))))))
  have hlk := linkOf_any A c dir s _ (SlL.below ha hb0) (by omega)
  have hix : decide (0 ≤ ixV (fun x => eqN x.1 s) dir) = hasN dir s := ixV_any
  generalize ixV (fun x => eqN x.1 s) dir = r at hlk hix
  rw [okI, if_neg (show ¬ ((k, s, u, i) : Tn).1 = 1 from hk1)] at hno
  have hk1' : (k == 1) = false := by rw [beq_eq_false_iff_ne]; exact hk1
  cases hh : hasN dir s with
  | false =>
    have hr : r < 0 := by rw [hh] at hix; have := of_decide_eq_false hix; omega
    clear hix hh hno hk1
    go_enter Try.func29, Try.ntmps29
    go_wp2_with fail
    refine hlk.mono ?_
    rintro e w1 ⟨rfl, hb1⟩
    obtain ⟨B1, y, _, z1⟩ := keep_blk hb1 (g := w.heap.size) (heap_alloc_new w _)
    have y0 : w1.cell? ⟨w.heap.size, 0, none⟩ = some (.int .i64 k) := y 0
    have t1 := hb0.trans (hb1.mono hb0.size)
    clear y B1 hlk
    go_wp2_with fail
    go_ret2
    exact ApPost.no t1
  | true =>
    have hr : ¬ r < 0 := by rw [hh] at hix; have := of_decide_eq_true hix; omega
    rw [hh] at hno
    have hn2 : k = 4 ∧ (u.toList == s.toList) = true := by simpa [eqN] using hno
    obtain ⟨rfl, hus⟩ := hn2
    clear hix hh hno hk1
    go_enter Try.func29, Try.ntmps29
    go_wp2_with fail
    refine hlk.mono ?_
    rintro e w1 ⟨rfl, hb1⟩
    obtain ⟨B1, y, _, z1⟩ := keep_blk hb1 (g := w.heap.size) (heap_alloc_new w _)
    have y0 : w1.cell? ⟨w.heap.size, 0, none⟩ = some (.int .i64 4) := y 0
    have y1 : w1.cell? ⟨w.heap.size, 1, none⟩ = some (.string s) := y 1
    have y2 : w1.cell? ⟨w.heap.size, 2, none⟩ = some (.string u) := y 2
    have t1 := hb0.trans (hb1.mono hb0.size)
    clear y B1 hlk
    go_wp2_with fail
    go_ret2
    exact ApPost.no t1
set_option maxHeartbeats 8000000 in
theorem applied_5 (A : Option Addr) (c : Nat) (dir : List Lk) (k : Int) (s u : ByteArray) (i : Int) (w : World) (ha : Ks w A dir) (hl : dir.length ≤ 400) (hs : Srt dir) (hh : hasN dir s = true) (hk1 : k ≠ 1) (hk4 : k ≠ 4) :
    Calls Try.prog 29 #[.slice A dir.length c, tnV (k, s, u, i)] w (ApPost w true (turnS dir (k, s, u, i))) := by
  have hb0 : Below w.heap.size w (w.alloc (.cells (tnL (k, s, u, i)).toArray 66)) := by (repeat (first | exact Below.refl _ _ | (refine Below.alloc ?_ (by first | omega | (simp; done) | (simp; omega)) _) | (refine Below.drew ?_) | (refine below_drewN ?_ _) | (refine below_at1 ?_ (by first | omega | (simp; done) | (simp; omega))) | (refine Below.setCell ?_ (by first | omega | (simp; done) | (simp; omega)) _) | (refine Below.trans ?_ (Below.mono (by assumption) (by first | omega | (simp; done) | (simp; omega))))))
  have hlk := linkOf_any A c dir s _ (SlL.below ha hb0) (by omega)
  have hfl := (@List.findIdx_lt_length _ (fun x : Lk => eqN x.1 s) dir).2 (List.any_eq_true.1 hh)
  obtain ⟨m, hm⟩ : ∃ m, m = dir.findIdx fun x => eqN x.1 s := ⟨_, rfl⟩
  have hv : ixV (fun x => eqN x.1 s) dir = (m : Int) := by rw [ixV, if_pos hfl, hm]
  have hml : m < dir.length := by omega
  have hId : Hid (findS dir s = dir[m].2) := findS_at dir s m hml (by subst hm; exact List.findIdx_getElem (xs := dir) (p := fun x => eqN x.1 s)) (fun j hj h => by
    subst hm
    cases h9 : eqN dir[j].1 s with
    | false => rfl
    | true => exact absurd h9 (by simpa using List.not_of_lt_findIdx h))
  rw [hv] at hlk
  have HT : Hid (turnS dir (k, s, u, i) = lessS dir s) := by show _ = _; rw [turnS, if_neg (show ¬ ((k, s, u, i) : Tn).1 = 1 from hk1), if_neg (show ¬ ((k, s, u, i) : Tn).1 = 4 from hk4)]
  rw [HT.out]
  clear hfl hm hv hh
  obtain ⟨b, o, rfl, hbs, x0, x1⟩ := Ks.get ha hml
  have hml' : (m : Int) < dir.length := by omega
  have hm0 : (0 : Int) ≤ (m : Int) := by omega
  have hk1' : (k == 1) = false := by rw [beq_eq_false_iff_ne]; exact hk1
  have hk4' : (k == 4) = false := by rw [beq_eq_false_iff_ne]; exact hk4
  clear hk1 hk4
  go_enter Try.func29, Try.ntmps29
  go_wp2_with fail
  refine hlk.mono ?_
  rintro e w1 ⟨rfl, hb1⟩
  obtain ⟨B1, y, _, z1⟩ := keep_blk hb1 (g := w.heap.size) (heap_alloc_new w _)
  have y0 : w1.cell? ⟨w.heap.size, 0, none⟩ = some (.int .i64 k) := y 0
  have y1 : w1.cell? ⟨w.heap.size, 1, none⟩ = some (.string s) := y 1
  have y2 : w1.cell? ⟨w.heap.size, 2, none⟩ = some (.string u) := y 2
  have t1 := hb0.trans (hb1.mono hb0.size)
  have x1' : w1.cell? ⟨b, o + m * 2 + 1, none⟩ = some (.int .i64 dir[m].2) := (t1.cell (p := ⟨b, o + m * 2 + 1, none⟩) hbs).trans x1
  have zb1 : b < w1.heap.size := by have := t1.size; omega
  have ha1 := SlL.below ha t1
  clear y B1 hlk
  go_wp2_with fail
  go_region_with (go_at_call 52; refine (withoutLink_any _ c dir s _ (SlL.below ha1 (by (repeat (first | exact Below.refl _ _ | (refine Below.alloc ?_ (by first | omega | (simp; done) | (simp; omega)) _) | (refine Below.drew ?_) | (refine below_drewN ?_ _) | (refine below_at1 ?_ (by first | omega | (simp; done) | (simp; omega))) | (refine Below.setCell ?_ (by first | omega | (simp; done) | (simp; omega)) _) | (refine Below.trans ?_ (Below.mono (by assumption) (by first | omega | (simp; done) | (simp; omega)))))))) (by omega)).mono ?_; rintro e w2 ⟨A2, c2, rfl, ho2, hb2⟩; have hk2 : Below w1.heap.size w1 w2 := Below.trans (b := _) (by (repeat (first | exact Below.refl _ _ | (refine Below.alloc ?_ (by first | omega | (simp; done) | (simp; omega)) _) | (refine Below.drew ?_) | (refine below_drewN ?_ _) | (refine below_at1 ?_ (by first | omega | (simp; done) | (simp; omega))) | (refine Below.setCell ?_ (by first | omega | (simp; done) | (simp; omega)) _) | (refine Below.trans ?_ (Below.mono (by assumption) (by first | omega | (simp; done) | (simp; omega))))))) (hb2.mono (by first | omega | (simp; done) | (simp; omega))); have v0 := (hk2.cell (p := ⟨w.heap.size, 0, none⟩) z1).trans y0; have v1 := (hk2.cell (p := ⟨w.heap.size, 1, none⟩) z1).trans y1; have v2 := (hk2.cell (p := ⟨w.heap.size, 2, none⟩) z1).trans y2; have vx := (hk2.cell (p := ⟨b, o + m * 2 + 1, none⟩) zb1).trans x1'; have z2 := hk2.size)
  all_goals (
    have ho2' : Oe 63 2 lkL w2 w1.heap.size A2 c2 (lessS dir s) := ho2
    have t2 := t1.trans (hk2.mono t1.size)
    go_wp2_with fail
    go_ret2
    exact ApPost.yes t2 (Oe.mono ho2' t1.size))
set_option maxHeartbeats 8000000 in
theorem applied_4 (A : Option Addr) (c : Nat) (dir : List Lk) (s u : ByteArray) (i : Int) (w : World) (ha : Ks w A dir) (hl : dir.length ≤ 400) (hs : Srt dir) (hh : hasN dir s = true) (hus : eqN u s = false) :
    Calls Try.prog 29 #[.slice A dir.length c, tnV (4, s, u, i)] w (ApPost w true (turnS dir (4, s, u, i))) := by
  have hb0 : Below w.heap.size w (w.alloc (.cells (tnL (4, s, u, i)).toArray 66)) := by (repeat (first | exact Below.refl _ _ | (refine Below.alloc ?_ (by first | omega | (simp; done) | (simp; omega)) _) | (refine Below.drew ?_) | (refine below_drewN ?_ _) | (refine below_at1 ?_ (by first | omega | (simp; done) | (simp; omega))) | (refine Below.setCell ?_ (by first | omega | (simp; done) | (simp; omega)) _) | (refine Below.trans ?_ (Below.mono (by assumption) (by first | omega | (simp; done) | (simp; omega))))))
  have hlk := linkOf_any A c dir s _ (SlL.below ha hb0) (by omega)
  have hfl := (@List.findIdx_lt_length _ (fun x : Lk => eqN x.1 s) dir).2 (List.any_eq_true.1 hh)
  obtain ⟨m, hm⟩ : ∃ m, m = dir.findIdx fun x => eqN x.1 s := ⟨_, rfl⟩
  have hv : ixV (fun x => eqN x.1 s) dir = (m : Int) := by rw [ixV, if_pos hfl, hm]
  have hml : m < dir.length := by omega
  have hId : Hid (findS dir s = dir[m].2) := findS_at dir s m hml (by subst hm; exact List.findIdx_getElem (xs := dir) (p := fun x => eqN x.1 s)) (fun j hj h => by
    subst hm
    cases h9 : eqN dir[j].1 s with
    | false => rfl
    | true => exact absurd h9 (by simpa using List.not_of_lt_findIdx h))
  rw [hv] at hlk
  have HT : Hid (turnS dir (4, s, u, i) = insL (lessS (lessS dir s) u) (posN (lessS (lessS dir s) u) u) (u, dir[m].2)) := by
    show _ = _
    rw [turnS, if_neg (by simp), if_pos rfl]
    show withS (lessS (lessS dir s) u) u (findS dir s) = _
    rw [hId.out]
    exact (insN_eq _ ((hs.filter _).filter _) (lessS_no _ _)).symm
  rw [HT.out]
  clear hfl hm hv hh
  obtain ⟨b, o, rfl, hbs, x0, x1⟩ := Ks.get ha hml
  have hml' : (m : Int) < dir.length := by omega
  have hm0 : (0 : Int) ≤ (m : Int) := by omega
  have hus' : (u.toList == s.toList) = false := hus
  clear hus
  go_enter Try.func29, Try.ntmps29
  go_wp2_with fail
  refine hlk.mono ?_
  rintro e w1 ⟨rfl, hb1⟩
  obtain ⟨B1, y, _, z1⟩ := keep_blk hb1 (g := w.heap.size) (heap_alloc_new w _)
  have y0 : w1.cell? ⟨w.heap.size, 0, none⟩ = some (.int .i64 4) := y 0
  have y1 : w1.cell? ⟨w.heap.size, 1, none⟩ = some (.string s) := y 1
  have y2 : w1.cell? ⟨w.heap.size, 2, none⟩ = some (.string u) := y 2
  have t1 := hb0.trans (hb1.mono hb0.size)
  have x1' : w1.cell? ⟨b, o + m * 2 + 1, none⟩ = some (.int .i64 dir[m].2) := (t1.cell (p := ⟨b, o + m * 2 + 1, none⟩) hbs).trans x1
  have zb1 : b < w1.heap.size := by have := t1.size; omega
  have ha1 := SlL.below ha t1
  clear y B1 hlk
  go_wp2_with fail
  go_region_with (go_at_call 52; refine (withoutLink_any _ c dir s _ (SlL.below ha1 (by (repeat (first | exact Below.refl _ _ | (refine Below.alloc ?_ (by first | omega | (simp; done) | (simp; omega)) _) | (refine Below.drew ?_) | (refine below_drewN ?_ _) | (refine below_at1 ?_ (by first | omega | (simp; done) | (simp; omega))) | (refine Below.setCell ?_ (by first | omega | (simp; done) | (simp; omega)) _) | (refine Below.trans ?_ (Below.mono (by assumption) (by first | omega | (simp; done) | (simp; omega)))))))) (by omega)).mono ?_; rintro e w2 ⟨A2, c2, rfl, ho2, hb2⟩; have hk2 : Below w1.heap.size w1 w2 := Below.trans (b := _) (by (repeat (first | exact Below.refl _ _ | (refine Below.alloc ?_ (by first | omega | (simp; done) | (simp; omega)) _) | (refine Below.drew ?_) | (refine below_drewN ?_ _) | (refine below_at1 ?_ (by first | omega | (simp; done) | (simp; omega))) | (refine Below.setCell ?_ (by first | omega | (simp; done) | (simp; omega)) _) | (refine Below.trans ?_ (Below.mono (by assumption) (by first | omega | (simp; done) | (simp; omega))))))) (hb2.mono (by first | omega | (simp; done) | (simp; omega))); have v0 := (hk2.cell (p := ⟨w.heap.size, 0, none⟩) z1).trans y0; have v1 := (hk2.cell (p := ⟨w.heap.size, 1, none⟩) z1).trans y1; have v2 := (hk2.cell (p := ⟨w.heap.size, 2, none⟩) z1).trans y2; have vx := (hk2.cell (p := ⟨b, o + m * 2 + 1, none⟩) zb1).trans x1'; have z2 := hk2.size)
  all_goals (
    have ho2' : Oe 63 2 lkL w2 w1.heap.size A2 c2 (lessS dir s) := ho2
    have t2 := t1.trans (hk2.mono t1.size)
    have zz1 : w.heap.size < w2.heap.size := by omega
    have hl2 := lessS_len dir s
    have k2 := ho2'.sl lk2
    have l3 := lessS_len (lessS dir s) u
    have hs3 : Srt (lessS (lessS dir s) u) := (hs.filter _).filter _
    clear v1 vx x1' y0 y1 y2 x0 x1 ho2 hb2
    go_wp2_with fail
    first | (go_region_held3 (fun w' => Below w2.heap.size w2 w' ∧ w'.cell? ⟨w.heap.size, 2, none⟩ = some (.string u))
        (first | exact ⟨Below.drew (Below.refl _ _), by simpa using v2⟩ | assumption | (refine ⟨?_, ?_⟩ <;> assumption))
        (first
          | (go_at_call 52; refine (withoutLink_any _ _ _ u _ (SlL.below k2 (Below.drew (Below.refl _ _))) (by omega)).mono ?_; rintro e w3 ⟨A3, c3, rfl, ho3, hb3⟩; have hbw3 : Below w2.heap.size w2 w3 := (Below.drew (Below.refl w2.heap.size w2)).trans hb3; have k3 := ho3.sl lk2; have hkeep := And.intro hbw3 ((hbw3.cell (p := ⟨w.heap.size, 2, none⟩) zz1).trans v2))
          | (go_at_call 51; refine (withLink_any _ _ _ (u, dir[m].2) _ k3 (by omega) hs3).mono ?_; rintro e w4 ⟨A4, c4, rfl, ho4, hb4⟩; have hbw4 : Below w2.heap.size w2 w4 := hbw3.trans (hb4.mono hbw3.size); have hkeep2 := And.intro hbw4 ((hbw4.cell (p := ⟨w.heap.size, 2, none⟩) zz1).trans v2)))) | fail
    go_wp2_with fail
    go_ret2
    exact ApPost.yes (t2.trans (hbw4.mono t2.size)) (Oe.mono ho4 (by have := t2.size; have := hbw3.size; omega)))
theorem applied_any (A : Option Addr) (c : Nat) (dir : List Lk) (t : Tn) (w : World) (ha : Ks w A dir) (hl : dir.length ≤ 400) (hs : Srt dir) :
    Calls Try.prog 29 #[.slice A dir.length c, tnV t] w (ApPost w (okI dir t) (turnS dir t)) := by
  obtain ⟨k, s, u, i⟩ := t
  by_cases h1 : k = 1
  · subst h1
    exact applied_1 A c dir s u i w ha hl hs
  · cases ho : okI dir (k, s, u, i) with
    | false => exact applied_n A c dir k s u i w ha hl h1 ho _
    | true =>
      have ho2 := ho
      rw [okI, if_neg (show ¬ ((k, s, u, i) : Tn).1 = 1 from h1)] at ho2
      obtain ⟨hh, h2⟩ := Bool.and_eq_true_iff.1 ho2
      by_cases h4 : k = 4
      · subst h4
        exact applied_4 A c dir s u i w ha hl hs hh (by simpa using h2)
      · exact applied_5 A c dir k s u i w ha hl hs hh h1 h4
end Go.Proofs.Ytndmdhmghjfckaa
