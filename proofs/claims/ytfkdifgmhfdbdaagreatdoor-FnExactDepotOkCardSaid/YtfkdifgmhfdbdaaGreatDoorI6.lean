/- A link put into a directory, or taken out: the program's way. -/
import Derived.Test.YtfkdifgmhfdbdaaGreatDoorI5
import Derived.Deep.RegionWith
namespace Go.Proofs.YtfkdifgmhfdbdaaGreatDoor
open Go.RowKit
set_option linter.unusedVariables false
set_option maxRecDepth 100000

set_option maxHeartbeats 40000000 in
theorem withLink_any (A : Option Addr) (c : Nat) (dir : List Lk) (l : Lk) (w : World) (ha : Ks w A dir) (hl : dir.length ≤ 500) (hs : Srt dir) :
    Calls Tryz.prog 120 #[.slice A dir.length c, lkV l] w (LkPost w (insL dir (posN dir l.1) l)) := by
  have hb0 : Below w.heap.size w (w.alloc (.cells (lkL l).toArray 67)) := by (repeat (first | exact Below.refl _ _ | (refine Below.alloc ?_ (by first | omega | (simp; done) | (simp; omega)) _) | (refine Below.drew ?_) | (refine below_drewN ?_ _) | (refine below_at1 ?_ (by first | omega | (simp; done) | (simp; omega))) | (refine Below.setCell ?_ (by first | omega | (simp; done) | (simp; omega)) _) | (refine Below.trans ?_ (Below.mono (by assumption) (by first | omega | (simp; done) | (simp; omega))))))
  have hbs := bsearch_any A c dir l _ (SlL.below ha hb0) (by omega) hs
  have hpl := posN_le dir l.1
  obtain ⟨k, hk⟩ : ∃ k, k = posN dir l.1 := ⟨_, rfl⟩
  rw [← hk] at hbs hpl ⊢
  clear hk
  go_enter Tryz.func120, Tryz.ntmps120
  go_wp2_with fail
  refine hbs.mono ?_
  rintro e w1 ⟨b, rfl, hb1⟩
  obtain ⟨B1, y, _, z1⟩ := keep_blk hb1 (g := w.heap.size) (heap_alloc_new w _)
  have y0 : w1.cell? ⟨w.heap.size, 0, none⟩ = some (.string l.1) := y 0
  have y1 : w1.cell? ⟨w.heap.size, 1, none⟩ = some (.int .i64 l.2) := y 1
  have t1 := hb0.trans (hb1.mono hb0.size)
  have ha1 := SlL.below ha t1
  clear y B1 hbs hb1
  go_wp2_with fail
  go_region_with (first
    | (go_at_call 127; refine (cloneL_any A c dir _ (SlL.below ha1 (by (repeat (first | exact Below.refl _ _ | (refine Below.alloc ?_ (by first | omega | (simp; done) | (simp; omega)) _) | (refine Below.drew ?_) | (refine below_drewN ?_ _) | (refine below_at1 ?_ (by first | omega | (simp; done) | (simp; omega))) | (refine Below.setCell ?_ (by first | omega | (simp; done) | (simp; omega)) _) | (refine Below.trans ?_ (Below.mono (by assumption) (by first | omega | (simp; done) | (simp; omega)))))))) (by omega)).mono ?_; rintro e w2 ⟨A2, c2, rfl, ho2, hb2⟩; have hk2 : Below w1.heap.size w1 w2 := Below.trans (b := _) (by (repeat (first | exact Below.refl _ _ | (refine Below.alloc ?_ (by first | omega | (simp; done) | (simp; omega)) _) | (refine Below.drew ?_) | (refine below_drewN ?_ _) | (refine below_at1 ?_ (by first | omega | (simp; done) | (simp; omega))) | (refine Below.setCell ?_ (by first | omega | (simp; done) | (simp; omega)) _) | (refine Below.trans ?_ (Below.mono (by assumption) (by first | omega | (simp; done) | (simp; omega))))))) (hb2.mono (by first | omega | (simp; done) | (simp; omega))); have y0' := (hk2.cell (p := ⟨w.heap.size, 0, none⟩) z1).trans y0; have y1' := (hk2.cell (p := ⟨w.heap.size, 1, none⟩) z1).trans y1; have z2 := hb2.size; have z3 := hk2.size)
    | (go_at_call_of 136 w2; refine (insL_any w1.heap.size A2 c2 dir k l w2.heap.size 1 _ ((ho2.mono (show w1.heap.size ≤ _ from Nat.le_refl _)).alloc _) (by omega) hpl (by simp; omega) (heap_alloc_new w2 _) (fun ad h => by have := (ho2.inB ad h).2; omega)).mono ?_; rintro e w3 ⟨A3, c3, rfl, ho3, hb3⟩; have hk3 : Below w1.heap.size w1 w3 := (hk2.alloc hk2.size _).trans hb3)
    | (go_at_call_of 136 w1; refine (insL_any w1.heap.size A2 c2 dir k l w1.heap.size 1 _ (ho2.mono (by simp)) (by omega) hpl z3 ((hb2.block _ (by simp)).trans (heap_alloc_new w1 _)) (fun ad h => by have := (ho2.inB ad h).1; simp at this; omega)).mono ?_; rintro e w3 ⟨A3, c3, rfl, ho3, hb3⟩; have hk3 : Below w1.heap.size w1 w3 := hk2.trans hb3))
  all_goals (
    go_wp2_with fail
    go_ret
    exact ⟨A3, c3, rfl, ho3.mono t1.size, t1.trans (hk3.mono t1.size)⟩)
set_option maxHeartbeats 4000000 in
theorem withoutLink_any (A : Option Addr) (c : Nat) (dir : List Lk) (nm : ByteArray) (w : World) (ha : Ks w A dir) (hl : dir.length ≤ 1000) :
    Calls Tryz.prog 121 #[.slice A dir.length c, .string nm] w (LkPost w (lessS dir nm)) := by
  have hb0 : Below w.heap.size w (w.alloc (.cells #[.string nm] 9)) := by (repeat (first | exact Below.refl _ _ | (refine Below.alloc ?_ (by first | omega | (simp; done) | (simp; omega)) _) | (refine Below.drew ?_) | (refine below_drewN ?_ _) | (refine below_at1 ?_ (by first | omega | (simp; done) | (simp; omega))) | (refine Below.setCell ?_ (by first | omega | (simp; done) | (simp; omega)) _) | (refine Below.trans ?_ (Below.mono (by assumption) (by first | omega | (simp; done) | (simp; omega))))))
  go_enter Tryz.func121, Tryz.ntmps121
  go_wp2_with fail
  refine (cloneL_any A c dir _ (SlL.below ha hb0) (by omega)).mono ?_
  rintro e w2 ⟨A2, c2, rfl, ho2, hb2⟩
  have z0 : (w.alloc (.cells #[.string nm] 9)).heap.size = w.heap.size + 1 := by simp
  rw [z0] at ho2
  obtain ⟨B2, y, _, z2⟩ := keep_blk hb2 (g := w.heap.size) (heap_alloc_new w _)
  have y0 : w2.cell? ⟨w.heap.size, 0, none⟩ = some (.string nm) := y 0
  have hp := byName_any 138 (.inr rfl) (w.heap.size + 1) w.heap.size nm w2 (by omega) y0
  have hd := delLink_any 138 _ (enters_of Tryz.func138 (by kernel_rfl) rfl) _ (w.heap.size + 1) (w.heap.size + 1) A2 c2 dir w2 ho2 hl z2 (Nat.le_refl _) hp
  have t2 := hb0.trans (hb2.mono hb0.size)
  go_wp2_with fail
  refine hd.mono ?_
  rintro e w3 ⟨rfl, ho3, hb3⟩
  go_wp2_with fail
  go_ret
  exact ⟨A2, c2, rfl, Oe.mono ho3 (by omega), t2.trans (hb3.mono (by omega))⟩
def hasN (dir : List Lk) (n : ByteArray) : Bool := dir.any fun x => eqN x.1 n
/-- Whether a turn is applicable. -/
def okI (dir : List Lk) (t : Tn) : Bool := if t.1 = 1 then !hasN dir t.2.1 else hasN dir t.2.1 && !(decide (t.1 = 4) && eqN t.2.2.1 t.2.1)
theorem hasN_no {dir : List Lk} {n : ByteArray} (h : hasN dir n = false) : ∀ x, x ∈ dir → x.1 ≠ n := fun x hx e => by
  have := List.any_eq_false.1 h x hx
  simp [e, eqN_self] at this
theorem lessS_no (dir : List Lk) (n : ByteArray) : ∀ x, x ∈ lessS dir n → x.1 ≠ n := fun x hx => by
  have h := (List.mem_filter.1 hx).2
  exact eqN_no.1 (by simpa using h)
theorem findS_at : ∀ (dir : List Lk) (n : ByteArray) (k : Nat) (hk : k < dir.length), eqN dir[k].1 n = true → (∀ j (hj : j < dir.length), j < k → eqN dir[j].1 n = false) → findS dir n = dir[k].2
  | x :: r, n, 0, _, h, _ => by rw [findS, show eqN x.1 n = true from h]; rfl
  | x :: r, n, k + 1, hk, h, hno => by
    rw [findS, show eqN x.1 n = false from hno 0 (by simp) (by omega)]
    exact findS_at r n k (by simpa using hk) h fun j hj hjk => hno (j + 1) (by simpa using hj) (by omega)
theorem turnS_srt {dir : List Lk} {t : Tn} (hs : Srt dir) (h : okI dir t = true) : Srt (turnS dir t) := by
  unfold okI at h
  unfold turnS
  split
  · rename_i h1
    rw [if_pos h1] at h
    exact withS_srt dir hs (hasN_no (by simpa using h))
  · split
    · exact withS_srt _ ((hs.filter _).filter _) (lessS_no _ _)
    · exact hs.filter _
end Go.Proofs.YtfkdifgmhfdbdaaGreatDoor
