/- The files that a directory does not link deleted: the program's way. The files that a directory does not link deleted: the program's way, on a disk in memory. A crash: plain; the cut of a file in a list of one's own. -/
import Derived.Test.YtndmdhmghjfckaaHg
namespace Go.Proofs.Ytndmdhmghjfckaa
open Go.RowKit

set_option linter.unusedVariables false
set_option maxRecDepth 100000

theorem kp_be {a b : Nat} {w w1 w2 : World} (h : Kp a b w w1) (hb : Below w1.heap.size w1 w2) (ha : a ≤ w.heap.size) : Kp a b w w2 :=
  ⟨h.1.trans (hb.mono (Nat.le_trans ha h.1.size)), fun k hk hs => (hb.block k (Nat.lt_of_lt_of_le hs h.1.size)).trans (h.2 k hk hs)⟩
set_option maxHeartbeats 8000000 in
theorem delFileK_any (gf : Nat) (lb : Array Value) (eg : ∀ args w, (callFunc gf args).run Try.prog w = .ok (.enter gf args) w) (p : Fl → Bool) (a b lo : Nat) (A : Option Addr) (c : Nat) (xs : List Fl) (w : World) (ha : Oe 36 3 flL w lo A c xs) (hl : xs.length ≤ 1000) (hlo : lo ≤ w.heap.size) (hab : ∀ ad, A = some ad → a ≤ ad.block ∧ ad.block < b) (haw : a ≤ w.heap.size) (hp : ∀ (W : World) (x : Fl), Kp a b w W → Calls Try.prog gf (#[flV x] ++ lb) W fun e w' => e = .returned (.bool (p x)) ∧ Below W.heap.size W w') :
    Calls Try.prog 30 #[.slice A xs.length c, .func (.func gf) #[] lb] w (fun e w' => e = .returned (.slice A (xs.filter fun x => !p x).length c) ∧ Oe 36 3 flL w' lo A c (xs.filter fun x => !p x) ∧ Kp a b w w') := by
  have hix := ixFile_any gf lb eg p A c xs w (ha.sl fl3) (by omega) (fun W x hW => hp W x (Kp.of_below hW haw))
  have hfl := @List.findIdx_lt_length _ p xs
  by_cases hany : xs.findIdx p < xs.length
  case neg =>
    have hno : ∀ x ∈ xs, p x = false := fun x hx => by
      cases h : p x with
      | false => rfl
      | true => exact absurd (hfl.2 ⟨x, hx, h⟩) hany
    have hE : Hid (xs.filter (fun x => !p x) = xs) := List.filter_eq_self.2 fun x hx => by rw [hno x hx]; rfl
    have hv : ixV p xs = -1 := if_neg hany
    rw [hv] at hix
    rw [hE.out]
    clear hno hany hfl hv hE
    go_enter Try.func30, Try.ntmps30
    go_wp2_with (go_at_call 53; refine hix.mono ?_; rintro e w1 ⟨rfl, hb1⟩)
    go_ret
    exact ⟨rfl, ha.below hb1 (Nat.le_refl _), Kp.of_below hb1 haw⟩
  case pos =>
    obtain ⟨i0, hi0⟩ : ∃ i0, i0 = xs.findIdx p := ⟨_, rfl⟩
    have hv : ixV p xs = (i0 : Int) := by rw [ixV, if_pos hany, hi0]
    have hil : i0 < xs.length := by omega
    have hpi : p xs[i0] = true := by subst hi0; exact List.findIdx_getElem
    have hno : ∀ j (hj : j < xs.length), j < i0 → p xs[j] = false := fun j hj h => by
      subst hi0
      cases h9 : p xs[j] with
      | false => rfl
      | true => exact absurd h9 (by simpa using List.not_of_lt_findIdx h)
    have h00 : (xs.take (i0 + 1)).filter (fun x => !p x) = xs.take i0 := by
      rw [filt_succ _ hil, hpi]
      simp only [Bool.not_true, Bool.false_eq_true, if_false, List.append_nil]
      refine List.filter_eq_self.2 fun x hx => ?_
      obtain ⟨j, hj, rfl⟩ := List.getElem_of_mem hx
      rw [List.length_take] at hj
      rw [List.getElem_take, hno j (by omega) (by omega)]
      rfl
    rw [hv] at hix
    obtain ⟨g, rfl, hlog, hcm, hcap, hF⟩ := ha.fillC fl3 (by omega)
    have hgg := hab _ rfl
    dsimp only at hgg
    have hcv : c ≤ 9223372036854775807 := by unfold maxLen at hcm; omega
    have H00 := Lib.hid h00
    have hle0 : (i0 : Int) < 1000 := by omega
    have hi1 : ((i0 : Int) == -1) = false := by rw [beq_eq_false_iff_ne]; omega
    have hwi : IntKind.i64.wrap ((i0 : Int) + 1) = (i0 : Int) + 1 := by rw [IntKind.wrap_i64]; omega
    obtain ⟨n, hn⟩ : ∃ n, n = xs.length := ⟨_, rfl⟩
    rw [← hn] at hl hil hcap ⊢
    have HN := Lib.hid hn
    clear hno hany hfl hv hi0 hpi h00 hn
    rw [← HN.out] at hix
    go_enter Try.func30, Try.ntmps30
    go_wp2_with (go_at_call 53; refine hix.mono ?_; rintro e w1 ⟨rfl, hb1⟩)
    have hF1 : Fill w1 g 36 (c * 3) (xs.flatMap flL) := hF.keep (hb1.block g hF.lt)
    have hlo1 : lo ≤ w1.heap.size := Nat.le_trans hlo hb1.size
    have hb1' := Kp.of_below (hi := b) hb1 haw
    clear hix hi1 hwi hF ha
    go_loopw [5, 6] (fun iv jv wr => ∃ (j : Nat) (ys us : List Fl), us.length < j ∧ j ≤ n ∧ iv = .int .i64 us.length ∧ jv = .int .i64 j ∧ ys.length = n ∧ Hid (us = (xs.take j).filter fun x => !p x) ∧ Hid (ys.take us.length = us) ∧ Hid (ys.drop j = xs.drop j) ∧ Fill wr g 36 (c * 3) (ys.flatMap flL) ∧ Kp a b w wr) (fun _ jv _ => n - (intOf jv).toNat)
    case atStart => exact ⟨i0 + 1, xs, xs.take i0, by rw [List.length_take, ← HN.out]; omega, by omega, by rw [List.length_take, ← HN.out, Nat.min_eq_left (by omega)], rfl, HN.out.symm, Lib.hid H00.out.symm, Lib.hid (by rw [List.length_take, ← HN.out, Nat.min_eq_left (by omega)]), Lib.hid rfl, hF1, hb1'⟩
    case round =>
      clear hF1 hlo1 hb1' hb1 hil hle0
      obtain ⟨j, ys, us, huj, hjn, rfl, rfl, hyl, hu, ht, hd, hF, hb⟩ := hrel
      have zF := hF.lt
      have zb := hb.1.size
      have zlo : lo ≤ wr.heap.size := Nat.le_trans hlo zb
      by_cases hlt : j < n
      · have hlt' : (j : Int) < n := by omega
        have hjx : j < xs.length := by have := HN.out; omega
        have hjy : j < ys.length := by omega
        have hyj := drop_get hd.out hjx hjy
        have x0 : wr.cell? ⟨g, j * 3, none⟩ = some (.int .i64 xs[j].1) := by
          have := hF.cells (j * 3 + 0) _ (flat_get fl3 ys j _ (List.getElem?_eq_getElem hjy) 0 _ rfl)
          rw [hyj] at this
          exact this
        have x1 : wr.cell? ⟨g, j * 3 + 1, none⟩ = some (.slice xs[j].2.1.1 xs[j].2.1.2.2.length xs[j].2.1.2.1) := by
          have := hF.cells (j * 3 + 1) _ (flat_get fl3 ys j _ (List.getElem?_eq_getElem hjy) 1 _ rfl)
          rw [hyj] at this
          exact this
        have x2 : wr.cell? ⟨g, j * 3 + 2, none⟩ = some (.int .i64 xs[j].2.2) := by
          have := hF.cells (j * 3 + 2) _ (flat_get fl3 ys j _ (List.getElem?_eq_getElem hjy) 2 _ rfl)
          rw [hyj] at this
          exact this
        have hcall := hp (wr.alloc (.cells (flL xs[j]).toArray 36)) xs[j] (kp_be hb ((Below.refl _ _).alloc (Nat.le_refl _) _) haw)
        have hb7 : Below wr.heap.size wr (wr.alloc (.cells (flL xs[j]).toArray 36)) := (Below.refl _ _).alloc (Nat.le_refl _) _
        have hsx := filt_succ (fun x => !p x) hjx
        cases hq : p xs[j] with
        | true =>
          rw [hq] at hcall
          have HU : Hid (us = (xs.take (j + 1)).filter fun x => !p x) := by
            show _ = _
            rw [hsx, hq, ← hu.out]
            simp
          have HD : Hid (ys.drop (j + 1) = xs.drop (j + 1)) := by
            have := congrArg (List.drop 1) hd.out
            show _ = _
            simpa [List.drop_drop] using this
          clear hq hsx hu hd hyj
          go_wp2_with (go_at_fn gf; refine hcall.mono ?_; rintro e w2 ⟨rfl, hb2⟩)
          have hF2 : Fill w2 g 36 (c * 3) (ys.flatMap flL) := hF.keep ((hb2.block g (by simp; omega)).trans (Below.heap_alloc wr _ g zF))
          go_roundw
          case rel => exact ⟨j + 1, ys, us, by omega, by omega, rfl, by go_num, hyl, HU, ht, HD, hF2, kp_be hb (hb7.trans (hb2.mono hb7.size)) haw⟩
          case measure => simp [intOf]; omega
        | false =>
          rw [hq] at hcall
          have HU : Hid (us ++ [xs[j]] = (xs.take (j + 1)).filter fun x => !p x) := by
            show _ = _
            rw [hsx, hq, ← hu.out]
            simp
          have HD : Hid ((ys.set us.length xs[j]).drop (j + 1) = xs.drop (j + 1)) := by
            have := congrArg (List.drop 1) hd.out
            show _ = _
            rw [List.drop_set_of_lt (by omega)]
            simpa [List.drop_drop] using this
          have HT : Hid ((ys.set us.length xs[j]).take (us.length + 1) = us ++ [xs[j]]) := by
            show _ = _
            rw [set_take (by omega), ht.out]
          have hul : us.length < n := by omega
          have hul' : (us.length : Int) < n := by omega
          have hu0 : (0 : Int) ≤ (us.length : Int) := by omega
          have hwu : IntKind.i64.wrap ((us.length : Int) + 1) = (us.length : Int) + 1 := by rw [IntKind.wrap_i64]; omega
          clear hq hsx hu hd hyj ht
          go_wp2_with (go_at_fn gf; refine hcall.mono ?_; rintro e w2 ⟨rfl, hb2⟩; have hF2 : Fill w2 g 36 (c * 3) (ys.flatMap flL) := hF.keep ((hb2.block g (by simp; omega)).trans (Below.heap_alloc wr _ g zF)); obtain ⟨B2, hyq, _, zy⟩ := keep_blk hb2 (g := wr.heap.size) (heap_alloc_new wr _); have y0 : w2.cell? ⟨wr.heap.size, 0, none⟩ = some (.int .i64 xs[j].1) := hyq 0; have y1 : w2.cell? ⟨wr.heap.size, 1, none⟩ = some (.slice xs[j].2.1.1 xs[j].2.1.2.2.length xs[j].2.1.2.1) := hyq 1; have y2 : w2.cell? ⟨wr.heap.size, 2, none⟩ = some (.int .i64 xs[j].2.2) := hyq 2; obtain ⟨u0, hu0⟩ := hF2.cell (us.length * 3) (by omega); have hf0 := hF2.frozen (us.length * 3) (by omega); obtain ⟨u1, hu1⟩ := hF2.cell (us.length * 3 + 1) (by omega); have hf1 := hF2.frozen (us.length * 3 + 1) (by omega); obtain ⟨u2, hu2⟩ := hF2.cell (us.length * 3 + 2) (by omega); have hf2 := hF2.frozen (us.length * 3 + 2) (by omega); clear B2 hyq)
          go_roundw
          case rel =>
            refine ⟨j + 1, ys.set us.length xs[j], us ++ [xs[j]], by simp; omega, by omega, by simp, by go_num, by rw [List.length_set]; exact hyl, HU, by rw [List.length_append]; exact HT, HD, ?_, ?_⟩
            · rw [← flat_set3 xs[j] ys us.length (by omega)]
              exact (((hF2.setAt (k := us.length * 3) (by simp only [flat_len fl3, hyl]; omega) (.int .i64 xs[j].1)).setAt (k := us.length * 3 + 1) (by simp only [List.length_set, flat_len fl3, hyl]; omega) (.slice xs[j].2.1.1 xs[j].2.1.2.2.length xs[j].2.1.2.1)).setAt (k := us.length * 3 + 2) (by simp only [List.length_set, flat_len fl3, hyl]; omega) (.int .i64 xs[j].2.2))
            · exact ((((kp_be hb (hb7.trans (hb2.mono hb7.size)) haw).setCell (by show a ≤ g; omega) (by show g < b; omega) _).setCell (by show a ≤ g; omega) (by show g < b; omega) _).setCell (by show a ≤ g; omega) (by show g < b; omega) _)
          case measure => simp [intOf]; omega
      · have hlt' : ¬ ((j : Int) < n) := by omega
        obtain rfl : j = n := by omega
        have HU : Hid (us = xs.filter fun x => !p x) := by
          show _ = _
          rw [hu.out, List.take_of_length_le (by have := HN.out; omega)]
        have hcu : ¬ c = us.length := by omega
        have hu0 : (0 : Int) ≤ (us.length : Int) := by omega
        have hu1 : (us.length : Int) ≤ j := by omega
        have hu2 : (us.length : Int) ≤ c := by omega
        obtain ⟨W1, hr1, hF2, hg1⟩ := clear_fillE (P := Try.prog) wr 23 36 0 36 (.agg #[.int .i64 0, .slice none 0 0, .int .i64 0]) g (us.length * 3) (j - us.length) (c - us.length) (c * 3) (ys.flatMap flL) Try.underlying23 (fun w => by kernel_rfl) (by decide) (by decide) hF (by omega) (by rw [flat_len fl3]; omega) (by show us.length * 3 + (j - us.length) * 3 ≤ c * 3; omega)
        have hpre : (ys.flatMap flL).take (us.length * 3) = us.flatMap flL := by rw [flat_take fl3 ys _ (by omega), ht.out]
        rw [hpre] at hF2
        have HO := Lib.hid (And.intro (Oe.of_fill (lo := lo) fl3 hF2 (by omega) hlog hcm) (hb.trans (Kp.of_grown (A := some ⟨g, 0, none⟩) (n := 0) (c := 0) hg1 (fun ad h => by injection h with h; subst h; exact hgg) (by omega))))
        clear hu ht hd hpre hF2 hg1 hF hyl
        go_wp2_with (at_builtin; refine wpList_clearE _ rfl _ 23 rfl _ rfl hr1 ?_)
        go_ret
        obtain ⟨h1, h2⟩ := HO.out
        rw [← HU.out]
        exact ⟨rfl, h1, h2⟩
/-- Whether a link is there for which p holds. -/
theorem hasLink_any (gf : Nat) (lb : Array Value) (eg : ∀ args w, (callFunc gf args).run Try.prog w = .ok (.enter gf args) w) (p : Lk → Bool) (A : Option Addr) (c : Nat) (xs : List Lk) (w : World) (ha : Ks w A xs) (hl : xs.length ≤ 1048576) (hp : PredB w.heap.size w gf lb lkV p) :
    Calls Try.prog 32 #[.slice A xs.length c, .func (.func gf) #[] lb] w fun e w' => e = .returned (.bool (xs.any p)) ∧ Below w.heap.size w w' := by
  have hix := ixLink_any gf lb eg p A c xs w ha (by omega) hp
  rcases ixV_cases p xs with h | ⟨k, hk, h⟩
  · rw [h] at hix
    have HN : Hid (xs.any p = false) := by
      show _ = _
      rw [List.any_eq_false]
      intro x hx hpx
      have h2 := List.findIdx_lt_length.2 ⟨x, hx, hpx⟩
      rw [ixV, if_pos h2] at h
      omega
    clear h
    go_enter Try.func32, Try.ntmps32
    go_wp2_with (go_at_call 54; refine hix.mono ?_; rintro e w1 ⟨rfl, hb1⟩)
    go_ret
    exact ⟨ret_bool HN.out.symm, hb1⟩
  · rw [h] at hix
    have HN : Hid (xs.any p = true) := by
      show _ = _
      rw [List.any_eq_true]
      unfold ixV at h
      split at h
      · rename_i h2
        exact ⟨_, List.getElem_mem h2, List.findIdx_getElem⟩
      · omega
    have hk0 : (0 : Int) ≤ (k : Int) := by omega
    clear h
    go_enter Try.func32, Try.ntmps32
    go_wp2_with (go_at_call 54; refine hix.mono ?_; rintro e w1 ⟨rfl, hb1⟩)
    go_ret
    exact ⟨ret_bool HN.out.symm, hb1⟩
/-- The closure that asks whether a link has a file's Id: the file's block is captured. -/
theorem idCl_any (gx : Nat) (i : Int) (w : World) (hx : w.cell? ⟨gx, 0, none⟩ = some (.int .i64 i)) :
    PredB w.heap.size w 33 #[.pointer (some ⟨gx, 0, none⟩)] lkV fun x => x.2 == i := by
  intro W x hW
  obtain ⟨s, j⟩ := x
  have hx' := (hW.cell (World.block_lt_of_cell? w _ hx)).trans hx
  have z := World.block_lt_of_cell? W _ hx'
  simp only at z
  have hne : ¬ gx = W.heap.size := by omega
  show Calls Try.prog _ #[.agg #[.string s, .int .i64 j], .pointer (some ⟨gx, 0, none⟩)] W _
  go_enter Try.func33, Try.ntmps33
  go_wp2_with fail
  go_ret
  exact ⟨rfl, (by (repeat (first | exact Below.refl _ _ | (refine Below.alloc ?_ (by first | omega | (simp; done) | (simp; omega)) _) | (refine Below.drew ?_) | (refine below_drewN ?_ _) | (refine below_at1 ?_ (by first | omega | (simp; done) | (simp; omega))) | (refine Below.setCell ?_ (by first | omega | (simp; done) | (simp; omega)) _) | (refine Below.trans ?_ (Below.mono (by assumption) (by first | omega | (simp; done) | (simp; omega)))))))⟩
/-- The closure that asks whether a file is not linked: the block of the disk's address is captured. -/
theorem linkCl_any (gb gd : Nat) (A : Option Addr) (c : Nat) (ks : List Lk) (x : Fl) (W : World) (hb : W.cell? ⟨gb, 0, none⟩ = some (.pointer (some ⟨gd, 0, none⟩))) (hd : W.cell? ⟨gd, 4, none⟩ = some (.slice A ks.length c)) (ha : Ks W A ks) (hl : ks.length ≤ 1048576) :
    Calls Try.prog 31 #[flV x, .pointer (some ⟨gb, 0, none⟩)] W fun e w' => e = .returned (.bool (!ks.any fun l => l.2 == x.1)) ∧ Below W.heap.size W w' := by
  obtain ⟨i, ⟨A2, c2, xs⟩, sf⟩ := x
  have z1 := World.block_lt_of_cell? W _ hb
  have z2 := World.block_lt_of_cell? W _ hd
  simp only at z1 z2
  have hne1 : ¬ gb = W.heap.size := by omega
  have hne2 : ¬ gd = W.heap.size := by omega
  have t0 : Below W.heap.size W (W.alloc (.cells #[.int .i64 i, .slice A2 xs.length c2, .int .i64 sf] 36)) := (Below.refl _ _).alloc (Nat.le_refl _) _
  have hp := idCl_any W.heap.size i (W.alloc (.cells #[.int .i64 i, .slice A2 xs.length c2, .int .i64 sf] 36)) (by rw [World.cell?_alloc_new]; rfl)
  have cH := hasLink_any 33 _ (enters_of Try.func33 (by kernel_rfl) rfl) _ A c ks _ (SlL.below ha t0) hl hp
  obtain ⟨R, hR⟩ : ∃ R, Hid ((ks.any fun l => l.2 == i) = R) := ⟨_, Lib.hid rfl⟩
  rw [hR.out] at cH
  show Calls Try.prog _ #[.agg #[.int .i64 i, .slice A2 xs.length c2, .int .i64 sf], .pointer (some ⟨gb, 0, none⟩)] W _
  go_enter Try.func31, Try.ntmps31
  go_wp2_with fail
  refine cH.mono ?_
  rintro e w1 ⟨rfl, hb1⟩
  go_wp2_with fail
  go_ret
  refine ⟨ret_bool ?_, t0.trans (hb1.mono t0.size)⟩
  show (!R) = !(ks.any fun l => l.2 == i)
  rw [hR.out]

set_option linter.unusedVariables false
set_option maxRecDepth 100000

theorem Obs.sub {w : World} {es l : List Sl} (h : l.Sublist es) : ∀ {lo hi : Nat}, Obs w lo hi es → Obs w lo hi l := by
  induction h with
  | slnil => exact fun h => h
  | cons a h ih => rintro lo hi ⟨m, h1, h2, h3, h4⟩; exact (ih h4).lower h1
  | cons_cons a h ih => rintro lo hi ⟨m, h1, h2, h3, h4⟩; exact ⟨m, h1, h2, h3, ih h4⟩
/-- The files that some links link. -/
def keepF (ks : List Lk) (fs : List Fl) : List Fl := fs.filter fun x => ks.any fun l => l.2 == x.1
set_option maxHeartbeats 4000000 in
theorem keepLinked_any (gd : Nat) (r f n : Int) (lo hi : Nat) (FA : Option Addr) (c1 : Nat) (fs : List Fl) (KA : Option Addr) (ks : List Lk) (c2 : Nat) (TA : Option Addr) (tn c3 : Nat) (w : World) (hD : w.heap[gd]? = some (.cells (dkC r f n FA fs.length c1 KA ks.length c2 TA tn c3) 27 (0, 0))) (hg : hi ≤ gd) (hF : FsG w lo hi FA c1 fs) (hK : ∀ W, Kp lo hi w W → Ks W KA ks) (hl : fs.length ≤ 1000) (hkl : ks.length ≤ 1048576) :
    Calls Try.prog 15 #[.pointer (some ⟨gd, 0, none⟩)] w fun e w' => e = .returned (.tuple #[]) ∧ w'.heap[gd]? = some (.cells (dkC r f n FA (keepF ks fs).length c1 KA ks.length c2 TA tn c3) 27 (0, 0)) ∧ FsG w' lo hi FA c1 (keepF ks fs) ∧ Below lo w w' ∧ (∀ k, hi ≤ k → k < w.heap.size → k ≠ gd → w'.heap[k]? = w.heap[k]?) := by
  have hgd := (Array.getElem?_eq_some_iff.1 hD).1
  have hle := hF.le
  have b0 : Below w.heap.size w (w.alloc (.cells #[.pointer (some ⟨gd, 0, none⟩)] 69)) := (Below.refl _ _).alloc (Nat.le_refl _) _
  have P0 : (w.alloc (.cells #[.pointer (some ⟨gd, 0, none⟩)] 69)).drew.heap[w.heap.size]? = some (.cells #[.pointer (some ⟨gd, 0, none⟩)] 69 (0, 0)) := heap_alloc_new _ _
  have D0 : (w.alloc (.cells #[.pointer (some ⟨gd, 0, none⟩)] 69)).drew.heap[gd]? = some (.cells (dkC r f n FA fs.length c1 KA ks.length c2 TA tn c3) 27 (0, 0)) := heap_alloc_of _ hD
  have bd : Below w.heap.size w (w.alloc (.cells #[.pointer (some ⟨gd, 0, none⟩)] 69)).drew := b0.drew
  have hF0 := hF.below bd (by omega)
  obtain ⟨a, b, ha1, hab, hb1, hA, hbo⟩ : ∃ a b, lo ≤ a ∧ a ≤ hi ∧ b ≤ hi ∧ (∀ ad, FA = some ad → a ≤ ad.block ∧ ad.block < b) ∧ (∀ e, e ∈ fs.map fb → ∀ ad, e.1 = some ad → ad.block < a ∨ b ≤ ad.block) := by
    cases FA with
    | none => exact ⟨lo, lo, Nat.le_refl _, hle, hle, fun _ h => (by cases h), fun e he ad had => .inr (hF.2.2.1.inB e he ad had).1⟩
    | some ad =>
      have h1 := hF.2.1 ad rfl
      exact ⟨ad.block, ad.block + 1, h1.1, by omega, h1.2, fun ad' h => by injection h with h; subst h; omega, fun e he ad' had => by have := hF.2.2.2 ad rfl e he ad' had; omega⟩
  have hp : ∀ (W : World) (x : Fl), Kp a b (w.alloc (.cells #[.pointer (some ⟨gd, 0, none⟩)] 69)).drew W → Calls Try.prog 31 (#[flV x] ++ #[.pointer (some ⟨w.heap.size, 0, none⟩)]) W fun e w' => e = .returned (.bool (!ks.any fun l => l.2 == x.1)) ∧ Below W.heap.size W w' := fun W x hW => by
    have q1 := blk_kp hW P0 (.inr (by omega))
    have q2 := blk_kp hW D0 (.inr (by omega))
    exact linkCl_any w.heap.size gd KA c2 ks x W (cell_of_row W _ 0 _ _ (0, 0) q1) (cell_of_row W _ 4 _ _ (0, 0) q2) (hK W ((Kp.of_below bd (by omega)).trans (hW.wide ha1 hb1))) hkl
  have cD := delFileK_any 31 _ (enters_of Try.func31 (by kernel_rfl) rfl) _ a b lo FA c1 fs (w.alloc (.cells #[.pointer (some ⟨gd, 0, none⟩)] 69)).drew hF0.1 hl (by simp; omega) hA (by simp; omega) hp
  clear hp
  go_enter Try.func15, Try.ntmps15
  go_wp2_with fail
  refine wp_regionK (fun w' => w'.heap[w.heap.size]? = some (.cells #[.pointer (some ⟨gd, 0, none⟩)] 69 (0, 0)) ∧ w'.heap[gd]? = some (.cells (dkC r f n FA fs.length c1 KA ks.length c2 TA tn c3) 27 (0, 0))) 9 (by kernel_rfl) ?_
  refine wpAnyK_take (i := 0) (v := .pointer (some ⟨gd, 0, none⟩)) rfl (by kernel_rfl) (by kernel_rfl) (by kernel_rfl) (fun _ _ _ h => h) (by kernel_rfl) (by kernel_rfl) (by decide) (Or.inl ⟨by rfl, (by intro w' hS; have q := cell_of_row w' w.heap.size 0 _ _ (0, 0) hS.1; go_simp; try first | rfl | (simp [*]; done))⟩) (⟨P0, D0⟩) ?_
  try simp only [Act.put, List.getElem_toArray, List.getElem_cons_zero, List.setIfInBounds_toArray, List.set_cons_zero, List.set_cons_succ]
  refine wpAnyK_take (i := 1) (v := .pointer (some ⟨gd, 0, none⟩)) rfl (by kernel_rfl) (by kernel_rfl) (by kernel_rfl) (fun _ _ _ h => h) (by kernel_rfl) (by kernel_rfl) (by decide) (Or.inl ⟨by rfl, (by intro w' hS; have q := cell_of_row w' w.heap.size 0 _ _ (0, 0) hS.1; go_simp; try first | rfl | (simp [*]; done))⟩) (⟨P0, D0⟩) ?_
  try simp only [Act.put, List.getElem_toArray, List.getElem_cons_succ, List.getElem_cons_zero, List.setIfInBounds_toArray, List.set_cons_zero, List.set_cons_succ]
  refine wpAnyK_free (i := 2) (v := .pointer (some ⟨gd, 0, none⟩)) rfl (by kernel_rfl) (by kernel_rfl) (by kernel_rfl) (fun _ _ _ h => h) (by decide) (Or.inl ⟨by rfl, (by intro w' _; go_simp; try first | rfl | (simp [*, Addr.add_lit]; done))⟩) (fun _ => ⟨P0, D0⟩) ?_
  try simp only [Act.put, List.getElem_toArray, List.getElem_cons_succ, List.getElem_cons_zero, List.setIfInBounds_toArray, List.set_cons_zero, List.set_cons_succ]
  refine wpAnyK_free (i := 3) (v := .pointer (some ⟨gd, 3, none⟩)) rfl (by kernel_rfl) (by kernel_rfl) (by kernel_rfl) (fun _ _ _ h => h) (by decide) (Or.inl ⟨by rfl, (by intro w' _; go_simp; try first | rfl | (simp [*, Addr.add_lit]; done))⟩) (fun _ => ⟨P0, D0⟩) ?_
  try simp only [Act.put, List.getElem_toArray, List.getElem_cons_succ, List.getElem_cons_zero, List.setIfInBounds_toArray, List.set_cons_zero, List.set_cons_succ]
  refine wpAnyK_take (i := 4) (v := .slice FA fs.length c1) rfl (by kernel_rfl) (by kernel_rfl) (by kernel_rfl) (fun _ _ _ h => h) (by kernel_rfl) (by kernel_rfl) (by decide) (Or.inl ⟨by rfl, (by intro w' hS; have q := cell_of_row w' gd 3 _ _ (0, 0) hS.2; go_simp; try first | rfl | (simp [*]; done))⟩) (⟨P0, D0⟩) ?_
  try simp only [Act.put, List.getElem_toArray, List.getElem_cons_succ, List.getElem_cons_zero, List.setIfInBounds_toArray, List.set_cons_zero, List.set_cons_succ]
  refine wpAnyK_free (i := 5) (v := .func (.func 31) #[] #[.pointer (some ⟨w.heap.size, 0, none⟩)]) rfl (by kernel_rfl) (by kernel_rfl) (by kernel_rfl) (fun _ _ _ h => h) (by decide) (Or.inl ⟨by rfl, (by intro w' _; go_simp; try first | rfl | (simp [*, Addr.add_lit]; done))⟩) (fun _ => ⟨P0, D0⟩) ?_
  try simp only [Act.put, List.getElem_toArray, List.getElem_cons_succ, List.getElem_cons_zero, List.setIfInBounds_toArray, List.set_cons_zero, List.set_cons_succ]
  refine wpAnyK_ready (rs := [6]) (by kernel_rfl) (by simp) ?_
  refine AllReadyK.cons rfl (fun K hK => ?_) AllReadyK.nil
  go_simp
  refine cD.mono ?_
  rintro e w1 ⟨rfl, ho1, kp1⟩
  have hkf : Hid ((fs.filter fun x => !(!ks.any fun l => l.2 == x.1)) = keepF ks fs) := by show _ = _; simp only [Bool.not_not]; rfl
  rw [hkf.out] at ho1 ⊢
  have P1 := blk_kp kp1 P0 (.inr (by omega))
  have D1 := blk_kp kp1 D0 (.inr (by omega))
  refine hK.out _ _ (fun _ => ⟨P1, D1⟩) ?_
  clear hK K
  try simp only [Act.put, List.getElem_toArray, List.getElem_cons_succ, List.getElem_cons_zero, List.setIfInBounds_toArray, List.set_cons_zero, List.set_cons_succ]
  refine wpAnyK_free (i := 7) (v := .pointer (some ⟨gd, 0, none⟩)) rfl (by kernel_rfl) (by kernel_rfl) (by kernel_rfl) (fun _ _ _ h => h) (by decide) (Or.inl ⟨by rfl, (by intro w' _; go_simp; try first | rfl | (simp [*, Addr.add_lit]; done))⟩) (fun _ => ⟨P1, D1⟩) ?_
  try simp only [Act.put, List.getElem_toArray, List.getElem_cons_succ, List.getElem_cons_zero, List.setIfInBounds_toArray, List.set_cons_zero, List.set_cons_succ]
  refine wpAnyK_free (i := 8) (v := .pointer (some ⟨gd, 3, none⟩)) rfl (by kernel_rfl) (by kernel_rfl) (by kernel_rfl) (fun _ _ _ h => h) (by decide) (Or.inl ⟨by rfl, (by intro w' _; go_simp; try first | rfl | (simp [*, Addr.add_lit]; done))⟩) (fun _ => ⟨P1, D1⟩) ?_
  try simp only [Act.put, List.getElem_toArray, List.getElem_cons_succ, List.getElem_cons_zero, List.setIfInBounds_toArray, List.set_cons_zero, List.set_cons_succ]
  have y1 : ∀ i, w1.cell? ⟨gd, i, none⟩ = _ := fun i => cell_of_row w1 _ i _ _ (0, 0) D1
  have f1 : ∀ i, w1.frozen? ⟨gd, i, none⟩ = false := fun i => by simp [World.frozen?, D1]
  refine wpAnyK_ready (rs := [9]) (by kernel_rfl) (by simp) ?_
  refine AllReadyK.cons rfl (fun K hK => ?_) AllReadyK.nil
  go_simp
  refine hK.out _ _ (late (by kernel_rfl)) ?_
  clear hK K
  try simp only [Act.put, List.getElem_toArray, List.getElem_cons_succ, List.getElem_cons_zero, List.setIfInBounds_toArray, List.set_cons_zero, List.set_cons_succ]
  refine wpAnyK_done (by kernel_rfl) ?_ _
  have z1 := kp1.1.size
  have kp : Kp lo hi w w1 := (Kp.of_below (hi := hi) bd (by omega)).trans (kp1.wide ha1 hb1)
  have D2 : (w1.setCell ⟨gd, 3, none⟩ (.slice FA (keepF ks fs).length c1)).heap[gd]? = some (.cells (dkC r f n FA (keepF ks fs).length c1 KA ks.length c2 TA tn c3) 27 (0, 0)) := heap_setCell_same _ D1
  have hG : FsG w1 lo hi FA c1 (keepF ks fs) := by
    obtain ⟨g1, g2, g3, g4⟩ := hF0
    have hs : ((keepF ks fs).map fb).Sublist (fs.map fb) := (List.filter_sublist ..).map _
    refine ⟨ho1, g2, ?_, fun ad ha e he => g4 ad ha e (hs.subset he)⟩
    refine (Obs.sub hs g3).keepX fun e he ad had => ?_
    have h1 := g3.inB e (hs.subset he) ad had
    rcases hbo e (hs.subset he) ad had with h2 | h2
    · exact kp1.1.block _ h2
    · exact kp1.2 _ h2 (by simp; omega)
  refine bodyPost_end (results_none rfl _ _ _) rfl ?_
  refine ⟨rfl, D2, hG.keep fun k _ h => Below.heap_setCell _ _ _ k (by show k ≠ gd; omega), kp.1.setCell (by show lo ≤ gd; omega) _, fun k h1 h2 h3 => (Below.heap_setCell _ _ _ k h3).trans (kp.2 k h1 h2)⟩

set_option linter.unusedVariables false
set_option maxRecDepth 100000

abbrev Fc := Int × List UInt8 × Int
/-- The number that a file is cut by. -/
def cutK (cuts : List Int) (i : Nat) : Int := if cuts = [] then 0 else (cuts[i % cuts.length]?).getD 0
/-- How many bytes of a file remain. -/
def cutN (k : Int) (x : Fc) : Nat := (x.2.2 + max 0 (min k ((x.2.1.length : Int) - x.2.2))).toNat
def cutC (k : Int) (x : Fc) : Fc := (x.1, x.2.1.take (cutN k x), (cutN k x : Int))
def crC (cuts : List Int) : Nat → List Fc → List Fc
  | _, [] => []
  | i, x :: r => cutC (cutK cuts i) x :: crC cuts (i + 1) r
def cutFl (k : Int) (x : Fl) : Fl := (x.1, (x.2.1.1, x.2.1.2.1, x.2.1.2.2.take (cutN k (fc x))), (cutN k (fc x) : Int))
def crF (cuts : List Int) : Nat → List Fl → List Fl
  | _, [] => []
  | i, x :: r => cutFl (cutK cuts i) x :: crF cuts (i + 1) r
theorem crF_fc (cuts : List Int) : ∀ (i : Nat) (xs : List Fl), (crF cuts i xs).map fc = crC cuts i (xs.map fc)
  | _, [] => rfl
  | i, x :: r => by rw [crF, List.map_cons, crF_fc cuts (i + 1) r, List.map_cons, crC]; rfl
theorem crF_len (cuts : List Int) : ∀ (i : Nat) (xs : List Fl), (crF cuts i xs).length = xs.length
  | _, [] => rfl
  | i, x :: r => by rw [crF, List.length_cons, crF_len, List.length_cons]
theorem crF_app (cuts : List Int) : ∀ (i : Nat) (a b : List Fl), crF cuts i (a ++ b) = crF cuts i a ++ crF cuts (i + a.length) b
  | i, [], b => by simp [crF]
  | i, x :: r, b => by
    rw [List.cons_append, crF, crF_app, crF, List.cons_append, List.length_cons]
    have : i + 1 + r.length = i + (r.length + 1) := by omega
    rw [this]
theorem crF_succ (cuts : List Int) {xs : List Fl} {j : Nat} (hj : j < xs.length) : crF cuts 0 (xs.take (j + 1)) = crF cuts 0 (xs.take j) ++ [cutFl (cutK cuts j) xs[j]] := by
  rw [take_succ_get (List.getElem?_eq_getElem hj), crF_app, List.length_take, Nat.min_eq_left (by omega), Nat.zero_add]
  rfl
theorem cutN_le {k : Int} {x : Fc} (h1 : x.2.2 ≤ x.2.1.length) : cutN k x ≤ x.2.1.length := by
  unfold cutN
  omega
theorem cutN_eq {k : Int} {x : Fc} (h0 : 0 ≤ x.2.2) : x.2.2 + max 0 (min k ((x.2.1.length : Int) - x.2.2)) = (cutN k x : Int) := by
  unfold cutN
  omega
/-- The files that some links link: content. -/
def keepC (ks : List Lk) (cs : List Fc) : List Fc := cs.filter fun x => ks.any fun l => l.2 == x.1
theorem keepF_fc (ks : List Lk) (fs : List Fl) : (keepF ks fs).map fc = keepC ks (fs.map fc) := by
  rw [keepC, keepF, List.filter_map]
  rfl
def crashV (turns : Int) (cuts : List Int) (r f n : Int) (cs : List Fc) (u : Nat) (ks : List Lk) (ts : List Tn) : DV :=
  if dkB r f n cs u ks ts = true then ⟨r, -1, n, crC cuts 0 (keepC (dirS ks (ts.take (max 0 (min turns ts.length)).toNat)) cs), dirS ks (ts.take (max 0 (min turns ts.length)).toNat), [], true⟩ else DV.no
/-- Of a valid disk: what is safe of a file. -/
theorem fB_safe : ∀ (n : Int) (l : List Fc) (p : Int), fB n p l = true → ∀ x, x ∈ l → 0 ≤ x.2.2 ∧ x.2.2 ≤ x.2.1.length
  | _, [], _, _ => fun x hx => by simp at hx
  | n, y :: r, p, h => by
    rw [fB] at h
    simp only [Bool.and_eq_true, decide_eq_true_eq] at h
    intro x hx
    rcases List.mem_cons.1 hx with rfl | hx
    · exact ⟨h.1.2.2.2.1, h.1.2.2.2.2⟩
    · exact fB_safe n r y.1 h.2 x hx
theorem dk_safe {r f n : Int} {cs : List Fc} {u : Nat} {ks : List Lk} {ts : List Tn} (h : dkB r f n cs u ks ts = true) : ∀ x, x ∈ cs → 0 ≤ x.2.2 ∧ x.2.2 ≤ x.2.1.length := by
  rw [dkB] at h
  simp only [Bool.and_eq_true] at h
  exact fB_safe n cs 0 h.1.1.1.2
theorem runI_take : ∀ (ts : List Tn) (ks : List Lk) (j : Nat), runI ks ts = true → runI ks (ts.take j) = true
  | [], ks, j, _ => by simp [runI]
  | t :: r, ks, 0, _ => rfl
  | t :: r, ks, j + 1, h => by
    rw [runI] at h
    simp only [Bool.and_eq_true] at h
    rw [List.take_succ_cons, runI, h.1.1, h.1.2, runI_take r _ j h.2]
    rfl
theorem Ob.take {w : World} {lo c m : Nat} {A : Option Addr} {bs : List UInt8} (h : Ob w lo A c bs) (hm : m ≤ bs.length) : Ob w lo A c (bs.take m) := by
  have hl : (bs.take m).length = m := by rw [List.length_take]; omega
  refine ⟨by rw [List.length_map, Nat.mul_one], ?_⟩
  rcases h.2 with ⟨h1, h2⟩ | ⟨g, cap, cur, fz, hv, h1, h2, h3, h4, h5, h6, h7⟩
  · injection h1 with h1 _ h3
    exact .inl ⟨by rw [h1, h3, hl]; congr 1; omega, by omega⟩
  · injection hv with hv _ hc
    refine .inr ⟨g, cap, cur, fz, by rw [hv, hc], h1, h2, h3, by omega, h5, h6, ?_⟩
    rw [hl, Nat.mul_one]
    have h8 : cur.toList.take m = (cur.toList.take (bs.length * 1)).take m := by rw [List.take_take, Nat.mul_one, Nat.min_eq_left hm]
    rw [h8, h7, List.map_take]
theorem By.take {w : World} {A : Option Addr} {bs : List UInt8} (h : By w A bs) (m : Nat) : By w A (bs.take m) := by
  rcases h with rfl | ⟨b, o, hA, h⟩
  · left; simp
  · exact .inr ⟨b, o, hA, fun i x hi => h i x (by
      rw [List.getElem?_take] at hi
      split at hi
      · exact hi
      · cases hi)⟩
/-- A file of a list of one's own, cut. -/
theorem FsG.cut {w : World} {lo hi g c : Nat} {l1 l2 : List Fl} {x : Fl} {m : Nat} (h : FsG w lo hi (some ⟨g, 0, none⟩) c (l1 ++ x :: l2)) (hm : m ≤ x.2.1.2.2.length) :
    FsG ((w.setCell ⟨g, l1.length * 3 + 2, none⟩ (.int .i64 (m : Int))).setCell ⟨g, l1.length * 3 + 1, none⟩ (.slice x.2.1.1 m x.2.1.2.1)) lo hi (some ⟨g, 0, none⟩) c (l1 ++ (x.1, (x.2.1.1, x.2.1.2.1, x.2.1.2.2.take m), (m : Int)) :: l2) := by
  obtain ⟨h1, h2, h3, h4⟩ := h
  obtain ⟨y, hy⟩ : ∃ y : Fl, y = (x.1, (x.2.1.1, x.2.1.2.1, x.2.1.2.2.take m), (m : Int)) := ⟨_, rfl⟩
  rw [← hy]
  have hyl : y.2.1.2.2.length = m := by rw [hy]; show (x.2.1.2.2.take m).length = m; rw [List.length_take]; omega
  have hap := h4 _ rfl
  dsimp only at hap
  obtain ⟨g', hg', hlo, hcm, hcap, hF⟩ := h1.fillC fl3 (by rw [List.length_append, List.length_cons]; omega)
  injection hg' with hg'
  injection hg' with hg' _ _
  subst hg'
  have hfl := flat_len fl3 (l1 ++ x :: l2)
  have hL : (l1 ++ x :: l2).length = l1.length + 1 + l2.length := by simp; omega
  have hgj : (l1 ++ x :: l2)[l1.length]? = some x := by rw [List.getElem?_append_right (Nat.le_refl _), Nat.sub_self]; rfl
  have y0 := flat_get fl3 _ l1.length _ hgj 0 _ rfl
  have hF1 := hF.setAt (k := l1.length * 3 + 2) (by rw [hfl, hL]; omega) (.int .i64 (m : Int))
  have hF2 := hF1.setAt (k := l1.length * 3 + 1) (by rw [List.length_set, hfl, hL]; omega) (.slice x.2.1.1 m x.2.1.2.1)
  have hset : (l1 ++ x :: l2).set l1.length y = l1 ++ y :: l2 := set_mid
  have h3e := flat_set3 y (l1 ++ x :: l2) l1.length (by rw [hL]; omega)
  have e0 : ((l1 ++ x :: l2).flatMap flL).set (l1.length * 3) (.int .i64 y.1) = (l1 ++ x :: l2).flatMap flL := set_same (by rw [hy]; simpa using y0)
  rw [e0, hset, hyl, List.set_comm _ _ (by omega)] at h3e
  have e1 : y.2.1.1 = x.2.1.1 := by rw [hy]
  have e2 : y.2.1.2.1 = x.2.1.2.1 := by rw [hy]
  have e3 : y.2.2 = (m : Int) := by rw [hy]
  rw [e1, e2, e3] at h3e
  rw [h3e] at hF2
  have hb : (l1 ++ x :: l2).map fb = l1.map fb ++ fb x :: l2.map fb := by simp
  have hb' : (l1 ++ y :: l2).map fb = l1.map fb ++ fb y :: l2.map fb := by simp
  rw [hb] at h3 hap
  have hap' : apart g (l1.map fb ++ fb y :: l2.map fb) := fun e he ad had => by
    rcases List.mem_append.1 he with h5 | h5
    · exact hap e (List.mem_append_left _ h5) ad had
    · rcases List.mem_cons.1 h5 with rfl | h5
      · have : x.2.1.1 = some ad := by rw [← e1]; exact had
        exact hap (fb x) (List.mem_append_right _ (List.mem_cons_self ..)) ad this
      · exact hap e (List.mem_append_right _ (List.mem_cons_of_mem _ h5)) ad had
  obtain ⟨m1, m2, q1, q2, q3, q4, q5, q6, q7⟩ := h3.split
  have q5' : Ob w m1 y.2.1.1 y.2.1.2.1 y.2.1.2.2 := by
    rw [hy]
    exact Ob.take (bs := x.2.1.2.2) q5 hm
  have q6' : InB m1 m2 (fb y).1 := by rw [hy]; exact q6
  have hO := Obs.join (e := fb y) q2 q5' q6' q7 q4
  refine ⟨Oe.of_fill fl3 hF2 (by rw [List.length_append, List.length_cons]; rw [List.length_append, List.length_cons] at hcap; omega) hlo hcm, h2, ?_, fun ad had => ?_⟩
  · rw [hb']
    exact (hO.set (p := ⟨g, _, none⟩) hap').set (p := ⟨g, _, none⟩) hap'
  · injection had with had
    subst had
    rw [hb']
    exact hap'
end Go.Proofs.Ytndmdhmghjfckaa
