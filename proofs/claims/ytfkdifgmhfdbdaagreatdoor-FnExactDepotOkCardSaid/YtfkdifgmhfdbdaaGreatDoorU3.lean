/- Files, links and turns of a disk: copied into slices of one's own. -/
import Derived.Test.YtfkdifgmhfdbdaaGreatDoorU2
namespace Go.Proofs.YtfkdifgmhfdbdaaGreatDoor
open Go.RowKit
set_option linter.unusedVariables false
set_option maxRecDepth 100000

theorem info_link : (Tryz.prog.info? 67).map (fun i => (i.zero, i.size, i.bytes)) = some (some (.agg #[.string ByteArray.empty, .int .i64 0]), 2, 24) := by kernel_rfl
theorem info_turn : (Tryz.prog.info? 94).map (fun i => (i.zero, i.size, i.bytes)) = some (some (.agg #[.int .i64 0, .string ByteArray.empty, .string ByteArray.empty, .int .i64 0]), 4, 48) := by kernel_rfl
theorem info_file : (Tryz.prog.info? 89).map (fun i => (i.zero, i.size, i.bytes)) = some (some (.agg #[.int .i64 0, .slice none 0 0, .int .i64 0]), 3, 40) := by kernel_rfl
theorem toLink_any (x : Lk) (w : World) : Calls Tryz.prog 76 #[lkV x] w fun e w' => e = .returned (lkV x) ∧ Below w.heap.size w w' := by
  obtain ⟨s, i⟩ := x
  go_enter Tryz.func76, Tryz.ntmps76
  go_wp2_with fail
  exact bodyPost_ret (v := lkV (s, i)) (by simp [results, Tryz.results76, go_sem, *]) rfl ⟨rfl, (by (repeat (first | exact Below.refl _ _ | (refine Below.alloc ?_ (by first | omega | (simp; done) | (simp; omega)) _) | (refine Below.drew ?_) | (refine below_drewN ?_ _) | (refine below_at1 ?_ (by first | omega | (simp; done) | (simp; omega))) | (refine Below.setCell ?_ (by first | omega | (simp; done) | (simp; omega)) _) | (refine Below.trans ?_ (Below.mono (by assumption) (by first | omega | (simp; done) | (simp; omega)))))))⟩
theorem toTurn_any (x : Tn) (w : World) : Calls Tryz.prog 77 #[tnV x] w fun e w' => e = .returned (tnV x) ∧ Below w.heap.size w w' := by
  obtain ⟨k, s, t, i⟩ := x
  go_enter Tryz.func77, Tryz.ntmps77
  go_wp2_with fail
  exact bodyPost_ret (v := tnV (k, s, t, i)) (by simp [results, Tryz.results77, go_sem, *]) rfl ⟨rfl, (by (repeat (first | exact Below.refl _ _ | (refine Below.alloc ?_ (by first | omega | (simp; done) | (simp; omega)) _) | (refine Below.drew ?_) | (refine below_drewN ?_ _) | (refine below_at1 ?_ (by first | omega | (simp; done) | (simp; omega))) | (refine Below.setCell ?_ (by first | omega | (simp; done) | (simp; omega)) _) | (refine Below.trans ?_ (Below.mono (by assumption) (by first | omega | (simp; done) | (simp; omega)))))))⟩
theorem ob_set {w : World} {lo c : Nat} {A : Option Addr} {bs : List UInt8} {p : Addr} {v : Value} (h : Ob w lo A c bs) (hp : p.block < lo) : Ob (w.setCell p v) lo A c bs :=
  h.keepB fun ad ha => Below.heap_setCell w p v _ (by have := (h.inB ad ha).1; omega)
def FilePost (w : World) (x : Fl) (e : Ending) (w' : World) : Prop :=
  ∃ A2 c2, e = .returned (flV (x.1, (A2, c2, x.2.1.2.2), x.2.2)) ∧ Ob w' w.heap.size A2 c2 x.2.1.2.2 ∧ Below w.heap.size w w'
set_option maxHeartbeats 1000000 in
theorem toFile_any (x : Fl) (w : World) (hb' : By w x.2.1.1 x.2.1.2.2) (hl' : x.2.1.2.2.length ≤ 1099511627776) : Calls Tryz.prog 75 #[flV x] w (FilePost w x) := by
  obtain ⟨k, ⟨A, c, xs⟩, i⟩ := x
  dsimp only at hb' hl'
  go_enter Tryz.func75, Tryz.ntmps75
  go_wp2_with fail
  have hb0 : Below w.heap.size w (((w.alloc (.cells #[.int .i64 k, .slice A xs.length c, .int .i64 i] 103)).alloc (.cells #[.int .i64 0, .slice none 0 0, .int .i64 0] 89)).alloc (.cells #[.int .i64 k, .slice none 0 0, .int .i64 0] 89)) := by (repeat (first | exact Below.refl _ _ | (refine Below.alloc ?_ (by first | omega | (simp; done) | (simp; omega)) _) | (refine Below.drew ?_) | (refine below_drewN ?_ _) | (refine below_at1 ?_ (by first | omega | (simp; done) | (simp; omega))) | (refine Below.setCell ?_ (by first | omega | (simp; done) | (simp; omega)) _) | (refine Below.trans ?_ (Below.mono (by assumption) (by first | omega | (simp; done) | (simp; omega))))))
  refine (toByteS_any _ _ xs _ (hb'.below hb0) (by omega)).mono ?_
  rintro e w2 ⟨A2, c2, rfl, ho2, hb2⟩
  obtain ⟨B2, q2, r2, z2⟩ := keep_blk hb2 (g := w.heap.size) (by repeat (first | assumption | exact heap_alloc_at _ (by first | rfl | (simp; done) | omega) | refine heap_alloc_of _ ?_ | refine heap_setCell_of _ (by first | omega | (simp; done) | (simp; omega)) ?_ | refine heap_setCell_same _ ?_ | exact heap_at1_same (by first | omega | (simp; done) | (simp; omega)) | refine heap_at1_of (by first | omega | (simp; done) | (simp; omega)) ?_))
  obtain ⟨C2, qq2, rr2, zz2⟩ := keep_blk hb2 (g := w.heap.size + 1) (by repeat (first | assumption | exact heap_alloc_at _ (by first | rfl | (simp; done) | omega) | refine heap_alloc_of _ ?_ | refine heap_setCell_of _ (by first | omega | (simp; done) | (simp; omega)) ?_ | refine heap_setCell_same _ ?_ | exact heap_at1_same (by first | omega | (simp; done) | (simp; omega)) | refine heap_at1_of (by first | omega | (simp; done) | (simp; omega)) ?_))
  obtain ⟨D2, qd2, rd2, zd2⟩ := keep_blk hb2 (g := w.heap.size + 1 + 1) (by repeat (first | assumption | exact heap_alloc_at _ (by first | rfl | (simp; done) | omega) | refine heap_alloc_of _ ?_ | refine heap_setCell_of _ (by first | omega | (simp; done) | (simp; omega)) ?_ | refine heap_setCell_same _ ?_ | exact heap_at1_same (by first | omega | (simp; done) | (simp; omega)) | refine heap_at1_of (by first | omega | (simp; done) | (simp; omega)) ?_))
  have t2 := hb0.trans (hb2.mono hb0.size)
  go_wp2_with fail
  refine bodyPost_ret (v := flV (k, (A2, c2, xs), i)) (by simp [results, Tryz.results75, go_sem, *]) rfl ?_
  have ho3 : Ob w2 (w.heap.size + 3) A2 c2 xs := ho2.mono (by simp)
  refine ⟨A2, c2, rfl, ?_, ?_⟩
  · refine ownsG.mono (base := w.heap.size + 3) ?_ (by omega)
    show Ob _ (w.heap.size + 3) A2 c2 xs
    refine ob_set (ob_set (ob_set (ob_set (ob_set ho3 ?_) ?_) ?_) ?_) ?_
    all_goals (simp; try omega)
  · exact ((((t2.setCell (by first | omega | (simp; done) | (simp; omega)) _).setCell (by first | omega | (simp; done) | (simp; omega)) _).setCell (by first | omega | (simp; done) | (simp; omega)) _).setCell (by first | omega | (simp; done) | (simp; omega)) _).setCell (by first | omega | (simp; done) | (simp; omega)) _
set_option maxHeartbeats 2000000 in
theorem toLinkS_any (A : Option Addr) (c : Nat) (cs : List Lk) (w : World) (ha : Ks w A cs) (hl : cs.length ≤ 1048576) :
    Calls Tryz.prog 40 #[.slice A cs.length c] w fun e w' => ∃ A' c', e = .returned (.slice A' cs.length c') ∧ Oe 67 2 lkL w' w.heap.size A' c' cs ∧ Below w.heap.size w w' := by
  obtain ⟨i0, hi, hz0, hz1, hz2⟩ := info_parts info_link
  go_enter Tryz.func40, Tryz.ntmps40
  go_wp2_with (at_make; refine wpList_make_full _ rfl _ _ _ rfl w.heap.size 67 i0 _ 2 Tryz.underlying32 hi hz0 hz1 _ _ _ _ cs.length rfl rfl rfl rfl (by rw [hz2]; omega) (by unfold maxLen; omega) (Nat.le_refl _) ?_; intro w1 hown hgrow)
  clear hi hz0 hz1 hz2
  have hF : Fill w1 w.heap.size 67 (cs.length * 2) [] := by
    rcases hown.2 with ⟨hv, _⟩ | ⟨g, cap, cur, hv, _, hh, _, _, hc3, _⟩
    · cases hv
    · injection hv with hv _ hv3
      injection hv with hv
      injection hv with hv
      subst hv3 hv
      exact Fill.start hh (.inl rfl) (by omega)
  have hb1 : Below w.heap.size w w1 := (Below.refl _ _).grown hgrow (Nat.le_refl _) (by simp)
  clear hown hgrow
  go_loopw [4] (fun i wr => ∃ k : Nat, k ≤ cs.length ∧ i = .int .i64 k ∧ Fill wr w.heap.size 67 (cs.length * 2) ((cs.take k).flatMap lkL) ∧ Below w.heap.size w wr) (fun i _ => cs.length - (intOf i).toNat)
  case atStart => exact ⟨0, Nat.zero_le _, rfl, hF, hb1⟩
  case round =>
    clear hF hb1
    obtain ⟨k, hk, rfl, hF, hb⟩ := hrel
    by_cases hlt : k < cs.length
    · obtain ⟨b, o, rfl, hbs, x0, x1⟩ := Ks.get (ha.below hb) hlt
      have hlt' : (k : Int) < cs.length := by omega
      have zF := hF.lt
      have zb := hb.size
      go_wp2_with (go_at_call 76; refine (toLink_any cs[k] _).mono ?_; rintro e w2 ⟨rfl, hb2⟩; have hF2 := hF.keep (hb2.block _ zF); obtain ⟨u0, hu0⟩ := hF2.cell (k * 2) (by omega); have hf0 := hF2.frozen (k * 2) (by omega); obtain ⟨u1, hu1⟩ := hF2.cell (k * 2 + 1) (by omega); have hf1 := hF2.frozen (k * 2 + 1) (by omega))
      go_roundw
      case rel =>
        refine ⟨k + 1, by omega, by go_num, ?_, ?_⟩
        · rw [take_succ_get (List.getElem?_eq_getElem hlt), flat_snoc]
          exact hF2.two (by rw [flat_len lk2]; simp; omega) (by omega) _ _
        · exact (((hb.trans (hb2.mono zb)).setCell (Nat.le_refl _) _).setCell (Nat.le_refl _) _)
      case measure => simp [intOf]; omega
    · have hlt' : ¬ ((k : Int) < cs.length) := by omega
      have hk' : k = cs.length := by omega
      have hF' : Fill wr w.heap.size 67 (cs.length * 2) (cs.flatMap lkL) := by rw [hk', List.take_length] at hF; exact hF
      clear hF hk'
      go_wp2
      go_ret
      exact ⟨_, _, rfl, Oe.of_fill lk2 hF' (Nat.le_refl _) (Nat.le_refl _) (by unfold maxLen; omega), hb⟩
set_option maxHeartbeats 2000000 in
theorem toTurnS_any (A : Option Addr) (c : Nat) (cs : List Tn) (w : World) (ha : Ts w A cs) (hl : cs.length ≤ 1048576) :
    Calls Tryz.prog 41 #[.slice A cs.length c] w fun e w' => ∃ A' c', e = .returned (.slice A' cs.length c') ∧ Oe 94 4 tnL w' w.heap.size A' c' cs ∧ Below w.heap.size w w' := by
  obtain ⟨i0, hi, hz0, hz1, hz2⟩ := info_parts info_turn
  go_enter Tryz.func41, Tryz.ntmps41
  go_wp2_with (at_make; refine wpList_make_full _ rfl _ _ _ rfl w.heap.size 94 i0 _ 4 Tryz.underlying33 hi hz0 hz1 _ _ _ _ cs.length rfl rfl rfl rfl (by rw [hz2]; omega) (by unfold maxLen; omega) (Nat.le_refl _) ?_; intro w1 hown hgrow)
  clear hi hz0 hz1 hz2
  have hF : Fill w1 w.heap.size 94 (cs.length * 4) [] := by
    rcases hown.2 with ⟨hv, _⟩ | ⟨g, cap, cur, hv, _, hh, _, _, hc3, _⟩
    · cases hv
    · injection hv with hv _ hv3
      injection hv with hv
      injection hv with hv
      subst hv3 hv
      exact Fill.start hh (.inl rfl) (by omega)
  have hb1 : Below w.heap.size w w1 := (Below.refl _ _).grown hgrow (Nat.le_refl _) (by simp)
  clear hown hgrow
  go_loopw [4] (fun i wr => ∃ k : Nat, k ≤ cs.length ∧ i = .int .i64 k ∧ Fill wr w.heap.size 94 (cs.length * 4) ((cs.take k).flatMap tnL) ∧ Below w.heap.size w wr) (fun i _ => cs.length - (intOf i).toNat)
  case atStart => exact ⟨0, Nat.zero_le _, rfl, hF, hb1⟩
  case round =>
    clear hF hb1
    obtain ⟨k, hk, rfl, hF, hb⟩ := hrel
    by_cases hlt : k < cs.length
    · obtain ⟨b, o, rfl, hbs, x0, x1, x2, x3⟩ := Ts.get (ha.below hb) hlt
      have hlt' : (k : Int) < cs.length := by omega
      have zF := hF.lt
      have zb := hb.size
      go_wp2_with (go_at_call 77; refine (toTurn_any cs[k] _).mono ?_; rintro e w2 ⟨rfl, hb2⟩; have hF2 := hF.keep (hb2.block _ zF); obtain ⟨u0, hu0⟩ := hF2.cell (k * 4) (by omega); have hf0 := hF2.frozen (k * 4) (by omega); obtain ⟨u1, hu1⟩ := hF2.cell (k * 4 + 1) (by omega); have hf1 := hF2.frozen (k * 4 + 1) (by omega); obtain ⟨u2, hu2⟩ := hF2.cell (k * 4 + 2) (by omega); have hf2 := hF2.frozen (k * 4 + 2) (by omega); obtain ⟨u3, hu3⟩ := hF2.cell (k * 4 + 3) (by omega); have hf3 := hF2.frozen (k * 4 + 3) (by omega))
      go_roundw
      case rel =>
        refine ⟨k + 1, by omega, by go_num, ?_, ?_⟩
        · rw [take_succ_get (List.getElem?_eq_getElem hlt), flat_snoc]
          exact hF2.four (by rw [flat_len tn4]; simp; omega) (by omega) _ _ _ _
        · exact (((((hb.trans (hb2.mono zb)).setCell (Nat.le_refl _) _).setCell (Nat.le_refl _) _).setCell (Nat.le_refl _) _).setCell (Nat.le_refl _) _)
      case measure => simp [intOf]; omega
    · have hlt' : ¬ ((k : Int) < cs.length) := by omega
      have hk' : k = cs.length := by omega
      have hF' : Fill wr w.heap.size 94 (cs.length * 4) (cs.flatMap tnL) := by rw [hk', List.take_length] at hF; exact hF
      clear hF hk'
      go_wp2
      go_ret
      exact ⟨_, _, rfl, Oe.of_fill tn4 hF' (Nat.le_refl _) (Nat.le_refl _) (by unfold maxLen; omega), hb⟩
/-- What a file is. -/
abbrev fc (x : Fl) : Int × List UInt8 × Int := (x.1, x.2.1.2.2, x.2.2)
abbrev fb (x : Fl) : Sl := x.2.1
/-- A slice of files that owns its block, and whose bodies own theirs: from block lo to before block hi. -/
def FsO (w : World) (lo hi : Nat) (A : Option Addr) (c : Nat) (fs : List Fl) : Prop := Oe 89 3 flL w lo A c fs ∧ ∃ m, lo ≤ m ∧ InB lo m A ∧ Obs w m hi (fs.map fb)
theorem FsO.fs {w : World} {lo hi c : Nat} {A : Option Addr} {fs : List Fl} (h : FsO w lo hi A c fs) : Fs w A fs := by
  obtain ⟨h1, m, h2, h3, h4⟩ := h
  exact ⟨h1.sl fl3, fun e he => h4.by_ _ (List.mem_map.2 ⟨e, he, rfl⟩)⟩
theorem FsO.below {w w' : World} {lo hi c B' : Nat} {A : Option Addr} {fs : List Fl} (h : FsO w lo hi A c fs) (hb : Below B' w w') (hB : hi ≤ B') : FsO w' lo hi A c fs := by
  obtain ⟨h1, m, h2, h3, h4⟩ := h
  exact ⟨h1.belowB hb h3 (by have := h4.le; omega), m, h2, h3, h4.below hb hB⟩
theorem FsO.drewN {w : World} {lo hi c : Nat} {A : Option Addr} {fs : List Fl} (h : FsO w lo hi A c fs) (n : Nat) : FsO (w.drewN n) lo hi A c fs := by
  obtain ⟨h1, m, h2, h3, h4⟩ := h
  exact ⟨h1, m, h2, h3, h4.keep fun _ _ _ => rfl⟩
theorem obs_end {w : World} {es : List Sl} {hi hi' : Nat} (h : hi ≤ hi') : ∀ {lo : Nat}, Obs w lo hi es → Obs w lo hi' es := Obs.widen h
theorem fc_len {es fs : List Fl} (h : es.map fc = fs.map fc) : es.length = fs.length := by
  have := congrArg List.length h
  simpa using this
theorem fc_get {es fs : List Fl} (h : es.map fc = fs.map fc) {k : Nat} (h1 : k < es.length) (h2 : k < fs.length) : es[k].1 = fs[k].1 ∧ es[k].2.1.2.2 = fs[k].2.1.2.2 ∧ es[k].2.2 = fs[k].2.2 := by
  have := congrArg (fun l => l[k]?) h
  simpa [h1, h2] using this
def ToFPost (w : World) (es : List Fl) (e : Ending) (w' : World) : Prop :=
  ∃ A' c' fs, e = .returned (.slice A' es.length c') ∧ Hid (fs.map fc = es.map fc) ∧ FsO w' w.heap.size w'.heap.size A' c' fs ∧ Below w.heap.size w w'
set_option maxHeartbeats 2000000 in
theorem toFileS_any (A : Option Addr) (c : Nat) (es : List Fl) (w : World) (ha : Fs w A es) (hl : es.length ≤ 1048576) (hm : ∀ e, e ∈ es → e.2.1.2.2.length ≤ 1099511627776) :
    Calls Tryz.prog 39 #[.slice A es.length c] w (ToFPost w es) := by
  obtain ⟨i0, hi, hz0, hz1, hz2⟩ := info_parts info_file
  go_enter Tryz.func39, Tryz.ntmps39
  go_wp2_with (at_make; refine wpList_make_full _ rfl _ _ _ rfl w.heap.size 89 i0 _ 3 Tryz.underlying31 hi hz0 hz1 _ _ _ _ es.length rfl rfl rfl rfl (by rw [hz2]; omega) (by unfold maxLen; omega) (Nat.le_refl _) ?_; intro w1 hown hgrow)
  clear hi hz0 hz1 hz2
  have hF : Fill w1 w.heap.size 89 (es.length * 3) [] := by
    rcases hown.2 with ⟨hv, _⟩ | ⟨g, cap, cur, hv, _, hh, _, _, hc3, _⟩
    · cases hv
    · injection hv with hv _ hv3
      injection hv with hv
      injection hv with hv
      subst hv3 hv
      exact Fill.start hh (.inl rfl) (by omega)
  have hb1 : Below w.heap.size w w1 := (Below.refl _ _).grown hgrow (Nat.le_refl _) (by simp)
  clear hown hgrow
  go_loopw [4] (fun i wr => ∃ (k : Nat) (fs : List Fl), k ≤ es.length ∧ i = .int .i64 k ∧ fs.length = k ∧ Hid (fs.map fc = (es.take k).map fc) ∧ Fill wr w.heap.size 89 (es.length * 3) (fs.flatMap flL) ∧ Obs wr (w.heap.size + 1) wr.heap.size (fs.map fb) ∧ Below w.heap.size w wr) (fun i _ => es.length - (intOf i).toNat)
  case atStart => exact ⟨0, [], Nat.zero_le _, rfl, rfl, rfl, hF, hF.lt, hb1⟩
  case round =>
    clear hF hb1
    obtain ⟨k, fs, hk, rfl, hfk, hd, hF, ho, hb⟩ := hrel
    by_cases hlt : k < es.length
    · obtain ⟨b, o, rfl, hbs, x0, x1, x2, hy⟩ := (ha.below hb).get hlt
      have hlt' : (k : Int) < es.length := by omega
      have hme := hm _ (List.getElem_mem hlt)
      have hgs := hF.lt
      have zb := hb.size
      go_wp2_with (go_at_call 75; refine (toFile_any es[k] _ hy hme).mono ?_; rintro e w2 ⟨A2, c2, rfl, ho2, hb2⟩; have hF2 := hF.keep (hb2.block _ hgs); obtain ⟨u0, hu0⟩ := hF2.cell (k * 3) (by omega); have hf0 := hF2.frozen (k * 3) (by omega); obtain ⟨u1, hu1⟩ := hF2.cell (k * 3 + 1) (by omega); have hf1 := hF2.frozen (k * 3 + 1) (by omega); obtain ⟨u2, hu2⟩ := hF2.cell (k * 3 + 2) (by omega); have hf2 := hF2.frozen (k * 3 + 2) (by omega))
      have z2 := hb2.size
      go_roundw
      case rel =>
        refine ⟨k + 1, fs ++ [(es[k].1, (A2, c2, es[k].2.1.2.2), es[k].2.2)], by omega, by go_num, by simp [hfk], ?_, ?_, ?_, ((((hb.trans (hb2.mono zb)).setCell (Nat.le_refl _) _).setCell (Nat.le_refl _) _).setCell (Nat.le_refl _) _)⟩
        · show _ = _
          rw [take_succ_get (List.getElem?_eq_getElem hlt)]
          simp only [List.map_append]
          exact congrArg (· ++ [fc es[k]]) hd.out
        · rw [flat_snoc]
          exact hF2.three (by rw [flat_len fl3, hfk]) (by omega) _ _ _
        · have h3 := (ho.below hb2 (Nat.le_refl _)).snoc ho2 ho2.inB z2
          rw [List.map_append]
          have h4 := h3.keep (w' := (((w2.setCell ⟨w.heap.size, k * 3, none⟩ (.int .i64 es[k].1)).setCell ⟨w.heap.size, k * 3 + 1, none⟩ (.slice A2 es[k].2.1.2.2.length c2)).setCell ⟨w.heap.size, k * 3 + 2, none⟩ (.int .i64 es[k].2.2))) (fun j hj _ => by
            rw [Below.heap_setCell _ _ _ j (by simp; omega), Below.heap_setCell _ _ _ j (by simp; omega), Below.heap_setCell _ _ _ j (by simp; omega)])
          simpa using h4
      case measure => simp [intOf]; omega
    · have hlt' : ¬ ((k : Int) < es.length) := by omega
      have hk' : k = es.length := by omega
      rw [hk', List.take_length] at hd
      have hO : FsO wr w.heap.size wr.heap.size (some ⟨w.heap.size, 0, none⟩) es.length fs :=
        ⟨Oe.of_fill fl3 hF (by omega) (Nat.le_refl _) (by unfold maxLen; omega), w.heap.size + 1, by omega, fun ad ha => by injection ha with ha; subst ha; simp, ho⟩
      clear hk'
      go_wp2
      go_ret
      exact ⟨_, _, fs, rfl, hd, hO, hb⟩
theorem Oe.keepB {T : Type} {k : Nat} {enc : T → List Value} {e : TypeId} {w w' : World} {A : Option Addr} {xs : List T} {lo c : Nat} (h : Oe e k enc w lo A c xs) (hk : ∀ ad, A = some ad → w'.heap[ad.block]? = w.heap[ad.block]?) : Oe e k enc w' lo A c xs := by
  obtain ⟨h1, h2⟩ := h
  refine ⟨h1, ?_⟩
  rcases h2 with h2 | ⟨g, cap, cur, fz, hv, h3, h4, h5⟩
  · exact .inl h2
  · injection hv with hv hv2 hv3
    exact .inr ⟨g, cap, cur, fz, by rw [hv, hv3], h3, (hk _ hv).trans h4, h5⟩
theorem FsO.keep {w w' : World} {lo hi c : Nat} {A : Option Addr} {fs : List Fl} (h : FsO w lo hi A c fs) (hk : ∀ k, lo ≤ k → k < hi → w'.heap[k]? = w.heap[k]?) : FsO w' lo hi A c fs := by
  obtain ⟨h1, m, h2, h3, h4⟩ := h
  have hl := h4.le
  exact ⟨h1.keepB fun ad ha => hk _ (h3 ad ha).1 (by have := (h3 ad ha).2; omega), m, h2, h3, h4.keep fun k h5 h6 => hk k (by omega) h6⟩
theorem FsO.lower {w : World} {lo lo' hi c : Nat} {A : Option Addr} {fs : List Fl} (h : FsO w lo hi A c fs) (hl : lo' ≤ lo) : FsO w lo' hi A c fs := by
  obtain ⟨h1, m, h2, h3, h4⟩ := h
  exact ⟨Oe.mono h1 hl, m, by omega, fun ad ha => ⟨Nat.le_trans hl (h3 ad ha).1, (h3 ad ha).2⟩, h4⟩
theorem FsO.le {w : World} {lo hi c : Nat} {A : Option Addr} {fs : List Fl} (h : FsO w lo hi A c fs) : lo ≤ hi := by
  obtain ⟨h1, m, h2, h3, h4⟩ := h
  exact Nat.le_trans h2 h4.le
/-- A disk that owns what it holds: from block lo to before block hi. -/
def DkO (w : World) (lo hi : Nat) (FA : Option Addr) (fc : Nat) (fs : List Fl) (KA : Option Addr) (kc : Nat) (ks : List Lk) (TA : Option Addr) (tc : Nat) (ts : List Tn) : Prop :=
  ∃ m m', FsO w lo m FA fc fs ∧ m ≤ m' ∧ m' ≤ hi ∧ Oe 67 2 lkL w m KA kc ks ∧ InB m m' KA ∧ Oe 94 4 tnL w m' TA tc ts ∧ InB m' hi TA
section
variable {w w' : World} {lo hi fc kc tc : Nat} {FA KA TA : Option Addr} {fs : List Fl} {ks : List Lk} {ts : List Tn}
theorem DkO.keep (h : DkO w lo hi FA fc fs KA kc ks TA tc ts) (hk : ∀ k, lo ≤ k → k < hi → w'.heap[k]? = w.heap[k]?) : DkO w' lo hi FA fc fs KA kc ks TA tc ts := by
  obtain ⟨m, m', h1, h2, h3, h4, h5, h6, h7⟩ := h
  have hl := h1.le
  exact ⟨m, m', h1.keep fun k h8 h9 => hk k h8 (by omega), h2, h3, h4.keepB fun ad ha => hk _ (by have := (h5 ad ha).1; omega) (by have := (h5 ad ha).2; omega), h5, h6.keepB fun ad ha => hk _ (by have := (h7 ad ha).1; omega) (by have := (h7 ad ha).2; omega), h7⟩
theorem DkO.below {B' : Nat} (h : DkO w lo hi FA fc fs KA kc ks TA tc ts) (hb : Below B' w w') (hB : hi ≤ B') : DkO w' lo hi FA fc fs KA kc ks TA tc ts :=
  h.keep fun k _ h2 => hb.block k (by omega)
theorem DkO.drewN (h : DkO w lo hi FA fc fs KA kc ks TA tc ts) (n : Nat) : DkO (w.drewN n) lo hi FA fc fs KA kc ks TA tc ts :=
  h.keep fun _ _ _ => rfl
theorem DkO.lower {lo' : Nat} (h : DkO w lo hi FA fc fs KA kc ks TA tc ts) (hl : lo' ≤ lo) : DkO w lo' hi FA fc fs KA kc ks TA tc ts := by
  obtain ⟨m, m', h1, h2⟩ := h
  exact ⟨m, m', h1.lower hl, h2⟩
theorem DkO.setCell {p : Addr} {v : Value} (h : DkO w lo w.heap.size FA fc fs KA kc ks TA tc ts) (hp : p.block < lo) : DkO (w.setCell p v) lo (w.setCell p v).heap.size FA fc fs KA kc ks TA tc ts := by
  rw [show (w.setCell p v).heap.size = w.heap.size from by simp [World.setCell]]
  exact h.keep fun k h1 _ => Below.heap_setCell _ _ _ k (by omega)
theorem DkO.rd (h : DkO w lo hi FA fc fs KA kc ks TA tc ts) : Fs w FA fs ∧ Ks w KA ks ∧ Ts w TA ts := by
  obtain ⟨m, m', h1, h2, h3, h4, h5, h6, h7⟩ := h
  exact ⟨h1.fs, h4.sl lk2, h6.sl tn4⟩
end
def ToDPost (w : World) (r f n : Int) (es : List Fl) (ks : List Lk) (ts : List Tn) (e : Ending) (w' : World) : Prop :=
  ∃ FA fc' fs KA kc TA tc, e = .returned (dkV r f n FA es.length fc' KA ks.length kc TA ts.length tc) ∧ Hid (fs.map fc = es.map fc) ∧ DkO w' w.heap.size w'.heap.size FA fc' fs KA kc ks TA tc ts ∧ Below w.heap.size w w'
set_option maxHeartbeats 1000000 in
theorem toDisk_any (r f n : Int) (FA : Option Addr) (fs : List Fl) (fc' : Nat) (KA : Option Addr) (ks : List Lk) (kc : Nat) (TA : Option Addr) (ts : List Tn) (tc : Nat) (w : World)
    (hF : Fs w FA fs) (hK : Ks w KA ks) (hT : Ts w TA ts) (hFl : fs.length ≤ 1048576) (hFm : ∀ e, e ∈ fs → e.2.1.2.2.length ≤ 1099511627776) (hKl : ks.length ≤ 1048576) (hTl : ts.length ≤ 1048576) :
    Calls Tryz.prog 13 #[dkV r f n FA fs.length fc' KA ks.length kc TA ts.length tc] w (ToDPost w r f n fs ks ts) := by
  go_enter Tryz.func13, Tryz.ntmps13
  go_wp2_with fail
  refine (toFileS_any _ _ fs _ (hF.below (by (repeat (first | exact Below.refl _ _ | (refine Below.alloc ?_ (by first | omega | (simp; done) | (simp; omega)) _) | (refine Below.drew ?_) | (refine below_drewN ?_ _) | (refine below_at1 ?_ (by first | omega | (simp; done) | (simp; omega))) | (refine Below.setCell ?_ (by first | omega | (simp; done) | (simp; omega)) _) | (refine Below.trans ?_ (Below.mono (by assumption) (by first | omega | (simp; done) | (simp; omega)))))))) hFl hFm).mono ?_
  rintro e w2 ⟨A2, c2, fs2, rfl, hd2, ho2, hb2⟩
  have hb0 : Below w.heap.size w (((w.alloc (.cells (dkC r f n FA fs.length fc' KA ks.length kc TA ts.length tc) 26)).alloc (.cells #[.int .i64 0, .int .i64 0, .int .i64 0, .slice none 0 0, .slice none 0 0, .slice none 0 0] 35)).alloc (.cells #[.int .i64 r, .int .i64 f, .int .i64 n, .slice none 0 0, .slice none 0 0, .slice none 0 0] 35)) := by (repeat (first | exact Below.refl _ _ | (refine Below.alloc ?_ (by first | omega | (simp; done) | (simp; omega)) _) | (refine Below.drew ?_) | (refine below_drewN ?_ _) | (refine below_at1 ?_ (by first | omega | (simp; done) | (simp; omega))) | (refine Below.setCell ?_ (by first | omega | (simp; done) | (simp; omega)) _) | (refine Below.trans ?_ (Below.mono (by assumption) (by first | omega | (simp; done) | (simp; omega))))))
  obtain ⟨a2, b2, d2, z2⟩ := keep_blk hb2 (g := w.heap.size) (by repeat (first | assumption | exact heap_alloc_at _ (by first | rfl | (simp; done) | omega) | refine heap_alloc_of _ ?_ | refine heap_setCell_of _ (by first | omega | (simp; done) | (simp; omega)) ?_ | refine heap_setCell_same _ ?_ | exact heap_at1_same (by first | omega | (simp; done) | (simp; omega)) | refine heap_at1_of (by first | omega | (simp; done) | (simp; omega)) ?_))
  obtain ⟨a2', b2', d2', z2'⟩ := keep_blk hb2 (g := w.heap.size + 1) (by repeat (first | assumption | exact heap_alloc_at _ (by first | rfl | (simp; done) | omega) | refine heap_alloc_of _ ?_ | refine heap_setCell_of _ (by first | omega | (simp; done) | (simp; omega)) ?_ | refine heap_setCell_same _ ?_ | exact heap_at1_same (by first | omega | (simp; done) | (simp; omega)) | refine heap_at1_of (by first | omega | (simp; done) | (simp; omega)) ?_))
  obtain ⟨a2'', b2'', d2'', z2''⟩ := keep_blk hb2 (g := w.heap.size + 1 + 1) (by repeat (first | assumption | exact heap_alloc_at _ (by first | rfl | (simp; done) | omega) | refine heap_alloc_of _ ?_ | refine heap_setCell_of _ (by first | omega | (simp; done) | (simp; omega)) ?_ | refine heap_setCell_same _ ?_ | exact heap_at1_same (by first | omega | (simp; done) | (simp; omega)) | refine heap_at1_of (by first | omega | (simp; done) | (simp; omega)) ?_))
  have t2 := hb0.trans (hb2.mono hb0.size)
  have s2 : w.heap.size + 3 ≤ w2.heap.size := z2''
  replace ho2 : FsO w2 (w.heap.size + 3) w2.heap.size A2 c2 fs2 := ho2.lower (by simp)
  clear hb2 hb0
  go_wp2_with fail
  have hb3' : Below w.heap.size w (w2.setCell ⟨w.heap.size + 1 + 1, 3, none⟩ (.slice A2 fs.length c2)) := t2.setCell (by first | omega | (simp; done) | (simp; omega)) _
  refine (toLinkS_any _ _ ks _ (hK.below hb3') hKl).mono ?_
  rintro e w3 ⟨A3, c3, rfl, ho3, hb3⟩
  have a2s := heap_setCell_same (.slice A2 fs.length c2) (i := 3) a2''
  obtain ⟨a3, b3, d3, z3⟩ := keep_blk hb3 (g := w.heap.size) (heap_setCell_of _ (by simp; try omega) a2)
  obtain ⟨a3', b3', d3', z3'⟩ := keep_blk hb3 (g := w.heap.size + 1) (heap_setCell_of _ (by simp; try omega) a2')
  obtain ⟨a3'', b3'', d3'', z3''⟩ := keep_blk hb3 (g := w.heap.size + 1 + 1) a2s
  have t3 := hb3'.trans (hb3.mono hb3'.size)
  have s3 : w2.heap.size ≤ w3.heap.size := by have := hb3.size; simpa using this
  have ho2' : FsO w3 (w.heap.size + 3) w2.heap.size A2 c2 fs2 := (ho2.keep (w' := w2.setCell ⟨w.heap.size + 1 + 1, 3, none⟩ (.slice A2 fs.length c2)) fun k h1 h2 => Below.heap_setCell _ _ _ k (by simp; omega)).keep fun k h1 h2 => hb3.block k (by simpa using h2)
  replace ho3 : Oe 67 2 lkL w3 w2.heap.size A3 c3 ks := Oe.mono ho3 (by simp)
  have i3 := ho3.inB
  clear hb3 hb3' a2s a2 b2 d2 a2' b2' d2' a2'' b2'' d2'' ho2
  go_wp2_with fail
  have hb4' : Below w.heap.size w (w3.setCell ⟨w.heap.size + 1 + 1, 4, none⟩ (.slice A3 ks.length c3)) := t3.setCell (by first | omega | (simp; done) | (simp; omega)) _
  refine (toTurnS_any _ _ ts _ (hT.below hb4') hTl).mono ?_
  rintro e w4 ⟨A4, c4, rfl, ho4, hb4⟩
  have a3s := heap_setCell_same (.slice A3 ks.length c3) (i := 4) a3''
  obtain ⟨a4, b4, d4, z4⟩ := keep_blk hb4 (g := w.heap.size) (heap_setCell_of _ (by simp; try omega) a3)
  obtain ⟨a4', b4', d4', z4'⟩ := keep_blk hb4 (g := w.heap.size + 1) (heap_setCell_of _ (by simp; try omega) a3')
  obtain ⟨a4'', b4'', d4'', z4''⟩ := keep_blk hb4 (g := w.heap.size + 1 + 1) a3s
  have t4 := hb4'.trans (hb4.mono hb4'.size)
  have s4 : w3.heap.size ≤ w4.heap.size := by have := hb4.size; simpa using this
  have k4 : ∀ k, w.heap.size + 3 ≤ k → k < w3.heap.size → w4.heap[k]? = w3.heap[k]? := fun k h1 h2 => (hb4.block k (by simpa using h2)).trans (Below.heap_setCell _ _ _ k (by simp; omega))
  replace ho4 : Oe 94 4 tnL w4 w3.heap.size A4 c4 ts := Oe.mono ho4 (by simp)
  have hD : DkO w4 (w.heap.size + 3) w4.heap.size A2 c2 fs2 A3 c3 ks A4 c4 ts :=
    ⟨w2.heap.size, w3.heap.size, ho2'.keep fun k h1 h2 => k4 k h1 (by omega), s3, s4, ho3.keepB fun ad ha => k4 _ (by have := (i3 ad ha).1; omega) (i3 ad ha).2, i3, ho4, ho4.inB⟩
  clear hb4 hb4' a3s a3 b3 d3 a3' b3' d3' a3'' b3'' d3'' ho2' ho3 ho4 i3 k4
  go_wp2_with fail
  refine bodyPost_ret (v := dkV r f n A2 fs.length c2 A3 ks.length c3 A4 ts.length c4) (by simp [results, Tryz.results13, go_sem, *]) rfl ?_
  refine ⟨A2, c2, fs2, A3, c3, A4, c4, rfl, hd2, ?_, ?_⟩
  · refine DkO.lower (lo := w.heap.size + 3) ?_ (by omega)
    iterate 7 refine DkO.setCell ?_ (by simp; try omega)
    exact hD
  · exact (((((((t4.setCell (by first | omega | (simp; done) | (simp; omega)) _).setCell (by first | omega | (simp; done) | (simp; omega)) _).setCell (by first | omega | (simp; done) | (simp; omega)) _).setCell (by first | omega | (simp; done) | (simp; omega)) _).setCell (by first | omega | (simp; done) | (simp; omega)) _).setCell (by first | omega | (simp; done) | (simp; omega)) _).setCell (by first | omega | (simp; done) | (simp; omega)) _)
end Go.Proofs.YtfkdifgmhfdbdaaGreatDoor
