/- Turns of a disk, its Ids, its size: the reference. -/
import Derived.Test.YtfkdifgmhfdbdaaGreatDoorU5
import Derived.Test.YtfkdifgmhfdbdaaGreatDoorP14k
namespace Go.Proofs.YtfkdifgmhfdbdaaGreatDoor
open Go.RowKit
set_option linter.unusedVariables false
set_option maxRecDepth 100000

def nmB (s : ByteArray) : Bool := plainR s.data.toList 16 [46]
def noB (s : ByteArray) : Bool := decide (s.toList = [])
/-- What a turn asks of a directory, and what it makes of it. -/
def okS (dir : List Lk) (t : Tn) : Bool :=
  nmB t.2.1 && (if t.1 = 1 then noB t.2.2.1 && decide (0 < t.2.2.2) && !decide (0 < findS dir t.2.1)
    else if t.1 = 4 then nmB t.2.2.1 && !eqN t.2.2.1 t.2.1 && decide (t.2.2.2 = 0) && decide (0 < findS dir t.2.1)
    else if t.1 = 5 then noB t.2.2.1 && decide (t.2.2.2 = 0) && decide (0 < findS dir t.2.1) else false)
def turnS (dir : List Lk) (t : Tn) : List Lk :=
  if t.1 = 1 then withS dir t.2.1 t.2.2.2
  else if t.1 = 4 then withS (lessS (lessS dir t.2.1) t.2.2.1) t.2.2.1 (findS dir t.2.1) else lessS dir t.2.1
theorem turnS_len (dir : List Lk) (t : Tn) : (turnS dir t).length ≤ dir.length + 1 := by
  have h1 := lessS_len dir t.2.1
  have h2 := lessS_len (lessS dir t.2.1) t.2.2.1
  unfold turnS
  split
  · rw [withS_len]; exact Nat.le_refl _
  · split
    · rw [withS_len]; omega
    · omega
set_option maxHeartbeats 2000000 in
theorem turnOk_spec (A : Option Addr) (c : Nat) (dir : List Lk) (t : Tn) (w : World) (ha : Ks w A dir) (hl : dir.length ≤ 1048576) (hs : t.2.1.data.toList.length ≤ 549755813888) (ht : t.2.2.1.data.toList.length ≤ 549755813888) :
    Calls Tryz.prog 59 #[.slice A dir.length c, tnV t] w fun e w' => e = .returned (.bool (okS dir t)) ∧ Below w.heap.size w w' := by
  obtain ⟨k, s, u, i⟩ := t
  dsimp only at hs ht
  go_enter Tryz.func59, Tryz.ntmps59
  go_wp2_with fail
  have hb0 : Below w.heap.size w (w.alloc (.cells #[.int .i64 k, .string s, .string u, .int .i64 i] 94)) := by (repeat (first | exact Below.refl _ _ | (refine Below.alloc ?_ (by first | omega | (simp; done) | (simp; omega)) _) | (refine Below.drew ?_) | (refine below_drewN ?_ _) | (refine below_at1 ?_ (by first | omega | (simp; done) | (simp; omega))) | (refine Below.setCell ?_ (by first | omega | (simp; done) | (simp; omega)) _) | (refine Below.trans ?_ (Below.mono (by assumption) (by first | omega | (simp; done) | (simp; omega))))))
  refine (find_spec _ _ dir s _ (ha.below hb0) (by omega)).mono ?_
  rintro e w1 ⟨rfl, hb1⟩
  obtain ⟨a1, b1, d1, z1⟩ := keep_blk hb1 (g := w.heap.size) (by repeat (first | assumption | exact heap_alloc_at _ (by first | rfl | (simp; done) | omega) | refine heap_alloc_of _ ?_ | refine heap_setCell_of _ (by first | omega | (simp; done) | (simp; omega)) ?_ | refine heap_setCell_same _ ?_ | exact heap_at1_same (by first | omega | (simp; done) | (simp; omega)) | refine heap_at1_of (by first | omega | (simp; done) | (simp; omega)) ?_))
  have t1 := hb0.trans (hb1.mono hb0.size)
  generalize hF : findS dir s = f
  go_wp2_with (first | (go_at_call_of 56 s; refine (nameOk_spec s _ hs).mono ?_; rintro e w' ⟨rfl, rfl⟩) | (go_at_call_of 56 u; refine (nameOk_spec u _ ht).mono ?_; rintro e w' ⟨rfl, rfl⟩))
  all_goals (go_ret; exact ⟨ret_bool (by simp_all [okS, nmB, noB, eqN]; try first | omega | (rw [Bool.eq_iff_iff]; simp; omega)), t1⟩)
set_option maxHeartbeats 2000000 in
theorem turn_spec (A : Option Addr) (c : Nat) (dir : List Lk) (t : Tn) (w : World) (ha : Ks w A dir) (hl : dir.length ≤ 1000000) :
    Calls Tryz.prog 60 #[.slice A dir.length c, tnV t] w (LkPost w (turnS dir t)) := by
  obtain ⟨k, s, u, i⟩ := t
  by_cases h1 : k = 1
  · subst h1
    have hb0 : Below w.heap.size w (w.alloc (.cells #[.int .i64 1, .string s, .string u, .int .i64 i] 94)) := by (repeat (first | exact Below.refl _ _ | (refine Below.alloc ?_ (by first | omega | (simp; done) | (simp; omega)) _) | (refine Below.drew ?_) | (refine below_drewN ?_ _) | (refine below_at1 ?_ (by first | omega | (simp; done) | (simp; omega))) | (refine Below.setCell ?_ (by first | omega | (simp; done) | (simp; omega)) _) | (refine Below.trans ?_ (Below.mono (by assumption) (by first | omega | (simp; done) | (simp; omega))))))
    have hsz0 := hb0.size
    have HT : Hid (turnS dir (1, s, u, i) = withS dir s i) := if_pos rfl
    go_enter Tryz.func60, Tryz.ntmps60
    go_wp2_with (go_at_call 91; refine (with_spec _ _ dir s i _ (ha.below hb0) (by omega)).mono ?_; rintro e w1 ⟨A1, c1, rfl, ho1, hb1⟩)
    go_ret
    rw [HT.out]
    exact ⟨A1, c1, rfl, ho1.mono (by simp), hb0.trans (hb1.mono hsz0)⟩
  by_cases h4 : k = 4
  · subst h4
    have hb0 : Below w.heap.size w (w.alloc (.cells #[.int .i64 4, .string s, .string u, .int .i64 i] 94)) := by (repeat (first | exact Below.refl _ _ | (refine Below.alloc ?_ (by first | omega | (simp; done) | (simp; omega)) _) | (refine Below.drew ?_) | (refine below_drewN ?_ _) | (refine below_at1 ?_ (by first | omega | (simp; done) | (simp; omega))) | (refine Below.setCell ?_ (by first | omega | (simp; done) | (simp; omega)) _) | (refine Below.trans ?_ (Below.mono (by assumption) (by first | omega | (simp; done) | (simp; omega))))))
    have hsz0 := hb0.size
    have HT : Hid (turnS dir (4, s, u, i) = withS (lessS (lessS dir s) u) u (findS dir s)) := by show _ = _; rw [turnS, if_neg h1, if_pos rfl]
    go_enter Tryz.func60, Tryz.ntmps60
    go_wp2_with fail
    refine (find_spec _ _ dir s _ (ha.below hb0) (by omega)).mono ?_
    rintro e w1 ⟨rfl, hb1⟩
    obtain ⟨a1, b1, d1, z1⟩ := keep_blk hb1 (g := w.heap.size) (by repeat (first | assumption | exact heap_alloc_at _ (by first | rfl | (simp; done) | omega) | refine heap_alloc_of _ ?_ | refine heap_setCell_of _ (by first | omega | (simp; done) | (simp; omega)) ?_ | refine heap_setCell_same _ ?_ | exact heap_at1_same (by first | omega | (simp; done) | (simp; omega)) | refine heap_at1_of (by first | omega | (simp; done) | (simp; omega)) ?_))
    have t1 := hb0.trans (hb1.mono hb0.size)
    go_wp2_with fail
    refine (less_spec _ _ dir s _ (ha.below t1) (by omega)).mono ?_
    rintro e w2 ⟨A2, c2, rfl, ho2, hb2⟩
    obtain ⟨a2, b2, d2, z2⟩ := keep_blk hb2 (g := w.heap.size) a1
    have t2 := t1.trans (hb2.mono t1.size)
    have l2 := lessS_len dir s
    have k2 := ho2.sl lk2
    clear a1 b1 d1
    have q2 : w2.cell? ⟨w.heap.size, 2, none⟩ = some (.string u) := b2 2
    clear a2
    go_wp2_with fail
    first | (go_region_held3 (fun w' => Below w2.heap.size w2 w' ∧ w'.cell? ⟨w.heap.size, 2, none⟩ = some (.string u))
        (first | exact ⟨Below.drew (Below.refl _ _), by simpa using q2⟩ | assumption | (refine ⟨?_, ?_⟩ <;> assumption))
        (first
          | (go_at_call 92; refine (less_spec _ _ _ u _ (SlL.below k2 (Below.drew (Below.refl _ _))) (by omega)).mono ?_; rintro e w3 ⟨A3, c3, rfl, ho3, hb3⟩; have hbw3 : Below w2.heap.size w2 w3 := (Below.drew (Below.refl w2.heap.size w2)).trans hb3; have k3 := ho3.sl lk2; have l3 := lessS_len (lessS dir s) u; have hkeep := And.intro hbw3 ((hbw3.cell (p := ⟨w.heap.size, 2, none⟩) z2).trans q2))
          | (go_at_call 91; refine (with_spec _ _ _ u _ _ k3 (by omega)).mono ?_; rintro e w4 ⟨A4, c4, rfl, ho4, hb4⟩; have hbw4 : Below w2.heap.size w2 w4 := hbw3.trans (hb4.mono hbw3.size); have hkeep2 := And.intro hbw4 ((hbw4.cell (p := ⟨w.heap.size, 2, none⟩) z2).trans q2)))) | fail
    go_wp2_with fail
    go_ret
    rw [HT.out]
    have z3 := hbw3.size
    exact ⟨A4, c4, rfl, ho4.mono (by have := t2.size; omega), t2.trans (hbw4.mono t2.size)⟩
  · have hb0 : Below w.heap.size w (w.alloc (.cells #[.int .i64 k, .string s, .string u, .int .i64 i] 94)) := by (repeat (first | exact Below.refl _ _ | (refine Below.alloc ?_ (by first | omega | (simp; done) | (simp; omega)) _) | (refine Below.drew ?_) | (refine below_drewN ?_ _) | (refine below_at1 ?_ (by first | omega | (simp; done) | (simp; omega))) | (refine Below.setCell ?_ (by first | omega | (simp; done) | (simp; omega)) _) | (refine Below.trans ?_ (Below.mono (by assumption) (by first | omega | (simp; done) | (simp; omega))))))
    have hsz0 := hb0.size
    have HT : Hid (turnS dir (k, s, u, i) = lessS dir s) := by show _ = _; rw [turnS, if_neg h1, if_neg h4]
    go_enter Tryz.func60, Tryz.ntmps60
    go_wp2_with fail
    refine (find_spec _ _ dir s _ (ha.below hb0) (by omega)).mono ?_
    rintro e w1 ⟨rfl, hb1⟩
    obtain ⟨a1, b1, d1, z1⟩ := keep_blk hb1 (g := w.heap.size) (by repeat (first | assumption | exact heap_alloc_at _ (by first | rfl | (simp; done) | omega) | refine heap_alloc_of _ ?_ | refine heap_setCell_of _ (by first | omega | (simp; done) | (simp; omega)) ?_ | refine heap_setCell_same _ ?_ | exact heap_at1_same (by first | omega | (simp; done) | (simp; omega)) | refine heap_at1_of (by first | omega | (simp; done) | (simp; omega)) ?_))
    have t1 := hb0.trans (hb1.mono hb0.size)
    go_wp2_with fail
    refine (less_spec _ _ dir s _ (ha.below t1) (by omega)).mono ?_
    rintro e w2 ⟨A2, c2, rfl, ho2, hb2⟩
    obtain ⟨a2, b2, d2, z2⟩ := keep_blk hb2 (g := w.heap.size) a1
    have t2 := t1.trans (hb2.mono t1.size)
    go_wp2_with fail
    go_ret
    rw [HT.out]
    exact ⟨A2, c2, rfl, ho2.mono t1.size, t2⟩
theorem info_int : (Tryz.prog.info? 3).map (fun i => (i.zero, i.size, i.bytes)) = some (some (.int .i64 0), 1, 8) := by kernel_rfl
theorem Cs.keep {w w' : World} {B' : Nat} {A : Option Addr} {vs : List Value} (h : Cs w A vs) (hb : Below B' w w') (hA : ∀ ad, A = some ad → ad.block < B') : Cs w' A vs := by
  rcases h with h | ⟨b, o, rfl, h⟩
  · exact .inl h
  · exact .inr ⟨b, o, rfl, fun i v hi => (hb.cell (p := ⟨b, o + i, none⟩) (hA ⟨b, o, none⟩ rfl)).trans (h i v hi)⟩
theorem Cs.ints {w : World} {A : Option Addr} {ns : List Int} (h : Cs w A (ns.map I)) {k : Nat} (hk : k < ns.length) : ∃ b o, A = some ⟨b, o, none⟩ ∧ w.cell? ⟨b, o + k, none⟩ = some (.int .i64 ns[k]) := by
  rcases h with h | ⟨b, o, hA, h⟩
  · have h2 : ns.length = 0 := by have := congrArg List.length h; rwa [List.length_map] at this
    omega
  · exact ⟨b, o, hA, h k _ (by rw [List.getElem?_map, List.getElem?_eq_getElem hk]; rfl)⟩
set_option maxHeartbeats 1000000 in
theorem hasInt_spec (A : Option Addr) (c : Nat) (ns : List Int) (n : Int) (w : World) (ha : Cs w A (ns.map I)) (hl : ns.length ≤ 1099511627776) :
    Calls Tryz.prog 58 #[.slice A ns.length c, .int .i64 n] w fun e w' => e = .returned (.bool (decide (n ∈ ns))) ∧ w = w' := by
  go_enter Tryz.func58, Tryz.ntmps58
  go_wp2_with fail
  go_loop [9] (fun i => ∃ k : Nat, k ≤ ns.length ∧ i = .int .i64 k ∧ Hid (n ∈ ns ↔ n ∈ ns.drop k)) (fun i => ns.length - (intOf i).toNat)
  case atStart => exact ⟨0, Nat.zero_le _, rfl, Iff.rfl⟩
  case round =>
    obtain ⟨k, hk, rfl, hf⟩ := hrel
    by_cases hlt : k < ns.length
    · obtain ⟨b, o, rfl, x0⟩ := ha.ints hlt
      have hlt' : (k : Int) < ns.length := by omega
      by_cases he : ns[k] = n
      · have HF : Hid (decide (n ∈ ns) = true) := decide_eq_true (hf.out.2 (by rw [List.drop_eq_getElem_cons hlt]; simp [he]))
        clear hf
        go_wp2_with fail
        go_ret
        exact ⟨ret_bool HF.out.symm, rfl⟩
      · have HF : Hid (n ∈ ns ↔ n ∈ ns.drop (k + 1)) := hf.out.trans (by rw [List.drop_eq_getElem_cons hlt, List.mem_cons]; exact ⟨fun h => h.resolve_left (fun h2 => he h2.symm), .inr⟩)
        clear hf
        go_wp2_with fail
        go_round
        case rel => exact ⟨k + 1, by omega, by go_num, HF⟩
        case measure => simp [intOf]; omega
    · have hlt' : ¬ ((k : Int) < ns.length) := by omega
      have HF : Hid (decide (n ∈ ns) = false) := decide_eq_false (fun h => by have h2 := hf.out.1 h; rw [List.drop_of_length_le (by omega)] at h2; simp at h2)
      clear hf
      go_wp2_with fail
      go_ret
      exact ⟨ret_bool HF.out.symm, rfl⟩
theorem used_bd {es : List Fl} {k : Nat} (hk : k < es.length) : ftot (es.take k) + es[k].2.1.2.2.length ≤ ftot es := sum_get _ hk
set_option maxHeartbeats 1000000 in
theorem used_spec (r f n : Int) (FA : Option Addr) (es : List Fl) (c1 : Nat) (KA : Option Addr) (kn c2 : Nat) (TA : Option Addr) (tn c3 : Nat) (w : World) (ha : Fs w FA es) (hl : es.length ≤ 1099511627776) (ht : ftot es ≤ 1099511627776) :
    Calls Tryz.prog 55 #[dkV r f n FA es.length c1 KA kn c2 TA tn c3] w fun e w' => e = .returned (.int .i64 (ftot es)) ∧ Below w.heap.size w w' := by
  have hb0 : Below w.heap.size w (w.alloc (.cells (dkC r f n FA es.length c1 KA kn c2 TA tn c3) 35)) := by (repeat (first | exact Below.refl _ _ | (refine Below.alloc ?_ (by first | omega | (simp; done) | (simp; omega)) _) | (refine Below.drew ?_) | (refine below_drewN ?_ _) | (refine below_at1 ?_ (by first | omega | (simp; done) | (simp; omega))) | (refine Below.setCell ?_ (by first | omega | (simp; done) | (simp; omega)) _) | (refine Below.trans ?_ (Below.mono (by assumption) (by first | omega | (simp; done) | (simp; omega))))))
  go_enter Tryz.func55, Tryz.ntmps55
  go_wp2_with fail
  go_loopw [3, 9] (fun sv i wr => ∃ k : Nat, k ≤ es.length ∧ i = .int .i64 k ∧ sv = .int .i64 (ftot (es.take k)) ∧ Below w.heap.size w wr) (fun _ i _ => es.length - (intOf i).toNat)
  case atStart => exact ⟨0, Nat.zero_le _, rfl, rfl, hb0⟩
  case round =>
    obtain ⟨k, hk, rfl, rfl, hb⟩ := hrel
    by_cases hlt : k < es.length
    · obtain ⟨b, o, rfl, hbs, x0, x1, x2, hy⟩ := (ha.below hb).get hlt
      have hlt' : (k : Int) < es.length := by omega
      have zb := hb.size
      have hs : ftot (es.take (k + 1)) = ftot (es.take k) + es[k].2.1.2.2.length := sum_succ _ hlt
      have hg := used_bd hlt
      go_wp2_with fail
      go_roundw
      case rel => exact ⟨k + 1, by omega, by go_num, by rw [hs]; go_num, hb.trans (by (repeat (first | exact Below.refl _ _ | (refine Below.alloc ?_ (by first | omega | (simp; done) | (simp; omega)) _) | (refine Below.drew ?_) | (refine below_drewN ?_ _) | (refine below_at1 ?_ (by first | omega | (simp; done) | (simp; omega))) | (refine Below.setCell ?_ (by first | omega | (simp; done) | (simp; omega)) _) | (refine Below.trans ?_ (Below.mono (by assumption) (by first | omega | (simp; done) | (simp; omega)))))))⟩
      case measure => simp [intOf]; omega
    · have hlt' : ¬ ((k : Int) < es.length) := by omega
      have HE : Hid (es.take k = es) := List.take_of_length_le (by omega)
      go_wp2_with fail
      go_ret
      exact ⟨ret_int (by rw [HE.out]), hb⟩
end Go.Proofs.YtfkdifgmhfdbdaaGreatDoor
