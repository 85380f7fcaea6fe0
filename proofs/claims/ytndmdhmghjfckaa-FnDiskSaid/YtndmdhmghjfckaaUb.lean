/- Turns of a disk, its Ids, its size: the reference. The Ids of a disk: the reference. -/
import Derived.Test.YtndmdhmghjfckaaUa
import Derived.Test.YtndmdhmghjfckaaP14k
namespace Go.Proofs.Ytndmdhmghjfckaa
open Go.RowKit

set_option linter.unusedVariables false
set_option maxRecDepth 100000

def nmB (s : ByteArray) : Bool := plainR s.data.toList 16 [46]
def noB (s : ByteArray) : Bool := decide (s.toList = [])
/-- What a turn asks of a directory, and what it makes of it. -/
def okS (dir : List Lk) (t : Tn) : Bool :=
  nmB t.2.1 && (if t.1 = 1 then noB t.2.2.1 && decide (0 < t.2.2.2) && !decide (0 < findS dir t.2.1)
    else if t.1 = 4 then nmB t.2.2.1 && !eqN t.2.2.1 t.2.1 && decide (t.2.2.2 = 0) && decide (0 < findS dir t.2.1)
    else if t.1 = 5 then noB t.2.2.1 && decide (t.2.2.2 = 0) && decide (0 < findS dir t.2.1) else false)
def turnS (dir : List Lk) (t : Tn) : List Lk :=
  if t.1 = 1 then withS dir t.2.1 t.2.2.2
  else if t.1 = 4 then withS (lessS (lessS dir t.2.1) t.2.2.1) t.2.2.1 (findS dir t.2.1) else lessS dir t.2.1
theorem turnS_len (dir : List Lk) (t : Tn) : (turnS dir t).length ≤ dir.length + 1 := by
  have h1 := lessS_len dir t.2.1
  have h2 := lessS_len (lessS dir t.2.1) t.2.2.1
  unfold turnS
  split
  · rw [withS_len]; exact Nat.le_refl _
  · split
    · rw [withS_len]; omega
    · omega
set_option maxHeartbeats 2000000 in
theorem turnOk_spec (A : Option Addr) (c : Nat) (dir : List Lk) (t : Tn) (w : World) (ha : Ks w A dir) (hl : dir.length ≤ 1048576) (hs : t.2.1.data.toList.length ≤ 549755813888) (ht : t.2.2.1.data.toList.length ≤ 549755813888) :
    Calls Try.prog 61 #[.slice A dir.length c, tnV t] w fun e w' => e = .returned (.bool (okS dir t)) ∧ Below w.heap.size w w' := by
  obtain ⟨k, s, u, i⟩ := t
  dsimp only at hs ht
  go_enter Try.func61, Try.ntmps61
  go_wp2_with fail
  have hb0 : Below w.heap.size w (w.alloc (.cells #[.int .i64 k, .string s, .string u, .int .i64 i] 66)) := by (repeat (first | exact Below.refl _ _ | (refine Below.alloc ?_ (by first | omega | (simp; done) | (simp; omega)) _) | (refine Below.drew ?_) | (refine below_drewN ?_ _) | (refine below_at1 ?_ (by first | omega | (simp; done) | (simp; omega))) | (refine Below.setCell ?_ (by first | omega | (simp; done) | (simp; omega)) _) | (refine Below.trans ?_ (Below.mono (by assumption) (by first | omega | (simp; done) | (simp; omega))))))
  refine (find_spec _ _ dir s _ (ha.below hb0) (by omega)).mono ?_
  rintro e w1 ⟨rfl, hb1⟩
  obtain ⟨a1, b1, d1, z1⟩ := keep_blk hb1 (g := w.heap.size) (by repeat (first | assumption | exact heap_alloc_at _ (by first | rfl | (simp; done) | omega) | refine heap_alloc_of _ ?_ | refine heap_setCell_of _ (by first | omega | (simp; done) | (simp; omega)) ?_ | refine heap_setCell_same _ ?_ | exact heap_at1_same (by first | omega | (simp; done) | (simp; omega)) | refine heap_at1_of (by first | omega | (simp; done) | (simp; omega)) ?_))
  have t1 := hb0.trans (hb1.mono hb0.size)
  generalize hF : findS dir s = f
  go_wp2_with (first | (go_at_call_of 58 s; refine (nameOk_spec s _ hs).mono ?_; rintro e w' ⟨rfl, rfl⟩) | (go_at_call_of 58 u; refine (nameOk_spec u _ ht).mono ?_; rintro e w' ⟨rfl, rfl⟩))
  all_goals (go_ret; exact ⟨ret_bool (by simp_all [okS, nmB, noB, eqN]; try first | omega | (rw [Bool.eq_iff_iff]; simp; omega)), t1⟩)
set_option maxHeartbeats 2000000 in
theorem turn_spec (A : Option Addr) (c : Nat) (dir : List Lk) (t : Tn) (w : World) (ha : Ks w A dir) (hl : dir.length ≤ 1000000) :
    Calls Try.prog 62 #[.slice A dir.length c, tnV t] w (LkPost w (turnS dir t)) := by
  obtain ⟨k, s, u, i⟩ := t
  by_cases h1 : k = 1
  · subst h1
    have hb0 : Below w.heap.size w (w.alloc (.cells #[.int .i64 1, .string s, .string u, .int .i64 i] 66)) := by (repeat (first | exact Below.refl _ _ | (refine Below.alloc ?_ (by first | omega | (simp; done) | (simp; omega)) _) | (refine Below.drew ?_) | (refine below_drewN ?_ _) | (refine below_at1 ?_ (by first | omega | (simp; done) | (simp; omega))) | (refine Below.setCell ?_ (by first | omega | (simp; done) | (simp; omega)) _) | (refine Below.trans ?_ (Below.mono (by assumption) (by first | omega | (simp; done) | (simp; omega))))))
    have hsz0 := hb0.size
    have HT : Hid (turnS dir (1, s, u, i) = withS dir s i) := if_pos rfl
    go_enter Try.func62, Try.ntmps62
    go_wp2_with (go_at_call 83; refine (with_spec _ _ dir s i _ (ha.below hb0) (by omega)).mono ?_; rintro e w1 ⟨A1, c1, rfl, ho1, hb1⟩)
    go_ret
    rw [HT.out]
    exact ⟨A1, c1, rfl, ho1.mono (by simp), hb0.trans (hb1.mono hsz0)⟩
  by_cases h4 : k = 4
  · subst h4
    have hb0 : Below w.heap.size w (w.alloc (.cells #[.int .i64 4, .string s, .string u, .int .i64 i] 66)) := by (repeat (first | exact Below.refl _ _ | (refine Below.alloc ?_ (by first | omega | (simp; done) | (simp; omega)) _) | (refine Below.drew ?_) | (refine below_drewN ?_ _) | (refine below_at1 ?_ (by first | omega | (simp; done) | (simp; omega))) | (refine Below.setCell ?_ (by first | omega | (simp; done) | (simp; omega)) _) | (refine Below.trans ?_ (Below.mono (by assumption) (by first | omega | (simp; done) | (simp; omega))))))
    have hsz0 := hb0.size
    have HT : Hid (turnS dir (4, s, u, i) = withS (lessS (lessS dir s) u) u (findS dir s)) := by show _ = _; rw [turnS, if_neg h1, if_pos rfl]
    go_enter Try.func62, Try.ntmps62
    go_wp2_with fail
    refine (find_spec _ _ dir s _ (ha.below hb0) (by omega)).mono ?_
    rintro e w1 ⟨rfl, hb1⟩
    obtain ⟨a1, b1, d1, z1⟩ := keep_blk hb1 (g := w.heap.size) (by repeat (first | assumption | exact heap_alloc_at _ (by first | rfl | (simp; done) | omega) | refine heap_alloc_of _ ?_ | refine heap_setCell_of _ (by first | omega | (simp; done) | (simp; omega)) ?_ | refine heap_setCell_same _ ?_ | exact heap_at1_same (by first | omega | (simp; done) | (simp; omega)) | refine heap_at1_of (by first | omega | (simp; done) | (simp; omega)) ?_))
    have t1 := hb0.trans (hb1.mono hb0.size)
    go_wp2_with fail
    refine (less_spec _ _ dir s _ (ha.below t1) (by omega)).mono ?_
    rintro e w2 ⟨A2, c2, rfl, ho2, hb2⟩
    obtain ⟨a2, b2, d2, z2⟩ := keep_blk hb2 (g := w.heap.size) a1
    have t2 := t1.trans (hb2.mono t1.size)
    have l2 := lessS_len dir s
    have k2 := ho2.sl lk2
    clear a1 b1 d1
    have q2 : w2.cell? ⟨w.heap.size, 2, none⟩ = some (.string u) := b2 2
    clear a2
    go_wp2_with fail
    first | (go_region_held3 (fun w' => Below w2.heap.size w2 w' ∧ w'.cell? ⟨w.heap.size, 2, none⟩ = some (.string u))
        (first | exact ⟨Below.drew (Below.refl _ _), by simpa using q2⟩ | assumption | (refine ⟨?_, ?_⟩ <;> assumption))
        (first
          | (go_at_call 84; refine (less_spec _ _ _ u _ (SlL.below k2 (Below.drew (Below.refl _ _))) (by omega)).mono ?_; rintro e w3 ⟨A3, c3, rfl, ho3, hb3⟩; have hbw3 : Below w2.heap.size w2 w3 := (Below.drew (Below.refl w2.heap.size w2)).trans hb3; have k3 := ho3.sl lk2; have l3 := lessS_len (lessS dir s) u; have hkeep := And.intro hbw3 ((hbw3.cell (p := ⟨w.heap.size, 2, none⟩) z2).trans q2))
          | (go_at_call 83; refine (with_spec _ _ _ u _ _ k3 (by omega)).mono ?_; rintro e w4 ⟨A4, c4, rfl, ho4, hb4⟩; have hbw4 : Below w2.heap.size w2 w4 := hbw3.trans (hb4.mono hbw3.size); have hkeep2 := And.intro hbw4 ((hbw4.cell (p := ⟨w.heap.size, 2, none⟩) z2).trans q2)))) | fail
    go_wp2_with fail
    go_ret
    rw [HT.out]
    have z3 := hbw3.size
    exact ⟨A4, c4, rfl, ho4.mono (by have := t2.size; omega), t2.trans (hbw4.mono t2.size)⟩
  · have hb0 : Below w.heap.size w (w.alloc (.cells #[.int .i64 k, .string s, .string u, .int .i64 i] 66)) := by (repeat (first | exact Below.refl _ _ | (refine Below.alloc ?_ (by first | omega | (simp; done) | (simp; omega)) _) | (refine Below.drew ?_) | (refine below_drewN ?_ _) | (refine below_at1 ?_ (by first | omega | (simp; done) | (simp; omega))) | (refine Below.setCell ?_ (by first | omega | (simp; done) | (simp; omega)) _) | (refine Below.trans ?_ (Below.mono (by assumption) (by first | omega | (simp; done) | (simp; omega))))))
    have hsz0 := hb0.size
    have HT : Hid (turnS dir (k, s, u, i) = lessS dir s) := by show _ = _; rw [turnS, if_neg h1, if_neg h4]
    go_enter Try.func62, Try.ntmps62
    go_wp2_with fail
    refine (find_spec _ _ dir s _ (ha.below hb0) (by omega)).mono ?_
    rintro e w1 ⟨rfl, hb1⟩
    obtain ⟨a1, b1, d1, z1⟩ := keep_blk hb1 (g := w.heap.size) (by repeat (first | assumption | exact heap_alloc_at _ (by first | rfl | (simp; done) | omega) | refine heap_alloc_of _ ?_ | refine heap_setCell_of _ (by first | omega | (simp; done) | (simp; omega)) ?_ | refine heap_setCell_same _ ?_ | exact heap_at1_same (by first | omega | (simp; done) | (simp; omega)) | refine heap_at1_of (by first | omega | (simp; done) | (simp; omega)) ?_))
    have t1 := hb0.trans (hb1.mono hb0.size)
    go_wp2_with fail
    refine (less_spec _ _ dir s _ (ha.below t1) (by omega)).mono ?_
    rintro e w2 ⟨A2, c2, rfl, ho2, hb2⟩
    obtain ⟨a2, b2, d2, z2⟩ := keep_blk hb2 (g := w.heap.size) a1
    have t2 := t1.trans (hb2.mono t1.size)
    go_wp2_with fail
    go_ret
    rw [HT.out]
    exact ⟨A2, c2, rfl, ho2.mono t1.size, t2⟩
theorem info_int : (Try.prog.info? 3).map (fun i => (i.zero, i.size, i.bytes)) = some (some (.int .i64 0), 1, 8) := by kernel_rfl
theorem Cs.keep {w w' : World} {B' : Nat} {A : Option Addr} {vs : List Value} (h : Cs w A vs) (hb : Below B' w w') (hA : ∀ ad, A = some ad → ad.block < B') : Cs w' A vs := by
  rcases h with h | ⟨b, o, rfl, h⟩
  · exact .inl h
  · exact .inr ⟨b, o, rfl, fun i v hi => (hb.cell (p := ⟨b, o + i, none⟩) (hA ⟨b, o, none⟩ rfl)).trans (h i v hi)⟩
theorem Cs.ints {w : World} {A : Option Addr} {ns : List Int} (h : Cs w A (ns.map I)) {k : Nat} (hk : k < ns.length) : ∃ b o, A = some ⟨b, o, none⟩ ∧ w.cell? ⟨b, o + k, none⟩ = some (.int .i64 ns[k]) := by
  rcases h with h | ⟨b, o, hA, h⟩
  · have h2 : ns.length = 0 := by have := congrArg List.length h; rwa [List.length_map] at this
    omega
  · exact ⟨b, o, hA, h k _ (by rw [List.getElem?_map, List.getElem?_eq_getElem hk]; rfl)⟩
set_option maxHeartbeats 1000000 in
theorem hasInt_spec (A : Option Addr) (c : Nat) (ns : List Int) (n : Int) (w : World) (ha : Cs w A (ns.map I)) (hl : ns.length ≤ 1099511627776) :
    Calls Try.prog 60 #[.slice A ns.length c, .int .i64 n] w fun e w' => e = .returned (.bool (decide (n ∈ ns))) ∧ w = w' := by
  go_enter Try.func60, Try.ntmps60
  go_wp2_with fail
  go_loop [9] (fun i => ∃ k : Nat, k ≤ ns.length ∧ i = .int .i64 k ∧ Hid (n ∈ ns ↔ n ∈ ns.drop k)) (fun i => ns.length - (intOf i).toNat)
  case atStart => exact ⟨0, Nat.zero_le _, rfl, Iff.rfl⟩
  case round =>
    obtain ⟨k, hk, rfl, hf⟩ := hrel
    by_cases hlt : k < ns.length
    · obtain ⟨b, o, rfl, x0⟩ := ha.ints hlt
      have hlt' : (k : Int) < ns.length := by omega
      by_cases he : ns[k] = n
      · have HF : Hid (decide (n ∈ ns) = true) := decide_eq_true (hf.out.2 (by rw [List.drop_eq_getElem_cons hlt]; simp [he]))
        clear hf
        go_wp2_with fail
        go_ret
        exact ⟨ret_bool HF.out.symm, rfl⟩
      · have HF : Hid (n ∈ ns ↔ n ∈ ns.drop (k + 1)) := hf.out.trans (by rw [List.drop_eq_getElem_cons hlt, List.mem_cons]; exact ⟨fun h => h.resolve_left (fun h2 => he h2.symm), .inr⟩)
        clear hf
        go_wp2_with fail
        go_round
        case rel => exact ⟨k + 1, by omega, by go_num, HF⟩
        case measure => simp [intOf]; omega
    · have hlt' : ¬ ((k : Int) < ns.length) := by omega
      have HF : Hid (decide (n ∈ ns) = false) := decide_eq_false (fun h => by have h2 := hf.out.1 h; rw [List.drop_of_length_le (by omega)] at h2; simp at h2)
      clear hf
      go_wp2_with fail
      go_ret
      exact ⟨ret_bool HF.out.symm, rfl⟩
theorem used_bd {es : List Fl} {k : Nat} (hk : k < es.length) : ftot (es.take k) + es[k].2.1.2.2.length ≤ ftot es := sum_get _ hk
set_option maxHeartbeats 1000000 in
theorem used_spec (r f n : Int) (FA : Option Addr) (es : List Fl) (c1 : Nat) (KA : Option Addr) (kn c2 : Nat) (TA : Option Addr) (tn c3 : Nat) (w : World) (ha : Fs w FA es) (hl : es.length ≤ 1099511627776) (ht : ftot es ≤ 1099511627776) :
    Calls Try.prog 47 #[dkV r f n FA es.length c1 KA kn c2 TA tn c3] w fun e w' => e = .returned (.int .i64 (ftot es)) ∧ Below w.heap.size w w' := by
  have hb0 : Below w.heap.size w (w.alloc (.cells (dkC r f n FA es.length c1 KA kn c2 TA tn c3) 27)) := by (repeat (first | exact Below.refl _ _ | (refine Below.alloc ?_ (by first | omega | (simp; done) | (simp; omega)) _) | (refine Below.drew ?_) | (refine below_drewN ?_ _) | (refine below_at1 ?_ (by first | omega | (simp; done) | (simp; omega))) | (refine Below.setCell ?_ (by first | omega | (simp; done) | (simp; omega)) _) | (refine Below.trans ?_ (Below.mono (by assumption) (by first | omega | (simp; done) | (simp; omega))))))
  go_enter Try.func47, Try.ntmps47
  go_wp2_with fail
  go_loopw [3, 9] (fun sv i wr => ∃ k : Nat, k ≤ es.length ∧ i = .int .i64 k ∧ sv = .int .i64 (ftot (es.take k)) ∧ Below w.heap.size w wr) (fun _ i _ => es.length - (intOf i).toNat)
  case atStart => exact ⟨0, Nat.zero_le _, rfl, rfl, hb0⟩
  case round =>
    obtain ⟨k, hk, rfl, rfl, hb⟩ := hrel
    by_cases hlt : k < es.length
    · obtain ⟨b, o, rfl, hbs, x0, x1, x2, hy⟩ := (ha.below hb).get hlt
      have hlt' : (k : Int) < es.length := by omega
      have zb := hb.size
      have hs : ftot (es.take (k + 1)) = ftot (es.take k) + es[k].2.1.2.2.length := sum_succ _ hlt
      have hg := used_bd hlt
      go_wp2_with fail
      go_roundw
      case rel => exact ⟨k + 1, by omega, by go_num, by rw [hs]; go_num, hb.trans (by (repeat (first | exact Below.refl _ _ | (refine Below.alloc ?_ (by first | omega | (simp; done) | (simp; omega)) _) | (refine Below.drew ?_) | (refine below_drewN ?_ _) | (refine below_at1 ?_ (by first | omega | (simp; done) | (simp; omega))) | (refine Below.setCell ?_ (by first | omega | (simp; done) | (simp; omega)) _) | (refine Below.trans ?_ (Below.mono (by assumption) (by first | omega | (simp; done) | (simp; omega)))))))⟩
      case measure => simp [intOf]; omega
    · have hlt' : ¬ ((k : Int) < es.length) := by omega
      have HE : Hid (es.take k = es) := List.take_of_length_le (by omega)
      go_wp2_with fail
      go_ret
      exact ⟨ret_int (by rw [HE.out]), hb⟩

set_option linter.unusedVariables false
set_option maxRecDepth 100000

abbrev iL (n : Int) : List Value := [.int .i64 n]
theorem i1 (n : Int) : (iL n).length = 1 := rfl
theorem iL_map (ns : List Int) : ns.flatMap iL = ns.map I := by
  induction ns with
  | nil => rfl
  | cons x r ih => rw [List.flatMap_cons, ih]; rfl
theorem ints_cs {w : World} {A : Option Addr} {ns : List Int} (h : SlL w A 1 iL ns) : Cs w A (ns.map I) := by
  rcases h with h | ⟨b, o, hA, h⟩
  · exact .inl (by rw [h]; rfl)
  · refine .inr ⟨b, o, hA, fun i v hi => ?_⟩
    rw [List.getElem?_map] at hi
    obtain ⟨n, hn, rfl⟩ := Option.map_eq_some_iff.1 hi
    have := h i n hn 0 _ rfl
    simpa using this
theorem Cs.take {w : World} {A : Option Addr} {vs : List Value} (h : Cs w A vs) (k : Nat) : Cs w A (vs.take k) := by
  rcases h with h | ⟨b, o, hA, h⟩
  · exact .inl (by rw [h]; simp)
  · refine .inr ⟨b, o, hA, fun i v hi => ?_⟩
    rw [List.getElem?_take] at hi
    split at hi
    · exact h i v hi
    · simp at hi
abbrev Oi (w : World) (lo : Nat) (A : Option Addr) (c : Nat) (ns : List Int) : Prop := Oe 3 1 iL w lo A c ns
section
variable {ops : Array Oper} {rest : List Oper} {o : Oper} {a : Act} {Q : Exit → Act → World → Prop}
/-- append(s, n) onto numbers of one's own. -/
theorem wp_app1I (hgd : o.guard = none) (s x : Operand) (ho : o.op = .call { callee := .builtin .append, args := #[s, x], argTypes := #[29, 29] })
    (lo : Nat) (A : Option Addr) (c : Nat) (xs : List Int) (w : World) (n : Nat) (y : Int) (ha : Oe 3 1 iL w lo A c xs) (hn : n = xs.length) (hs : a.eval s = .slice A n c)
    (g : Nat) (hx : a.eval x = .slice (some ⟨g, 0, none⟩) 1 1) (hg : g = w.heap.size) (hl : xs.length ≤ 1099511627776) (hlo : lo ≤ w.heap.size)
    (h : ∀ A' c' w' us, Hid (us = xs ++ [y]) → Oe 3 1 iL w' lo A' c' us → Below lo w w' → (∀ b, b < w.heap.size → (∀ ad, A = some ad → ad.block ≠ b) → w'.heap[b]? = w.heap[b]?) → wpList Try.prog ops Q rest (a.put o.dst (.slice A' us.length c')) w') :
    wpList Try.prog ops Q (o :: rest) a (w.alloc (.cells #[.int .i64 y] 3)) := by
  obtain ⟨i0, hi, hz0, hz2, hz3⟩ := info_parts info_int
  subst hn hg
  refine wpList_plain hgd fun K hK => ?_
  obtain ⟨v', w', hr, h2, h3⟩ := run_append_ownG (P := Try.prog) (w.alloc (.cells #[.int .i64 y] 3)) lo 29 o.type 3 i0 _ 1 8 Try.underlying29 hi hz0 hz2 hz3 rfl (by decide) _ _ _ (ownsG.alloc ha _) ⟨w.heap.size, 0, none⟩ 1 1 (iL y) rfl
    (by intro j u hu; match j, hu with
        | 0, hu => simp at hu; subst hu; simp [Addr.add]
        | j + 1, hu => simp at hu) (by simp [Value.oneCell']) (by unfold maxLen; omega) (by omega) (by simp; omega)
  obtain ⟨A', c', rfl⟩ := h2.form
  unfold Oper.wp execOp
  simp only [ho, resolve, invoke, builtin, Sem.run_bind, Sem.run_pure, Result.andThen_ok, List.map_toArray, List.map_cons, List.map_nil, hs, hx, hr]
  refine hK _ _ ?_
  have hL : (xs ++ [y]).length = xs.length + 1 := by simp
  have hob : Oe 3 1 iL w' lo A' c' (xs ++ [y]) := by
    unfold Oe; rw [hL, flat_snoc]; exact h2
  have := h A' c' w' _ (Lib.hid rfl) hob (((Below.refl lo w).alloc hlo _).trans (below_of_grown h3 (by simp; omega) (fun k hk => (ownsG.lt ha k hk).1))) (fun b hb hne => (h3.block b (by simp; omega) (by
    intro he
    cases A with
    | none => simp [Value.ownBlock] at he
    | some ad => simp [Value.ownBlock] at he; exact hne ad rfl he.symm)).trans (Below.heap_alloc w _ b hb))
  rw [hL] at this
  exact this
end
theorem Oe.emptyAt {T : Type} {e : TypeId} {k : Nat} {enc : T → List Value} {w : World} {g : Nat} (hg : g = w.heap.size) : Oe e k enc (w.alloc (.cells #[] e)) g (some ⟨g, 0, none⟩) 0 [] := by
  subst hg
  exact Oe.empty
def mkIds (ts : List Tn) : List Int := (ts.filter fun t => decide (t.1 = 1)).map fun t => t.2.2.2
def idsOf (ks : List Lk) (ts : List Tn) : List Int := ks.map (fun x => x.2) ++ mkIds ts
theorem mkIds_succ (ts : List Tn) (k : Nat) (hk : k < ts.length) : mkIds (ts.take (k + 1)) = mkIds (ts.take k) ++ if ts[k].1 = 1 then [ts[k].2.2.2] else [] := by
  rw [take_succ_get (List.getElem?_eq_getElem hk), mkIds, mkIds, List.filter_append, List.map_append]
  congr 1
  by_cases h : ts[k].1 = 1 <;> simp [h]
theorem mkIds_len (ts : List Tn) : (mkIds ts).length ≤ ts.length := by
  rw [mkIds, List.length_map]; exact List.length_filter_le _ _
def IntPost (w : World) (ns : List Int) (e : Ending) (w' : World) : Prop :=
  ∃ A' c', e = .returned (.slice A' ns.length c') ∧ Oi w' w.heap.size A' c' ns ∧ Below w.heap.size w w'
set_option maxHeartbeats 2000000 in
theorem ids_spec (r f n : Int) (FA : Option Addr) (fn c1 : Nat) (KA : Option Addr) (ks : List Lk) (c2 : Nat) (TA : Option Addr) (ts : List Tn) (c3 : Nat) (w : World) (hK : Ks w KA ks) (hT : Ts w TA ts) (hk : ks.length ≤ 1048576) (ht : ts.length ≤ 1048576) :
    Calls Try.prog 59 #[dkV r f n FA fn c1 KA ks.length c2 TA ts.length c3] w (IntPost w (idsOf ks ts)) := by
  have hb0 : Below w.heap.size w (w.alloc (.cells (dkC r f n FA fn c1 KA ks.length c2 TA ts.length c3) 27)) := by (repeat (first | exact Below.refl _ _ | (refine Below.alloc ?_ (by first | omega | (simp; done) | (simp; omega)) _) | (refine Below.drew ?_) | (refine below_drewN ?_ _) | (refine below_at1 ?_ (by first | omega | (simp; done) | (simp; omega))) | (refine Below.setCell ?_ (by first | omega | (simp; done) | (simp; omega)) _) | (refine Below.trans ?_ (Below.mono (by assumption) (by first | omega | (simp; done) | (simp; omega))))))
  go_enter Try.func59, Try.ntmps59
  go_wp2_with fail
  have B0 : ((w.alloc (.cells (dkC r f n FA fn c1 KA ks.length c2 TA ts.length c3) 27)).alloc (.cells #[] 3)).heap[w.heap.size]? = some (.cells (dkC r f n FA fn c1 KA ks.length c2 TA ts.length c3) 27 (0, 0)) := (by repeat (first | assumption | exact heap_alloc_at _ (by first | rfl | (simp; done) | omega) | refine heap_alloc_of _ ?_ | refine heap_setCell_of _ (by first | omega | (simp; done) | (simp; omega)) ?_ | refine heap_setCell_same _ ?_ | exact heap_at1_same (by first | omega | (simp; done) | (simp; omega)) | refine heap_at1_of (by first | omega | (simp; done) | (simp; omega)) ?_))
  go_loopw [3, 12] (fun ov i wr => ∃ (k : Nat) (A1 : Option Addr) (c1' : Nat) (us : List Int), k ≤ ks.length ∧ i = .int .i64 k ∧ ov = .slice A1 us.length c1' ∧ Oi wr (w.heap.size + 1) A1 c1' us ∧ us.length ≤ k ∧ Hid (us = (ks.take k).map (fun x => x.2)) ∧ Below w.heap.size w wr ∧ wr.heap[w.heap.size]? = some (.cells (dkC r f n FA fn c1 KA ks.length c2 TA ts.length c3) 27 (0, 0))) (fun _ i _ => ks.length - (intOf i).toNat)
  case atStart => exact ⟨0, some ⟨w.heap.size + 1, 0, none⟩, 0, [], Nat.zero_le _, rfl, rfl, Oe.emptyAt (by simp), Nat.zero_le _, Lib.hid rfl, hb0.alloc (by first | omega | (simp; done) | (simp; omega)) _, B0⟩
  case round =>
    obtain ⟨k, A1, c1', us, hk', rfl, rfl, ho, hul, hu, hb, hB⟩ := hrel
    have zb := hb.size
    have zB : w.heap.size < wr.heap.size := (Array.getElem?_eq_some_iff.1 hB).1
    by_cases hlt : k < ks.length
    · obtain ⟨b, o, rfl, hbs, x0, x1⟩ := Ks.get (hK.below hb) hlt
      have hlt' : (k : Int) < ks.length := by omega
      go_wp2_with (at_builtin; refine wp_app1I rfl _ _ rfl (w.heap.size + 1) A1 c1' us _ _ ks[k].2 (ho.alloc _) rfl rfl _ rfl (by simp) (by omega) (by first | omega | (simp; done) | (simp; omega)) ?_; intro A2 c2' w2 vs hvs ho2 hb2 hk2)
      have hA := ho.inB
      go_roundw
      case rel =>
        refine ⟨k + 1, A2, c2', vs, by omega, by go_num, rfl, ho2, by rw [hvs.out]; simp; omega, ?_, (hb.trans ((Below.refl _ _).alloc zb _)).trans (hb2.mono (by omega)), ?_⟩
        · show _ = _
          rw [hvs.out, hu.out, take_succ_get (List.getElem?_eq_getElem hlt), List.map_append]
          rfl
        · rw [hk2 w.heap.size (by first | omega | (simp; done) | (simp; omega)) (fun ad h => by have := (hA ad h).1; omega)]
          exact heap_alloc_of _ hB
      case measure => simp [intOf]; omega
    · have hlt' : ¬ ((k : Int) < ks.length) := by omega
      have hu1 : Hid (us = ks.map (fun x => x.2)) := hu.out.trans (by rw [List.take_of_length_le (by omega)])
      have q5 : wr.cell? ⟨w.heap.size, 5, none⟩ = some (.slice TA ts.length c3) := cell_of_row wr w.heap.size 5 _ _ (0, 0) hB
      clear hu hB
      go_wp2_with fail
      go_loopw [3, 25] (fun ov i wr => ∃ (k : Nat) (A1 : Option Addr) (c1' : Nat) (us : List Int), k ≤ ts.length ∧ i = .int .i64 k ∧ ov = .slice A1 us.length c1' ∧ Oi wr (w.heap.size + 1) A1 c1' us ∧ us.length ≤ ks.length + k ∧ Hid (us = ks.map (fun x => x.2) ++ mkIds (ts.take k)) ∧ Below w.heap.size w wr) (fun _ i _ => ts.length - (intOf i).toNat)
      case atStart => exact ⟨0, A1, c1', us, Nat.zero_le _, rfl, rfl, ho, by omega, Lib.hid (by rw [hu1.out]; simp [mkIds]), hb⟩
      case round =>
        clear ho hul hu1 hb zb zB
        obtain ⟨j, A3, c3', vs, hj, rfl, rfl, ho, hul, hu, hb⟩ := hrel
        have zb := hb.size
        by_cases hlt2 : j < ts.length
        · obtain ⟨b, o, rfl, hbs, x0, x1, x2, x3⟩ := Ts.get (hT.below hb) hlt2
          have hlt2' : (j : Int) < ts.length := by omega
          have hs := mkIds_succ ts j hlt2
          cases he : (ts[j].1 == 1) with
          | true =>
            have HF : Hid (vs ++ [ts[j].2.2.2] = ks.map (fun x => x.2) ++ mkIds (ts.take (j + 1))) := by
              show _ = _
              rw [hs, if_pos (by simpa using he), ← List.append_assoc, ← hu.out]
            clear hu hs
            go_wp2_with (at_builtin; refine wp_app1I rfl _ _ rfl (w.heap.size + 1) A3 c3' vs _ _ ts[j].2.2.2 (ho.alloc _) rfl rfl _ rfl (by simp) (by omega) (by first | omega | (simp; done) | (simp; omega)) ?_; intro A4 c4' w4 us4 hus4 ho4 hb4 hk4)
            go_roundw
            case rel => exact ⟨j + 1, A4, c4', us4, by omega, by go_num, rfl, ho4, by rw [hus4.out]; simp; omega, Lib.hid (hus4.out.trans HF.out), (hb.trans ((Below.refl _ _).alloc zb _)).trans (hb4.mono (by omega))⟩
            case measure => simp [intOf]; omega
          | false =>
            have HF : Hid (vs = ks.map (fun x => x.2) ++ mkIds (ts.take (j + 1))) := by
              show _ = _
              rw [hs, if_neg (by simpa using he), List.append_nil, ← hu.out]
            clear hu hs
            go_wp2_with fail
            go_roundw
            case rel => exact ⟨j + 1, A3, c3', vs, by omega, by go_num, rfl, ho.alloc _, by omega, HF, hb.trans (by (repeat (first | exact Below.refl _ _ | (refine Below.alloc ?_ (by first | omega | (simp; done) | (simp; omega)) _) | (refine Below.drew ?_) | (refine below_drewN ?_ _) | (refine below_at1 ?_ (by first | omega | (simp; done) | (simp; omega))) | (refine Below.setCell ?_ (by first | omega | (simp; done) | (simp; omega)) _) | (refine Below.trans ?_ (Below.mono (by assumption) (by first | omega | (simp; done) | (simp; omega)))))))⟩
            case measure => simp [intOf]; omega
        · have hlt2' : ¬ ((j : Int) < ts.length) := by omega
          have HE : Hid (vs = idsOf ks ts) := hu.out.trans (by rw [List.take_of_length_le (by omega)]; rfl)
          clear hu
          go_wp2_with fail
          go_ret
          have hE := HE.out
          subst hE
          exact ⟨A3, c3', rfl, ho.mono (by omega), hb⟩
end Go.Proofs.Ytndmdhmghjfckaa
