/- Lists of loads: their size, copying, comparing, marking, holding. -/
import Derived.Test.YthnbfaekmolaoaaP16
namespace Go.Proofs.Ythnbfaekmolaoaa
open Go.RowKit
set_option linter.unusedVariables false
set_option maxRecDepth 100000

/-- A slice of bytes: where it begins, its capacity, its bytes. -/
abbrev Sl := Option Addr × Nat × List UInt8
abbrev slv (e : Sl) : Value := .slice e.1 e.2.2.length e.2.1
def datas (es : List Sl) : List (List UInt8) := es.map fun e => e.2.2
/-- A slice that begins at A reads as these loads. -/
def Ls (w : World) (A : Option Addr) (es : List Sl) : Prop := Cs w A (es.map slv) ∧ ∀ e, e ∈ es → By w e.1 e.2.2
theorem Ls.below {w w' : World} {A : Option Addr} {es : List Sl} (h : Ls w A es) (hb : Below w.heap.size w w') : Ls w' A es :=
  ⟨h.1.below hb, fun e he => (h.2 e he).below hb⟩
theorem Ls.drewN {w : World} {A : Option Addr} {es : List Sl} (h : Ls w A es) (m : Nat) : Ls (w.drewN m) A es := h
theorem Ls.get {w : World} {A : Option Addr} {es : List Sl} (h : Ls w A es) {k : Nat} (hk : k < es.length) : ∃ b o, A = some ⟨b, o, none⟩ ∧ w.cell? ⟨b, o + k, none⟩ = some (slv es[k]) ∧ By w es[k].1 es[k].2.2 := by
  rcases h.1 with h1 | ⟨b, o, hA, h1⟩
  · have h2 : es.length = 0 := by have := congrArg List.length h1; rwa [List.length_map] at this
    omega
  · exact ⟨b, o, hA, h1 k _ (by rw [List.getElem?_map, List.getElem?_eq_getElem hk]; rfl), h.2 _ (List.getElem_mem hk)⟩
def tot (es : List Sl) : Nat := (es.map fun e => e.2.2.length).sum
theorem tot_succ {es : List Sl} {k : Nat} (hk : k < es.length) : tot (es.take (k + 1)) = tot (es.take k) + es[k].2.2.length := by
  rw [take_succ_get (List.getElem?_eq_getElem hk)]
  simp only [tot, List.map_append, List.map_cons, List.map_nil, List.sum_append, List.sum_cons, List.sum_nil, Nat.add_zero]
theorem tot_le (es : List Sl) (k : Nat) : tot (es.take k) ≤ tot es := by
  have h : tot (es.take k ++ es.drop k) = tot (es.take k) + tot (es.drop k) := by simp only [tot, List.map_append, List.sum_append]
  rw [List.take_append_drop] at h
  omega
theorem tot_get {es : List Sl} {k : Nat} (hk : k < es.length) : tot (es.take k) + es[k].2.2.length ≤ tot es := by
  rw [← tot_succ hk]
  exact tot_le _ _
theorem rd_loads {w : World} {A : Option Addr} {n c : Nat} (h : Rd Try.prog w 50 [.slice A n c]) : ∃ es : List Sl, n = es.length ∧ Ls w A es ∧ es.length ≤ maxLen ∧ ∀ e, e ∈ es → e.2.2.length ≤ maxLen := by
  obtain ⟨A', c', es, h1, h2, h3, h4⟩ := Rd.list (T := Sl) (size := 1) (enc := fun e => [slv e]) (G := fun e => By w e.1 e.2.2 ∧ e.2.2.length ≤ maxLen) Try.underlying50 (by kernel_rfl) (by decide) (by
    intro es hes
    obtain ⟨hl, hf⟩ := hes.struct Try.underlying74
    have hc : Try.prog.cellsOf 74 = 1 := by kernel_rfl
    have hd : Try.prog.cellsOf 23 = 1 := by kernel_rfl
    have h0 : Rd Try.prog w 23 ((es.drop 0).take (Try.prog.cellsOf 23)) := hf 0 _ rfl
    rw [hc] at hl
    rw [hd, List.drop_zero, List.take_of_length_le (by omega)] at h0
    obtain ⟨A, n, c, rfl, _⟩ := h0.slice Try.underlying23
    obtain ⟨bs, rfl, hb, hm⟩ := rd_bytes h0
    exact ⟨(A, c, bs), rfl, hb, hm⟩) h
  injection h1 with h1 _
  injection h1 with h1 h1' h1''
  subst h1 h1' h1''
  refine ⟨es, rfl, ⟨?_, fun e he => (h3 e he).1⟩, h2, fun e he => (h3 e he).2⟩
  rcases h4 with rfl | ⟨b, o, hA, h⟩
  · exact .inl rfl
  · refine .inr ⟨b, o, hA, fun i x hi => ?_⟩
    rw [List.getElem?_map] at hi
    obtain ⟨e, he, rfl⟩ := Option.map_eq_some_iff.1 hi
    have := h i e he 0 (slv e) rfl
    simpa using this

/-- What is left of a budget. -/
def szR (left n : Int) : Int := if left < n then -1 else left - n
theorem szR_no {left n : Int} (h : left < n) : Hid (szR left n = -1) := if_pos h
theorem szR_yes {left n : Int} (h : ¬ left < n) : Hid (szR left n = left - n) := if_neg h
theorem szByteS_any (A : Option Addr) (n c : Nat) (left : Int) (w : World) (hn : n ≤ maxLen) (h0 : 0 ≤ left) (h1 : left ≤ 1048576) :
    Calls Try.prog 75 #[.slice A n c, .int .i64 left] w fun e w' => e = .returned (.int .i64 (szR left n)) ∧ w = w' := by
  unfold maxLen at hn
  by_cases h : left < n
  · have HS := szR_no h
    have h' : left - n < 0 := by omega
    go_enter Try.func75, Try.ntmps75
    go_wp2
    go_ret
    exact ⟨ret_int HS.out.symm, rfl⟩
  · have HS := szR_yes h
    have h' : ¬ left - n < 0 := by omega
    go_enter Try.func75, Try.ntmps75
    go_wp2
    go_ret
    exact ⟨ret_int HS.out.symm, rfl⟩
theorem szLoad_any (A : Option Addr) (n c : Nat) (left : Int) (w : World) (hn : n ≤ maxLen) (h0 : 0 ≤ left) (h1 : left ≤ 1048576) :
    Calls Try.prog 66 #[.agg #[.slice A n c], .int .i64 left] w fun e w' => e = .returned (.int .i64 (szR left n)) ∧ Below w.heap.size w w' := by
  have hn' := hn
  unfold maxLen at hn'
  by_cases h : left < n
  · have HS := szR_no h
    go_enter Try.func66, Try.ntmps66
    go_wp2_with (go_at_call 75; refine (szByteS_any _ _ _ _ _ hn h0 h1).mono ?_; rintro e w' ⟨he, rfl⟩; rw [HS.out] at he; subst he)
    go_ret
    exact ⟨ret_int HS.out.symm, (Below.refl _ _).alloc (Nat.le_refl _) _⟩
  · have HS := szR_yes h
    have h' : ¬ left - n < 0 := by omega
    go_enter Try.func66, Try.ntmps66
    go_wp2_with (go_at_call 75; refine (szByteS_any _ _ _ _ _ hn h0 h1).mono ?_; rintro e w' ⟨he, rfl⟩; rw [HS.out] at he; subst he)
    go_ret
    exact ⟨ret_int HS.out.symm, (Below.refl _ _).alloc (Nat.le_refl _) _⟩
set_option maxHeartbeats 400000 in
theorem szLoadS_any (A : Option Addr) (c : Nat) (es : List Sl) (left : Int) (w : World) (ha : Ls w A es) (hl : es.length ≤ maxLen) (hm : ∀ e, e ∈ es → e.2.2.length ≤ maxLen) (h0 : 0 ≤ left) (h1 : left ≤ 1048576) :
    Calls Try.prog 43 #[.slice A es.length c, .int .i64 left] w fun e w' => e = .returned (.int .i64 (szR left (es.length + tot es))) ∧ Below w.heap.size w w' := by
  have hl' := hl
  unfold maxLen at hl'
  by_cases h : left < es.length
  · have HS : Hid (szR left (es.length + tot es) = -1) := szR_no (by omega)
    have h' : left - es.length < 0 := by omega
    go_enter Try.func43, Try.ntmps43
    go_wp2
    go_ret
    exact ⟨ret_int HS.out.symm, Below.refl _ _⟩
  · have h' : ¬ left - es.length < 0 := by omega
    go_enter Try.func43, Try.ntmps43
    go_wp2
    go_loopw [1, 5] (fun lv i wr => ∃ k : Nat, k ≤ es.length ∧ i = .int .i64 k ∧ lv = .int .i64 (left - es.length - tot (es.take k)) ∧ (tot (es.take k) : Int) ≤ left - es.length ∧ Below w.heap.size w wr) (fun _ i _ => es.length - (intOf i).toNat)
    case atStart => exact ⟨0, Nat.zero_le _, rfl, by simp [tot], by simp [tot]; omega, Below.refl _ _⟩
    case round =>
      obtain ⟨k, hk, rfl, rfl, ht, hb⟩ := hrel
      by_cases hlt : k < es.length
      · have hlt' : (k : Int) < es.length := by omega
        obtain ⟨b, o, rfl, hx, hy⟩ := (ha.below hb).get hlt
        have hn := hm _ (List.getElem_mem hlt)
        have hs := tot_succ hlt
        have hg := tot_get hlt
        by_cases hz : left - es.length - tot (es.take k) < es[k].2.2.length
        · have HS : Hid (szR left (es.length + tot es) = -1) := szR_no (by omega)
          have HZ := szR_no hz
          go_wp2_with (go_at_call 66; refine (szLoad_any _ _ _ _ _ hn (by omega) (by omega)).mono ?_; rintro e w2 ⟨he, hb2⟩; rw [HZ.out] at he; subst he)
          go_ret
          exact ⟨ret_int HS.out.symm, hb.trans (hb2.mono hb.size)⟩
        · have HZ := szR_yes hz
          have hz' : ¬ left - es.length - tot (es.take k) - es[k].2.2.length < 0 := by omega
          go_wp2_with (go_at_call 66; refine (szLoad_any _ _ _ _ _ hn (by omega) (by omega)).mono ?_; rintro e w2 ⟨he, hb2⟩; rw [HZ.out] at he; subst he)
          go_roundw
          case rel => exact ⟨k + 1, by omega, by go_num, by rw [hs]; go_num, by rw [hs]; omega, hb.trans (hb2.mono hb.size)⟩
          case measure => simp [intOf]; omega
      · have hlt' : ¬ ((k : Int) < es.length) := by omega
        have hk' : k = es.length := by omega
        have ht' : es.take k = es := by rw [hk']; exact List.take_length
        rw [ht'] at ht ⊢
        have HS : Hid (szR left (es.length + tot es) = left - (es.length + tot es)) := szR_yes (by omega)
        clear hk' ht'
        go_wp2
        go_ret
        exact ⟨ret_int (by rw [HS.out]; omega), hb⟩

/-- Loads whose bytes lie in blocks of their own, one after the other, from block lo to before block hi. -/
def Obs (w : World) (lo hi : Nat) : List Sl → Prop
  | [] => lo ≤ hi
  | e :: r => ∃ m, lo ≤ m ∧ Ob w lo e.1 e.2.1 e.2.2 ∧ InB lo m e.1 ∧ Obs w m hi r
theorem Obs.le {w : World} {es : List Sl} : ∀ {lo hi : Nat}, Obs w lo hi es → lo ≤ hi := by
  induction es with
  | nil => exact fun h => h
  | cons e r ih =>
    rintro lo hi ⟨m, h1, _, _, h2⟩
    exact Nat.le_trans h1 (ih h2)
theorem Ob.keepB {w w' : World} {lo c : Nat} {A : Option Addr} {bs : List UInt8} (h : Ob w lo A c bs) (hk : ∀ ad, A = some ad → w'.heap[ad.block]? = w.heap[ad.block]?) : Ob w' lo A c bs := by
  obtain ⟨h1, h2⟩ := h
  refine ⟨h1, ?_⟩
  rcases h2 with h2 | ⟨g, cap, cur, fz, hv, h3, h4, h5⟩
  · exact .inl h2
  · injection hv with hv hv2 hv3
    exact .inr ⟨g, cap, cur, fz, by rw [hv, hv3], h3, (hk _ hv).trans h4, h5⟩
theorem Obs.keep {w w' : World} {es : List Sl} : ∀ {lo hi : Nat}, Obs w lo hi es → (∀ k, lo ≤ k → k < hi → w'.heap[k]? = w.heap[k]?) → Obs w' lo hi es := by
  induction es with
  | nil => exact fun h _ => h
  | cons e r ih =>
    rintro lo hi ⟨m, h1, h2, h3, h4⟩ hk
    have hl := h4.le
    exact ⟨m, h1, h2.keepB fun ad ha => hk _ (h3 ad ha).1 (by have := (h3 ad ha).2; omega), h3, ih h4 fun k hk1 hk2 => hk k (by omega) hk2⟩
theorem Obs.below {w w' : World} {es : List Sl} {lo hi B' : Nat} (h : Obs w lo hi es) (hb : Below B' w w') (hB : hi ≤ B') : Obs w' lo hi es :=
  h.keep fun k _ hk => hb.block k (by omega)
theorem Obs.snoc {w : World} {es : List Sl} {A : Option Addr} {c : Nat} {bs : List UInt8} {m hi : Nat} (h2 : Ob w m A c bs) (h3 : InB m hi A) (h4 : m ≤ hi) : ∀ {lo : Nat}, Obs w lo m es → Obs w lo hi (es ++ [(A, c, bs)]) := by
  induction es with
  | nil => exact fun h => ⟨hi, Nat.le_trans h h4, h2.mono h, fun ad ha => ⟨Nat.le_trans h (h3 ad ha).1, (h3 ad ha).2⟩, Nat.le_refl _⟩
  | cons e r ih => rintro lo ⟨m', h5, h6, h7, h8⟩; exact ⟨m', h5, h6, h7, ih h8⟩
theorem Obs.widen {w : World} {es : List Sl} {hi hi' : Nat} (hh : hi ≤ hi') : ∀ {lo : Nat}, Obs w lo hi es → Obs w lo hi' es := by
  induction es with
  | nil => exact fun h => Nat.le_trans h hh
  | cons e r ih => rintro lo ⟨m', h5, h6, h7, h8⟩; exact ⟨m', h5, h6, h7, ih h8⟩
theorem Obs.lower {w : World} {es : List Sl} {lo lo' hi : Nat} (hh : lo' ≤ lo) (h : Obs w lo hi es) : Obs w lo' hi es := by
  cases es with
  | nil => exact Nat.le_trans hh h
  | cons e r =>
    obtain ⟨m, h1, h2, h3, h4⟩ := h
    exact ⟨m, by omega, h2.mono hh, fun ad ha => ⟨Nat.le_trans hh (h3 ad ha).1, (h3 ad ha).2⟩, h4⟩
theorem Obs.split {w : World} {a b : List Sl} {e : Sl} {hi : Nat} : ∀ {lo : Nat}, Obs w lo hi (a ++ e :: b) → ∃ m m', lo ≤ m ∧ m ≤ m' ∧ m' ≤ hi ∧ Obs w lo m a ∧ Ob w m e.1 e.2.1 e.2.2 ∧ InB m m' e.1 ∧ Obs w m' hi b := by
  induction a with
  | nil =>
    rintro lo ⟨m, h1, h2, h3, h4⟩
    exact ⟨lo, m, Nat.le_refl _, h1, h4.le, Nat.le_refl _, h2, h3, h4⟩
  | cons x r ih =>
    rintro lo ⟨m0, h1, h2, h3, h4⟩
    obtain ⟨m, m', h5, h6, h7, h8, h9⟩ := ih h4
    exact ⟨m, m', by omega, h6, h7, ⟨m0, h1, h2, h3, h8⟩, h9⟩
theorem Obs.join {w : World} {a b : List Sl} {e : Sl} {m m' hi : Nat} (h6 : m ≤ m') (h2 : Ob w m e.1 e.2.1 e.2.2) (h3 : InB m m' e.1) (h4 : Obs w m' hi b) : ∀ {lo : Nat}, Obs w lo m a → Obs w lo hi (a ++ e :: b) := by
  induction a with
  | nil => exact fun h => ⟨m', Nat.le_trans h h6, h2.mono h, fun ad ha => ⟨Nat.le_trans h (h3 ad ha).1, (h3 ad ha).2⟩, h4⟩
  | cons x r ih => rintro lo ⟨m0, h1, h5, h7, h8⟩; exact ⟨m0, h1, h5, h7, ih h8⟩
theorem Obs.by_ {w : World} {es : List Sl} : ∀ {lo hi : Nat}, Obs w lo hi es → ∀ e, e ∈ es → By w e.1 e.2.2 := by
  induction es with
  | nil => intro lo hi _ e he; simp at he
  | cons x r ih =>
    rintro lo hi ⟨m, h1, h2, h3, h4⟩ e he
    rcases List.mem_cons.1 he with rfl | he
    · exact h2.by_
    · exact ih h4 e he
theorem Obs.inB {w : World} {es : List Sl} : ∀ {lo hi : Nat}, Obs w lo hi es → ∀ e, e ∈ es → InB lo hi e.1 := by
  induction es with
  | nil => intro lo hi _ e he; simp at he
  | cons x r ih =>
    rintro lo hi ⟨m, h1, h2, h3, h4⟩ e he ad ha
    rcases List.mem_cons.1 he with rfl | he
    · have := h3 ad ha; have := h4.le; omega
    · have := ih h4 e he ad ha; omega
/-- What changed lies in the blocks from lo to before hi, or is new. -/
def Kp (lo hi : Nat) (w w' : World) : Prop := Below lo w w' ∧ ∀ k, hi ≤ k → k < w.heap.size → w'.heap[k]? = w.heap[k]?
theorem Kp.refl (lo hi : Nat) (w : World) : Kp lo hi w w := ⟨Below.refl _ _, fun _ _ _ => rfl⟩
theorem Kp.trans {lo hi : Nat} {w w1 w2 : World} (h : Kp lo hi w w1) (h' : Kp lo hi w1 w2) : Kp lo hi w w2 :=
  ⟨h.1.trans h'.1, fun k hk hs => (h'.2 k hk (Nat.lt_of_lt_of_le hs h.1.size)).trans (h.2 k hk hs)⟩
theorem Kp.drewN {lo hi : Nat} {w w1 : World} (h : Kp lo hi w w1) (m : Nat) : Kp lo hi w (w1.drewN m) := ⟨below_drewN h.1 m, h.2⟩
theorem Kp.of_grown {lo hi : Nat} {w w' : World} {A : Option Addr} {n c : Nat} (hg : w.grownBy w' (Value.slice A n c).ownBlock) (hA : InB lo hi A) (hlo : lo ≤ w.heap.size) : Kp lo hi w w' := by
  refine ⟨below_grown (Below.refl _ _) hg hA (Nat.le_refl _) hlo, fun k hk hs => hg.block k hs ?_⟩
  intro he
  cases A with
  | none => simp [Value.ownBlock] at he
  | some ad =>
    have := hA ad rfl
    simp [Value.ownBlock] at he
    omega
theorem Kp.wide {lo hi lo' hi' : Nat} {w w' : World} (h : Kp lo hi w w') (h1 : lo' ≤ lo) (h2 : hi ≤ hi') : Kp lo' hi' w w' := ⟨h.1.mono h1, fun k hk hs => h.2 k (by omega) hs⟩
theorem Kp.ob {lo hi lo' c : Nat} {w w' : World} {A : Option Addr} {bs : List UInt8} (h : Kp lo hi w w') (ho : Ob w lo' A c bs) (hh : hi ≤ lo') : Ob w' lo' A c bs :=
  ho.keepB fun ad ha => h.2 _ (by have := ho.inB ad ha; omega) (ho.inB ad ha).2
theorem Kp.obs {lo hi lo' hi' : Nat} {w w' : World} {es : List Sl} (h : Kp lo hi w w') (ho : Obs w lo' hi' es) (hh : hi ≤ lo') (hs : hi' ≤ w.heap.size) : Obs w' lo' hi' es :=
  ho.keep fun k hk hk2 => h.2 k (by omega) (by omega)
end Go.Proofs.Ythnbfaekmolaoaa
