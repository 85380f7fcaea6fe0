/- What changed between two worlds; rows of cells: reading, size. -/
import Derived.Test.YtnilgcahggmncaaGm
import Derived.Deep.RegionHeld3
import Derived.Deep.DeepCutAuto
namespace Go.Proofs.Ytnilgcahggmncaa
open Go.RowKit
set_option linter.unusedVariables false
set_option maxRecDepth 100000

/-- From w to w' at most the blocks of F have changed, and new ones have come. -/
structure Chg (F : List (Option Nat)) (w w' : World) : Prop where
  os : w'.os = w.os
  tape : w'.tape = w.tape
  output : w'.output = w.output
  size : w.heap.size ≤ w'.heap.size
  block : ∀ k, k < w.heap.size → some k ∉ F → w'.heap[k]? = w.heap[k]?
section
variable {F F' : List (Option Nat)} {w w' w1 : World}
theorem Chg.refl (F : List (Option Nat)) (w : World) : Chg F w w := ⟨rfl, rfl, rfl, Nat.le_refl _, fun _ _ _ => rfl⟩
theorem Chg.of_grown {r : Option Nat} (h : w.grownBy w' r) (hr : ∀ k, r = some k → some k ∈ F) : Chg F w w' :=
  ⟨h.os, h.tape, h.output, h.size, fun k hk hn => h.block k hk fun e => hn (hr k e.symm)⟩
theorem Chg.of_below (F : List (Option Nat)) (h : Below w.heap.size w w') : Chg F w w' := ⟨h.os, h.tape, h.output, h.size, fun k hk _ => h.block k hk⟩
theorem Chg.trans (h : Chg F w w1) (h' : Chg F w1 w') : Chg F w w' :=
  ⟨h'.os.trans h.os, h'.tape.trans h.tape, h'.output.trans h.output, Nat.le_trans h.size h'.size, fun k hk hn => (h'.block k (Nat.lt_of_lt_of_le hk h.size) hn).trans (h.block k hk hn)⟩
theorem Chg.mono (h : Chg F w w') (hF : ∀ k, some k ∈ F → some k ∈ F') : Chg F' w w' := ⟨h.os, h.tape, h.output, h.size, fun k hk hn => h.block k hk fun e => hn (hF k e)⟩
theorem Chg.drewN (h : Chg F w w') (m : Nat) : Chg F w (w'.drewN m) := ⟨(below_drewN (Below.refl 0 w') m).os.trans h.os, (below_drewN (Below.refl 0 w') m).tape.trans h.tape, (below_drewN (Below.refl 0 w') m).output.trans h.output, h.size, h.block⟩
theorem Chg.below {B : Nat} (h : Chg F w w') (hF : ∀ k, some k ∈ F → B ≤ k) (hB : B ≤ w.heap.size) : Below B w w' :=
  ⟨h.os, h.tape, h.output, h.size, fun k hk => h.block k (by omega) fun e => by have := hF k e; omega⟩
theorem ownsG.chg {base : Nat} {e : TypeId} {size : Nat} {v : Value} {n : Nat} {xs : List Value} (h : ownsG w base e size v n xs) (hc : Chg F w w') (hn : ∀ k, v.ownBlock = some k → some k ∉ F) : ownsG w' base e size v n xs := by
  refine ⟨h.1, ?_⟩
  rcases h.2 with h2 | ⟨g, cap, cur, fz, rfl, hb, hgg, rest⟩
  · exact .inl h2
  · exact .inr ⟨g, cap, cur, fz, rfl, hb, (hc.block g (Array.getElem?_eq_some_iff.1 hgg).1 (hn g rfl)).trans hgg, rest⟩
/-- The block of a place. -/
abbrev ob (A : Option Addr) : Option Nat := (Value.slice A 0 0).ownBlock
theorem ob_some {A : Option Addr} {k : Nat} (h : ob A = some k) : ∃ ad, A = some ad ∧ ad.block = k := by
  cases A with
  | none => simp [ob, Value.ownBlock] at h
  | some ad => exact ⟨ad, rfl, by simpa [ob, Value.ownBlock] using h⟩
theorem ob_mk (ad : Addr) : ob (some ad) = some ad.block := rfl
theorem ob_eq (A : Option Addr) (n c : Nat) : (Value.slice A n c).ownBlock = ob A := by cases A <;> rfl
theorem Og.chg {lo c : Nat} {A : Option Addr} {cs : List Cl} (h : Og w lo A c cs) (hc : Chg F w w') (hn : ∀ k, ob A = some k → some k ∉ F) : Og w' lo A c cs :=
  ownsG.chg h hc (by rw [ob_eq]; exact hn)
theorem Gs.chg {A : Option Addr} {cs : List Cl} (h : Gs w A cs) (hc : Chg F w w') (hn : ∀ k, ob A = some k → some k ∉ F) : Gs w' A cs := by
  rcases h with h | ⟨b, o, hA, h⟩
  · exact .inl h
  · refine .inr ⟨b, o, hA, fun i x hi j u hu => ?_⟩
    have h1 := h i x hi j u hu
    exact (World.cell?_of_block (w := w) (hc.block b (World.block_lt_of_cell? w _ h1) (hn b (by rw [hA]; rfl)))).trans h1
theorem Cs.chg {A : Option Addr} {vs : List Value} (h : Cs w A vs) (hc : Chg F w w') (hn : ∀ k, ob A = some k → some k ∉ F) : Cs w' A vs := by
  rcases h with h | ⟨b, o, hA, h⟩
  · exact .inl h
  · refine .inr ⟨b, o, hA, fun i v hi => ?_⟩
    have h1 := h i v hi
    exact (World.cell?_of_block (w := w) (hc.block b (World.block_lt_of_cell? w _ h1) (hn b (by rw [hA]; rfl)))).trans h1
theorem Og.ob_lt {lo c : Nat} {A : Option Addr} {cs : List Cl} (h : Og w lo A c cs) {k : Nat} (hk : ob A = some k) : lo ≤ k ∧ k < w.heap.size := by
  obtain ⟨ad, rfl, rfl⟩ := ob_some hk
  exact h.inB ad rfl
end
/-- Blocks that differ. -/
def Sep (a b : Option Nat) : Prop := ∀ k, a = some k → b ≠ some k
theorem Sep.symm {a b : Option Nat} (h : Sep a b) : Sep b a := fun k h1 h2 => h k h2 h1
theorem Sep.lt {a b : Option Nat} {m : Nat} (h1 : ∀ k, a = some k → k < m) (h2 : ∀ k, b = some k → m ≤ k) : Sep a b := fun k ha hb => by
  have := h1 k ha
  have := h2 k hb
  omega
theorem not_mem_one {a b : Option Nat} (h : Sep a b) {k : Nat} (ha : a = some k) : some k ∉ [b] := by
  intro hm
  exact h k ha (List.mem_singleton.1 hm).symm

/-- A row: where it begins, its capacity, its cells. -/
abbrev Rw := Option Addr × Nat × List Cl
abbrev rv (e : Rw) : Value := .slice e.1 e.2.2.length e.2.1
def rcs (es : List Rw) : List (List Cl) := es.map fun e => e.2.2
/-- A slice that begins at A reads as these rows. -/
def Rs (w : World) (A : Option Addr) (es : List Rw) : Prop := Cs w A (es.map rv) ∧ ∀ e, e ∈ es → Gs w e.1 e.2.2
theorem Rs.below {w w' : World} {A : Option Addr} {es : List Rw} (h : Rs w A es) (hb : Below w.heap.size w w') : Rs w' A es :=
  ⟨h.1.below hb, fun e he => (h.2 e he).below hb⟩
theorem Rs.drewN {w : World} {A : Option Addr} {es : List Rw} (h : Rs w A es) (m : Nat) : Rs (w.drewN m) A es := h
theorem Rs.get {w : World} {A : Option Addr} {es : List Rw} (h : Rs w A es) {k : Nat} (hk : k < es.length) : ∃ b o, A = some ⟨b, o, none⟩ ∧ w.cell? ⟨b, o + k, none⟩ = some (rv es[k]) ∧ Gs w es[k].1 es[k].2.2 := by
  rcases h.1 with h1 | ⟨b, o, hA, h1⟩
  · have h2 : es.length = 0 := by have := congrArg List.length h1; rwa [List.length_map] at this
    omega
  · exact ⟨b, o, hA, h1 k _ (by rw [List.getElem?_map, List.getElem?_eq_getElem hk]; rfl), h.2 _ (List.getElem_mem hk)⟩
def rtot (es : List Rw) : Nat := (es.map fun e => e.2.2.length).sum
theorem rtot_succ {es : List Rw} {k : Nat} (hk : k < es.length) : rtot (es.take (k + 1)) = rtot (es.take k) + es[k].2.2.length := by
  rw [take_succ_get (List.getElem?_eq_getElem hk)]
  simp only [rtot, List.map_append, List.map_cons, List.map_nil, List.sum_append, List.sum_cons, List.sum_nil, Nat.add_zero]
theorem rtot_le (es : List Rw) (k : Nat) : rtot (es.take k) ≤ rtot es := by
  have h : rtot (es.take k ++ es.drop k) = rtot (es.take k) + rtot (es.drop k) := by simp only [rtot, List.map_append, List.sum_append]
  rw [List.take_append_drop] at h
  omega
theorem rtot_get {es : List Rw} {k : Nat} (hk : k < es.length) : rtot (es.take k) + es[k].2.2.length ≤ rtot es := by
  rw [← rtot_succ hk]
  exact rtot_le _ _
theorem rtot_mem {es : List Rw} {e : Rw} (he : e ∈ es) : e.2.2.length ≤ rtot es := by
  obtain ⟨k, hk, rfl⟩ := List.getElem_of_mem he
  have := rtot_get hk
  omega
theorem rcs_len {es fs : List Rw} (h : rcs es = rcs fs) : es.length = fs.length := by
  have := congrArg List.length h
  simpa [rcs] using this
theorem rcs_get {es fs : List Rw} (h : rcs es = rcs fs) {k : Nat} (h1 : k < es.length) (h2 : k < fs.length) : es[k].2.2 = fs[k].2.2 := by
  have := congrArg (fun l => l[k]?) h
  simpa [rcs, h1, h2] using this
theorem rtot_rcs {es fs : List Rw} (h : rcs es = rcs fs) : rtot es = rtot fs := by
  have e : ∀ l : List Rw, rtot l = ((rcs l).map List.length).sum := fun l => by simp [rtot, rcs, Function.comp_def]
  rw [e, e, h]
theorem rd_rows {w : World} {A : Option Addr} {n c : Nat} (h : Rd Try.prog w 56 [.slice A n c]) : ∃ es : List Rw, n = es.length ∧ Rs w A es ∧ es.length ≤ maxLen ∧ ∀ e, e ∈ es → e.2.2.length ≤ maxLen := by
  obtain ⟨A', c', es, h1, h2, h3, h4⟩ := Rd.list (T := Rw) (size := 1) (enc := fun e => [rv e]) (G := fun e => Gs w e.1 e.2.2 ∧ e.2.2.length ≤ maxLen) Try.underlying56 (by kernel_rfl) (by decide) (by
    intro es hes
    obtain ⟨hl, hf⟩ := hes.struct Try.underlying131
    have hc : Try.prog.cellsOf 131 = 1 := by kernel_rfl
    have hd : Try.prog.cellsOf 22 = 1 := by kernel_rfl
    have h0 : Rd Try.prog w 22 ((es.drop 0).take (Try.prog.cellsOf 22)) := hf 0 _ rfl
    rw [hc] at hl
    rw [hd, List.drop_zero, List.take_of_length_le (by omega)] at h0
    obtain ⟨A, n, c, rfl, _⟩ := h0.slice Try.underlying22
    obtain ⟨cs, rfl, hb, hm⟩ := rd_cells h0
    exact ⟨(A, c, cs), rfl, hb, hm⟩) h
  injection h1 with h1 _
  injection h1 with h1 h1' h1''
  subst h1 h1' h1''
  refine ⟨es, rfl, ⟨?_, fun e he => (h3 e he).1⟩, h2, fun e he => (h3 e he).2⟩
  rcases h4 with rfl | ⟨b, o, hA, h⟩
  · exact .inl rfl
  · refine .inr ⟨b, o, hA, fun i x hi => ?_⟩
    rw [List.getElem?_map] at hi
    obtain ⟨e, he, rfl⟩ := Option.map_eq_some_iff.1 hi
    have := h i e he 0 (rv e) rfl
    simpa using this
theorem szRow_any (A : Option Addr) (n c : Nat) (left : Int) (w : World) (hn : n ≤ maxLen) (h0 : 0 ≤ left) (h1 : left ≤ 1048576) :
    Calls Try.prog 127 #[.agg #[.slice A n c], .int .i64 left] w fun e w' => e = .returned (.int .i64 (szR left n)) ∧ Below w.heap.size w w' := by
  have hn' := hn
  unfold maxLen at hn'
  by_cases h : left < n
  · have HS := szR_no h
    go_enter Try.func127, Try.ntmps127
    go_wp2_with (go_at_call 49; refine (szCellS_any _ _ _ _ _ hn h0 h1).mono ?_; rintro e w' ⟨he, rfl⟩; rw [HS.out] at he; subst he)
    go_ret
    exact ⟨ret_int HS.out.symm, (Below.refl _ _).alloc (Nat.le_refl _) _⟩
  · have HS := szR_yes h
    have h' : ¬ left - n < 0 := by omega
    go_enter Try.func127, Try.ntmps127
    go_wp2_with (go_at_call 49; refine (szCellS_any _ _ _ _ _ hn h0 h1).mono ?_; rintro e w' ⟨he, rfl⟩; rw [HS.out] at he; subst he)
    go_ret
    exact ⟨ret_int HS.out.symm, (Below.refl _ _).alloc (Nat.le_refl _) _⟩
set_option maxHeartbeats 400000 in
theorem szRowS_any (A : Option Addr) (c : Nat) (es : List Rw) (left : Int) (w : World) (ha : Rs w A es) (hl : es.length ≤ maxLen) (hm : ∀ e, e ∈ es → e.2.2.length ≤ maxLen) (h0 : 0 ≤ left) (h1 : left ≤ 1048576) :
    Calls Try.prog 82 #[.slice A es.length c, .int .i64 left] w fun e w' => e = .returned (.int .i64 (szR left (es.length + rtot es))) ∧ Below w.heap.size w w' := by
  have hl' := hl
  unfold maxLen at hl'
  by_cases h : left < es.length
  · have HS : Hid (szR left (es.length + rtot es) = -1) := szR_no (by omega)
    have h' : left - es.length < 0 := by omega
    go_enter Try.func82, Try.ntmps82
    go_wp2
    go_ret
    exact ⟨ret_int HS.out.symm, Below.refl _ _⟩
  · have h' : ¬ left - es.length < 0 := by omega
    go_enter Try.func82, Try.ntmps82
    go_wp2
    go_loopw [1, 5] (fun lv i wr => ∃ k : Nat, k ≤ es.length ∧ i = .int .i64 k ∧ lv = .int .i64 (left - es.length - rtot (es.take k)) ∧ (rtot (es.take k) : Int) ≤ left - es.length ∧ Below w.heap.size w wr) (fun _ i _ => es.length - (intOf i).toNat)
    case atStart => exact ⟨0, Nat.zero_le _, rfl, by simp [rtot], by simp [rtot]; omega, Below.refl _ _⟩
    case round =>
      obtain ⟨k, hk, rfl, rfl, ht, hb⟩ := hrel
      by_cases hlt : k < es.length
      · have hlt' : (k : Int) < es.length := by omega
        obtain ⟨b, o, rfl, hx, hy⟩ := (ha.below hb).get hlt
        have hn := hm _ (List.getElem_mem hlt)
        have hs := rtot_succ hlt
        have hg := rtot_get hlt
        by_cases hz : left - es.length - rtot (es.take k) < es[k].2.2.length
        · have HS : Hid (szR left (es.length + rtot es) = -1) := szR_no (by omega)
          have HZ := szR_no hz
          go_wp2_with (go_at_call 127; refine (szRow_any _ _ _ _ _ hn (by omega) (by omega)).mono ?_; rintro e w2 ⟨he, hb2⟩; rw [HZ.out] at he; subst he)
          go_ret
          exact ⟨ret_int HS.out.symm, hb.trans (hb2.mono hb.size)⟩
        · have HZ := szR_yes hz
          have hz' : ¬ left - es.length - rtot (es.take k) - es[k].2.2.length < 0 := by omega
          go_wp2_with (go_at_call 127; refine (szRow_any _ _ _ _ _ hn (by omega) (by omega)).mono ?_; rintro e w2 ⟨he, hb2⟩; rw [HZ.out] at he; subst he)
          go_roundw
          case rel => exact ⟨k + 1, by omega, by go_num, by rw [hs]; go_num, by rw [hs]; omega, hb.trans (hb2.mono hb.size)⟩
          case measure => simp [intOf]; omega
      · have hlt' : ¬ ((k : Int) < es.length) := by omega
        have hk' : k = es.length := by omega
        have ht' : es.take k = es := by rw [hk']; exact List.take_length
        rw [ht'] at ht ⊢
        have HS : Hid (szR left (es.length + rtot es) = left - (es.length + rtot es)) := szR_yes (by omega)
        clear hk' ht'
        go_wp2
        go_ret
        exact ⟨ret_int (by rw [HS.out]; omega), hb⟩
end Go.Proofs.Ytnilgcahggmncaa
