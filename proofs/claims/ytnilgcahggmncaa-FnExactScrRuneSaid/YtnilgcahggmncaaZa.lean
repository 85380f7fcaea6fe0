/- What changed between two worlds; rows of cells: reading, size. Rows of cells: copying, comparing, marking, holding. Slices of numbers: owning, marking, holding. A screen: its value, how it is read. -/
import Derived.Test.YtnilgcahggmncaaGm
import Derived.Deep.RegionHeld3
import Derived.Deep.DeepCutAuto
namespace Go.Proofs.Ytnilgcahggmncaa
open Go.RowKit

set_option linter.unusedVariables false
set_option maxRecDepth 100000

/-- From w to w' at most the blocks of F have changed, and new ones have come. -/
structure Chg (F : List (Option Nat)) (w w' : World) : Prop where
  os : w'.os = w.os
  tape : w'.tape = w.tape
  output : w'.output = w.output
  size : w.heap.size ≤ w'.heap.size
  block : ∀ k, k < w.heap.size → some k ∉ F → w'.heap[k]? = w.heap[k]?
section
variable {F F' : List (Option Nat)} {w w' w1 : World}
theorem Chg.refl (F : List (Option Nat)) (w : World) : Chg F w w := ⟨rfl, rfl, rfl, Nat.le_refl _, fun _ _ _ => rfl⟩
theorem Chg.of_grown {r : Option Nat} (h : w.grownBy w' r) (hr : ∀ k, r = some k → some k ∈ F) : Chg F w w' :=
  ⟨h.os, h.tape, h.output, h.size, fun k hk hn => h.block k hk fun e => hn (hr k e.symm)⟩
theorem Chg.of_below (F : List (Option Nat)) (h : Below w.heap.size w w') : Chg F w w' := ⟨h.os, h.tape, h.output, h.size, fun k hk _ => h.block k hk⟩
theorem Chg.trans (h : Chg F w w1) (h' : Chg F w1 w') : Chg F w w' :=
  ⟨h'.os.trans h.os, h'.tape.trans h.tape, h'.output.trans h.output, Nat.le_trans h.size h'.size, fun k hk hn => (h'.block k (Nat.lt_of_lt_of_le hk h.size) hn).trans (h.block k hk hn)⟩
theorem Chg.mono (h : Chg F w w') (hF : ∀ k, some k ∈ F → some k ∈ F') : Chg F' w w' := ⟨h.os, h.tape, h.output, h.size, fun k hk hn => h.block k hk fun e => hn (hF k e)⟩
theorem Chg.drewN (h : Chg F w w') (m : Nat) : Chg F w (w'.drewN m) := ⟨(below_drewN (Below.refl 0 w') m).os.trans h.os, (below_drewN (Below.refl 0 w') m).tape.trans h.tape, (below_drewN (Below.refl 0 w') m).output.trans h.output, h.size, h.block⟩
theorem Chg.below {B : Nat} (h : Chg F w w') (hF : ∀ k, some k ∈ F → B ≤ k) (hB : B ≤ w.heap.size) : Below B w w' :=
  ⟨h.os, h.tape, h.output, h.size, fun k hk => h.block k (by omega) fun e => by have := hF k e; omega⟩
theorem ownsG.chg {base : Nat} {e : TypeId} {size : Nat} {v : Value} {n : Nat} {xs : List Value} (h : ownsG w base e size v n xs) (hc : Chg F w w') (hn : ∀ k, v.ownBlock = some k → some k ∉ F) : ownsG w' base e size v n xs := by
  refine ⟨h.1, ?_⟩
  rcases h.2 with h2 | ⟨g, cap, cur, fz, rfl, hb, hgg, rest⟩
  · exact .inl h2
  · exact .inr ⟨g, cap, cur, fz, rfl, hb, (hc.block g (Array.getElem?_eq_some_iff.1 hgg).1 (hn g rfl)).trans hgg, rest⟩
/-- The block of a place. -/
abbrev ob (A : Option Addr) : Option Nat := (Value.slice A 0 0).ownBlock
theorem ob_some {A : Option Addr} {k : Nat} (h : ob A = some k) : ∃ ad, A = some ad ∧ ad.block = k := by
  cases A with
  | none => simp [ob, Value.ownBlock] at h
  | some ad => exact ⟨ad, rfl, by simpa [ob, Value.ownBlock] using h⟩
theorem ob_mk (ad : Addr) : ob (some ad) = some ad.block := rfl
theorem ob_eq (A : Option Addr) (n c : Nat) : (Value.slice A n c).ownBlock = ob A := by cases A <;> rfl
theorem Og.chg {lo c : Nat} {A : Option Addr} {cs : List Cl} (h : Og w lo A c cs) (hc : Chg F w w') (hn : ∀ k, ob A = some k → some k ∉ F) : Og w' lo A c cs :=
  ownsG.chg h hc (by rw [ob_eq]; exact hn)
theorem Gs.chg {A : Option Addr} {cs : List Cl} (h : Gs w A cs) (hc : Chg F w w') (hn : ∀ k, ob A = some k → some k ∉ F) : Gs w' A cs := by
  rcases h with h | ⟨b, o, hA, h⟩
  · exact .inl h
  · refine .inr ⟨b, o, hA, fun i x hi j u hu => ?_⟩
    have h1 := h i x hi j u hu
    exact (World.cell?_of_block (w := w) (hc.block b (World.block_lt_of_cell? w _ h1) (hn b (by rw [hA]; rfl)))).trans h1
theorem Cs.chg {A : Option Addr} {vs : List Value} (h : Cs w A vs) (hc : Chg F w w') (hn : ∀ k, ob A = some k → some k ∉ F) : Cs w' A vs := by
  rcases h with h | ⟨b, o, hA, h⟩
  · exact .inl h
  · refine .inr ⟨b, o, hA, fun i v hi => ?_⟩
    have h1 := h i v hi
    exact (World.cell?_of_block (w := w) (hc.block b (World.block_lt_of_cell? w _ h1) (hn b (by rw [hA]; rfl)))).trans h1
theorem Og.ob_lt {lo c : Nat} {A : Option Addr} {cs : List Cl} (h : Og w lo A c cs) {k : Nat} (hk : ob A = some k) : lo ≤ k ∧ k < w.heap.size := by
  obtain ⟨ad, rfl, rfl⟩ := ob_some hk
  exact h.inB ad rfl
end
/-- Blocks that differ. -/
def Sep (a b : Option Nat) : Prop := ∀ k, a = some k → b ≠ some k
theorem Sep.symm {a b : Option Nat} (h : Sep a b) : Sep b a := fun k h1 h2 => h k h2 h1
theorem Sep.lt {a b : Option Nat} {m : Nat} (h1 : ∀ k, a = some k → k < m) (h2 : ∀ k, b = some k → m ≤ k) : Sep a b := fun k ha hb => by
  have := h1 k ha
  have := h2 k hb
  omega
theorem not_mem_one {a b : Option Nat} (h : Sep a b) {k : Nat} (ha : a = some k) : some k ∉ [b] := by
  intro hm
  exact h k ha (List.mem_singleton.1 hm).symm

/-- A row: where it begins, its capacity, its cells. -/
abbrev Rw := Option Addr × Nat × List Cl
abbrev rv (e : Rw) : Value := .slice e.1 e.2.2.length e.2.1
def rcs (es : List Rw) : List (List Cl) := es.map fun e => e.2.2
/-- A slice that begins at A reads as these rows. -/
def Rs (w : World) (A : Option Addr) (es : List Rw) : Prop := Cs w A (es.map rv) ∧ ∀ e, e ∈ es → Gs w e.1 e.2.2
theorem Rs.below {w w' : World} {A : Option Addr} {es : List Rw} (h : Rs w A es) (hb : Below w.heap.size w w') : Rs w' A es :=
  ⟨h.1.below hb, fun e he => (h.2 e he).below hb⟩
theorem Rs.drewN {w : World} {A : Option Addr} {es : List Rw} (h : Rs w A es) (m : Nat) : Rs (w.drewN m) A es := h
theorem Rs.get {w : World} {A : Option Addr} {es : List Rw} (h : Rs w A es) {k : Nat} (hk : k < es.length) : ∃ b o, A = some ⟨b, o, none⟩ ∧ w.cell? ⟨b, o + k, none⟩ = some (rv es[k]) ∧ Gs w es[k].1 es[k].2.2 := by
  rcases h.1 with h1 | ⟨b, o, hA, h1⟩
  · have h2 : es.length = 0 := by have := congrArg List.length h1; rwa [List.length_map] at this
    omega
  · exact ⟨b, o, hA, h1 k _ (by rw [List.getElem?_map, List.getElem?_eq_getElem hk]; rfl), h.2 _ (List.getElem_mem hk)⟩
def rtot (es : List Rw) : Nat := (es.map fun e => e.2.2.length).sum
theorem rtot_succ {es : List Rw} {k : Nat} (hk : k < es.length) : rtot (es.take (k + 1)) = rtot (es.take k) + es[k].2.2.length := by
  rw [take_succ_get (List.getElem?_eq_getElem hk)]
  simp only [rtot, List.map_append, List.map_cons, List.map_nil, List.sum_append, List.sum_cons, List.sum_nil, Nat.add_zero]
theorem rtot_le (es : List Rw) (k : Nat) : rtot (es.take k) ≤ rtot es := by
  have h : rtot (es.take k ++ es.drop k) = rtot (es.take k) + rtot (es.drop k) := by simp only [rtot, List.map_append, List.sum_append]
  rw [List.take_append_drop] at h
  omega
theorem rtot_get {es : List Rw} {k : Nat} (hk : k < es.length) : rtot (es.take k) + es[k].2.2.length ≤ rtot es := by
  rw [← rtot_succ hk]
  exact rtot_le _ _
theorem rtot_mem {es : List Rw} {e : Rw} (he : e ∈ es) : e.2.2.length ≤ rtot es := by
  obtain ⟨k, hk, rfl⟩ := List.getElem_of_mem he
  have := rtot_get hk
  omega
theorem rcs_len {es fs : List Rw} (h : rcs es = rcs fs) : es.length = fs.length := by
  have := congrArg List.length h
  simpa [rcs] using this
theorem rcs_get {es fs : List Rw} (h : rcs es = rcs fs) {k : Nat} (h1 : k < es.length) (h2 : k < fs.length) : es[k].2.2 = fs[k].2.2 := by
  have := congrArg (fun l => l[k]?) h
  simpa [rcs, h1, h2] using this
theorem rtot_rcs {es fs : List Rw} (h : rcs es = rcs fs) : rtot es = rtot fs := by
  have e : ∀ l : List Rw, rtot l = ((rcs l).map List.length).sum := fun l => by simp [rtot, rcs, Function.comp_def]
  rw [e, e, h]
theorem rd_rows {w : World} {A : Option Addr} {n c : Nat} (h : Rd Try.prog w 56 [.slice A n c]) : ∃ es : List Rw, n = es.length ∧ Rs w A es ∧ es.length ≤ maxLen ∧ ∀ e, e ∈ es → e.2.2.length ≤ maxLen := by
  obtain ⟨A', c', es, h1, h2, h3, h4⟩ := Rd.list (T := Rw) (size := 1) (enc := fun e => [rv e]) (G := fun e => Gs w e.1 e.2.2 ∧ e.2.2.length ≤ maxLen) Try.underlying56 (by kernel_rfl) (by decide) (by
    intro es hes
    obtain ⟨hl, hf⟩ := hes.struct Try.underlying131
    have hc : Try.prog.cellsOf 131 = 1 := by kernel_rfl
    have hd : Try.prog.cellsOf 22 = 1 := by kernel_rfl
    have h0 : Rd Try.prog w 22 ((es.drop 0).take (Try.prog.cellsOf 22)) := hf 0 _ rfl
    rw [hc] at hl
    rw [hd, List.drop_zero, List.take_of_length_le (by omega)] at h0
    obtain ⟨A, n, c, rfl, _⟩ := h0.slice Try.underlying22
    obtain ⟨cs, rfl, hb, hm⟩ := rd_cells h0
    exact ⟨(A, c, cs), rfl, hb, hm⟩) h
  injection h1 with h1 _
  injection h1 with h1 h1' h1''
  subst h1 h1' h1''
  refine ⟨es, rfl, ⟨?_, fun e he => (h3 e he).1⟩, h2, fun e he => (h3 e he).2⟩
  rcases h4 with rfl | ⟨b, o, hA, h⟩
  · exact .inl rfl
  · refine .inr ⟨b, o, hA, fun i x hi => ?_⟩
    rw [List.getElem?_map] at hi
    obtain ⟨e, he, rfl⟩ := Option.map_eq_some_iff.1 hi
    have := h i e he 0 (rv e) rfl
    simpa using this
theorem szRow_any (A : Option Addr) (n c : Nat) (left : Int) (w : World) (hn : n ≤ maxLen) (h0 : 0 ≤ left) (h1 : left ≤ 1048576) :
    Calls Try.prog 127 #[.agg #[.slice A n c], .int .i64 left] w fun e w' => e = .returned (.int .i64 (szR left n)) ∧ Below w.heap.size w w' := by
  have hn' := hn
  unfold maxLen at hn'
  by_cases h : left < n
  · have HS := szR_no h
    go_enter Try.func127, Try.ntmps127
    go_wp2_with (go_at_call 49; refine (szCellS_any _ _ _ _ _ hn h0 h1).mono ?_; rintro e w' ⟨he, rfl⟩; rw [HS.out] at he; subst he)
    go_ret
    exact ⟨ret_int HS.out.symm, (Below.refl _ _).alloc (Nat.le_refl _) _⟩
  · have HS := szR_yes h
    have h' : ¬ left - n < 0 := by omega
    go_enter Try.func127, Try.ntmps127
    go_wp2_with (go_at_call 49; refine (szCellS_any _ _ _ _ _ hn h0 h1).mono ?_; rintro e w' ⟨he, rfl⟩; rw [HS.out] at he; subst he)
    go_ret
    exact ⟨ret_int HS.out.symm, (Below.refl _ _).alloc (Nat.le_refl _) _⟩
set_option maxHeartbeats 400000 in
theorem szRowS_any (A : Option Addr) (c : Nat) (es : List Rw) (left : Int) (w : World) (ha : Rs w A es) (hl : es.length ≤ maxLen) (hm : ∀ e, e ∈ es → e.2.2.length ≤ maxLen) (h0 : 0 ≤ left) (h1 : left ≤ 1048576) :
    Calls Try.prog 82 #[.slice A es.length c, .int .i64 left] w fun e w' => e = .returned (.int .i64 (szR left (es.length + rtot es))) ∧ Below w.heap.size w w' := by
  have hl' := hl
  unfold maxLen at hl'
  by_cases h : left < es.length
  · have HS : Hid (szR left (es.length + rtot es) = -1) := szR_no (by omega)
    have h' : left - es.length < 0 := by omega
    go_enter Try.func82, Try.ntmps82
    go_wp2
    go_ret
    exact ⟨ret_int HS.out.symm, Below.refl _ _⟩
  · have h' : ¬ left - es.length < 0 := by omega
    go_enter Try.func82, Try.ntmps82
    go_wp2
    go_loopw [1, 5] (fun lv i wr => ∃ k : Nat, k ≤ es.length ∧ i = .int .i64 k ∧ lv = .int .i64 (left - es.length - rtot (es.take k)) ∧ (rtot (es.take k) : Int) ≤ left - es.length ∧ Below w.heap.size w wr) (fun _ i _ => es.length - (intOf i).toNat)
    case atStart => exact ⟨0, Nat.zero_le _, rfl, by simp [rtot], by simp [rtot]; omega, Below.refl _ _⟩
    case round =>
      obtain ⟨k, hk, rfl, rfl, ht, hb⟩ := hrel
      by_cases hlt : k < es.length
      · have hlt' : (k : Int) < es.length := by omega
        obtain ⟨b, o, rfl, hx, hy⟩ := (ha.below hb).get hlt
        have hn := hm _ (List.getElem_mem hlt)
        have hs := rtot_succ hlt
        have hg := rtot_get hlt
        by_cases hz : left - es.length - rtot (es.take k) < es[k].2.2.length
        · have HS : Hid (szR left (es.length + rtot es) = -1) := szR_no (by omega)
          have HZ := szR_no hz
          go_wp2_with (go_at_call 127; refine (szRow_any _ _ _ _ _ hn (by omega) (by omega)).mono ?_; rintro e w2 ⟨he, hb2⟩; rw [HZ.out] at he; subst he)
          go_ret
          exact ⟨ret_int HS.out.symm, hb.trans (hb2.mono hb.size)⟩
        · have HZ := szR_yes hz
          have hz' : ¬ left - es.length - rtot (es.take k) - es[k].2.2.length < 0 := by omega
          go_wp2_with (go_at_call 127; refine (szRow_any _ _ _ _ _ hn (by omega) (by omega)).mono ?_; rintro e w2 ⟨he, hb2⟩; rw [HZ.out] at he; subst he)
          go_roundw
          case rel => exact ⟨k + 1, by omega, by go_num, by rw [hs]; go_num, by rw [hs]; omega, hb.trans (hb2.mono hb.size)⟩
          case measure => simp [intOf]; omega
      · have hlt' : ¬ ((k : Int) < es.length) := by omega
        have hk' : k = es.length := by omega
        have ht' : es.take k = es := by rw [hk']; exact List.take_length
        rw [ht'] at ht ⊢
        have HS : Hid (szR left (es.length + rtot es) = left - (es.length + rtot es)) := szR_yes (by omega)
        clear hk' ht'
        go_wp2
        go_ret
        exact ⟨ret_int (by rw [HS.out]; omega), hb⟩

set_option linter.unusedVariables false
set_option maxRecDepth 100000

theorem info_row : (Try.prog.info? 99).map (fun i => (i.zero, i.size, i.bytes)) = some (some (.agg #[.slice none 0 0]), 1, 24) := by kernel_rfl
theorem Og.keepB {w w' : World} {lo c : Nat} {A : Option Addr} {cs : List Cl} (h : Og w lo A c cs) (hk : ∀ ad, A = some ad → w'.heap[ad.block]? = w.heap[ad.block]?) : Og w' lo A c cs := by
  obtain ⟨h1, h2⟩ := h
  refine ⟨h1, ?_⟩
  rcases h2 with h2 | ⟨g, cap, cur, fz, hv, h3, h4, h5⟩
  · exact .inl h2
  · injection hv with hv hv2 hv3
    exact .inr ⟨g, cap, cur, fz, by rw [hv, hv3], h3, (hk _ hv).trans h4, h5⟩
/-- A slice of rows that owns its block, from block lo on. -/
def Or (w : World) (lo : Nat) (A : Option Addr) (c : Nat) (es : List Rw) : Prop := ownsG w lo 99 1 (.slice A es.length c) es.length (es.map rv)
theorem Or.cs {w : World} {lo c : Nat} {A : Option Addr} {es : List Rw} (h : Or w lo A c es) : Cs w A (es.map rv) := by
  rcases h.2 with ⟨h1, h2⟩ | ⟨g, cap, cur, fz, hv, _⟩
  · exact .inl (by rw [List.eq_nil_of_length_eq_zero h2]; rfl)
  · injection hv with hv _ _
    exact .inr ⟨g, 0, hv, fun i u hu => by rw [Nat.zero_add]; exact h.cells (g := g) (by rw [hv]; rfl) _ _ hu⟩
theorem Or.chg {F : List (Option Nat)} {w w' : World} {lo c : Nat} {A : Option Addr} {es : List Rw} (h : Or w lo A c es) (hc : Chg F w w') (hn : ∀ k, ob A = some k → some k ∉ F) : Or w' lo A c es :=
  ownsG.chg h hc (by rw [ob_eq]; exact hn)
theorem Or.ob_lt {w : World} {lo c : Nat} {A : Option Addr} {es : List Rw} (h : Or w lo A c es) {k : Nat} (hk : ob A = some k) : lo ≤ k ∧ k < w.heap.size := ownsG.lt h k (by rw [ob_eq]; exact hk)
theorem Or.cap {w : World} {lo c : Nat} {A : Option Addr} {es : List Rw} (h : Or w lo A c es) : es.length ≤ c := by
  rcases h.2 with ⟨hv, hn⟩ | ⟨g, cap, cur, fz, hv, _, _, _, hnc, _⟩
  · omega
  · injection hv with _ _ hv3
    omega
theorem Or.of_fill {w : World} {lo g N : Nat} {es : List Rw} (h : Fill w g 99 N (es.map rv)) (hN : es.length ≤ N) (hlo : lo ≤ g) (hm : N ≤ maxLen) : Or w lo (some ⟨g, 0, none⟩) N es := by
  obtain ⟨cur, fz, h1, hz, h2, h3, h4⟩ := h
  exact ⟨by simp, .inr ⟨g, N, cur, fz, rfl, hlo, h1, hz, hN, hm, by rw [h2]; simp, by rw [← h3]; simp⟩⟩
/-- Rows that own their blocks, each another one, and none the block of the list. -/
structure Ow (w : World) (lo : Nat) (A : Option Addr) (es : List Rw) : Prop where
  own : ∀ e, e ∈ es → Og w lo e.1 e.2.1 e.2.2
  sep : (es.map fun e => ob e.1).Pairwise Sep
  list : ∀ e, e ∈ es → Sep (ob A) (ob e.1)
abbrev ft (es : List Rw) : List (Option Nat) := es.map fun e => ob e.1
theorem Ow.nil (w : World) (lo : Nat) (A : Option Addr) : Ow w lo A [] := ⟨fun e h => by simp at h, List.Pairwise.nil, fun e h => by simp at h⟩
theorem Ow.chg {F : List (Option Nat)} {w w' : World} {lo : Nat} {A : Option Addr} {es : List Rw} (h : Ow w lo A es) (hc : Chg F w w') (hn : ∀ k, some k ∈ ft es → some k ∉ F) : Ow w' lo A es :=
  ⟨fun e he => (h.own e he).chg hc fun k hk => hn k (List.mem_map.2 ⟨e, he, hk⟩), h.sep, h.list⟩
theorem Ow.lt {w : World} {lo : Nat} {A : Option Addr} {es : List Rw} (h : Ow w lo A es) {k : Nat} (hk : some k ∈ ft es) : lo ≤ k ∧ k < w.heap.size := by
  obtain ⟨e, he, hq⟩ := List.mem_map.1 hk
  exact (h.own e he).ob_lt hq
theorem Ow.below {w w' : World} {lo : Nat} {A : Option Addr} {es : List Rw} (h : Ow w lo A es) (hb : Below w.heap.size w w') : Ow w' lo A es := h.chg (F := []) (Chg.of_below _ hb) (fun _ _ h => by simp at h)
theorem Ow.mono {w : World} {lo lo' : Nat} {A : Option Addr} {es : List Rw} (h : Ow w lo A es) (hl : lo' ≤ lo) : Ow w lo' A es := ⟨fun e he => (h.own e he).mono hl, h.sep, h.list⟩
theorem Ow.snoc {w w' : World} {lo : Nat} {A : Option Addr} {es : List Rw} {e : Rw} (h : Ow w' lo A es) (hlt : ∀ k, some k ∈ ft es → k < w.heap.size) (hA : ∀ k, ob A = some k → k < w.heap.size) (he : Og w' w.heap.size e.1 e.2.1 e.2.2) (hlo : lo ≤ w.heap.size) : Ow w' lo A (es ++ [e]) := by
  have hs : ∀ a, (∀ k, a = some k → k < w.heap.size) → Sep a (ob e.1) := fun a ha => Sep.lt ha fun k hk => (he.ob_lt hk).1
  refine ⟨fun x hx => ?_, ?_, fun x hx => ?_⟩
  · rcases List.mem_append.1 hx with hx | hx
    · exact h.own x hx
    · rw [List.mem_singleton.1 hx]
      exact he.mono hlo
  · rw [List.map_append, List.pairwise_append]
    refine ⟨h.sep, by simp, fun a ha b hb => ?_⟩
    simp only [List.map_cons, List.map_nil, List.mem_singleton] at hb
    subst hb
    exact hs a fun k hk => hlt k (by rw [← hk]; exact ha)
  · rcases List.mem_append.1 hx with hx | hx
    · exact h.list x hx
    · rw [List.mem_singleton.1 hx]
      exact hs _ hA
theorem Ow.sep_get {w : World} {lo : Nat} {A : Option Addr} {es : List Rw} (h : Ow w lo A es) {i j : Nat} (hi : i < es.length) (hj : j < es.length) (hne : i ≠ j) : Sep (ob es[i].1) (ob es[j].1) := by
  have hp := List.pairwise_iff_getElem.1 h.sep
  rcases Nat.lt_or_gt_of_ne hne with hlt | hlt
  · have := hp i j (by simpa using hi) (by simpa using hj) hlt
    simpa using this
  · have := hp j i (by simpa using hj) (by simpa using hi) hlt
    exact Sep.symm (by simpa using this)
theorem toRow_any (A : Option Addr) (c : Nat) (cs : List Cl) (w : World) (ha : Gs w A cs) (h1 : cs.length ≤ 1048576) :
    Calls Try.prog 128 #[.agg #[.slice A cs.length c]] w fun e w' => ∃ A' c', e = .returned (.agg #[.slice A' cs.length c']) ∧ Og w' w.heap.size A' c' cs ∧ Below w.heap.size w w' := by
  go_enter Try.func128, Try.ntmps128
  go_wp2_with fail
  have hb0 : Below w.heap.size w (((w.alloc (.cells #[.slice A cs.length c] 131)).alloc (.cells #[.slice none 0 0] 99)).alloc (.cells #[.slice none 0 0] 99)) := by (repeat (first | exact Below.refl _ _ | (refine Below.alloc ?_ (by first | omega | (simp; done) | (simp; omega)) _) | (refine Below.drew ?_) | (refine below_drewN ?_ _) | (refine below_at1 ?_ (by first | omega | (simp; done) | (simp; omega))) | (refine Below.setCell ?_ (by first | omega | (simp; done) | (simp; omega)) _) | (refine Below.trans ?_ (Below.mono (by assumption) (by first | omega | (simp; done) | (simp; omega))))))
  refine (toCellS_any _ _ _ _ (ha.below hb0) h1).mono ?_
  rintro e w1 ⟨A1, c1, rfl, ho, hs1, hi1, hb⟩
  have g0 : w1.heap[w.heap.size]? = some (.cells #[.slice A cs.length c] 131 (0, 0)) := (hb.block _ (by simp; omega)).trans (by repeat (first | assumption | exact heap_alloc_at _ (by first | rfl | (simp; done) | omega) | refine heap_alloc_of _ ?_ | refine heap_setCell_of _ (by first | omega | (simp; done) | (simp; omega)) ?_ | refine heap_setCell_same _ ?_ | exact heap_at1_same (by first | omega | (simp; done) | (simp; omega)) | refine heap_at1_of (by first | omega | (simp; done) | (simp; omega)) ?_))
  have g1 : w1.heap[w.heap.size + 1]? = some (.cells #[.slice none 0 0] 99 (0, 0)) := (hb.block _ (by simp)).trans (by repeat (first | assumption | exact heap_alloc_at _ (by first | rfl | (simp; done) | omega) | refine heap_alloc_of _ ?_ | refine heap_setCell_of _ (by first | omega | (simp; done) | (simp; omega)) ?_ | refine heap_setCell_same _ ?_ | exact heap_at1_same (by first | omega | (simp; done) | (simp; omega)) | refine heap_at1_of (by first | omega | (simp; done) | (simp; omega)) ?_))
  have g2 : w1.heap[w.heap.size + 1 + 1]? = some (.cells #[.slice none 0 0] 99 (0, 0)) := (hb.block _ (by simp)).trans (by repeat (first | assumption | exact heap_alloc_at _ (by first | rfl | (simp; done) | omega) | refine heap_alloc_of _ ?_ | refine heap_setCell_of _ (by first | omega | (simp; done) | (simp; omega)) ?_ | refine heap_setCell_same _ ?_ | exact heap_at1_same (by first | omega | (simp; done) | (simp; omega)) | refine heap_at1_of (by first | omega | (simp; done) | (simp; omega)) ?_))
  have q0 : w1.cell? ⟨w.heap.size, 0, none⟩ = some (.slice A cs.length c) := by simp [World.cell?, g0]
  have q1 : w1.cell? ⟨w.heap.size + 1, 0, none⟩ = some (.slice none 0 0) := by simp [World.cell?, g1]
  have q2 : w1.cell? ⟨w.heap.size + 1 + 1, 0, none⟩ = some (.slice none 0 0) := by simp [World.cell?, g2]
  have r1 : w1.frozen? ⟨w.heap.size + 1, 0, none⟩ = false := by simp [World.frozen?, g1]
  have r2 : w1.frozen? ⟨w.heap.size + 1 + 1, 0, none⟩ = false := by simp [World.frozen?, g2]
  clear g0 g1 g2
  go_wp2_with fail
  have hz : w1.heap.size = w1.heap.size := rfl
  refine bodyPost_ret (v := .agg #[.slice A1 cs.length c1]) (by simp [results, Try.results128, go_sem, *]) rfl ?_
  refine ⟨A1, c1, rfl, ?_, ?_⟩
  · have ho9 : Og w1 w.heap.size A1 c1 cs := ho.mono (by simp; omega)
    refine ho9.keepB fun ad ha => ?_
    have := ho.inB ad ha
    simp at this
    first
      | exact (Below.heap_setCell _ _ _ _ (by simp; omega)).trans (Below.heap_setCell _ _ _ _ (by simp; omega))
      | exact Below.heap_setCell _ _ _ _ (by simp; omega)
  · have hb9 := hb0.trans (hb.mono (by simp; omega))
    first
      | exact (hb9.setCell (by first | omega | (simp; done) | (simp; omega)) _).setCell (by first | omega | (simp; done) | (simp; omega)) _
      | exact hb9.setCell (by first | omega | (simp; done) | (simp; omega)) _
def RowsPost (w : World) (es : List Rw) (e : Ending) (w' : World) : Prop :=
  ∃ A' c' fs, e = .returned (.slice A' es.length c') ∧ Hid (rcs fs = rcs es) ∧ Or w' w.heap.size A' c' fs ∧ Ow w' w.heap.size A' fs ∧ Below w.heap.size w w'
set_option maxHeartbeats 400000 in
theorem toRowS_any (A : Option Addr) (c : Nat) (es : List Rw) (w : World) (ha : Rs w A es) (hl : es.length ≤ 1048576) (hm : ∀ e, e ∈ es → e.2.2.length ≤ 1048576) :
    Calls Try.prog 87 #[.slice A es.length c] w (RowsPost w es) := by
  obtain ⟨i0, hi, hz0, hz1, hz2⟩ := info_parts info_row
  go_enter Try.func87, Try.ntmps87
  go_wp2_with (at_make; refine wpList_make_full _ rfl _ _ _ rfl w.heap.size 99 i0 _ 1 Try.underlying47 hi hz0 hz1 _ _ _ _ es.length rfl rfl rfl rfl (by rw [hz2]; omega) (by unfold maxLen; omega) (Nat.le_refl _) ?_; intro w1 hown hgrow)
  clear hi hz0 hz1 hz2
  have hF : Fill w1 w.heap.size 99 es.length [] := by
    rcases hown.2 with ⟨hv, _⟩ | ⟨g, cap, cur, hv, _, hh, _, _, hc3, _⟩
    · cases hv
    · injection hv with hv _ hv3
      injection hv with hv
      injection hv with hv
      subst hv3 hv
      exact Fill.start hh (.inl rfl) (by omega)
  have hb1 : Below w.heap.size w w1 := (Below.refl _ _).grown hgrow (Nat.le_refl _) (by simp)
  clear hown hgrow
  go_loopw [4] (fun i wr => ∃ (k : Nat) (fs : List Rw), k ≤ es.length ∧ i = .int .i64 k ∧ fs.length = k ∧ Hid (rcs fs = rcs (es.take k)) ∧ Fill wr w.heap.size 99 es.length (fs.map rv) ∧ Ow wr w.heap.size (some ⟨w.heap.size, 0, none⟩) fs ∧ Below w.heap.size w wr) (fun i _ => es.length - (intOf i).toNat)
  case atStart => exact ⟨0, [], Nat.zero_le _, rfl, rfl, rfl, hF, Ow.nil _ _ _, hb1⟩
  case round =>
    clear hF hb1
    obtain ⟨k, fs, hk, rfl, hfk, hd, hF, ho, hb⟩ := hrel
    by_cases hlt : k < es.length
    · obtain ⟨b, o, rfl, hx, hy⟩ := (ha.below hb).get hlt
      have hlt' : (k : Int) < es.length := by omega
      have hme := hm _ (List.getElem_mem hlt)
      have hgs := hF.lt
      have zb := hb.size
      go_wp2_with (go_at_call 128; refine (toRow_any _ _ _ _ hy hme).mono ?_; rintro e w2 ⟨A2, c2, rfl, ho2, hb2⟩; have hF2 := hF.keep (hb2.block _ hgs); obtain ⟨u, hu⟩ := hF2.cell k hlt; have hf := hF2.frozen k hlt)
      have z2 := hb2.size
      have hcg : ∀ v, Chg [some w.heap.size] w2 (w2.setCell ⟨w.heap.size, k, none⟩ v) := fun v => ⟨rfl, rfl, rfl, by simp [World.setCell], fun j hj hn => Below.heap_setCell w2 _ v j (by rintro rfl; exact hn (List.mem_singleton.2 rfl))⟩
      go_roundw
      case rel =>
        refine ⟨k + 1, fs ++ [(A2, c2, es[k].2.2)], by omega, by go_num, by simp [hfk], ?_, ?_, ?_, (hb.trans (hb2.mono (by omega))).setCell (Nat.le_refl _) _⟩
        · show _ = _
          rw [take_succ_get (List.getElem?_eq_getElem hlt)]
          simp only [rcs, List.map_append]
          exact congrArg (· ++ [es[k].2.2]) hd.out
        · rw [List.map_append]
          exact hF2.step (by simp; omega) hlt _
        · have h3 := Ow.snoc (w := wr) (e := (A2, c2, es[k].2.2)) (ho.below hb2) (fun k hk => (ho.lt hk).2) (fun k hk => by have := ob_mk ⟨w.heap.size, 0, none⟩; rw [this] at hk; injection hk with hk; subst hk; exact hgs) ho2 zb
          refine h3.chg (hcg _) fun j hj hm => ?_
          rw [List.mem_singleton] at hm
          injection hm with hm
          subst hm
          obtain ⟨e, he, hq⟩ := List.mem_map.1 hj
          exact h3.list e he _ rfl hq
      case measure => simp [intOf]; omega
    · have hlt' : ¬ ((k : Int) < es.length) := by omega
      have hk' : k = es.length := by omega
      rw [hk', List.take_length] at hd
      have hlf := rcs_len hd.out
      rw [← hlf] at hF
      have hor : Or wr w.heap.size (some ⟨w.heap.size, 0, none⟩) fs.length fs := Or.of_fill hF (Nat.le_refl _) (Nat.le_refl _) (by unfold maxLen; omega)
      rw [hlf] at hor
      clear hk' hlf
      go_wp2
      go_ret
      exact ⟨_, _, fs, rfl, hd, hor, ho, hb⟩
theorem eqRow_same (A A' : Option Addr) (c c' : Nat) (cs : List Cl) (w : World) (ha : Gs w A cs) (hb : Gs w A' cs) (h1 : cs.length ≤ 1048576) :
    Calls Try.prog 126 #[.agg #[.slice A cs.length c], .agg #[.slice A' cs.length c']] w fun e w' => e = .returned (.bool true) ∧ Below w.heap.size w w' := by
  go_enter Try.func126, Try.ntmps126
  go_wp2_with fail
  have hb0 : Below w.heap.size w ((w.alloc (.cells #[.slice A cs.length c] 99)).alloc (.cells #[.slice A' cs.length c'] 99)) := by (repeat (first | exact Below.refl _ _ | (refine Below.alloc ?_ (by first | omega | (simp; done) | (simp; omega)) _) | (refine Below.drew ?_) | (refine below_drewN ?_ _) | (refine below_at1 ?_ (by first | omega | (simp; done) | (simp; omega))) | (refine Below.setCell ?_ (by first | omega | (simp; done) | (simp; omega)) _) | (refine Below.trans ?_ (Below.mono (by assumption) (by first | omega | (simp; done) | (simp; omega))))))
  refine (eqCellS_same _ _ _ _ _ _ (ha.below hb0) (hb.below hb0) (by omega)).mono ?_
  rintro e w1 ⟨rfl, hb1⟩
  go_wp2_with fail
  go_ret
  exact ⟨rfl, hb0.trans (hb1.mono hb0.size)⟩
set_option maxHeartbeats 1000000 in
theorem eqRowS_same (A A' : Option Addr) (c c' n : Nat) (es fs : List Rw) (w : World) (hn : es.length = n) (ha : Rs w A es) (hb : Rs w A' fs) (hd : Hid (rcs fs = rcs es)) (hl : n ≤ 1048576) (hm : ∀ e, e ∈ es → e.2.2.length ≤ 1048576) :
    Calls Try.prog 76 #[.slice A n c, .slice A' n c'] w fun e w' => e = .returned (.bool true) ∧ Below w.heap.size w w' := by
  subst hn
  go_enter Try.func76, Try.ntmps76
  go_wp2
  go_loopw [5] (fun i wr => ∃ k : Nat, k ≤ es.length ∧ i = .int .i64 k ∧ Below w.heap.size w wr) (fun i _ => es.length - (intOf i).toNat)
  case atStart => exact ⟨0, Nat.zero_le _, rfl, Below.refl _ _⟩
  case round =>
    obtain ⟨k, hk, rfl, hbw⟩ := hrel
    by_cases hlt : k < es.length
    · have hlt2 : k < fs.length := by rw [rcs_len hd.out]; exact hlt
      obtain ⟨b, o, rfl, hx, hy⟩ := (ha.below hbw).get hlt
      obtain ⟨b', o', rfl, hx', hy'⟩ := (hb.below hbw).get hlt2
      have hlt' : (k : Int) < es.length := by omega
      have hme := hm _ (List.getElem_mem hlt)
      have hq := rcs_get hd.out hlt2 hlt
      rw [rv, hq] at hx'
      rw [hq] at hy'
      have zb := hbw.size
      clear hq
      go_wp2_with fail
      go_region_held3 (fun w' => Below wr.heap.size wr w' ∧ w'.cell? ⟨b, o + k, none⟩ = some (rv es[k]) ∧ w'.cell? ⟨b', o' + k, none⟩ = some (.slice fs[k].1 es[k].2.2.length fs[k].2.1))
        (first | exact ⟨Below.drew (Below.refl _ _), by simpa using hx, by simpa using hx'⟩ | assumption | (refine ⟨?_, ?_, ?_⟩ <;> assumption))
        ((go_at_call 126; refine (eqRow_same _ _ _ _ es[k].2.2 _ (Gs.below hy (Below.drew (Below.refl _ _))) (Gs.below hy' (Below.drew (Below.refl _ _))) hme).mono ?_; rintro e w3 ⟨rfl, hb3⟩; have hbw3 : Below wr.heap.size wr w3 := (Below.drew (Below.refl wr.heap.size wr)).trans hb3; have hkeep := And.intro hbw3 (And.intro ((hbw3.cell (World.block_lt_of_cell? wr _ hx)).trans hx) ((hbw3.cell (World.block_lt_of_cell? wr _ hx')).trans hx'))))
      clear hkeep
      go_wp2_with fail
      go_roundw
      case rel => exact ⟨k + 1, by omega, by go_num, hbw.trans (hbw3.mono zb)⟩
      case measure => simp [intOf]; omega
    · have hlt' : ¬ ((k : Int) < es.length) := by omega
      go_wp2
      go_ret
      exact ⟨rfl, hbw⟩
/-- Rows whose cells are marked from k on. -/
def markR (k : Int) : List Rw → List Rw
  | [] => []
  | e :: r => (e.1, e.2.1, markC k e.2.2.length) :: markR (k + 6 * (e.2.2.length : Int)) r
theorem markR_map (es : List Rw) : ∀ k, (markR k es).map rv = es.map rv := by
  induction es with
  | nil => intro k; rfl
  | cons e r ih => intro k; simp only [markR, List.map_cons, ih, rv, markC_len]
theorem markR_ft (es : List Rw) : ∀ k, ft (markR k es) = ft es := by
  induction es with
  | nil => intro k; rfl
  | cons e r ih => intro k; simp only [markR, ft, List.map_cons] at ih ⊢; rw [ih]
theorem markR_len (es : List Rw) (k : Int) : (markR k es).length = es.length := by
  have := congrArg List.length (markR_map es k)
  simpa using this
theorem markR_append (a b : List Rw) : ∀ k, markR k (a ++ b) = markR k a ++ markR (k + 6 * (rtot a : Int)) b := by
  induction a with
  | nil => intro k; simp [markR, rtot]
  | cons x r ih =>
    intro k
    have h : k + 6 * (x.2.2.length : Int) + 6 * (rtot r : Int) = k + 6 * (rtot (x :: r) : Int) := by simp [rtot]; omega
    simp only [List.cons_append, markR, ih, h]
theorem markR_get (es : List Rw) {j : Nat} (hj : j < es.length) (k : Int) : (markR k es)[j]? = some (es[j].1, es[j].2.1, markC (k + 6 * (rtot (es.take j) : Int)) es[j].2.2.length) := by
  have h1 : es = es.take j ++ (es[j] :: es.drop (j + 1)) := by simp
  have h3 : markR k es = markR k (es.take j) ++ markR (k + 6 * (rtot (es.take j) : Int)) (es[j] :: es.drop (j + 1)) := by
    conv => lhs; rw [h1]
    rw [markR_append]
  rw [h3, List.getElem?_append_right (by rw [markR_len]; simp; omega), markR_len]
  simp [markR, Nat.min_eq_left (Nat.le_of_lt hj)]
theorem ow_get {w : World} {lo : Nat} {es : List Rw} (h : ∀ e, e ∈ es → Og w lo e.1 e.2.1 e.2.2) {j : Nat} {e : Rw} (he : es[j]? = some e) : Og w lo e.1 e.2.1 e.2.2 := h e (List.mem_of_getElem? he)
set_option maxHeartbeats 1000000 in
theorem markRowS_any (A : Option Addr) (c lo : Nat) (es : List Rw) (k : Int) (w : World) (hs : Cs w A (es.map rv)) (ho : Ow w lo A es) (hk : 0 ≤ k) (hk2 : k + 6 * (rtot es : Int) ≤ 10000000) (hl : es.length ≤ 1048576) (hr : rtot es ≤ 1048576) :
    Calls Try.prog 78 #[.slice A es.length c, .int .i64 k] w fun e w' => e = .returned (.int .i64 (k + 6 * (rtot es : Int))) ∧ Ow w' lo A (markR k es) ∧ Chg (ft es) w w' := by
  go_enter Try.func78, Try.ntmps78
  go_wp2
  go_loopw [1, 5] (fun kk i wr => ∃ (j : Nat) (z : Int), j ≤ es.length ∧ i = .int .i64 j ∧ kk = .int .i64 z ∧ Hid (z = k + 6 * (rtot (es.take j) : Int)) ∧ (∀ e, e ∈ markR k (es.take j) ++ es.drop j → Og wr lo e.1 e.2.1 e.2.2) ∧ Chg (ft es) w wr) (fun _ i _ => es.length - (intOf i).toNat)
  case atStart => exact ⟨0, k, Nat.zero_le _, rfl, rfl, by show _ = _; simp [rtot], by simpa [markR] using ho.own, Chg.refl _ _⟩
  case round =>
    obtain ⟨j, z, hj, rfl, rfl, hz, hob, hcg⟩ := hrel
    have hcs : Cs wr A (es.map rv) := hs.chg hcg fun q hq hm => by
      obtain ⟨e, he, h2⟩ := List.mem_map.1 hm
      exact ho.list e he q hq h2
    by_cases hlt : j < es.length
    · have hlt' : (j : Int) < es.length := by omega
      have hcell : ∃ b o, A = some ⟨b, o, none⟩ ∧ wr.cell? ⟨b, o + j, none⟩ = some (rv es[j]) := by
        rcases hcs with h | ⟨b, o, hA, h⟩
        · have h2 : es.length = 0 := by have := congrArg List.length h; rwa [List.length_map] at this
          omega
        · exact ⟨b, o, hA, h j _ (by simp [hlt])⟩
      obtain ⟨b, o, rfl, hx⟩ := hcell
      have hg := rtot_get hlt
      have hsu := rtot_succ hlt
      have hd := List.drop_eq_getElem_cons hlt
      have hoj : Og wr lo es[j].1 es[j].2.1 es[j].2.2 := hob _ (List.mem_append.2 (.inr (by rw [hd]; exact List.mem_cons_self ..)))
      have hmj : es[j].2.2.length ≤ 1048576 := by have := rtot_mem (List.getElem_mem hlt); omega
      have hz0 : 0 ≤ z := by have := hz.out; omega
      have hz1 : z + 6 * (es[j].2.2.length : Int) ≤ 10000000 := by have := hz.out; omega
      have HD := Lib.hid hd
      clear hd
      go_wp2_with (go_at_call 93; refine (markCellS_any _ _ lo _ _ _ hoj hmj hz0 hz1).mono ?_; rintro e w2 ⟨rfl, ho2, hg2⟩)
      have hc2 : Chg [ob es[j].1] wr w2 := Chg.of_grown hg2 fun q hq => by rw [ob_eq] at hq; rw [hq]; simp
      go_roundw
      case rel =>
        refine ⟨j + 1, z + 6 * (es[j].2.2.length : Int), by omega, by go_num, rfl, (by have := hz.out; show _ = _; rw [hsu]; omega), ?_, hcg.trans (hc2.mono fun q hq => by rw [List.mem_singleton] at hq; rw [hq]; exact List.mem_map.2 ⟨_, List.getElem_mem hlt, rfl⟩)⟩
        rw [take_succ_get (List.getElem?_eq_getElem hlt), markR_append, List.append_assoc]
        intro e he
        rcases List.mem_append.1 he with he | he
        · have h1 := hob e (List.mem_append.2 (.inl he))
          refine h1.chg hc2 fun q hq hm => ?_
          rw [List.mem_singleton] at hm
          have hmem : some q ∈ ft (es.take j) := by rw [← markR_ft (es.take j) k]; exact List.mem_map.2 ⟨e, he, hq⟩
          obtain ⟨e', he', hq'⟩ := List.mem_map.1 hmem
          obtain ⟨i, hi, rfl⟩ := List.getElem_of_mem he'
          rw [List.length_take] at hi
          rw [List.getElem_take] at hq'
          exact ho.sep_get (i := i) (j := j) (by omega) hlt (by omega) q hq' hm.symm
        · simp only [markR, List.cons_append, List.nil_append, List.mem_cons] at he
          rcases he with rfl | he
          · have e1 : k + 6 * (rtot (es.take j) : Int) = z := hz.out.symm
            rw [e1]
            exact ho2
          · have h1 := hob e (List.mem_append.2 (.inr (by rw [HD.out]; exact List.mem_cons_of_mem _ he)))
            refine h1.chg hc2 fun q hq hm => ?_
            rw [List.mem_singleton] at hm
            obtain ⟨i, hi, rfl⟩ := List.getElem_of_mem he
            rw [List.length_drop] at hi
            rw [List.getElem_drop] at hq
            exact ho.sep_get (i := j + 1 + i) (j := j) (by omega) hlt (by omega) q hq hm.symm
      case measure => simp [intOf]; omega
    · have hlt' : ¬ ((j : Int) < es.length) := by omega
      have hk' : j = es.length := by omega
      rw [hk', List.take_length, List.drop_length, List.append_nil] at hob
      rw [hk', List.take_length] at hz
      clear hk'
      have how : Ow wr lo A (markR k es) := ⟨hob, by show (ft (markR k es)).Pairwise Sep; rw [markR_ft]; exact ho.sep, fun e he => by
        have hm : ob e.1 ∈ ft (markR k es) := List.mem_map.2 ⟨e, he, rfl⟩
        rw [markR_ft] at hm
        obtain ⟨e', he', hq⟩ := List.mem_map.1 hm
        rw [← hq]
        exact ho.list e' he'⟩
      go_wp2
      go_ret
      exact ⟨ret_int hz.out, how, hcg⟩
set_option maxHeartbeats 400000 in
theorem heldRowS_any (A : Option Addr) (c : Nat) (es : List Rw) (k : Int) (w : World) (hs : Cs w A (es.map rv)) (hg : ∀ e, e ∈ markR k es → Gs w e.1 e.2.2) (hk : 0 ≤ k) (hk2 : k + 6 * (rtot es : Int) ≤ 10000000) (hl : es.length ≤ 1048576) (hr : rtot es ≤ 1048576) :
    Calls Try.prog 80 #[.slice A es.length c, .int .i64 k] w fun e w' => e = .returned (.int .i64 (k + 6 * (rtot es : Int))) ∧ ∃ m, w.drewN m = w' := by
  go_enter Try.func80, Try.ntmps80
  go_wp2
  go_loopw [1, 5] (fun kk i wr => ∃ (j m : Nat) (z : Int), j ≤ es.length ∧ i = .int .i64 j ∧ kk = .int .i64 z ∧ Hid (z = k + 6 * (rtot (es.take j) : Int)) ∧ wr = w.drewN m) (fun _ i _ => es.length - (intOf i).toNat)
  case atStart => exact ⟨0, 0, k, Nat.zero_le _, rfl, rfl, by show _ = _; simp [rtot], rfl⟩
  case round =>
    obtain ⟨j, m, z, hj, rfl, rfl, hz, rfl⟩ := hrel
    by_cases hlt : j < es.length
    · have hlt' : (j : Int) < es.length := by omega
      have hcell : ∃ b o, A = some ⟨b, o, none⟩ ∧ w.cell? ⟨b, o + j, none⟩ = some (rv es[j]) := by
        rcases hs with h | ⟨b, o, hA, h⟩
        · have h2 : es.length = 0 := by have := congrArg List.length h; rwa [List.length_map] at this
          omega
        · exact ⟨b, o, hA, h j _ (by simp [hlt])⟩
      obtain ⟨b, o, rfl, hx⟩ := hcell
      have hmg := markR_get es hlt k
      have hy := hg _ (List.mem_of_getElem? hmg)
      rw [← hz.out] at hy
      have hge := rtot_get hlt
      have hsu := rtot_succ hlt
      have hmj : es[j].2.2.length ≤ 1048576 := by have := rtot_mem (List.getElem_mem hlt); omega
      have hz0 : 0 ≤ z := by have := hz.out; omega
      have hz1 : z + 6 * (es[j].2.2.length : Int) ≤ 10000000 := by have := hz.out; omega
      have hneg : ¬ z + 6 * (es[j].2.2.length : Int) < 0 := by omega
      clear hmg
      go_wp2_with (go_at_call 94; refine (heldCellS_any _ _ _ _ _ (hy.drewN _) hmj hz0 hz1).mono ?_; rintro e w2 ⟨rfl, rfl⟩)
      go_roundw
      case rel => exact ⟨j + 1, m, z + 6 * (es[j].2.2.length : Int), by omega, by go_num, rfl, (by have := hz.out; show _ = _; rw [hsu]; omega), rfl⟩
      case measure => simp [intOf]; omega
    · have hlt' : ¬ ((j : Int) < es.length) := by omega
      have hk' : j = es.length := by omega
      rw [hk', List.take_length] at hz
      clear hk'
      go_wp2
      go_ret
      exact ⟨ret_int hz.out, m, rfl⟩

set_option linter.unusedVariables false
set_option maxRecDepth 100000

/-- A slice of numbers that owns its block, from block lo on. -/
def Oi (w : World) (lo : Nat) (A : Option Addr) (c : Nat) (ns : List Int) : Prop := ownsG w lo 3 1 (.slice A ns.length c) ns.length (ns.map I)
theorem Oi.cs {w : World} {lo c : Nat} {A : Option Addr} {ns : List Int} (h : Oi w lo A c ns) : Cs w A (ns.map I) := by
  rcases h.2 with ⟨h1, h2⟩ | ⟨g, cap, cur, fz, hv, _⟩
  · exact .inl (by rw [List.eq_nil_of_length_eq_zero h2]; rfl)
  · injection hv with hv _ _
    exact .inr ⟨g, 0, hv, fun i u hu => by rw [Nat.zero_add]; exact h.cells (g := g) (by rw [hv]; rfl) _ _ hu⟩
theorem Oi.chg {F : List (Option Nat)} {w w' : World} {lo c : Nat} {A : Option Addr} {ns : List Int} (h : Oi w lo A c ns) (hc : Chg F w w') (hn : ∀ k, ob A = some k → some k ∉ F) : Oi w' lo A c ns :=
  ownsG.chg h hc (by rw [ob_eq]; exact hn)
theorem Oi.ob_lt {w : World} {lo c : Nat} {A : Option Addr} {ns : List Int} (h : Oi w lo A c ns) {k : Nat} (hk : ob A = some k) : lo ≤ k ∧ k < w.heap.size := ownsG.lt h k (by rw [ob_eq]; exact hk)
theorem Oi.mono {w : World} {lo lo' c : Nat} {A : Option Addr} {ns : List Int} (h : Oi w lo A c ns) (hl : lo' ≤ lo) : Oi w lo' A c ns := ownsG.mono h hl
theorem Oi.cap {w : World} {lo c : Nat} {A : Option Addr} {ns : List Int} (h : Oi w lo A c ns) : ns.length ≤ c := by
  rcases h.2 with ⟨hv, hn⟩ | ⟨g, cap, cur, fz, hv, _, _, _, hnc, _⟩
  · omega
  · injection hv with _ _ hv3
    omega
theorem Oi.of_fill {w : World} {lo g N : Nat} {ns : List Int} (h : Fill w g 3 N (ns.map I)) (hN : ns.length ≤ N) (hlo : lo ≤ g) (hm : N ≤ maxLen) : Oi w lo (some ⟨g, 0, none⟩) N ns := by
  obtain ⟨cur, fz, h1, hz, h2, h3, h4⟩ := h
  exact ⟨by simp, .inr ⟨g, N, cur, fz, rfl, hlo, h1, hz, hN, hm, by rw [h2]; simp, by rw [← h3]; simp⟩⟩
theorem Oi.fill {w : World} {lo c : Nat} {A : Option Addr} {ns : List Int} (h : Oi w lo A c ns) (hx : 0 < ns.length) : ∃ g, A = some ⟨g, 0, none⟩ ∧ lo ≤ g ∧ c ≤ maxLen ∧ ns.length ≤ c ∧ Fill w g 3 c [] := by
  rcases h.2 with ⟨h1, h2⟩ | ⟨g, cap, cur, fz, hv, hg, hh, hz, hc1, hc2, hc3, ht⟩
  · omega
  · injection hv with hv _ hv3
    subst hv3
    exact ⟨g, hv, hg, hc2, hc1, Fill.start hh hz (by omega)⟩
def IntsOwn (w : World) (ns : List Int) (e : Ending) (w' : World) : Prop :=
  ∃ A' c', e = .returned (.slice A' ns.length c') ∧ Oi w' w.heap.size A' c' ns ∧ Below w.heap.size w w'
set_option maxHeartbeats 400000 in
theorem toIntS_own (A : Option Addr) (c : Nat) (ns : List Int) (w : World) (ha : Cs w A (ns.map I)) (hl : ns.length ≤ 1048576) :
    Calls Try.prog 86 #[.slice A ns.length c] w (IntsOwn w ns) := by
  obtain ⟨i0, hi, hz0, hz1, hz2⟩ := info_parts info_int
  go_enter Try.func86, Try.ntmps86
  go_wp2_with (at_make; refine wpList_make_full _ rfl _ _ _ rfl w.heap.size 3 i0 _ 1 Try.underlying46 hi hz0 hz1 _ _ _ _ ns.length rfl rfl rfl rfl (by rw [hz2]; omega) (by unfold maxLen; omega) (Nat.le_refl _) ?_; intro w1 hown hgrow)
  clear hi hz0 hz1 hz2
  have hF : Fill w1 w.heap.size 3 ns.length [] := by
    rcases hown.2 with ⟨hv, _⟩ | ⟨g, cap, cur, hv, _, hh, _, _, hc3, _⟩
    · cases hv
    · injection hv with hv _ hv3
      injection hv with hv
      injection hv with hv
      subst hv3 hv
      exact Fill.start hh (.inl rfl) (by omega)
  have hb1 : Below w.heap.size w w1 := (Below.refl _ _).grown hgrow (Nat.le_refl _) (by simp)
  clear hown hgrow
  go_loopw [4] (fun i wr => ∃ k : Nat, k ≤ ns.length ∧ i = .int .i64 k ∧ Fill wr w.heap.size 3 ns.length ((ns.take k).map I) ∧ Below w.heap.size w wr) (fun i _ => ns.length - (intOf i).toNat)
  case atStart => exact ⟨0, Nat.zero_le _, rfl, hF, hb1⟩
  case round =>
    clear hF hb1
    obtain ⟨k, hk, rfl, hF, hb⟩ := hrel
    by_cases hlt : k < ns.length
    · obtain ⟨b, o, rfl, hx⟩ := (ha.below hb).ints hlt
      have hlt' : (k : Int) < ns.length := by omega
      obtain ⟨u, hu⟩ := hF.cell k hlt
      have hf := hF.frozen k hlt
      go_wp2
      go_roundw
      case rel =>
        refine ⟨k + 1, by omega, by go_num, ?_, hb.setCell (Nat.le_refl _) _⟩
        rw [take_succ_get (List.getElem?_eq_getElem hlt), List.map_append]
        exact hF.step (by simp; omega) hlt _
      case measure => simp [intOf]; omega
    · have hlt' : ¬ ((k : Int) < ns.length) := by omega
      have hk' : k = ns.length := by omega
      have hF' : Fill wr w.heap.size 3 ns.length (ns.map I) := by rw [hk', List.take_length] at hF; exact hF
      clear hF hk'
      go_wp2
      go_ret
      exact ⟨_, _, rfl, Oi.of_fill hF' (Nat.le_refl _) (Nat.le_refl _) (by unfold maxLen; omega), hb⟩
/-- The numbers that marking writes. -/
def markI (k : Int) (n : Nat) : List Int := (List.range n).map fun (i : Nat) => k + (i : Int)
theorem markI_len (k : Int) (n : Nat) : (markI k n).length = n := by simp [markI]
theorem markI_succ (k : Int) (n : Nat) : markI k (n + 1) = markI k n ++ [k + (n : Int)] := by simp [markI, List.range_succ]
theorem markI_get {k : Int} {n i : Nat} (h : i < (markI k n).length) : (markI k n)[i] = k + (i : Int) := by simp [markI]
set_option maxHeartbeats 1000000 in
theorem markIntS_any (A : Option Addr) (c lo : Nat) (ns : List Int) (k : Int) (w : World) (ha : Oi w lo A c ns) (h1 : ns.length ≤ 1048576) (hk : 0 ≤ k) (hk2 : k + (ns.length : Int) ≤ 100000000) :
    Calls Try.prog 77 #[.slice A ns.length c, .int .i64 k] w fun e w' => e = .returned (.int .i64 (k + ns.length)) ∧ Oi w' lo A c (markI k ns.length) ∧ Chg [ob A] w w' := by
  by_cases h0 : ns.length = 0
  · have hn : ns = [] := List.eq_nil_of_length_eq_zero h0
    subst hn
    go_enter Try.func77, Try.ntmps77
    go_wp2
    go_loopw [1, 5] (fun kk i wr => kk = .int .i64 k ∧ i = .int .i64 0 ∧ wr = w) (fun _ _ _ => 0)
    case atStart => exact ⟨rfl, rfl, rfl⟩
    case round =>
      obtain ⟨rfl, rfl, rfl⟩ := hrel
      go_wp2
      go_ret
      exact ⟨ret_int (by simp), ha, Chg.refl _ _⟩
  · obtain ⟨g, rfl, hlo, hcm, hxc, hF0⟩ := ha.fill (by omega)
    clear ha
    go_enter Try.func77, Try.ntmps77
    go_wp2
    go_loopw [1, 5] (fun kk i wr => ∃ (j : Nat), j ≤ ns.length ∧ i = .int .i64 j ∧ kk = .int .i64 (k + j) ∧ Fill wr g 3 c ((markI k j).map I) ∧ Chg [some g] w wr) (fun _ i _ => ns.length - (intOf i).toNat)
    case atStart => exact ⟨0, Nat.zero_le _, rfl, by simp, hF0, Chg.refl _ _⟩
    case round =>
      clear hF0
      obtain ⟨j, hj, rfl, rfl, hF, hb⟩ := hrel
      by_cases hlt : j < ns.length
      · have hlt' : (j : Int) < ns.length := by omega
        obtain ⟨u0, hu0⟩ := hF.cell j (by omega)
        have hf0 := hF.frozen j (by omega)
        go_wp2
        go_roundw
        case rel =>
          refine ⟨j + 1, by omega, by go_num, by go_num, ?_, ?_⟩
          · rw [markI_succ, List.map_append]
            exact hF.step (by simp [markI_len]) (by omega) _
          · exact hb.trans ⟨rfl, rfl, rfl, by simp [World.setCell], fun q hq hn => Below.heap_setCell wr _ _ q (by rintro rfl; exact hn (List.mem_singleton.2 rfl))⟩
        case measure => simp [intOf]; omega
      · have hlt' : ¬ ((j : Int) < ns.length) := by omega
        have hk' : j = ns.length := by omega
        subst hk'
        go_wp2
        go_ret
        have hF2 := Oi.of_fill (lo := lo) (N := c) hF (by rw [markI_len]; exact hxc) hlo hcm
        exact ⟨rfl, by simpa [Oi, markI_len] using hF2, hb⟩
set_option maxHeartbeats 1000000 in
theorem heldIntS_any (A : Option Addr) (c : Nat) (n : Nat) (k : Int) (w : World) (ha : Cs w A ((markI k n).map I)) (h1 : n ≤ 1048576) (hk : 0 ≤ k) (hk2 : k + (n : Int) ≤ 100000000) :
    Calls Try.prog 79 #[.slice A n c, .int .i64 k] w fun e w' => e = .returned (.int .i64 (k + n)) ∧ ∃ m, w.drewN m = w' := by
  go_enter Try.func79, Try.ntmps79
  go_wp2
  go_loopw [1, 5] (fun kk i wr => ∃ (j m : Nat), j ≤ n ∧ i = .int .i64 j ∧ kk = .int .i64 (k + j) ∧ wr = w.drewN m) (fun _ i _ => n - (intOf i).toNat)
  case atStart => exact ⟨0, 0, Nat.zero_le _, rfl, by simp, rfl⟩
  case round =>
    obtain ⟨j, m, hj, rfl, rfl, rfl⟩ := hrel
    by_cases hlt : j < n
    · have hlt' : (j : Int) < n := by omega
      obtain ⟨b, o, rfl, hx⟩ := ha.ints (k := j) (by rw [markI_len]; exact hlt)
      rw [markI_get] at hx
      go_wp2
      try go_quiet (fail)
      try go_wp2
      go_roundw
      case rel => exact ⟨j + 1, _, by omega, by go_num, by go_num, rfl⟩
      case measure => simp [intOf]; omega
    · have hlt' : ¬ ((j : Int) < n) := by omega
      have hk' : j = n := by omega
      subst hk'
      go_wp2
      go_ret
      exact ⟨rfl, m, rfl⟩
theorem szIntS_any (A : Option Addr) (n c : Nat) (left : Int) (w : World) (hn : n ≤ maxLen) (h0 : 0 ≤ left) (h1 : left ≤ 1048576) :
    Calls Try.prog 81 #[.slice A n c, .int .i64 left] w fun e w' => e = .returned (.int .i64 (szR left n)) ∧ w = w' := by
  unfold maxLen at hn
  by_cases h : left < n
  · have HS := szR_no h
    have h' : left - n < 0 := by omega
    go_enter Try.func81, Try.ntmps81
    go_wp2
    go_ret
    exact ⟨ret_int HS.out.symm, rfl⟩
  · have HS := szR_yes h
    have h' : ¬ left - n < 0 := by omega
    go_enter Try.func81, Try.ntmps81
    go_wp2
    go_ret
    exact ⟨ret_int HS.out.symm, rfl⟩

set_option linter.unusedVariables false
set_option maxRecDepth 100000

/-- What of a screen lies in the value itself. -/
structure Sc where
  (W H mW mH aW aH : Int)
  onA : Bool
  (X Y : Int)
  wrap : Bool
  A : At
  (top bot : Int)
  (noWrap hide : Bool)
  (sX sY : Int)
  sA : At
  limit : Int
abbrev Ti := Option Addr × Nat × List Int
abbrev tv (e : Ti) : Value := .slice e.1 e.2.2.length e.2.1
abbrev Tr := Option Addr × Nat × List Rw
abbrev bv (e : Tr) : Value := .slice e.1 e.2.2.length e.2.1
abbrev sC (s : Sc) (m a : Rw) (t : Ti) (b : Tr) : Array Value := #[.int .i64 s.W, .int .i64 s.H, .int .i64 s.mW, .int .i64 s.mH, rv m, .int .i64 s.aW, .int .i64 s.aH, rv a, .bool s.onA, .int .i64 s.X, .int .i64 s.Y, .bool s.wrap, .int .i64 s.A.1, .int .i64 s.A.2.1, .bool s.A.2.2.1, .bool s.A.2.2.2.1, .bool s.A.2.2.2.2, .int .i64 s.top, .int .i64 s.bot, .bool s.noWrap, .bool s.hide, .int .i64 s.sX, .int .i64 s.sY, .int .i64 s.sA.1, .int .i64 s.sA.2.1, .bool s.sA.2.2.1, .bool s.sA.2.2.2.1, .bool s.sA.2.2.2.2, tv t, .int .i64 s.limit, bv b]
abbrev sV (s : Sc) (m a : Rw) (t : Ti) (b : Tr) : Value := .agg (sC s m a t b)
/-- The slices of a screen can be read. -/
structure Sr (w : World) (m a : Rw) (t : Ti) (b : Tr) : Prop where
  gm : Gs w m.1 m.2.2
  ga : Gs w a.1 a.2.2
  gt : Cs w t.1 (t.2.2.map I)
  gb : Rs w b.1 b.2.2
theorem Sr.below {w w' : World} {m a : Rw} {t : Ti} {b : Tr} (h : Sr w m a t b) (hb : Below w.heap.size w w') : Sr w' m a t b := ⟨h.gm.below hb, h.ga.below hb, h.gt.below hb, h.gb.below hb⟩
/-- How many cells and numbers the slices have. -/
structure Sz (m a : Rw) (t : Ti) (b : Tr) (N : Nat) : Prop where
  lm : m.2.2.length ≤ N
  la : a.2.2.length ≤ N
  lt : t.2.2.length ≤ N
  lb : b.2.2.length ≤ N
  lr : ∀ e, e ∈ b.2.2 → e.2.2.length ≤ N
theorem rd_grid2 {w : World} {vs : List Value} (h : Rd Try.prog w 24 vs) : ∃ (W H : Int) (m : Rw), vs = [.int .i64 W, .int .i64 H, rv m] ∧ Gs w m.1 m.2.2 ∧ m.2.2.length ≤ maxLen ∧ (-9223372036854775808 ≤ W ∧ W ≤ 9223372036854775807) ∧ (-9223372036854775808 ≤ H ∧ H ≤ 9223372036854775807) := by
  obtain ⟨W, H, A, cs, c, rfl, hg, hm, hW, hH⟩ := rd_grid h
  exact ⟨W, H, (A, c, cs), rfl, hg, hm, hW, hH⟩
theorem rd_attr2 {w : World} {vs : List Value} (h : Rd Try.prog w 55 vs) : ∃ A : At, vs = [.int .i64 A.1, .int .i64 A.2.1, .bool A.2.2.1, .bool A.2.2.2.1, .bool A.2.2.2.2] := by
  obtain ⟨f, b, x, y, z, rfl⟩ := rd_AttrL h
  exact ⟨(f, b, x, y, z), rfl⟩
/-- A number that fits. -/
def Fits (n : Int) : Prop := -9223372036854775808 ≤ n ∧ n ≤ 9223372036854775807
structure Sb (s : Sc) : Prop where
  (W : Fits s.W) (H : Fits s.H) (mW : Fits s.mW) (mH : Fits s.mH) (aW : Fits s.aW) (aH : Fits s.aH) (X : Fits s.X) (Y : Fits s.Y) (top : Fits s.top) (bot : Fits s.bot) (sX : Fits s.sX) (sY : Fits s.sY) (limit : Fits s.limit)
set_option maxHeartbeats 1000000 in
theorem rd_scr {w : World} {vs : List Value} (h : Rd Try.prog w 58 vs) : ∃ (s : Sc) (m a : Rw) (t : Ti) (b : Tr), vs = (sC s m a t b).toList ∧ Sr w m a t b ∧ Sz m a t b maxLen ∧ Sb s := by
  obtain ⟨hl, hf⟩ := h.struct Try.underlying58
  have hc : Try.prog.cellsOf 58 = 31 := by kernel_rfl
  have hg : Try.prog.cellsOf 24 = 3 := by kernel_rfl
  have hd : Try.prog.cellsOf 46 = 1 := by kernel_rfl
  have he : Try.prog.cellsOf 56 = 1 := by kernel_rfl
  match vs, hl.trans hc with
  | [c0, c1, c2, c3, c4, c5, c6, c7, c8, c9, c10, c11, c12, c13, c14, c15, c16, c17, c18, c19, c20, c21, c22, c23, c24, c25, c26, c27, c28, c29, c30], _ =>
    obtain ⟨x0, e0, w0⟩ := (hf 0 _ rfl).int Try.underlying3
    obtain ⟨x1, e1, w1⟩ := (hf 1 _ rfl).int Try.underlying3
    obtain ⟨W2, H2, m2, e2, g2, l2, b2, d2⟩ := rd_grid2 (hf 2 _ rfl)
    obtain ⟨W3, H3, m3, e3, g3, l3, b3, d3⟩ := rd_grid2 (hf 3 _ rfl)
    obtain ⟨x4, e4⟩ := (hf 4 _ rfl).bool Try.underlying4
    obtain ⟨x5, e5, w5⟩ := (hf 5 _ rfl).int Try.underlying3
    obtain ⟨x6, e6, w6⟩ := (hf 6 _ rfl).int Try.underlying3
    obtain ⟨x7, e7⟩ := (hf 7 _ rfl).bool Try.underlying4
    obtain ⟨A8, e8⟩ := rd_attr2 (hf 8 _ rfl)
    obtain ⟨x9, e9, w9⟩ := (hf 9 _ rfl).int Try.underlying3
    obtain ⟨x10, e10, w10⟩ := (hf 10 _ rfl).int Try.underlying3
    obtain ⟨x11, e11⟩ := (hf 11 _ rfl).bool Try.underlying4
    obtain ⟨x12, e12⟩ := (hf 12 _ rfl).bool Try.underlying4
    obtain ⟨x13, e13, w13⟩ := (hf 13 _ rfl).int Try.underlying3
    obtain ⟨x14, e14, w14⟩ := (hf 14 _ rfl).int Try.underlying3
    obtain ⟨A15, e15⟩ := rd_attr2 (hf 15 _ rfl)
    obtain ⟨x17, e17, w17⟩ := (hf 17 _ rfl).int Try.underlying3
    have hT : Rd Try.prog w 46 ([c28].take (Try.prog.cellsOf 46)) := hf 16 _ rfl
    rw [hd] at hT
    obtain ⟨A, n, c, e16, _⟩ := hT.slice Try.underlying46
    rw [e16] at hT
    obtain ⟨ns, rfl, gT, mT, _⟩ := rd_ints hT
    have hB : Rd Try.prog w 56 ([c30].take (Try.prog.cellsOf 56)) := hf 18 _ rfl
    rw [he] at hB
    obtain ⟨A', n', c', e18, _⟩ := hB.slice Try.underlying56
    rw [e18] at hB
    obtain ⟨es, rfl, gB, mB, mB2⟩ := rd_rows hB
    simp [cellsInt, cellsBool, cellsAttrL, hg] at e0 e1 e2 e3 e4 e5 e6 e7 e8 e9 e10 e11 e12 e13 e14 e15 e17 e16 e18
    obtain ⟨e2a, e2b, e2c⟩ := e2
    obtain ⟨e3a, e3b, e3c⟩ := e3
    obtain ⟨e8a, e8b, e8c, e8d, e8e⟩ := e8
    obtain ⟨e15a, e15b, e15c, e15d, e15e⟩ := e15
    exact ⟨⟨x0, x1, W2, H2, W3, H3, x4, x5, x6, x7, A8, x9, x10, x11, x12, x13, x14, A15, x17⟩, m2, m3, (A, c, ns), (A', c', es), by simp [e0, e1, e2a, e2b, e2c, e3a, e3b, e3c, e4, e5, e6, e7, e8a, e8b, e8c, e8d, e8e, e9, e10, e11, e12, e13, e14, e15a, e15b, e15c, e15d, e15e, e16, e17, e18], ⟨g2, g3, gT, gB⟩, ⟨l2, l3, mT, mB, mB2⟩, ⟨i64_bd w0, i64_bd w1, b2, d2, b3, d3, i64_bd w5, i64_bd w6, i64_bd w9, i64_bd w10, i64_bd w13, i64_bd w14, i64_bd w17⟩⟩
end Go.Proofs.Ytnilgcahggmncaa
