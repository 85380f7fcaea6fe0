/- Rows of cells: copying, comparing, marking, holding. -/
import Derived.Test.YtnilgcahggmncaaW1
namespace Go.Proofs.Ytnilgcahggmncaa
open Go.RowKit
set_option linter.unusedVariables false
set_option maxRecDepth 100000

theorem info_row : (Try.prog.info? 99).map (fun i => (i.zero, i.size, i.bytes)) = some (some (.agg #[.slice none 0 0]), 1, 24) := by kernel_rfl
theorem Og.keepB {w w' : World} {lo c : Nat} {A : Option Addr} {cs : List Cl} (h : Og w lo A c cs) (hk : ∀ ad, A = some ad → w'.heap[ad.block]? = w.heap[ad.block]?) : Og w' lo A c cs := by
  obtain ⟨h1, h2⟩ := h
  refine ⟨h1, ?_⟩
  rcases h2 with h2 | ⟨g, cap, cur, fz, hv, h3, h4, h5⟩
  · exact .inl h2
  · injection hv with hv hv2 hv3
    exact .inr ⟨g, cap, cur, fz, by rw [hv, hv3], h3, (hk _ hv).trans h4, h5⟩
/-- A slice of rows that owns its block, from block lo on. -/
def Or (w : World) (lo : Nat) (A : Option Addr) (c : Nat) (es : List Rw) : Prop := ownsG w lo 99 1 (.slice A es.length c) es.length (es.map rv)
theorem Or.cs {w : World} {lo c : Nat} {A : Option Addr} {es : List Rw} (h : Or w lo A c es) : Cs w A (es.map rv) := by
  rcases h.2 with ⟨h1, h2⟩ | ⟨g, cap, cur, fz, hv, _⟩
  · exact .inl (by rw [List.eq_nil_of_length_eq_zero h2]; rfl)
  · injection hv with hv _ _
    exact .inr ⟨g, 0, hv, fun i u hu => by rw [Nat.zero_add]; exact h.cells (g := g) (by rw [hv]; rfl) _ _ hu⟩
theorem Or.chg {F : List (Option Nat)} {w w' : World} {lo c : Nat} {A : Option Addr} {es : List Rw} (h : Or w lo A c es) (hc : Chg F w w') (hn : ∀ k, ob A = some k → some k ∉ F) : Or w' lo A c es :=
  ownsG.chg h hc (by rw [ob_eq]; exact hn)
theorem Or.ob_lt {w : World} {lo c : Nat} {A : Option Addr} {es : List Rw} (h : Or w lo A c es) {k : Nat} (hk : ob A = some k) : lo ≤ k ∧ k < w.heap.size := ownsG.lt h k (by rw [ob_eq]; exact hk)
theorem Or.cap {w : World} {lo c : Nat} {A : Option Addr} {es : List Rw} (h : Or w lo A c es) : es.length ≤ c := by
  rcases h.2 with ⟨hv, hn⟩ | ⟨g, cap, cur, fz, hv, _, _, _, hnc, _⟩
  · omega
  · injection hv with _ _ hv3
    omega
theorem Or.of_fill {w : World} {lo g N : Nat} {es : List Rw} (h : Fill w g 99 N (es.map rv)) (hN : es.length ≤ N) (hlo : lo ≤ g) (hm : N ≤ maxLen) : Or w lo (some ⟨g, 0, none⟩) N es := by
  obtain ⟨cur, fz, h1, hz, h2, h3, h4⟩ := h
  exact ⟨by simp, .inr ⟨g, N, cur, fz, rfl, hlo, h1, hz, hN, hm, by rw [h2]; simp, by rw [← h3]; simp⟩⟩
/-- Rows that own their blocks, each another one, and none the block of the list. -/
structure Ow (w : World) (lo : Nat) (A : Option Addr) (es : List Rw) : Prop where
  own : ∀ e, e ∈ es → Og w lo e.1 e.2.1 e.2.2
  sep : (es.map fun e => ob e.1).Pairwise Sep
  list : ∀ e, e ∈ es → Sep (ob A) (ob e.1)
abbrev ft (es : List Rw) : List (Option Nat) := es.map fun e => ob e.1
theorem Ow.nil (w : World) (lo : Nat) (A : Option Addr) : Ow w lo A [] := ⟨fun e h => by simp at h, List.Pairwise.nil, fun e h => by simp at h⟩
theorem Ow.chg {F : List (Option Nat)} {w w' : World} {lo : Nat} {A : Option Addr} {es : List Rw} (h : Ow w lo A es) (hc : Chg F w w') (hn : ∀ k, some k ∈ ft es → some k ∉ F) : Ow w' lo A es :=
  ⟨fun e he => (h.own e he).chg hc fun k hk => hn k (List.mem_map.2 ⟨e, he, hk⟩), h.sep, h.list⟩
theorem Ow.lt {w : World} {lo : Nat} {A : Option Addr} {es : List Rw} (h : Ow w lo A es) {k : Nat} (hk : some k ∈ ft es) : lo ≤ k ∧ k < w.heap.size := by
  obtain ⟨e, he, hq⟩ := List.mem_map.1 hk
  exact (h.own e he).ob_lt hq
theorem Ow.below {w w' : World} {lo : Nat} {A : Option Addr} {es : List Rw} (h : Ow w lo A es) (hb : Below w.heap.size w w') : Ow w' lo A es := h.chg (F := []) (Chg.of_below _ hb) (fun _ _ h => by simp at h)
theorem Ow.mono {w : World} {lo lo' : Nat} {A : Option Addr} {es : List Rw} (h : Ow w lo A es) (hl : lo' ≤ lo) : Ow w lo' A es := ⟨fun e he => (h.own e he).mono hl, h.sep, h.list⟩
theorem Ow.snoc {w w' : World} {lo : Nat} {A : Option Addr} {es : List Rw} {e : Rw} (h : Ow w' lo A es) (hlt : ∀ k, some k ∈ ft es → k < w.heap.size) (hA : ∀ k, ob A = some k → k < w.heap.size) (he : Og w' w.heap.size e.1 e.2.1 e.2.2) (hlo : lo ≤ w.heap.size) : Ow w' lo A (es ++ [e]) := by
  have hs : ∀ a, (∀ k, a = some k → k < w.heap.size) → Sep a (ob e.1) := fun a ha => Sep.lt ha fun k hk => (he.ob_lt hk).1
  refine ⟨fun x hx => ?_, ?_, fun x hx => ?_⟩
  · rcases List.mem_append.1 hx with hx | hx
    · exact h.own x hx
    · rw [List.mem_singleton.1 hx]
      exact he.mono hlo
  · rw [List.map_append, List.pairwise_append]
    refine ⟨h.sep, by simp, fun a ha b hb => ?_⟩
    simp only [List.map_cons, List.map_nil, List.mem_singleton] at hb
    subst hb
    exact hs a fun k hk => hlt k (by rw [← hk]; exact ha)
  · rcases List.mem_append.1 hx with hx | hx
    · exact h.list x hx
    · rw [List.mem_singleton.1 hx]
      exact hs _ hA
theorem Ow.sep_get {w : World} {lo : Nat} {A : Option Addr} {es : List Rw} (h : Ow w lo A es) {i j : Nat} (hi : i < es.length) (hj : j < es.length) (hne : i ≠ j) : Sep (ob es[i].1) (ob es[j].1) := by
  have hp := List.pairwise_iff_getElem.1 h.sep
  rcases Nat.lt_or_gt_of_ne hne with hlt | hlt
  · have := hp i j (by simpa using hi) (by simpa using hj) hlt
    simpa using this
  · have := hp j i (by simpa using hj) (by simpa using hi) hlt
    exact Sep.symm (by simpa using this)
theorem toRow_any (A : Option Addr) (c : Nat) (cs : List Cl) (w : World) (ha : Gs w A cs) (h1 : cs.length ≤ 1048576) :
    Calls Try.prog 128 #[.agg #[.slice A cs.length c]] w fun e w' => ∃ A' c', e = .returned (.agg #[.slice A' cs.length c']) ∧ Og w' w.heap.size A' c' cs ∧ Below w.heap.size w w' := by
  go_enter Try.func128, Try.ntmps128
  go_wp2_with fail
  have hb0 : Below w.heap.size w (((w.alloc (.cells #[.slice A cs.length c] 131)).alloc (.cells #[.slice none 0 0] 99)).alloc (.cells #[.slice none 0 0] 99)) := by (repeat (first | exact Below.refl _ _ | (refine Below.alloc ?_ (by first | omega | (simp; done) | (simp; omega)) _) | (refine Below.drew ?_) | (refine below_drewN ?_ _) | (refine below_at1 ?_ (by first | omega | (simp; done) | (simp; omega))) | (refine Below.setCell ?_ (by first | omega | (simp; done) | (simp; omega)) _) | (refine Below.trans ?_ (Below.mono (by assumption) (by first | omega | (simp; done) | (simp; omega))))))
  refine (toCellS_any _ _ _ _ (ha.below hb0) h1).mono ?_
  rintro e w1 ⟨A1, c1, rfl, ho, hs1, hi1, hb⟩
  have g0 : w1.heap[w.heap.size]? = some (.cells #[.slice A cs.length c] 131 (0, 0)) := (hb.block _ (by simp; omega)).trans (by repeat (first | assumption | exact heap_alloc_at _ (by first | rfl | (simp; done) | omega) | refine heap_alloc_of _ ?_ | refine heap_setCell_of _ (by first | omega | (simp; done) | (simp; omega)) ?_ | refine heap_setCell_same _ ?_ | exact heap_at1_same (by first | omega | (simp; done) | (simp; omega)) | refine heap_at1_of (by first | omega | (simp; done) | (simp; omega)) ?_))
  have g1 : w1.heap[w.heap.size + 1]? = some (.cells #[.slice none 0 0] 99 (0, 0)) := (hb.block _ (by simp)).trans (by repeat (first | assumption | exact heap_alloc_at _ (by first | rfl | (simp; done) | omega) | refine heap_alloc_of _ ?_ | refine heap_setCell_of _ (by first | omega | (simp; done) | (simp; omega)) ?_ | refine heap_setCell_same _ ?_ | exact heap_at1_same (by first | omega | (simp; done) | (simp; omega)) | refine heap_at1_of (by first | omega | (simp; done) | (simp; omega)) ?_))
  have g2 : w1.heap[w.heap.size + 1 + 1]? = some (.cells #[.slice none 0 0] 99 (0, 0)) := (hb.block _ (by simp)).trans (by repeat (first | assumption | exact heap_alloc_at _ (by first | rfl | (simp; done) | omega) | refine heap_alloc_of _ ?_ | refine heap_setCell_of _ (by first | omega | (simp; done) | (simp; omega)) ?_ | refine heap_setCell_same _ ?_ | exact heap_at1_same (by first | omega | (simp; done) | (simp; omega)) | refine heap_at1_of (by first | omega | (simp; done) | (simp; omega)) ?_))
  have q0 : w1.cell? ⟨w.heap.size, 0, none⟩ = some (.slice A cs.length c) := by simp [World.cell?, g0]
  have q1 : w1.cell? ⟨w.heap.size + 1, 0, none⟩ = some (.slice none 0 0) := by simp [World.cell?, g1]
  have q2 : w1.cell? ⟨w.heap.size + 1 + 1, 0, none⟩ = some (.slice none 0 0) := by simp [World.cell?, g2]
  have r1 : w1.frozen? ⟨w.heap.size + 1, 0, none⟩ = false := by simp [World.frozen?, g1]
  have r2 : w1.frozen? ⟨w.heap.size + 1 + 1, 0, none⟩ = false := by simp [World.frozen?, g2]
  clear g0 g1 g2
  go_wp2_with fail
  have hz : w1.heap.size = w1.heap.size := rfl
  refine bodyPost_ret (v := .agg #[.slice A1 cs.length c1]) (by simp [results, Try.results128, go_sem, *]) rfl ?_
  refine ⟨A1, c1, rfl, ?_, ?_⟩
  · have ho9 : Og w1 w.heap.size A1 c1 cs := ho.mono (by simp; omega)
    refine ho9.keepB fun ad ha => ?_
    have := ho.inB ad ha
    simp at this
    first
      | exact (Below.heap_setCell _ _ _ _ (by simp; omega)).trans (Below.heap_setCell _ _ _ _ (by simp; omega))
      | exact Below.heap_setCell _ _ _ _ (by simp; omega)
  · have hb9 := hb0.trans (hb.mono (by simp; omega))
    first
      | exact (hb9.setCell (by first | omega | (simp; done) | (simp; omega)) _).setCell (by first | omega | (simp; done) | (simp; omega)) _
      | exact hb9.setCell (by first | omega | (simp; done) | (simp; omega)) _
def RowsPost (w : World) (es : List Rw) (e : Ending) (w' : World) : Prop :=
  ∃ A' c' fs, e = .returned (.slice A' es.length c') ∧ Hid (rcs fs = rcs es) ∧ Or w' w.heap.size A' c' fs ∧ Ow w' w.heap.size A' fs ∧ Below w.heap.size w w'
set_option maxHeartbeats 400000 in
theorem toRowS_any (A : Option Addr) (c : Nat) (es : List Rw) (w : World) (ha : Rs w A es) (hl : es.length ≤ 1048576) (hm : ∀ e, e ∈ es → e.2.2.length ≤ 1048576) :
    Calls Try.prog 87 #[.slice A es.length c] w (RowsPost w es) := by
  obtain ⟨i0, hi, hz0, hz1, hz2⟩ := info_parts info_row
  go_enter Try.func87, Try.ntmps87
  go_wp2_with (at_make; refine wpList_make_full _ rfl _ _ _ rfl w.heap.size 99 i0 _ 1 Try.underlying47 hi hz0 hz1 _ _ _ _ es.length rfl rfl rfl rfl (by rw [hz2]; omega) (by unfold maxLen; omega) (Nat.le_refl _) ?_; intro w1 hown hgrow)
  clear hi hz0 hz1 hz2
  have hF : Fill w1 w.heap.size 99 es.length [] := by
    rcases hown.2 with ⟨hv, _⟩ | ⟨g, cap, cur, hv, _, hh, _, _, hc3, _⟩
    · cases hv
    · injection hv with hv _ hv3
      injection hv with hv
      injection hv with hv
      subst hv3 hv
      exact Fill.start hh (.inl rfl) (by omega)
  have hb1 : Below w.heap.size w w1 := (Below.refl _ _).grown hgrow (Nat.le_refl _) (by simp)
  clear hown hgrow
  go_loopw [4] (fun i wr => ∃ (k : Nat) (fs : List Rw), k ≤ es.length ∧ i = .int .i64 k ∧ fs.length = k ∧ Hid (rcs fs = rcs (es.take k)) ∧ Fill wr w.heap.size 99 es.length (fs.map rv) ∧ Ow wr w.heap.size (some ⟨w.heap.size, 0, none⟩) fs ∧ Below w.heap.size w wr) (fun i _ => es.length - (intOf i).toNat)
  case atStart => exact ⟨0, [], Nat.zero_le _, rfl, rfl, rfl, hF, Ow.nil _ _ _, hb1⟩
  case round =>
    clear hF hb1
    obtain ⟨k, fs, hk, rfl, hfk, hd, hF, ho, hb⟩ := hrel
    by_cases hlt : k < es.length
    · obtain ⟨b, o, rfl, hx, hy⟩ := (ha.below hb).get hlt
      have hlt' : (k : Int) < es.length := by omega
      have hme := hm _ (List.getElem_mem hlt)
      have hgs := hF.lt
      have zb := hb.size
      go_wp2_with (go_at_call 128; refine (toRow_any _ _ _ _ hy hme).mono ?_; rintro e w2 ⟨A2, c2, rfl, ho2, hb2⟩; have hF2 := hF.keep (hb2.block _ hgs); obtain ⟨u, hu⟩ := hF2.cell k hlt; have hf := hF2.frozen k hlt)
      have z2 := hb2.size
      have hcg : ∀ v, Chg [some w.heap.size] w2 (w2.setCell ⟨w.heap.size, k, none⟩ v) := fun v => ⟨rfl, rfl, rfl, by simp [World.setCell], fun j hj hn => Below.heap_setCell w2 _ v j (by rintro rfl; exact hn (List.mem_singleton.2 rfl))⟩
      go_roundw
      case rel =>
        refine ⟨k + 1, fs ++ [(A2, c2, es[k].2.2)], by omega, by go_num, by simp [hfk], ?_, ?_, ?_, (hb.trans (hb2.mono (by omega))).setCell (Nat.le_refl _) _⟩
        · show _ = _
          rw [take_succ_get (List.getElem?_eq_getElem hlt)]
          simp only [rcs, List.map_append]
          exact congrArg (· ++ [es[k].2.2]) hd.out
        · rw [List.map_append]
          exact hF2.step (by simp; omega) hlt _
        · have h3 := Ow.snoc (w := wr) (e := (A2, c2, es[k].2.2)) (ho.below hb2) (fun k hk => (ho.lt hk).2) (fun k hk => by have := ob_mk ⟨w.heap.size, 0, none⟩; rw [this] at hk; injection hk with hk; subst hk; exact hgs) ho2 zb
          refine h3.chg (hcg _) fun j hj hm => ?_
          rw [List.mem_singleton] at hm
          injection hm with hm
          subst hm
          obtain ⟨e, he, hq⟩ := List.mem_map.1 hj
          exact h3.list e he _ rfl hq
      case measure => simp [intOf]; omega
    · have hlt' : ¬ ((k : Int) < es.length) := by omega
      have hk' : k = es.length := by omega
      rw [hk', List.take_length] at hd
      have hlf := rcs_len hd.out
      rw [← hlf] at hF
      have hor : Or wr w.heap.size (some ⟨w.heap.size, 0, none⟩) fs.length fs := Or.of_fill hF (Nat.le_refl _) (Nat.le_refl _) (by unfold maxLen; omega)
      rw [hlf] at hor
      clear hk' hlf
      go_wp2
      go_ret
      exact ⟨_, _, fs, rfl, hd, hor, ho, hb⟩
theorem eqRow_same (A A' : Option Addr) (c c' : Nat) (cs : List Cl) (w : World) (ha : Gs w A cs) (hb : Gs w A' cs) (h1 : cs.length ≤ 1048576) :
    Calls Try.prog 126 #[.agg #[.slice A cs.length c], .agg #[.slice A' cs.length c']] w fun e w' => e = .returned (.bool true) ∧ Below w.heap.size w w' := by
  go_enter Try.func126, Try.ntmps126
  go_wp2_with fail
  have hb0 : Below w.heap.size w ((w.alloc (.cells #[.slice A cs.length c] 99)).alloc (.cells #[.slice A' cs.length c'] 99)) := by (repeat (first | exact Below.refl _ _ | (refine Below.alloc ?_ (by first | omega | (simp; done) | (simp; omega)) _) | (refine Below.drew ?_) | (refine below_drewN ?_ _) | (refine below_at1 ?_ (by first | omega | (simp; done) | (simp; omega))) | (refine Below.setCell ?_ (by first | omega | (simp; done) | (simp; omega)) _) | (refine Below.trans ?_ (Below.mono (by assumption) (by first | omega | (simp; done) | (simp; omega))))))
  refine (eqCellS_same _ _ _ _ _ _ (ha.below hb0) (hb.below hb0) (by omega)).mono ?_
  rintro e w1 ⟨rfl, hb1⟩
  go_wp2_with fail
  go_ret
  exact ⟨rfl, hb0.trans (hb1.mono hb0.size)⟩
set_option maxHeartbeats 1000000 in
theorem eqRowS_same (A A' : Option Addr) (c c' n : Nat) (es fs : List Rw) (w : World) (hn : es.length = n) (ha : Rs w A es) (hb : Rs w A' fs) (hd : Hid (rcs fs = rcs es)) (hl : n ≤ 1048576) (hm : ∀ e, e ∈ es → e.2.2.length ≤ 1048576) :
    Calls Try.prog 76 #[.slice A n c, .slice A' n c'] w fun e w' => e = .returned (.bool true) ∧ Below w.heap.size w w' := by
  subst hn
  go_enter Try.func76, Try.ntmps76
  go_wp2
  go_loopw [5] (fun i wr => ∃ k : Nat, k ≤ es.length ∧ i = .int .i64 k ∧ Below w.heap.size w wr) (fun i _ => es.length - (intOf i).toNat)
  case atStart => exact ⟨0, Nat.zero_le _, rfl, Below.refl _ _⟩
  case round =>
    obtain ⟨k, hk, rfl, hbw⟩ := hrel
    by_cases hlt : k < es.length
    · have hlt2 : k < fs.length := by rw [rcs_len hd.out]; exact hlt
      obtain ⟨b, o, rfl, hx, hy⟩ := (ha.below hbw).get hlt
      obtain ⟨b', o', rfl, hx', hy'⟩ := (hb.below hbw).get hlt2
      have hlt' : (k : Int) < es.length := by omega
      have hme := hm _ (List.getElem_mem hlt)
      have hq := rcs_get hd.out hlt2 hlt
      rw [rv, hq] at hx'
      rw [hq] at hy'
      have zb := hbw.size
      clear hq
      go_wp2_with fail
      go_region_held3 (fun w' => Below wr.heap.size wr w' ∧ w'.cell? ⟨b, o + k, none⟩ = some (rv es[k]) ∧ w'.cell? ⟨b', o' + k, none⟩ = some (.slice fs[k].1 es[k].2.2.length fs[k].2.1))
        (first | exact ⟨Below.drew (Below.refl _ _), by simpa using hx, by simpa using hx'⟩ | assumption | (refine ⟨?_, ?_, ?_⟩ <;> assumption))
        ((go_at_call 126; refine (eqRow_same _ _ _ _ es[k].2.2 _ (Gs.below hy (Below.drew (Below.refl _ _))) (Gs.below hy' (Below.drew (Below.refl _ _))) hme).mono ?_; rintro e w3 ⟨rfl, hb3⟩; have hbw3 : Below wr.heap.size wr w3 := (Below.drew (Below.refl wr.heap.size wr)).trans hb3; have hkeep := And.intro hbw3 (And.intro ((hbw3.cell (World.block_lt_of_cell? wr _ hx)).trans hx) ((hbw3.cell (World.block_lt_of_cell? wr _ hx')).trans hx'))))
      clear hkeep
      go_wp2_with fail
      go_roundw
      case rel => exact ⟨k + 1, by omega, by go_num, hbw.trans (hbw3.mono zb)⟩
      case measure => simp [intOf]; omega
    · have hlt' : ¬ ((k : Int) < es.length) := by omega
      go_wp2
      go_ret
      exact ⟨rfl, hbw⟩
/-- Rows whose cells are marked from k on. -/
def markR (k : Int) : List Rw → List Rw
  | [] => []
  | e :: r => (e.1, e.2.1, markC k e.2.2.length) :: markR (k + 6 * (e.2.2.length : Int)) r
theorem markR_map (es : List Rw) : ∀ k, (markR k es).map rv = es.map rv := by
  induction es with
  | nil => intro k; rfl
  | cons e r ih => intro k; simp only [markR, List.map_cons, ih, rv, markC_len]
theorem markR_ft (es : List Rw) : ∀ k, ft (markR k es) = ft es := by
  induction es with
  | nil => intro k; rfl
  | cons e r ih => intro k; simp only [markR, ft, List.map_cons] at ih ⊢; rw [ih]
theorem markR_len (es : List Rw) (k : Int) : (markR k es).length = es.length := by
  have := congrArg List.length (markR_map es k)
  simpa using this
theorem markR_append (a b : List Rw) : ∀ k, markR k (a ++ b) = markR k a ++ markR (k + 6 * (rtot a : Int)) b := by
  induction a with
  | nil => intro k; simp [markR, rtot]
  | cons x r ih =>
    intro k
    have h : k + 6 * (x.2.2.length : Int) + 6 * (rtot r : Int) = k + 6 * (rtot (x :: r) : Int) := by simp [rtot]; omega
    simp only [List.cons_append, markR, ih, h]
theorem markR_get (es : List Rw) {j : Nat} (hj : j < es.length) (k : Int) : (markR k es)[j]? = some (es[j].1, es[j].2.1, markC (k + 6 * (rtot (es.take j) : Int)) es[j].2.2.length) := by
  have h1 : es = es.take j ++ (es[j] :: es.drop (j + 1)) := by simp
  have h3 : markR k es = markR k (es.take j) ++ markR (k + 6 * (rtot (es.take j) : Int)) (es[j] :: es.drop (j + 1)) := by
    conv => lhs; rw [h1]
    rw [markR_append]
  rw [h3, List.getElem?_append_right (by rw [markR_len]; simp; omega), markR_len]
  simp [markR, Nat.min_eq_left (Nat.le_of_lt hj)]
theorem ow_get {w : World} {lo : Nat} {es : List Rw} (h : ∀ e, e ∈ es → Og w lo e.1 e.2.1 e.2.2) {j : Nat} {e : Rw} (he : es[j]? = some e) : Og w lo e.1 e.2.1 e.2.2 := h e (List.mem_of_getElem? he)
set_option maxHeartbeats 1000000 in
theorem markRowS_any (A : Option Addr) (c lo : Nat) (es : List Rw) (k : Int) (w : World) (hs : Cs w A (es.map rv)) (ho : Ow w lo A es) (hk : 0 ≤ k) (hk2 : k + 6 * (rtot es : Int) ≤ 10000000) (hl : es.length ≤ 1048576) (hr : rtot es ≤ 1048576) :
    Calls Try.prog 78 #[.slice A es.length c, .int .i64 k] w fun e w' => e = .returned (.int .i64 (k + 6 * (rtot es : Int))) ∧ Ow w' lo A (markR k es) ∧ Chg (ft es) w w' := by
  go_enter Try.func78, Try.ntmps78
  go_wp2
  go_loopw [1, 5] (fun kk i wr => ∃ (j : Nat) (z : Int), j ≤ es.length ∧ i = .int .i64 j ∧ kk = .int .i64 z ∧ Hid (z = k + 6 * (rtot (es.take j) : Int)) ∧ (∀ e, e ∈ markR k (es.take j) ++ es.drop j → Og wr lo e.1 e.2.1 e.2.2) ∧ Chg (ft es) w wr) (fun _ i _ => es.length - (intOf i).toNat)
  case atStart => exact ⟨0, k, Nat.zero_le _, rfl, rfl, by show _ = _; simp [rtot], by simpa [markR] using ho.own, Chg.refl _ _⟩
  case round =>
    obtain ⟨j, z, hj, rfl, rfl, hz, hob, hcg⟩ := hrel
    have hcs : Cs wr A (es.map rv) := hs.chg hcg fun q hq hm => by
      obtain ⟨e, he, h2⟩ := List.mem_map.1 hm
      exact ho.list e he q hq h2
    by_cases hlt : j < es.length
    · have hlt' : (j : Int) < es.length := by omega
      have hcell : ∃ b o, A = some ⟨b, o, none⟩ ∧ wr.cell? ⟨b, o + j, none⟩ = some (rv es[j]) := by
        rcases hcs with h | ⟨b, o, hA, h⟩
        · have h2 : es.length = 0 := by have := congrArg List.length h; rwa [List.length_map] at this
          omega
        · exact ⟨b, o, hA, h j _ (by simp [hlt])⟩
      obtain ⟨b, o, rfl, hx⟩ := hcell
      have hg := rtot_get hlt
      have hsu := rtot_succ hlt
      have hd := List.drop_eq_getElem_cons hlt
      have hoj : Og wr lo es[j].1 es[j].2.1 es[j].2.2 := hob _ (List.mem_append.2 (.inr (by rw [hd]; exact List.mem_cons_self ..)))
      have hmj : es[j].2.2.length ≤ 1048576 := by have := rtot_mem (List.getElem_mem hlt); omega
      have hz0 : 0 ≤ z := by have := hz.out; omega
      have hz1 : z + 6 * (es[j].2.2.length : Int) ≤ 10000000 := by have := hz.out; omega
      have HD := Lib.hid hd
      clear hd
      go_wp2_with (go_at_call 93; refine (markCellS_any _ _ lo _ _ _ hoj hmj hz0 hz1).mono ?_; rintro e w2 ⟨rfl, ho2, hg2⟩)
      have hc2 : Chg [ob es[j].1] wr w2 := Chg.of_grown hg2 fun q hq => by rw [ob_eq] at hq; rw [hq]; simp
      go_roundw
      case rel =>
        refine ⟨j + 1, z + 6 * (es[j].2.2.length : Int), by omega, by go_num, rfl, (by have := hz.out; show _ = _; rw [hsu]; omega), ?_, hcg.trans (hc2.mono fun q hq => by rw [List.mem_singleton] at hq; rw [hq]; exact List.mem_map.2 ⟨_, List.getElem_mem hlt, rfl⟩)⟩
        rw [take_succ_get (List.getElem?_eq_getElem hlt), markR_append, List.append_assoc]
        intro e he
        rcases List.mem_append.1 he with he | he
        · have h1 := hob e (List.mem_append.2 (.inl he))
          refine h1.chg hc2 fun q hq hm => ?_
          rw [List.mem_singleton] at hm
          have hmem : some q ∈ ft (es.take j) := by rw [← markR_ft (es.take j) k]; exact List.mem_map.2 ⟨e, he, hq⟩
          obtain ⟨e', he', hq'⟩ := List.mem_map.1 hmem
          obtain ⟨i, hi, rfl⟩ := List.getElem_of_mem he'
          rw [List.length_take] at hi
          rw [List.getElem_take] at hq'
          exact ho.sep_get (i := i) (j := j) (by omega) hlt (by omega) q hq' hm.symm
        · simp only [markR, List.cons_append, List.nil_append, List.mem_cons] at he
          rcases he with rfl | he
          · have e1 : k + 6 * (rtot (es.take j) : Int) = z := hz.out.symm
            rw [e1]
            exact ho2
          · have h1 := hob e (List.mem_append.2 (.inr (by rw [HD.out]; exact List.mem_cons_of_mem _ he)))
            refine h1.chg hc2 fun q hq hm => ?_
            rw [List.mem_singleton] at hm
            obtain ⟨i, hi, rfl⟩ := List.getElem_of_mem he
            rw [List.length_drop] at hi
            rw [List.getElem_drop] at hq
            exact ho.sep_get (i := j + 1 + i) (j := j) (by omega) hlt (by omega) q hq hm.symm
      case measure => simp [intOf]; omega
    · have hlt' : ¬ ((j : Int) < es.length) := by omega
      have hk' : j = es.length := by omega
      rw [hk', List.take_length, List.drop_length, List.append_nil] at hob
      rw [hk', List.take_length] at hz
      clear hk'
      have how : Ow wr lo A (markR k es) := ⟨hob, by show (ft (markR k es)).Pairwise Sep; rw [markR_ft]; exact ho.sep, fun e he => by
        have hm : ob e.1 ∈ ft (markR k es) := List.mem_map.2 ⟨e, he, rfl⟩
        rw [markR_ft] at hm
        obtain ⟨e', he', hq⟩ := List.mem_map.1 hm
        rw [← hq]
        exact ho.list e' he'⟩
      go_wp2
      go_ret
      exact ⟨ret_int hz.out, how, hcg⟩
set_option maxHeartbeats 400000 in
theorem heldRowS_any (A : Option Addr) (c : Nat) (es : List Rw) (k : Int) (w : World) (hs : Cs w A (es.map rv)) (hg : ∀ e, e ∈ markR k es → Gs w e.1 e.2.2) (hk : 0 ≤ k) (hk2 : k + 6 * (rtot es : Int) ≤ 10000000) (hl : es.length ≤ 1048576) (hr : rtot es ≤ 1048576) :
    Calls Try.prog 80 #[.slice A es.length c, .int .i64 k] w fun e w' => e = .returned (.int .i64 (k + 6 * (rtot es : Int))) ∧ ∃ m, w.drewN m = w' := by
  go_enter Try.func80, Try.ntmps80
  go_wp2
  go_loopw [1, 5] (fun kk i wr => ∃ (j m : Nat) (z : Int), j ≤ es.length ∧ i = .int .i64 j ∧ kk = .int .i64 z ∧ Hid (z = k + 6 * (rtot (es.take j) : Int)) ∧ wr = w.drewN m) (fun _ i _ => es.length - (intOf i).toNat)
  case atStart => exact ⟨0, 0, k, Nat.zero_le _, rfl, rfl, by show _ = _; simp [rtot], rfl⟩
  case round =>
    obtain ⟨j, m, z, hj, rfl, rfl, hz, rfl⟩ := hrel
    by_cases hlt : j < es.length
    · have hlt' : (j : Int) < es.length := by omega
      have hcell : ∃ b o, A = some ⟨b, o, none⟩ ∧ w.cell? ⟨b, o + j, none⟩ = some (rv es[j]) := by
        rcases hs with h | ⟨b, o, hA, h⟩
        · have h2 : es.length = 0 := by have := congrArg List.length h; rwa [List.length_map] at this
          omega
        · exact ⟨b, o, hA, h j _ (by simp [hlt])⟩
      obtain ⟨b, o, rfl, hx⟩ := hcell
      have hmg := markR_get es hlt k
      have hy := hg _ (List.mem_of_getElem? hmg)
      rw [← hz.out] at hy
      have hge := rtot_get hlt
      have hsu := rtot_succ hlt
      have hmj : es[j].2.2.length ≤ 1048576 := by have := rtot_mem (List.getElem_mem hlt); omega
      have hz0 : 0 ≤ z := by have := hz.out; omega
      have hz1 : z + 6 * (es[j].2.2.length : Int) ≤ 10000000 := by have := hz.out; omega
      have hneg : ¬ z + 6 * (es[j].2.2.length : Int) < 0 := by omega
      clear hmg
      go_wp2_with (go_at_call 94; refine (heldCellS_any _ _ _ _ _ (hy.drewN _) hmj hz0 hz1).mono ?_; rintro e w2 ⟨rfl, rfl⟩)
      go_roundw
      case rel => exact ⟨j + 1, m, z + 6 * (es[j].2.2.length : Int), by omega, by go_num, rfl, (by have := hz.out; show _ = _; rw [hsu]; omega), rfl⟩
      case measure => simp [intOf]; omega
    · have hlt' : ¬ ((j : Int) < es.length) := by omega
      have hk' : j = es.length := by omega
      rw [hk', List.take_length] at hz
      clear hk'
      go_wp2
      go_ret
      exact ⟨ret_int hz.out, m, rfl⟩
end Go.Proofs.Ytnilgcahggmncaa
