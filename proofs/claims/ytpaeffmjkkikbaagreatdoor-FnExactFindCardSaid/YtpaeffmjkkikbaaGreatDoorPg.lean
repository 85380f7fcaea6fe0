/- Lists of loads: their size, copying, comparing, marking, holding. Lists of loads: copying, comparing, marking, holding. -/
import Derived.Test.YtpaeffmjkkikbaaGreatDoorUa
import Derived.Test.YtpaeffmjkkikbaaGreatDoorPe
import Derived.Deep.RegionHeld3
import Derived.Deep.DeepCutAuto
namespace Go.Proofs.YtpaeffmjkkikbaaGreatDoor
open Go.RowKit

set_option linter.unusedVariables false
set_option maxRecDepth 100000

def datas (es : List Sl) : List (List UInt8) := es.map fun e => e.2.2
/-- A slice that begins at A reads as these loads. -/
def Ls (w : World) (A : Option Addr) (es : List Sl) : Prop := Cs w A (es.map slv) ∧ ∀ e, e ∈ es → By w e.1 e.2.2
theorem Ls.below {w w' : World} {A : Option Addr} {es : List Sl} (h : Ls w A es) (hb : Below w.heap.size w w') : Ls w' A es :=
  ⟨h.1.below hb, fun e he => (h.2 e he).below hb⟩
theorem Ls.drewN {w : World} {A : Option Addr} {es : List Sl} (h : Ls w A es) (m : Nat) : Ls (w.drewN m) A es := h
theorem Ls.get {w : World} {A : Option Addr} {es : List Sl} (h : Ls w A es) {k : Nat} (hk : k < es.length) : ∃ b o, A = some ⟨b, o, none⟩ ∧ w.cell? ⟨b, o + k, none⟩ = some (slv es[k]) ∧ By w es[k].1 es[k].2.2 := by
  rcases h.1 with h1 | ⟨b, o, hA, h1⟩
  · have h2 : es.length = 0 := by have := congrArg List.length h1; rwa [List.length_map] at this
    omega
  · exact ⟨b, o, hA, h1 k _ (by rw [List.getElem?_map, List.getElem?_eq_getElem hk]; rfl), h.2 _ (List.getElem_mem hk)⟩
set_option linter.unusedVariables false
set_option maxRecDepth 100000

theorem info_load : (Tryz.prog.info? 74).map (fun i => (i.zero, i.size, i.bytes)) = some (some (.agg #[.slice none 0 0]), 1, 24) := by kernel_rfl
theorem Cs.keep {w w' : World} {B' : Nat} {A : Option Addr} {vs : List Value} (h : Cs w A vs) (hb : Below B' w w') (hA : ∀ ad, A = some ad → ad.block < B') : Cs w' A vs := by
  rcases h with h | ⟨b, o, rfl, h⟩
  · exact .inl h
  · exact .inr ⟨b, o, rfl, fun i v hi => (hb.cell (p := ⟨b, o + i, none⟩) (hA ⟨b, o, none⟩ rfl)).trans (h i v hi)⟩
theorem Cs.keepB {w w' : World} {A : Option Addr} {vs : List Value} (h : Cs w A vs) (hk : ∀ ad, A = some ad → vs ≠ [] → w'.heap[ad.block]? = w.heap[ad.block]?) : Cs w' A vs := by
  by_cases hv : vs = []
  · exact .inl hv
  · rcases h with h | ⟨b, o, rfl, h⟩
    · exact .inl h
    · refine .inr ⟨b, o, rfl, fun i v hi => ?_⟩
      have h1 := hk _ rfl hv
      have h2 := h i v hi
      unfold World.cell? at h2 ⊢
      rw [h1]
      exact h2
theorem datas_len {es fs : List Sl} (h : datas es = datas fs) : es.length = fs.length := by
  have := congrArg List.length h
  simpa [datas] using this
theorem datas_get {es fs : List Sl} (h : datas es = datas fs) {k : Nat} (h1 : k < es.length) (h2 : k < fs.length) : es[k].2.2 = fs[k].2.2 := by
  have := congrArg (fun l => l[k]?) h
  simpa [datas, h1, h2] using this
theorem tot_datas {es fs : List Sl} (h : datas es = datas fs) : tot es = tot fs := by
  have e : ∀ l : List Sl, tot l = ((datas l).map List.length).sum := fun l => by simp [tot, datas, Function.comp_def]
  rw [e, e, h]
theorem len_datas {es fs : List Sl} {n : Nat} (h : datas es = datas fs) (hm : ∀ e, e ∈ fs → e.2.2.length ≤ n) : ∀ e, e ∈ es → e.2.2.length ≤ n := by
  intro e he
  have h1 : e.2.2 ∈ datas es := List.mem_map.2 ⟨e, he, rfl⟩
  rw [h] at h1
  obtain ⟨f, hf, hq⟩ := List.mem_map.1 h1
  rw [← hq]
  exact hm f hf
def ToPost (w : World) (es : List Sl) (e : Ending) (w' : World) : Prop :=
  ∃ A' c' fs, e = .returned (.slice A' es.length c') ∧ Hid (datas fs = datas es) ∧ Ls w' A' fs ∧ InB w.heap.size (w.heap.size + 1) A' ∧ Obs w' (w.heap.size + 1) w'.heap.size fs ∧ Below w.heap.size w w'
theorem eqLoad_same (A A' : Option Addr) (c c' : Nat) (xs : List UInt8) (w : World) (ha : By w A xs) (hb : By w A' xs) (h1 : xs.length ≤ 1099511627776) :
    Calls Tryz.prog 46 #[.agg #[.slice A xs.length c], .agg #[.slice A' xs.length c']] w fun e w' => e = .returned (.bool true) ∧ Below w.heap.size w w' := by
  go_enter Tryz.func46, Tryz.ntmps46
  go_wp2_with fail
  have hb0 : Below w.heap.size w ((w.alloc (.cells #[.slice A xs.length c] 74)).alloc (.cells #[.slice A' xs.length c'] 74)) := by (repeat (first | exact Below.refl _ _ | (refine Below.alloc ?_ (by first | omega | (simp; done) | (simp; omega)) _) | (refine Below.drew ?_) | (refine below_drewN ?_ _) | (refine below_at1 ?_ (by first | omega | (simp; done) | (simp; omega))) | (refine Below.setCell ?_ (by first | omega | (simp; done) | (simp; omega)) _) | (refine Below.trans ?_ (Below.mono (by assumption) (by first | omega | (simp; done) | (simp; omega))))))
  refine (eqByteS_same _ _ _ _ _ _ (ha.below hb0) (hb.below hb0) h1).mono ?_
  rintro e w1 ⟨rfl, m, rfl⟩
  go_wp2_with fail
  go_ret
  exact ⟨rfl, below_drewN hb0 _⟩
set_option maxHeartbeats 1000000 in
theorem eqLoadS_same (A A' : Option Addr) (c c' n : Nat) (es fs : List Sl) (w : World) (hn : es.length = n) (ha : Ls w A es) (hb : Ls w A' fs) (hd : Hid (datas fs = datas es)) (hl : n ≤ 1099511627776) (hm : ∀ e, e ∈ es → e.2.2.length ≤ 1099511627776) :
    Calls Tryz.prog 16 #[.slice A n c, .slice A' n c'] w fun e w' => e = .returned (.bool true) ∧ Below w.heap.size w w' := by
  subst hn
  go_enter Tryz.func16, Tryz.ntmps16
  go_wp2
  go_loopw [5] (fun i wr => ∃ k : Nat, k ≤ es.length ∧ i = .int .i64 k ∧ Below w.heap.size w wr) (fun i _ => es.length - (intOf i).toNat)
  case atStart => exact ⟨0, Nat.zero_le _, rfl, Below.refl _ _⟩
  case round =>
    obtain ⟨k, hk, rfl, hbw⟩ := hrel
    by_cases hlt : k < es.length
    · have hlt2 : k < fs.length := by rw [datas_len hd.out]; exact hlt
      obtain ⟨b, o, rfl, hx, hy⟩ := (ha.below hbw).get hlt
      obtain ⟨b', o', rfl, hx', hy'⟩ := (hb.below hbw).get hlt2
      have hlt' : (k : Int) < es.length := by omega
      have hme := hm _ (List.getElem_mem hlt)
      have hq := datas_get hd.out hlt2 hlt
      rw [slv, hq] at hx'
      rw [hq] at hy'
      have zb := hbw.size
      go_wp2_with fail
      go_region_held3 (fun w' => Below wr.heap.size wr w' ∧ w'.cell? ⟨b, o + k, none⟩ = some (slv es[k]) ∧ w'.cell? ⟨b', o' + k, none⟩ = some (.slice fs[k].1 es[k].2.2.length fs[k].2.1))
        (first | exact ⟨Below.drew (Below.refl _ _), by simpa using hx, by simpa using hx'⟩ | assumption | (refine ⟨?_, ?_, ?_⟩ <;> assumption))
        ((go_at_call 46; refine (eqLoad_same _ _ _ _ es[k].2.2 _ (By.below hy (Below.drew (Below.refl _ _))) (By.below hy' (Below.drew (Below.refl _ _))) hme).mono ?_; rintro e w3 ⟨rfl, hb3⟩; have hbw3 : Below wr.heap.size wr w3 := (Below.drew (Below.refl wr.heap.size wr)).trans hb3; have hkeep := And.intro hbw3 (And.intro ((hbw3.cell (World.block_lt_of_cell? wr _ hx)).trans hx) ((hbw3.cell (World.block_lt_of_cell? wr _ hx')).trans hx'))))
      clear hkeep
      go_wp2_with fail
      go_roundw
      case rel => exact ⟨k + 1, by omega, by go_num, hbw.trans (hbw3.mono zb)⟩
      case measure => simp [intOf]; omega
    · have hlt' : ¬ ((k : Int) < es.length) := by omega
      go_wp2
      go_ret
      exact ⟨rfl, hbw⟩
/-- Loads whose bytes are marked from k on. -/
def marked (k : Int) : List Sl → List Sl
  | [] => []
  | e :: r => (e.1, e.2.1, markL k e.2.2.length) :: marked (k + (e.2.2.length : Int)) r
theorem marked_map (es : List Sl) : ∀ k, (marked k es).map slv = es.map slv := by
  induction es with
  | nil => intro k; rfl
  | cons e r ih => intro k; simp only [marked, List.map_cons, ih, slv, markL_len]
theorem marked_snoc (e : Sl) (a : List Sl) : ∀ k, marked k (a ++ [e]) = marked k a ++ [(e.1, e.2.1, markL (k + (tot a : Int)) e.2.2.length)] := by
  induction a with
  | nil => intro k; simp [marked, tot]
  | cons x r ih =>
    intro k
    have h : k + (x.2.2.length : Int) + (tot r : Int) = k + (tot (x :: r) : Int) := by simp [tot]; omega
    simp only [List.cons_append, marked, ih, h]
theorem marked_len (es : List Sl) (k : Int) : (marked k es).length = es.length := by
  have := congrArg List.length (marked_map es k)
  simpa using this
theorem marked_get (es : List Sl) {j : Nat} (hj : j < es.length) : ∀ k, (marked k es)[j]? = some (es[j].1, es[j].2.1, markL (k + (tot (es.take j) : Int)) es[j].2.2.length) := by
  intro k
  have h1 : es = (es.take j ++ [es[j]]) ++ es.drop (j + 1) := by simp
  have h2 : ∀ (a b : List Sl) (k : Int), marked k (a ++ b) = marked k a ++ marked (k + (tot a : Int)) b := by
    intro a b
    induction a with
    | nil => intro k; simp [marked, tot]
    | cons x r ih =>
      intro k
      have h : k + (x.2.2.length : Int) + (tot r : Int) = k + (tot (x :: r) : Int) := by simp [tot]; omega
      simp only [List.cons_append, marked, ih, h]
  have h3 : marked k es = (marked k (es.take j) ++ [(es[j].1, es[j].2.1, markL (k + (tot (es.take j) : Int)) es[j].2.2.length)]) ++ marked (k + (tot (es.take j ++ [es[j]]) : Int)) (es.drop (j + 1)) := by
    conv => lhs; rw [h1]
    rw [h2, marked_snoc]
  rw [h3, List.getElem?_append_left (by simp [marked_len]; omega), List.getElem?_append_right (by simp [marked_len]; omega)]
  simp [marked_len, Nat.min_eq_left (Nat.le_of_lt hj)]
theorem Cs.lt_ {w : World} {A : Option Addr} {vs : List Value} (h : Cs w A vs) : ∀ ad, A = some ad → vs ≠ [] → ad.block < w.heap.size := by
  intro ad hA hne
  rcases h with h | ⟨b, o, hA', h⟩
  · exact absurd h hne
  · rw [hA] at hA'
    injection hA' with hA'
    subst hA'
    cases vs with
    | nil => exact absurd rfl hne
    | cons x vs => exact World.block_lt_of_cell? w _ (h 0 x rfl)
set_option maxHeartbeats 400000 in
theorem markLoadS_any (A : Option Addr) (c lo hi : Nat) (es : List Sl) (k : Int) (w : World) (hs : Cs w A (es.map slv)) (hA : ∀ e, e ∈ es → Dj e.1 A) (ho : Obs w lo hi es) (hlo : hi ≤ w.heap.size) (hk : 0 ≤ k) (hk2 : k + tot es ≤ 1099511627776) (hl : es.length ≤ 1099511627776) :
    Calls Tryz.prog 17 #[.slice A es.length c, .int .i64 k] w fun e w' => e = .returned (.int .i64 (k + tot es)) ∧ Obs w' lo hi (marked k es) ∧ Cs w' A (es.map slv) ∧ Kp lo hi w w' := by
  go_enter Tryz.func17, Tryz.ntmps17
  go_wp2
  go_loopw [1, 5] (fun kk i wr => ∃ j : Nat, j ≤ es.length ∧ i = .int .i64 j ∧ kk = .int .i64 (k + tot (es.take j)) ∧ Obs wr lo hi (marked k (es.take j) ++ es.drop j) ∧ Cs wr A (es.map slv) ∧ Kp lo hi w wr) (fun _ i _ => es.length - (intOf i).toNat)
  case atStart => exact ⟨0, Nat.zero_le _, rfl, by simp [tot], by simpa [marked] using ho, hs, Kp.refl _ _ _⟩
  case round =>
    obtain ⟨j, hj, rfl, rfl, hob, hcs, hkp⟩ := hrel
    have zz := hkp.1.size
    by_cases hlt : j < es.length
    · have hlt' : (j : Int) < es.length := by omega
      have hcell : ∃ b o, A = some ⟨b, o, none⟩ ∧ wr.cell? ⟨b, o + j, none⟩ = some (slv es[j]) := by
        rcases hcs with h | ⟨b, o, hA, h⟩
        · have h2 : es.length = 0 := by have := congrArg List.length h; rwa [List.length_map] at this
          omega
        · exact ⟨b, o, hA, h j _ (by simp [hlt])⟩
      obtain ⟨b, o, rfl, hx⟩ := hcell
      have hg := tot_get hlt
      have hsu := tot_succ hlt
      rw [List.drop_eq_getElem_cons hlt] at hob
      obtain ⟨m, m', h1, h2, h3, h4, h5, h6, h7⟩ := hob.split
      go_wp2_with (go_at_call 12; refine (markByteS_any _ _ m _ _ _ h5 (by omega) (by omega) (by omega)).mono ?_; rintro e w2 ⟨rfl, ho2, hg2⟩)
      have hk3 : Kp m m' wr w2 := Kp.of_grown hg2 h6 (by have := hkp.1.size; have := h7.le; omega)
      have hcs2 : Cs w2 (some ⟨b, o, none⟩) (es.map slv) := by
        refine hcs.keepB fun ad had hv => hg2.block _ (hcs.lt_ ad had hv) ?_
        intro he
        have hdj := hA _ (List.getElem_mem hlt)
        cases hq : es[j].1 with
        | none => rw [hq] at he; simp [Value.ownBlock] at he
        | some a =>
          rw [hq] at he
          simp [Value.ownBlock] at he
          exact hdj a ad hq had he.symm
      go_roundw
      case rel =>
        refine ⟨j + 1, by omega, by go_num, by rw [hsu]; go_num, ?_, hcs2, hkp.trans (hk3.wide h1 h3)⟩
        rw [take_succ_get (List.getElem?_eq_getElem hlt), marked_snoc, List.append_assoc, List.singleton_append]
        exact Obs.join (e := (es[j].1, es[j].2.1, markL (k + (tot (es.take j) : Int)) es[j].2.2.length)) h2 ho2 h6 (hk3.obs h7 (Nat.le_refl _) (by omega)) (h4.below hk3.1 (Nat.le_refl _))
      case measure => simp [intOf]; omega
    · have hlt' : ¬ ((j : Int) < es.length) := by omega
      have hk' : j = es.length := by omega
      rw [hk', List.take_length, List.drop_length, List.append_nil] at hob
      have ht : es.take j = es := by rw [hk']; exact List.take_length
      rw [ht]
      clear hk' ht
      go_wp2
      go_ret
      exact ⟨rfl, hob, hcs, hkp⟩
theorem heldLoadS_any (A : Option Addr) (c : Nat) (es : List Sl) (k : Int) (w : World) (ha : Ls w A (marked k es)) (hk : 0 ≤ k) (hk2 : k + tot es ≤ 1099511627776) (hl : es.length ≤ 1099511627776) :
    Calls Tryz.prog 18 #[.slice A es.length c, .int .i64 k] w fun e w' => e = .returned (.int .i64 (k + tot es)) ∧ ∃ m, w.drewN m = w' := by
  go_enter Tryz.func18, Tryz.ntmps18
  go_wp2
  go_loopw [1, 5] (fun kk i wr => ∃ j m : Nat, j ≤ es.length ∧ i = .int .i64 j ∧ kk = .int .i64 (k + tot (es.take j)) ∧ wr = w.drewN m) (fun _ i _ => es.length - (intOf i).toNat)
  case atStart => exact ⟨0, 0, Nat.zero_le _, rfl, by simp [tot], rfl⟩
  case round =>
    obtain ⟨j, m, hj, rfl, rfl, rfl⟩ := hrel
    by_cases hlt : j < es.length
    · have hlt' : (j : Int) < es.length := by omega
      obtain ⟨b, o, rfl, hx, hy⟩ := ha.get (k := j) (by rw [marked_len]; exact hlt)
      have hmg := marked_get es hlt k
      rw [List.getElem?_eq_getElem (by rw [marked_len]; exact hlt)] at hmg
      injection hmg with hmg
      rw [hmg] at hx hy
      rw [slv, markL_len] at hx
      have hg := tot_get hlt
      have hsu := tot_succ hlt
      have hneg : ¬ k + tot (es.take j) + es[j].2.2.length < 0 := by omega
      clear hmg
      go_wp2_with (go_at_call 13; refine (heldByteS_any _ _ _ _ _ (hy.drewN _) (by omega) (by omega) (by omega)).mono ?_; rintro e w2 ⟨rfl, rfl⟩)
      go_roundw
      case rel => exact ⟨j + 1, _, by omega, by go_num, by rw [hsu]; go_num, rfl⟩
      case measure => simp [intOf]; omega
    · have hlt' : ¬ ((j : Int) < es.length) := by omega
      have hk' : j = es.length := by omega
      have ht : es.take j = es := by rw [hk']; exact List.take_length
      rw [ht]
      clear hk' ht
      go_wp2
      go_ret
      exact ⟨rfl, _, rfl⟩
end Go.Proofs.YtpaeffmjkkikbaaGreatDoor
