/- Journals written: both ways. The law of JournalBytes. Journals read: both ways. -/
import Derived.Test.YtpaeffmjkkikbaaGreatDoorPg
import Derived.Test.YtpaeffmjkkikbaaGreatDoorPf
namespace Go.Proofs.YtpaeffmjkkikbaaGreatDoor
open Go.RowKit

set_option linter.unusedVariables false
set_option maxRecDepth 100000

def frGood (n : Int) (d : List UInt8) : Prop := (1 ≤ n ∧ n ≤ 1000000000) ∧ d.length ≤ 60000
instance (n : Int) (d : List UInt8) : Decidable (frGood n d) := by unfold frGood; exact inferInstance
theorem frameR_yes {n : Int} {d : List UInt8} (h : frGood n d) : frameR n d = (frameB n d, true) := if_pos h
theorem frameR_no {n : Int} {d : List UInt8} (h : ¬ frGood n d) : frameR n d = ([], false) := if_neg h
theorem frameB_len {n : Int} {d : List UInt8} (h : frGood n d) : (frameB n d).length ≤ d.length + 16 := by
  have := frameR_len n d
  rwa [frameR_yes h] at this
/-- The frames of a journal, one after the other. -/
def jF : Int → List (List UInt8) → List UInt8
  | _, [] => []
  | s, d :: r => frameB s d ++ jF (s + 1) r
def jOk : Int → List (List UInt8) → Bool
  | _, [] => true
  | s, d :: r => decide (frGood s d) && jOk (s + 1) r
def jR (s : Int) (l : List (List UInt8)) : List UInt8 × Bool := if jOk s l = true then (jF s l, true) else ([], false)
theorem jF_snoc (d : List UInt8) (a : List (List UInt8)) : ∀ s, jF s (a ++ [d]) = jF s a ++ frameB (s + (a.length : Int)) d := by
  induction a with
  | nil => intro s; simp [jF]
  | cons x r ih =>
    intro s
    have h : s + 1 + (r.length : Int) = s + ((x :: r).length : Int) := by simp; omega
    simp only [List.cons_append, jF, ih, h, List.append_assoc]
theorem jOk_append (b a : List (List UInt8)) : ∀ s, jOk s (a ++ b) = (jOk s a && jOk (s + (a.length : Int)) b) := by
  induction a with
  | nil => intro s; simp [jOk]
  | cons x r ih =>
    intro s
    have h : s + 1 + (r.length : Int) = s + ((x :: r).length : Int) := by simp; omega
    simp only [List.cons_append, jOk, ih, h, Bool.and_assoc]
theorem jOk_bd {a : List (List UInt8)} {s : Int} (h : jOk s a = true) : a = [] ∨ (1 ≤ s ∧ s + (a.length : Int) - 1 ≤ 1000000000) := by
  rcases List.eq_nil_or_concat a with rfl | ⟨l, d, rfl⟩
  · exact .inl rfl
  · right
    rw [List.concat_eq_append, jOk_append] at h
    have h1 : jOk (s + (l.length : Int)) [d] = true := by simp at h; exact h.2
    have h2 : frGood (s + (l.length : Int)) d := by simp [jOk] at h1; exact h1
    obtain ⟨⟨h3, h4⟩, _⟩ := h2
    refine ⟨?_, by simp; omega⟩
    cases l with
    | nil => simpa using h3
    | cons x r =>
      have h5 : frGood s x := by
        simp [jOk] at h
        exact h.1.1
      exact h5.1.1
def JSt (seq : Int) (es : List Sl) (k : Nat) (us : List UInt8) : Prop := us = jF seq (datas (es.take k)) ∧ jOk seq (datas (es.take k)) = true ∧ us.length ≤ tot (es.take k) + 16 * k
theorem datas_succ {es : List Sl} {k : Nat} (hk : k < es.length) : datas (es.take (k + 1)) = datas (es.take k) ++ [es[k].2.2] := by
  rw [take_succ_get (List.getElem?_eq_getElem hk)]
  simp only [datas, List.map_append, List.map_cons, List.map_nil]
theorem datas_take_len {es : List Sl} {k : Nat} (hk : k ≤ es.length) : (datas (es.take k)).length = k := by simp [datas]; omega
theorem JSt.start (seq : Int) (es : List Sl) : Hid (JSt seq es 0 []) := ⟨by simp [datas, jF], by simp [datas, jOk], by simp⟩
theorem JSt.step {seq : Int} {es : List Sl} {k : Nat} {us vs : List UInt8} (h : Hid (JSt seq es k us)) (hk : k < es.length) (hg : frGood (seq + k) es[k].2.2) (hv : vs = us ++ frameB (seq + k) es[k].2.2) : Hid (JSt seq es (k + 1) vs) := by
  obtain ⟨h1, h2, h3⟩ := h.out
  have hl := datas_take_len (Nat.le_of_lt hk)
  refine ⟨?_, ?_, ?_⟩
  · rw [hv, h1, datas_succ hk, jF_snoc, hl]
  · rw [datas_succ hk, jOk_append, h2, hl]
    simp [jOk, hg]
  · have := frameB_len hg
    rw [hv, tot_succ hk]
    simp
    omega
theorem JSt.bad {seq : Int} {es : List Sl} {k : Nat} {us : List UInt8} (h : Hid (JSt seq es k us)) (hk : k < es.length) (hg : ¬ frGood (seq + k) es[k].2.2) : jR seq (datas es) = ([], false) := by
  have e : datas es = datas (es.take k) ++ es[k].2.2 :: datas (es.drop (k + 1)) := by
    conv => lhs; rw [← List.take_append_drop k es, List.drop_eq_getElem_cons hk]
    simp only [datas, List.map_append, List.map_cons]
  rw [jR, if_neg]
  rw [e, jOk_append, datas_take_len (Nat.le_of_lt hk)]
  simp [jOk, hg]
theorem JSt.done {seq : Int} {es : List Sl} {us : List UInt8} (h : Hid (JSt seq es es.length us)) : jR seq (datas es) = (us, true) := by
  obtain ⟨h1, h2, h3⟩ := h.out
  rw [List.take_length] at h1 h2
  rw [jR, if_pos h2, h1]
theorem JSt.bd {seq : Int} {es : List Sl} {k : Nat} {us : List UInt8} (h : Hid (JSt seq es k us)) (hk : k ≤ es.length) : k = 0 ∨ (1 ≤ seq ∧ seq + k ≤ 1000000001) := by
  rcases jOk_bd h.out.2.1 with h1 | h1
  · have := congrArg List.length h1
    rw [datas_take_len hk] at this
    exact .inl this
  · rw [datas_take_len hk] at h1
    exact .inr ⟨h1.1, by omega⟩
theorem JSt.len {seq : Int} {es : List Sl} {k : Nat} {us : List UInt8} (h : Hid (JSt seq es k us)) : us.length ≤ tot (es.take k) + 16 * k := h.out.2.2
theorem jR_len {seq : Int} {es : List Sl} : (jR seq (datas es)).1.length ≤ tot es + 16 * es.length := by
  have key : ∀ (l : List (List UInt8)) (s : Int), jOk s l = true → (jF s l).length ≤ (l.map List.length).sum + 16 * l.length := by
    intro l
    induction l with
    | nil => intro s _; simp [jF]
    | cons d r ih =>
      intro s h
      simp only [jOk, Bool.and_eq_true, decide_eq_true_eq] at h
      have h1 := frameB_len h.1
      have h2 := ih _ h.2
      simp [jF]
      omega
  rw [jR]
  split
  · rename_i h
    have := key _ _ h
    simpa [datas, tot, Function.comp_def] using this
  · simp
theorem put_noB {w w' : World} {r : List UInt8 × Bool} (hr : r = ([], false)) (hb : Below w.heap.size w w') : PutPost w r (.returned (.tuple #[.slice none 0 0, .bool false])) w' := by
  subst hr
  exact ⟨none, 0, [], false, rfl, rfl, rfl, ownsG_nil _ _ _ _, hb⟩
theorem put_yes {w w' : World} {r : List UInt8 × Bool} {A : Option Addr} {c : Nat} {us : List UInt8} (hr : r = (us, true)) (ho : Ob w' w.heap.size A c us) (hb : Below w.heap.size w w') : PutPost w r (.returned (.tuple #[.slice A us.length c, .bool true])) w' := by
  subst hr
  exact ⟨A, c, us, true, rfl, rfl, rfl, ho, hb⟩
set_option linter.unusedVariables false
set_option maxRecDepth 100000

theorem Ls.lt_ {w : World} {A : Option Addr} {es : List Sl} (h : Ls w A es) : ∀ e, e ∈ es → ∀ ad, e.1 = some ad → e.2.2 ≠ [] → ad.block < w.heap.size := fun e he => (h.2 e he).lt_
theorem By.belowB {w w' : World} {B' : Nat} {A : Option Addr} {bs : List UInt8} (h : By w A bs) (hb : Below B' w w') (hA : ∀ ad, A = some ad → bs ≠ [] → ad.block < B') : By w' A bs := by
  by_cases hn : bs = []
  · exact .inl hn
  · rcases h with h | ⟨b, o, rfl, h⟩
    · exact .inl h
    · exact .inr ⟨b, o, rfl, fun i x hi => (hb.cell (p := ⟨b, o + i, none⟩) (hA ⟨b, o, none⟩ rfl hn)).trans (h i x hi)⟩
theorem Cs.belowB {w w' : World} {B' : Nat} {A : Option Addr} {bs : List Value} (h : Cs w A bs) (hb : Below B' w w') (hA : ∀ ad, A = some ad → bs ≠ [] → ad.block < B') : Cs w' A bs := by
  by_cases hn : bs = []
  · exact .inl hn
  · rcases h with h | ⟨b, o, rfl, h⟩
    · exact .inl h
    · exact .inr ⟨b, o, rfl, fun i x hi => (hb.cell (p := ⟨b, o + i, none⟩) (hA ⟨b, o, none⟩ rfl hn)).trans (h i x hi)⟩
/-- Loads that were there at w stay readable in what changes nothing that was there at w. -/
theorem Ls.belowB {w w1 w2 : World} {B' : Nat} {A : Option Addr} {es : List Sl} (h0 : Ls w A es) (h : Ls w1 A es) (hb : Below B' w1 w2) (hB : w.heap.size ≤ B') : Ls w2 A es := by
  refine ⟨h.1.belowB hb fun ad ha hn => Nat.lt_of_lt_of_le (h0.1.lt_ ad ha hn) hB, fun e he => (h.2 e he).belowB hb fun ad ha hn => Nat.lt_of_lt_of_le (h0.lt_ e he ad ha hn) hB⟩
theorem InB.mono_ {lo hi lo' hi' : Nat} {A : Option Addr} (h : InB lo hi A) (h1 : lo' ≤ lo) (h2 : hi ≤ hi') : InB lo' hi' A := fun ad ha => ⟨Nat.le_trans h1 (h ad ha).1, Nat.lt_of_lt_of_le (h ad ha).2 h2⟩
theorem markLoadS_N (A : Option Addr) (c n lo hi : Nat) (fs es : List Sl) (k : Int) (w : World) (hn : n = es.length) (hd : Hid (datas fs = datas es)) (hs : Cs w A (fs.map slv)) (hA : ∀ e, e ∈ fs → Dj e.1 A) (ho : Obs w lo hi fs) (hlo : hi ≤ w.heap.size) (hk : 0 ≤ k) (hk2 : k + tot es ≤ 1099511627776) (hl : es.length ≤ 1099511627776) :
    Calls Tryz.prog 17 #[.slice A n c, .int .i64 k] w fun e w' => e = .returned (.int .i64 (k + tot es)) ∧ Obs w' lo hi (marked k fs) ∧ Cs w' A (fs.map slv) ∧ Kp lo hi w w' := by
  subst hn
  have h1 := datas_len hd.out
  have h2 := tot_datas hd.out
  rw [← h1, ← h2]
  exact markLoadS_any _ _ _ _ _ _ _ hs hA ho hlo hk (by omega) (by omega)
set_option linter.unusedVariables false
set_option maxRecDepth 100000

theorem frR_ok {xs : List UInt8} {z n p : Int} {us : List UInt8} (h : frR xs z = (n, us, p, 0)) : 0 ≤ z ∧ z < p ∧ p ≤ xs.length ∧ (1 ≤ n ∧ n ≤ 1000000000) ∧ us.length + z ≤ p := by
  by_cases hz : z < 0 ∨ (xs.length : Int) < z
  · rw [frR_out hz] at h; simp at h
  · obtain ⟨k, rfl⟩ := Int.eq_ofNat_of_zero_le (show 0 ≤ z by omega)
    by_cases hmk : xs[k]? = some 167
    · by_cases hall : (gvAt xs (k + 1)).2.2 = true ∧ (gvAt xs (gvAt xs (k + 1)).2.1).2.2 = true ∧ (gvAt xs (gvAt xs (gvAt xs (k + 1)).2.1).2.1).2.2 = true
      · obtain ⟨t1, t2, t3⟩ := hall
        obtain ⟨n, p, g1, n1, b1, o1, _, v1⟩ := gvAt_tt t1
        rw [g1] at t2 t3
        dsimp only at t2 t3
        obtain ⟨s, q, g2, n2, b2, o2, _, v2⟩ := gvAt_tt t2
        rw [g2] at t3
        dsimp only at t3
        obtain ⟨m, r, g3, n3, b3, o3, _, v3⟩ := gvAt_tt t3
        rw [frR_yes hmk g1 g2 g3] at h
        by_cases h4 : ¬ (1 ≤ n ∧ n ≤ 1000000000) ∨ 60000 < s
        · rw [frT_4 h4] at h; simp at h
        by_cases h5 : xs.length < r + s
        · rw [frT_5 h4 h5] at h; simp at h
        by_cases h6 : crcN ((xs.drop k).take (q - k) ++ (xs.drop r).take s) = m
        · rw [frT_0 h4 h5 h6] at h
          simp only [Prod.mk.injEq] at h
          obtain ⟨rfl, rfl, rfl, _⟩ := h
          exact ⟨by omega, by omega, by omega, ⟨by omega, by omega⟩, by simp; omega⟩
        · rw [frT_6 h4 h5 h6] at h; simp at h
      · rw [frR_no2 hmk hall] at h; simp at h
    · rw [frR_mark (by omega) hmk] at h; simp at h
/-- The loads from an offset on, and where they end. -/
def jrR (xs : List UInt8) : Nat → Int → Int → List (List UInt8) × Int
  | 0, _, z => ([], z)
  | f + 1, s, z => if (frR xs z).2.2.2 = 0 ∧ (frR xs z).1 = s then ((frR xs z).2.1 :: (jrR xs f (s + 1) (frR xs z).2.2.1).1, (jrR xs f (s + 1) (frR xs z).2.2.1).2) else ([], z)
theorem jrR_no {xs : List UInt8} {f : Nat} {s z n p k : Int} {us : List UInt8} (h : frR xs z = (n, us, p, k)) (hn : ¬ (k = 0 ∧ n = s)) : jrR xs (f + 1) s z = ([], z) := by
  rw [jrR, h, if_neg hn]
theorem jrR_yes {xs : List UInt8} {f : Nat} {s z p : Int} {us : List UInt8} (h : frR xs z = (s, us, p, 0)) : jrR xs (f + 1) s z = (us :: (jrR xs f (s + 1) p).1, (jrR xs f (s + 1) p).2) := by
  rw [jrR, h, if_pos ⟨rfl, rfl⟩]
/-- What has been read so far. -/
def JrSt (xs : List UInt8) (seq : Int) (fs : List Sl) (z : Int) : Prop :=
  jrR xs (xs.length + 1) seq 0 = (datas fs ++ (jrR xs (xs.length + 1 - fs.length) (seq + fs.length) z).1, (jrR xs (xs.length + 1 - fs.length) (seq + fs.length) z).2) ∧
  (fs.length = 0 ∨ (1 ≤ seq ∧ seq + fs.length ≤ 1000000001)) ∧ 0 ≤ z ∧ z ≤ xs.length ∧ (fs.length : Int) ≤ z ∧ (tot fs : Int) ≤ z
theorem JrSt.start (xs : List UInt8) (seq : Int) : Hid (JrSt xs seq [] 0) := ⟨by simp [datas], .inl rfl, by omega, by omega, by simp, by simp [tot]⟩
theorem JrSt.step {xs : List UInt8} {seq z n p : Int} {us : List UInt8} {fs : List Sl} {A : Option Addr} {c : Nat} (h : Hid (JrSt xs seq fs z)) (hf : frR xs z = (n, us, p, 0)) (hn : n = seq + fs.length) : Hid (JrSt xs seq (fs ++ [(A, c, us)]) p) := by
  obtain ⟨h1, h2, h3, h4, h5, h6⟩ := h.out
  obtain ⟨f1, f2, f3, f4, f5⟩ := frR_ok hf
  have hl : (fs ++ [(A, c, us)]).length = fs.length + 1 := by simp
  have hd : datas (fs ++ [(A, c, us)]) = datas fs ++ [us] := by simp [datas]
  have ht : tot (fs ++ [(A, c, us)]) = tot fs + us.length := by simp [tot]
  subst hn
  refine ⟨?_, .inr ⟨?_, ?_⟩, by omega, by omega, by rw [hl]; omega, by rw [ht]; omega⟩
  · rw [h1, hl, hd]
    have e1 : xs.length + 1 - fs.length = (xs.length + 1 - (fs.length + 1)) + 1 := by omega
    have e2 : seq + ((fs.length + 1 : Nat) : Int) = seq + fs.length + 1 := by omega
    rw [e1, jrR_yes hf, e2]
    simp
  · rcases h2 with h2 | h2
    · rw [h2] at f4; simp at f4; omega
    · omega
  · rw [hl]
    omega
theorem JrSt.stop {xs : List UInt8} {seq z n p k : Int} {us : List UInt8} {fs : List Sl} (h : Hid (JrSt xs seq fs z)) (hf : frR xs z = (n, us, p, k)) (hn : ¬ (k = 0 ∧ n = seq + fs.length)) : Hid (jrR xs (xs.length + 1) seq 0 = (datas fs, z)) := by
  obtain ⟨h1, h2, h3, h4, h5⟩ := h.out
  have e1 : xs.length + 1 - fs.length = (xs.length - fs.length) + 1 := by omega
  rw [e1, jrR_no hf hn] at h1
  show _ = _
  rw [h1]
  simp
theorem ob_oc {w : World} {lo c : Nat} {A : Option Addr} {bs : List UInt8} : Ob w lo A c bs = Oc 5 w lo A c (bs.map B) := by
  unfold Ob Oc
  rw [List.length_map]
theorem Obs.keepD {w w' : World} {A A' : Option Addr} {es : List Sl} (hk : ∀ (E2 : TypeId) (lo2 : Nat) (A2 : Option Addr) (c2 : Nat) (vs2 : List Value), Oc E2 w lo2 A2 c2 vs2 → Dj A2 A → Oc E2 w' lo2 A2 c2 vs2 ∧ Dj A2 A') : ∀ {lo hi : Nat}, Obs w lo hi es → (∀ e, e ∈ es → Dj e.1 A) → Obs w' lo hi es ∧ ∀ e, e ∈ es → Dj e.1 A' := by
  induction es with
  | nil => exact fun h _ => ⟨h, fun e he => by simp at he⟩
  | cons x r ih =>
    rintro lo hi ⟨m, h1, h2, h3, h4⟩ hd
    obtain ⟨h5, h6⟩ := ih h4 (fun e he => hd e (List.mem_cons_of_mem _ he))
    rw [ob_oc] at h2
    obtain ⟨h7, h8⟩ := hk _ _ _ _ _ h2 (hd x (List.mem_cons_self ..))
    refine ⟨⟨m, h1, by rw [ob_oc]; exact h7, h3, h5⟩, fun e he => ?_⟩
    rcases List.mem_cons.1 he with rfl | he
    · exact h8
    · exact h6 e he
/-- A list of loads in blocks of its own. -/
def Own (w : World) (lo hi : Nat) (A : Option Addr) (fs : List Sl) : Prop := Cs w A (fs.map slv) ∧ InB lo hi A ∧ Obs w lo hi fs
theorem Own.below {w w' : World} {lo hi B' : Nat} {A : Option Addr} {fs : List Sl} (h : Own w lo hi A fs) (hb : Below B' w w') (hB : hi ≤ B') : Own w' lo hi A fs :=
  ⟨h.1.keep hb fun ad ha => Nat.lt_of_lt_of_le (h.2.1 ad ha).2 hB, h.2.1, h.2.2.below hb hB⟩
theorem Own.kp {w w' : World} {lo hi lo' hi' : Nat} {A : Option Addr} {fs : List Sl} (h : Own w lo hi A fs) (hk : Kp lo' hi' w w') (h1 : hi' ≤ lo) (h2 : hi ≤ w.heap.size) : Own w' lo hi A fs :=
  ⟨h.1.keepB fun ad ha _ => hk.2 _ (by have := (h.2.1 ad ha).1; omega) (by have := (h.2.1 ad ha).2; omega), h.2.1, hk.obs h.2.2 h1 h2⟩
theorem Own.ls {w : World} {lo hi : Nat} {A : Option Addr} {fs : List Sl} (h : Own w lo hi A fs) : Ls w A fs := ⟨h.1, h.2.2.by_⟩
theorem Own.drewN {w : World} {lo hi : Nat} {A : Option Addr} {fs : List Sl} (h : Own w lo hi A fs) (m : Nat) : Own (w.drewN m) lo hi A fs := ⟨h.1, h.2.1, h.2.2.keep fun _ _ _ => rfl⟩
/-- What reading a journal hands back. -/
def JrPost (w : World) (N : Nat) (r : List (List UInt8) × Int) (e : Ending) (w' : World) : Prop :=
  ∃ A' c' n fs q, Hid (r = (datas fs, q)) ∧ fs.length = n ∧ n ≤ N ∧ tot fs ≤ N ∧ e = .returned (.tuple #[.slice A' n c', .int .i64 q]) ∧ (∀ e, e ∈ fs → Dj e.1 A') ∧ Own w' w.heap.size w'.heap.size A' fs ∧ Below w.heap.size w w'
theorem Oc.inB {E : TypeId} {w : World} {lo c : Nat} {A : Option Addr} {vs : List Value} (h : Oc E w lo A c vs) : InB lo w.heap.size A := by
  rintro ad rfl
  exact ownsG.lt h ad.block rfl
set_option maxHeartbeats 4000000 in
theorem journalRead_impl (A : Option Addr) (c : Nat) (xs : List UInt8) (seq : Int) (w : World) (ha : By w A xs) (hc : xs.length ≤ c) (h1 : xs.length ≤ 1048576) (hs1 : -9223372036854775808 ≤ seq) (hs2 : seq ≤ 9223372036854775807) :
    Calls Tryz.prog 45 #[.slice A xs.length c, .int .i64 seq] w (JrPost w xs.length (jrR xs (xs.length + 1) seq 0)) := by
  go_enter Tryz.func45, Tryz.ntmps45
  go_wp2_with fail
  go_loopw [6, 7] (fun ov zv wr => ∃ (fs : List Sl) (n : Nat) (A1 : Option Addr) (c1 : Nat) (z : Int), fs.length = n ∧ ov = .slice A1 n c1 ∧ zv = .int .i64 z ∧ Hid (JrSt xs seq fs z) ∧ Oc 74 wr w.heap.size A1 c1 (fs.map slv) ∧ (∀ e, e ∈ fs → Dj e.1 A1) ∧ Obs wr w.heap.size wr.heap.size fs ∧ Below w.heap.size w wr) (fun _ zv _ => xs.length + 1 - (intOf zv).toNat)
  case atStart => exact ⟨[], 0, _, _, 0, rfl, rfl, rfl, JrSt.start _ _, Oc.empty, fun e he => by simp at he, by simp [Obs], (Below.refl _ _).alloc (Nat.le_refl _) _⟩
  case round =>
    obtain ⟨fs, n, A1, c1, z, hn, rfl, rfl, hj, ho, hdj, hob, hb⟩ := hrel
    have zb := hb.size
    obtain ⟨_, hbd, hz1, hz2, hz3, hz4⟩ := hj.out
    rw [hn] at hbd hz3
    have hq1 : -9223372036854775808 ≤ seq + n := by omega
    have hq2 : seq + n ≤ 9223372036854775807 := by omega
    go_wp2_with fail
    refine (frameRead_impl _ _ _ _ _ (ha.below hb) hc (by omega)).mono ?_
    rintro e w2 ⟨m, A2, c2, us, p, k, hr, rfl, ho2, hb2⟩
    have z2 := hb2.size
    by_cases hk : k = 0
    · subst hk
      obtain ⟨f1, f2, f3, f4, f5⟩ := frR_ok hr.out
      have hk0 : ((0 : Int) != 0) = false := by decide
      by_cases hm : m = seq + n
      · have hq : (m != seq + n) = false := by simp [hm]
        have HJ := fun (A : Option Addr) (c : Nat) => JrSt.step (A := A) (c := c) hj hr.out (by rw [hn]; exact hm)
        have hq3 : seq + n + 1 ≤ 9223372036854775807 := by omega
        clear hj hm
        go_wp2_with (at_builtin; refine wp_app1C 42 74 (.agg #[.slice none 0 0]) 24 Tryz.underlying42 info_load (by omega) rfl rfl _ _ rfl w.heap.size A1 c1 (fs.map slv) _ _ (slv (A2, c2, us)) rfl (ho.below hb2 (Nat.le_refl _)) (by simp [hn]) rfl rfl (by simp; omega) (by omega) ?_; intro A3 c3 w3 vs hvs ho3 hb3 hkp3)
        have z3 := hb3.size
        have hob2 := (hob.below hb2 (Nat.le_refl _)).snoc ho2 ho2.inB z2
        have hdj2 : ∀ e, e ∈ fs ++ [(A2, c2, us)] → Dj e.1 A1 := by
          intro e he
          rcases List.mem_append.1 he with he | he
          · exact hdj e he
          · rw [List.mem_singleton] at he
            subst he
            intro a a' h1 h2 h3
            have := ho2.inB a h1
            have := ho.inB a' h2
            omega
        obtain ⟨hob3, hdj3⟩ := hob2.keepD hkp3 hdj2
        have hv : vs = (fs ++ [(A2, c2, us)]).map slv := by rw [hvs.out, List.map_append]; rfl
        have hvl : vs.length = n + 1 := by rw [hv]; simp [hn]
        rw [hv] at ho3
        go_roundw
        case rel => exact ⟨fs ++ [(A2, c2, us)], n + 1, A3, c3, p, by simp [hn], by rw [hvl], rfl, HJ A2 c2, ho3, hdj3, hob3.widen z3, (hb.trans (hb2.mono zb)).trans hb3⟩
        case measure => simp [intOf]; omega
      · have hq : (m != seq + n) = true := by simp; omega
        have HJ := JrSt.stop hj hr.out (by rw [hn]; exact fun h => hm h.2)
        clear hj hm
        go_wp2_with fail
        go_ret2
        exact ⟨A1, c1, n, fs, z, HJ, hn, by omega, by omega, rfl, hdj, ⟨(ho.below hb2 (Nat.le_refl _)).cs, ho.inB.mono_ (Nat.le_refl _) z2, (hob.below hb2 (Nat.le_refl _)).widen z2⟩, hb.trans (hb2.mono zb)⟩
    · have hk0 : (k != 0) = true := by simp; omega
      have HJ := JrSt.stop hj hr.out (fun h => hk h.1)
      clear hj hk
      go_wp2_with fail
      go_ret2
      exact ⟨A1, c1, n, fs, z, HJ, hn, by omega, by omega, rfl, hdj, ⟨(ho.below hb2 (Nat.le_refl _)).cs, ho.inB.mono_ (Nat.le_refl _) z2, (hob.below hb2 (Nat.le_refl _)).widen z2⟩, hb.trans (hb2.mono zb)⟩
set_option maxHeartbeats 4000000 in
theorem journalRead_spec (A : Option Addr) (c : Nat) (xs : List UInt8) (seq : Int) (w : World) (ha : By w A xs) (hc : xs.length ≤ c) (h1 : xs.length ≤ 1048576) (hs1 : -9223372036854775808 ≤ seq) (hs2 : seq ≤ 9223372036854775807) :
    Calls Tryz.prog 42 #[.slice A xs.length c, .int .i64 seq] w (JrPost w xs.length (jrR xs (xs.length + 1) seq 0)) := by
  go_enter Tryz.func42, Tryz.ntmps42
  go_wp2_with fail
  go_loopw [1, 6, 7] (fun sv ov zv wr => ∃ (fs : List Sl) (n : Nat) (A1 : Option Addr) (c1 : Nat) (z : Int), fs.length = n ∧ sv = .int .i64 (seq + n) ∧ ov = .slice A1 n c1 ∧ zv = .int .i64 z ∧ Hid (JrSt xs seq fs z) ∧ Oc 74 wr w.heap.size A1 c1 (fs.map slv) ∧ (∀ e, e ∈ fs → Dj e.1 A1) ∧ Obs wr w.heap.size wr.heap.size fs ∧ Below w.heap.size w wr) (fun _ _ zv _ => xs.length + 1 - (intOf zv).toNat)
  case atStart => exact ⟨[], 0, _, _, 0, rfl, by simp, rfl, rfl, JrSt.start _ _, Oc.empty, fun e he => by simp at he, by simp [Obs], (Below.refl _ _).alloc (Nat.le_refl _) _⟩
  case round =>
    obtain ⟨fs, n, A1, c1, z, hn, rfl, rfl, rfl, hj, ho, hdj, hob, hb⟩ := hrel
    have zb := hb.size
    obtain ⟨_, hbd, hz1, hz2, hz3, hz4⟩ := hj.out
    rw [hn] at hbd hz3
    have hq1 : -9223372036854775808 ≤ seq + n := by omega
    have hq2 : seq + n ≤ 9223372036854775807 := by omega
    go_wp2_with fail
    refine (frameRead_spec _ _ _ _ _ (ha.below hb) hc (by omega)).mono ?_
    rintro e w2 ⟨m, A2, c2, us, p, k, hr, rfl, ho2, hb2⟩
    have z2 := hb2.size
    by_cases hk : k = 0
    · subst hk
      obtain ⟨f1, f2, f3, f4, f5⟩ := frR_ok hr.out
      have hk0 : ((0 : Int) != 0) = false := by decide
      by_cases hm : m = seq + n
      · have hq : (m != seq + n) = false := by simp [hm]
        have HJ := fun (A : Option Addr) (c : Nat) => JrSt.step (A := A) (c := c) hj hr.out (by rw [hn]; exact hm)
        have hq3 : seq + n + 1 ≤ 9223372036854775807 := by omega
        clear hj hm
        go_wp2_with (at_builtin; refine wp_app1C 42 74 (.agg #[.slice none 0 0]) 24 Tryz.underlying42 info_load (by omega) rfl rfl _ _ rfl w.heap.size A1 c1 (fs.map slv) _ _ (slv (A2, c2, us)) rfl (ho.below hb2 (Nat.le_refl _)) (by simp [hn]) rfl rfl (by simp; omega) (by omega) ?_; intro A3 c3 w3 vs hvs ho3 hb3 hkp3)
        have z3 := hb3.size
        have hob2 := (hob.below hb2 (Nat.le_refl _)).snoc ho2 ho2.inB z2
        have hdj2 : ∀ e, e ∈ fs ++ [(A2, c2, us)] → Dj e.1 A1 := by
          intro e he
          rcases List.mem_append.1 he with he | he
          · exact hdj e he
          · rw [List.mem_singleton] at he
            subst he
            intro a a' h1 h2 h3
            have := ho2.inB a h1
            have := ho.inB a' h2
            omega
        obtain ⟨hob3, hdj3⟩ := hob2.keepD hkp3 hdj2
        have hv : vs = (fs ++ [(A2, c2, us)]).map slv := by rw [hvs.out, List.map_append]; rfl
        have hvl : vs.length = n + 1 := by rw [hv]; simp [hn]
        rw [hv] at ho3
        go_roundw
        case rel => exact ⟨fs ++ [(A2, c2, us)], n + 1, A3, c3, p, by simp [hn], by go_num, by rw [hvl], rfl, HJ A2 c2, ho3, hdj3, hob3.widen z3, (hb.trans (hb2.mono zb)).trans hb3⟩
        case measure => simp [intOf]; omega
      · have hq : (m != seq + n) = true := by simp; omega
        have HJ := JrSt.stop hj hr.out (by rw [hn]; exact fun h => hm h.2)
        clear hj hm
        go_wp2_with fail
        go_ret2
        exact ⟨A1, c1, n, fs, z, HJ, hn, by omega, by omega, rfl, hdj, ⟨(ho.below hb2 (Nat.le_refl _)).cs, ho.inB.mono_ (Nat.le_refl _) z2, (hob.below hb2 (Nat.le_refl _)).widen z2⟩, hb.trans (hb2.mono zb)⟩
    · have hk0 : (k != 0) = true := by simp; omega
      have HJ := JrSt.stop hj hr.out (fun h => hk h.1)
      clear hj hk
      go_wp2_with fail
      go_ret2
      exact ⟨A1, c1, n, fs, z, HJ, hn, by omega, by omega, rfl, hdj, ⟨(ho.below hb2 (Nat.le_refl _)).cs, ho.inB.mono_ (Nat.le_refl _) z2, (hob.below hb2 (Nat.le_refl _)).widen z2⟩, hb.trans (hb2.mono zb)⟩
end Go.Proofs.YtpaeffmjkkikbaaGreatDoor
