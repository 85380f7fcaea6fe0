/- Journals read: both ways. -/
import Derived.Test.YtbaojeiinjjlcaaP29
import Derived.Test.YtbaojeiinjjlcaaP20
namespace Go.Proofs.Ytbaojeiinjjlcaa
open Go.RowKit
set_option linter.unusedVariables false
set_option maxRecDepth 100000

theorem frR_ok {xs : List UInt8} {z n p : Int} {us : List UInt8} (h : frR xs z = (n, us, p, 0)) : 0 ≤ z ∧ z < p ∧ p ≤ xs.length ∧ (1 ≤ n ∧ n ≤ 1000000000) ∧ us.length + z ≤ p := by
  by_cases hz : z < 0 ∨ (xs.length : Int) < z
  · rw [frR_out hz] at h; simp at h
  · obtain ⟨k, rfl⟩ := Int.eq_ofNat_of_zero_le (show 0 ≤ z by omega)
    by_cases hmk : xs[k]? = some 167
    · by_cases hall : (gvAt xs (k + 1)).2.2 = true ∧ (gvAt xs (gvAt xs (k + 1)).2.1).2.2 = true ∧ (gvAt xs (gvAt xs (gvAt xs (k + 1)).2.1).2.1).2.2 = true
      · obtain ⟨t1, t2, t3⟩ := hall
        obtain ⟨n, p, g1, n1, b1, o1, _, v1⟩ := gvAt_tt t1
        rw [g1] at t2 t3
        dsimp only at t2 t3
        obtain ⟨s, q, g2, n2, b2, o2, _, v2⟩ := gvAt_tt t2
        rw [g2] at t3
        dsimp only at t3
        obtain ⟨m, r, g3, n3, b3, o3, _, v3⟩ := gvAt_tt t3
        rw [frR_yes hmk g1 g2 g3] at h
        by_cases h4 : ¬ (1 ≤ n ∧ n ≤ 1000000000) ∨ 60000 < s
        · rw [frT_4 h4] at h; simp at h
        by_cases h5 : xs.length < r + s
        · rw [frT_5 h4 h5] at h; simp at h
        by_cases h6 : crcN ((xs.drop k).take (q - k) ++ (xs.drop r).take s) = m
        · rw [frT_0 h4 h5 h6] at h
          simp only [Prod.mk.injEq] at h
          obtain ⟨rfl, rfl, rfl, _⟩ := h
          exact ⟨by omega, by omega, by omega, ⟨by omega, by omega⟩, by simp; omega⟩
        · rw [frT_6 h4 h5 h6] at h; simp at h
      · rw [frR_no2 hmk hall] at h; simp at h
    · rw [frR_mark (by omega) hmk] at h; simp at h
/-- The loads from an offset on, and where they end. -/
def jrR (xs : List UInt8) : Nat → Int → Int → List (List UInt8) × Int
  | 0, _, z => ([], z)
  | f + 1, s, z => if (frR xs z).2.2.2 = 0 ∧ (frR xs z).1 = s then ((frR xs z).2.1 :: (jrR xs f (s + 1) (frR xs z).2.2.1).1, (jrR xs f (s + 1) (frR xs z).2.2.1).2) else ([], z)
theorem jrR_no {xs : List UInt8} {f : Nat} {s z n p k : Int} {us : List UInt8} (h : frR xs z = (n, us, p, k)) (hn : ¬ (k = 0 ∧ n = s)) : jrR xs (f + 1) s z = ([], z) := by
  rw [jrR, h, if_neg hn]
theorem jrR_yes {xs : List UInt8} {f : Nat} {s z p : Int} {us : List UInt8} (h : frR xs z = (s, us, p, 0)) : jrR xs (f + 1) s z = (us :: (jrR xs f (s + 1) p).1, (jrR xs f (s + 1) p).2) := by
  rw [jrR, h, if_pos ⟨rfl, rfl⟩]
/-- What has been read so far. -/
def JrSt (xs : List UInt8) (seq : Int) (fs : List Sl) (z : Int) : Prop :=
  jrR xs (xs.length + 1) seq 0 = (datas fs ++ (jrR xs (xs.length + 1 - fs.length) (seq + fs.length) z).1, (jrR xs (xs.length + 1 - fs.length) (seq + fs.length) z).2) ∧
  (fs.length = 0 ∨ (1 ≤ seq ∧ seq + fs.length ≤ 1000000001)) ∧ 0 ≤ z ∧ z ≤ xs.length ∧ (fs.length : Int) ≤ z ∧ (tot fs : Int) ≤ z
theorem JrSt.start (xs : List UInt8) (seq : Int) : Hid (JrSt xs seq [] 0) := ⟨by simp [datas], .inl rfl, by omega, by omega, by simp, by simp [tot]⟩
theorem JrSt.step {xs : List UInt8} {seq z n p : Int} {us : List UInt8} {fs : List Sl} {A : Option Addr} {c : Nat} (h : Hid (JrSt xs seq fs z)) (hf : frR xs z = (n, us, p, 0)) (hn : n = seq + fs.length) : Hid (JrSt xs seq (fs ++ [(A, c, us)]) p) := by
  obtain ⟨h1, h2, h3, h4, h5, h6⟩ := h.out
  obtain ⟨f1, f2, f3, f4, f5⟩ := frR_ok hf
  have hl : (fs ++ [(A, c, us)]).length = fs.length + 1 := by simp
  have hd : datas (fs ++ [(A, c, us)]) = datas fs ++ [us] := by simp [datas]
  have ht : tot (fs ++ [(A, c, us)]) = tot fs + us.length := by simp [tot]
  subst hn
  refine ⟨?_, .inr ⟨?_, ?_⟩, by omega, by omega, by rw [hl]; omega, by rw [ht]; omega⟩
  · rw [h1, hl, hd]
    have e1 : xs.length + 1 - fs.length = (xs.length + 1 - (fs.length + 1)) + 1 := by omega
    have e2 : seq + ((fs.length + 1 : Nat) : Int) = seq + fs.length + 1 := by omega
    rw [e1, jrR_yes hf, e2]
    simp
  · rcases h2 with h2 | h2
    · rw [h2] at f4; simp at f4; omega
    · omega
  · rw [hl]
    omega
theorem JrSt.stop {xs : List UInt8} {seq z n p k : Int} {us : List UInt8} {fs : List Sl} (h : Hid (JrSt xs seq fs z)) (hf : frR xs z = (n, us, p, k)) (hn : ¬ (k = 0 ∧ n = seq + fs.length)) : Hid (jrR xs (xs.length + 1) seq 0 = (datas fs, z)) := by
  obtain ⟨h1, h2, h3, h4, h5⟩ := h.out
  have e1 : xs.length + 1 - fs.length = (xs.length - fs.length) + 1 := by omega
  rw [e1, jrR_no hf hn] at h1
  show _ = _
  rw [h1]
  simp
theorem ob_oc {w : World} {lo c : Nat} {A : Option Addr} {bs : List UInt8} : Ob w lo A c bs = Oc 5 w lo A c (bs.map B) := by
  unfold Ob Oc
  rw [List.length_map]
theorem Obs.keepD {w w' : World} {A A' : Option Addr} {es : List Sl} (hk : ∀ (E2 : TypeId) (lo2 : Nat) (A2 : Option Addr) (c2 : Nat) (vs2 : List Value), Oc E2 w lo2 A2 c2 vs2 → Dj A2 A → Oc E2 w' lo2 A2 c2 vs2 ∧ Dj A2 A') : ∀ {lo hi : Nat}, Obs w lo hi es → (∀ e, e ∈ es → Dj e.1 A) → Obs w' lo hi es ∧ ∀ e, e ∈ es → Dj e.1 A' := by
  induction es with
  | nil => exact fun h _ => ⟨h, fun e he => by simp at he⟩
  | cons x r ih =>
    rintro lo hi ⟨m, h1, h2, h3, h4⟩ hd
    obtain ⟨h5, h6⟩ := ih h4 (fun e he => hd e (List.mem_cons_of_mem _ he))
    rw [ob_oc] at h2
    obtain ⟨h7, h8⟩ := hk _ _ _ _ _ h2 (hd x (List.mem_cons_self ..))
    refine ⟨⟨m, h1, by rw [ob_oc]; exact h7, h3, h5⟩, fun e he => ?_⟩
    rcases List.mem_cons.1 he with rfl | he
    · exact h8
    · exact h6 e he
/-- A list of loads in blocks of its own. -/
def Own (w : World) (lo hi : Nat) (A : Option Addr) (fs : List Sl) : Prop := Cs w A (fs.map slv) ∧ InB lo hi A ∧ Obs w lo hi fs
theorem Own.below {w w' : World} {lo hi B' : Nat} {A : Option Addr} {fs : List Sl} (h : Own w lo hi A fs) (hb : Below B' w w') (hB : hi ≤ B') : Own w' lo hi A fs :=
  ⟨h.1.keep hb fun ad ha => Nat.lt_of_lt_of_le (h.2.1 ad ha).2 hB, h.2.1, h.2.2.below hb hB⟩
theorem Own.kp {w w' : World} {lo hi lo' hi' : Nat} {A : Option Addr} {fs : List Sl} (h : Own w lo hi A fs) (hk : Kp lo' hi' w w') (h1 : hi' ≤ lo) (h2 : hi ≤ w.heap.size) : Own w' lo hi A fs :=
  ⟨h.1.keepB fun ad ha _ => hk.2 _ (by have := (h.2.1 ad ha).1; omega) (by have := (h.2.1 ad ha).2; omega), h.2.1, hk.obs h.2.2 h1 h2⟩
theorem Own.ls {w : World} {lo hi : Nat} {A : Option Addr} {fs : List Sl} (h : Own w lo hi A fs) : Ls w A fs := ⟨h.1, h.2.2.by_⟩
theorem Own.drewN {w : World} {lo hi : Nat} {A : Option Addr} {fs : List Sl} (h : Own w lo hi A fs) (m : Nat) : Own (w.drewN m) lo hi A fs := ⟨h.1, h.2.1, h.2.2.keep fun _ _ _ => rfl⟩
/-- What reading a journal hands back. -/
def JrPost (w : World) (N : Nat) (r : List (List UInt8) × Int) (e : Ending) (w' : World) : Prop :=
  ∃ A' c' n fs q, Hid (r = (datas fs, q)) ∧ fs.length = n ∧ n ≤ N ∧ tot fs ≤ N ∧ e = .returned (.tuple #[.slice A' n c', .int .i64 q]) ∧ (∀ e, e ∈ fs → Dj e.1 A') ∧ Own w' w.heap.size w'.heap.size A' fs ∧ Below w.heap.size w w'
theorem Oc.inB {E : TypeId} {w : World} {lo c : Nat} {A : Option Addr} {vs : List Value} (h : Oc E w lo A c vs) : InB lo w.heap.size A := by
  rintro ad rfl
  exact ownsG.lt h ad.block rfl
set_option maxHeartbeats 4000000 in
theorem journalRead_impl (A : Option Addr) (c : Nat) (xs : List UInt8) (seq : Int) (w : World) (ha : By w A xs) (hc : xs.length ≤ c) (h1 : xs.length ≤ 1048576) (hs1 : -9223372036854775808 ≤ seq) (hs2 : seq ≤ 9223372036854775807) :
    Calls Try.prog 6 #[.slice A xs.length c, .int .i64 seq] w (JrPost w xs.length (jrR xs (xs.length + 1) seq 0)) := by
  go_enter Try.func6, Try.ntmps6
  go_wp2_with fail
  go_loopw [6, 7] (fun ov zv wr => ∃ (fs : List Sl) (n : Nat) (A1 : Option Addr) (c1 : Nat) (z : Int), fs.length = n ∧ ov = .slice A1 n c1 ∧ zv = .int .i64 z ∧ Hid (JrSt xs seq fs z) ∧ Oc 32 wr w.heap.size A1 c1 (fs.map slv) ∧ (∀ e, e ∈ fs → Dj e.1 A1) ∧ Obs wr w.heap.size wr.heap.size fs ∧ Below w.heap.size w wr) (fun _ zv _ => xs.length + 1 - (intOf zv).toNat)
  case atStart => exact ⟨[], 0, _, _, 0, rfl, rfl, rfl, JrSt.start _ _, Oc.empty, fun e he => by simp at he, by simp [Obs], (Below.refl _ _).alloc (Nat.le_refl _) _⟩
  case round =>
    obtain ⟨fs, n, A1, c1, z, hn, rfl, rfl, hj, ho, hdj, hob, hb⟩ := hrel
    have zb := hb.size
    obtain ⟨_, hbd, hz1, hz2, hz3, hz4⟩ := hj.out
    rw [hn] at hbd hz3
    have hq1 : -9223372036854775808 ≤ seq + n := by omega
    have hq2 : seq + n ≤ 9223372036854775807 := by omega
    go_wp2_with fail
    refine (frameRead_impl _ _ _ _ _ (ha.below hb) hc (by omega)).mono ?_
    rintro e w2 ⟨m, A2, c2, us, p, k, hr, rfl, ho2, hb2⟩
    have z2 := hb2.size
    by_cases hk : k = 0
    · subst hk
      obtain ⟨f1, f2, f3, f4, f5⟩ := frR_ok hr.out
      have hk0 : ((0 : Int) != 0) = false := by decide
      by_cases hm : m = seq + n
      · have hq : (m != seq + n) = false := by simp [hm]
        have HJ := fun (A : Option Addr) (c : Nat) => JrSt.step (A := A) (c := c) hj hr.out (by rw [hn]; exact hm)
        have hq3 : seq + n + 1 ≤ 9223372036854775807 := by omega
        clear hj hm
        go_wp2_with (at_builtin; refine wp_app1C 23 32 (.agg #[.slice none 0 0]) 24 Try.underlying23 info_load (by omega) rfl rfl _ _ rfl w.heap.size A1 c1 (fs.map slv) _ _ (slv (A2, c2, us)) rfl (ho.below hb2 (Nat.le_refl _)) (by simp [hn]) rfl rfl (by simp; omega) (by omega) ?_; intro A3 c3 w3 vs hvs ho3 hb3 hkp3)
        have z3 := hb3.size
        have hob2 := (hob.below hb2 (Nat.le_refl _)).snoc ho2 ho2.inB z2
        have hdj2 : ∀ e, e ∈ fs ++ [(A2, c2, us)] → Dj e.1 A1 := by
          intro e he
          rcases List.mem_append.1 he with he | he
          · exact hdj e he
          · rw [List.mem_singleton] at he
            subst he
            intro a a' h1 h2 h3
            have := ho2.inB a h1
            have := ho.inB a' h2
            omega
        obtain ⟨hob3, hdj3⟩ := hob2.keepD hkp3 hdj2
        have hv : vs = (fs ++ [(A2, c2, us)]).map slv := by rw [hvs.out, List.map_append]; rfl
        have hvl : vs.length = n + 1 := by rw [hv]; simp [hn]
        rw [hv] at ho3
        go_roundw
        case rel => exact ⟨fs ++ [(A2, c2, us)], n + 1, A3, c3, p, by simp [hn], by rw [hvl], rfl, HJ A2 c2, ho3, hdj3, hob3.widen z3, (hb.trans (hb2.mono zb)).trans hb3⟩
        case measure => simp [intOf]; omega
      · have hq : (m != seq + n) = true := by simp; omega
        have HJ := JrSt.stop hj hr.out (by rw [hn]; exact fun h => hm h.2)
        clear hj hm
        go_wp2_with fail
        go_ret2
        exact ⟨A1, c1, n, fs, z, HJ, hn, by omega, by omega, rfl, hdj, ⟨(ho.below hb2 (Nat.le_refl _)).cs, ho.inB.mono_ (Nat.le_refl _) z2, (hob.below hb2 (Nat.le_refl _)).widen z2⟩, hb.trans (hb2.mono zb)⟩
    · have hk0 : (k != 0) = true := by simp; omega
      have HJ := JrSt.stop hj hr.out (fun h => hk h.1)
      clear hj hk
      go_wp2_with fail
      go_ret2
      exact ⟨A1, c1, n, fs, z, HJ, hn, by omega, by omega, rfl, hdj, ⟨(ho.below hb2 (Nat.le_refl _)).cs, ho.inB.mono_ (Nat.le_refl _) z2, (hob.below hb2 (Nat.le_refl _)).widen z2⟩, hb.trans (hb2.mono zb)⟩
end Go.Proofs.Ytbaojeiinjjlcaa
