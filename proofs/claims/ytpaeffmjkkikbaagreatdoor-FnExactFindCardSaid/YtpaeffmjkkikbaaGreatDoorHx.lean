/- A disk whose files' block may lie anywhere among the bodies' blocks: owned, marked, held. Files, turns and disks that hold their marks. -/
import Derived.Test.YtpaeffmjkkikbaaGreatDoorMa
namespace Go.Proofs.YtpaeffmjkkikbaaGreatDoor
open Go.RowKit

set_option linter.unusedVariables false
set_option maxRecDepth 100000

/-- None of these slices begins in block g. -/
def apart (g : Nat) (es : List Sl) : Prop := ∀ e, e ∈ es → ∀ ad, e.1 = some ad → ad.block ≠ g
theorem apart_mkF {g : Nat} : ∀ (k : Nat) (xs : List Fl), apart g (xs.map fb) → apart g ((mkF k xs).map fb)
  | _, [], h => h
  | k, x :: r, h => by
    intro e he
    rw [mkF, List.map_cons] at he
    rcases List.mem_cons.1 he with rfl | he
    · exact h (fb x) (List.mem_cons_self ..)
    · exact apart_mkF _ r (fun e he => h e (List.mem_cons_of_mem _ he)) e he
theorem apart.app {g : Nat} {a b : List Sl} (h1 : apart g a) (h2 : apart g b) : apart g (a ++ b) := fun e he => by
  rcases List.mem_append.1 he with h | h
  · exact h1 e h
  · exact h2 e h
theorem apart.take {g : Nat} {xs : List Fl} (h : apart g (xs.map fb)) (j : Nat) : apart g ((xs.take j).map fb) := fun e he => by
  obtain ⟨x, hx, rfl⟩ := List.mem_map.1 he
  exact h _ (List.mem_map.2 ⟨x, List.mem_of_mem_take hx, rfl⟩)
theorem apart.drop {g : Nat} {xs : List Fl} (h : apart g (xs.map fb)) (j : Nat) : apart g ((xs.drop j).map fb) := fun e he => by
  obtain ⟨x, hx, rfl⟩ := List.mem_map.1 he
  exact h _ (List.mem_map.2 ⟨x, List.mem_of_mem_drop hx, rfl⟩)
theorem Obs.keepX {w w' : World} {es : List Sl} : ∀ {lo hi : Nat}, Obs w lo hi es → (∀ e, e ∈ es → ∀ ad, e.1 = some ad → w'.heap[ad.block]? = w.heap[ad.block]?) → Obs w' lo hi es := by
  induction es with
  | nil => exact fun h _ => h
  | cons e r ih =>
    rintro lo hi ⟨m, h1, h2, h3, h4⟩ hk
    exact ⟨m, h1, h2.keepB (hk e (List.mem_cons_self ..)), h3, ih h4 fun x hx => hk x (List.mem_cons_of_mem _ hx)⟩
theorem Obs.set {w : World} {es : List Sl} {lo hi : Nat} {p : Addr} {v : Value} (h : Obs w lo hi es) (ha : apart p.block es) : Obs (w.setCell p v) lo hi es :=
  h.keepX fun e he ad had => Below.heap_setCell w p v _ (ha e he ad had)
/-- A slice of files that owns its block, and whose bodies own theirs: all from block lo to before block hi. -/
def FsG (w : World) (lo hi : Nat) (A : Option Addr) (c : Nat) (fs : List Fl) : Prop := Oe 85 3 flL w lo A c fs ∧ InB lo hi A ∧ Obs w lo hi (fs.map fb) ∧ ∀ ad, A = some ad → apart ad.block (fs.map fb)
section
variable {w w' : World} {lo hi c : Nat} {A : Option Addr} {xs : List Fl}
theorem FsO.g (h : FsO w lo hi A c xs) : FsG w lo hi A c xs := by
  obtain ⟨h1, m, h2, h3, h4⟩ := h
  have hl := h4.le
  exact ⟨h1, fun ad ha => by have := h3 ad ha; omega, h4.lower h2, fun ad ha e he ad' ha' => by have h5 := h3 ad ha; have h6 := h4.inB e he ad' ha'; omega⟩
theorem FsG.fs (h : FsG w lo hi A c xs) : Fs w A xs := ⟨h.1.sl fl3, fun e he => h.2.2.1.by_ _ (List.mem_map.2 ⟨e, he, rfl⟩)⟩
theorem FsG.keep (h : FsG w lo hi A c xs) (hk : ∀ k, lo ≤ k → k < hi → w'.heap[k]? = w.heap[k]?) : FsG w' lo hi A c xs := by
  obtain ⟨h1, h2, h3, h4⟩ := h
  exact ⟨h1.keepB fun ad ha => hk _ (h2 ad ha).1 (h2 ad ha).2, h2, h3.keep hk, h4⟩
theorem FsG.below {B' : Nat} (h : FsG w lo hi A c xs) (hb : Below B' w w') (hB : hi ≤ B') : FsG w' lo hi A c xs := h.keep fun k _ h2 => hb.block k (by omega)
theorem FsG.le (h : FsG w lo hi A c xs) : lo ≤ hi := h.2.2.1.le
theorem FsG.lower {lo' : Nat} (h : FsG w lo hi A c xs) (hl : lo' ≤ lo) : FsG w lo' hi A c xs := ⟨Oe.mono h.1 hl, fun ad ha => by have := h.2.1 ad ha; omega, h.2.2.1.lower hl, h.2.2.2⟩
theorem FsG.kp {a b : Nat} (h : FsG w lo hi A c xs) (hk : Kp a b w w') (hs : hi ≤ w.heap.size) (hd : hi ≤ a ∨ b ≤ lo) : FsG w' lo hi A c xs :=
  h.keep fun k h1 h2 => by
    rcases hd with hd | hd
    · exact hk.1.block _ (by omega)
    · exact hk.2 _ (by omega) (by omega)
end
set_option maxHeartbeats 4000000 in
theorem markFileG_any (lo hi : Nat) (A : Option Addr) (c : Nat) (xs : List Fl) (k : Nat) (w : World) (ha : FsG w lo hi A c xs) (hh : hi ≤ w.heap.size) (hk : 1 ≤ k) (hk2 : k + 2 * xs.length + ftot xs ≤ 10000000) :
    Calls Tryz.prog 37 #[.slice A xs.length c, .int .i64 k] w fun e w' => e = .returned (.int .i64 ((k + 2 * xs.length + ftot xs : Nat) : Int)) ∧ FsG w' lo hi A c (mkF k xs) ∧ Kp lo hi w w' := by
  rcases Nat.eq_zero_or_pos xs.length with h0 | h0
  · have hx := List.eq_nil_of_length_eq_zero h0
    subst hx
    go_enter Tryz.func37, Tryz.ntmps37
    go_wp2_with fail
    go_loopw [1, 5] (fun kv iv wr => kv = .int .i64 k ∧ iv = .int .i64 0 ∧ wr = w) (fun _ _ _ => 0)
    case atStart => exact ⟨rfl, rfl, rfl⟩
    case round =>
      obtain ⟨rfl, rfl, rfl⟩ := hrel
      go_wp2_with fail
      go_ret
      exact ⟨rfl, ha, Kp.refl _ _ _⟩
  · obtain ⟨hoe, hinA, hob0, hap⟩ := ha
    obtain ⟨g, rfl, hlo, hcm, hcap, hF⟩ := hoe.fillC fl3 h0
    have hgm : g < hi := (hinA _ rfl).2
    have hap := hap _ rfl
    dsimp only at hap
    have hmh := hob0.le
    obtain ⟨n, hn⟩ : ∃ n, n = xs.length := ⟨_, rfl⟩
    rw [← hn] at hk2 hcap ⊢
    have HN := Lib.hid hn
    clear hn h0 hoe
    go_enter Tryz.func37, Tryz.ntmps37
    go_wp2_with fail
    go_loopw [1, 5] (fun kv iv wr => ∃ j : Nat, j ≤ n ∧ iv = .int .i64 j ∧ kv = .int .i64 ((k + 2 * j + ftot (xs.take j) : Nat) : Int) ∧ Fill wr g 85 (c * 3) ((mkF k (xs.take j) ++ xs.drop j).flatMap flL) ∧ Obs wr lo hi ((mkF k (xs.take j) ++ xs.drop j).map fb) ∧ Kp lo hi w wr) (fun _ iv _ => n - (intOf iv).toNat)
    case atStart => exact ⟨0, Nat.zero_le _, rfl, rfl, by simpa [mkF] using hF, by simpa [mkF] using hob0, Kp.refl _ _ _⟩
    case round =>
      clear hF hob0
      obtain ⟨j, hj, rfl, rfl, hF, hob, hkp⟩ := hrel
      have zF := hF.lt
      have zz := hkp.1.size
      by_cases hjn : j < n
      case neg =>
        have hlt' : ¬ ((j : Int) < n) := by omega
        obtain rfl : j = n := by omega
        have ht : xs.take j = xs := List.take_of_length_le (by have := HN.out; omega)
        have hdr : xs.drop j = [] := List.drop_of_length_le (by have := HN.out; omega)
        rw [ht, hdr, List.append_nil] at hF hob
        rw [ht]
        have hO : FsG wr lo hi (some ⟨g, 0, none⟩) c (mkF k xs) := ⟨Oe.of_fill fl3 hF (by rw [mkF_len]; have := HN.out; omega) hlo hcm, hinA, hob, fun ad had => by injection had with had; subst had; exact apart_mkF _ _ hap⟩
        have hE : (mkF k xs).length = xs.length := mkF_len k xs
        clear ht hdr hF hob
        go_wp2_with fail
        go_ret
        exact ⟨rfl, hO, hkp⟩
      have hlt : j < xs.length := by have := HN.out; omega
      have hlt' : (j : Int) < n := by omega
      have hs : ftot (xs.take (j + 1)) = ftot (xs.take j) + xs[j].2.1.2.2.length := sum_succ _ hlt
      have hgt := used_bd' hlt
      obtain ⟨p, hp⟩ : ∃ p, Hid (p = k + 2 * j + ftot (xs.take j)) := ⟨_, Lib.hid rfl⟩
      rw [← hp.out]
      have hL : mkF k (xs.take j) ++ xs.drop j = mkF k (xs.take j) ++ xs[j] :: xs.drop (j + 1) := by rw [List.drop_eq_getElem_cons hlt]
      rw [hL] at hF hob
      have hml : (mkF k (xs.take j)).length = j := by rw [mkF_len, List.length_take]; omega
      have hfl : ((mkF k (xs.take j) ++ xs[j] :: xs.drop (j + 1)).flatMap flL).length = n * 3 := by
        rw [flat_len fl3, List.length_append, hml, List.length_cons, List.length_drop]
        have := HN.out
        omega
      have hgj : (mkF k (xs.take j) ++ xs[j] :: xs.drop (j + 1))[j]? = some xs[j] := by
        have := @List.getElem?_append_right _ (mkF k (xs.take j)) (xs[j] :: xs.drop (j + 1)) j (by omega)
        rw [this, hml, Nat.sub_self]
        rfl
      have y1 := flat_get fl3 _ j _ hgj 1 _ rfl
      have x1 : wr.cell? ⟨g, j * 3 + 1, none⟩ = some (.slice xs[j].2.1.1 xs[j].2.1.2.2.length xs[j].2.1.2.1) := hF.cells _ _ y1
      rw [List.map_append, List.map_cons] at hob
      obtain ⟨m1, m2, h1, h2, h3, h4, h5, h6, h7⟩ := hob.split
      have h5' : Ob wr m1 xs[j].2.1.1 xs[j].2.1.2.1 xs[j].2.1.2.2 := h5
      obtain ⟨u0, hu0⟩ := hF.cell (j * 3) (by omega)
      have hf0 := hF.frozen (j * 3) (by omega)
      have hF1 := hF.setAt (k := j * 3) (by omega) (.int .i64 (p : Int))
      have hnb : ∀ ad, xs[j].2.1.1 = some ad → ad.block ≠ g := hap (fb xs[j]) (List.mem_map.2 ⟨_, List.getElem_mem hlt, rfl⟩)
      have h5w : Ob (wr.setCell ⟨g, j * 3, none⟩ (.int .i64 (p : Int))) m1 xs[j].2.1.1 xs[j].2.1.2.1 xs[j].2.1.2.2 := h5'.keepB fun ad had => Below.heap_setCell _ _ _ _ (hnb ad had)
      have hpk : p + 1 + xs[j].2.1.2.2.length ≤ 10000000 := by have := HN.out; have := hp.out; omega
      clear hu0
      obtain ⟨u0, hu0⟩ := hF.cell (j * 3) (by omega)
      go_wp2_with fail
      refine (markByteS_any xs[j].2.1.1 xs[j].2.1.2.1 m1 xs[j].2.1.2.2 ((p : Int) + 1) _ h5w (by omega) (by omega) (by omega)).mono ?_
      rintro e w2 ⟨rfl, ho2, hg2⟩
      have hbg : w2.heap[g]? = (wr.setCell ⟨g, j * 3, none⟩ (.int .i64 (p : Int))).heap[g]? := hg2.block g (by simpa using zF) (by
        intro he
        cases hq : xs[j].2.1.1 with
        | none => rw [hq] at he; simp [Value.ownBlock] at he
        | some a =>
          rw [hq] at he
          simp [Value.ownBlock] at he
          exact hnb a hq he.symm)
      have hF2 := hF1.keep hbg
      obtain ⟨u2, hu2⟩ := hF2.cell (j * 3 + 2) (by omega)
      have hf2 := hF2.frozen (j * 3 + 2) (by omega)
      have hkA : Kp lo hi wr (wr.setCell ⟨g, j * 3, none⟩ (.int .i64 (p : Int))) := (Kp.refl lo hi wr).setCell (by show lo ≤ g; omega) (by show g < hi; omega) _
      have hkB : Kp m1 m2 (wr.setCell ⟨g, j * 3, none⟩ (.int .i64 (p : Int))) w2 := Kp.of_grown hg2 h6 (by simp; have := h7.le; omega)
      have hk2' : Kp lo hi w w2 := (hkp.trans hkA).trans (hkB.wide (by omega) h3)
      go_wp2_with fail
      go_roundw
      case rel =>
        have hmf : mF p xs[j] = ((p : Int), (xs[j].2.1.1, xs[j].2.1.2.1, markL ((p : Int) + 1) xs[j].2.1.2.2.length), ((p + 1 + xs[j].2.1.2.2.length : Nat) : Int)) := rfl
        have hnew : mkF k (xs.take (j + 1)) ++ xs.drop (j + 1) = (mkF k (xs.take j) ++ xs[j] :: xs.drop (j + 1)).set j (mF p xs[j]) := by
          have h9 := @set_mid _ (mkF k (xs.take j)) (xs.drop (j + 1)) xs[j] (mF p xs[j])
          rw [hml] at h9
          rw [h9, mkF_succ hlt, ← hp.out, List.append_assoc]
          rfl
        refine ⟨j + 1, by omega, by go_num, by have := hp.out; rw [hs]; go_num, ?_, ?_, hk2'.setCell (by show lo ≤ g; omega) (by show g < hi; omega) _⟩
        · rw [hnew, ← flat_set3 (mF p xs[j]) _ j (by rw [List.length_append, hml, List.length_cons]; omega)]
          have h10 : (((mkF k (xs.take j) ++ xs[j] :: xs.drop (j + 1)).flatMap flL).set (j * 3) (.int .i64 (mF p xs[j]).1)).set (j * 3 + 1) (.slice (mF p xs[j]).2.1.1 (mF p xs[j]).2.1.2.2.length (mF p xs[j]).2.1.2.1) = ((mkF k (xs.take j) ++ xs[j] :: xs.drop (j + 1)).flatMap flL).set (j * 3) (.int .i64 (p : Int)) := by
            refine set_same ?_
            rw [List.getElem?_set_ne (by omega), y1]
            show some (Value.slice _ _ _) = some (Value.slice _ (markL _ _).length _)
            rw [markL_len]
            rfl
          rw [h10]
          have h11 := hF2.setAt (k := j * 3 + 2) (by rw [List.length_set]; omega) (.int .i64 ((p : Int) + 1 + (xs[j].2.1.2.2.length : Int)))
          have ev : (mF p xs[j]).2.2 = (p : Int) + 1 + (xs[j].2.1.2.2.length : Int) := by show ((p + 1 + xs[j].2.1.2.2.length : Nat) : Int) = _; omega
          rw [ev]
          simpa using h11
        · rw [hnew]
          have h12 : ((mkF k (xs.take j) ++ xs[j] :: xs.drop (j + 1)).set j (mF p xs[j])).map fb = (mkF k (xs.take j)).map fb ++ fb (mF p xs[j]) :: (xs.drop (j + 1)).map fb := by
            have h9 := @set_mid _ (mkF k (xs.take j)) (xs.drop (j + 1)) xs[j] (mF p xs[j])
            rw [hml] at h9
            rw [h9, List.map_append, List.map_cons]
          rw [h12]
          have b1 : apart g ((mkF k (xs.take j)).map fb) := apart_mkF _ _ (hap.take j)
          have b2 : apart g ((xs.drop (j + 1)).map fb) := hap.drop (j + 1)
          have b3 : apart g [fb (mF p xs[j])] := fun e he ad had => by
            rw [List.mem_singleton] at he
            subst he
            exact hnb ad had
          have a1 : Obs w2 lo m1 ((mkF k (xs.take j)).map fb) := (h4.set (p := ⟨g, j * 3, none⟩) (v := .int .i64 (p : Int)) b1).below hkB.1 (Nat.le_refl _)
          have a2 : Obs w2 m2 hi ((xs.drop (j + 1)).map fb) := hkB.obs (h7.set (p := ⟨g, j * 3, none⟩) (v := .int .i64 (p : Int)) b2) (Nat.le_refl _) (by simp; omega)
          have a3 := Obs.join (e := fb (mF p xs[j])) h2 ho2 h6 a2 a1
          exact a3.set (b1.app (b3.app b2))
      case measure => simp [intOf]; omega
/-- A disk that owns what it holds. -/
def DkG (w : World) (lo hi : Nat) (FA : Option Addr) (fc : Nat) (fs : List Fl) (KA : Option Addr) (kc : Nat) (ks : List Lk) (TA : Option Addr) (tc : Nat) (ts : List Tn) : Prop :=
  ∃ m m', FsG w lo m FA fc fs ∧ m ≤ m' ∧ m' ≤ hi ∧ Oe 52 2 lkL w m KA kc ks ∧ InB m m' KA ∧ Oe 92 4 tnL w m' TA tc ts ∧ InB m' hi TA
section
variable {w w' : World} {lo hi fc kc tc : Nat} {FA KA TA : Option Addr} {fs : List Fl} {ks : List Lk} {ts : List Tn}
theorem DkO.g (h : DkO w lo hi FA fc fs KA kc ks TA tc ts) : DkG w lo hi FA fc fs KA kc ks TA tc ts := by
  obtain ⟨m, m', h1, h2⟩ := h
  exact ⟨m, m', h1.g, h2⟩
theorem DkG.keep (h : DkG w lo hi FA fc fs KA kc ks TA tc ts) (hk : ∀ k, lo ≤ k → k < hi → w'.heap[k]? = w.heap[k]?) : DkG w' lo hi FA fc fs KA kc ks TA tc ts := by
  obtain ⟨m, m', h1, h2, h3, h4, h5, h6, h7⟩ := h
  have hl := h1.le
  exact ⟨m, m', h1.keep fun k h8 h9 => hk k h8 (by omega), h2, h3, h4.keepB fun ad ha => hk _ (by have := (h5 ad ha).1; omega) (by have := (h5 ad ha).2; omega), h5, h6.keepB fun ad ha => hk _ (by have := (h7 ad ha).1; omega) (by have := (h7 ad ha).2; omega), h7⟩
theorem DkG.below {B' : Nat} (h : DkG w lo hi FA fc fs KA kc ks TA tc ts) (hb : Below B' w w') (hB : hi ≤ B') : DkG w' lo hi FA fc fs KA kc ks TA tc ts :=
  h.keep fun k _ h2 => hb.block k (by omega)
theorem DkG.lower {lo' : Nat} (h : DkG w lo hi FA fc fs KA kc ks TA tc ts) (hl : lo' ≤ lo) : DkG w lo' hi FA fc fs KA kc ks TA tc ts := by
  obtain ⟨m, m', h1, h2⟩ := h
  exact ⟨m, m', h1.lower hl, h2⟩
theorem DkG.setCell {p : Addr} {v : Value} (h : DkG w lo w.heap.size FA fc fs KA kc ks TA tc ts) (hp : p.block < lo) : DkG (w.setCell p v) lo (w.setCell p v).heap.size FA fc fs KA kc ks TA tc ts := by
  rw [show (w.setCell p v).heap.size = w.heap.size from by simp [World.setCell]]
  exact h.keep fun k h1 _ => Below.heap_setCell _ _ _ k (by omega)
theorem DkG.rd (h : DkG w lo hi FA fc fs KA kc ks TA tc ts) : Fs w FA fs ∧ Ks w KA ks ∧ Ts w TA ts := by
  obtain ⟨m, m', h1, h2, h3, h4, h5, h6, h7⟩ := h
  exact ⟨h1.fs, h4.sl lk2, h6.sl tn4⟩
theorem DkG.kp {a b : Nat} (h : DkG w lo hi FA fc fs KA kc ks TA tc ts) (hk : Kp a b w w') (hs : hi ≤ w.heap.size) (hd : hi ≤ a ∨ b ≤ lo) : DkG w' lo hi FA fc fs KA kc ks TA tc ts :=
  h.keep fun k h1 h2 => by
    rcases hd with hd | hd
    · exact hk.1.block _ (by omega)
    · exact hk.2 _ (by omega) (by omega)
end
set_option maxHeartbeats 4000000 in
theorem markDiskG_any (r f n : Int) (lo hi : Nat) (FA : Option Addr) (c1 : Nat) (fs : List Fl) (KA : Option Addr) (c2 : Nat) (ks : List Lk) (TA : Option Addr) (c3 : Nat) (ts : List Tn) (k : Nat) (w : World) (ho : DkG w lo hi FA c1 fs KA c2 ks TA c3 ts) (hh : hi ≤ w.heap.size) (hk : 1 ≤ k) (hk2 : mEnd k fs ks.length ts.length ≤ 10000000) :
    Calls Tryz.prog 11 #[dkV r f n FA fs.length c1 KA ks.length c2 TA ts.length c3, .int .i64 k] w fun e w' => e = .returned (.int .i64 (mEnd k fs ks.length ts.length : Nat)) ∧ DkG w' lo hi FA c1 (mkF k fs) KA c2 (mkK (k + 2 * fs.length + ftot fs) ks.length) TA c3 (mkT (k + 2 * fs.length + ftot fs + 2 * ks.length) ts.length) ∧ Kp lo hi w w' := by
  obtain ⟨m, m', h1, h2, h3, h4, h5, h6, h7⟩ := ho
  have hl := h1.le
  unfold mEnd at hk2 ⊢
  have hb0 : Below w.heap.size w (w.alloc (.cells (dkC r f n FA fs.length c1 KA ks.length c2 TA ts.length c3) 35)) := by (repeat (first | exact Below.refl _ _ | (refine Below.alloc ?_ (by first | omega | (simp; done) | (simp; omega)) _) | (refine Below.drew ?_) | (refine below_drewN ?_ _) | (refine below_at1 ?_ (by first | omega | (simp; done) | (simp; omega))) | (refine Below.setCell ?_ (by first | omega | (simp; done) | (simp; omega)) _) | (refine Below.trans ?_ (Below.mono (by assumption) (by first | omega | (simp; done) | (simp; omega))))))
  have k0 : Kp lo hi w (w.alloc (.cells (dkC r f n FA fs.length c1 KA ks.length c2 TA ts.length c3) 35)) := Kp.of_below hb0 (by omega)
  have B0 := heap_alloc_new w (.cells (dkC r f n FA fs.length c1 KA ks.length c2 TA ts.length c3) 35)
  have cF := markFileG_any lo m FA c1 fs k (w.alloc (.cells (dkC r f n FA fs.length c1 KA ks.length c2 TA ts.length c3) 35)) (h1.below hb0 (by omega)) (by simp; omega) hk (by omega)
  obtain ⟨k1, hk1⟩ : ∃ k1, Hid (k1 = k + 2 * fs.length + ftot fs) := ⟨_, Lib.hid rfl⟩
  rw [← hk1.out] at cF hk2 ⊢
  obtain ⟨k2, hk2'⟩ : ∃ k2, Hid (k2 = k1 + 2 * ks.length) := ⟨_, Lib.hid rfl⟩
  rw [← hk2'.out] at hk2 ⊢
  have h4a := h4.alloc (.cells (dkC r f n FA fs.length c1 KA ks.length c2 TA ts.length c3) 35)
  have h6a := h6.alloc (.cells (dkC r f n FA fs.length c1 KA ks.length c2 TA ts.length c3) 35)
  go_enter Tryz.func11, Tryz.ntmps11
  go_wp2_with fail
  refine cF.mono ?_
  rintro e w1 ⟨rfl, ho1, kp1⟩
  have z1 := kp1.1.size
  have z1' : w.heap.size + 1 ≤ w1.heap.size := by simpa using z1
  have B1 := (kp1.2 w.heap.size (by omega) (by simp)).trans B0
  have q4 : w1.cell? ⟨w.heap.size, 4, none⟩ = some (.slice KA ks.length c2) := cell_of_row w1 _ 4 _ _ (0, 0) B1
  have h4b := Oe.kp h4a kp1 h5 (.inr (Nat.le_refl _))
  have h6b := Oe.kp h6a kp1 h7 (.inr h2)
  have cK := markLinkS_any m m' KA c2 ks k1 w1 h4b h5 (by have := hk1.out; omega) (by have := hk2'.out; omega)
  rw [← hk2'.out] at cK
  go_wp2_with fail
  refine cK.mono ?_
  rintro e w2 ⟨rfl, ho2, kp2⟩
  have z2 := kp2.1.size
  have B2 := (kp2.2 w.heap.size (by omega) (by omega)).trans B1
  have q5 : w2.cell? ⟨w.heap.size, 5, none⟩ = some (.slice TA ts.length c3) := cell_of_row w2 _ 5 _ _ (0, 0) B2
  have h6c := Oe.kp h6b kp2 h7 (.inr (Nat.le_refl _))
  have ho1b := ho1.kp kp2 (by omega) (.inl (Nat.le_refl _))
  have cT := markTurnS_any m' hi TA c3 ts k2 w2 h6c h7 (by have := hk1.out; have := hk2'.out; omega) hk2
  go_wp2_with fail
  refine cT.mono ?_
  rintro e w3 ⟨rfl, ho3, kp3⟩
  go_wp2_with fail
  go_ret
  exact ⟨rfl, ⟨m, m', ho1b.kp kp3 (by omega) (.inl h2), h2, h3, Oe.kp ho2 kp3 h5 (.inl (Nat.le_refl _)), h5, ho3, h7⟩,
    k0.trans ((kp1.wide (Nat.le_refl _) (by omega)).trans ((kp2.wide (by omega) (by omega)).trans (kp3.wide (by omega) (Nat.le_refl _))))⟩

set_option linter.unusedVariables false
set_option maxRecDepth 100000

theorem mkF_get : ∀ (k : Nat) (xs : List Fl) (j : Nat) (h : j < xs.length), (mkF k xs)[j]'(by rw [mkF_len]; exact h) = mF (k + 2 * j + ftot (xs.take j)) xs[j]
  | k, x :: r, 0, h => by simp [mkF, ftot]
  | k, x :: r, j + 1, h => by
    have ih := mkF_get (k + 2 + x.2.1.2.2.length) r j (by simpa using h)
    simp only [mkF, List.getElem_cons_succ, ih, List.take_succ_cons]
    have : k + 2 + x.2.1.2.2.length + 2 * j + ftot (r.take j) = k + 2 * (j + 1) + ftot (x :: r.take j) := by simp [ftot]; omega
    rw [this]
end Go.Proofs.YtpaeffmjkkikbaaGreatDoor
