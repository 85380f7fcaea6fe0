/- A slice of blanks: the library's Repeat. A slice of blanks: the library's Repeat, walked. -/
import Derived.Test.YtnilgcahggmncaaGw
import Derived.Test.YtnilgcahggmncaaShelf
import Derived.Laws.CopyRow
import Derived.Deep.RegionLaw
import Derived.Deep.RegionHeld3
import Derived.RegionTactic
namespace Go.Proofs.Ytnilgcahggmncaa
open Go.RowKit

set_option linter.unusedVariables false
set_option maxRecDepth 100000

/-- copy(dst, src) of elements of some cells each, into a row that is known whole. -/
theorem run_copy_rowN {P : Program} (w : World) (dT sT ty elem : TypeId) (size n g o dLen dCap : Nat) (a : Addr) (sLen sCap : Nat) (cur : Array Value) (t : TypeId) (fz : Nat × Nat) (cs : List Value)
    (hu : P.underlying dT = some (.slice elem)) (hs : (P.info? elem).map (·.size) = some size)
    (hg : w.heap[g]? = some (.cells cur t fz)) (hz : fz = (0, 0) ∨ cur.size ≤ fz.1) (hn : n = Nat.min sLen dLen) (hl : cs.length = n * size)
    (hsrc : ∀ j v, cs[j]? = some v → w.cell? (a.add j) = some v) (hfit : o + cs.length ≤ cur.size) (h1 : ∀ v ∈ cs, v.oneCell' = true) :
    (Builtin.copy_ #[dT, sT] ty #[.slice (some ⟨g, o, none⟩) dLen dCap, .slice (some a) sLen sCap]).run P w =
      .ok (goInt n) (w.setRow g (cur.toList.take o ++ cs ++ cur.toList.drop (o + cs.length)).toArray) := by
  have hl' := run_loadCells_list (P := P) w a cs hsrc
  have hst := run_storeCells_atD P g o t fz cs 0 cur w hg hz (by simpa using hfit) h1
  cases hq : P.info? elem with
  | none => simp [hq] at hs
  | some i =>
    have hi : i.size = size := by simpa [hq] using hs
    rw [hl] at hl'
    simp [Builtin.copy_, run_underlying hu, Builtin.lenOf, Builtin.firstCells, sizeOf, typeInfo, hq, hi, ← hn, hl', hst]
theorem cvs_append (a b : List Cl) : cvs (a ++ b) = cvs a ++ cvs b := by simp [cvs]
/-- Cells laid over others from place k on. -/
def spl (cs : List Cl) (k : Nat) (zs : List Cl) : List Cl := cs.take k ++ (zs ++ cs.drop (k + zs.length))
theorem spl_len {cs zs : List Cl} {k : Nat} (h : k + zs.length ≤ cs.length) : (spl cs k zs).length = cs.length := by simp [spl]; omega
theorem cvs_take (cs : List Cl) (k : Nat) : cvs (cs.take k) = (cvs cs).take (k * 6) := by
  by_cases hk : k ≤ cs.length
  · have e : cvs cs = cvs (cs.take k) ++ cvs (cs.drop k) := by rw [← cvs_append, List.take_append_drop]
    rw [e, List.take_left' (by rw [cvs_len, List.length_take]; omega)]
  · rw [List.take_of_length_le (by omega), List.take_of_length_le (by rw [cvs_len]; omega)]
theorem cvs_drop (cs : List Cl) (k : Nat) : cvs (cs.drop k) = (cvs cs).drop (k * 6) := by
  by_cases hk : k ≤ cs.length
  · have e : cvs cs = cvs (cs.take k) ++ cvs (cs.drop k) := by rw [← cvs_append, List.take_append_drop]
    rw [e, List.drop_left' (by rw [cvs_len, List.length_take]; omega)]
  · rw [List.drop_eq_nil_of_le (by omega), List.drop_eq_nil_of_le (by rw [cvs_len]; omega)]
    rfl
theorem lay_take {T : Type} (L Z : List T) {m p q : Nat} (hq : Z.length = q) (h1 : p + q ≤ m) (h2 : m ≤ L.length) :
    (L.take p ++ Z ++ L.drop (p + q)).take m = (L.take m).take p ++ (Z ++ (L.take m).drop (p + q)) := by
  have e0 : (L.take p ++ Z).length = p + q := by simp [hq]; omega
  rw [List.take_append, e0, List.take_of_length_le (by omega), List.take_take, Nat.min_eq_left (by omega), List.drop_take, List.append_assoc]
theorem info_cell6 : (Try.prog.info? 44).map (·.size) = some 6 := by kernel_rfl
theorem Gs.sub {w : World} {b o : Nat} {cs : List Cl} (h : Gs w (some ⟨b, o, none⟩) cs) (k n : Nat) : Gs w (some ⟨b, o + k * 6, none⟩) ((cs.drop k).take n) := by
  rcases h with rfl | ⟨b', o', hA, h⟩
  · left; simp
  · simp only [Option.some.injEq, Addr.mk.injEq, and_true] at hA
    obtain ⟨rfl, rfl⟩ := hA
    refine .inr ⟨b, o + k * 6, rfl, fun i x hi j u hu => ?_⟩
    rw [List.getElem?_take] at hi
    split at hi
    · rw [List.getElem?_drop] at hi
      have := h _ x hi j u hu
      rwa [show o + ((k + i) * 6 + j) = o + k * 6 + (i * 6 + j) by omega] at this
    · cases hi
/-- The run of a copy of cells. -/
theorem copy_run {w : World} {lo g c k n dCap sLen dLen sCap : Nat} {cs zs : List Cl} (ty : TypeId) (ho : Og w lo (some ⟨g, 0, none⟩) c cs) {b o : Nat} (hz : Gs w (some ⟨b, o, none⟩) zs) (h0 : 0 < zs.length) (hn : n = Nat.min sLen dLen) (hzn : zs.length = n) (hfit : k + n ≤ cs.length) :
    ∃ w', (Builtin.copy_ #[27, 27] ty #[.slice (some ⟨g, k * 6, none⟩) dLen dCap, .slice (some ⟨b, o, none⟩) sLen sCap]).run Try.prog w = .ok (goInt n) w' ∧ Og w' lo (some ⟨g, 0, none⟩) c (spl cs k zs) ∧ w.grownBy w' (some g) := by
  rcases ho.2 with ⟨h1, _⟩ | ⟨g', cap, cur, fz, hv, hlo, hh, hzz, hnc, hm, hs, ht⟩
  · simp at h1
  simp only [Value.slice.injEq, Option.some.injEq, Addr.mk.injEq, true_and, and_true] at hv
  obtain ⟨rfl, rfl⟩ := hv
  rcases hz with hz | ⟨b', o', hA, hz⟩
  · rw [hz] at h0; simp at h0
  simp only [Option.some.injEq, Addr.mk.injEq, and_true] at hA
  obtain ⟨rfl, rfl⟩ := hA
  have hl6 : (cvs zs).length = n * 6 := by rw [cvs_len, hzn]
  have hr := run_copy_rowN (P := Try.prog) w 27 27 ty 44 6 n g (k * 6) dLen dCap ⟨b, o, none⟩ sLen sCap cur 44 fz (cvs zs) Try.underlying27 info_cell6 hh hzz hn hl6 (Gs.news hz) (by rw [hl6]; omega) (cvs_one zs)
  refine ⟨_, hr, ?_, ?_⟩
  · have hsz : (cur.toList.take (k * 6) ++ cvs zs ++ cur.toList.drop (k * 6 + (cvs zs).length)).toArray.size = cur.size := by
      simp only [List.size_toArray, List.length_append, List.length_take, List.length_drop, Array.length_toList, hl6]
      omega
    have hL : (spl cs k zs).length = cs.length := spl_len (by omega)
    refine ⟨by rw [cvs_len], .inr ⟨g, c, _, fz, rfl, hlo, setRow_heap w g cur _ _ _ hh, hzz.imp id (by rw [hsz]; exact id), by rw [hL]; exact hnc, hm, by rw [hsz]; exact hs, ?_⟩⟩
    rw [hL, spl, cvs_append, cvs_append, cvs_take, cvs_drop, ← ht, hl6, hzn]
    have hcur : cur.toList.length = c * 6 := by rw [Array.length_toList]; exact hs
    rw [show (k + n) * 6 = k * 6 + n * 6 by omega]
    exact lay_take _ _ hl6 (by omega) (by omega)
  · exact ⟨rfl, rfl, rfl, by simp, fun i _ hne => setRow_other w g i _ (by rintro rfl; exact hne rfl)⟩

set_option linter.unusedVariables false
set_option maxRecDepth 100000

/-- The run of a copy of cells behind those that are written already. -/
theorem copy_fill {w : World} {g N n dCap sLen dLen sCap : Nat} {cs zs : List Cl} (ty : TypeId) (hF : Fill w g 44 (N * 6) (cvs cs)) {b o : Nat} (hz : Gs w (some ⟨b, o, none⟩) zs) (h0 : 0 < zs.length) (hn : n = Nat.min sLen dLen) (hzn : zs.length = n) (hfit : cs.length + n ≤ N) :
    ∃ w', (Builtin.copy_ #[27, 27] ty #[.slice (some ⟨g, cs.length * 6, none⟩) dLen dCap, .slice (some ⟨b, o, none⟩) sLen sCap]).run Try.prog w = .ok (goInt n) w' ∧ Fill w' g 44 (N * 6) (cvs (cs ++ zs)) ∧ w.grownBy w' (some g) := by
  obtain ⟨cur, fz, hh, hzz, hs, ht, hd⟩ := hF
  rcases hz with hz | ⟨b', o', hA, hz⟩
  · rw [hz] at h0; simp at h0
  simp only [Option.some.injEq, Addr.mk.injEq, and_true] at hA
  obtain ⟨rfl, rfl⟩ := hA
  have hl6 : (cvs zs).length = n * 6 := by rw [cvs_len, hzn]
  have hr := run_copy_rowN (P := Try.prog) w 27 27 ty 44 6 n g (cs.length * 6) dLen dCap ⟨b, o, none⟩ sLen sCap cur 44 fz (cvs zs) Try.underlying27 info_cell6 hh hzz hn hl6 (Gs.news hz) (by rw [hl6]; omega) (cvs_one zs)
  have hcur : cur.toList.length = N * 6 := by rw [Array.length_toList]; exact hs
  have hsz : (cur.toList.take (cs.length * 6) ++ cvs zs ++ cur.toList.drop (cs.length * 6 + (cvs zs).length)).toArray.size = cur.size := by
    simp only [List.size_toArray, List.length_append, List.length_take, List.length_drop, Array.length_toList, hl6]
    omega
  refine ⟨_, hr, ⟨_, fz, setRow_heap w g cur _ _ _ hh, hzz.imp id (by rw [hsz]; exact id), by rw [hsz]; exact hs, ?_, ?_⟩, ⟨rfl, rfl, rfl, by simp, fun i _ hne => setRow_other w g i _ (by rintro rfl; exact hne rfl)⟩⟩
  · rw [cvs_append, List.length_append, cvs_len, hl6]
    rw [cvs_len] at ht
    rw [ht]
    exact List.take_left' (by rw [List.length_append, cvs_len, hl6])
  · rw [cvs_append, List.length_append, cvs_len, hl6]
    omega
theorem Gs.take {w : World} {A : Option Addr} {cs : List Cl} (h : Gs w A cs) (m : Nat) : Gs w A (cs.take m) := by
  rcases h with rfl | ⟨b, o, hA, h⟩
  · left; simp
  · refine .inr ⟨b, o, hA, fun i x hi j u hu => ?_⟩
    rw [List.getElem?_take] at hi
    split at hi
    · exact h i x hi j u hu
    · cases hi
def RepPost (w : World) (n : Nat) (x : Cl) (e : Ending) (w' : World) : Prop :=
  ∃ A' c', e = .returned (.slice A' n c') ∧ Og w' w.heap.size A' c' (List.replicate n x) ∧ Below w.heap.size w w'
set_option maxHeartbeats 4000000 in
theorem repeat_any (A : Option Addr) (c n : Nat) (x : Cl) (w : World) (ha : Gs w A [x]) (h0 : 1 ≤ n) (h1 : n ≤ 4000) :
    Calls Try.prog 120 #[.slice A 1 c, .int .i64 n] w (RepPost w n x) := by
  obtain ⟨i0, hi, hz0, hz1, hz2⟩ := info_parts info_cell
  obtain ⟨b, o, rfl, hbs, _⟩ := ha.get (k := 0) (by simp)
  have hu : IntKind.u64.wrap (n : Int) = (n : Int) := by rw [IntKind.wrap_u64]; omega
  have hk : IntKind.i64.wrap (n : Int) = (n : Int) := by rw [IntKind.wrap_i64]; omega
  have hw : wrap64 (n : Int) = (n : Int) := w64 ⟨by omega, by omega⟩
  have hn0 : (0 : Int) ≤ (n : Int) := by omega
  have hn1 : (n : Int) ≤ 4000 := by omega
  have hq1 : 1 * n / 18446744073709551616 = 0 := by omega
  have hq2 : 1 * n % 18446744073709551616 = n := by omega
  go_enter Try.func120, Try.ntmps120
  go_wp2_with (first | (go_at_call 140; refine (Try.bits_Mul 1 n (by omega) (by omega) _).mono ?_; rintro e w1 ⟨he, hw1⟩; replace hw1 := hw1.symm; subst hw1; rw [hq1, hq2] at he; subst he) | (at_make; refine wpList_make_full _ rfl _ _ _ rfl w.heap.size 44 i0 _ 6 Try.underlying27 hi hz0 hz1 _ _ _ _ n rfl rfl rfl rfl (by rw [hz2]; omega) (by unfold maxLen; omega) (Nat.le_refl _) ?_; intro w1 hown hgrow))
  have hF1 : Fill w1 w.heap.size 44 (n * 6) (cvs []) := by
    rcases hown.2 with ⟨hv, _⟩ | ⟨g, cap, cur, hv, _, hh, _, _, hc3, _⟩
    · cases hv
    · injection hv with hv _ hv3
      injection hv with hv
      injection hv with hv
      subst hv3 hv
      exact Fill.start hh (.inl rfl) (by omega)
  have hb1 : Below w.heap.size w w1 := (Below.refl _ _).grown hgrow (Nat.le_refl _) (by simp)
  clear hown hgrow hi hz0 hz1 hz2
  obtain ⟨w2, hr2, hF2, hg2⟩ := copy_fill (n := 1) (sLen := 1) (dLen := n) (dCap := n) (sCap := c) 3 hF1 (ha.below hb1) (by simp) (Nat.min_eq_left h0).symm rfl (by simpa using h0)
  simp only [List.length_nil, Nat.zero_mul] at hr2
  have hb2 : Below w.heap.size w w2 := hb1.grown hg2 hb1.size (by intro k hk; injection hk with hk; omega)
  rw [hr2]
  go_wp2_with fail
  clear hu hk hw hq1 hq2 hr2
  go_loopw [8] (fun i wr => ∃ k : Nat, 1 ≤ k ∧ k ≤ n ∧ i = .int .i64 k ∧ Fill wr w.heap.size 44 (n * 6) (cvs (List.replicate k x)) ∧ Below w.heap.size w wr) (fun i _ => n - (intOf i).toNat)
  case atStart => exact ⟨1, Nat.le_refl _, h0, rfl, hF2, hb2⟩
  case round =>
    clear hF1 hF2 hb1 hb2 hg2
    obtain ⟨k, hk1, hk2, rfl, hF, hb⟩ := hrel
    have zF := hF.lt
    by_cases hlt : k < n
    · have hlt' : (k : Int) < n := by omega
      have hle : (k : Int) ≤ n := by omega
      have hk0 : (0 : Int) ≤ k := by omega
      have hne : ¬ n = k := by omega
      obtain ⟨m, hm⟩ : ∃ m, Hid (m = Nat.min k (n - k)) := ⟨_, rfl⟩
      have hm1 : 1 ≤ m := by have := hm.out; simp only [Nat.min_def] at this; split at this <;> omega
      have hm2 : k + m ≤ n := by have := hm.out; simp only [Nat.min_def] at this; split at this <;> omega
      have hm3 : m ≤ k := by have := hm.out; simp only [Nat.min_def] at this; split at this <;> omega
      obtain ⟨k2, hk3⟩ : ∃ k2, Hid (k2 = k + m) := ⟨_, rfl⟩
      have hFd : Fill wr.drew w.heap.size 44 (n * 6) (cvs (List.replicate k x)) := hF
      have hgs : Gs wr.drew (some ⟨w.heap.size, 0, none⟩) (List.replicate m x) := by
        have := hFd.gs.take m
        rwa [List.take_replicate, Nat.min_eq_left hm3] at this
      obtain ⟨w3, hr3, hF3, hg3⟩ := copy_fill (n := m) (sLen := k) (dLen := n - k) (dCap := n - k) (sCap := n) 3 hFd hgs (by simp; omega) hm.out (by simp) (by simpa using hm2)
      rw [List.length_replicate] at hr3
      rw [List.replicate_append_replicate, ← hk3.out] at hF3
      have hb3 : Below w.heap.size w w3 := (hb.drew).grown hg3 (hb.drew).size (by intro k hk; injection hk with hk; omega)
      have hk4 : k2 ≤ n := by have := hk3.out; omega
      have hk5 : 1 ≤ k2 := by have := hk3.out; omega
      have hk6 : k2 ≤ 1048576 := by omega
      have hk7 : k < k2 := by have := hk3.out; omega
      have hi5 : -1048576 ≤ (k2 : Int) := by omega
      have hi6 : (k2 : Int) ≤ 1048576 := by omega
      obtain ⟨e2k, e2, e3⟩ := add_natk hk3.out hk6
      obtain ⟨eik, eiw⟩ := small_k hi5 hi6
      clear hF hFd hgs zF
      go_wp2_with fail
      go_region
      clear e2k e2 e3 eik eiw
      go_wp2_with fail
      go_roundw
      case rel => exact ⟨k2, hk5, hk4, rfl, hF3, hb3⟩
      case measure => simp [intOf]; omega
    · have hkn : k = n := by omega
      rw [hkn] at hF
      have hlt' : ¬ (k : Int) < n := by omega
      clear hkn
      go_wp2_with fail
      go_ret
      exact ⟨_, _, rfl, Og.of_fill hF (by simp) (Nat.le_refl _) (by unfold maxLen; omega), hb⟩
end Go.Proofs.Ytnilgcahggmncaa
