/- A valid disk stays valid, plainly. What a valid disk is bounded by. A disk behind a crash, plainly: valid, and it holds what was safe. -/
import Derived.Test.YtndmdhmghjfckaaPl
import Derived.Test.YtndmdhmghjfckaaHq
namespace Go.Proofs.Ytndmdhmghjfckaa
open Go.RowKit

set_option linter.unusedVariables false
set_option maxRecDepth 100000

def cu (cs : List Fc) : Nat := (cs.map fun x => x.2.1.length).sum
theorem ftot_cu (es : List Fl) : ftot es = cu (es.map fc) := by rw [cu, List.map_map]; rfl
/-- A disk is valid. -/
structure Vd (r f n : Int) (cs : List Fc) (ks : List Lk) (ts : List Tn) : Prop where
  hr : 0 ≤ r ∧ r ≤ 400000
  hf : -1 ≤ f ∧ f ≤ 1000
  hn : 1 ≤ n ∧ n ≤ 1000000
  fl : cs.length ≤ 10
  kl : ks.length ≤ 10
  tl : ts.length ≤ 30
  hu : (cu cs : Int) ≤ r
  fb : fB n 0 cs = true
  kb : kB ByteArray.empty ks = true
  ri : runI ks ts = true
  ib : idB (idsOf ks ts) (cs.map fun x => x.1) = true
theorem vd_iff {r f n : Int} {cs : List Fc} {ks : List Lk} {ts : List Tn} : dkB r f n cs (cu cs) ks ts = true ↔ Vd r f n cs ks ts := by
  rw [dk_eq, linkB]
  simp only [Bool.and_eq_true, decide_eq_true_eq]
  constructor
  · rintro ⟨⟨⟨⟨h1, h2⟩, h3⟩, ⟨h4, h5⟩, h6⟩, ⟨⟨⟨h7, h8⟩, h9⟩, h10⟩, h11⟩
    exact ⟨h1, h2, h3, by omega, by omega, by omega, h6, h4, h9, h10, by rw [← srt_eq (fB_asc n cs 0 h4).2]; exact decide_eq_true h11⟩
  · intro h
    refine ⟨⟨⟨⟨h.hr, h.hf⟩, h.hn⟩, ⟨h.fb, by have := h.fl; omega⟩, h.hu⟩, ⟨⟨⟨by have := h.tl; omega, by have := h.kl; omega⟩, h.kb⟩, h.ri⟩, ?_⟩
    have := h.ib
    rw [← srt_eq (fB_asc n cs 0 h.fb).2] at this
    exact of_decide_eq_true this
variable {r f n : Int} {cs : List Fc} {ks : List Lk} {ts : List Tn}
theorem Vd.fuse (h : Vd r f n cs ks ts) {f' : Int} (hf : -1 ≤ f' ∧ f' ≤ 1000) : Vd r f' n cs ks ts := ⟨h.hr, hf, h.hn, h.fl, h.kl, h.tl, h.hu, h.fb, h.kb, h.ri, h.ib⟩
theorem idB_iff {ids fids : List Int} : idB ids fids = true ↔ ids.length = fids.length ∧ ids.Nodup ∧ ∀ x, x ∈ ids → x ∈ fids := by
  rw [idB]
  simp only [Bool.and_eq_true, decide_eq_true_eq, List.all_eq_true]
  exact ⟨fun ⟨⟨a, b⟩, c⟩ => ⟨a, b, c⟩, fun ⟨a, b, c⟩ => ⟨⟨a, b⟩, c⟩⟩
theorem fB_mem : ∀ (n : Int) (l : List Fc) (p : Int), fB n p l = true → ∀ x, x ∈ l → 1 ≤ x.1 ∧ x.1 < n ∧ p < x.1 ∧ 0 ≤ x.2.2 ∧ x.2.2 ≤ x.2.1.length
  | _, [], _, _, x, hx => by simp at hx
  | n, y :: r, p, h, x, hx => by
    rw [fB] at h
    simp only [Bool.and_eq_true, decide_eq_true_eq] at h
    rcases List.mem_cons.1 hx with rfl | hx
    · exact h.1
    · have := fB_mem n r y.1 h.2 x hx
      omega
theorem fB_mono : ∀ (n : Int) (l : List Fc) (p p' : Int), p' ≤ p → fB n p l = true → fB n p' l = true
  | _, [], _, _, _, _ => rfl
  | n, y :: r, p, p', hp, h => by
    rw [fB] at h ⊢
    simp only [Bool.and_eq_true, decide_eq_true_eq] at h ⊢
    exact ⟨by omega, h.2⟩
theorem fB_filter (q : Fc → Bool) : ∀ (n : Int) (l : List Fc) (p : Int), fB n p l = true → fB n p (l.filter q) = true
  | _, [], _, _ => rfl
  | n, y :: r, p, h => by
    rw [fB] at h
    simp only [Bool.and_eq_true, decide_eq_true_eq] at h
    have ih := fB_filter q n r y.1 h.2
    rw [List.filter_cons]
    split
    · rw [fB]
      simp only [Bool.and_eq_true, decide_eq_true_eq]
      exact ⟨h.1, ih⟩
    · exact fB_mono n _ y.1 p (by omega) ih
theorem fB_app : ∀ (n : Int) (l : List Fc) (p : Int), 1 ≤ n → p < n → fB n p l = true → fB (n + 1) p (l ++ [(n, [], 0)]) = true
  | n, [], p, h1, h2, _ => by
    simp only [List.nil_append, fB, Bool.and_eq_true, decide_eq_true_eq, List.length_nil, and_true]
    omega
  | n, y :: r, p, h1, h2, h => by
    rw [fB] at h
    simp only [Bool.and_eq_true, decide_eq_true_eq] at h
    rw [List.cons_append, fB]
    simp only [Bool.and_eq_true, decide_eq_true_eq]
    exact ⟨by omega, fB_app n r y.1 h1 (by omega) h.2⟩
/-- Another body, another safe part, the same Ids. -/
theorem fB_like : ∀ (n : Int) (l l' : List Fc) (p : Int), l'.map (fun x => x.1) = l.map (fun x => x.1) → (∀ x, x ∈ l' → 0 ≤ x.2.2 ∧ x.2.2 ≤ x.2.1.length) → fB n p l = true → fB n p l' = true
  | _, [], [], _, _, _, _ => rfl
  | _, [], _ :: _, _, h, _, _ => by simp at h
  | _, _ :: _, [], _, h, _, _ => by simp at h
  | n, y :: r, y' :: r', p, he, hs, h => by
    rw [fB] at h ⊢
    simp only [Bool.and_eq_true, decide_eq_true_eq] at h ⊢
    simp only [List.map_cons, List.cons.injEq] at he
    have := hs y' (List.mem_cons_self ..)
    refine ⟨by rw [he.1]; omega, ?_⟩
    rw [he.1]
    exact fB_like n r r' y.1 he.2 (fun x hx => hs x (List.mem_cons_of_mem _ hx)) h.2
theorem Vd.like (h : Vd r f n cs ks ts) {cs' : List Fc} (hi : cs'.map (fun x => x.1) = cs.map (fun x => x.1)) (hs : ∀ x, x ∈ cs' → 0 ≤ x.2.2 ∧ x.2.2 ≤ x.2.1.length) (hu : (cu cs' : Int) ≤ r) : Vd r f n cs' ks ts :=
  ⟨h.hr, h.hf, h.hn, by have := congrArg List.length hi; simp only [List.length_map] at this; rw [this]; exact h.fl, h.kl, h.tl, hu, fB_like n cs cs' 0 hi hs h.fb, h.kb, h.ri, by rw [hi]; exact h.ib⟩
theorem runI_app : ∀ (ts : List Tn) (ks : List Lk) (t : Tn), runI ks (ts ++ [t]) = (runI ks ts && (fieldB t && okI (dirS ks ts) t))
  | [], ks, t => by simp [runI, dirS]
  | u :: r, ks, t => by
    rw [List.cons_append, runI, runI_app r (turnS ks u) t, runI]
    have e : dirS ks (u :: r) = dirS (turnS ks u) r := rfl
    rw [e]
    simp only [Bool.and_assoc]
theorem mkIds_app (ts : List Tn) (t : Tn) : mkIds (ts ++ [t]) = mkIds ts ++ if t.1 = 1 then [t.2.2.2] else [] := by
  rw [mkIds, mkIds, List.filter_append, List.map_append]
  congr 1
  by_cases h : t.1 = 1 <;> simp [h]
theorem Vd.ids (h : Vd r f n cs ks ts) : ∀ x, x ∈ idsOf ks ts → 1 ≤ x ∧ x < n := fun x hx => by
  have h1 := (idB_iff.1 h.ib).2.2 x hx
  obtain ⟨y, hy, rfl⟩ := List.mem_map.1 h1
  have := fB_mem n cs 0 h.fb y hy
  omega
theorem noB_empty : noB ByteArray.empty = true := decide_eq_true (by simp [ByteArray.toList_eq])
/-- A file more. -/
theorem Vd.create (h : Vd r f n cs ks ts) {s : ByteArray} (h1 : ¬ cs.length = 10) (h2 : ¬ n = 1000000) (h3 : ¬ ts.length = 30) (hs : nmB s = true) (hno : hasN (dirS ks ts) s = false) :
    Vd r f (n + 1) (cs ++ [(n, [], 0)]) ks (ts ++ [(1, s, ByteArray.empty, n)]) := by
  obtain ⟨i1, i2, i3⟩ := idB_iff.1 h.ib
  have hfl := h.fl
  have htl := h.tl
  have hn := h.hn
  refine ⟨h.hr, h.hf, by omega, by rw [List.length_append, List.length_singleton]; omega, h.kl, by rw [List.length_append, List.length_singleton]; omega, ?_, fB_app n cs 0 hn.1 (by omega) h.fb, h.kb, ?_, ?_⟩
  · have e : cu (cs ++ [(n, [], 0)]) = cu cs := by simp [cu]
    rw [e]
    exact h.hu
  · rw [runI_app, h.ri, fieldB, if_pos rfl, okI, if_pos rfl]
    show (true && ((nmB s && noB ByteArray.empty) && !hasN (dirS ks ts) s)) = true
    rw [hs, hno, noB_empty]
    rfl
  · rw [idB_iff]
    have e : idsOf ks (ts ++ [(1, s, ByteArray.empty, n)]) = idsOf ks ts ++ [n] := by
      rw [idsOf, mkIds_app, ← List.append_assoc]
      rfl
    rw [e, List.map_append]
    refine ⟨by simp [i1], ?_, ?_⟩
    · rw [List.nodup_append]
      refine ⟨i2, by simp, ?_⟩
      intro a ha b hb
      have := h.ids a ha
      simp only [List.mem_singleton] at hb
      omega
    · intro x hx
      rcases List.mem_append.1 hx with hx | hx
      · exact List.mem_append_left _ (i3 x hx)
      · exact List.mem_append_right _ (by simpa using hx)
/-- A turn more, none that creates. -/
theorem Vd.turn (h : Vd r f n cs ks ts) {t : Tn} (ht : ¬ t.1 = 1) (h3 : ¬ ts.length = 30) (hf : fieldB t = true) (ho : okI (dirS ks ts) t = true) : Vd r f n cs ks (ts ++ [t]) := by
  have htl := h.tl
  refine ⟨h.hr, h.hf, h.hn, h.fl, h.kl, by rw [List.length_append, List.length_singleton]; omega, h.hu, h.fb, h.kb, ?_, ?_⟩
  · rw [runI_app, h.ri, hf, ho]
    rfl
  · rw [idsOf, mkIds_app, if_neg ht, List.append_nil]
    exact h.ib
theorem withS_perm (m : ByteArray) (i : Int) : ∀ d : List Lk, (withS d m i).Perm ((m, i) :: d)
  | [] => List.Perm.refl _
  | x :: r => by
    rw [withS]
    split
    · exact List.Perm.refl _
    · exact ((withS_perm m i r).cons x).trans (List.Perm.swap ..)
theorem findS_in {m : ByteArray} : ∀ (dir : List Lk), hasN dir m = true → ∃ x, x ∈ dir ∧ x.1 = m ∧ x.2 = findS dir m
  | [], h => by simp [hasN] at h
  | x :: r, h => by
    rw [findS]
    cases hx : eqN x.1 m with
    | true => exact ⟨x, List.mem_cons_self .., eqN_iff.1 hx, by rw [if_pos rfl]⟩
    | false =>
      rw [hasN, List.any_cons, hx, Bool.false_or] at h
      obtain ⟨y, hy, h1, he⟩ := findS_in r h
      exact ⟨y, List.mem_cons_of_mem _ hy, h1, by rw [if_neg (by simp)]; exact he⟩
theorem inj_nodup {a b : Lk} : ∀ {l : List Lk}, (l.map (fun x => x.2)).Nodup → a ∈ l → b ∈ l → a.2 = b.2 → a = b
  | [], _, h, _, _ => by simp at h
  | x :: r, hn, ha, hb, he => by
    rw [List.map_cons, List.nodup_cons] at hn
    rcases List.mem_cons.1 ha with h1 | h1 <;> rcases List.mem_cons.1 hb with h2 | h2
    · rw [h1, h2]
    · exact absurd (List.mem_map.2 ⟨b, h2, by rw [← he, h1]⟩) hn.1
    · exact absurd (List.mem_map.2 ⟨a, h1, by rw [he, h2]⟩) hn.1
    · exact inj_nodup hn.2 h1 h2 he
theorem nodup_step {dir : List Lk} {t : Tn} {l : List Tn} (ho : okI dir t = true) (h : (idsOf dir (t :: l)).Nodup) : (idsOf (turnS dir t) l).Nodup := by
  unfold turnS
  split
  · rename_i h1
    have e : idsOf dir (t :: l) = dir.map (fun x => x.2) ++ (t.2.2.2 :: mkIds l) := by
      rw [idsOf, mkIds, List.filter_cons, if_pos (by simpa using h1)]
      rfl
    rw [e] at h
    rw [idsOf]
    have hp : ((withS dir t.2.1 t.2.2.2).map (fun x => x.2)).Perm (t.2.2.2 :: dir.map (fun x => x.2)) := by
      simpa using (withS_perm t.2.1 t.2.2.2 dir).map (fun x => x.2)
    refine ((hp.append_right (mkIds l)).nodup_iff).2 ?_
    rw [List.cons_append]
    exact (List.perm_middle.nodup_iff).1 h
  · rename_i h1
    have e : idsOf dir (t :: l) = dir.map (fun x => x.2) ++ mkIds l := by
      rw [idsOf, mkIds, List.filter_cons, if_neg (by simpa using h1)]
      rfl
    rw [e] at h
    obtain ⟨hd1, hd2, hd3⟩ := List.nodup_append.1 h
    split
    · rename_i h4
      rw [okI, if_neg h1] at ho
      obtain ⟨y, hy, hye⟩ := findS_mem dir (Bool.and_eq_true_iff.1 ho).1
      rw [idsOf]
      have hp : ((withS (lessS (lessS dir t.2.1) t.2.2.1) t.2.2.1 (findS dir t.2.1)).map (fun x => x.2)).Perm (findS dir t.2.1 :: (lessS (lessS dir t.2.1) t.2.2.1).map (fun x => x.2)) := by
        simpa using (withS_perm t.2.2.1 (findS dir t.2.1) (lessS (lessS dir t.2.1) t.2.2.1)).map (fun x => x.2)
      refine ((hp.append_right (mkIds l)).nodup_iff).2 ?_
      have hsub : (lessS (lessS dir t.2.1) t.2.2.1).Sublist dir := List.Sublist.trans (List.filter_sublist ..) (List.filter_sublist ..)
      rw [List.cons_append, List.nodup_cons]
      refine ⟨?_, h.sublist ((hsub.map _).append (List.Sublist.refl _))⟩
      intro hm
      rcases List.mem_append.1 hm with hm | hm
      · obtain ⟨z, hz, hze⟩ := List.mem_map.1 hm
        have hz2 : z ∈ lessS dir t.2.1 := (List.mem_filter.1 hz).1
        have hz3 : z ∈ dir := (List.mem_filter.1 hz2).1
        have hz4 := lessS_no dir t.2.1 z hz2
        obtain ⟨x0, hx0, hx1, hx2⟩ := findS_in dir (Bool.and_eq_true_iff.1 ho).1
        have : z = x0 := inj_nodup hd1 hz3 hx0 (by rw [hze, hx2])
        exact hz4 (by rw [this, hx1])
      · exact hd3 _ (List.mem_map.2 ⟨y, hy, hye⟩) _ hm rfl
    · rw [idsOf]
      have hsub : (lessS dir t.2.1).Sublist dir := List.filter_sublist ..
      exact h.sublist ((hsub.map _).append (List.Sublist.refl _))
theorem dir_nodup : ∀ (ts : List Tn) (ks : List Lk), runI ks ts = true → (idsOf ks ts).Nodup → ((dirS ks ts).map fun x => x.2).Nodup
  | [], ks, _, h => by
    show (ks.map fun x => x.2).Nodup
    simpa [idsOf, mkIds] using h
  | t :: r, ks, h, hn => by
    rw [runI] at h
    simp only [Bool.and_eq_true] at h
    exact dir_nodup r (turnS ks t) h.2 (nodup_step h.1.2 hn)
theorem dir_srt : ∀ (ts : List Tn) (ks : List Lk), runI ks ts = true → Srt ks → Srt (dirS ks ts)
  | [], _, _, h => h
  | t :: r, ks, h, hs => by
    rw [runI] at h
    simp only [Bool.and_eq_true] at h
    exact dir_srt r (turnS ks t) h.2 (turnS_srt hs h.1.2)
theorem turn_nmD {dir : List Lk} {t : Tn} (ht : fieldB t = true) (hd : ∀ x, x ∈ dir → nmB x.1 = true) {x : Lk} (hx : x ∈ turnS dir t) : nmB x.1 = true := by
  unfold turnS at hx
  unfold fieldB at ht
  split at hx
  · rename_i h1
    rw [if_pos h1] at ht
    rcases mem_withS dir hx with rfl | hx
    · exact (Bool.and_eq_true_iff.1 ht).1
    · exact hd x hx
  · rename_i h1
    rw [if_neg h1] at ht
    split at hx
    · rename_i h4
      rw [if_pos h4] at ht
      rcases mem_withS _ hx with rfl | hx
      · exact (Bool.and_eq_true_iff.1 (Bool.and_eq_true_iff.1 ht).1).2
      · exact hd x (List.mem_filter.1 (List.mem_filter.1 hx).1).1
    · exact hd x (List.mem_filter.1 hx).1
theorem dir_nmD : ∀ (ts : List Tn) (ks : List Lk), runI ks ts = true → (∀ x, x ∈ ks → nmB x.1 = true) → ∀ x, x ∈ dirS ks ts → nmB x.1 = true
  | [], ks, _, hk, x, hx => hk x hx
  | t :: r, ks, h, hk, x, hx => by
    rw [runI] at h
    simp only [Bool.and_eq_true] at h
    exact dir_nmD r (turnS ks t) h.2 (fun y hy => turn_nmD h.1.1 hk hy) x hx
theorem kB_nmD : ∀ (ks : List Lk) (p : ByteArray), kB p ks = true → ∀ x, x ∈ ks → nmB x.1 = true
  | [], _, _, x, hx => by simp at hx
  | y :: r, p, h, x, hx => by
    rw [kB] at h
    simp only [Bool.and_eq_true] at h
    rcases List.mem_cons.1 hx with rfl | hx
    · exact h.1.1
    · exact kB_nmD r _ h.2 x hx
theorem kB_of : ∀ (ks : List Lk) (p : ByteArray), (∀ x, x ∈ ks → nmB x.1 = true ∧ ltN p x.1 = true) → Srt ks → kB p ks = true
  | [], _, _, _ => rfl
  | y :: r, p, h, hs => by
    obtain ⟨h1, h2⟩ := List.pairwise_cons.1 hs
    rw [kB, (h y (List.mem_cons_self ..)).1, (h y (List.mem_cons_self ..)).2]
    exact kB_of r y.1 (fun x hx => ⟨(h x (List.mem_cons_of_mem _ hx)).1, h1 x hx⟩) h2
theorem cu_filter (q : Fc → Bool) : ∀ cs : List Fc, cu (cs.filter q) ≤ cu cs
  | [] => Nat.le_refl _
  | x :: r => by
    have := cu_filter q r
    rw [List.filter_cons]
    split
    · simp only [cu, List.map_cons, List.sum_cons] at this ⊢
      omega
    · simp only [cu, List.map_cons, List.sum_cons] at this ⊢
      omega
theorem sub_len {α : Type} [DecidableEq α] {a b : List α} (h : a.Nodup) (hs : ∀ x, x ∈ a → x ∈ b) : a.length ≤ b.length := List.Nodup.length_le_of_subset h hs
/-- Behind some of the turns: the directory is kept, and what it links. -/
theorem Vd.dir (h : Vd r f n cs ks ts) {f' : Int} (hf : -1 ≤ f' ∧ f' ≤ 1000) (j : Nat) : Vd r f' n (keepC (dirS ks (ts.take j)) cs) (dirS ks (ts.take j)) [] ∧ (dirS ks (ts.take j)).length = (keepC (dirS ks (ts.take j)) cs).length := by
  have hrj := runI_take ts ks j h.ri
  obtain ⟨i1, i2, i3⟩ := idB_iff.1 h.ib
  have hsubl : (idsOf ks (ts.take j)).Sublist (idsOf ks ts) := by
    rw [idsOf, idsOf]
    refine (List.Sublist.refl _).append ?_
    rw [mkIds, mkIds]
    exact ((List.take_sublist ..).filter _).map _
  have hnd := dir_nodup (ts.take j) ks hrj (i2.sublist hsubl)
  have hdv : dkB r f n cs (cu cs) ks ts = true := vd_iff.2 h
  have hfl := dir_files hdv j
  have hasc := (fB_asc n cs 0 h.fb).2
  have hcn := asc_nodup hasc
  obtain ⟨D, hD⟩ : ∃ D, dirS ks (ts.take j) = D := ⟨_, rfl⟩
  have hnm := dir_nmD (ts.take j) ks hrj (kB_nmD ks _ h.kb)
  have hsr := dir_srt (ts.take j) ks hrj (kB_srt ks _ h.kb)
  rw [hD] at hnd hfl hnm hsr ⊢
  have hkid : (keepC D cs).map (fun x => x.1) = (cs.map fun x => x.1).filter fun i => D.any fun l => l.2 == i := by
    rw [keepC, List.filter_map]
    rfl
  have hkn : ((keepC D cs).map fun x => x.1).Nodup := by rw [hkid]; exact hcn.filter _
  have hsub1 : ∀ x, x ∈ D.map (fun y => y.2) → x ∈ (keepC D cs).map fun y => y.1 := by
    intro x hx
    obtain ⟨y, hy, rfl⟩ := List.mem_map.1 hx
    rw [hkid, List.mem_filter]
    exact ⟨(hfl y hy).1, List.any_eq_true.2 ⟨y, hy, by simp⟩⟩
  have hsub2 : ∀ x, x ∈ (keepC D cs).map (fun y => y.1) → x ∈ D.map fun y => y.2 := by
    intro x hx
    rw [hkid, List.mem_filter] at hx
    obtain ⟨y, hy, he⟩ := List.any_eq_true.1 hx.2
    exact List.mem_map.2 ⟨y, hy, by simpa using he⟩
  have hlen : (D.map fun y => y.2).length = ((keepC D cs).map fun x => x.1).length := Nat.le_antisymm (sub_len hnd hsub1) (sub_len hkn hsub2)
  have hl2 : (keepC D cs).length ≤ cs.length := List.length_filter_le ..
  have hfl10 := h.fl
  have hl3 : D.length = (keepC D cs).length := by simpa using hlen
  refine ⟨⟨h.hr, hf, h.hn, by omega, by omega, by simp, ?_, fB_filter _ n cs 0 h.fb, kB_of D _ (fun x hx => ⟨hnm x hx, lt_empty (hnm x hx)⟩) hsr, rfl, ?_⟩, hl3⟩
  · have h1 := h.hu
    have h2 := cu_filter (fun x => D.any fun l => l.2 == x.1) cs
    show (cu (cs.filter _) : Int) ≤ r
    omega
  · rw [idB_iff]
    have e : idsOf D [] = D.map fun x => x.2 := by simp [idsOf, mkIds]
    rw [e]
    exact ⟨hlen, hnd, hsub1⟩
theorem crC_ids (cuts : List Int) : ∀ (i : Nat) (l : List Fc), (crC cuts i l).map (fun x => x.1) = l.map fun x => x.1
  | _, [] => rfl
  | i, x :: r => by
    rw [crC, List.map_cons, List.map_cons, crC_ids cuts (i + 1) r]
    rfl
theorem crC_mem (cuts : List Int) : ∀ (i : Nat) (l : List Fc), (∀ x, x ∈ l → 0 ≤ x.2.2 ∧ x.2.2 ≤ x.2.1.length) → ∀ y, y ∈ crC cuts i l → ∃ k x, x ∈ l ∧ y = cutC k x
  | _, [], _, y, hy => by simp [crC] at hy
  | i, x :: r, h, y, hy => by
    rw [crC] at hy
    rcases List.mem_cons.1 hy with rfl | hy
    · exact ⟨_, x, List.mem_cons_self .., rfl⟩
    · obtain ⟨k, z, hz, he⟩ := crC_mem cuts (i + 1) r (fun x hx => h x (List.mem_cons_of_mem _ hx)) y hy
      exact ⟨k, z, List.mem_cons_of_mem _ hz, he⟩
theorem crC_cu (cuts : List Int) : ∀ (i : Nat) (l : List Fc), cu (crC cuts i l) ≤ cu l
  | _, [] => Nat.le_refl _
  | i, x :: r => by
    have := crC_cu cuts (i + 1) r
    simp only [crC, cu, List.map_cons, List.sum_cons, cutC, List.length_take] at this ⊢
    omega
theorem Vd.safe (h : Vd r f n cs ks ts) : ∀ x, x ∈ cs → 0 ≤ x.2.2 ∧ x.2.2 ≤ x.2.1.length := fun x hx => by
  have := fB_mem n cs 0 h.fb x hx
  omega
/-- Cut, it is valid. -/
theorem Vd.cut (h : Vd r f n cs ks ts) (cuts : List Int) : Vd r f n (crC cuts 0 cs) ks ts := by
  refine h.like (crC_ids cuts 0 cs) ?_ ?_
  · intro y hy
    obtain ⟨k, x, hx, rfl⟩ := crC_mem cuts 0 cs h.safe y hy
    have h1 := h.safe x hx
    have h2 := cutN_le (k := k) h1.2
    have h3 : (cutC k x).2.2 = (cutN k x : Int) := rfl
    have h4 : (cutC k x).2.1.length = min (cutN k x) x.2.1.length := by simp [cutC]
    rw [h3, h4]
    omega
  · have h1 := h.hu
    have h2 := crC_cu cuts 0 cs
    omega

set_option linter.unusedVariables false
set_option maxRecDepth 100000

theorem nm_len {s : ByteArray} (h : nmB s = true) : s.data.toList.length ≤ 16 := by
  unfold nmB plainR at h
  have := of_decide_eq_true (Bool.and_eq_true_iff.1 h).2
  omega
theorem no_len {s : ByteArray} (h : noB s = true) : s.data.toList.length ≤ 16 := by
  have h1 : s.toList = [] := of_decide_eq_true h
  have h2 : s.toList = s.data.toList := by simp [ByteArray.toList_eq]
  rw [← h2, h1]
  simp
theorem field_len {t : Tn} (h : fieldB t = true) : t.2.1.data.toList.length ≤ 16 ∧ t.2.2.1.data.toList.length ≤ 16 := by
  unfold fieldB at h
  split at h
  · exact ⟨nm_len (Bool.and_eq_true_iff.1 h).1, no_len (Bool.and_eq_true_iff.1 h).2⟩
  · split at h
    · have h1 := Bool.and_eq_true_iff.1 (Bool.and_eq_true_iff.1 h).1
      exact ⟨nm_len h1.1, nm_len h1.2⟩
    · split at h
      · have h1 := Bool.and_eq_true_iff.1 (Bool.and_eq_true_iff.1 h).1
        exact ⟨nm_len h1.1, no_len h1.2⟩
      · cases h
theorem run_fields : ∀ (ts : List Tn) (ks : List Lk), runI ks ts = true → ∀ t, t ∈ ts → fieldB t = true
  | [], _, _, t, ht => by simp at ht
  | u :: r, ks, h, t, ht => by
    rw [runI] at h
    simp only [Bool.and_eq_true] at h
    rcases List.mem_cons.1 ht with rfl | ht
    · exact h.1.1
    · exact run_fields r _ h.2 t ht
theorem cu_mem {cs : List Fc} {x : Fc} (h : x ∈ cs) : x.2.1.length ≤ cu cs := mem_sum (fun x : Fc => x.2.1.length) h
theorem Vd.good {r f n : Int} {es : List Fl} {ks : List Lk} {ts : List Tn} (h : Vd r f n (es.map fc) ks ts) : Good es ks ts := by
  have hl := h.fl
  rw [List.length_map] at hl
  have hu := h.hu
  have hr := h.hr
  have hn := h.hn
  have hk := h.kl
  have ht := h.tl
  rw [← ftot_cu] at hu
  have hm : ∀ e, e ∈ es → (1 ≤ e.1 ∧ e.1 < n) ∧ (0 ≤ e.2.2 ∧ e.2.2 ≤ e.2.1.2.2.length) ∧ e.2.1.2.2.length ≤ 400000 := by
    intro e he
    have h1 := fB_mem n _ 0 h.fb (fc e) (List.mem_map.2 ⟨e, he, rfl⟩)
    have h2 : e.2.1.2.2.length ≤ ftot es := mem_sum (fun x : Fl => x.2.1.2.2.length) he
    have h3 : (fc e).1 = e.1 := rfl
    have h4 : (fc e).2.2 = e.2.2 := rfl
    have h5 : (fc e).2.1 = e.2.1.2.2 := rfl
    rw [h3, h4, h5] at h1
    omega
  refine ⟨by omega, by omega, ?_, ?_, by omega, ?_, by omega, ?_⟩
  · intro e he
    have := hm e he
    exact ⟨by unfold bd; omega, by unfold bd; omega⟩
  · intro e he
    have := hm e he
    omega
  · intro x hx
    have := nm_len (kB_nmD ks _ h.kb x hx)
    omega
  · intro t ht
    have := field_len (run_fields ts ks h.ri t ht)
    omega

set_option linter.unusedVariables false
set_option maxRecDepth 100000

variable {r f n : Int} {cs : List Fc} {ks : List Lk} {ts : List Tn}
theorem inj_asc {a b : Fc} : ∀ {l : List Fc}, (l.map (fun x => x.1)).Nodup → a ∈ l → b ∈ l → a.1 = b.1 → a = b
  | [], _, h, _, _ => by simp at h
  | x :: r, hn, ha, hb, he => by
    rw [List.map_cons, List.nodup_cons] at hn
    rcases List.mem_cons.1 ha with h1 | h1 <;> rcases List.mem_cons.1 hb with h2 | h2
    · rw [h1, h2]
    · exact absurd (List.mem_map.2 ⟨b, h2, by rw [← he, h1]⟩) hn.1
    · exact absurd (List.mem_map.2 ⟨a, h1, by rw [he, h2]⟩) hn.1
    · exact inj_asc hn.2 h1 h2 he
theorem crC_len (cuts : List Int) : ∀ (i : Nat) (l : List Fc), (crC cuts i l).length = l.length
  | _, [] => rfl
  | i, x :: r => by rw [crC, List.length_cons, List.length_cons, crC_len cuts (i + 1) r]
/-- The disk behind a crash. -/
def crK (m : Nat) (ks : List Lk) (ts : List Tn) : List Lk := dirS ks (ts.take m)
def crF2 (m : Nat) (cuts : List Int) (cs : List Fc) (ks : List Lk) (ts : List Tn) : List Fc := crC cuts 0 (keepC (crK m ks ts) cs)
theorem Vd.crash (h : Vd r f n cs ks ts) (m : Nat) (cuts : List Int) : Vd r (-1) n (crF2 m cuts cs ks ts) (crK m ks ts) [] ∧ (crK m ks ts).length = (crF2 m cuts cs ks ts).length := by
  obtain ⟨h1, h2⟩ := h.dir (f' := -1) (by omega) m
  exact ⟨h1.cut cuts, by rw [crF2, crC_len]; exact h2⟩
theorem Vd.kept (h : Vd r f n cs ks ts) (m : Nat) (cuts : List Int) : ∀ x, x ∈ crF2 m cuts cs ks ts → (∃ y, y ∈ cs ∧ y.1 = x.1) ∧ ∀ y, y ∈ cs → y.1 = x.1 → y.2.2 ≤ x.2.1.length ∧ x.2.1.length ≤ y.2.1.length ∧ y.2.1.take x.2.1.length = x.2.1 ∧ x.2.2 = x.2.1.length := by
  intro x hx
  have hk : ∀ z, z ∈ keepC (crK m ks ts) cs → z ∈ cs := fun z hz => (List.mem_filter.1 hz).1
  obtain ⟨k, z, hz, rfl⟩ := crC_mem cuts 0 _ (fun z hz => h.safe z (hk z hz)) x hx
  have hzc := hk z hz
  refine ⟨⟨z, hzc, rfl⟩, fun y hy he => ?_⟩
  have hyz : y = z := inj_asc (asc_nodup (fB_asc n cs 0 h.fb).2) hy hzc he
  subst hyz
  have h1 := h.safe y hy
  have h2 := cutN_le (k := k) h1.2
  have h3 := cutN_eq (k := k) h1.1
  have h4 : (cutC k y).2.1 = y.2.1.take (cutN k y) := rfl
  have h5 : (cutC k y).2.2 = (cutN k y : Int) := rfl
  have h6 : (cutC k y).2.1.length = cutN k y := by rw [h4, List.length_take]; omega
  rw [h5, h6, h4]
  refine ⟨by omega, h2, rfl, rfl⟩
end Go.Proofs.Ytndmdhmghjfckaa
