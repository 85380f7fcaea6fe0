/- The directory of a disk: both ways. The directory of a disk: the law. -/
import Derived.Test.YtndmdhmghjfckaaVe
import Derived.Test.YtndmdhmghjfckaaMa
namespace Go.Proofs.Ytndmdhmghjfckaa
open Go.RowKit

set_option linter.unusedVariables false
set_option maxRecDepth 100000

section
variable {ops : Array Oper} {rest : List Oper} {o : Oper} {a : Act} {Q : Exit → Act → World → Prop}
/-- append(s, ys...) onto a slice of one's own; ys may be nil. -/
theorem wp_appO {T : Type} {k : Nat} {enc : T → List Value} (S E : TypeId) (z : Value) (bytes : Nat) (hS : Try.prog.underlying S = some (.slice E)) (hinfo : (Try.prog.info? E).map (fun i => (i.zero, i.size, i.bytes)) = some (some z, k, bytes)) (hby : bytes ≤ 64) (hzk : z.cells.size = k) (h0 : 0 < k)
    (hk : ∀ x, (enc x).length = k) (h1 : ∀ x, ∀ u ∈ enc x, u.oneCell' = true)
    (hgd : o.guard = none) (s x : Operand) (ho : o.op = .call { callee := .builtin .append, args := #[s, x], argTypes := #[S, S] })
    (lo : Nat) (A : Option Addr) (c : Nat) (xs : List T) (w : World) (n : Nat) (A2 : Option Addr) (m c2 : Nat) (ys : List T) (ha : Oe E k enc w lo A c xs) (hy : SlL w A2 k enc ys) (hn : n = xs.length) (hm : m = ys.length) (hs : a.eval s = .slice A n c)
    (hx : a.eval x = .slice A2 m c2) (hl : xs.length ≤ 1048576) (hl2 : ys.length ≤ 1048576) (hlo : lo ≤ w.heap.size)
    (h : ∀ A' c' w' us, Hid (us = xs ++ ys) → Oe E k enc w' lo A' c' us → Below lo w w' → (∀ b, b < w.heap.size → (∀ ad, A = some ad → ad.block ≠ b) → w'.heap[b]? = w.heap[b]?) → wpList Try.prog ops Q rest (a.put o.dst (.slice A' us.length c')) w') :
    wpList Try.prog ops Q (o :: rest) a w := by
  cases A2 with
  | some ad => exact wp_appE S E z bytes hS hinfo hby hzk h0 hk h1 hgd s x ho lo A c xs w n ad m c2 ys ha hy hn hm hs hx hl hl2 hlo h
  | none =>
    have hy0 : ys = [] := by rcases hy with h | ⟨b, o, h, _⟩; exact h; cases h
    subst hy0
    obtain ⟨i0, hi, hz0, hz2, hz3⟩ := info_parts hinfo
    subst hn hm
    refine wpList_plain hgd fun K hK => ?_
    have hr : (Builtin.append_ #[S, S] o.type #[.slice A xs.length c, .slice none 0 c2]).run Try.prog w = .ok (.slice A xs.length c) w := by
      have hcap := ha.cap
      rcases ha.2 with ⟨hv, hn⟩ | ⟨g, cap, cur, fz, hv, _, _, _, hnc, _⟩
      · injection hv with hv _ hc
        subst hv hc
        rw [hn]
        simp [Builtin.append_, run_underlying hS, sizeOf, typeInfo, hi, Builtin.lenOf, Builtin.firstCells]
      · injection hv with hv _ hc
        subst hv hc
        simp [Builtin.append_, run_underlying hS, sizeOf, typeInfo, hi, Builtin.lenOf, Builtin.firstCells, hnc, storeCells]
    unfold Oper.wp execOp
    simp only [List.length_nil] at hx
    simp only [ho, resolve, invoke, builtin, Sem.run_bind, Sem.run_pure, Result.andThen_ok, List.map_toArray, List.map_cons, List.map_nil, hs, hx, hr]
    exact hK _ _ (h A c w xs (Lib.hid (by simp)) ha (Below.refl _ _) (fun _ _ _ => rfl))
end
/-- The directory behind some turns. -/
def dirS (ks : List Lk) (ts : List Tn) : List Lk := ts.foldl turnS ks
theorem dirS_succ (ks : List Lk) (ts : List Tn) (j : Nat) (hj : j < ts.length) : dirS ks (ts.take (j + 1)) = turnS (dirS ks (ts.take j)) ts[j] := by
  rw [take_succ_get (List.getElem?_eq_getElem hj), dirS, List.foldl_append]
  rfl
theorem dirS_len (ks : List Lk) : ∀ (ts : List Tn), (dirS ks ts).length ≤ ks.length + ts.length := by
  intro ts
  induction ts generalizing ks with
  | nil => simp [dirS]
  | cons t r ih =>
    have := ih (turnS ks t)
    have h2 := turnS_len ks t
    simp only [dirS, List.foldl_cons, List.length_cons] at this ⊢
    omega
set_option maxHeartbeats 4000000 in
theorem l02Dir_any (r f n : Int) (FA : Option Addr) (fn c1 : Nat) (KA : Option Addr) (ks : List Lk) (c2 : Nat) (TA : Option Addr) (ts : List Tn) (c3 : Nat) (m : Nat) (w : World) (hK : Ks w KA ks) (hT : Ts w TA ts) (hkl : ks.length ≤ 1000) (htl : ts.length ≤ 1000) (hm : m ≤ ts.length) :
    Calls Try.prog 63 #[dkV r f n FA fn c1 KA ks.length c2 TA ts.length c3, .int .i64 m] w (LkPost w (dirS ks (ts.take m))) := by
  have hb0 : Below w.heap.size w (w.alloc (.cells (dkC r f n FA fn c1 KA ks.length c2 TA ts.length c3) 27)) := by (repeat (first | exact Below.refl _ _ | (refine Below.alloc ?_ (by first | omega | (simp; done) | (simp; omega)) _) | (refine Below.drew ?_) | (refine below_drewN ?_ _) | (refine below_at1 ?_ (by first | omega | (simp; done) | (simp; omega))) | (refine Below.setCell ?_ (by first | omega | (simp; done) | (simp; omega)) _) | (refine Below.trans ?_ (Below.mono (by assumption) (by first | omega | (simp; done) | (simp; omega))))))
  have hb1 : Below w.heap.size w ((w.alloc (.cells (dkC r f n FA fn c1 KA ks.length c2 TA ts.length c3) 27)).alloc (.cells #[] 63)) := by (repeat (first | exact Below.refl _ _ | (refine Below.alloc ?_ (by first | omega | (simp; done) | (simp; omega)) _) | (refine Below.drew ?_) | (refine below_drewN ?_ _) | (refine below_at1 ?_ (by first | omega | (simp; done) | (simp; omega))) | (refine Below.setCell ?_ (by first | omega | (simp; done) | (simp; omega)) _) | (refine Below.trans ?_ (Below.mono (by assumption) (by first | omega | (simp; done) | (simp; omega))))))
  have B0 : ((w.alloc (.cells (dkC r f n FA fn c1 KA ks.length c2 TA ts.length c3) 27)).alloc (.cells #[] 63)).heap[w.heap.size]? = some (.cells (dkC r f n FA fn c1 KA ks.length c2 TA ts.length c3) 27 (0, 0)) := (by repeat (first | assumption | exact heap_alloc_at _ (by first | rfl | (simp; done) | omega) | refine heap_alloc_of _ ?_ | refine heap_setCell_of _ (by first | omega | (simp; done) | (simp; omega)) ?_ | refine heap_setCell_same _ ?_ | exact heap_at1_same (by first | omega | (simp; done) | (simp; omega)) | refine heap_at1_of (by first | omega | (simp; done) | (simp; omega)) ?_))
  go_enter Try.func63, Try.ntmps63
  go_wp2_with (at_builtin; refine wp_appO 24 63 _ _ Try.underlying24 info_link (by decide) rfl (by decide) lk2 lk_one rfl _ _ rfl (w.heap.size + 1) _ 0 [] _ 0 KA ks.length c2 ks (Oe.emptyAt (by simp)) (SlL.below hK hb1) rfl rfl rfl rfl (by simp) (by omega) (by first | omega | (simp; done) | (simp; omega)) ?_; intro A2 c2' w2 us hus ho2 hb2 hk2)
  have hB2 := (hk2 w.heap.size (by simp; omega) (fun ad h => by injection h with h; subst h; simp)).trans B0
  have hue := hus.out
  rw [List.nil_append] at hue
  have t2 : Below w.heap.size w w2 := hb1.trans (hb2.mono (by omega))
  have HU := Lib.hid hue
  clear hue hk2 B0 hb0 hb1 hb2 hus
  go_loopw [5, 6] (fun dv iv wr => ∃ (j : Nat) (A5 : Option Addr) (c5 : Nat) (dir : List Lk), j ≤ m ∧ iv = .int .i64 j ∧ dv = .slice A5 dir.length c5 ∧ Oe 63 2 lkL wr w.heap.size A5 c5 dir ∧ dir.length ≤ ks.length + j ∧ Hid (dir = dirS ks (ts.take j)) ∧ Below w.heap.size w wr ∧ wr.heap[w.heap.size]? = some (.cells (dkC r f n FA fn c1 KA ks.length c2 TA ts.length c3) 27 (0, 0))) (fun _ iv _ => m - (intOf iv).toNat)
  case atStart => exact ⟨0, A2, c2', us, Nat.zero_le _, rfl, rfl, ho2.mono (by omega), by rw [HU.out]; omega, HU, t2, hB2⟩
  case round =>
    clear ho2 HU t2 hB2
    obtain ⟨j, A5, c5, dir, hj, rfl, rfl, ho, hdl, hd, hb, hB⟩ := hrel
    have zb := hb.size
    have zB : w.heap.size < wr.heap.size := (Array.getElem?_eq_some_iff.1 hB).1
    by_cases hlt : j < m
    · have hjt : j < ts.length := by omega
      obtain ⟨b, o, rfl, hbs, x0, x1, x2, x3⟩ := Ts.get (hT.below hb) hjt
      have hlt' : (j : Int) < m := by omega
      have hjt' : (j : Int) < ts.length := by omega
      have hj0 : (0 : Int) ≤ j := by omega
      have q5 : wr.cell? ⟨w.heap.size, 5, none⟩ = some (.slice (some ⟨b, o, none⟩) ts.length c3) := cell_of_row wr w.heap.size 5 _ _ (0, 0) hB
      have ct := turn_spec A5 c5 dir ts[j] wr (ho.sl lk2) (by omega)
      have hlen := turnS_len dir ts[j]
      have hs := dirS_succ ks ts j hjt
      rw [← hd.out] at hs
      obtain ⟨dir2, hdir2⟩ : ∃ dir2, Hid (dir2 = turnS dir ts[j]) := ⟨_, Lib.hid rfl⟩
      rw [← hdir2.out] at ct hs hlen
      have HS := Lib.hid hs.symm
      clear hs hd
      go_wp2_with fail
      refine ct.mono ?_
      rintro e w8 ⟨A8, c8, rfl, ho8, hb9⟩
      go_wp2_with fail
      go_roundw
      case rel => exact ⟨j + 1, A8, c8, dir2, by omega, by go_num, rfl, Oe.mono ho8 zb, by omega, HS, hb.trans (hb9.mono zb), (hb9.block _ zB).trans hB⟩
      case measure => simp [intOf]; omega
    · have hlt' : ¬ ((j : Int) < m) := by omega
      obtain rfl : j = m := by omega
      go_wp2_with fail
      go_ret
      rw [← hd.out]
      exact ⟨A5, c5, rfl, ho, hb⟩
set_option maxHeartbeats 4000000 in
theorem dirOf_any (A : Option Addr) (c : Nat) (ks : List Lk) (TA : Option Addr) (c3 : Nat) (ts : List Tn) (w : World) (hK : Ks w A ks) (hT : Ts w TA ts) (hkl : ks.length ≤ 100) (htl : ts.length ≤ 100) (hs : Srt ks) (hr : runI ks ts = true) :
    Calls Try.prog 14 #[.slice A ks.length c, .slice TA ts.length c3] w (LkPost w (dirS ks ts)) := by
  have HS := Lib.hid hs
  have HR := Lib.hid hr
  clear hs hr
  go_enter Try.func14, Try.ntmps14
  go_wp2_with fail
  refine (cloneL_any A c ks _ hK (by omega)).mono ?_
  rintro e w2 ⟨A2, c2', rfl, ho2, hb2⟩
  go_wp2_with fail
  go_loopw [5, 12] (fun dv iv wr => ∃ (j : Nat) (A5 : Option Addr) (c5 : Nat) (dir : List Lk), j ≤ ts.length ∧ iv = .int .i64 j ∧ dv = .slice A5 dir.length c5 ∧ Oe 63 2 lkL wr w.heap.size A5 c5 dir ∧ dir.length ≤ ks.length + j ∧ Hid (dir = dirS ks (ts.take j)) ∧ Hid (Srt dir) ∧ Hid (runI dir (ts.drop j) = true) ∧ Below w.heap.size w wr) (fun _ iv _ => ts.length - (intOf iv).toNat)
  case atStart => exact ⟨0, A2, c2', ks, Nat.zero_le _, rfl, rfl, ho2, by omega, Lib.hid rfl, HS, HR, hb2⟩
  case round =>
    clear ho2 hb2
    obtain ⟨j, A5, c5, dir, hj, rfl, rfl, ho, hdl, hd, hsd, hrd, hb⟩ := hrel
    have zb := hb.size
    by_cases hlt : j < ts.length
    · obtain ⟨b, o, rfl, hbs, x0, x1, x2, x3⟩ := Ts.get (hT.below hb) hlt
      have hlt' : (j : Int) < ts.length := by omega
      have hdr := hrd.out
      rw [runI_drop dir hlt] at hdr
      simp only [Bool.and_eq_true] at hdr
      obtain ⟨⟨hdr1, hdr2⟩, hdr3⟩ := hdr
      have hb7 : Below wr.heap.size wr (wr.alloc (.cells (tnL ts[j]).toArray 66)) := (Below.refl _ _).alloc (Nat.le_refl _) _
      have ct := applied_any A5 c5 dir ts[j] (wr.alloc (.cells (tnL ts[j]).toArray 66)) (SlL.below (ho.sl lk2) hb7) (by omega) hsd.out
      rw [hdr2] at ct
      have hlen := turnS_len dir ts[j]
      have hs2 := dirS_succ ks ts j hlt
      rw [← hd.out] at hs2
      have HSd := Lib.hid (turnS_srt hsd.out hdr2)
      have HRd := Lib.hid hdr3
      obtain ⟨dir2, hdir2⟩ : ∃ dir2, Hid (dir2 = turnS dir ts[j]) := ⟨_, Lib.hid rfl⟩
      rw [← hdir2.out] at ct hs2 hlen HSd HRd
      have HS2 := Lib.hid hs2.symm
      clear hs2 hd hdr1 hdr2 hdr3
      go_wp2_with fail
      refine ct.mono ?_
      rintro e w8 ⟨hb9, he⟩
      rw [if_pos rfl] at he
      obtain ⟨A8, c8, rfl, ho8⟩ := he
      go_wp2_with fail
      go_roundw
      case rel => exact ⟨j + 1, A8, c8, dir2, by omega, by go_num, rfl, Oe.mono ho8 (by simp; omega), by omega, HS2, HSd, HRd, hb.trans ((hb7.trans (hb9.mono hb7.size)).mono zb)⟩
      case measure => simp [intOf]; omega
    · have hlt' : ¬ ((j : Int) < ts.length) := by omega
      have hE : dir = dirS ks ts := by rw [hd.out, List.take_of_length_le (by omega)]
      have HE := Lib.hid hE
      clear hd hE
      go_wp2_with fail
      go_ret
      rw [← HE.out]
      exact ⟨A5, c5, rfl, ho, hb⟩

set_option linter.unusedVariables false
set_option maxRecDepth 100000

theorem dk_parts {r f n : Int} {fs : List (Int × List UInt8 × Int)} {u : Nat} {ks : List Lk} {ts : List Tn} (h : dkB r f n fs u ks ts = true) : fs.length ≤ 10 ∧ ks.length ≤ 10 ∧ ts.length ≤ 30 ∧ Srt ks ∧ runI ks ts = true := by
  rw [dk_eq, linkB] at h
  simp only [Bool.and_eq_true, decide_eq_true_eq] at h
  obtain ⟨⟨_, ⟨_, h1⟩, _⟩, ⟨⟨⟨h2, h3⟩, h4⟩, h5⟩, _⟩ := h
  exact ⟨by omega, by omega, by omega, kB_srt ks _ h4, h5⟩
/-- The directory of a disk that is valid; of another: nothing. -/
def dirV (r f n : Int) (fs : List (Int × List UInt8 × Int)) (u : Nat) (ks : List Lk) (ts : List Tn) : List Lk := if dkB r f n fs u ks ts = true then dirS ks ts else []
theorem dirV_len (r f n : Int) (fs : List (Int × List UInt8 × Int)) (u : Nat) (ks : List Lk) (ts : List Tn) : (dirV r f n fs u ks ts).length ≤ 40 := by
  unfold dirV
  split
  · rename_i h
    have := dk_parts h
    have := dirS_len ks ts
    omega
  · simp
theorem dkDir_any (r f n : Int) (FA : Option Addr) (fn c1 : Nat) (KA : Option Addr) (ks : List Lk) (c2 : Nat) (TA : Option Addr) (ts : List Tn) (c3 : Nat) (w : World) (hK : Ks w KA ks) (hT : Ts w TA ts) (hkl : ks.length ≤ 100) (htl : ts.length ≤ 100) (hs : Srt ks) (hr : runI ks ts = true) :
    Calls Try.prog 19 #[dkV r f n FA fn c1 KA ks.length c2 TA ts.length c3] w (LkPost w (dirS ks ts)) := by
  have hb0 : Below w.heap.size w (w.alloc (.cells (dkC r f n FA fn c1 KA ks.length c2 TA ts.length c3) 27)) := by (repeat (first | exact Below.refl _ _ | (refine Below.alloc ?_ (by first | omega | (simp; done) | (simp; omega)) _) | (refine Below.drew ?_) | (refine below_drewN ?_ _) | (refine below_at1 ?_ (by first | omega | (simp; done) | (simp; omega))) | (refine Below.setCell ?_ (by first | omega | (simp; done) | (simp; omega)) _) | (refine Below.trans ?_ (Below.mono (by assumption) (by first | omega | (simp; done) | (simp; omega))))))
  go_enter Try.func19, Try.ntmps19
  go_wp2_with (go_at_call 14; refine (dirOf_any _ _ ks _ _ ts _ (SlL.below hK hb0) (SlL.below hT hb0) hkl htl hs hr).mono ?_; rintro e w2 ⟨A2, d2, rfl, ho2, hb2⟩)
  go_ret
  exact ⟨A2, d2, rfl, ho2.mono hb0.size, hb0.trans (hb2.mono hb0.size)⟩
set_option maxHeartbeats 4000000 in
theorem diskDir_spec (r f n : Int) (FA : Option Addr) (es fs : List Fl) (c1 : Nat) (KA : Option Addr) (ks : List Lk) (c2 : Nat) (TA : Option Addr) (ts : List Tn) (c3 : Nat) (w : World) (hr : Dr w FA fs KA ks TA ts) (hd : Hid (fs.map fc = es.map fc)) (hg : Good es ks ts) :
    Calls Try.prog 46 #[dkV r f n FA es.length c1 KA ks.length c2 TA ts.length c3] w (LkPost w (dirV r f n (es.map fc) (ftot es) ks ts)) := by
  have hb0 : Below w.heap.size w (w.alloc (.cells (dkC r f n FA es.length c1 KA ks.length c2 TA ts.length c3) 27)) := by (repeat (first | exact Below.refl _ _ | (refine Below.alloc ?_ (by first | omega | (simp; done) | (simp; omega)) _) | (refine Below.drew ?_) | (refine below_drewN ?_ _) | (refine below_at1 ?_ (by first | omega | (simp; done) | (simp; omega))) | (refine Below.setCell ?_ (by first | omega | (simp; done) | (simp; omega)) _) | (refine Below.trans ?_ (Below.mono (by assumption) (by first | omega | (simp; done) | (simp; omega))))))
  have B0 := heap_alloc_new w (.cells (dkC r f n FA es.length c1 KA ks.length c2 TA ts.length c3) 27)
  have cok := okSpec_any r f n FA es fs c1 KA ks c2 TA ts c3 _ (hr.below hb0) hd hg
  cases hv : dkB r f n (es.map fc) (ftot es) ks ts with
  | false =>
    have HV : Hid (dirV r f n (es.map fc) (ftot es) ks ts = []) := by show _ = _; rw [dirV, hv]; rfl
    rw [hv] at cok
    clear hv
    go_enter Try.func46, Try.ntmps46
    go_wp2_with (go_at_call 40; refine cok.mono ?_; rintro e w1 ⟨rfl, hb1⟩)
    go_ret
    rw [HV.out]
    exact ⟨none, 0, rfl, ownsG_nil _ _ _ _, hb0.trans (hb1.mono hb0.size)⟩
  | true =>
    have HV : Hid (dirV r f n (es.map fc) (ftot es) ks ts = dirS ks ts) := by show _ = _; rw [dirV, hv]; rfl
    obtain ⟨g0, g1, g2, g3, g4⟩ := dk_parts hv
    rw [hv] at cok
    clear hv g0
    go_enter Try.func46, Try.ntmps46
    go_wp2_with fail
    refine cok.mono ?_
    rintro e w1 ⟨rfl, hb1⟩
    have t1 := hb0.trans (hb1.mono hb0.size)
    obtain ⟨B1, y, _, z1⟩ := keep_blk hb1 (g := w.heap.size) B0
    have q0 : w1.cell? ⟨w.heap.size, 0, none⟩ = some (.int .i64 r) := y 0; have q1 : w1.cell? ⟨w.heap.size, 1, none⟩ = some (.int .i64 f) := y 1; have q2 : w1.cell? ⟨w.heap.size, 2, none⟩ = some (.int .i64 n) := y 2; have q3 : w1.cell? ⟨w.heap.size, 3, none⟩ = some (.slice FA es.length c1) := y 3; have q4 : w1.cell? ⟨w.heap.size, 4, none⟩ = some (.slice KA ks.length c2) := y 4; have q5 : w1.cell? ⟨w.heap.size, 5, none⟩ = some (.slice TA ts.length c3) := y 5
    have hr1 := hr.below t1
    clear y B1 B0 cok
    go_wp2_with (go_at_call 63; refine ((l02Dir_any r f n FA es.length c1 KA ks c2 TA ts c3 ts.length _ hr1.2.1 hr1.2.2 (by omega) (by omega) (Nat.le_refl _)).mono ?_); rintro e w2 ⟨A2, d2, he, ho2, hb2⟩; rw [List.take_length] at he ho2; subst he)
    go_ret
    rw [HV.out]
    exact ⟨A2, d2, rfl, ho2.mono t1.size, t1.trans (hb2.mono t1.size)⟩
set_option maxHeartbeats 4000000 in
theorem diskDir_impl (r f n : Int) (FA : Option Addr) (es fs : List Fl) (c1 : Nat) (KA : Option Addr) (ks : List Lk) (c2 : Nat) (TA : Option Addr) (ts : List Tn) (c3 : Nat) (w : World) (hr : Dr w FA fs KA ks TA ts) (hd : Hid (fs.map fc = es.map fc)) (hg : Good es ks ts) :
    Calls Try.prog 8 #[dkV r f n FA es.length c1 KA ks.length c2 TA ts.length c3] w (LkPost w (dirV r f n (es.map fc) (ftot es) ks ts)) := by
  have hb0 : Below w.heap.size w (w.alloc (.cells (dkC r f n FA es.length c1 KA ks.length c2 TA ts.length c3) 27)) := by (repeat (first | exact Below.refl _ _ | (refine Below.alloc ?_ (by first | omega | (simp; done) | (simp; omega)) _) | (refine Below.drew ?_) | (refine below_drewN ?_ _) | (refine below_at1 ?_ (by first | omega | (simp; done) | (simp; omega))) | (refine Below.setCell ?_ (by first | omega | (simp; done) | (simp; omega)) _) | (refine Below.trans ?_ (Below.mono (by assumption) (by first | omega | (simp; done) | (simp; omega))))))
  have B0 := heap_alloc_new w (.cells (dkC r f n FA es.length c1 KA ks.length c2 TA ts.length c3) 27)
  have cok := okImpl_any r f n FA es fs c1 KA ks c2 TA ts c3 _ (hr.below hb0) hd hg
  cases hv : dkB r f n (es.map fc) (ftot es) ks ts with
  | false =>
    have HV : Hid (dirV r f n (es.map fc) (ftot es) ks ts = []) := by show _ = _; rw [dirV, hv]; rfl
    rw [hv] at cok
    clear hv
    go_enter Try.func8, Try.ntmps8
    go_wp2_with (go_at_call 7; refine cok.mono ?_; rintro e w1 ⟨rfl, hb1⟩)
    go_ret
    rw [HV.out]
    exact ⟨none, 0, rfl, ownsG_nil _ _ _ _, hb0.trans (hb1.mono hb0.size)⟩
  | true =>
    have HV : Hid (dirV r f n (es.map fc) (ftot es) ks ts = dirS ks ts) := by show _ = _; rw [dirV, hv]; rfl
    obtain ⟨g0, g1, g2, g3, g4⟩ := dk_parts hv
    rw [hv] at cok
    clear hv g0
    go_enter Try.func8, Try.ntmps8
    go_wp2_with fail
    refine cok.mono ?_
    rintro e w1 ⟨rfl, hb1⟩
    have t1 := hb0.trans (hb1.mono hb0.size)
    obtain ⟨B1, y, _, z1⟩ := keep_blk hb1 (g := w.heap.size) B0
    have q0 : w1.cell? ⟨w.heap.size, 0, none⟩ = some (.int .i64 r) := y 0; have q1 : w1.cell? ⟨w.heap.size, 1, none⟩ = some (.int .i64 f) := y 1; have q2 : w1.cell? ⟨w.heap.size, 2, none⟩ = some (.int .i64 n) := y 2; have q3 : w1.cell? ⟨w.heap.size, 3, none⟩ = some (.slice FA es.length c1) := y 3; have q4 : w1.cell? ⟨w.heap.size, 4, none⟩ = some (.slice KA ks.length c2) := y 4; have q5 : w1.cell? ⟨w.heap.size, 5, none⟩ = some (.slice TA ts.length c3) := y 5
    have hr1 := hr.below t1
    clear y B1 B0 cok
    go_wp2_with (go_at_call 19; refine (dkDir_any r f n FA es.length c1 KA ks c2 TA ts c3 _ hr1.2.1 hr1.2.2 (by omega) (by omega) g3 g4).mono ?_; rintro e w2 ⟨A2, d2, rfl, ho2, hb2⟩)
    go_ret
    rw [HV.out]
    exact ⟨A2, d2, rfl, ho2.mono t1.size, t1.trans (hb2.mono t1.size)⟩
end Go.Proofs.Ytndmdhmghjfckaa
