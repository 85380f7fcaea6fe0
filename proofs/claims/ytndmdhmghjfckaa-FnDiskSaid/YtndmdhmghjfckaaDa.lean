/- An operation on a disk: what comes out is valid. -/
import Derived.Test.YtndmdhmghjfckaaDx
import Derived.Test.YtndmdhmghjfckaaCc
namespace Go.Proofs.Ytndmdhmghjfckaa
open Go.RowKit
set_option linter.unusedVariables false
set_option maxRecDepth 100000

/-- Each body fits its room. -/
def Cp (es : List Fl) : Prop := ∀ e, e ∈ es → e.2.1.2.2.length ≤ e.2.1.2.1
/-- Some valid disk, and a number. -/
def DdPost (w : World) (e : Ending) (w' : World) : Prop :=
  ∃ r f n FA c1 es KA c2 ks TA c3 ts z, e = .returned (.tuple #[dkV r f n FA es.length c1 KA ks.length c2 TA ts.length c3, .int .i64 z]) ∧ Vd r f n (es.map fc) ks ts ∧ ts.length ≤ c3 ∧ Cp es ∧ DkW w' w.heap.size w'.heap.size FA es KA ks TA ts ∧ Below w.heap.size w w'
theorem DdPost.pk {w w' : World} {r f n z : Int} {lo H J c1 c2 c3 m : Nat} {FA KA TA : Option Addr} {fs : List Fl} {ks : List Lk} {ts : List Tn} (hm : m = fs.length) (hv : Vd r f n (fs.map fc) ks ts) (hp : Pk w' lo H J FA c1 fs KA c2 ks TA c3 ts) (hl : w.heap.size ≤ lo) (hb : Below w.heap.size w w') :
    DdPost w (.returned (.tuple #[dkV r f n FA m c1 KA ks.length c2 TA ts.length c3, .int .i64 z])) w' := by
  subst hm
  exact ⟨r, f, n, FA, c1, fs, KA, c2, ks, TA, c3, ts, z, rfl, hv, hp.t.cap, fun e he => (hp.b e he).le_cap, hp.dw hl, hb⟩
theorem op_parts {k : Int} {s t : ByteArray} {m : Nat} (h : opB k s t m = true) : s.data.toList.length ≤ 549755813888 ∧ t.data.toList.length ≤ 549755813888 ∧ m ≤ 400000 ∧ (¬ k = 6 → nmB s = true) ∧ (k = 4 → nmB t = true) ∧ (¬ k = 4 → noB t = true) ∧ (¬ k = 2 → m = 0) := by
  unfold opB at h
  simp only [Bool.and_eq_true, decide_eq_true_eq, Bool.or_eq_true] at h
  obtain ⟨⟨⟨⟨h1, h2⟩, h3⟩, h4⟩, h5⟩ := h
  refine ⟨?_, ?_, h4, fun h => by rw [if_neg h] at h2; exact h2, fun h => by rw [if_pos h] at h3; exact h3, fun h => by rw [if_neg h] at h3; exact h3, fun h => h5.resolve_left h⟩
  · split at h2
    · have := no_len h2; omega
    · have := nm_len h2; omega
  · split at h3
    · have := nm_len h3; omega
    · have := no_len h3; omega
theorem no_emp {s : ByteArray} (h : noB s = true) : s = ByteArray.empty := by
  have h1 : s.toList = [] := of_decide_eq_true h
  exact tl_inj (by rw [h1]; simp [ByteArray.toList_eq])
theorem cell_heap {w w' : World} {g i : Nat} {v : Value} (h : w'.heap[g]? = w.heap[g]?) (hc : w.cell? ⟨g, i, none⟩ = some v) : w'.cell? ⟨g, i, none⟩ = some v := by
  simpa only [World.cell?, h] using hc
theorem vd_len {r f n : Int} {fs : List Fl} {ks : List Lk} {ts : List Tn} (h : Vd r f n (fs.map fc) ks ts) {x : Fl} (hx : x ∈ fs) : x.2.1.2.2.length ≤ 400000 := by
  have h1 : (fc x).2.1.length ≤ cu (fs.map fc) := cu_mem (List.mem_map.2 ⟨x, hx, rfl⟩)
  have h2 := h.hu
  have h3 := h.hr
  have h4 : (fc x).2.1.length = x.2.1.2.2.length := rfl
  omega
theorem at_pos {ops : Array Oper} {rest : List Oper} {o : Oper} {a : Act} {w : World} {Q : Exit → Act → World → Prop} {p : String} (h : o.pos = p) (h2 : wpList Try.prog ops Q (o :: rest) a w) : wpList Try.prog ops Q (o :: rest) a w := h2
set_option maxHeartbeats 1000000 in
theorem wp_stF {ops : Array Oper} {rest : List Oper} {o : Oper} {a : Act} {w : World} {Q : Exit → Act → World → Prop} (hgd : o.guard = none) (x y : Operand) (ho : o.op = .store 36 x y)
    (g p : Nat) (hx : a.eval x = .pointer (some ⟨g, p, none⟩)) (i s : Int) (A : Option Addr) (n c : Nat) (hy : a.eval y = .agg #[.int .i64 i, .slice A n c, .int .i64 s])
    (u0 u1 u2 : Value) (h0 : w.cell? ⟨g, p, none⟩ = some u0) (h1 : w.cell? ⟨g, p + 1, none⟩ = some u1) (h2 : w.cell? ⟨g, p + 2, none⟩ = some u2)
    (f0 : w.frozen? ⟨g, p, none⟩ = false) (f1 : w.frozen? ⟨g, p + 1, none⟩ = false) (f2 : w.frozen? ⟨g, p + 2, none⟩ = false)
    (h : wpList Try.prog ops Q rest (a.put o.dst undef) (((w.setCell ⟨g, p, none⟩ (.int .i64 i)).setCell ⟨g, p + 1, none⟩ (.slice A n c)).setCell ⟨g, p + 2, none⟩ (.int .i64 s))) : wpList Try.prog ops Q (o :: rest) a w := by
  refine wpList_plain hgd fun K hK => ?_
  have hK2 := hK _ _ h
  clear hK h
  unfold Oper.wp execOp
  simp only [ho, hx, hy]
  go_simp
  exact hK2
set_option maxHeartbeats 1000000 in
theorem wp_ldF {ops : Array Oper} {rest : List Oper} {o : Oper} {a : Act} {w : World} {Q : Exit → Act → World → Prop} (hgd : o.guard = none) (x : Operand) (ho : o.op = .load 36 x)
    (g p : Nat) (hx : a.eval x = .pointer (some ⟨g, p, none⟩)) (u0 u1 u2 : Value) (h0 : w.cell? ⟨g, p, none⟩ = some u0) (h1 : w.cell? ⟨g, p + 1, none⟩ = some u1) (h2 : w.cell? ⟨g, p + 2, none⟩ = some u2)
    (h : wpList Try.prog ops Q rest (a.put o.dst (.agg #[u0, u1, u2])) w) : wpList Try.prog ops Q (o :: rest) a w := by
  refine wpList_plain hgd fun K hK => ?_
  have hK2 := hK _ _ h
  clear hK h
  unfold Oper.wp execOp
  simp only [ho, hx]
  go_simp
  exact hK2
theorem frozen_of {w w' : World} {g i : Nat} (h : w'.heap[g]? = w.heap[g]?) (hf : w.frozen? ⟨g, i, none⟩ = false) : w'.frozen? ⟨g, i, none⟩ = false := by
  simpa only [World.frozen?, h] using hf
theorem DkG.choose_f {w : World} {lo hi c1 c2 c3 : Nat} {FA KA TA : Option Addr} {fs : List Fl} {ks : List Lk} {ts : List Tn} (h : DkG w lo hi FA c1 fs KA c2 ks TA c3 ts) : Oe 36 3 flL w lo FA c1 fs := by
  obtain ⟨m, m', ⟨o1, _⟩, _⟩ := h
  exact o1
theorem DkG.f_lt {w : World} {lo hi c1 c2 c3 g o : Nat} {KA TA : Option Addr} {fs : List Fl} {ks : List Lk} {ts : List Tn} (h : DkG w lo hi (some ⟨g, o, none⟩) c1 fs KA c2 ks TA c3 ts) : g < hi := by
  obtain ⟨m, m', ⟨o1, i1, _⟩, h1, h2, _⟩ := h
  have := i1 _ rfl
  simp only at this
  omega
theorem DkG.f_le {w : World} {lo hi c1 c2 c3 g o : Nat} {KA TA : Option Addr} {fs : List Fl} {ks : List Lk} {ts : List Tn} (h : DkG w lo hi (some ⟨g, o, none⟩) c1 fs KA c2 ks TA c3 ts) : lo ≤ g := by
  obtain ⟨m, m', ⟨o1, i1, _⟩, h1, h2, _⟩ := h
  exact (i1 _ rfl).1
theorem Oe.f_frozen {w : World} {lo c g : Nat} {fs : List Fl} (h : Oe 36 3 flL w lo (some ⟨g, 0, none⟩) c fs) : ∀ i, i < fs.length * 3 → w.frozen? ⟨g, i, none⟩ = false := by
  intro i hi
  rcases h.2 with ⟨hv, _⟩ | ⟨g', cap, cur, fz, hv, _, hg, hz, hc, _, hs, _⟩
  · cases hv
  · injection hv with hv _ hcc
    injection hv with hv
    injection hv with hv _ _
    subst hv
    have h1 : i < cur.size := by rw [hs]; omega
    simp only [World.frozen?, hg, Bool.and_eq_false_iff, decide_eq_false_iff_not]
    rcases hz with rfl | hz
    · right; simp
    · left; omega
theorem fs_cells {w : World} {g : Nat} {fs : List Fl} {j : Nat} {id s : Int} {A : Option Addr} {c : Nat} {bs : List UInt8} (h : SlL w (some ⟨g, 0, none⟩) 3 flL fs) (hx : fs[j]? = some (id, (A, c, bs), s)) :
    w.cell? ⟨g, j * 3, none⟩ = some (.int .i64 id) ∧ w.cell? ⟨g, j * 3 + 1, none⟩ = some (.slice A bs.length c) ∧ w.cell? ⟨g, j * 3 + 2, none⟩ = some (.int .i64 s) := by
  obtain ⟨hj, he⟩ := List.getElem?_eq_some_iff.1 hx
  obtain ⟨b, o, hA, _, h1⟩ := SlL.get h hj (by simp)
  injection hA with hA
  injection hA with e1 e2 _
  subst e1 e2
  rw [he] at h1
  have y0 := h1 0 _ rfl
  have y1 := h1 1 _ rfl
  have y2 := h1 2 _ rfl
  simp only [Nat.zero_add, Nat.add_zero] at y0 y1 y2
  exact ⟨y0, y1, y2⟩
theorem cu_set : ∀ (cs : List Fc) (j : Nat) (x y : Fc), cs[j]? = some x → (cu (cs.set j y) : Int) = cu cs - x.2.1.length + y.2.1.length
  | [], j, x, y, h => by simp at h
  | a :: r, 0, x, y, h => by
    simp only [List.getElem?_cons_zero, Option.some.injEq] at h
    subst h
    simp only [List.set_cons_zero, cu, List.map_cons, List.sum_cons]
    omega
  | a :: r, j + 1, x, y, h => by
    rw [List.getElem?_cons_succ] at h
    have := cu_set r j x y h
    simp only [List.set_cons_succ, cu, List.map_cons, List.sum_cons] at this ⊢
    omega
theorem map_set_same {α β : Type} (q : α → β) : ∀ (l : List α) (j : Nat) (x y : α), l[j]? = some x → q y = q x → (l.set j y).map q = l.map q
  | [], _, _, _, _, _ => rfl
  | a :: r, 0, x, y, h, he => by
    simp only [List.getElem?_cons_zero, Option.some.injEq] at h
    subst h
    rw [List.set_cons_zero, List.map_cons, List.map_cons, he]
  | a :: r, j + 1, x, y, h, he => by
    rw [List.getElem?_cons_succ] at h
    rw [List.set_cons_succ, List.map_cons, List.map_cons, map_set_same q r j x y h he]
/-- A file set, of the same Id. -/
theorem vd_set {r f n : Int} {fs : List Fl} {ks : List Lk} {ts : List Tn} (h : Vd r f n (fs.map fc) ks ts) {j : Nat} {x y : Fl} (hx : fs[j]? = some x) (hi : y.1 = x.1) (hs : 0 ≤ y.2.2 ∧ y.2.2 ≤ y.2.1.2.2.length) (hu : ((y.2.1.2.2.length : Nat) : Int) - (x.2.1.2.2.length : Nat) + (cu (fs.map fc) : Int) ≤ r) : Vd r f n ((fs.set j y).map fc) ks ts := by
  have hm : (fs.set j y).map fc = (fs.map fc).set j (fc y) := List.map_set
  have hx' : (fs.map fc)[j]? = some (fc x) := by rw [List.getElem?_map, hx]; rfl
  rw [hm]
  refine h.like (map_set_same _ _ j (fc x) (fc y) hx' hi) ?_ ?_
  · intro z hz
    rcases List.mem_or_eq_of_mem_set hz with hz | rfl
    · exact h.safe z hz
    · exact hs
  · have h1 := cu_set _ j _ (fc y) hx'
    have h2 : (fc y).2.1.length = y.2.1.2.2.length := rfl
    have h3 : (fc x).2.1.length = x.2.1.2.2.length := rfl
    rw [h2, h3] at h1
    omega
theorem size_dkD : (Try.prog.info? 27).map (·.size) = some 6 := by kernel_rfl
theorem wp_ldD {ops : Array Oper} {rest : List Oper} {o : Oper} {a : Act} {w : World} {Q : Exit → Act → World → Prop} (hgd : o.guard = none) (x : Operand) (ho : o.op = .load 27 x)
    (g : Nat) (hx : a.eval x = .pointer (some ⟨g, 0, none⟩)) (r f n : Int) (FA : Option Addr) (fn c1 : Nat) (KA : Option Addr) (kn c2 : Nat) (TA : Option Addr) (tn c3 : Nat) (hg : w.heap[g]? = some (.cells (dkC r f n FA fn c1 KA kn c2 TA tn c3) 27 (0, 0)))
    (h : wpList Try.prog ops Q rest (a.put o.dst (dkV r f n FA fn c1 KA kn c2 TA tn c3)) w) : wpList Try.prog ops Q (o :: rest) a w :=
  wpList_load_row hgd 27 x ho g hx 27 _ (0, 0) _ hg Try.underlying27 rfl size_dkD h
theorem wp_stD {ops : Array Oper} {rest : List Oper} {o : Oper} {a : Act} {w : World} {Q : Exit → Act → World → Prop} (hgd : o.guard = none) (x y : Operand) (ho : o.op = .store 27 x y)
    (g : Nat) (hx : a.eval x = .pointer (some ⟨g, 0, none⟩)) (r f n : Int) (FA : Option Addr) (fn c1 : Nat) (KA : Option Addr) (kn c2 : Nat) (TA : Option Addr) (tn c3 : Nat) (hy : a.eval y = dkV r f n FA fn c1 KA kn c2 TA tn c3)
    (old : Array Value) (hg : w.heap[g]? = some (.cells old 27 (0, 0))) (hold : old.size = 6)
    (h : ∀ w', w'.heap[g]? = some (.cells (dkC r f n FA fn c1 KA kn c2 TA tn c3) 27 (0, 0)) → (∀ k, k ≠ g → w'.heap[k]? = w.heap[k]?) → w'.heap.size = w.heap.size → (∀ (B : Nat) (w0 : World), Below B w0 w → B ≤ w0.heap.size → B ≤ g → Below B w0 w') → wpList Try.prog ops Q rest (a.put o.dst undef) w') : wpList Try.prog ops Q (o :: rest) a w := by
  refine wpList_store_row hgd 27 x y ho g _ hx hy 27 old hg size_dkD (by rw [hold]; rfl) (by simp [Value.oneCell']) (h _ (setRow_heap w g old _ _ (0, 0) hg) (fun k hk => setRow_other w g k _ hk) (by simp) fun B w0 hb hB hl => ?_)
  refine hb.trans ?_
  exact below_of_grown (row := some g) ⟨rfl, rfl, rfl, by simp, fun i _ hne => setRow_other w g i _ (by rintro rfl; exact hne rfl)⟩ (Nat.le_trans hB hb.size) (fun k hk => by injection hk with hk; omega)
theorem results_rowD {fn : Func} {p q : Tmp} (h : fn.results = #[.cell p 27, .tmp q]) (tmps : Array Value) (w : World) (g : Nat) (cs : Array Value)
    (hp : tmps.getD p undef = .pointer (some ⟨g, 0, none⟩)) (hg : w.heap[g]? = some (.cells cs 27 (0, 0))) (hi : cs.size = 6) :
    (results fn tmps).run Try.prog w = .ok (.tuple #[.agg cs, tmps.getD q undef]) w := by
  have hp' : tmps[p]?.getD undef = .pointer (some ⟨g, 0, none⟩) := by simpa using hp
  simp [results, h, hp', asAddr, run_loadVar_row w g 27 27 cs (0, 0) _ hg Try.underlying27 rfl (by rw [hi]; exact size_dkD)]
theorem Pk.others {w w' : World} {lo H J c1 c2 c3 g : Nat} {FA KA TA : Option Addr} {fs : List Fl} {ks : List Lk} {ts : List Tn} (h : Pk w lo H J FA c1 fs KA c2 ks TA c3 ts) (hk : ∀ k, k ≠ g → w'.heap[k]? = w.heap[k]?) (hg : g = H ∨ g = J ∨ g < lo) : Pk w' lo H J FA c1 fs KA c2 ks TA c3 ts :=
  h.keep fun k h1 _ h3 h4 => hk k (by omega)
theorem no_of_find {m : ByteArray} : ∀ {dir : List Lk}, (∀ x, x ∈ dir → 1 ≤ x.2) → ¬ 0 < findS dir m → hasN dir m = false
  | [], _, _ => rfl
  | x :: r, hp, h => by
    rw [findS] at h
    rw [hasN, List.any_cons]
    cases hx : eqN x.1 m with
    | true =>
      rw [hx, if_pos rfl] at h
      have := hp x (List.mem_cons_self ..)
      omega
    | false =>
      rw [hx, if_neg (by simp)] at h
      exact no_of_find (fun y hy => hp y (List.mem_cons_of_mem _ hy)) h
theorem Vd.dirpos {r f n : Int} {cs : List Fc} {ks : List Lk} {ts : List Tn} (h : Vd r f n cs ks ts) : ∀ x, x ∈ dirS ks ts → 1 ≤ x.2 := by
  have := dir_files (vd_iff.2 h) ts.length
  rw [List.take_length] at this
  exact fun x hx => (this x hx).2
theorem DdPost.raw {w w' : World} {r f n z : Int} {lo c1 c2 c3 : Nat} {FA KA TA : Option Addr} {es : List Fl} {ks : List Lk} {ts : List Tn} (hv : Vd r f n (es.map fc) ks ts) (hF : Oe 36 3 flL w' lo FA c1 es) (hB : ∀ e, e ∈ es → Ob w' lo e.2.1.1 e.2.1.2.1 e.2.1.2.2) (hK : Oe 63 2 lkL w' lo KA c2 ks) (hT : Oe 66 4 tnL w' lo TA c3 ts) (hc : ts.length ≤ c3) (hl : w.heap.size ≤ lo) (hb : Below w.heap.size w w') :
    DdPost w (.returned (.tuple #[dkV r f n FA es.length c1 KA ks.length c2 TA ts.length c3, .int .i64 z])) w' := by
  refine ⟨r, f, n, FA, c1, es, KA, c2, ks, TA, c3, ts, z, rfl, hv, hc, fun e he => (hB e he).le_cap, fun w2 hk => ?_, hb⟩
  have hk2 : ∀ g, lo ≤ g → g < w'.heap.size → w2.heap[g]? = w'.heap[g]? := fun g h1 h2 => hk g (by omega) h2
  exact ⟨⟨(Oe.keepB hF fun ad ha => hk2 _ (hF.inB ad ha).1 (hF.inB ad ha).2).sl fl3, fun e he => (Ob.keepB (hB e he) fun ad ha => hk2 _ ((hB e he).inB ad ha).1 ((hB e he).inB ad ha).2).by_⟩, (Oe.keepB hK fun ad ha => hk2 _ (hK.inB ad ha).1 (hK.inB ad ha).2).sl lk2, (Oe.keepB hT fun ad ha => hk2 _ (hT.inB ad ha).1 (hT.inB ad ha).2).sl tn4⟩
theorem has_of_find {m : ByteArray} : ∀ {dir : List Lk}, 0 < findS dir m → hasN dir m = true
  | [], h => by simp [findS] at h
  | x :: r, h => by
    rw [findS] at h
    rw [hasN, List.any_cons]
    cases hx : eqN x.1 m with
    | true => rfl
    | false =>
      rw [hx, if_neg (by simp)] at h
      exact has_of_find h
end Go.Proofs.Ytndmdhmghjfckaa
