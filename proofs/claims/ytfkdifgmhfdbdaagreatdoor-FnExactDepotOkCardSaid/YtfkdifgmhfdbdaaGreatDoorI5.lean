/- slices.DeleteFunc at links and files, whatever predicate: what is left. -/
import Derived.Test.YtfkdifgmhfdbdaaGreatDoorI4
namespace Go.Proofs.YtfkdifgmhfdbdaaGreatDoor
open Go.RowKit
set_option linter.unusedVariables false
set_option maxRecDepth 100000

theorem Fill.setAt {w : World} {g N k : Nat} {t : TypeId} {L : List Value} (h : Fill w g t N L) (hk : k < L.length) (u : Value) : Fill (w.setCell ⟨g, k, none⟩ u) g t N (L.set k u) := by
  obtain ⟨cur, fz, h1, hz, h2, h3, h4⟩ := h
  refine ⟨cur.setIfInBounds k u, fz, heap_setCell_same u h1, hz.imp id (by rw [Array.size_setIfInBounds]; exact id), by rw [Array.size_setIfInBounds]; exact h2, ?_, by rw [List.length_set]; exact h4⟩
  rw [List.length_set, Array.toList_setIfInBounds, List.take_set, h3]
theorem Fill.front {w : World} {g N : Nat} {t : TypeId} {L : List Value} (h : Fill w g t N L) (k : Nat) : Fill w g t N (L.take k) := by
  obtain ⟨cur, fz, h1, hz, h2, h3, h4⟩ := h
  refine ⟨cur, fz, h1, hz, h2, ?_, by rw [List.length_take]; omega⟩
  rw [List.length_take, ← List.take_take, h3]
theorem flat_set2 (y : Lk) : ∀ (xs : List Lk) (i : Nat), i < xs.length → ((xs.flatMap lkL).set (i * 2) (.string y.1)).set (i * 2 + 1) (.int .i64 y.2) = (xs.set i y).flatMap lkL
  | [], _, h => by simp at h
  | x :: r, 0, _ => by simp
  | x :: r, i + 1, h => by
    have ih := flat_set2 y r i (by simpa using h)
    rw [show (i + 1) * 2 = i * 2 + 1 + 1 by omega]
    simp only [List.flatMap_cons, List.set_cons_succ, List.cons_append, List.nil_append]
    rw [← ih]
theorem flat_set3 (y : Fl) : ∀ (xs : List Fl) (i : Nat), i < xs.length → (((xs.flatMap flL).set (i * 3) (.int .i64 y.1)).set (i * 3 + 1) (.slice y.2.1.1 y.2.1.2.2.length y.2.1.2.1)).set (i * 3 + 2) (.int .i64 y.2.2) = (xs.set i y).flatMap flL
  | [], _, h => by simp at h
  | x :: r, 0, _ => by simp
  | x :: r, i + 1, h => by
    have ih := flat_set3 y r i (by simpa using h)
    rw [show (i + 1) * 3 = i * 3 + 1 + 1 + 1 by omega]
    simp only [List.flatMap_cons, List.set_cons_succ, List.cons_append, List.nil_append]
    rw [← ih]
theorem set_take {T : Type} {ys : List T} {i : Nat} (hi : i < ys.length) (x : T) : (ys.set i x).take (i + 1) = ys.take i ++ [x] := by
  have e : (ys.set i x)[i]? = some x := by simp [hi]
  rw [take_succ_get e]
  congr 1
  apply List.ext_getElem?
  intro j
  rw [List.getElem?_take, List.getElem?_take]
  split
  · rw [List.getElem?_set_ne (by omega)]
  · rfl
theorem filt_succ {T : Type} (q : T → Bool) {xs : List T} {j : Nat} (hj : j < xs.length) : (xs.take (j + 1)).filter q = (xs.take j).filter q ++ if q xs[j] then [xs[j]] else [] := by
  rw [take_succ_get (List.getElem?_eq_getElem hj), List.filter_append]
  congr 1
  cases h : q xs[j] <;> simp [h]
theorem filt_len {T : Type} (q : T → Bool) (xs : List T) (j : Nat) : ((xs.take j).filter q).length ≤ j := Nat.le_trans (List.length_filter_le _ _) (by rw [List.length_take]; omega)
theorem drop_get {T : Type} {xs ys : List T} {j : Nat} (h : ys.drop j = xs.drop j) (hx : j < xs.length) (hy : j < ys.length) : ys[j] = xs[j] := by
  have := congrArg (fun l => l[0]?) h
  simpa [hx, hy] using this
/-- clear(s): what lies ahead of it stays. -/
theorem clear_fillE {P : Program} (w : World) (t e ty t' : TypeId) (z : Value) (g o n c N : Nat) (L : List Value) (ht : P.underlying t = some (.slice e)) (hv : ∀ w, (zeroValue e).run P w = .ok z w) (h1 : ∀ v ∈ z.cells, v.oneCell' = true) (hp : 0 < z.cells.size)
    (hF : Fill w g t' N L) (hn : 0 < n) (ho : o ≤ L.length) (hfit : o + n * z.cells.size ≤ N) :
    ∃ w', (Builtin.clear_ #[t] ty #[.slice (some ⟨g, o, none⟩) n c]).run P w = .ok (.tuple #[]) w' ∧ Fill w' g t' N (L.take o) ∧ w.grownBy w' (some g) := by
  obtain ⟨cur, fz, hh, hzz, hsz, htk, hd⟩ := hF
  have hl : (Builtin.zeroCells z.cells n).toList.length = n * z.cells.size := by rw [Array.length_toList, size_zeroCells]
  have hone : ∀ v ∈ (Builtin.zeroCells z.cells n).toList, v.oneCell' = true := by
    intro v hv
    simp only [Builtin.zeroCells, Array.toList_map, List.mem_map] at hv
    obtain ⟨i, _, rfl⟩ := hv
    have hm := Nat.mod_lt i hp
    rw [getElem!_pos z.cells _ hm]
    exact h1 _ (Array.getElem_mem hm)
  have hst := run_storeCells_atD P g o t' fz (Builtin.zeroCells z.cells n).toList 0 cur w hh hzz (by rw [hl, hsz]; simpa using hfit) hone
  obtain ⟨m, rfl⟩ : ∃ m, n = m + 1 := ⟨n - 1, by omega⟩
  refine ⟨w.setRow g (cur.toList.take o ++ (Builtin.zeroCells z.cells (m + 1)).toList ++ cur.toList.drop (o + (Builtin.zeroCells z.cells (m + 1)).toList.length)).toArray, by simp [Builtin.clear_, run_underlying ht, hv, hst], ?_, ?_⟩
  · have hcur : cur.toList.length = N := by rw [Array.length_toList]; exact hsz
    have hsz2 : (cur.toList.take o ++ (Builtin.zeroCells z.cells (m + 1)).toList ++ cur.toList.drop (o + (Builtin.zeroCells z.cells (m + 1)).toList.length)).toArray.size = cur.size := by
      simp only [List.size_toArray, List.length_append, List.length_take, List.length_drop, Array.length_toList, size_zeroCells]
      omega
    refine ⟨_, fz, setRow_heap w g cur _ _ _ hh, hzz.imp id (by rw [hsz2]; exact id), by rw [hsz2]; exact hsz, ?_, by rw [List.length_take]; omega⟩
    rw [List.toList_toArray, List.length_take, Nat.min_eq_left ho, List.append_assoc, List.take_append_of_le_length (by rw [List.length_take]; omega), List.take_take, Nat.min_self, ← htk, List.take_take, Nat.min_eq_left ho]
  · exact ⟨rfl, rfl, rfl, by simp, fun i _ hne => setRow_other w g i _ (by rintro rfl; exact hne rfl)⟩
theorem wpList_clearE {P : Program} (w : World) {ops : Array Oper} {rest : List Oper} {o : Oper} {a : Act} {Q : Exit → Act → World → Prop} (hgd : o.guard = none) (s : Operand) (t : TypeId)
    (ho : o.op = .call { callee := .builtin .clear, args := #[s], argTypes := #[t] }) (v : Value) (hs : a.eval s = v) {v' : Value} {w' : World}
    (hr : (Builtin.clear_ #[t] o.type #[v]).run P w = .ok v' w') (h : wpList P ops Q rest (a.put o.dst v') w') : wpList P ops Q (o :: rest) a w :=
  wpList_plain hgd fun _ hK => by
    unfold Oper.wp execOp
    simp only [ho, resolve, invoke, builtin, Sem.run_bind, Sem.run_pure, Result.andThen_ok, List.map_toArray, List.map_cons, List.map_nil, hs, hr]
    exact hK _ _ h
def DelPost {T : Type} (E : TypeId) (k : Nat) (enc : T → List Value) (lo : Nat) (A : Option Addr) (c : Nat) (w : World) (us : List T) (e : Ending) (w' : World) : Prop :=
  e = .returned (.slice A us.length c) ∧ Oe E k enc w' lo A c us ∧ Below lo w w'
set_option maxHeartbeats 8000000 in
theorem delLink_any (gf : Nat) (lb : Array Value) (eg : ∀ args w, (callFunc gf args).run Tryz.prog w = .ok (.enter gf args) w) (p : Lk → Bool) (B lo : Nat) (A : Option Addr) (c : Nat) (xs : List Lk) (w : World) (ha : Oe 67 2 lkL w lo A c xs) (hl : xs.length ≤ 1000) (hlo : lo ≤ w.heap.size) (hB : B ≤ lo) (hp : PredB B w gf lb lkV p) :
    Calls Tryz.prog 137 #[.slice A xs.length c, .func (.func gf) #[] lb] w (DelPost 67 2 lkL lo A c w (xs.filter fun x => !p x)) := by
  have hix := ixLink_any gf lb eg p A c xs w (ha.sl lk2) (by omega) (hp.mono (Below.refl _ _) (by omega))
  have hfl := @List.findIdx_lt_length _ p xs
  by_cases hany : xs.findIdx p < xs.length
  case neg =>
    have hno : ∀ x ∈ xs, p x = false := fun x hx => by
      cases h : p x with
      | false => rfl
      | true => exact absurd (hfl.2 ⟨x, hx, h⟩) hany
    have hE : Hid (xs.filter (fun x => !p x) = xs) := List.filter_eq_self.2 fun x hx => by rw [hno x hx]; rfl
    have hv : ixV p xs = -1 := if_neg hany
    rw [hv] at hix
    rw [hE.out]
    clear hno hany hfl hv hE
    go_enter Tryz.func137, Tryz.ntmps137
    go_wp2_with (go_at_call 124; refine hix.mono ?_; rintro e w1 ⟨rfl, hb1⟩)
    go_ret
    exact ⟨rfl, ha.below hb1 (Nat.le_refl _), hb1.mono hlo⟩
  case pos =>
    obtain ⟨i0, hi0⟩ : ∃ i0, i0 = xs.findIdx p := ⟨_, rfl⟩
    have hv : ixV p xs = (i0 : Int) := by rw [ixV, if_pos hany, hi0]
    have hil : i0 < xs.length := by omega
    have hpi : p xs[i0] = true := by subst hi0; exact List.findIdx_getElem
    have hno : ∀ j (hj : j < xs.length), j < i0 → p xs[j] = false := fun j hj h => by
      subst hi0
      cases h9 : p xs[j] with
      | false => rfl
      | true => exact absurd h9 (by simpa using List.not_of_lt_findIdx h)
    have h00 : (xs.take (i0 + 1)).filter (fun x => !p x) = xs.take i0 := by
      rw [filt_succ _ hil, hpi]
      simp only [Bool.not_true, Bool.false_eq_true, if_false, List.append_nil]
      refine List.filter_eq_self.2 fun x hx => ?_
      obtain ⟨j, hj, rfl⟩ := List.getElem_of_mem hx
      rw [List.length_take] at hj
      rw [List.getElem_take, hno j (by omega) (by omega)]
      rfl
    rw [hv] at hix
    obtain ⟨g, rfl, hlog, hcm, hcap, hF⟩ := ha.fillC lk2 (by omega)
    have hcv : c ≤ 9223372036854775807 := by unfold maxLen at hcm; omega
    have H00 := Lib.hid h00
    have hle0 : (i0 : Int) < 1000 := by omega
    have hi1 : ((i0 : Int) == -1) = false := by rw [beq_eq_false_iff_ne]; omega
    have hwi : IntKind.i64.wrap ((i0 : Int) + 1) = (i0 : Int) + 1 := by rw [IntKind.wrap_i64]; omega
    obtain ⟨n, hn⟩ : ∃ n, n = xs.length := ⟨_, rfl⟩
    rw [← hn] at hl hil hcap ⊢
    have HN := Lib.hid hn
    clear hno hany hfl hv hi0 hpi h00 hn
    rw [← HN.out] at hix
    go_enter Tryz.func137, Tryz.ntmps137
    go_wp2_with (go_at_call 124; refine hix.mono ?_; rintro e w1 ⟨rfl, hb1⟩)
    have hF1 : Fill w1 g 67 (c * 2) (xs.flatMap lkL) := hF.keep (hb1.block g hF.lt)
    have hlo1 : lo ≤ w1.heap.size := Nat.le_trans hlo hb1.size
    have hb1' := hb1.mono hlo
    clear hix hi1 hwi hF ha
    go_loopw [5, 6] (fun iv jv wr => ∃ (j : Nat) (ys us : List Lk), us.length < j ∧ j ≤ n ∧ iv = .int .i64 us.length ∧ jv = .int .i64 j ∧ ys.length = n ∧ Hid (us = (xs.take j).filter fun x => !p x) ∧ Hid (ys.take us.length = us) ∧ Hid (ys.drop j = xs.drop j) ∧ Fill wr g 67 (c * 2) (ys.flatMap lkL) ∧ Below lo w wr) (fun _ jv _ => n - (intOf jv).toNat)
    case atStart => exact ⟨i0 + 1, xs, xs.take i0, by rw [List.length_take, ← HN.out]; omega, by omega, by rw [List.length_take, ← HN.out, Nat.min_eq_left (by omega)], rfl, HN.out.symm, Lib.hid H00.out.symm, Lib.hid (by rw [List.length_take, ← HN.out, Nat.min_eq_left (by omega)]), Lib.hid rfl, hF1, hb1'⟩
    case round =>
      clear hF1 hlo1 hb1' hb1 hil hle0
      obtain ⟨j, ys, us, huj, hjn, rfl, rfl, hyl, hu, ht, hd, hF, hb⟩ := hrel
      have zF := hF.lt
      have zb := hb.size
      have zlo : lo ≤ wr.heap.size := Nat.le_trans hlo zb
      by_cases hlt : j < n
      · have hlt' : (j : Int) < n := by omega
        have hjx : j < xs.length := by have := HN.out; omega
        have hjy : j < ys.length := by omega
        have hyj := drop_get hd.out hjx hjy
        have x0 : wr.cell? ⟨g, j * 2, none⟩ = some (.string xs[j].1) := by
          have := hF.cells (j * 2 + 0) _ (flat_get lk2 ys j _ (List.getElem?_eq_getElem hjy) 0 _ rfl)
          rw [hyj] at this
          exact this
        have x1 : wr.cell? ⟨g, j * 2 + 1, none⟩ = some (.int .i64 xs[j].2) := by
          have := hF.cells (j * 2 + 1) _ (flat_get lk2 ys j _ (List.getElem?_eq_getElem hjy) 1 _ rfl)
          rw [hyj] at this
          exact this
        have hcall := hp (wr.alloc (.cells (lkL xs[j]).toArray 67)) xs[j] ((hb.mono hB).alloc (by omega) _)
        have hb7 : Below wr.heap.size wr (wr.alloc (.cells (lkL xs[j]).toArray 67)) := (Below.refl _ _).alloc (Nat.le_refl _) _
        have hsx := filt_succ (fun x => !p x) hjx
        cases hq : p xs[j] with
        | true =>
          rw [hq] at hcall
          have HU : Hid (us = (xs.take (j + 1)).filter fun x => !p x) := by
            show _ = _
            rw [hsx, hq, ← hu.out]
            simp
          have HD : Hid (ys.drop (j + 1) = xs.drop (j + 1)) := by
            have := congrArg (List.drop 1) hd.out
            show _ = _
            simpa [List.drop_drop] using this
          clear hq hsx hu hd hyj
          go_wp2_with (go_at_fn gf; refine hcall.mono ?_; rintro e w2 ⟨rfl, hb2⟩)
          have hF2 : Fill w2 g 67 (c * 2) (ys.flatMap lkL) := hF.keep ((hb2.block g (by simp; omega)).trans (Below.heap_alloc wr _ g zF))
          go_roundw
          case rel => exact ⟨j + 1, ys, us, by omega, by omega, rfl, by go_num, hyl, HU, ht, HD, hF2, hb.trans ((hb7.trans (hb2.mono hb7.size)).mono zlo)⟩
          case measure => simp [intOf]; omega
        | false =>
          rw [hq] at hcall
          have HU : Hid (us ++ [xs[j]] = (xs.take (j + 1)).filter fun x => !p x) := by
            show _ = _
            rw [hsx, hq, ← hu.out]
            simp
          have HD : Hid ((ys.set us.length xs[j]).drop (j + 1) = xs.drop (j + 1)) := by
            have := congrArg (List.drop 1) hd.out
            show _ = _
            rw [List.drop_set_of_lt (by omega)]
            simpa [List.drop_drop] using this
          have HT : Hid ((ys.set us.length xs[j]).take (us.length + 1) = us ++ [xs[j]]) := by
            show _ = _
            rw [set_take (by omega), ht.out]
          have hul : us.length < n := by omega
          have hul' : (us.length : Int) < n := by omega
          have hu0 : (0 : Int) ≤ (us.length : Int) := by omega
          have hwu : IntKind.i64.wrap ((us.length : Int) + 1) = (us.length : Int) + 1 := by rw [IntKind.wrap_i64]; omega
          clear hq hsx hu hd hyj ht
          go_wp2_with (go_at_fn gf; refine hcall.mono ?_; rintro e w2 ⟨rfl, hb2⟩; have hF2 : Fill w2 g 67 (c * 2) (ys.flatMap lkL) := hF.keep ((hb2.block g (by simp; omega)).trans (Below.heap_alloc wr _ g zF)); obtain ⟨B2, hyq, _, zy⟩ := keep_blk hb2 (g := wr.heap.size) (heap_alloc_new wr _); have y0 : w2.cell? ⟨wr.heap.size, 0, none⟩ = some (.string xs[j].1) := hyq 0; have y1 : w2.cell? ⟨wr.heap.size, 1, none⟩ = some (.int .i64 xs[j].2) := hyq 1; obtain ⟨u0, hu0⟩ := hF2.cell (us.length * 2) (by omega); have hf0 := hF2.frozen (us.length * 2) (by omega); obtain ⟨u1, hu1⟩ := hF2.cell (us.length * 2 + 1) (by omega); have hf1 := hF2.frozen (us.length * 2 + 1) (by omega); clear B2 hyq)
          go_roundw
          case rel =>
            refine ⟨j + 1, ys.set us.length xs[j], us ++ [xs[j]], by simp; omega, by omega, by simp, by go_num, by rw [List.length_set]; exact hyl, HU, by rw [List.length_append]; exact HT, HD, ?_, ?_⟩
            · rw [← flat_set2 xs[j] ys us.length (by omega)]
              exact ((hF2.setAt (k := us.length * 2) (by simp only [flat_len lk2, hyl]; omega) (.string xs[j].1)).setAt (k := us.length * 2 + 1) (by simp only [List.length_set, flat_len lk2, hyl]; omega) (.int .i64 xs[j].2))
            · exact (((hb.trans ((hb7.trans (hb2.mono hb7.size)).mono zlo)).setCell (by show lo ≤ g; omega) _).setCell (by show lo ≤ g; omega) _)
          case measure => simp [intOf]; omega
      · have hlt' : ¬ ((j : Int) < n) := by omega
        obtain rfl : j = n := by omega
        have HU : Hid (us = xs.filter fun x => !p x) := by
          show _ = _
          rw [hu.out, List.take_of_length_le (by have := HN.out; omega)]
        have hcu : ¬ c = us.length := by omega
        have hu0 : (0 : Int) ≤ (us.length : Int) := by omega
        have hu1 : (us.length : Int) ≤ j := by omega
        have hu2 : (us.length : Int) ≤ c := by omega
        obtain ⟨W1, hr1, hF2, hg1⟩ := clear_fillE (P := Tryz.prog) wr 32 67 0 67 (.agg #[.string ByteArray.empty, .int .i64 0]) g (us.length * 2) (j - us.length) (c - us.length) (c * 2) (ys.flatMap lkL) Tryz.underlying32 (fun w => by kernel_rfl) (by decide) (by decide) hF (by omega) (by rw [flat_len lk2]; omega) (by show us.length * 2 + (j - us.length) * 2 ≤ c * 2; omega)
        have hpre : (ys.flatMap lkL).take (us.length * 2) = us.flatMap lkL := by rw [flat_take lk2 ys _ (by omega), ht.out]
        rw [hpre] at hF2
        have HO := Lib.hid (And.intro (Oe.of_fill (lo := lo) lk2 hF2 (by omega) hlog hcm) (hb.grown hg1 zlo (by intro k hk; injection hk with hk; omega)))
        clear hu ht hd hpre hF2 hg1 hF hyl
        go_wp2_with (at_builtin; refine wpList_clearE _ rfl _ 32 rfl _ rfl hr1 ?_)
        go_ret
        obtain ⟨h1, h2⟩ := HO.out
        rw [← HU.out]
        exact ⟨rfl, h1, h2⟩
end Go.Proofs.YtfkdifgmhfdbdaaGreatDoor
