/- Slices of cells: copying, comparing. -/
import Derived.Test.YtnilgcahggmncaaG5
namespace Go.Proofs.Ytnilgcahggmncaa
open Go.RowKit
set_option linter.unusedVariables false
set_option maxRecDepth 100000

theorem w64 {n : Int} (h : -9223372036854775808 ≤ n ∧ n ≤ 9223372036854775807) : wrap64 n = n := by unfold wrap64; omega
abbrev At := Int × Int × Bool × Bool × Bool
abbrev aC (a : At) : Array Value := #[.int .i64 a.1, .int .i64 a.2.1, .bool a.2.2.1, .bool a.2.2.2.1, .bool a.2.2.2.2]
abbrev aV (a : At) : Value := .agg (aC a)
theorem eqAttr_same (a : At) (w : World) :
    Calls Try.prog 74 #[aV a, aV a] w fun e w' => e = .returned (.bool true) ∧ Below w.heap.size w w' := by
  obtain ⟨f, b, x, y, z⟩ := a
  go_enter Try.func74, Try.ntmps74
  go_wp2
  go_ret
  exact ⟨rfl, (by (repeat (first | exact Below.refl _ _ | (refine Below.alloc ?_ (by first | omega | (simp; done) | (simp; omega)) _) | (refine Below.drew ?_) | (refine below_drewN ?_ _) | (refine below_at1 ?_ (by first | omega | (simp; done) | (simp; omega))) | (refine Below.setCell ?_ (by first | omega | (simp; done) | (simp; omega)) _) | (refine Below.trans ?_ (Below.mono (by assumption) (by first | omega | (simp; done) | (simp; omega)))))))⟩
abbrev Cl := Int × Int × Int × Bool × Bool × Bool
abbrev cv (c : Cl) : List Value := [.int .i64 c.1, .int .i64 c.2.1, .int .i64 c.2.2.1, .bool c.2.2.2.1, .bool c.2.2.2.2.1, .bool c.2.2.2.2.2]
abbrev cV (c : Cl) : Value := .agg #[.int .i64 c.1, .int .i64 c.2.1, .int .i64 c.2.2.1, .bool c.2.2.2.1, .bool c.2.2.2.2.1, .bool c.2.2.2.2.2]
/-- A slice that begins at A reads as these cells. -/
def Gs (w : World) (A : Option Addr) (cs : List Cl) : Prop := SlL w A 6 cv cs
theorem Gs.below {w w' : World} {A : Option Addr} {cs : List Cl} (h : Gs w A cs) (hb : Below w.heap.size w w') : Gs w' A cs := by
  rcases h with h | ⟨b, o, hA, h⟩
  · exact .inl h
  · exact .inr ⟨b, o, hA, fun i x hi j u hu => (hb.cell (World.block_lt_of_cell? w _ (h i x hi j u hu))).trans (h i x hi j u hu)⟩
theorem Gs.drewN {w : World} {A : Option Addr} {cs : List Cl} (h : Gs w A cs) (m : Nat) : Gs (w.drewN m) A cs := h
theorem Gs.keep {w w' : World} {B' : Nat} {A : Option Addr} {cs : List Cl} (h : Gs w A cs) (hb : Below B' w w') (hA : ∀ ad, A = some ad → ad.block < B') : Gs w' A cs := by
  rcases h with h | ⟨b, o, rfl, h⟩
  · exact .inl h
  · exact .inr ⟨b, o, rfl, fun i x hi j u hu => (hb.cell (p := ⟨b, o + (i * 6 + j), none⟩) (hA ⟨b, o, none⟩ rfl)).trans (h i x hi j u hu)⟩
/-- The six cells of an element. -/
theorem Gs.get {w : World} {A : Option Addr} {cs : List Cl} (h : Gs w A cs) {k : Nat} (hk : k < cs.length) : ∃ b o, A = some ⟨b, o, none⟩ ∧ b < w.heap.size ∧ w.cell? ⟨b, o + k * 6, none⟩ = some (.int .i64 cs[k].1) ∧ w.cell? ⟨b, o + k * 6 + 1, none⟩ = some (.int .i64 cs[k].2.1) ∧ w.cell? ⟨b, o + k * 6 + 2, none⟩ = some (.int .i64 cs[k].2.2.1) ∧ w.cell? ⟨b, o + k * 6 + 3, none⟩ = some (.bool cs[k].2.2.2.1) ∧ w.cell? ⟨b, o + k * 6 + 4, none⟩ = some (.bool cs[k].2.2.2.2.1) ∧ w.cell? ⟨b, o + k * 6 + 5, none⟩ = some (.bool cs[k].2.2.2.2.2) := by
  rcases h with h | ⟨b, o, hA, h⟩
  · rw [h] at hk; simp at hk
  · have e := List.getElem?_eq_getElem hk
    have h0 := h k _ e 0 _ rfl
    exact ⟨b, o, hA, World.block_lt_of_cell? w _ h0, h0, h k _ e 1 _ rfl, h k _ e 2 _ rfl, h k _ e 3 _ rfl, h k _ e 4 _ rfl, h k _ e 5 _ rfl⟩
theorem info_cell : (Try.prog.info? 44).map (fun i => (i.zero, i.size, i.bytes)) = some (some (.agg #[.int .i64 0, .int .i64 0, .int .i64 0, .bool false, .bool false, .bool false]), 6, 32) := by kernel_rfl
theorem rd_cells {w : World} {A : Option Addr} {n c : Nat} (h : Rd Try.prog w 22 [.slice A n c]) : ∃ cs : List Cl, n = cs.length ∧ Gs w A cs ∧ cs.length ≤ maxLen := by
  obtain ⟨A', c', cs, h1, h2, h3, h4⟩ := Rd.list (T := Cl) (size := 6) (enc := cv) (G := fun _ => True) Try.underlying22 cellsCellL (by decide) (by
    intro es hes
    obtain ⟨r, f, b, x, y, z, rfl⟩ := rd_CellL hes
    exact ⟨(r, f, b, x, y, z), rfl, trivial⟩) h
  injection h1 with h1 _
  injection h1 with h1 h1' h1''
  subst h1 h1' h1''
  exact ⟨cs, rfl, h4, h2⟩
/-- The cells of a list of cells, one after the other. -/
def cvs (cs : List Cl) : List Value := cs.flatMap cv
theorem cvs_snoc (l : List Cl) (c : Cl) : cvs (l ++ [c]) = cvs l ++ cv c := by simp [cvs]
theorem cvs_len (cs : List Cl) : (cvs cs).length = cs.length * 6 := by
  induction cs with
  | nil => rfl
  | cons c r ih => simp only [cvs, List.flatMap_cons, List.length_append, List.length_cons] at ih ⊢; rw [ih]; simp; omega
theorem cvs_get (cs : List Cl) : ∀ (i : Nat) (c : Cl), cs[i]? = some c → ∀ (j : Nat) (u : Value), (cv c)[j]? = some u → (cvs cs)[i * 6 + j]? = some u := by
  induction cs with
  | nil => intro i c h; simp at h
  | cons x r ih =>
    intro i c h j u hu
    have hj : j < 6 := (List.getElem?_eq_some_iff.1 hu).1
    rw [cvs, List.flatMap_cons]
    cases i with
    | zero =>
      simp only [List.getElem?_cons_zero] at h
      injection h with h
      subst h
      rw [Nat.zero_mul, Nat.zero_add, List.getElem?_append_left (by simpa using hj)]
      exact hu
    | succ i =>
      rw [List.getElem?_append_right (by simp; omega)]
      have := ih i c (by simpa using h) j u hu
      rw [cvs] at this
      rw [← this]
      congr 1
      simp
      omega
theorem Fill.gs {w : World} {g N : Nat} {t : TypeId} {cs : List Cl} (h : Fill w g t N (cvs cs)) : Gs w (some ⟨g, 0, none⟩) cs := by
  rcases h.cs with h1 | ⟨b, o, hA, h1⟩
  · have h2 : cs.length = 0 := by have := cvs_len cs; rw [h1] at this; simp at this; omega
    exact .inl (List.eq_nil_of_length_eq_zero h2)
  · exact .inr ⟨b, o, hA, fun i x hi j u hu => h1 _ _ (cvs_get cs i x hi j u hu)⟩
theorem Fill.six {w : World} {g N : Nat} {t : TypeId} {done : List Value} (h : Fill w g t N done) {k : Nat} (hk : k * 6 = done.length) (hlt : k * 6 + 6 ≤ N) (a b c d e f : Value) :
    Fill ((((((w.setCell ⟨g, k * 6, none⟩ a).setCell ⟨g, k * 6 + 1, none⟩ b).setCell ⟨g, k * 6 + 2, none⟩ c).setCell ⟨g, k * 6 + 3, none⟩ d).setCell ⟨g, k * 6 + 4, none⟩ e).setCell ⟨g, k * 6 + 5, none⟩ f) g t N (done ++ [a, b, c, d, e, f]) := by
  have h1 := h.step hk (by omega) a
  have h2 := h1.step (k := k * 6 + 1) (by simp; omega) (by omega) b
  have h3 := h2.step (k := k * 6 + 2) (by simp; omega) (by omega) c
  have h4 := h3.step (k := k * 6 + 3) (by simp; omega) (by omega) d
  have h5 := h4.step (k := k * 6 + 4) (by simp; omega) (by omega) e
  have h6 := h5.step (k := k * 6 + 5) (by simp; omega) (by omega) f
  simpa using h6
/-- A slice of cells that owns its block, from block lo on. -/
def Og (w : World) (lo : Nat) (A : Option Addr) (c : Nat) (cs : List Cl) : Prop := ownsG w lo 44 6 (.slice A cs.length c) cs.length (cvs cs)
section
variable {w w' : World} {lo c : Nat} {A : Option Addr} {cs : List Cl}
theorem Og.gs (h : Og w lo A c cs) : Gs w A cs := by
  rcases h.2 with ⟨h1, h2⟩ | ⟨g, cap, cur, fz, hv, _⟩
  · exact .inl (List.eq_nil_of_length_eq_zero h2)
  · injection hv with hv _ _
    exact .inr ⟨g, 0, hv, fun i x hi j u hu => by rw [Nat.zero_add]; exact h.cells (g := g) (by rw [hv]; rfl) _ _ (cvs_get cs i x hi j u hu)⟩
theorem Og.below {B' : Nat} (h : Og w lo A c cs) (hb : Below B' w w') (hB : w.heap.size ≤ B') : Og w' lo A c cs :=
  ownsG.below h hb fun k hk => Nat.lt_of_lt_of_le (h.lt k hk).2 hB
theorem Og.alloc (h : Og w lo A c cs) (o : Obj) : Og (w.alloc o) lo A c cs := ownsG.alloc h o
theorem Og.drewN (h : Og w lo A c cs) (m : Nat) : Og (w.drewN m) lo A c cs := h
theorem Og.mono {lo' : Nat} (h : Og w lo A c cs) (hl : lo' ≤ lo) : Og w lo' A c cs := ownsG.mono h hl
theorem Og.inB (h : Og w lo A c cs) : InB lo w.heap.size A := by
  rintro ad rfl
  exact h.lt ad.block rfl
theorem Og.cap (h : Og w lo A c cs) : cs.length ≤ c := by
  rcases h.2 with ⟨hv, hn⟩ | ⟨g, cap, cur, fz, hv, _, _, _, hnc, _⟩
  · omega
  · injection hv with _ _ hv3
    omega
theorem Og.of_fill {g N : Nat} (h : Fill w g 44 (N * 6) (cvs cs)) (hN : cs.length ≤ N) (hlo : lo ≤ g) (hm : N ≤ maxLen) : Og w lo (some ⟨g, 0, none⟩) N cs := by
  obtain ⟨cur, fz, h1, hz, h2, h3, h4⟩ := h
  exact ⟨cvs_len cs, .inr ⟨g, N, cur, fz, rfl, hlo, h1, hz, hN, hm, h2, by rw [← cvs_len]; exact h3⟩⟩
theorem Og.fill (h : Og w lo A c cs) (hx : 0 < cs.length) : ∃ g, A = some ⟨g, 0, none⟩ ∧ lo ≤ g ∧ c ≤ maxLen ∧ cs.length ≤ c ∧ Fill w g 44 (c * 6) [] := by
  rcases h.2 with ⟨h1, h2⟩ | ⟨g, cap, cur, fz, hv, hg, hh, hz, hc1, hc2, hc3, ht⟩
  · omega
  · injection hv with hv _ hv3
    subst hv3
    exact ⟨g, hv, hg, hc2, hc1, Fill.start hh hz (by omega)⟩
theorem Og.setCell {p : Addr} (h : Og w lo A c cs) (hp : p.block < lo) (v : Value) : Og (w.setCell p v) lo A c cs := by
  refine ownsG.kept (row := some p.block) h ⟨rfl, rfl, rfl, by simp, fun i hi hne => Below.heap_setCell w p v i (by rintro rfl; exact hne rfl)⟩ ?_
  cases A with
  | none => exact .inl rfl
  | some ad =>
    have := (h.lt ad.block rfl).1
    refine .inr ?_
    simp [Value.ownBlock]
    omega
theorem Og.grown {A' : Option Addr} {n c' lo' hi hi' : Nat} (h : Og w lo' A c cs) (hg : w.grownBy w' (Value.slice A' n c').ownBlock) (h' : InB lo hi A') (hA : InB lo' hi' A) (hne : hi' ≤ lo ∨ hi ≤ lo') : Og w' lo' A c cs := by
  refine ownsG.kept h hg ?_
  cases A with
  | none => exact .inl rfl
  | some ad =>
    refine .inr ?_
    have h1 := hA ad rfl
    cases A' with
    | none => simp [Value.ownBlock]
    | some ad' =>
      have h2 := h' ad' rfl
      simp [Value.ownBlock]
      omega
theorem Gs.grown {A' : Option Addr} {n c' hi : Nat} (h : Gs w A cs) (hg : w.grownBy w' (Value.slice A' n c').ownBlock) (h' : InB lo hi A') (hne : ∀ ad, A = some ad → cs ≠ [] → ad.block < lo ∨ hi ≤ ad.block) : Gs w' A cs := by
  rcases h with h | ⟨b, o, hA, h⟩
  · exact .inl h
  · refine .inr ⟨b, o, hA, fun i x hix j u hu => ?_⟩
    have hc := h i x hix j u hu
    refine hg.cell hc ?_
    intro he
    cases A' with
    | none => simp [Value.ownBlock] at he
    | some ad =>
      have h2 := h' ad rfl
      have h3 : b < lo ∨ hi ≤ b := hne _ hA (by rintro rfl; simp at hix)
      simp [Value.ownBlock] at he
      omega
theorem Gs.lt_ (h : Gs w A cs) : ∀ ad, A = some ad → cs ≠ [] → ad.block < w.heap.size := by
  intro ad hA hne
  rcases h with h | ⟨b, o, hA', h⟩
  · exact absurd h hne
  · rw [hA] at hA'
    injection hA' with hA'
    subst hA'
    cases cs with
    | nil => exact absurd rfl hne
    | cons x bs => exact World.block_lt_of_cell? w _ (h 0 x rfl 0 _ rfl)
end
def CellsPost (w : World) (cs : List Cl) (e : Ending) (w' : World) : Prop :=
  ∃ A' c', e = .returned (.slice A' cs.length c') ∧ Og w' w.heap.size A' c' cs ∧ Gs w' A' cs ∧ InB w.heap.size w'.heap.size A' ∧ Below w.heap.size w w'
set_option maxHeartbeats 2000000 in
theorem toCellS_any (A : Option Addr) (c : Nat) (cs : List Cl) (w : World) (ha : Gs w A cs) (hl : cs.length ≤ 1048576) :
    Calls Try.prog 52 #[.slice A cs.length c] w (CellsPost w cs) := by
  obtain ⟨i0, hi, hz0, hz1, hz2⟩ := info_parts info_cell
  go_enter Try.func52, Try.ntmps52
  go_wp2_with (at_make; refine wpList_make_full _ rfl _ _ _ rfl w.heap.size 44 i0 _ 6 Try.underlying27 hi hz0 hz1 _ _ _ _ cs.length rfl rfl rfl rfl (by rw [hz2]; omega) (by unfold maxLen; omega) (Nat.le_refl _) ?_; intro w1 hown hgrow)
  clear hi hz0 hz1 hz2
  have hF : Fill w1 w.heap.size 44 (cs.length * 6) [] := by
    rcases hown.2 with ⟨hv, _⟩ | ⟨g, cap, cur, hv, _, hh, _, _, hc3, _⟩
    · cases hv
    · injection hv with hv _ hv3
      injection hv with hv
      injection hv with hv
      subst hv3 hv
      exact Fill.start hh (.inl rfl) (by omega)
  have hb1 : Below w.heap.size w w1 := (Below.refl _ _).grown hgrow (Nat.le_refl _) (by simp)
  clear hown hgrow
  go_loopw [4] (fun i wr => ∃ k : Nat, k ≤ cs.length ∧ i = .int .i64 k ∧ Fill wr w.heap.size 44 (cs.length * 6) (cvs (cs.take k)) ∧ Below w.heap.size w wr) (fun i _ => cs.length - (intOf i).toNat)
  case atStart => exact ⟨0, Nat.zero_le _, rfl, hF, hb1⟩
  case round =>
    clear hF hb1
    obtain ⟨k, hk, rfl, hF, hb⟩ := hrel
    by_cases hlt : k < cs.length
    · obtain ⟨b, o, rfl, hbs, x0, x1, x2, x3, x4, x5⟩ := (ha.below hb).get hlt
      have hlt' : (k : Int) < cs.length := by omega
      have zF := hF.lt
      have zb := hb.size
      go_wp2_with (go_at_call 115; refine (toCell_any _ _ _ _ _ _ _).mono ?_; rintro e w2 ⟨rfl, hb2⟩; have hF2 := hF.keep (hb2.block _ zF); obtain ⟨u0, hu0⟩ := hF2.cell (k * 6) (by omega); have hf0 := hF2.frozen (k * 6) (by omega); obtain ⟨u1, hu1⟩ := hF2.cell (k * 6 + 1) (by omega); have hf1 := hF2.frozen (k * 6 + 1) (by omega); obtain ⟨u2, hu2⟩ := hF2.cell (k * 6 + 2) (by omega); have hf2 := hF2.frozen (k * 6 + 2) (by omega); obtain ⟨u3, hu3⟩ := hF2.cell (k * 6 + 3) (by omega); have hf3 := hF2.frozen (k * 6 + 3) (by omega); obtain ⟨u4, hu4⟩ := hF2.cell (k * 6 + 4) (by omega); have hf4 := hF2.frozen (k * 6 + 4) (by omega); obtain ⟨u5, hu5⟩ := hF2.cell (k * 6 + 5) (by omega); have hf5 := hF2.frozen (k * 6 + 5) (by omega))
      go_roundw
      case rel =>
        refine ⟨k + 1, by omega, by go_num, ?_, ?_⟩
        · rw [take_succ_get (List.getElem?_eq_getElem hlt), cvs_snoc]
          exact hF2.six (by rw [cvs_len]; simp; omega) (by omega) _ _ _ _ _ _
        · exact (((((((hb.trans (hb2.mono zb)).setCell (Nat.le_refl _) _).setCell (Nat.le_refl _) _).setCell (Nat.le_refl _) _).setCell (Nat.le_refl _) _).setCell (Nat.le_refl _) _).setCell (Nat.le_refl _) _)
      case measure => simp [intOf]; omega
    · have hlt' : ¬ ((k : Int) < cs.length) := by omega
      have hk' : k = cs.length := by omega
      have hF' : Fill wr w.heap.size 44 (cs.length * 6) (cvs cs) := by rw [hk', List.take_length] at hF; exact hF
      have hlt3 := hF'.lt
      clear hF hk'
      go_wp2
      go_ret
      exact ⟨_, _, rfl, Og.of_fill hF' (Nat.le_refl _) (Nat.le_refl _) (by unfold maxLen; omega), hF'.gs, fun ad ha => by injection ha with ha; subst ha; simp; omega, hb⟩
theorem eqCell_same (c : Cl) (w : World) :
    Calls Try.prog 117 #[cV c, cV c] w fun e w' => e = .returned (.bool true) ∧ Below w.heap.size w w' := by
  obtain ⟨r, f, b, x, y, z⟩ := c
  go_enter Try.func117, Try.ntmps117
  go_wp2_with fail
  have hb0 : Below w.heap.size w ((w.alloc (.cells #[.int .i64 r, .int .i64 f, .int .i64 b, .bool x, .bool y, .bool z] 44)).alloc (.cells #[.int .i64 r, .int .i64 f, .int .i64 b, .bool x, .bool y, .bool z] 44)) := by (repeat (first | exact Below.refl _ _ | (refine Below.alloc ?_ (by first | omega | (simp; done) | (simp; omega)) _) | (refine Below.drew ?_) | (refine below_drewN ?_ _) | (refine below_at1 ?_ (by first | omega | (simp; done) | (simp; omega))) | (refine Below.setCell ?_ (by first | omega | (simp; done) | (simp; omega)) _) | (refine Below.trans ?_ (Below.mono (by assumption) (by first | omega | (simp; done) | (simp; omega))))))
  refine (eqAttr_same (f, b, x, y, z) _).mono ?_
  rintro e w1 ⟨rfl, hb1⟩
  go_wp2_with fail
  go_ret
  exact ⟨rfl, hb0.trans (hb1.mono (by first | omega | (simp; done) | (simp; omega)))⟩
set_option maxHeartbeats 2000000 in
theorem eqCellS_same (A A' : Option Addr) (c c' : Nat) (cs : List Cl) (w : World) (ha : Gs w A cs) (hb : Gs w A' cs) (hl : cs.length ≤ 1099511627776) :
    Calls Try.prog 55 #[.slice A cs.length c, .slice A' cs.length c'] w fun e w' => e = .returned (.bool true) ∧ Below w.heap.size w w' := by
  go_enter Try.func55, Try.ntmps55
  go_wp2
  go_loopw [5] (fun i wr => ∃ k : Nat, k ≤ cs.length ∧ i = .int .i64 k ∧ Below w.heap.size w wr) (fun i _ => cs.length - (intOf i).toNat)
  case atStart => exact ⟨0, Nat.zero_le _, rfl, Below.refl _ _⟩
  case round =>
    obtain ⟨k, hk, rfl, hbw⟩ := hrel
    by_cases hlt : k < cs.length
    · obtain ⟨b, o, rfl, hbs, x0, x1, x2, x3, x4, x5⟩ := (ha.below hbw).get hlt
      obtain ⟨b', o', rfl, hbs', y0, y1, y2, y3, y4, y5⟩ := (hb.below hbw).get hlt
      have hlt' : (k : Int) < cs.length := by omega
      have zb := hbw.size
      go_wp2_with fail
      go_region_held3 (fun w' => Below wr.heap.size wr w' ∧ w'.cell? ⟨b, o + k * 6, none⟩ = some (.int .i64 cs[k].1) ∧ w'.cell? ⟨b, o + k * 6 + 1, none⟩ = some (.int .i64 cs[k].2.1) ∧ w'.cell? ⟨b, o + k * 6 + 2, none⟩ = some (.int .i64 cs[k].2.2.1) ∧ w'.cell? ⟨b, o + k * 6 + 3, none⟩ = some (.bool cs[k].2.2.2.1) ∧ w'.cell? ⟨b, o + k * 6 + 4, none⟩ = some (.bool cs[k].2.2.2.2.1) ∧ w'.cell? ⟨b, o + k * 6 + 5, none⟩ = some (.bool cs[k].2.2.2.2.2) ∧ w'.cell? ⟨b', o' + k * 6, none⟩ = some (.int .i64 cs[k].1) ∧ w'.cell? ⟨b', o' + k * 6 + 1, none⟩ = some (.int .i64 cs[k].2.1) ∧ w'.cell? ⟨b', o' + k * 6 + 2, none⟩ = some (.int .i64 cs[k].2.2.1) ∧ w'.cell? ⟨b', o' + k * 6 + 3, none⟩ = some (.bool cs[k].2.2.2.1) ∧ w'.cell? ⟨b', o' + k * 6 + 4, none⟩ = some (.bool cs[k].2.2.2.2.1) ∧ w'.cell? ⟨b', o' + k * 6 + 5, none⟩ = some (.bool cs[k].2.2.2.2.2))
        (first | exact ⟨Below.drew (Below.refl _ _), by simpa using x0, by simpa using x1, by simpa using x2, by simpa using x3, by simpa using x4, by simpa using x5, by simpa using y0, by simpa using y1, by simpa using y2, by simpa using y3, by simpa using y4, by simpa using y5⟩ | assumption | (refine ⟨?_, ?_, ?_, ?_, ?_, ?_, ?_, ?_, ?_, ?_, ?_, ?_, ?_⟩ <;> assumption))
        ((go_at_call 117; refine (eqCell_same cs[k] _).mono ?_; rintro e w3 ⟨rfl, hb3⟩; have hbw3 : Below wr.heap.size wr w3 := (Below.drew (Below.refl wr.heap.size wr)).trans hb3; have hkeep := And.intro (hbw3) (And.intro ((hbw3.cell (World.block_lt_of_cell? wr _ x0)).trans x0) (And.intro ((hbw3.cell (World.block_lt_of_cell? wr _ x1)).trans x1) (And.intro ((hbw3.cell (World.block_lt_of_cell? wr _ x2)).trans x2) (And.intro ((hbw3.cell (World.block_lt_of_cell? wr _ x3)).trans x3) (And.intro ((hbw3.cell (World.block_lt_of_cell? wr _ x4)).trans x4) (And.intro ((hbw3.cell (World.block_lt_of_cell? wr _ x5)).trans x5) (And.intro ((hbw3.cell (World.block_lt_of_cell? wr _ y0)).trans y0) (And.intro ((hbw3.cell (World.block_lt_of_cell? wr _ y1)).trans y1) (And.intro ((hbw3.cell (World.block_lt_of_cell? wr _ y2)).trans y2) (And.intro ((hbw3.cell (World.block_lt_of_cell? wr _ y3)).trans y3) (And.intro ((hbw3.cell (World.block_lt_of_cell? wr _ y4)).trans y4) ((hbw3.cell (World.block_lt_of_cell? wr _ y5)).trans y5))))))))))))))
      clear hkeep
      go_wp2_with fail
      go_roundw
      case rel => exact ⟨k + 1, by omega, by go_num, hbw.trans (hbw3.mono zb)⟩
      case measure => simp [intOf]; omega
    · have hlt' : ¬ ((k : Int) < cs.length) := by omega
      go_wp2
      go_ret
      exact ⟨rfl, hbw⟩
abbrev gV (W H : Int) (A : Option Addr) (n c : Nat) : Value := .agg #[.int .i64 W, .int .i64 H, .slice A n c]
theorem rd_grid {w : World} {vs : List Value} (h : Rd Try.prog w 24 vs) : ∃ (W H : Int) (A : Option Addr) (cs : List Cl) (c : Nat), vs = [.int .i64 W, .int .i64 H, .slice A cs.length c] ∧ Gs w A cs ∧ cs.length ≤ maxLen ∧ (-9223372036854775808 ≤ W ∧ W ≤ 9223372036854775807) ∧ (-9223372036854775808 ≤ H ∧ H ≤ 9223372036854775807) := by
  obtain ⟨hl, hf⟩ := h.struct Try.underlying24
  have hc : Try.prog.cellsOf 24 = 3 := by kernel_rfl
  have hd : Try.prog.cellsOf 22 = 1 := by kernel_rfl
  match vs, hl.trans hc with
  | [c0, c1, c2], _ =>
    obtain ⟨W, e0, w0⟩ := (hf 0 _ rfl).int Try.underlying3
    obtain ⟨H, e1, w1⟩ := (hf 1 _ rfl).int Try.underlying3
    have h2 : Rd Try.prog w 22 (([c0, c1, c2].drop 2).take (Try.prog.cellsOf 22)) := hf 2 _ rfl
    rw [hd] at h2
    obtain ⟨A, n, c, e2, _⟩ := h2.slice Try.underlying22
    rw [e2] at h2
    obtain ⟨cs, rfl, hg, hm⟩ := rd_cells h2
    simp [cellsInt] at e0 e1 e2
    exact ⟨W, H, A, cs, c, by rw [e0, e1, e2], hg, hm, i64_bd w0, i64_bd w1⟩
def szR (left n : Int) : Int := if left < n then -1 else left - n
theorem szR_no {left n : Int} (h : left < n) : Hid (szR left n = -1) := if_pos h
theorem szR_yes {left n : Int} (h : ¬ left < n) : Hid (szR left n = left - n) := if_neg h
theorem szCellS_any (A : Option Addr) (n c : Nat) (left : Int) (w : World) (hn : n ≤ maxLen) (h0 : 0 ≤ left) (h1 : left ≤ 1048576) :
    Calls Try.prog 49 #[.slice A n c, .int .i64 left] w fun e w' => e = .returned (.int .i64 (szR left n)) ∧ w = w' := by
  unfold maxLen at hn
  by_cases h : left < n
  · have HS := szR_no h
    have h' : left - n < 0 := by omega
    go_enter Try.func49, Try.ntmps49
    go_wp2
    go_ret
    exact ⟨ret_int HS.out.symm, rfl⟩
  · have HS := szR_yes h
    have h' : ¬ left - n < 0 := by omega
    go_enter Try.func49, Try.ntmps49
    go_wp2
    go_ret
    exact ⟨ret_int HS.out.symm, rfl⟩
theorem szGrid_any (W H : Int) (A : Option Addr) (n c : Nat) (left : Int) (w : World) (hn : n ≤ maxLen) (h0 : 0 ≤ left) (h1 : left ≤ 1048576) :
    Calls Try.prog 13 #[gV W H A n c, .int .i64 left] w fun e w' => e = .returned (.int .i64 (szR left n)) ∧ Below w.heap.size w w' := by
  have hn' := hn
  unfold maxLen at hn'
  by_cases h : left < n
  · have HS := szR_no h
    go_enter Try.func13, Try.ntmps13
    go_wp2_with (go_at_call 49; refine (szCellS_any _ _ _ _ _ hn h0 h1).mono ?_; rintro e w' ⟨he, rfl⟩; rw [HS.out] at he; subst he)
    go_ret
    exact ⟨ret_int HS.out.symm, (by (repeat (first | exact Below.refl _ _ | (refine Below.alloc ?_ (by first | omega | (simp; done) | (simp; omega)) _) | (refine Below.drew ?_) | (refine below_drewN ?_ _) | (refine below_at1 ?_ (by first | omega | (simp; done) | (simp; omega))) | (refine Below.setCell ?_ (by first | omega | (simp; done) | (simp; omega)) _) | (refine Below.trans ?_ (Below.mono (by assumption) (by first | omega | (simp; done) | (simp; omega)))))))⟩
  · have HS := szR_yes h
    have h' : ¬ left - n < 0 := by omega
    go_enter Try.func13, Try.ntmps13
    go_wp2_with (go_at_call 49; refine (szCellS_any _ _ _ _ _ hn h0 h1).mono ?_; rintro e w' ⟨he, rfl⟩; rw [HS.out] at he; subst he)
    go_ret
    exact ⟨ret_int HS.out.symm, (by (repeat (first | exact Below.refl _ _ | (refine Below.alloc ?_ (by first | omega | (simp; done) | (simp; omega)) _) | (refine Below.drew ?_) | (refine below_drewN ?_ _) | (refine below_at1 ?_ (by first | omega | (simp; done) | (simp; omega))) | (refine Below.setCell ?_ (by first | omega | (simp; done) | (simp; omega)) _) | (refine Below.trans ?_ (Below.mono (by assumption) (by first | omega | (simp; done) | (simp; omega)))))))⟩
abbrev cl0 : Cl := (0, 0, 0, false, false, false)
end Go.Proofs.Ytnilgcahggmncaa
