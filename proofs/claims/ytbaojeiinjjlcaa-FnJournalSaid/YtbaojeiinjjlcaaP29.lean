/- The law of JournalBytes. -/
import Derived.Test.YtbaojeiinjjlcaaP28
namespace Go.Proofs.Ytbaojeiinjjlcaa
open Go.RowKit
set_option linter.unusedVariables false
set_option maxRecDepth 100000

theorem Ls.lt_ {w : World} {A : Option Addr} {es : List Sl} (h : Ls w A es) : ∀ e, e ∈ es → ∀ ad, e.1 = some ad → e.2.2 ≠ [] → ad.block < w.heap.size := fun e he => (h.2 e he).lt_
theorem By.belowB {w w' : World} {B' : Nat} {A : Option Addr} {bs : List UInt8} (h : By w A bs) (hb : Below B' w w') (hA : ∀ ad, A = some ad → bs ≠ [] → ad.block < B') : By w' A bs := by
  by_cases hn : bs = []
  · exact .inl hn
  · rcases h with h | ⟨b, o, rfl, h⟩
    · exact .inl h
    · exact .inr ⟨b, o, rfl, fun i x hi => (hb.cell (p := ⟨b, o + i, none⟩) (hA ⟨b, o, none⟩ rfl hn)).trans (h i x hi)⟩
theorem Cs.belowB {w w' : World} {B' : Nat} {A : Option Addr} {bs : List Value} (h : Cs w A bs) (hb : Below B' w w') (hA : ∀ ad, A = some ad → bs ≠ [] → ad.block < B') : Cs w' A bs := by
  by_cases hn : bs = []
  · exact .inl hn
  · rcases h with h | ⟨b, o, rfl, h⟩
    · exact .inl h
    · exact .inr ⟨b, o, rfl, fun i x hi => (hb.cell (p := ⟨b, o + i, none⟩) (hA ⟨b, o, none⟩ rfl hn)).trans (h i x hi)⟩
/-- Loads that were there at w stay readable in what changes nothing that was there at w. -/
theorem Ls.belowB {w w1 w2 : World} {B' : Nat} {A : Option Addr} {es : List Sl} (h0 : Ls w A es) (h : Ls w1 A es) (hb : Below B' w1 w2) (hB : w.heap.size ≤ B') : Ls w2 A es := by
  refine ⟨h.1.belowB hb fun ad ha hn => Nat.lt_of_lt_of_le (h0.1.lt_ ad ha hn) hB, fun e he => (h.2 e he).belowB hb fun ad ha hn => Nat.lt_of_lt_of_le (h0.lt_ e he ad ha hn) hB⟩
theorem InB.mono_ {lo hi lo' hi' : Nat} {A : Option Addr} (h : InB lo hi A) (h1 : lo' ≤ lo) (h2 : hi ≤ hi') : InB lo' hi' A := fun ad ha => ⟨Nat.le_trans h1 (h ad ha).1, Nat.lt_of_lt_of_le (h ad ha).2 h2⟩
theorem journalBytes_implN (A : Option Addr) (c n : Nat) (fs es : List Sl) (seq : Int) (w : World) (hn : n = es.length) (hd : Hid (datas fs = datas es)) (ha : Ls w A fs) (hl : es.length + tot es ≤ 1048576) (hs1 : -9223372036854775808 ≤ seq) (hs2 : seq ≤ 9223372036854775807) :
    Calls Try.prog 5 #[.int .i64 seq, .slice A n c] w (PutPost w (jR seq (datas es))) := by
  subst hn
  have h1 := datas_len hd.out
  have h2 := tot_datas hd.out
  rw [← h1, ← hd.out]
  exact journalBytes_impl _ _ _ _ _ ha (by omega) hs1 hs2
end Go.Proofs.Ytbaojeiinjjlcaa
