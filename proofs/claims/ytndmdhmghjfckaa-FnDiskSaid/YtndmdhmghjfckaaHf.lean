/- DiskSet: both ways. -/
import Derived.Test.YtndmdhmghjfckaaHe
namespace Go.Proofs.Ytndmdhmghjfckaa
open Go.RowKit
set_option linter.unusedVariables false
set_option maxRecDepth 100000

/-- A disk's content, and whether there is any. -/
structure DV where
  r : Int
  f : Int
  n : Int
  cs : List (Int × List UInt8 × Int)
  ks : List Lk
  ts : List Tn
  ok : Bool
def DV.no : DV := ⟨0, 0, 0, [], [], [], false⟩
/-- A disk in memory of its own, and whether there is any. -/
def DOPost (w : World) (V : DV) (e : Ending) (w' : World) : Prop :=
  ∃ FA c1 fs KA c2 TA c3, e = .returned (.tuple #[dkV V.r V.f V.n FA V.cs.length c1 KA V.ks.length c2 TA V.ts.length c3, .bool V.ok]) ∧ Hid (fs.map fc = V.cs) ∧ DkG w' w.heap.size w'.heap.size FA c1 fs KA c2 V.ks TA c3 V.ts ∧ Below w.heap.size w w'
theorem DkG.nil {w : World} {lo hi : Nat} (h : lo ≤ hi) : DkG w lo hi none 0 [] none 0 [] none 0 [] :=
  ⟨lo, lo, ⟨ownsG_nil _ _ _ _, fun _ h => (by cases h), Nat.le_refl _, fun _ h => (by cases h)⟩, Nat.le_refl _, h, ownsG_nil _ _ _ _, fun _ h => (by cases h), ownsG_nil _ _ _ _, fun _ h => (by cases h)⟩
theorem DOPost.no {w w' : World} (h : Below w.heap.size w w') : DOPost w DV.no (.returned (.tuple #[dkV 0 0 0 none 0 0 none 0 0 none 0 0, .bool false])) w' :=
  ⟨none, 0, [], none, 0, none, 0, rfl, rfl, DkG.nil h.size, h⟩
/-- What DiskSet answers. -/
def setV (room fuse r f n : Int) (cs : List (Int × List UInt8 × Int)) (u : Nat) (ks : List Lk) (ts : List Tn) : DV :=
  if dkB r f n cs u ks ts = true then (if dkB room fuse n cs u ks ts = true then ⟨room, fuse, n, cs, ks, ts, true⟩ else DV.no) else DV.no
end Go.Proofs.Ytndmdhmghjfckaa
