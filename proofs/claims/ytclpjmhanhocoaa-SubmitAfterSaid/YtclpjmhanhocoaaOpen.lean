/- Opening arguments: a slice, element by element; a struct by its fields. Conditions: as stated in each theorem. -/
import Derived.Test.YtclpjmhanhocoaaRows
import Derived.WalkKit
import Derived.ProofKit
import Derived.OpenShut
import Derived.Lib.SmallJoins
import Derived.Deep.Slices
import Derived.Deep.Fields
import Derived.ChangeSame
set_option linter.unusedVariables false
set_option linter.unusedSimpArgs false
namespace Go.Proofs.Ytclpjmhanhocoaa.Open
open Go.ChangeShapes Go.WideShapes Go.ChangeAt Go.RowKit
open Go.Joins Go.Deep
section
variable {H : Type} {enc : TypeId × Value → H} {P : Program} {w : World} {base : Nat} {spare : Nat → Bool} {held : Bool}
theorem addr_plain {w : World} {a : Addr} {i : Nat} {v : Value} (h : w.cell? (a.add i) = some v) (h0 : i = 0 → True) : i = 0 → a.spot = none := by
  intro e
  subst e
  have : a.add 0 = a := by simp [Addr.add]
  rw [this] at h
  unfold World.cell? at h
  cases hs : a.spot with
  | none => rfl
  | some k =>
    rw [hs] at h
    split at h <;> simp at h
theorem add_plain (b o i : Nat) : (⟨b, o, none⟩ : Addr).add i = ⟨b, o + i, none⟩ := by unfold Addr.add; split <;> simp_all
/-- a slice that came in: each element's cells -/
theorem reads {t e : TypeId} {fuel : Nat} {a : Option Addr} {len cap k : Nat} {x : DataW H × List MemPlace} (ht : P.underlying t = some (.slice e)) (hk : P.cellsOf e = k) (hk0 : 0 < k) (h : DataW.trod enc P w base spare held fuel t [.slice a len cap] = some x) :
    ∀ i, i < len → ∃ b o, a = some ⟨b, o, none⟩ ∧ b < w.heap.size ∧ ∃ cs n y, cs.length = k ∧ (∀ j, j < k → w.cell? ⟨b, o + i * k + j, none⟩ = cs[j]?) ∧ DataW.trod enc P w base spare held n e cs = some y := by
  intro i hi
  rcases open_slice ht h with ⟨h0, _⟩ | ⟨a', len', cap', m, n, D, Pl, hcs, hb, hl, hm, hmm, hx, hel⟩
  · injection h0 with h0 _
    injection h0 with _ h0 _
    omega
  · injection hcs with hcs _
    injection hcs with h1 h2 h3
    subst h1 h2 h3
    have him : i < m := by rw [hmm]; split <;> omega
    obtain ⟨cs0, hc0, _⟩ := hel 0 (by omega)
    obtain ⟨cs, hc, htr⟩ := hel i him
    rw [hk] at hc hc0
    obtain ⟨_, hcl0, hat0⟩ := World.cells?_some hc0
    obtain ⟨_, hcl, hat⟩ := World.cells?_some hc
    obtain ⟨b, o, sp⟩ := a'
    have hz := hat0 0 hk0
    rw [Nat.zero_mul] at hz
    have hsome : cs0[0]? = some (cs0[0]'(by omega)) := List.getElem?_eq_getElem (by omega)
    have e0 : (⟨b, o, sp⟩ : Addr).add 0 = ⟨b, o, sp⟩ := by simp [Addr.add]
    rw [e0, e0, hsome] at hz
    have hsp : sp = none := by
      unfold World.cell? at hz
      cases sp with
      | none => rfl
      | some q => simp at hz; split at hz <;> simp at hz
    subst hsp
    refine ⟨b, o, rfl, World.block_lt_of_cell? w _ hz, cs, n, _, hcl, ?_, htr⟩
    intro j hj
    have := hat j hj
    rw [add_plain, add_plain] at this
    exact this
end
end Go.Proofs.Ytclpjmhanhocoaa.Open
