/- A region that draws its order, walked by what holds at each set of operations that have run. Conditions: as stated in each theorem. -/
import Derived.Test.YtclpjmhanhocoaaShaRow
import Derived.RegionTactic
set_option linter.unusedVariables false
set_option linter.unusedSimpArgs false
namespace Go.Proofs.Ytclpjmhanhocoaa.ShaInv
open Go.RowKit Base Sha ShaRot ShaTab ShaRow
set_option maxRecDepth 100000

/-- how many have not run yet -/
def cnt (l : Array Bool) : Nat := (l.toList.filter (fun b => !b)).length
theorem wpAny_inv {P : Program} {md : Region.Mode} {ops : Array Oper} {Q : Exit → Act → World → Prop} (I : Array Bool → Act → World → Prop)
    (hstep : ∀ l a w i, I l a w → i ∈ Region.ready md ops l → cnt (l.setIfInBounds i true) < cnt l ∧ wpOp P ops Q i (I (l.setIfInBounds i true)) a w)
    (hdone : ∀ l a w, I l a w → Region.ready md ops l = [] → Q .normal a w)
    (hzero : ∀ l a w, I l a w → cnt l = 0 → Region.ready md ops l = []) :
    ∀ fuel l a w, I l a w → cnt l ≤ fuel → wpAny P md ops Q fuel l a w := by
  intro fuel
  induction fuel with
  | zero =>
    intro l a w hI hc
    have h0 := hzero l a w hI (by omega)
    exact ⟨h0, hdone l a w hI h0⟩
  | succ n ih =>
    intro l a w hI hc
    refine ⟨hdone l a w hI, fun i hi => ?_⟩
    obtain ⟨h1, h2⟩ := hstep l a w i hI hi
    exact wpOp_mono (fun a' w' h' => ih _ _ _ h' (by omega)) h2
/-- all lists of n marks -/
def marks : Nat → List (List Bool)
  | 0 => [[]]
  | n + 1 => (marks n).flatMap fun l => [true :: l, false :: l]
theorem mem_marks : ∀ l : List Bool, l ∈ marks l.length
  | [] => by simp [marks]
  | b :: l => by
    have := mem_marks l
    simp only [marks, List.length_cons, List.mem_flatMap]
    exact ⟨l, this, by cases b <;> simp⟩
/-- what is asked of the region's text alone, and reckoned by the kernel -/
def fits (n : Nat) (ops : Array Oper) (va : List Bool → Bool) (ok : List Bool → Nat → Bool) : Bool :=
  va (List.replicate n false) && (marks n).all fun l => !va l ||
    let r := Region.ready .any ops l.toArray
    ((r.all fun i => ok l i && va (l.set i true) && decide (cnt (l.toArray.setIfInBounds i true) < cnt l.toArray)) && (!r.isEmpty || l.all id) && (!(cnt l.toArray == 0) || r.isEmpty))
theorem region_inv {P : Program} {ops : Array Oper} {Q : Exit → Act → World → Prop} {id : Nat} (n : Nat) (va : List Bool → Bool) (ok : List Bool → Nat → Bool) (I : List Bool → Act → World → Prop) (hm : P.follows .mixedOrders = true)
    (hf : fits n ops va ok = true) (hn : ops.size = n)
    (hstep : ∀ l a w i, I l a w → ok l i = true → wpOp P ops Q i (I (l.set i true)) a w)
    (hlen : ∀ l a w, I l a w → l.length = n)
    (hdone : ∀ l a w, I l a w → l.all (fun b => b) = true → Q .normal a w) (a : Act) (w : World) (hI : I (List.replicate n false) a w.drew) : (Code.region id ops true).wp P Q a w := by
  have hf2 := hf
  simp only [fits, Bool.and_eq_true] at hf2
  obtain ⟨hv0, hf3⟩ := hf2
  have hall : ∀ l : List Bool, l.length = n → va l = true → ((∀ i ∈ Region.ready .any ops l.toArray, ok l i = true ∧ va (l.set i true) = true ∧ cnt (l.toArray.setIfInBounds i true) < cnt l.toArray) ∧ (Region.ready .any ops l.toArray = [] → l.all (fun b => b) = true) ∧ (cnt l.toArray = 0 → Region.ready .any ops l.toArray = [])) := by
    intro l hl hv
    have hmem := mem_marks l
    rw [hl] at hmem
    have := List.all_eq_true.1 hf3 l hmem
    simp only [hv, Bool.not_true, Bool.false_or, Bool.and_eq_true, Bool.or_eq_true, List.all_eq_true, decide_eq_true_eq, Bool.not_eq_true', List.isEmpty_iff, beq_iff_eq] at this
    obtain ⟨⟨h1, h2⟩, h3⟩ := this
    refine ⟨fun i hi => ⟨(h1 i hi).1.1, (h1 i hi).1.2, (h1 i hi).2⟩, fun h => ?_, fun h => ?_⟩
    · rcases h2 with h2 | h2
      · rw [h] at h2; cases h2
      · simpa using h2
    · rcases h3 with h3 | h3
      · simp [h] at h3
      · exact h3
  refine wp_region_any hm ?_
  refine wpAny_inv (fun l a w => I l.toList a w ∧ va l.toList = true) ?_ ?_ ?_ _ _ _ _ ?_ ?_
  · rintro l a w i ⟨hl, hv⟩ hi
    obtain ⟨k, _⟩ := hall l.toList (hlen _ _ _ hl) hv
    obtain ⟨k1, k3, k2⟩ := k i (by simpa using hi)
    refine ⟨by simpa using k2, ?_⟩
    have := hstep l.toList a w i hl k1
    refine wpOp_mono (fun a' w' h' => ?_) this
    exact ⟨by simpa using h', by simpa using k3⟩
  · rintro l a w ⟨hl, hv⟩ hr
    obtain ⟨_, k, _⟩ := hall l.toList (hlen _ _ _ hl) hv
    exact hdone _ _ _ hl (k (by simpa using hr))
  · rintro l a w ⟨hl, hv⟩ hr
    obtain ⟨_, _, k⟩ := hall l.toList (hlen _ _ _ hl) hv
    simpa using k (by simpa using hr)
  · rw [hn]
    exact ⟨by simpa using hI, by simpa using hv0⟩
  · rw [hn]
    unfold cnt
    exact Nat.le_trans (List.length_filter_le _ _) (by simp)
theorem step_plain {P : Program} {ops : Array Oper} {o : Oper} {a : Act} {w : World} {K : Act → World → Prop} {Q : Exit → Act → World → Prop} {E : Prop} (hg : o.guard = none) (h : Oper.wp P o a w K Q) :
    if Region.wanted o (yielded ops a.tmps) = true then Oper.wp P o a w K Q else E := by
  have hw : Region.wanted o (yielded ops a.tmps) = true := by simp [Region.wanted, hg]
  rw [if_pos hw]
  exact h
end Go.Proofs.Ytclpjmhanhocoaa.ShaInv
