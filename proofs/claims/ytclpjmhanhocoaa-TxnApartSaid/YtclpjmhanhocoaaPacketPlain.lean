/- The plain law: the bytes of right packets are prefix-free. Conditions: numbers below 2^64. -/
import Derived.Test.YtclpjmhanhocoaaPacket
import Derived.Laws.StructEq
set_option linter.unusedVariables false
set_option linter.unusedSimpArgs false
namespace Go.Proofs.Ytclpjmhanhocoaa.Digit
open Go.RowKit
set_option maxRecDepth 100000

/-! ### the plain law -/
def NL (n : Nat) : List UInt8 := (N n).data.toList
theorem NL_eq (n : Nat) : NL n = UInt8.ofNat (be n).length :: (be n).map (fun x => UInt8.ofNat x.toNat) := by
  unfold NL N
  rw [strOfNums_data]
  simp [numI]
theorem be_byte : ∀ (k n : Nat), (be n).length = k → ∀ x ∈ be n, 0 ≤ x ∧ x < 256 := by
  intro k
  induction k with
  | zero => intro n h x hx; rw [List.length_eq_zero_iff.1 h] at hx; cases hx
  | succ k ih =>
    intro n h x hx
    have hn : n ≠ 0 := fun e => by subst e; rw [be_zero] at h; simp at h
    rw [be_pos hn] at h hx
    rcases List.mem_append.1 hx with hx | hx
    · exact ih (n / 256) (by simpa using h) x hx
    · simp at hx; subst hx; omega
theorem be_inj : ∀ (k m n : Nat), (be m).length = k → be m = be n → m = n := by
  intro k
  induction k with
  | zero =>
    intro m n h e
    rw [List.length_eq_zero_iff.1 h] at e
    have h1 : m = 0 := by
      by_cases hm : m = 0
      · exact hm
      · rw [be_pos hm] at h; simp at h
    have h2 : n = 0 := by
      by_cases hn : n = 0
      · exact hn
      · rw [be_pos hn] at e; have := congrArg List.length e; simp at this
    omega
  | succ k ih =>
    intro m n h e
    have hm : m ≠ 0 := fun e => by subst e; rw [be_zero] at h; simp at h
    have hn : n ≠ 0 := fun e2 => by subst e2; rw [be_zero] at e; rw [e] at h; simp at h
    rw [be_pos hm] at h e
    rw [be_pos hn] at e
    have := List.append_inj' e rfl
    have h1 := ih _ _ (by simpa using h) this.1
    have h2 := this.2
    simp at h2
    omega
theorem bmap_inj : ∀ (a b : List Int), (∀ x ∈ a, 0 ≤ x ∧ x < 256) → (∀ x ∈ b, 0 ≤ x ∧ x < 256) → a.map (fun x => UInt8.ofNat x.toNat) = b.map (fun x => UInt8.ofNat x.toNat) → a = b := by
  intro a
  induction a with
  | nil => intro b _ _ h; cases b with
    | nil => rfl
    | cons y b => simp at h
  | cons x a ih =>
    intro b ha hb h
    cases b with
    | nil => simp at h
    | cons y b =>
      simp only [List.map_cons, List.cons.injEq] at h
      have hx := ha x (by simp)
      have hy := hb y (by simp)
      have e : x = y := by
        have := congrArg UInt8.toNat h.1
        simp at this
        omega
      rw [e, ih b (fun z hz => ha z (by simp [hz])) (fun z hz => hb z (by simp [hz])) h.2]
theorem NL_pre (m n : Nat) (x y : List UInt8) (hm : m < 18446744073709551616) (hn : n < 18446744073709551616) (h : NL m ++ x = NL n ++ y) : m = n ∧ x = y := by
  rw [NL_eq, NL_eq] at h
  simp only [List.cons_append, List.cons.injEq] at h
  have l1 := be_le 8 m hm
  have l2 := be_le 8 n hn
  have e : (be m).length = (be n).length := by
    have := congrArg UInt8.toNat h.1
    simp at this
    omega
  have := List.append_inj h.2 (by simp [e])
  exact ⟨be_inj _ m n rfl (bmap_inj _ _ (be_byte _ m rfl) (be_byte _ n rfl) this.1), this.2⟩

/-- a right packet's bytes -/
def E (c f s t : Nat) (d : ByteArray) : ByteArray := N c ++ N f ++ N s ++ N t ++ (N d.size ++ d)
theorem E_list (c f s t : Nat) (d : ByteArray) : (E c f s t d).data.toList = NL c ++ (NL f ++ (NL s ++ (NL t ++ (NL d.size ++ d.data.toList)))) := by
  simp [E, NL]
theorem E_pre (c f s t c' f' s' t' : Nat) (d d' : ByteArray) (z : List UInt8) (hc : c < 18446744073709551616) (hf : f < 18446744073709551616) (hs : s < 18446744073709551616) (ht : t < 18446744073709551616) (hd : d.size < 18446744073709551616)
    (hc' : c' < 18446744073709551616) (hf' : f' < 18446744073709551616) (hs' : s' < 18446744073709551616) (ht' : t' < 18446744073709551616) (hd' : d'.size < 18446744073709551616)
    (h : (E c f s t d).data.toList ++ z = (E c' f' s' t' d').data.toList) : c = c' ∧ f = f' ∧ s = s' ∧ t = t' ∧ d = d' := by
  rw [E_list, E_list] at h
  simp only [List.append_assoc] at h
  obtain ⟨e1, h⟩ := NL_pre _ _ _ _ hc hc' h
  obtain ⟨e2, h⟩ := NL_pre _ _ _ _ hf hf' h
  obtain ⟨e3, h⟩ := NL_pre _ _ _ _ hs hs' h
  obtain ⟨e4, h⟩ := NL_pre _ _ _ _ ht ht' h
  obtain ⟨e5, h⟩ := NL_pre _ _ _ _ hd hd' h
  have e6 : d.data.toList = d'.data.toList := (List.append_inj (h.trans (List.append_nil _).symm) (by simpa using e5)).1
  refine ⟨e1, e2, e3, e4, ?_⟩
  cases d; cases d'
  simp at e6
  simp [e6]
end Go.Proofs.Ytclpjmhanhocoaa.Digit
