/- The plain law: right transactions that are not the same have bytes that are not. Conditions: numbers below 2^64. -/
import Derived.Test.YtclpjmhanhocoaaTxnWalk
set_option linter.unusedVariables false
set_option linter.unusedSimpArgs false
namespace Go.Proofs.Ytclpjmhanhocoaa.TxnInj
open Go.RowKit PTxnApart TxnPlain Digit TxnWalk
set_option maxRecDepth 100000

def EPl (p : S24) : List UInt8 := NL p.f0.toNat ++ (NL p.f1.toNat ++ (NL p.f2.toNat ++ (NL p.f3.toNat ++ (NL p.f4.size ++ p.f4.data.toList))))
theorem EP_list (p : S24) : (EP p).data.toList = EPl p := E_list _ _ _ _ _
def EMl (m : S86) : List UInt8 := NL m.f0.toNat ++ (EPl m.f1 ++ (if m.f0 = 3 then NL m.f2.size ++ m.f2.data.toList else []))
theorem EM_list (m : S86) : (EM m).data.toList = EMl m := by
  unfold EM EMl
  split <;> simp [NL, EP_list]
theorem ba_ext {a b : ByteArray} (h : a.data.toList = b.data.toList) : a = b := by
  cases a; cases b
  simp at h
  simp [h]
theorem EP_pre (m m' : S86) (h : rM m = true) (h' : rM m' = true) (ho : okM m) (ho' : okM m') (x y : List UInt8) (e : EPl m.f1 ++ x = EPl m'.f1 ++ y) : m.f1 = m'.f1 ∧ x = y := by
  obtain ⟨s1, s2, s3⟩ := rM_sizes h
  obtain ⟨s1', s2', s3'⟩ := rM_sizes h'
  simp [rightP] at s3 s3'
  obtain ⟨o1, o2, o3, o4⟩ := ho
  obtain ⟨o1', o2', o3', o4'⟩ := ho'
  unfold EPl at e
  simp only [List.append_assoc] at e
  obtain ⟨e1, e⟩ := NL_pre _ _ _ _ (by omega) (by omega) e
  obtain ⟨e2, e⟩ := NL_pre _ _ _ _ (by omega) (by omega) e
  obtain ⟨e3, e⟩ := NL_pre _ _ _ _ (by omega) (by omega) e
  obtain ⟨e4, e⟩ := NL_pre _ _ _ _ (by omega) (by omega) e
  obtain ⟨e5, e⟩ := NL_pre _ _ _ _ (by omega) (by omega) e
  have e6 := List.append_inj e (by simpa using e5)
  refine ⟨?_, e6.2⟩
  have e7 := ba_ext e6.1
  obtain ⟨k, ⟨c, f, s, t, d⟩, a⟩ := m
  obtain ⟨k', ⟨c', f', s', t', d'⟩, a'⟩ := m'
  simp only at *
  simp only [S24.mk.injEq]
  exact ⟨by omega, by omega, by omega, by omega, e7⟩
theorem EM_pre (m m' : S86) (h : rM m = true) (h' : rM m' = true) (ho : okM m) (ho' : okM m') (x y : List UInt8) (e : EMl m ++ x = EMl m' ++ y) : m = m' ∧ x = y := by
  have k1 := rM_kind h
  have k2 := rM_kind h'
  obtain ⟨s1, s2, s3⟩ := rM_sizes h
  obtain ⟨s1', s2', s3'⟩ := rM_sizes h'
  unfold EMl at e
  simp only [List.append_assoc] at e
  obtain ⟨e1, e⟩ := NL_pre _ _ _ _ (by omega) (by omega) e
  obtain ⟨e2, e⟩ := EP_pre m m' h h' ho ho' _ _ e
  have e3 : m.f0 = m'.f0 := by omega
  have hm : ∀ z : S86, rM z = true → z.f0 ≠ 3 → z.f2 = ⟨#[]⟩ := by
    intro z hz h3
    have : z.f2.toList = (⟨#[]⟩ : ByteArray).toList := by
      simp [rM, h3] at hz
      rcases hz.2 with (hz | hz) | hz
      all_goals simp [hz]
    exact (TxnPlain.toList_iff _ _).1 this
  by_cases h3 : m.f0 = 3
  · rw [if_pos h3, if_pos (by omega)] at e
    simp only [List.append_assoc] at e
    obtain ⟨e4, e⟩ := NL_pre _ _ _ _ (by omega) (by omega) e
    have e5 := List.append_inj e (by simpa using e4)
    refine ⟨?_, e5.2⟩
    have e6 := ba_ext e5.1
    obtain ⟨k, p, a⟩ := m
    obtain ⟨k', p', a'⟩ := m'
    simp only at *
    rw [e3, e2, e6]
  · rw [if_neg h3, if_neg (by omega)] at e
    have a1 := hm m h h3
    have a2 := hm m' h' (by omega)
    refine ⟨?_, by simpa using e⟩
    obtain ⟨k, p, a⟩ := m
    obtain ⟨k', p', a'⟩ := m'
    simp only at *
    rw [e3, e2, a1, a2]
def flat (l : List S86) : List UInt8 := (l.map EMl).flatten
theorem flat_inj : ∀ (l l' : List S86), l.length = l'.length → (∀ m ∈ l, rM m = true) → (∀ m ∈ l', rM m = true) → (∀ m ∈ l, okM m) → (∀ m ∈ l', okM m) → flat l = flat l' → l = l' := by
  intro l
  induction l with
  | nil => intro l' h _ _ _ _ _; cases l' with
    | nil => rfl
    | cons y l' => simp at h
  | cons m l ih =>
    intro l' h h1 h2 h3 h4 e
    cases l' with
    | nil => simp at h
    | cons m' l' =>
      simp only [flat, List.map_cons, List.flatten_cons] at e
      obtain ⟨e1, e2⟩ := EM_pre m m' (h1 m (by simp)) (h2 m' (by simp)) (h3 m (by simp)) (h4 m' (by simp)) _ _ e
      rw [e1, ih l' (by simpa using h) (fun x hx => h1 x (by simp [hx])) (fun x hx => h2 x (by simp [hx])) (fun x hx => h3 x (by simp [hx])) (fun x hx => h4 x (by simp [hx])) e2]
theorem fold_list : ∀ (l : List S86) (s : ByteArray), (l.foldl (fun s m => s ++ EM m) s).data.toList = s.data.toList ++ flat l := by
  intro l
  induction l with
  | nil => intro s; simp [flat]
  | cons m l ih =>
    intro s
    rw [List.foldl_cons, ih]
    simp [flat, EM_list]
theorem ET_list (side acc non : Int) (n : Nat) (l : List S86) : (ET side acc non n l).data.toList = NL side.toNat ++ (NL acc.toNat ++ (NL non.toNat ++ (NL n ++ flat l))) := by
  unfold ET
  rw [fold_list]
  simp [ET0, NL]
theorem ET_inj (side acc non side' acc' non' : Int) (l l' : List S86) (h : rT side acc l = true) (h' : rT side' acc' l' = true) (hn0 : 0 ≤ non) (hn : non < 18446744073709551616) (hn0' : 0 ≤ non') (hn' : non' < 18446744073709551616)
    (ho : ∀ m ∈ l, okM m) (ho' : ∀ m ∈ l', okM m) (e : ET side acc non l.length l = ET side' acc' non' l'.length l') : side = side' ∧ acc = acc' ∧ non = non' ∧ l = l' := by
  obtain ⟨s0, s1, a0, a1, l8, hm⟩ := rT_parts h
  obtain ⟨s0', s1', a0', a1', l8', hm'⟩ := rT_parts h'
  have e := congrArg (fun x : ByteArray => x.data.toList) e
  simp only [ET_list] at e
  obtain ⟨e1, e⟩ := NL_pre _ _ _ _ (by omega) (by omega) e
  obtain ⟨e2, e⟩ := NL_pre _ _ _ _ (by omega) (by omega) e
  obtain ⟨e3, e⟩ := NL_pre _ _ _ _ (by omega) (by omega) e
  obtain ⟨e4, e⟩ := NL_pre _ _ _ _ (by omega) (by omega) e
  exact ⟨by omega, by omega, by omega, flat_inj l l' e4 hm hm' ho ho' e⟩
end Go.Proofs.Ytclpjmhanhocoaa.TxnInj
