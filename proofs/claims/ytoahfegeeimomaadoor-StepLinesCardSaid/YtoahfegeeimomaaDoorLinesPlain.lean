/- The plain law of StepLines: the step of a line that is printed and held against it is the one that the reference reads. No program. Conditions: as stated in each theorem. -/
import Derived.Test.YtoahfegeeimomaaDoorText
set_option linter.unusedVariables false
set_option linter.unusedSimpArgs false
namespace Go.Proofs.YtoahfegeeimomaaDoor.LinesPlain
open Go.Lib Number TextP

/-- the kinds' words -/
def wordL : Nat → List UInt8
  | 1 => [112, 105, 99, 107]
  | 2 => [116, 105, 99, 107]
  | 3 => [115, 101, 110, 100]
  | 4 => [114, 101, 106, 101, 99, 116]
  | 5 => [99, 114, 97, 115, 104]
  | 6 => [102, 111, 114, 101, 105, 103, 110]
  | 7 => [115, 116, 111, 112]
  | 8 => [115, 116, 97, 114, 116]
  | _ => []
/-- the kind of a word, among the first ones -/
def kindUp (w : List UInt8) : Nat → Nat
  | 0 => 0
  | m + 1 => if wordL (m + 1) = w then m + 1 else kindUp w m
theorem kindUp_is (w : List UInt8) (m : Nat) : kindUp w m = 0 ∨ (kindUp w m ≤ m ∧ wordL (kindUp w m) = w) := by
  induction m with
  | zero => exact .inl rfl
  | succ m ih =>
    rw [kindUp]
    split
    · rename_i h; exact .inr ⟨Nat.le_refl _, h⟩
    · rcases ih with h | ⟨h1, h2⟩
      · exact .inl h
      · exact .inr ⟨by omega, h2⟩
/-- a step, as far as a line has it -/
structure St where
  k : Nat
  side : Int
  n : Int
  c : Int
  f : Int
  t : Nat
  d : List UInt8
def numAt (w : List (List UInt8)) (i : Nat) : Int := if i < w.length then atoiV (w.getD i []) else 0
/-- what the program reads -/
def progSt (w : List (List UInt8)) : St :=
  match kindUp (w.getD 0 []) 8 with
  | 1 => ⟨1, 0, numAt w 1, 0, 0, 0, []⟩
  | 2 => ⟨2, numAt w 1, 0, 0, 0, 0, []⟩
  | 3 => if w.length = 5 then ⟨3, 0, 0, numAt w 1, numAt w 2, puV (w.getD 3 []), unhexL (w.getD 4 [])⟩ else ⟨3, 0, 0, 0, 0, 0, []⟩
  | 4 => ⟨4, numAt w 1, 0, 0, 0, 0, []⟩
  | 5 => ⟨5, 0, numAt w 1, 0, 0, 0, []⟩
  | 6 => ⟨6, numAt w 1, numAt w 2, 0, 0, 0, []⟩
  | k => ⟨k, 0, 0, 0, 0, 0, []⟩
def right (x : St) : Bool :=
  match x.k with
  | 1 => decide (0 ≤ x.n) && decide (x.n ≤ 2147483647)
  | 2 => decide (x.side = 0) || decide (x.side = 1)
  | 3 => decide (0 ≤ x.c) && decide (x.c < 4) && (decide (x.f = 0) || decide (x.f = 1)) && decide (x.d.length ≤ 64)
  | 4 => decide (x.side = 0) || decide (x.side = 1)
  | 5 => decide (0 ≤ x.n) && decide (x.n ≤ 7)
  | 6 => (decide (x.side = 0) || decide (x.side = 1)) && (decide (1 ≤ x.n) && decide (x.n ≤ 4))
  | 7 => true
  | 8 => true
  | _ => false
def lineW (x : St) : List (List UInt8) :=
  match x.k with
  | 1 => [wordL 1, itoa x.n]
  | 2 => [wordL 2, itoa x.side]
  | 3 => [wordL 3, itoa x.c, itoa x.f, decDigits x.t, hexL x.d]
  | 4 => [wordL 4, itoa x.side]
  | 5 => [wordL 5, itoa x.n]
  | 6 => [wordL 6, itoa x.side, itoa x.n]
  | k => [wordL k]
def lineL (x : St) : List UInt8 := joinSp (lineW x)
def small (l : List UInt8) (most : Nat) : Option Nat := (numR l).bind fun v => if v ≤ most then some v else none
/-- what the reference reads -/
def refSt (w : List (List UInt8)) : Option St :=
  match kindUp (w.getD 0 []) 8 with
  | 1 => if w.length = 2 then (small (w.getD 1 []) 2147483647).map fun n => ⟨1, 0, n, 0, 0, 0, []⟩ else none
  | 2 => if w.length = 2 then (small (w.getD 1 []) 1).map fun s => ⟨2, s, 0, 0, 0, 0, []⟩ else none
  | 3 => if w.length = 5 then
      (small (w.getD 1 []) 3).bind fun c => (small (w.getD 2 []) 1).bind fun f => (numR (w.getD 3 [])).bind fun t => (bytesR (w.getD 4 [])).bind fun d =>
        if d.length ≤ 64 then some ⟨3, 0, 0, c, f, t, d⟩ else none
    else none
  | 4 => if w.length = 2 then (small (w.getD 1 []) 1).map fun s => ⟨4, s, 0, 0, 0, 0, []⟩ else none
  | 5 => if w.length = 2 then (small (w.getD 1 []) 7).map fun n => ⟨5, 0, n, 0, 0, 0, []⟩ else none
  | 6 => if w.length = 3 then (small (w.getD 1 []) 1).bind fun s => (small (w.getD 2 []) 4).bind fun n => if n = 0 then none else some ⟨6, s, n, 0, 0, 0, []⟩ else none
  | 7 => if w.length = 1 then some ⟨7, 0, 0, 0, 0, 0, []⟩ else none
  | 8 => if w.length = 1 then some ⟨8, 0, 0, 0, 0, 0, []⟩ else none
  | _ => none
theorem small_is {l : List UInt8} {most v : Nat} (h : small l most = some v) : numR l = some v ∧ v ≤ most := by
  unfold small at h
  cases hn : numR l with
  | none => rw [hn] at h; cases h
  | some u =>
    rw [hn] at h
    simp only [Option.bind_some] at h
    split at h
    · simp only [Option.some.injEq] at h
      subst h
      exact ⟨rfl, by assumption⟩
    · cases h
theorem small_mk {n : Nat} {most : Nat} (h : n ≤ most) (hm : most < 18446744073709551616) : small (decDigits n) most = some n := by
  unfold small
  rw [numR_digits n (by omega)]
  simp [h]
theorem itoa_nat (n : Nat) : itoa (n : Int) = decDigits n := by unfold itoa; rw [if_neg (by omega)]; simp
theorem len1 {α : Type} {l : List α} (h : l.length = 1) : ∃ a, l = [a] := by
  match l, h with
  | [a], _ => exact ⟨a, rfl⟩
theorem len2 {α : Type} {l : List α} (h : l.length = 2) : ∃ a b, l = [a, b] := by
  match l, h with
  | [a, b], _ => exact ⟨a, b, rfl⟩
theorem len3 {α : Type} {l : List α} (h : l.length = 3) : ∃ a b c, l = [a, b, c] := by
  match l, h with
  | [a, b, c], _ => exact ⟨a, b, c, rfl⟩
theorem len5 {α : Type} {l : List α} (h : l.length = 5) : ∃ a b c d e, l = [a, b, c, d, e] := by
  match l, h with
  | [a, b, c, d, e], _ => exact ⟨a, b, c, d, e, rfl⟩
theorem atoi_at {l : List UInt8} {v : Nat} (h : numR l = some v) (hv : v < 9223372036854775808) : atoiV l = (v : Int) ∧ l = itoa (v : Int) := ⟨numR_atoiV h hv, by rw [itoa_nat]; exact (numR_dec h).1⟩
/-- what the reference reads the program reads, and prints as it was -/
theorem ref_prog (w : List (List UInt8)) (y : St) (h : refSt w = some y) : progSt w = y ∧ right y = true ∧ lineW y = w := by
  have hw := kindUp_is (w.getD 0 []) 8
  unfold refSt at h
  unfold progSt
  generalize kindUp (w.getD 0 []) 8 = k at h hw
  match k, h, hw with
  | 0, h, _ => cases h
  | 1, h, hw =>
    try simp only at h
    split at h
    · rename_i hl
      obtain ⟨a, b, rfl⟩ := len2 hl
      cases hs : small b 2147483647 with
      | none => simp [hs] at h
      | some v =>
        simp [hs] at h
        subst h
        obtain ⟨h1, h2⟩ := small_is hs
        obtain ⟨e1, e2⟩ := atoi_at h1 (by omega)
        have e0 : wordL 1 = a := by simpa using hw
        refine ⟨by simp [numAt, e1], by simp [right]; omega, by simp [lineW, e0, ← e2]⟩
    · cases h
  | 2, h, hw =>
    try simp only at h
    split at h
    · rename_i hl
      obtain ⟨a, b, rfl⟩ := len2 hl
      cases hs : small b 1 with
      | none => simp [hs] at h
      | some v =>
        simp [hs] at h
        subst h
        obtain ⟨h1, h2⟩ := small_is hs
        obtain ⟨e1, e2⟩ := atoi_at h1 (by omega)
        have e0 : wordL 2 = a := by simpa using hw
        refine ⟨by simp [numAt, e1], by simp [right]; omega, by simp [lineW, e0, ← e2]⟩
    · cases h
  | 3, h, hw =>
    try simp only at h
    split at h
    · rename_i hl
      obtain ⟨a, b1, b2, b3, b4, rfl⟩ := len5 hl
      simp only [List.getD_cons_succ, List.getD_cons_zero] at h
      cases hs1 : small b1 3 with
      | none => simp [hs1] at h
      | some c =>
        cases hs2 : small b2 1 with
        | none => simp [hs1, hs2] at h
        | some f =>
          cases hs3 : numR b3 with
          | none => simp [hs1, hs2, hs3] at h
          | some t =>
            cases hs4 : bytesR b4 with
            | none => simp [hs1, hs2, hs3, hs4] at h
            | some d =>
              simp only [hs1, hs2, hs3, hs4, Option.bind_some] at h
              split at h
              · rename_i hd
                simp only [Option.some.injEq] at h
                subst h
                obtain ⟨h1, h2⟩ := small_is hs1
                obtain ⟨h3, h4⟩ := small_is hs2
                obtain ⟨e1, e2⟩ := atoi_at h1 (by omega)
                obtain ⟨e3, e4⟩ := atoi_at h3 (by omega)
                obtain ⟨e5, e6⟩ := numR_dec hs3
                obtain ⟨e7, e8⟩ := bytes_hex hs4
                have e0 : wordL 3 = a := by simpa using hw
                refine ⟨by simp [numAt, e1, e3, numR_pu hs3, e8], by simp [right]; omega, by simp [lineW, e0, ← e2, ← e4, ← e5, ← e7]⟩
              · cases h
    · cases h
  | 4, h, hw =>
    try simp only at h
    split at h
    · rename_i hl
      obtain ⟨a, b, rfl⟩ := len2 hl
      cases hs : small b 1 with
      | none => simp [hs] at h
      | some v =>
        simp [hs] at h
        subst h
        obtain ⟨h1, h2⟩ := small_is hs
        obtain ⟨e1, e2⟩ := atoi_at h1 (by omega)
        have e0 : wordL 4 = a := by simpa using hw
        refine ⟨by simp [numAt, e1], by simp [right]; omega, by simp [lineW, e0, ← e2]⟩
    · cases h
  | 5, h, hw =>
    try simp only at h
    split at h
    · rename_i hl
      obtain ⟨a, b, rfl⟩ := len2 hl
      cases hs : small b 7 with
      | none => simp [hs] at h
      | some v =>
        simp [hs] at h
        subst h
        obtain ⟨h1, h2⟩ := small_is hs
        obtain ⟨e1, e2⟩ := atoi_at h1 (by omega)
        have e0 : wordL 5 = a := by simpa using hw
        refine ⟨by simp [numAt, e1], by simp [right]; omega, by simp [lineW, e0, ← e2]⟩
    · cases h
  | 6, h, hw =>
    try simp only at h
    split at h
    · rename_i hl
      obtain ⟨a, b1, b2, rfl⟩ := len3 hl
      simp only [List.getD_cons_succ, List.getD_cons_zero] at h
      cases hs1 : small b1 1 with
      | none => simp [hs1] at h
      | some s =>
        cases hs2 : small b2 4 with
        | none => simp [hs1, hs2] at h
        | some n =>
          simp only [hs1, hs2, Option.bind_some] at h
          split at h
          · cases h
          · rename_i hn
            simp only [Option.some.injEq] at h
            subst h
            obtain ⟨h1, h2⟩ := small_is hs1
            obtain ⟨h3, h4⟩ := small_is hs2
            obtain ⟨e1, e2⟩ := atoi_at h1 (by omega)
            obtain ⟨e3, e4⟩ := atoi_at h3 (by omega)
            have e0 : wordL 6 = a := by simpa using hw
            refine ⟨by simp [numAt, e1, e3], by simp [right]; omega, by simp [lineW, e0, ← e2, ← e4]⟩
    · cases h
  | 7, h, hw =>
    have h : (if w.length = 1 then some (⟨7, 0, 0, 0, 0, 0, []⟩ : St) else none) = some y := h
    split at h
    · rename_i hl
      obtain ⟨a, rfl⟩ := len1 hl
      cases h
      have e0 : wordL 7 = a := by simpa using hw
      exact ⟨rfl, rfl, by simp [lineW, e0]⟩
    · cases h
  | 8, h, hw =>
    have h : (if w.length = 1 then some (⟨8, 0, 0, 0, 0, 0, []⟩ : St) else none) = some y := h
    split at h
    · rename_i hl
      obtain ⟨a, rfl⟩ := len1 hl
      cases h
      have e0 : wordL 8 = a := by simpa using hw
      exact ⟨rfl, rfl, by simp [lineW, e0]⟩
    · cases h
  | k + 9, h, hw => rcases hw with hw | ⟨hw, _⟩ <;> omega
theorem progSt_k (w : List (List UInt8)) : (progSt w).k = kindUp (w.getD 0 []) 8 := by
  unfold progSt
  split
  all_goals (try split)
  all_goals first | rfl | simp_all
theorem wordL_sp (k : Nat) : ∀ c ∈ wordL k, c ≠ 32 := by
  unfold wordL
  split <;> decide
theorem itoa_of {z : Int} (h : 0 ≤ z) : itoa z = decDigits z.toNat := by
  obtain ⟨n, rfl⟩ := Int.eq_ofNat_of_zero_le h
  exact itoa_nat n
theorem itoa_sp {z : Int} (h : 0 ≤ z) : ∀ c ∈ itoa z, c ≠ 32 := by rw [itoa_of h]; exact dec_sp _
theorem split1 (a : List UInt8) (ha : ∀ c ∈ a, c ≠ 32) : splitSp (joinSp [a]) = [a] := split_word a ha
theorem split2 (a b : List UInt8) (ha : ∀ c ∈ a, c ≠ 32) (hb : ∀ c ∈ b, c ≠ 32) : splitSp (joinSp [a, b]) = [a, b] := by
  rw [joinSp, split_more _ _ ha, split1 b hb]
theorem split3 (a b d : List UInt8) (ha : ∀ c ∈ a, c ≠ 32) (hb : ∀ c ∈ b, c ≠ 32) (hd : ∀ c ∈ d, c ≠ 32) : splitSp (joinSp [a, b, d]) = [a, b, d] := by
  rw [joinSp, split_more _ _ ha, split2 b d hb hd]
theorem split5 (a b d e g : List UInt8) (ha : ∀ c ∈ a, c ≠ 32) (hb : ∀ c ∈ b, c ≠ 32) (hd : ∀ c ∈ d, c ≠ 32) (he : ∀ c ∈ e, c ≠ 32) (hg : ∀ c ∈ g, c ≠ 32) : splitSp (joinSp [a, b, d, e, g]) = [a, b, d, e, g] := by
  rw [joinSp, split_more _ _ ha, joinSp, split_more _ _ hb, split3 d e g hd he hg]
/-- the words of a right step's line -/
theorem line_words {x : St} (h : right x = true) (ht : x.t < 18446744073709551616) : splitSp (lineL x) = lineW x := by
  unfold lineL lineW
  unfold right at h
  split at h
  all_goals try simp only [Bool.and_eq_true, Bool.or_eq_true, decide_eq_true_eq] at h
  all_goals simp_all only
  · exact split2 _ _ (wordL_sp 1) (itoa_sp (by omega))
  · exact split2 _ _ (wordL_sp 2) (itoa_sp (by omega))
  · exact split5 _ _ _ _ _ (wordL_sp 3) (itoa_sp (by omega)) (itoa_sp (by omega)) (dec_sp _) (hexL_sp _)
  · exact split2 _ _ (wordL_sp 4) (itoa_sp (by omega))
  · exact split2 _ _ (wordL_sp 5) (itoa_sp (by omega))
  · exact split3 _ _ _ (wordL_sp 6) (itoa_sp (by omega)) (itoa_sp (by omega))
  · exact split1 _ (wordL_sp 7)
  · exact split1 _ (wordL_sp 8)
  · exact absurd h (by simp)
theorem small_itoa {z : Int} {most : Nat} (h : 0 ≤ z) (h2 : z ≤ most) (hm : most < 18446744073709551616) : small (itoa z) most = some z.toNat := by
  rw [itoa_of h]
  exact small_mk (by omega) hm
/-- what is printed as it was the reference reads -/
theorem prog_ref (w : List (List UInt8)) (x : St) (hk : x.k = kindUp (w.getD 0 []) 8) (h : right x = true) (ht : x.t < 18446744073709551616) (hl : lineW x = w) : ∃ y, refSt w = some y := by
  unfold refSt
  rw [← hk]
  clear hk
  obtain ⟨k, side, n, c, f, t, d⟩ := x
  subst hl
  match k, h with
  | 0, h => simp [right] at h
  | 1, h =>
    simp [right] at h
    simp [lineW, small_itoa (most := 2147483647) h.1 h.2 (by omega)]
  | 2, h =>
    simp [right] at h
    simp [lineW, small_itoa (z := side) (most := 1) (by omega) (by omega) (by omega)]
  | 3, h =>
    simp [right] at h
    simp [lineW, small_itoa (z := c) (most := 3) (by omega) (by omega) (by omega), small_itoa (z := f) (most := 1) (by omega) (by omega) (by omega), numR_digits t ht, hex_bytes, h.2]
  | 4, h =>
    simp [right] at h
    simp [lineW, small_itoa (z := side) (most := 1) (by omega) (by omega) (by omega)]
  | 5, h =>
    simp [right] at h
    simp [lineW, small_itoa (z := n) (most := 7) (by omega) (by omega) (by omega)]
  | 6, h =>
    simp [right] at h
    have : ¬ n.toNat = 0 := by omega
    have : ¬ n ≤ 0 := by omega
    simp [lineW, small_itoa (z := side) (most := 1) (by omega) (by omega) (by omega), small_itoa (z := n) (most := 4) (by omega) (by omega) (by omega), *]
  | 7, h => simp [lineW]
  | 8, h => simp [lineW]
  | k + 9, h => simp [right] at h
theorem prog_t (w : List (List UInt8)) : (progSt w).t < 18446744073709551616 := by
  unfold progSt
  split
  all_goals (try split)
  all_goals first | exact puV_lt _ | (show 0 < _; omega)
/-- the law, of a line: if the reference reads it, it is that step, right, and printed as it was; if not, what the program reads isn't right, or isn't printed so -/
theorem law (line : List UInt8) :
    (∀ y, refSt (splitSp line) = some y → progSt (splitSp line) = y ∧ right y = true ∧ lineL y = line) ∧
    (refSt (splitSp line) = none → ¬ (right (progSt (splitSp line)) = true ∧ lineL (progSt (splitSp line)) = line)) := by
  refine ⟨fun y h => ?_, fun h hc => ?_⟩
  · obtain ⟨h1, h2, h3⟩ := ref_prog _ y h
    refine ⟨h1, h2, ?_⟩
    unfold lineL
    rw [h3, join_split]
  · obtain ⟨h1, h2⟩ := hc
    have h3 := line_words h1 (prog_t _)
    rw [h2] at h3
    obtain ⟨y, hy⟩ := prog_ref (splitSp line) _ (progSt_k _) h1 (prog_t _) h3.symm
    rw [h] at hy
    cases hy
end Go.Proofs.YtoahfegeeimomaaDoor.LinesPlain
