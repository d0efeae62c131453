/- What the loops of unhex, bytes, number, words keep. No program. Conditions: as stated in each theorem. -/
import Derived.Test.YtoahfegeeimomaaDoorLinesPlain
import Derived.Lib.Split
set_option linter.unusedVariables false
set_option linter.unusedSimpArgs false
namespace Go.Proofs.YtoahfegeeimomaaDoor.LoopsPlain
open Go.Lib Number TextP LinesPlain

def pairV (f : UInt8 → Nat) (l : List UInt8) (j : Nat) : UInt8 := UInt8.ofNat (16 * f (l.getD (2 * j) 0) + f (l.getD (2 * j + 1) 0))
def upTo (f : UInt8 → Nat) (l : List UInt8) (k : Nat) : List UInt8 := (List.range k).map (pairV f l)
theorem upTo_succ (f : UInt8 → Nat) (l : List UInt8) (k : Nat) : upTo f l (k + 1) = upTo f l k ++ [pairV f l k] := by simp [upTo, List.range_succ]
theorem upTo_len (f : UInt8 → Nat) (l : List UInt8) (k : Nat) : (upTo f l k).length = k := by simp [upTo]
theorem upTo_cons (f : UInt8 → Nat) (a b : UInt8) (l : List UInt8) (k : Nat) : upTo f (a :: b :: l) (k + 1) = UInt8.ofNat (16 * f a + f b) :: upTo f l k := by
  simp only [upTo, List.range_succ_eq_map, List.map_cons, List.map_map]
  congr 1
theorem unhex_upTo : ∀ (l : List UInt8), unhexL l = upTo nibP l (l.length / 2)
  | [] => rfl
  | [_] => by simp [unhexL, upTo]
  | a :: b :: r => by
    rw [unhexL, unhex_upTo r, show (a :: b :: r).length / 2 = r.length / 2 + 1 by simp; omega, upTo_cons]
/-- what the pairs of digits keep -/
theorem pairs_step (l : List UInt8) (k : Nat) (h : 2 * k + 1 < l.length) : pairs (l.drop (2 * k)) = if 15 < nibR (l.getD (2 * k) 0) ∨ 15 < nibR (l.getD (2 * k + 1) 0) then none else (pairs (l.drop (2 * (k + 1)))).map fun r => pairV nibR l k :: r := by
  rw [List.drop_eq_getElem_cons (show 2 * k < l.length by omega), List.drop_eq_getElem_cons (show 2 * k + 1 < l.length by omega), pairs]
  simp only [List.getD_eq_getElem?_getD, List.getElem?_eq_getElem (show 2 * k < l.length by omega), List.getElem?_eq_getElem (show 2 * k + 1 < l.length by omega), Option.getD_some, pairV]
  rfl
theorem pairs_end (l : List UInt8) (k : Nat) (h : l.length ≤ 2 * k) : pairs (l.drop (2 * k)) = some [] := by
  rw [List.drop_eq_nil_of_le h]
  rfl
def PairsAt (l : List UInt8) (k : Nat) : Prop := pairs l = (pairs (l.drop (2 * k))).map fun r => upTo nibR l k ++ r
theorem pairsAt_zero (l : List UInt8) : PairsAt l 0 := by
  unfold PairsAt
  simp only [Nat.mul_zero, List.drop_zero]
  cases pairs l <;> simp [upTo]
theorem pairsAt_succ {l : List UInt8} {k : Nat} (h : PairsAt l k) (hk : 2 * k + 1 < l.length) (h1 : nibR (l.getD (2 * k) 0) ≤ 15) (h2 : nibR (l.getD (2 * k + 1) 0) ≤ 15) : PairsAt l (k + 1) := by
  unfold PairsAt at h ⊢
  rw [h, pairs_step l k hk, if_neg (by omega)]
  cases pairs (l.drop (2 * (k + 1))) <;> simp [upTo_succ]
theorem pairsAt_bad {l : List UInt8} {k : Nat} (h : PairsAt l k) (hk : 2 * k + 1 < l.length) (h1 : 15 < nibR (l.getD (2 * k) 0) ∨ 15 < nibR (l.getD (2 * k + 1) 0)) : pairs l = none := by
  unfold PairsAt at h
  rw [h, pairs_step l k hk, if_pos h1]
  rfl
theorem pairsAt_end {l : List UInt8} {k : Nat} (h : PairsAt l k) (hk : l.length ≤ 2 * k) : pairs l = some (upTo nibR l k) := by
  unfold PairsAt at h
  rw [h, pairs_end l k hk]
  simp
/-- a text of an odd length is no pairs -/
theorem pairs_odd : ∀ (l : List UInt8), l.length % 2 = 1 → pairs l = none
  | [], h => by simp at h
  | [_], _ => rfl
  | a :: b :: r, h => by
    rw [pairs, pairs_odd r (by simp at h; omega)]
    split <;> rfl
/-- what the digits keep -/
theorem goR_step (l : List UInt8) (k n : Nat) (h : k < l.length) : goR n (l.drop k) = if (l.getD k 0).toNat < 48 ∨ 57 < (l.getD k 0).toNat then none else if 1844674407370955161 < n ∨ n = 1844674407370955161 ∧ 5 < (l.getD k 0).toNat - 48 then none else goR (n * 10 + ((l.getD k 0).toNat - 48)) (l.drop (k + 1)) := by
  rw [List.drop_eq_getElem_cons h, goR]
  simp [List.getD_eq_getElem?_getD, h]
theorem goR_end (l : List UInt8) (n : Nat) : goR n (l.drop l.length) = some n := by simp [goR]
/-- what the words keep: 'out' are those that are cut, 'from' is where the next one begins, i where the loop is -/
def WordsAt (l : List UInt8) (out : List (List UInt8)) (b i : Nat) : Prop := b ≤ i ∧ i ≤ l.length ∧ splitSp l = out ++ pre ((l.drop b).take (i - b)) (splitSp (l.drop i))
theorem wordsAt_zero (l : List UInt8) : WordsAt l [] 0 0 := by
  refine ⟨Nat.le_refl _, Nat.zero_le _, ?_⟩
  simp [pre_nil]
theorem take_more (l : List UInt8) (b i : Nat) (hb : b ≤ i) (hi : i < l.length) : (l.drop b).take (i + 1 - b) = (l.drop b).take (i - b) ++ [l.getD i 0] := by
  rw [show i + 1 - b = (i - b) + 1 by omega, List.take_succ_eq_append_getElem (by simp; omega)]
  simp [List.getD_eq_getElem?_getD, hi, show b + (i - b) = i by omega]
theorem wordsAt_char {l : List UInt8} {out : List (List UInt8)} {b i : Nat} (h : WordsAt l out b i) (hi : i < l.length) (hc : l.getD i 0 ≠ 32) : WordsAt l out b (i + 1) := by
  obtain ⟨h1, h2, h3⟩ := h
  refine ⟨by omega, by omega, ?_⟩
  rw [h3, List.drop_eq_getElem_cons hi, splitSp]
  have e : l[i] = l.getD i 0 := by simp [List.getD_eq_getElem?_getD, hi]
  rw [e, if_neg hc, take_more l b i h1 hi]
  cases hs : splitSp (l.drop (i + 1)) with
  | nil => exact absurd hs (splitSp_ne _)
  | cons w ws => simp [pre]
theorem wordsAt_space {l : List UInt8} {out : List (List UInt8)} {b i : Nat} (h : WordsAt l out b i) (hi : i < l.length) (hc : l.getD i 0 = 32) : WordsAt l (out ++ [(l.drop b).take (i - b)]) (i + 1) (i + 1) := by
  obtain ⟨h1, h2, h3⟩ := h
  refine ⟨by omega, by omega, ?_⟩
  rw [h3, List.drop_eq_getElem_cons hi, splitSp]
  have e : l[i] = l.getD i 0 := by simp [List.getD_eq_getElem?_getD, hi]
  rw [e, if_pos hc, Nat.sub_self, List.take_zero, pre_nil]
  simp [pre]
theorem wordsAt_end {l : List UInt8} {out : List (List UInt8)} {b : Nat} (h : WordsAt l out b l.length) : splitSp l = out ++ [(l.drop b).take (l.length - b)] := by
  obtain ⟨h1, h2, h3⟩ := h
  rw [h3]
  simp [splitSp, pre]
theorem split_len (l : List UInt8) : (splitSp l).length ≤ l.length + 1 := by
  induction l with
  | nil => simp [splitSp]
  | cons c r ih =>
    rw [splitSp]
    split
    · simp; exact ih
    · cases hs : splitSp r with
      | nil => simp
      | cons w ws => rw [hs] at ih; simp at ih ⊢; omega
end Go.Proofs.YtoahfegeeimomaaDoor.LoopsPlain
