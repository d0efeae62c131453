/- Words parted by spaces, hexadecimal digits: plain. No program. Conditions: as stated in each theorem. -/
import Derived.Test.YtoahfegeeimomaaDoorNumber
import Derived.Lib.ParseIntBCases
set_option linter.unusedVariables false
set_option linter.unusedSimpArgs false
namespace Go.Proofs.YtoahfegeeimomaaDoor.TextP
open Go.Lib Number

theorem numR_pu {l : List UInt8} {v : Nat} (h : numR l = some v) : puV l = v := by
  unfold puV
  rw [parseUintB_64, numR_mag h]
theorem puV_lt (l : List UInt8) : puV l < 18446744073709551616 := by
  unfold puV
  cases h : parseUintB 64 l with
  | ok v => have := parseUintB_le h; simp only; omega
  | range => simp
  | _ => simp
/-- a text cut at its spaces -/
def splitSp : List UInt8 → List (List UInt8)
  | [] => [[]]
  | c :: r => if c = 32 then [] :: splitSp r else match splitSp r with
    | w :: ws => (c :: w) :: ws
    | [] => [[c]]
theorem splitSp_ne (l : List UInt8) : splitSp l ≠ [] := by
  cases l with
  | nil => simp [splitSp]
  | cons c r =>
    rw [splitSp]
    split
    · simp
    · split <;> simp
/-- words, spaces between -/
def joinSp : List (List UInt8) → List UInt8
  | [] => []
  | [w] => w
  | w :: v :: ws => w ++ 32 :: joinSp (v :: ws)
theorem join_split (l : List UInt8) : joinSp (splitSp l) = l := by
  induction l with
  | nil => rfl
  | cons c r ih =>
    rw [splitSp]
    split
    · rename_i h
      subst h
      cases hs : splitSp r with
      | nil => exact absurd hs (splitSp_ne r)
      | cons w ws =>
        rw [hs] at ih
        rw [joinSp, ih]
        rfl
    · cases hs : splitSp r with
      | nil => exact absurd hs (splitSp_ne r)
      | cons w ws =>
        rw [hs] at ih
        cases ws with
        | nil => simp only [joinSp] at ih ⊢; rw [ih]
        | cons v ws => simp only [joinSp, List.cons_append] at ih ⊢; rw [ih]
/-- a word before a text's first one -/
def pre (p : List UInt8) : List (List UInt8) → List (List UInt8)
  | w :: ws => (p ++ w) :: ws
  | [] => [p]
theorem pre_nil (l : List UInt8) : pre [] (splitSp l) = splitSp l := by
  cases h : splitSp l with
  | nil => exact absurd h (splitSp_ne l)
  | cons w ws => simp [pre]
theorem split_append (p l : List UInt8) (h : ∀ c ∈ p, c ≠ 32) : splitSp (p ++ l) = pre p (splitSp l) := by
  induction p with
  | nil => rw [pre_nil]; rfl
  | cons c r ih =>
    have h1 := ih fun x hx => h x (List.mem_cons_of_mem _ hx)
    rw [List.cons_append, splitSp, if_neg (h c List.mem_cons_self), h1]
    cases hs : splitSp l with
    | nil => exact absurd hs (splitSp_ne l)
    | cons w ws => simp [pre]
theorem split_word (p : List UInt8) (h : ∀ c ∈ p, c ≠ 32) : splitSp p = [p] := by
  have := split_append p [] h
  simpa [splitSp, pre] using this
theorem split_more (p l : List UInt8) (h : ∀ c ∈ p, c ≠ 32) : splitSp (p ++ 32 :: l) = p :: splitSp l := by
  rw [split_append p _ h, splitSp, if_pos rfl]
  simp [pre]
/-- a hexadecimal digit -/
def dig (n : Nat) : UInt8 := if n < 10 then UInt8.ofNat (48 + n) else UInt8.ofNat (87 + n)
def hexP : List UInt8 → List UInt8
  | [] => []
  | b :: r => dig (b.toNat / 16) :: dig (b.toNat % 16) :: hexP r
def hexL (d : List UInt8) : List UInt8 := if d = [] then [45] else hexP d
/-- the reference's nibble: 16: none -/
def nibR (c : UInt8) : Nat := if 48 ≤ c.toNat ∧ c.toNat ≤ 57 then c.toNat - 48 else if 97 ≤ c.toNat ∧ c.toNat ≤ 102 then c.toNat - 87 else 16
/-- the program's: 0 where there is none -/
def nibP (c : UInt8) : Nat := if nibR c = 16 then 0 else nibR c
def unhexL : List UInt8 → List UInt8
  | a :: b :: r => UInt8.ofNat (16 * nibP a + nibP b) :: unhexL r
  | _ => []
def pairs : List UInt8 → Option (List UInt8)
  | [] => some []
  | [_] => none
  | a :: b :: r => if 15 < nibR a ∨ 15 < nibR b then none else (pairs r).map fun l => UInt8.ofNat (16 * nibR a + nibR b) :: l
def bytesR (l : List UInt8) : Option (List UInt8) := if l = [45] then some [] else if l = [] then none else pairs l
theorem nib_lt (c : UInt8) : nibR c ≤ 16 := by unfold nibR; split <;> (try split) <;> omega
theorem dig_nib {c : UInt8} (h : nibR c ≤ 15) : dig (nibR c) = c := by
  unfold nibR at h ⊢
  split
  · rename_i h1
    rw [if_pos h1] at h
    unfold dig
    rw [if_pos (by omega), show 48 + (c.toNat - 48) = c.toNat by omega]
    simp
  · rename_i h1
    rw [if_neg h1] at h
    split
    · rename_i h2
      unfold dig
      rw [if_neg (by omega), show 87 + (c.toNat - 87) = c.toNat by omega]
      simp
    · rename_i h2
      rw [if_neg h2] at h
      omega
theorem nib_dig {n : Nat} (h : n < 16) : nibR (dig n) = n := by
  have : ∀ m : Fin 16, nibR (dig m.val) = m.val := by decide
  exact this ⟨n, h⟩
theorem byte_split {a b : Nat} (ha : a ≤ 15) (hb : b ≤ 15) : (UInt8.ofNat (16 * a + b)).toNat = 16 * a + b := by simp; omega
theorem pairs_hex {l d : List UInt8} (h : pairs l = some d) : l = hexP d ∧ unhexL l = d := by
  match l, h with
  | [], h => simp only [pairs, Option.some.injEq] at h; subst h; exact ⟨rfl, rfl⟩
  | [_], h => simp [pairs] at h
  | a :: b :: r, h =>
    simp only [pairs] at h
    split at h
    · cases h
    · rename_i hn
      cases hp : pairs r with
      | none => rw [hp] at h; cases h
      | some e =>
        rw [hp] at h
        simp only [Option.map_some, Option.some.injEq] at h
        subst h
        obtain ⟨h1, h2⟩ := pairs_hex hp
        have na : nibR a ≤ 15 := by omega
        have nb : nibR b ≤ 15 := by omega
        refine ⟨?_, ?_⟩
        · rw [hexP, byte_split na nb, show (16 * nibR a + nibR b) / 16 = nibR a by omega, show (16 * nibR a + nibR b) % 16 = nibR b by omega, dig_nib na, dig_nib nb, ← h1]
        · rw [unhexL, h2]
          unfold nibP
          rw [if_neg (by omega), if_neg (by omega)]
theorem bytes_hex {l d : List UInt8} (h : bytesR l = some d) : l = hexL d ∧ unhexL l = d := by
  unfold bytesR at h
  split at h
  · rename_i e
    simp only [Option.some.injEq] at h
    subst e h
    exact ⟨rfl, rfl⟩
  · split at h
    · cases h
    · rename_i h1 h2
      obtain ⟨e1, e2⟩ := pairs_hex h
      refine ⟨?_, e2⟩
      unfold hexL
      rw [if_neg]
      · exact e1
      · intro e
        subst e
        exact h2 e1
theorem hex_pairs (d : List UInt8) : pairs (hexP d) = some d := by
  induction d with
  | nil => rfl
  | cons b r ih =>
    have hb : b.toNat < 256 := b.toNat_lt
    rw [hexP, pairs, nib_dig (by omega), nib_dig (by omega), if_neg (by omega), ih]
    simp only [Option.map_some, Option.some.injEq, List.cons.injEq, and_true]
    rw [show 16 * (b.toNat / 16) + b.toNat % 16 = b.toNat by omega]
    simp
theorem hex_bytes (d : List UInt8) : bytesR (hexL d) = some d := by
  unfold bytesR hexL
  by_cases hd : d = []
  · rw [if_pos hd, hd]
    simp
  · rw [if_neg hd]
    rw [if_neg, if_neg, hex_pairs]
    · intro e
      cases d with
      | nil => exact hd rfl
      | cons b r => simp [hexP] at e
    · intro e
      cases d with
      | nil => exact hd rfl
      | cons b r => simp [hexP] at e
theorem dig_sp (n : Nat) (h : n < 16) : dig n ≠ 32 := by
  have : ∀ m : Fin 16, dig m.val ≠ 32 := by decide
  exact this ⟨n, h⟩
theorem hexP_sp (d : List UInt8) : ∀ c ∈ hexP d, c ≠ 32 := by
  induction d with
  | nil => simp [hexP]
  | cons b r ih =>
    have hb : b.toNat < 256 := b.toNat_lt
    intro c hc
    simp only [hexP, List.mem_cons] at hc
    rcases hc with rfl | rfl | hc
    · exact dig_sp _ (by omega)
    · exact dig_sp _ (by omega)
    · exact ih c hc
theorem hexL_sp (d : List UInt8) : ∀ c ∈ hexL d, c ≠ 32 := by
  unfold hexL
  split
  · simp
  · exact hexP_sp d
theorem dec_sp (n : Nat) : ∀ c ∈ decDigits n, c ≠ 32 := by
  intro c hc e
  have := dec_byte hc
  rw [e] at this
  simp at this
end Go.Proofs.YtoahfegeeimomaaDoor.TextP
