/- What the printed functions on messages and transactions come to, in plain words. Conditions: as stated in each theorem. -/
import Derived.Test.YtclpjmhanhocoaaPTxnApartx4
import Derived.Test.YtclpjmhanhocoaaPTxnApartx5
set_option linter.unusedVariables false
set_option linter.unusedSimpArgs false
namespace Go.Proofs.Ytclpjmhanhocoaa.TxnPlain
open Go.RowKit PTxnApart
set_option maxRecDepth 100000

def rP (p : S24) : Bool := decide (0 ≤ p.f0) && decide (p.f0 < 4) && (decide (p.f1 = 0) || decide (p.f1 = 1)) && decide ((p.f4.size : Int) ≤ 64)
def rM (m : S86) : Bool := rP m.f1 && decide ((m.f2.size : Int) ≤ 64) && ((decide (m.f0 = 1) && decide (m.f1.f2 = 0) && (m.f2.toList == [])) || (decide (m.f0 = 2) && (m.f2.toList == [])) || (decide (m.f0 = 4) && (m.f2.toList == [])) || decide (m.f0 = 3))
def sM (m : S86) : Int := if m.f1.f1 = 0 ∨ m.f1.f1 = 1 then (if m.f0 = 2 then 1 - m.f1.f1 else if m.f0 = 1 ∨ m.f0 = 3 ∨ m.f0 = 4 then m.f1.f1 else -1) else -1
def rT (side acc : Int) (l : List S86) : Bool := (decide (side = 0) || decide (side = 1)) && decide (0 ≤ acc) && decide (acc ≤ 4) && decide (l.length ≤ 8) && l.all (fun m => rM m && decide (sM m = side))

theorem packet_Right_is (a b c d : Int) (e : ByteArray) : packet_Right.f a b c d e = some (rP ⟨a, b, c, d, e⟩) := by
  unfold packet_Right.f rP
  by_cases h1 : 0 ≤ a
  · by_cases h2 : a < 4
    · by_cases h3 : b = 0
      · simp [h1, h2, h3]
      · by_cases h4 : b = 1
        · simp [h1, h2, h4]
        · simp [h1, h2, h3, h4]
    · simp [h1, h2]
  · simp [h1]
theorem msg_Right_is (k : Nat) (m : S86) : msg_Right.f (k + 2) m.f0 m.f1.f0 m.f1.f1 m.f1.f2 m.f1.f3 m.f1.f4 m.f2 = some (rM m) := by
  obtain ⟨f0, ⟨c, f, s, t, d⟩, a⟩ := m
  unfold msg_Right.f
  rw [packet_Right_is]
  simp only [Option.bind_some, rM]
  cases h0 : rP ⟨c, f, s, t, d⟩
  · simp [msg_Right.j0]
  · by_cases h1 : (a.size : Int) > 64
    · have : ¬ (a.size : Int) ≤ 64 := by omega
      simp [msg_Right.j0, h1, this]
    · have h1' : (a.size : Int) ≤ 64 := by omega
      by_cases h2 : f0 = 1
      · subst h2
        by_cases h3 : s = 0
        · simp [msg_Right.j0, h1, h1', h3]
        · simp [msg_Right.j0, h1, h1', h3]
      · by_cases h3 : f0 = 2
        · subst h3
          simp [msg_Right.j0, msg_Right.j1, h1, h1']
        · by_cases h4 : f0 = 4
          · subst h4
            simp [msg_Right.j0, msg_Right.j1, h1, h1']
          · by_cases h5 : f0 = 3
            · subst h5
              simp [msg_Right.j0, msg_Right.j1, h1, h1']
            · simp [msg_Right.j0, msg_Right.j1, h1, h1', h2, h3, h4, h5]
theorem msg_Side_is (k : Nat) (m : S86) : msg_Side.f (k + 1) m.f0 m.f1.f0 m.f1.f1 m.f1.f2 m.f1.f3 m.f1.f4 m.f2 = some (sM m) := by
  obtain ⟨f0, ⟨c, f, s, t, d⟩, a⟩ := m
  have w0 : wrap64 1 = 1 := by unfold wrap64; omega
  have w1 : wrap64 0 = 0 := by unfold wrap64; omega
  unfold msg_Side.f sM
  by_cases h0 : f = 0
  · subst h0
    by_cases h2 : f0 = 2
    · simp [msg_Side.j0, h2, w0]
    · by_cases h1 : f0 = 1
      · simp [msg_Side.j0, h1]
      · by_cases h3 : f0 = 3
        · simp [msg_Side.j0, h3]
        · by_cases h4 : f0 = 4
          · simp [msg_Side.j0, h4]
          · simp [msg_Side.j0, h1, h2, h3, h4]
  · by_cases h0' : f = 1
    · subst h0'
      by_cases h2 : f0 = 2
      · simp [msg_Side.j0, h2, w1]
      · by_cases h1 : f0 = 1
        · simp [msg_Side.j0, h1]
        · by_cases h3 : f0 = 3
          · simp [msg_Side.j0, h3]
          · by_cases h4 : f0 = 4
            · simp [msg_Side.j0, h4]
            · simp [msg_Side.j0, h1, h2, h3, h4]
    · simp [msg_Side.j0, h0, h0']
theorem msg_Right_ge (k : Nat) (hk : 2 ≤ k) (m : S86) : msg_Right.f k m.f0 m.f1.f0 m.f1.f1 m.f1.f2 m.f1.f3 m.f1.f4 m.f2 = some (rM m) := by
  obtain ⟨j, rfl⟩ : ∃ j, k = j + 2 := ⟨k - 2, by omega⟩
  exact msg_Right_is j m
theorem msg_Side_ge (k : Nat) (hk : 2 ≤ k) (m : S86) : msg_Side.f k m.f0 m.f1.f0 m.f1.f1 m.f1.f2 m.f1.f3 m.f1.f4 m.f2 = some (sM m) := by
  obtain ⟨j, rfl⟩ : ∃ j, k = j + 1 := ⟨k - 1, by omega⟩
  exact msg_Side_is j m
theorem wrap_in {i : Int} {n : Nat} (h0 : 0 ≤ i) (h : i < n) (hn : n ≤ 9223372036854775807) : wrap64 (i + 1) = i + 1 := by unfold wrap64; omega
theorem txn_Right_l0 (l : List S86) (hl : l.length ≤ 9223372036854775807) (side acc non : Int) (x : List S86) : ∀ (d : Nat) (i : Nat) (k : Nat), i + d = l.length → d + 3 < k →
    txn_Right.l0 k l l.length i side acc non x = some ((l.drop i).all (fun m => rM m && decide (sM m = side))) := by
  intro d
  induction d with
  | zero =>
    intro i k hi hk
    obtain ⟨k, rfl⟩ : ∃ m, k = m + 1 := ⟨k - 1, by omega⟩
    simp only [txn_Right.l0]
    rw [if_neg (by omega), List.drop_of_length_le (by omega)]
    rfl
  | succ d ih =>
    intro i k hi hk
    obtain ⟨k, rfl⟩ : ∃ m, k = m + 1 := ⟨k - 1, by omega⟩
    have hlt : i < l.length := by omega
    simp only [txn_Right.l0]
    rw [if_pos (by omega), if_pos (by omega), if_pos (by omega), msg_Right_ge k (by omega), msg_Side_ge k (by omega), wrap_in (n := l.length) (by omega) (by omega) hl]
    have e : rd_T86 l (i : Int) = l[i] := by unfold rd_T86; simp [List.getD_eq_getElem?_getD, hlt]
    rw [e, List.drop_eq_getElem_cons hlt, List.all_cons]
    simp only [Option.bind_some]
    have hi := ih (i + 1) k (by omega) (by omega)
    rw [show ((i + 1 : Nat) : Int) = (i : Int) + 1 by omega] at hi
    cases h1 : rM l[i]
    · simp
    · by_cases h2 : sM l[i] = side
      · simp only [h2, if_true]
        rw [hi]
        simp
      · simp [h2]
theorem txn_Right_is (side acc non : Int) (l : List S86) (hl : l.length ≤ 9223372036854775807) : ∃ k, txn_Right.f k side acc non l = some (rT side acc l) := by
  refine ⟨l.length + 20, ?_⟩
  have hj : txn_Right.j0 (l.length + 20) true side acc non l = some false := by simp [txn_Right.j0]
  have hj2 : txn_Right.j0 (l.length + 20) (decide ((l.length : Int) > 8)) side acc non l = some (decide (l.length ≤ 8) && l.all (fun m => rM m && decide (sM m = side))) := by
    simp only [txn_Right.j0]
    by_cases h : (l.length : Int) > 8
    · have : ¬ l.length ≤ 8 := by omega
      simp [h, this]
    · have h8 : l.length ≤ 8 := by omega
      have := txn_Right_l0 l hl side acc non l l.length 0 (l.length + 19) (by omega) (by omega)
      simp only [List.drop_zero] at this
      simp [h, h8]
      exact this
  unfold txn_Right.f rT
  rw [hj, hj2]
  by_cases h1 : side = 0
  · by_cases h2 : acc < 0
    · have : ¬ 0 ≤ acc := by omega
      simp [h1, h2, this]
    · have h2' : 0 ≤ acc := by omega
      by_cases h3 : acc > 4
      · have : ¬ acc ≤ 4 := by omega
        simp [h1, h2, h3, this]
      · have h3' : acc ≤ 4 := by omega
        simp [h1, h2, h3, h2', h3']
  · by_cases h1' : side = 1
    · by_cases h2 : acc < 0
      · have : ¬ 0 ≤ acc := by omega
        simp [h1', h2, this]
      · have h2' : 0 ≤ acc := by omega
        by_cases h3 : acc > 4
        · have : ¬ acc ≤ 4 := by omega
          simp [h1', h2, h3, this]
        · have h3' : acc ≤ 4 := by omega
          simp [h1', h2, h3, h2', h3']
    · simp [h1, h1']
/-! ### few -/
def fewT (l : List S86) : Bool := decide (l.length ≤ 12) && l.all (fun m => decide ((m.f1.f4.size : Int) ≤ 200) && decide ((m.f2.size : Int) ≤ 200))
theorem few_l0 (l : List S86) (hl : l.length ≤ 9223372036854775807) (a b c : Int) : ∀ (d : Nat) (i : Nat) (k : Nat), i + d = l.length → d < k →
    muleteerlaw05_Few.l0 k i a b c l = some ((l.drop i).all (fun m => decide ((m.f1.f4.size : Int) ≤ 200) && decide ((m.f2.size : Int) ≤ 200))) := by
  intro d
  induction d with
  | zero =>
    intro i k hi hk
    obtain ⟨k, rfl⟩ : ∃ m, k = m + 1 := ⟨k - 1, by omega⟩
    simp only [muleteerlaw05_Few.l0]
    rw [if_neg (by omega), List.drop_of_length_le (by omega)]
    rfl
  | succ d ih =>
    intro i k hi hk
    obtain ⟨k, rfl⟩ : ∃ m, k = m + 1 := ⟨k - 1, by omega⟩
    have hlt : i < l.length := by omega
    have e : rd_T86 l (i : Int) = l[i] := by unfold rd_T86; simp [List.getD_eq_getElem?_getD, hlt]
    simp only [muleteerlaw05_Few.l0]
    rw [if_pos (by omega), if_pos (by omega), wrap_in (n := l.length) (by omega) (by omega) hl, e, List.drop_eq_getElem_cons hlt, List.all_cons]
    have hi := ih (i + 1) k (by omega) (by omega)
    rw [show ((i + 1 : Nat) : Int) = (i : Int) + 1 by omega] at hi
    rw [hi]
    by_cases h1 : (l[i].f1.f4.size : Int) > 200
    · have : ¬ (l[i].f1.f4.size : Int) ≤ 200 := by omega
      simp [h1, this]
    · have h1' : (l[i].f1.f4.size : Int) ≤ 200 := by omega
      by_cases h2 : (l[i].f2.size : Int) > 200
      · have : ¬ (l[i].f2.size : Int) ≤ 200 := by omega
        simp [h1, h2, this]
      · have h2' : (l[i].f2.size : Int) ≤ 200 := by omega
        simp [h1, h2, h1', h2']
theorem few_is (a b c : Int) (l : List S86) (hl : l.length ≤ 9223372036854775807) : ∃ k, muleteerlaw05_Few.f k a b c l = some (fewT l) := by
  refine ⟨l.length + 1, ?_⟩
  unfold muleteerlaw05_Few.f fewT
  by_cases h : (l.length : Int) > 12
  · have : ¬ l.length ≤ 12 := by omega
    simp [h, this]
  · have h12 : l.length ≤ 12 := by omega
    have := few_l0 l hl a b c l.length 0 (l.length + 1) (by omega) (by omega)
    simp only [List.drop_zero] at this
    rw [if_neg h]
    simp [h12]
    exact this
/-! ### same -/
def sameM (x y : S86) : Bool := x.f0 == y.f0 && (x.f1.f0 == y.f1.f0 && x.f1.f1 == y.f1.f1 && x.f1.f2 == y.f1.f2 && x.f1.f3 == y.f1.f3 && x.f1.f4.toList == y.f1.f4.toList) && x.f2.toList == y.f2.toList
theorem toList_iff (a b : ByteArray) : a.toList = b.toList ↔ a = b := by
  rw [ByteArray.toList_eq, ByteArray.toList_eq]
  obtain ⟨⟨x⟩⟩ := a
  obtain ⟨⟨y⟩⟩ := b
  simp
theorem sameM_iff (x y : S86) : sameM x y = true ↔ x = y := by
  obtain ⟨a0, ⟨a1, a2, a3, a4, a5⟩, a6⟩ := x
  obtain ⟨b0, ⟨b1, b2, b3, b4, b5⟩, b6⟩ := y
  simp only [sameM, Bool.and_eq_true, beq_iff_eq, toList_iff, S86.mk.injEq, S24.mk.injEq]
  constructor
  · rintro ⟨⟨h0, ⟨⟨⟨h1, h2⟩, h3⟩, h4⟩, h5⟩, h6⟩
    exact ⟨h0, ⟨h1, h2, h3, h4, h5⟩, h6⟩
  · rintro ⟨h0, ⟨h1, h2, h3, h4, h5⟩, h6⟩
    exact ⟨⟨h0, ⟨⟨⟨h1, h2⟩, h3⟩, h4⟩, h5⟩, h6⟩
def sameL (l m : List S86) : Bool := decide (l.length = m.length) && (l.zip m).all (fun p => sameM p.1 p.2)
theorem zip_all : ∀ (l m : List S86), l.length = m.length → ((l.zip m).all (fun p => sameM p.1 p.2) = true ↔ l = m) := by
  intro l
  induction l with
  | nil => intro m h; cases m with
    | nil => simp
    | cons y m => simp at h
  | cons x l ih =>
    intro m h
    cases m with
    | nil => simp at h
    | cons y m =>
      simp only [List.zip_cons_cons, List.all_cons, Bool.and_eq_true, sameM_iff, List.cons.injEq]
      rw [ih m (by simpa using h)]
theorem sameL_iff (l m : List S86) : sameL l m = true ↔ l = m := by
  unfold sameL
  by_cases h : l.length = m.length
  · simp only [h, decide_true, Bool.true_and]
    exact zip_all l m h
  · simp only [h, decide_false, Bool.false_and]
    exact ⟨fun e => by simp at e, fun e => absurd (by rw [e]) h⟩
theorem neq_is (x y : S86) : (!((x.f0) == (y.f0)) || ((!((x.f1.f0) == (y.f1.f0)) || (!((x.f1.f1) == (y.f1.f1)) || (!((x.f1.f2) == (y.f1.f2)) || (!((x.f1.f3) == (y.f1.f3)) || (!(((x.f1.f4).toList) == ((y.f1.f4).toList))))))) || (!(((x.f2).toList) == ((y.f2).toList))))) = !(sameM x y) := by
  simp only [sameM, Bool.not_and, Bool.or_assoc]
theorem sameMsgs_l0 (l m : List S86) (hl : l.length ≤ 9223372036854775807) (he : l.length = m.length) : ∀ (d : Nat) (i : Nat) (k : Nat), i + d = l.length → d < k →
    muleteerref05_SameMsgs.l0 k l m i = some (((l.drop i).zip (m.drop i)).all (fun p => sameM p.1 p.2)) := by
  intro d
  induction d with
  | zero =>
    intro i k hi hk
    obtain ⟨k, rfl⟩ : ∃ m, k = m + 1 := ⟨k - 1, by omega⟩
    simp only [muleteerref05_SameMsgs.l0]
    rw [if_neg (by omega), List.drop_of_length_le (by omega)]
    rfl
  | succ d ih =>
    intro i k hi hk
    obtain ⟨k, rfl⟩ : ∃ m, k = m + 1 := ⟨k - 1, by omega⟩
    have hlt : i < l.length := by omega
    have hlt2 : i < m.length := by omega
    have e : rd_T86 l (i : Int) = l[i] := by unfold rd_T86; simp [List.getD_eq_getElem?_getD, hlt]
    have e2 : rd_T86 m (i : Int) = m[i] := by unfold rd_T86; simp [List.getD_eq_getElem?_getD, hlt2]
    simp only [muleteerref05_SameMsgs.l0]
    rw [if_pos (by omega), if_pos (by omega), if_pos (by omega), neq_is, wrap_in (n := l.length) (by omega) (by omega) hl, e, e2, List.drop_eq_getElem_cons hlt, List.drop_eq_getElem_cons hlt2, List.zip_cons_cons, List.all_cons]
    have hi := ih (i + 1) k (by omega) (by omega)
    rw [show ((i + 1 : Nat) : Int) = (i : Int) + 1 by omega] at hi
    rw [hi]
    cases sameM l[i] m[i] <;> simp
theorem refSame_is (a b c : Int) (l : List S86) (a' b' c' : Int) (m : List S86) (hl : l.length ≤ 9223372036854775807) :
    ∃ k, muleteerref05_Same.f k a b c l a' b' c' m = some (decide (a = a') && decide (b = b') && decide (c = c') && sameL l m) := by
  refine ⟨l.length + 1, ?_⟩
  have h : muleteerref05_SameMsgs.f (l.length + 1) l m = some (sameL l m) := by
    unfold muleteerref05_SameMsgs.f sameL
    by_cases he : l.length = m.length
    · have := sameMsgs_l0 l m hl he l.length 0 (l.length + 1) (by omega) (by omega)
      simp only [List.drop_zero] at this
      rw [if_pos (by omega)]
      simp [he] at this ⊢
      exact this
    · rw [if_neg (by omega)]
      simp [he]
  unfold muleteerref05_Same.f
  rw [h]
  by_cases h1 : a = a' <;> by_cases h2 : b = b' <;> by_cases h3 : c = c' <;> simp [h1, h2, h3]
theorem api_l0 (l m : List S86) (hl : l.length ≤ 9223372036854775807) (he : l.length = m.length) : ∀ (d : Nat) (i : Nat) (k : Nat), i + d = l.length → d < k →
    api_Msg.l0 k l m l.length i = some (((l.drop i).zip (m.drop i)).all (fun p => sameM p.1 p.2)) := by
  intro d
  induction d with
  | zero =>
    intro i k hi hk
    obtain ⟨k, rfl⟩ : ∃ m, k = m + 1 := ⟨k - 1, by omega⟩
    simp only [api_Msg.l0]
    rw [if_neg (by omega), List.drop_of_length_le (by omega)]
    rfl
  | succ d ih =>
    intro i k hi hk
    obtain ⟨k, rfl⟩ : ∃ m, k = m + 1 := ⟨k - 1, by omega⟩
    have hlt : i < l.length := by omega
    have hlt2 : i < m.length := by omega
    have e : rd_T86 l (i : Int) = l[i] := by unfold rd_T86; simp [List.getD_eq_getElem?_getD, hlt]
    have e2 : rd_T86 m (i : Int) = m[i] := by unfold rd_T86; simp [List.getD_eq_getElem?_getD, hlt2]
    simp only [api_Msg.l0]
    rw [if_pos (by omega), if_pos (by omega), if_pos (by omega), if_pos (by omega), neq_is, wrap_in (n := l.length) (by omega) (by omega) hl, e, e2, List.drop_eq_getElem_cons hlt, List.drop_eq_getElem_cons hlt2, List.zip_cons_cons, List.all_cons]
    have hi := ih (i + 1) k (by omega) (by omega)
    rw [show ((i + 1 : Nat) : Int) = (i : Int) + 1 by omega] at hi
    rw [hi]
    cases sameM l[i] m[i] <;> simp
theorem txnSame_is (a b c : Int) (l : List S86) (a' b' c' : Int) (m : List S86) (hl : l.length ≤ 9223372036854775807) :
    ∃ k, txn_Same.f k a b c l a' b' c' m = some (decide (a = a') && decide (b = b') && decide (c = c') && sameL l m) := by
  refine ⟨l.length + 1, ?_⟩
  have h : api_Msg.f (l.length + 1) l m = some (sameL l m) := by
    unfold api_Msg.f sameL
    by_cases he : l.length = m.length
    · have := api_l0 l m hl he l.length 0 (l.length + 1) (by omega) (by omega)
      simp only [List.drop_zero] at this
      rw [if_pos (by omega)]
      simp [he] at this ⊢
      exact this
    · rw [if_neg (by omega)]
      simp [he]
  unfold txn_Same.f
  rw [h]
  by_cases h1 : a = a' <;> by_cases h2 : b = b' <;> by_cases h3 : c = c' <;> simp [h1, h2, h3]
end Go.Proofs.Ytclpjmhanhocoaa.TxnPlain
