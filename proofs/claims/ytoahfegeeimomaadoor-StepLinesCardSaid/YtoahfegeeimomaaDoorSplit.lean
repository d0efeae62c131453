/- strings.Split at a space. Conditions: as stated in each theorem. -/
import Derived.Test.YtoahfegeeimomaaDoorRefWords
import Derived.Lib.SplitLaws
import Derived.Lib.Replace
set_option linter.unusedVariables false
set_option linter.unusedSimpArgs false
namespace Go.Proofs.YtoahfegeeimomaaDoor.Split
open Go.RowKit Base RowD Number TextP LinesPlain Num LoopsPlain RefWords
set_option maxRecDepth 100000

theorem index_sp (c : UInt8) (r : List UInt8) : Lib.index (c :: r) [32] = if c = 32 then 0 else if Lib.index r [32] = -1 then -1 else Lib.index r [32] + 1 := by
  rw [Lib.index]
  by_cases h : c = 32
  · subst h; simp [List.isPrefixOf]
  · have : ((32 : UInt8) == c) = false := by rw [beq_eq_false_iff_ne]; exact fun e => h e.symm
    simp [List.isPrefixOf, this, h]
theorem split_is : ∀ (l : List UInt8), Lib.splitK [32] 0 (Lib.count l [32]) l = splitSp l
  | [] => by
    have : Lib.count [] [32] = 0 := by rw [Lib.count_one]; rfl
    rw [this]; rfl
  | c :: r => by
    have ih := split_is r
    by_cases h : c = 32
    · subst h
      rw [Lib.count_cons_eq, Nat.add_comm, Lib.splitK, index_sp, if_pos rfl, splitSp, if_pos rfl]
      simp only [show ((0 : Int) == -1) = false from rfl, Int.toNat_zero, List.take_zero, List.length_singleton, Nat.zero_add, List.drop_succ_cons, List.drop_zero]
      rw [ih]
      rfl
    · rw [Lib.count_cons_ne c 32 r h, splitSp, if_neg h, ← ih]
      cases hn : Lib.count r [32] with
      | zero => rfl
      | succ m =>
        obtain ⟨i, hi⟩ := Lib.index_of_count (s := r) (old := [32]) (by omega)
        have e1 : Lib.index (c :: r) [32] = ((i + 1 : Nat) : Int) := by
          rw [index_sp, if_neg h, hi, if_neg (by omega)]
          omega
        have n1 : (((i + 1 : Nat) : Int) == -1) = false := by rw [beq_eq_false_iff_ne]; omega
        have n2 : ((i : Int) == -1) = false := by rw [beq_eq_false_iff_ne]; omega
        rw [Lib.splitK, Lib.splitK, e1, hi]
        simp only [n1, n2, Bool.false_eq_true, if_false, Int.toNat_natCast, List.length_singleton, Nat.add_zero, List.take_succ_cons, List.drop_succ_cons]
theorem split_count : ∀ (l : List UInt8), (splitSp l).length = Lib.count l [32] + 1
  | [] => by
    have : Lib.count [] [32] = 0 := by rw [Lib.count_one]; rfl
    rw [this]; rfl
  | c :: r => by
    have ih := split_count r
    by_cases h : c = 32
    · subst h
      rw [Lib.count_cons_eq, splitSp, if_pos rfl]
      simp; omega
    · rw [Lib.count_cons_ne c 32 r h, splitSp, if_neg h]
      cases hs : splitSp r with
      | nil => exact absurd hs (splitSp_ne r)
      | cons w ws => rw [hs] at ih; simpa using ih
theorem split_small : ∀ (l w : List UInt8), w ∈ splitSp l → w.length ≤ l.length
  | [], w, h => by simp [splitSp] at h; simp [h]
  | c :: r, w, h => by
    have ih := split_small r
    rw [splitSp] at h
    split at h
    · rcases List.mem_cons.1 h with h | h
      · subst h; simp
      · have := ih w h; simp; omega
    · cases hs : splitSp r with
      | nil => exact absurd hs (splitSp_ne r)
      | cons v ws =>
        rw [hs] at h
        rcases List.mem_cons.1 h with h | h
        · subst h
          have := ih v (by rw [hs]; exact List.mem_cons_self)
          simp; omega
        · have := ih w (by rw [hs]; exact List.mem_cons_of_mem _ h)
          simp; omega
theorem split (s : ByteArray) (hm : s.size ≤ 1000) (w : World) (hsh : w.ShapedOpen Tryd.prog) : Calls Tryd.prog 28 #[.string s, .string ⟨#[32]⟩] w (Cut s w) := by
  refine (Tryd.strings_Split_shaped s ⟨#[32]⟩ w hsh (by omega) (by decide)).mono ?_
  rintro e w' ⟨rfl, rfl⟩
  have hd : lists (Lib.splitB ⟨#[32]⟩ 0 (Lib.countB s ⟨#[32]⟩) s) = splitSp s.data.toList := by
    unfold lists
    rw [Lib.splitB_data]
    exact split_is s.data.toList
  have hc : Lib.countB s ⟨#[32]⟩ + 1 = (Lib.splitB ⟨#[32]⟩ 0 (Lib.countB s ⟨#[32]⟩) s).length := by
    have h1 := split_count s.data.toList
    rw [← hd] at h1
    simp only [lists, List.length_map] at h1
    exact h1.symm
  have hs : ∀ x ∈ Lib.splitB ⟨#[32]⟩ 0 (Lib.countB s ⟨#[32]⟩) s, x.size ≤ 1000 := by
    intro x hx
    have h1 : x.data.toList ∈ splitSp s.data.toList := by rw [← hd]; exact List.mem_map_of_mem hx
    have h2 := split_small _ _ h1
    have h3 : x.data.toList.length = x.size := by simp
    have h4 : s.data.toList.length = s.size := by simp
    omega
  refine ⟨w.heap.size, _, _, by rw [hc], ⟨fun i hi => ?_, hs⟩, hd, (Below.refl _ _).alloc (Nat.le_refl _) _, Nat.le_refl _⟩
  have hb := cell_of_block (o := i) (block_new w (.cells ((Lib.splitB ⟨#[32]⟩ 0 (Lib.countB s ⟨#[32]⟩) s).map Value.string).toArray 9))
  rw [hb]
  simp [hi]
end Go.Proofs.YtoahfegeeimomaaDoor.Split
