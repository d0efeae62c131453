/- The reference's words: a line cut at its spaces. Conditions: as stated in each theorem. -/
import Derived.Test.YtoahfegeeimomaaDoorUnhex
set_option linter.unusedVariables false
set_option linter.unusedSimpArgs false
namespace Go.Proofs.YtoahfegeeimomaaDoor.RefWords
open Go.RowKit Base RowD Number TextP LinesPlain Num Tail Hex LoopsPlain Loops Loops2
set_option maxRecDepth 100000

theorem own_slice9 {w : World} {B : Nat} {v : Value} {n : Nat} {xs : List Value} (h : w.ownsRow B 9 1 v n xs) (hn : 0 < n) : ∃ g cap, v = .slice (some ⟨g, 0, none⟩) n cap ∧ B ≤ g ∧ g < w.heap.size := by
  rcases h.2 with ⟨_, h0⟩ | ⟨g, cap, cur, rfl, hb, hg, _⟩
  · omega
  · exact ⟨g, cap, rfl, hb, lt_of_block hg⟩
theorem own_ge9 {w : World} {B : Nat} {v : Value} {n : Nat} {xs : List Value} (h : w.ownsRow B 9 1 v n xs) : ∀ k, v.ownBlock = some k → B ≤ k := fun k hk => (h.lt k hk).1
theorem extract_list (s : ByteArray) (b i : Nat) : (s.extract b i).data.toList = (s.data.toList.drop b).take (i - b) := by
  rw [Lib.extract_data]
theorem extract_size (s : ByteArray) (b i : Nat) (h : s.size ≤ 1000) : (s.extract b i).size ≤ 1000 := by
  rw [ByteArray.size_extract]; omega
structure W1 (s : ByteArray) (w wr : World) (v : Value) (out : List ByteArray) (b k : Nat) : Prop where
  own : wr.ownsRow w.heap.size 9 1 v out.length (out.map Value.string)
  below : Below w.heap.size w wr
  small : ∀ x ∈ out, x.size ≤ 1000
  len : out.length ≤ k
  at_ : (k ≤ s.size ∧ WordsAt s.data.toList (lists out) b k) ∨ (k = s.size + 1 ∧ splitSp s.data.toList = lists out)
theorem lists_snoc (out : List ByteArray) (x : ByteArray) : lists (out ++ [x]) = lists out ++ [x.data.toList] := by simp [lists]
theorem all_snoc {out : List ByteArray} {x : ByteArray} (h : ∀ y ∈ out, y.size ≤ 1000) (hx : x.size ≤ 1000) : ∀ y ∈ out ++ [x], y.size ≤ 1000 := by
  intro y hy
  rcases List.mem_append.1 hy with h1 | h1
  · exact h y h1
  · simp at h1; rw [h1]; exact hx
def Cut (s : ByteArray) (w : World) (e : Ending) (w' : World) : Prop :=
  ∃ (g cap : Nat) (ws : List ByteArray), e = .returned (.slice (some ⟨g, 0, none⟩) ws.length cap) ∧ Strs w' g ws ∧ lists ws = splitSp s.data.toList ∧ Below w.heap.size w w' ∧ w.heap.size ≤ g
set_option maxHeartbeats 4000000 in
theorem refWords (s : ByteArray) (hm : s.size ≤ 1000) (w : World) : Calls Tryd.prog 34 #[.string s] w (Cut s w) := by
  obtain ⟨i0, hi, hz0, hz1, hz2⟩ := info_parts (show (Tryd.prog.info? 9).map (fun i => (i.zero, i.size, i.bytes)) = some (some (.string ⟨#[]⟩), 1, 16) by kernel_rfl)
  have HI := Lib.hid hi
  have HZ0 := Lib.hid hz0
  have HZ1 := Lib.hid hz1
  have HZ2 := Lib.hid hz2
  have HL := Lib.hid (len_bytes s)
  clear hi hz0 hz1 hz2
  go_enter Tryd.func34, Tryd.ntmps34
  go_wp2
  go_loopw [3, 4, 5] (fun v f i wr => ∃ (out : List ByteArray) (b k : Nat), k ≤ s.size + 1 ∧ b ≤ s.size + 1 ∧ f = .int .i64 (b : Int) ∧ i = .int .i64 (k : Int) ∧ W1 s w wr v out b k) (fun _ _ i _ => s.size + 1 - (intOf i).toNat)
  case atStart => exact ⟨[], 0, 0, by omega, by omega, rfl, rfl, World.ownsRow_nil w w.heap.size 9 1, Below.refl _ _, by simp, by simp, .inl ⟨by omega, wordsAt_zero _⟩⟩
  case round =>
    obtain ⟨out, b, k, hk, hbs, rfl, rfl, hw⟩ := hrel
    have HW := Lib.hid hw
    clear hw
    have wk : IntKind.i64.wrap ((k : Int) + 1) = (k : Int) + 1 := IntWalk.i64_in _ (by omega)
    by_cases hlt : k < s.size
    · have hat : WordsAt s.data.toList (lists out) b k := by
        rcases HW.out.at_ with ⟨_, h⟩ | ⟨h, _⟩
        · exact h
        · omega
      have hbk : b ≤ k := hat.1
      have HA := Lib.hid hat
      have d1 : decide ((k : Int) ≤ (s.size : Int)) = true := by simp; omega
      have d2 : ((k : Int) == (s.size : Int)) = false := by simp; omega
      have xk := idx (s := s) (i := (k : Int)) (j := k) rfl hlt
      have HLT := Lib.hid (show k < s.data.toList.length by rw [HL.out]; exact hlt)
      by_cases hc : s.data.toList.getD k 0 = 32
      · have hb32 : bt s.data.toList k = 32 := by unfold bt; rw [hc]; rfl
        rw [hb32] at xk
        have HN := Lib.hid (wordsAt_space HA.out HLT.out hc)
        have hu := HW.out.below.size
        have ho := HW.out.len
        clear hat hc hb32
        go_wp2_with (at_builtin; go_must (refine wpList_append_one _ rfl (.tmp 22) (.tmp 27) 52 rfl w.heap.size 9 i0 (.string ⟨#[]⟩) 16 Tryd.underlying52 HI.out HZ0.out HZ1.out HZ2.out rfl (.string (s.extract b k)) rfl _ out.length _ rfl HW.out.own rfl (by unfold maxLen; omega) (by omega) hu ?_); intro v' w1 hown' hgrow _)
        go_roundw
        case rel =>
          refine ⟨out ++ [s.extract b k], k + 1, k + 1, by omega, by omega, by go_num, by go_num, ?_, (HW.out.below.alloc hu _).grown hgrow (by simp; omega) (own_ge9 HW.out.own), all_snoc HW.out.small (extract_size _ _ _ hm), by simp; omega, .inl ⟨by omega, ?_⟩⟩
          · simpa using hown'
          · rw [lists_snoc, extract_list]
            exact HN.out
        case measure => simp [intOf]; omega
      · have hb32 : ((bt s.data.toList k : Nat) : Int) ≠ 32 := by
          intro e
          apply hc
          apply UInt8.toNat_inj.1
          have : bt s.data.toList k = 32 := by omega
          exact this
        have hcc := bt_lt s.data.toList k
        have HN := Lib.hid (wordsAt_char HA.out HLT.out hc)
        generalize bt s.data.toList k = c at *
        have d3 : ((c : Int) == 32) = false := by simpa using hb32
        have ho := HW.out.len
        clear hat hc hb32
        go_wp2
        go_roundw
        case rel => exact ⟨out, b, k + 1, by omega, by omega, rfl, by go_num, HW.out.own, HW.out.below, HW.out.small, by omega, .inl ⟨by omega, HN.out⟩⟩
        case measure => simp [intOf]; omega
    · by_cases he : k = s.size
      · have hat : WordsAt s.data.toList (lists out) b k := by
          rcases HW.out.at_ with ⟨_, h⟩ | ⟨h, _⟩
          · exact h
          · omega
        have hbk : b ≤ k := hat.1
        subst he
        have HN := Lib.hid (show splitSp s.data.toList = lists (out ++ [s.extract b s.size]) by
          rw [lists_snoc, extract_list]
          have h2 := hat
          rw [← HL.out] at h2
          rw [← HL.out]
          exact wordsAt_end h2)
        have d1 : decide ((s.size : Int) ≤ (s.size : Int)) = true := by simp
        have d2 : ((s.size : Int) == (s.size : Int)) = true := by simp
        have hu := HW.out.below.size
        have ho := HW.out.len
        clear hat hlt
        go_wp2_with (at_builtin; go_must (refine wpList_append_one _ rfl (.tmp 22) (.tmp 27) 52 rfl w.heap.size 9 i0 (.string ⟨#[]⟩) 16 Tryd.underlying52 HI.out HZ0.out HZ1.out HZ2.out rfl (.string (s.extract b s.size)) rfl _ out.length _ rfl HW.out.own rfl (by unfold maxLen; omega) (by omega) hu ?_); intro v' w1 hown' hgrow _)
        go_roundw
        case rel =>
          refine ⟨out ++ [s.extract b s.size], s.size + 1, s.size + 1, by omega, by omega, by go_num, by go_num, ?_, (HW.out.below.alloc hu _).grown hgrow (by simp; omega) (own_ge9 HW.out.own), all_snoc HW.out.small (extract_size _ _ _ hm), by simp; omega, .inr ⟨by omega, HN.out⟩⟩
          simpa using hown'
        case measure => simp [intOf]
      · have hend : splitSp s.data.toList = lists out := by
          rcases HW.out.at_ with ⟨h, _⟩ | ⟨_, h⟩
          · omega
          · exact h
        have hpos : 0 < out.length := by
          cases hout : out with
          | nil => rw [hout] at hend; exact absurd hend (splitSp_ne _)
          | cons a r => simp
        obtain ⟨g, cap, rfl, hg1, hg2⟩ := own_slice9 HW.out.own hpos
        have d1 : decide ((k : Int) ≤ (s.size : Int)) = false := by simp; omega
        have HE := Lib.hid hend
        clear hend
        go_wp2
        go_ret
        refine ⟨g, cap, out, rfl, ⟨fun i hi => ?_, HW.out.small⟩, HE.out.symm, HW.out.below, hg1⟩
        have := HW.out.own.cellAt i (by omega)
        rw [this]
        simp [hi]
end Go.Proofs.YtoahfegeeimomaaDoor.RefWords
