/- step.hex, step.unhex, the reference's bytes. Conditions: as stated in each theorem. -/
import Derived.Test.YtoahfegeeimomaaDoorTail
import Derived.Test.YtoahfegeeimomaaDoorNum
import Derived.Laws.BytesArg
import Derived.StillTailTactics
set_option linter.unusedVariables false
set_option linter.unusedSimpArgs false
namespace Go.Proofs.YtoahfegeeimomaaDoor.Hex
open Go.RowKit Base RowD Number TextP LinesPlain Num Tail
set_option maxRecDepth 100000

def vB (l : List UInt8) : List Value := l.map fun b => Value.int .u8 (b.toNat : Int)
theorem convO {n cap : Nat} {B g : Nat} (w : World) (l : List UInt8) (h : w.ownsRow B 5 1 (.slice (some ⟨g, 0, none⟩) n cap) n (vB l)) : (convert 76 9 (.slice (some ⟨g, 0, none⟩) n cap)).run Tryd.prog w = .ok (.string ⟨l.toArray⟩) w := by
  have hl : l.length = n := by have := h.1; simpa [vB] using this
  have := run_convert_bytes_arg w 76 5 Tryd.underlying76 Tryd.underlying5 g 0 n cap (l.map fun b => (b.toNat : Int)) (by simp [hl]) (by
    intro i hi
    rw [Nat.zero_add, h.cellAt i (by omega)]
    simp [vB, List.getD_eq_getElem?_getD, List.getElem?_eq_getElem (show i < l.length by omega)]) 9 Tryd.underlying9
  rw [this]
  have e : strOfNums (l.map fun b => (b.toNat : Int)) = ⟨l.toArray⟩ := by
    unfold strOfNums
    congr 2
    rw [List.map_map]
    have : ((fun n : Int => UInt8.ofNat n.toNat) ∘ fun b : UInt8 => (b.toNat : Int)) = id := by
      funext b
      simp
    rw [this, List.map_id]
  rw [e]
/-- byte j -/
def bt (l : List UInt8) (j : Nat) : Nat := (l.getD j 0).toNat
theorem bt_lt (l : List UInt8) (j : Nat) : bt l j < 256 := (l.getD j 0).toNat_lt
theorem idx {s : ByteArray} {i : Int} {j : Nat} (hi : i = (j : Int)) (h : j < s.size) (w : World) : (Instr.index 9 (.string s) (.int .i64 i)).run Tryd.prog w = .ok (.int .u8 ((bt s.data.toList j : Nat) : Int)) w := by
  subst hi
  rw [run_index_string (P := Tryd.prog) w 9 s .i64 _ Tryd.underlying9, dif_pos (by omega)]
  have hb : bt s.data.toList j = (s[j]).toNat := by
    unfold bt
    rw [List.getD_eq_getElem?_getD, List.getElem?_eq_getElem (by simpa using h)]
    rfl
  rw [hb]
  simp
theorem idx16 (n : Nat) (h : n < 16) (w : World) : (Instr.index 9 (.string ⟨#[48, 49, 50, 51, 52, 53, 54, 55, 56, 57, 97, 98, 99, 100, 101, 102]⟩) (.int .u8 (n : Int))).run Tryd.prog w = .ok (.int .u8 ((dig n).toNat : Int)) w := by
  rcases (by omega : n = 0 ∨ n = 1 ∨ n = 2 ∨ n = 3 ∨ n = 4 ∨ n = 5 ∨ n = 6 ∨ n = 7 ∨ n = 8 ∨ n = 9 ∨ n = 10 ∨ n = 11 ∨ n = 12 ∨ n = 13 ∨ n = 14 ∨ n = 15) with rfl | rfl | rfl | rfl | rfl | rfl | rfl | rfl | rfl | rfl | rfl | rfl | rfl | rfl | rfl | rfl
  all_goals kernel_rfl
theorem not_empty {s : ByteArray} (h : 0 < s.size) : s.toList.isEmpty = false := by
  rw [ByteArray.toList_eq, List.isEmpty_eq_false_iff]
  intro e
  have h2 : s.data.toList.length = 0 := by rw [e]; rfl
  have h3 : s.data.toList.length = s.size := by simp
  omega
theorem hex_empty (w : World) : Calls Tryd.prog 45 #[.string ⟨#[]⟩] w fun e w' => e = .returned (.string ⟨(hexL []).toArray⟩) ∧ Below w.heap.size w w' := by
  go_enter Tryd.func45, Tryd.ntmps45
  go_wp2
  go_ret
  exact ⟨rfl, Below.refl _ _⟩
theorem own_drewN {w : World} {B : Nat} {v : Value} {n : Nat} {xs : List Value} (h : w.ownsRow B 5 1 v n xs) (m : Nat) : (w.drewN m).ownsRow B 5 1 v n xs := by
  rcases h with ⟨h1, h2⟩
  refine ⟨h1, ?_⟩
  simpa [drewN_heap] using h2
theorem own_ge {w : World} {B : Nat} {v : Value} {n : Nat} {xs : List Value} (h : w.ownsRow B 5 1 v n xs) : ∀ k, v.ownBlock = some k → B ≤ k := fun k hk => (h.lt k hk).1
theorem own_slice {w : World} {B : Nat} {v : Value} {n : Nat} {xs : List Value} (h : w.ownsRow B 5 1 v n xs) (hn : 0 < n) : ∃ g cap, v = .slice (some ⟨g, 0, none⟩) n cap ∧ B ≤ g ∧ g < w.heap.size := by
  rcases h.2 with ⟨_, h0⟩ | ⟨g, cap, cur, rfl, hb, hg, _⟩
  · omega
  · exact ⟨g, cap, rfl, hb, lt_of_block hg⟩
theorem hexP_len (l : List UInt8) : (hexP l).length = 2 * l.length := by
  induction l with
  | nil => rfl
  | cons b r ih => simp [hexP, ih]; omega
theorem hexP_app (a b : List UInt8) : hexP (a ++ b) = hexP a ++ hexP b := by
  induction a with
  | nil => rfl
  | cons c r ih => simp [hexP, ih]
theorem hexP_take (l : List UInt8) (k : Nat) (h : k < l.length) : hexP (l.take (k + 1)) = hexP (l.take k) ++ [dig (bt l k / 16), dig (bt l k % 16)] := by
  rw [List.take_succ_eq_append_getElem h, hexP_app]
  simp [hexP, bt, List.getD_eq_getElem?_getD, h]
def H1 (l : List UInt8) (w wr : World) (v : Value) (k : Nat) : Prop := wr.ownsRow w.heap.size 5 1 v (2 * k) (vB (hexP (l.take k))) ∧ Below w.heap.size w wr
set_option maxHeartbeats 4000000 in
theorem hex (s : ByteArray) (h0 : 0 < s.size) (h1 : s.size ≤ 1000) (w : World) : Calls Tryd.prog 45 #[.string s] w fun e w' => e = .returned (.string ⟨(hexL s.data.toList).toArray⟩) ∧ Below w.heap.size w w' := by
  obtain ⟨i0, hi, hz0, hz1, hz2⟩ := info_parts (show (Tryd.prog.info? 5).map (fun i => (i.zero, i.size, i.bytes)) = some (some (.int .u8 0), 1, 1) by kernel_rfl)
  have HI := Lib.hid hi
  have HZ0 := Lib.hid hz0
  have HZ1 := Lib.hid hz1
  have HZ2 := Lib.hid hz2
  have hne := not_empty h0
  clear hi hz0 hz1 hz2
  go_enter Tryd.func45, Tryd.ntmps45
  go_wp2
  go_loopw [3, 9] (fun v i wr => ∃ k : Nat, k ≤ s.size ∧ i = .int .i64 k ∧ H1 s.data.toList w wr v k) (fun _ i _ => s.size - (intOf i).toNat)
  case atStart => exact ⟨0, Nat.zero_le _, rfl, World.ownsRow_nil w w.heap.size 5 1, Below.refl _ _⟩
  case round =>
    obtain ⟨k, hk, rfl, hr, hb⟩ := hrel
    have HR := Lib.hid hr
    have HB := Lib.hid hb
    clear hr hb
    by_cases hlt : k < s.size
    · have d1 : decide ((k : Int) < (s.size : Int)) = true := by simp; omega
      have x0 := idx (s := s) (i := (k : Int)) (j := k) rfl hlt
      have hc := bt_lt s.data.toList k
      have hp := hexP_take s.data.toList k (by simpa using hlt)
      generalize bt s.data.toList k = c at *
      have HP := Lib.hid hp
      have x1 : ∀ w, (Instr.index 9 (.string ⟨#[48, 49, 50, 51, 52, 53, 54, 55, 56, 57, 97, 98, 99, 100, 101, 102]⟩) (.int .u8 ((c : Int) / 16))).run Tryd.prog w = .ok (.int .u8 ((dig (c / 16)).toNat : Int)) w := idx16 (c / 16) (by omega)
      have x2 : ∀ w, (Instr.index 9 (.string ⟨#[48, 49, 50, 51, 52, 53, 54, 55, 56, 57, 97, 98, 99, 100, 101, 102]⟩) (.int .u8 (bits .and .u8 (c : Int) 15))).run Tryd.prog w = .ok (.int .u8 ((dig (c % 16)).toNat : Int)) w := by intro w; rw [u8_and15 (x := (c : Int)) (by omega) (by omega)]; exact idx16 (c % 16) (by omega) w
      clear hp
      go_wp2_with fail
      refine wp_region_quiet_tail1 10 (by kernel_rfl) (by kernel_rfl) (fun _ _ _ h => h) (Or.inl ⟨by rfl, fun _ => by rfl⟩) ?_
      simp only [List.take_succ_cons, List.take_zero, List.drop_succ_cons, List.drop_zero]
      repeat (quiet_step (fail))
      refine wpQuiet_nil ?_
      intro _ hw'
      obtain ⟨nq, hw''⟩ := hw'
      subst hw''
      have HR2 := Lib.hid (own_drewN HR.out nq)
      have HB2 := Lib.hid (belowDrewN HB.out nq)
      clear HR HB x0 x1 x2
      generalize wr.drewN nq = w2 at *
      have hu := HB2.out.size
      go_wp2_with (at_builtin; go_must (refine wpList_append_at _ rfl (.tmp 12) (.tmp 23) 76 rfl w.heap.size 5 i0 (.int .u8 0) 1 1 Tryd.underlying76 HI.out HZ0.out HZ1.out HZ2.out rfl (by decide) _ (2 * k) _ rfl (HR2.out.alloc _) ⟨w2.heap.size, 0, none⟩ 2 2 [.int .u8 ((dig (c / 16)).toNat : Int), .int .u8 ((dig (c % 16)).toNat : Int)] rfl rfl ?hn ?ho (by decide) (by unfold maxLen; omega) (by omega) (by simp; omega) ?_); (case hn => intro j u hj; match j, hj with | 0, hj => (simp at hj; subst hj; simp [Addr.add]) | 1, hj => (simp at hj; subst hj; simp [Addr.add])); (case ho => intro u hu; simp at hu; rcases hu with rfl | rfl <;> rfl); intro v' w1 hown' hgrow _)
      go_roundw
      case rel =>
        refine ⟨k + 1, by omega, by go_num, ?_, (HB2.out.alloc HB2.out.size _).grown hgrow (by simp; omega) (own_ge HR2.out)⟩
        rw [HP.out]
        have e : vB (hexP (s.data.toList.take k) ++ [dig (c / 16), dig (c % 16)]) = vB (hexP (s.data.toList.take k)) ++ [.int .u8 ((dig (c / 16)).toNat : Int), .int .u8 ((dig (c % 16)).toNat : Int)] := by simp [vB]
        rw [e, show 2 * (k + 1) = 2 * k + 2 by omega]
        exact hown'
      case measure => simp [intOf]; omega
    · obtain rfl : k = s.size := by omega
      obtain ⟨g, cap, rfl, hg1, hg2⟩ := own_slice HR.out (by omega)
      have hcv := convO wr _ HR.out
      have HE := Lib.hid (show (hexP (s.data.toList.take s.size)) = hexL s.data.toList by
        unfold hexL
        rw [if_neg (by intro e; have h2 : s.data.toList.length = 0 := by rw [e]; rfl
                       have h3 : s.data.toList.length = s.size := by simp
                       omega), List.take_of_length_le (by simp)])
      clear hne
      go_wp2
      go_ret
      rw [HE.out]
      exact ⟨rfl, HB.out⟩
end Go.Proofs.YtoahfegeeimomaaDoor.Hex
