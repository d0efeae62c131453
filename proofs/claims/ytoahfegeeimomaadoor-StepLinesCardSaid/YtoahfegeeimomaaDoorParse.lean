/- step.Parse: which step a line is. Conditions: as stated in each theorem. -/
import Derived.Test.YtoahfegeeimomaaDoorLine3
import Derived.Test.YtoahfegeeimomaaDoorSplit
import Derived.Test.YtoahfegeeimomaaDoorTail
import Derived.Deep.Cut
import Derived.Great.BuildSlice
set_option linter.unusedVariables false
set_option linter.unusedSimpArgs false
namespace Go.Proofs.YtoahfegeeimomaaDoor.Parse
open Go.RowKit Base RowD Number TextP LinesPlain Num LoopsPlain Kinds Right Hex Line Line3 RefWords Split
set_option maxRecDepth 100000

/-- a step's cells -/
def stepV (x : St) : Array Value := #[.int .i64 (x.k : Int), .int .i64 x.side, .int .i64 x.n, .int .i64 x.c, .int .i64 x.f, .int .u64 0, .int .u64 (x.t : Int), .string ⟨x.d.toArray⟩]
def stZ : St := ⟨0, 0, 0, 0, 0, 0, []⟩
def okP (l : List UInt8) : Bool := right (progSt (splitSp l)) && decide (lineL (progSt (splitSp l)) = l)
def parseT (l : List UInt8) : Value := if okP l = true then .tuple #[.agg (stepV (progSt (splitSp l))), .int .i64 0] else .tuple #[.agg (stepV stZ), .int .i64 3]
theorem parseT_no {l : List UInt8} {x : St} (hx : progSt (splitSp l) = x) (h : right x = false) : parseT l = .tuple #[.agg (stepV stZ), .int .i64 3] := by
  unfold parseT okP
  rw [hx, h]
  rfl
theorem parseT_ne {l : List UInt8} {x : St} (hx : progSt (splitSp l) = x) (h : ¬ lineL x = l) : parseT l = .tuple #[.agg (stepV stZ), .int .i64 3] := by
  unfold parseT okP
  rw [hx, decide_eq_false h, Bool.and_false]
  rfl
theorem parseT_yes {l : List UInt8} {x : St} (hx : progSt (splitSp l) = x) (h : right x = true) (h2 : lineL x = l) : parseT l = .tuple #[.agg (stepV x), .int .i64 0] := by
  unfold parseT okP
  rw [hx, h, decide_eq_true h2]
  rfl
/-- what the loop over the kinds keeps -/
structure In (w wr : World) (X g : Nat) (ws : List ByteArray) (x : St) : Prop where
  res : Row wr w.heap.size (stepV stZ) 40
  row : Row wr X (stepV x) 40
  strs : Strs wr g ws
  below : Below w.heap.size w wr
  ne : w.heap.size < X
  ng : g ≠ X
theorem In.drewN {w wr : World} {X g : Nat} {ws : List ByteArray} {x : St} (h : In w wr X g ws x) (n : Nat) : In w (wr.drewN n) X g ws x :=
  ⟨h.res.drewN n, h.row.drewN n, h.strs.below (belowDrewN (Below.refl _ _) n), belowDrewN h.below n, h.ne, h.ng⟩
theorem In.to {w wr w2 : World} {X g : Nat} {ws : List ByteArray} {x : St} (h : In w wr X g ws x) (hb : Below wr.heap.size wr w2) : In w w2 X g ws x :=
  ⟨h.res.below hb, h.row.below hb, h.strs.below hb, bel h.below hb h.below.size, h.ne, h.ng⟩
theorem Strs.set {w : World} {g X : Nat} {ws : List ByteArray} (h : Strs w g ws) (hn : g ≠ X) (i : Nat) (u : Value) : Strs (w.setCell ⟨X, i, none⟩ u) g ws :=
  ⟨fun j hj => (World.cell?_of_block (w := w) (a := ⟨g, j, none⟩) (Below.heap_setCell _ _ _ _ hn)).trans (h.cell j hj), h.size⟩
theorem In.set {w wr : World} {X g : Nat} {ws : List ByteArray} {x : St} (h : In w wr X g ws x) (i : Nat) (u : Value) (y : St) (hy : (stepV x).setIfInBounds i u = stepV y) : In w (wr.setCell ⟨X, i, none⟩ u) X g ws y :=
  ⟨h.res.setOther (by have := h.ne; omega) _ _, hy ▸ h.row.set i u, Strs.set h.strs h.ng i u, belowSet h.below (by have := h.ne; omega) _ _, h.ne, h.ng⟩
theorem results_row_tmp {P : Program} {fn : Func} {p u : Tmp} {ty : TypeId} (h : fn.results = #[.cell p ty, .tmp u]) (tmps : Array Value) (w : World) (g : Nat) (t : TypeId) (cs : Array Value) (fr : Nat × Nat) (d : TypeDesc)
    (hp : tmps.getD p undef = .pointer (some ⟨g, 0, none⟩)) (hg : w.heap[g]? = some (.cells cs t fr))
    (hu : P.underlying ty = some d) (hd : (match d with | .struct _ | .array _ _ => true | _ => false) = true) (hi : (P.info? ty).map (·.size) = some cs.size) :
    (results fn tmps).run P w = .ok (.tuple #[.agg cs, tmps.getD u undef]) w := by
  have hp' : tmps[p]?.getD undef = .pointer (some ⟨g, 0, none⟩) := by simpa using hp
  simp [results, h, hp', asAddr, run_loadVar_row w g t ty cs fr d hg hu hd hi]
def progK (k : Nat) (w : List (List UInt8)) : St :=
  match k with
  | 1 => ⟨1, 0, numAt w 1, 0, 0, 0, []⟩
  | 2 => ⟨2, numAt w 1, 0, 0, 0, 0, []⟩
  | 3 => if w.length = 5 then ⟨3, 0, 0, numAt w 1, numAt w 2, puV (w.getD 3 []), unhexL (w.getD 4 [])⟩ else ⟨3, 0, 0, 0, 0, 0, []⟩
  | 4 => ⟨4, numAt w 1, 0, 0, 0, 0, []⟩
  | 5 => ⟨5, 0, numAt w 1, 0, 0, 0, []⟩
  | 6 => ⟨6, numAt w 1, numAt w 2, 0, 0, 0, []⟩
  | k => ⟨k, 0, 0, 0, 0, 0, []⟩
theorem progSt_K (ws : List ByteArray) (w0 : ByteArray) (rs : List ByteArray) (h : ws = w0 :: rs) (l : List UInt8) (hl : lists ws = splitSp l) : progSt (splitSp l) = progK (kindUp w0.data.toList 8) (lists ws) := by
  rw [← hl, h]
  rfl
theorem size40 (x : St) : (Tryd.prog.info? 40).map (·.size) = some (stepV x).size := by kernel_rfl
theorem one40 (x : St) : (stepV x).all (·.oneCell') = true := by simp [stepV, Value.oneCell']
theorem built40 : Tryd.prog.built 40 [] = some (stepV stZ) := by kernel_rfl
theorem old40 (x y : St) : (stepV x).size = (stepV y).size := rfl
theorem kind_le (l : List UInt8) (m : Nat) : kindUp l m ≤ m := by
  rcases kindUp_is l m with h | ⟨h, _⟩
  · omega
  · exact h
theorem L0_no (h : right ⟨0, 0, 0, 0, 0, 0, []⟩ = false) (w : World) : Calls Tryd.prog 15 #[.agg (stepV ⟨0, 0, 0, 0, 0, 0, []⟩)] w fun e w' => e = .returned (.tuple #[.string ⟨#[]⟩, .int .i64 1]) ∧ Below w.heap.size w w' := line0_no h w
theorem L1_no (n : Int) (h : right ⟨1, 0, n, 0, 0, 0, []⟩ = false) (w : World) : Calls Tryd.prog 15 #[.agg (stepV ⟨1, 0, n, 0, 0, 0, []⟩)] w fun e w' => e = .returned (.tuple #[.string ⟨#[]⟩, .int .i64 1]) ∧ Below w.heap.size w w' := line1_no n h w
theorem L1_yes (n : Int) (h : right ⟨1, 0, n, 0, 0, 0, []⟩ = true) (w : World) (hv : Vars w) : Calls Tryd.prog 15 #[.agg (stepV ⟨1, 0, n, 0, 0, 0, []⟩)] w fun e w' => e = .returned (.tuple #[.string (lineB ⟨1, 0, n, 0, 0, 0, []⟩), .int .i64 0]) ∧ Below w.heap.size w w' := line1_yes n h w hv
theorem L2_no (side : Int) (h : right ⟨2, side, 0, 0, 0, 0, []⟩ = false) (w : World) : Calls Tryd.prog 15 #[.agg (stepV ⟨2, side, 0, 0, 0, 0, []⟩)] w fun e w' => e = .returned (.tuple #[.string ⟨#[]⟩, .int .i64 1]) ∧ Below w.heap.size w w' := line2_no side h w
theorem L2_yes (side : Int) (h : right ⟨2, side, 0, 0, 0, 0, []⟩ = true) (w : World) (hv : Vars w) : Calls Tryd.prog 15 #[.agg (stepV ⟨2, side, 0, 0, 0, 0, []⟩)] w fun e w' => e = .returned (.tuple #[.string (lineB ⟨2, side, 0, 0, 0, 0, []⟩), .int .i64 0]) ∧ Below w.heap.size w w' := line2_yes side h w hv
theorem L4_no (side : Int) (h : right ⟨4, side, 0, 0, 0, 0, []⟩ = false) (w : World) : Calls Tryd.prog 15 #[.agg (stepV ⟨4, side, 0, 0, 0, 0, []⟩)] w fun e w' => e = .returned (.tuple #[.string ⟨#[]⟩, .int .i64 1]) ∧ Below w.heap.size w w' := line4_no side h w
theorem L4_yes (side : Int) (h : right ⟨4, side, 0, 0, 0, 0, []⟩ = true) (w : World) (hv : Vars w) : Calls Tryd.prog 15 #[.agg (stepV ⟨4, side, 0, 0, 0, 0, []⟩)] w fun e w' => e = .returned (.tuple #[.string (lineB ⟨4, side, 0, 0, 0, 0, []⟩), .int .i64 0]) ∧ Below w.heap.size w w' := line4_yes side h w hv
theorem L5_no (n : Int) (h : right ⟨5, 0, n, 0, 0, 0, []⟩ = false) (w : World) : Calls Tryd.prog 15 #[.agg (stepV ⟨5, 0, n, 0, 0, 0, []⟩)] w fun e w' => e = .returned (.tuple #[.string ⟨#[]⟩, .int .i64 1]) ∧ Below w.heap.size w w' := line5_no n h w
theorem L5_yes (n : Int) (h : right ⟨5, 0, n, 0, 0, 0, []⟩ = true) (w : World) (hv : Vars w) : Calls Tryd.prog 15 #[.agg (stepV ⟨5, 0, n, 0, 0, 0, []⟩)] w fun e w' => e = .returned (.tuple #[.string (lineB ⟨5, 0, n, 0, 0, 0, []⟩), .int .i64 0]) ∧ Below w.heap.size w w' := line5_yes n h w hv
theorem L6_no (side n : Int) (h : right ⟨6, side, n, 0, 0, 0, []⟩ = false) (w : World) : Calls Tryd.prog 15 #[.agg (stepV ⟨6, side, n, 0, 0, 0, []⟩)] w fun e w' => e = .returned (.tuple #[.string ⟨#[]⟩, .int .i64 1]) ∧ Below w.heap.size w w' := line6_no side n h w
theorem L6_yes (side n : Int) (h : right ⟨6, side, n, 0, 0, 0, []⟩ = true) (w : World) (hv : Vars w) : Calls Tryd.prog 15 #[.agg (stepV ⟨6, side, n, 0, 0, 0, []⟩)] w fun e w' => e = .returned (.tuple #[.string (lineB ⟨6, side, n, 0, 0, 0, []⟩), .int .i64 0]) ∧ Below w.heap.size w w' := line6_yes side n h w hv
theorem L7_no (h : right ⟨7, 0, 0, 0, 0, 0, []⟩ = false) (w : World) : Calls Tryd.prog 15 #[.agg (stepV ⟨7, 0, 0, 0, 0, 0, []⟩)] w fun e w' => e = .returned (.tuple #[.string ⟨#[]⟩, .int .i64 1]) ∧ Below w.heap.size w w' := line7_no h w
theorem L7_yes (h : right ⟨7, 0, 0, 0, 0, 0, []⟩ = true) (w : World) (hv : Vars w) : Calls Tryd.prog 15 #[.agg (stepV ⟨7, 0, 0, 0, 0, 0, []⟩)] w fun e w' => e = .returned (.tuple #[.string (lineB ⟨7, 0, 0, 0, 0, 0, []⟩), .int .i64 0]) ∧ Below w.heap.size w w' := line7_yes h w hv
theorem L8_no (h : right ⟨8, 0, 0, 0, 0, 0, []⟩ = false) (w : World) : Calls Tryd.prog 15 #[.agg (stepV ⟨8, 0, 0, 0, 0, 0, []⟩)] w fun e w' => e = .returned (.tuple #[.string ⟨#[]⟩, .int .i64 1]) ∧ Below w.heap.size w w' := line8_no h w
theorem L8_yes (h : right ⟨8, 0, 0, 0, 0, 0, []⟩ = true) (w : World) (hv : Vars w) : Calls Tryd.prog 15 #[.agg (stepV ⟨8, 0, 0, 0, 0, 0, []⟩)] w fun e w' => e = .returned (.tuple #[.string (lineB ⟨8, 0, 0, 0, 0, 0, []⟩), .int .i64 0]) ∧ Below w.heap.size w w' := line8_yes h w hv
theorem L3_no (c f : Int) (t : Nat) (d : List UInt8) (h : right ⟨3, 0, 0, c, f, t, d⟩ = false) (w : World) : Calls Tryd.prog 15 #[.agg (stepV ⟨3, 0, 0, c, f, t, d⟩)] w fun e w' => e = .returned (.tuple #[.string ⟨#[]⟩, .int .i64 1]) ∧ Below w.heap.size w w' := line3_no c f t ⟨d.toArray⟩ h w
theorem L3_yes (c f : Int) (t : Nat) (ht : t < 18446744073709551616) (d : List UInt8) (h : right ⟨3, 0, 0, c, f, t, d⟩ = true) (w : World) (hv : Vars w) : Calls Tryd.prog 15 #[.agg (stepV ⟨3, 0, 0, c, f, t, d⟩)] w fun e w' => e = .returned (.tuple #[.string (lineB ⟨3, 0, 0, c, f, t, d⟩), .int .i64 0]) ∧ Below w.heap.size w w' := line3_yes c f t ht ⟨d.toArray⟩ h w hv
theorem word_eq (l : List UInt8) (s : ByteArray) (h : l = s.data.toList) : (l == s.toList) = true := by
  rw [ByteArray.toList_eq, beq_iff_eq]; exact h
theorem word_ne (l : List UInt8) (s : ByteArray) (h : ¬ l = s.data.toList) : (l == s.toList) = false := by
  rw [ByteArray.toList_eq, beq_eq_false_iff_ne]; exact h

theorem s_of {w w' : World} {X g : Nat} {ws : List ByteArray} {w4 : ByteArray} (c4 : ∀ w3, Strs w3 g ws → w3.cell? ⟨g, 4, none⟩ = some (.string w4)) (h : In w w' X g ws ⟨3, 0, 0, 0, 0, 0, []⟩) :
    In w w' X g ws ⟨3, 0, 0, 0, 0, 0, []⟩ ∧ w'.cell? ⟨g, 4, none⟩ = some (.string w4) ∧ w'.cell? ⟨X, 3, none⟩ = some (.int .i64 0) ∧ w'.cell? ⟨X, 4, none⟩ = some (.int .i64 0) ∧ w'.cell? ⟨X, 5, none⟩ = some (.int .u64 0) ∧ w'.cell? ⟨X, 6, none⟩ = some (.int .u64 0) ∧ w'.cell? ⟨X, 7, none⟩ = some (.string ⟨#[]⟩) ∧ w'.frozen? ⟨X, 3, none⟩ = false ∧ w'.frozen? ⟨X, 4, none⟩ = false ∧ w'.frozen? ⟨X, 5, none⟩ = false ∧ w'.frozen? ⟨X, 6, none⟩ = false ∧ w'.frozen? ⟨X, 7, none⟩ = false :=
  ⟨h, c4 _ h.strs, h.row.cell 3 rfl, h.row.cell 4 rfl, h.row.cell 5 rfl, h.row.cell 6 rfl, h.row.cell 7 rfl, h.row.free 3, h.row.free 4, h.row.free 5, h.row.free 6, h.row.free 7⟩
set_option maxHeartbeats 8000000 in
theorem parse (s : ByteArray) (hm : s.size ≤ 300) (w : World) (hsh : w.ShapedOpen Tryd.prog) (hv : Vars w) : Calls Tryd.prog 13 #[.string s] w fun e w' => e = .returned (parseT s.data.toList) ∧ Below w.heap.size w w' := by
  have HSH := Lib.hid (hsh.keptBut (((Below.refl w.heap.size w).alloc (Nat.le_refl _) (.cells (stepV stZ) 40)).frame (fun _ => False)) (fun _ h => h.elim))
  have HV := Lib.hid (fun w' (hb : Below w.heap.size w w') => hv.below hb)
  have RR := Lib.hid (Row.new w (stepV stZ) 40)
  have HB := Lib.hid ((Below.refl w.heap.size w).alloc (Nat.le_refl _) (.cells (stepV stZ) 40))
  clear hsh hv
  go_enter Tryd.func13, Tryd.ntmps13
  go_wp2_with fail
  refine (split s (by omega) _ HSH.out).mono ?_
  rintro e w1 ⟨g, cap, ws, rfl, hst, hws, hb1, hg1⟩
  have hgs : g < w1.heap.size := by
    cases hws0 : ws with
    | nil => rw [hws0] at hws; exact absurd hws.symm (splitSp_ne _)
    | cons a r => exact World.block_lt_of_cell? w1 _ (hst.cell 0 (by rw [hws0]; simp))
  have hI : In w (w1.alloc (.cells (stepV stZ) 40)) w1.heap.size g ws stZ :=
    ⟨(RR.out.below hb1).alloc _, Row.new w1 _ _, hst.below ((Below.refl _ _).alloc (Nat.le_refl _) _), (bel HB.out hb1 HB.out.size).alloc (bel HB.out hb1 HB.out.size).size _, by have := hb1.size; simp at this; omega, by omega⟩
  have hX : w1.heap.size < (w1.alloc (.cells (stepV stZ) 40)).heap.size := by simp
  have HI := Lib.hid hI
  have HW := Lib.hid hws
  clear hst hb1 hI hws RR HB hg1 hgs
  go_wp2
  obtain ⟨w0, rs, hws0⟩ : ∃ a r, ws = a :: r := by
    cases hws0 : ws with
    | nil => have := HW.out; rw [hws0] at this; exact absurd this.symm (splitSp_ne _)
    | cons a r => exact ⟨a, r, rfl⟩
  have HW0 := Lib.hid hws0
  clear hws0
  generalize w1.heap.size = X at *
  go_loopw [6] (fun i wr => ∃ k : Nat, 1 ≤ k ∧ k ≤ 9 ∧ i = .int .i64 (k : Int) ∧ In w wr X g ws ⟨kindUp w0.data.toList (k - 1), 0, 0, 0, 0, 0, []⟩) (fun i _ => 10 - (intOf i).toNat)
  case atStart => exact ⟨1, by omega, by omega, rfl, HI.out⟩
  case round =>
    obtain ⟨k, hk1, hk9, rfl, hin⟩ := hrel
    have HN := Lib.hid hin
    clear hin HI hX
    by_cases hlt : k ≤ 8
    · have c0 : wr.cell? ⟨g, 0, none⟩ = some (.string w0) := by
        have := HN.out.strs.cell 0 (by rw [HW0.out]; simp)
        rw [this]
        simp [HW0.out]
      have hlen : (0 : Int) < (ws.length : Int) := by rw [HW0.out]; simp
      have HK := Lib.hid (show kindUp w0.data.toList k = if wordL k = w0.data.toList then k else kindUp w0.data.toList (k - 1) by
        rw [show kindUp w0.data.toList k = kindUp w0.data.toList ((k - 1) + 1) by rw [show k - 1 + 1 = k by omega], kindUp, show k - 1 + 1 = k by omega])
      generalize kindUp w0.data.toList (k - 1) = k0 at *
      obtain rfl | rfl | rfl | rfl | rfl | rfl | rfl | rfl : k = 1 ∨ k = 2 ∨ k = 3 ∨ k = 4 ∨ k = 5 ∨ k = 6 ∨ k = 7 ∨ k = 8 := by omega

      · have f0 := HN.out.row.free 0
        have cx := HN.out.row.cell 0 (v := .int .i64 (k0 : Int)) rfl
        by_cases hq : [112, 105, 99, 107] = w0.data.toList
        · have q1 := word_eq _ _ hq
          have HK2 := Lib.hid (HK.out.trans (if_pos hq))
          clear hq
          rw [show ((1 : Nat) : Int) = 1 from rfl]
          go_wp2
          go_quiet ((go_at_call 29; exact Calls.quiet_of_same (word1 _)))
          have HN2 := Lib.hid (HN.out.drewN nq)
          clear HN c0 f0 cx
          generalize wr.drewN nq = w2 at *
          have f0 := HN2.out.row.free 0
          have cx := HN2.out.row.cell 0 (v := .int .i64 (k0 : Int)) rfl
          go_wp2
          go_roundw
          case rel => exact ⟨2, by omega, by omega, by go_num, by rw [show 2 - 1 = 1 from rfl, HK2.out]; exact HN2.out.set 0 _ _ rfl⟩
          case measure => simp [intOf]
        · have q1 := word_ne _ _ hq
          have HK2 := Lib.hid (HK.out.trans (if_neg hq))
          clear hq
          rw [show ((1 : Nat) : Int) = 1 from rfl]
          go_wp2
          go_quiet ((go_at_call 29; exact Calls.quiet_of_same (word1 _)))
          have HN2 := Lib.hid (HN.out.drewN nq)
          clear HN c0 f0 cx
          generalize wr.drewN nq = w2 at *
          have f0 := HN2.out.row.free 0
          have cx := HN2.out.row.cell 0 (v := .int .i64 (k0 : Int)) rfl
          go_wp2
          go_roundw
          case rel => exact ⟨2, by omega, by omega, by go_num, by rw [show 2 - 1 = 1 from rfl, HK2.out]; exact HN2.out⟩
          case measure => simp [intOf]
      · have f0 := HN.out.row.free 0
        have cx := HN.out.row.cell 0 (v := .int .i64 (k0 : Int)) rfl
        by_cases hq : [116, 105, 99, 107] = w0.data.toList
        · have q1 := word_eq _ _ hq
          have HK2 := Lib.hid (HK.out.trans (if_pos hq))
          clear hq
          rw [show ((2 : Nat) : Int) = 2 from rfl]
          go_wp2
          go_quiet ((go_at_call 29; exact Calls.quiet_of_same (word2 _)))
          have HN2 := Lib.hid (HN.out.drewN nq)
          clear HN c0 f0 cx
          generalize wr.drewN nq = w2 at *
          have f0 := HN2.out.row.free 0
          have cx := HN2.out.row.cell 0 (v := .int .i64 (k0 : Int)) rfl
          go_wp2
          go_roundw
          case rel => exact ⟨3, by omega, by omega, by go_num, by rw [show 3 - 1 = 2 from rfl, HK2.out]; exact HN2.out.set 0 _ _ rfl⟩
          case measure => simp [intOf]
        · have q1 := word_ne _ _ hq
          have HK2 := Lib.hid (HK.out.trans (if_neg hq))
          clear hq
          rw [show ((2 : Nat) : Int) = 2 from rfl]
          go_wp2
          go_quiet ((go_at_call 29; exact Calls.quiet_of_same (word2 _)))
          have HN2 := Lib.hid (HN.out.drewN nq)
          clear HN c0 f0 cx
          generalize wr.drewN nq = w2 at *
          have f0 := HN2.out.row.free 0
          have cx := HN2.out.row.cell 0 (v := .int .i64 (k0 : Int)) rfl
          go_wp2
          go_roundw
          case rel => exact ⟨3, by omega, by omega, by go_num, by rw [show 3 - 1 = 2 from rfl, HK2.out]; exact HN2.out⟩
          case measure => simp [intOf]
      · have f0 := HN.out.row.free 0
        have cx := HN.out.row.cell 0 (v := .int .i64 (k0 : Int)) rfl
        by_cases hq : [115, 101, 110, 100] = w0.data.toList
        · have q1 := word_eq _ _ hq
          have HK2 := Lib.hid (HK.out.trans (if_pos hq))
          clear hq
          rw [show ((3 : Nat) : Int) = 3 from rfl]
          go_wp2
          go_quiet ((go_at_call 29; exact Calls.quiet_of_same (word3 _)))
          have HN2 := Lib.hid (HN.out.drewN nq)
          clear HN c0 f0 cx
          generalize wr.drewN nq = w2 at *
          have f0 := HN2.out.row.free 0
          have cx := HN2.out.row.cell 0 (v := .int .i64 (k0 : Int)) rfl
          go_wp2
          go_roundw
          case rel => exact ⟨4, by omega, by omega, by go_num, by rw [show 4 - 1 = 3 from rfl, HK2.out]; exact HN2.out.set 0 _ _ rfl⟩
          case measure => simp [intOf]
        · have q1 := word_ne _ _ hq
          have HK2 := Lib.hid (HK.out.trans (if_neg hq))
          clear hq
          rw [show ((3 : Nat) : Int) = 3 from rfl]
          go_wp2
          go_quiet ((go_at_call 29; exact Calls.quiet_of_same (word3 _)))
          have HN2 := Lib.hid (HN.out.drewN nq)
          clear HN c0 f0 cx
          generalize wr.drewN nq = w2 at *
          have f0 := HN2.out.row.free 0
          have cx := HN2.out.row.cell 0 (v := .int .i64 (k0 : Int)) rfl
          go_wp2
          go_roundw
          case rel => exact ⟨4, by omega, by omega, by go_num, by rw [show 4 - 1 = 3 from rfl, HK2.out]; exact HN2.out⟩
          case measure => simp [intOf]
      · have f0 := HN.out.row.free 0
        have cx := HN.out.row.cell 0 (v := .int .i64 (k0 : Int)) rfl
        by_cases hq : [114, 101, 106, 101, 99, 116] = w0.data.toList
        · have q1 := word_eq _ _ hq
          have HK2 := Lib.hid (HK.out.trans (if_pos hq))
          clear hq
          rw [show ((4 : Nat) : Int) = 4 from rfl]
          go_wp2
          go_quiet ((go_at_call 29; exact Calls.quiet_of_same (word4 _)))
          have HN2 := Lib.hid (HN.out.drewN nq)
          clear HN c0 f0 cx
          generalize wr.drewN nq = w2 at *
          have f0 := HN2.out.row.free 0
          have cx := HN2.out.row.cell 0 (v := .int .i64 (k0 : Int)) rfl
          go_wp2
          go_roundw
          case rel => exact ⟨5, by omega, by omega, by go_num, by rw [show 5 - 1 = 4 from rfl, HK2.out]; exact HN2.out.set 0 _ _ rfl⟩
          case measure => simp [intOf]
        · have q1 := word_ne _ _ hq
          have HK2 := Lib.hid (HK.out.trans (if_neg hq))
          clear hq
          rw [show ((4 : Nat) : Int) = 4 from rfl]
          go_wp2
          go_quiet ((go_at_call 29; exact Calls.quiet_of_same (word4 _)))
          have HN2 := Lib.hid (HN.out.drewN nq)
          clear HN c0 f0 cx
          generalize wr.drewN nq = w2 at *
          have f0 := HN2.out.row.free 0
          have cx := HN2.out.row.cell 0 (v := .int .i64 (k0 : Int)) rfl
          go_wp2
          go_roundw
          case rel => exact ⟨5, by omega, by omega, by go_num, by rw [show 5 - 1 = 4 from rfl, HK2.out]; exact HN2.out⟩
          case measure => simp [intOf]
      · have f0 := HN.out.row.free 0
        have cx := HN.out.row.cell 0 (v := .int .i64 (k0 : Int)) rfl
        by_cases hq : [99, 114, 97, 115, 104] = w0.data.toList
        · have q1 := word_eq _ _ hq
          have HK2 := Lib.hid (HK.out.trans (if_pos hq))
          clear hq
          rw [show ((5 : Nat) : Int) = 5 from rfl]
          go_wp2
          go_quiet ((go_at_call 29; exact Calls.quiet_of_same (word5 _)))
          have HN2 := Lib.hid (HN.out.drewN nq)
          clear HN c0 f0 cx
          generalize wr.drewN nq = w2 at *
          have f0 := HN2.out.row.free 0
          have cx := HN2.out.row.cell 0 (v := .int .i64 (k0 : Int)) rfl
          go_wp2
          go_roundw
          case rel => exact ⟨6, by omega, by omega, by go_num, by rw [show 6 - 1 = 5 from rfl, HK2.out]; exact HN2.out.set 0 _ _ rfl⟩
          case measure => simp [intOf]
        · have q1 := word_ne _ _ hq
          have HK2 := Lib.hid (HK.out.trans (if_neg hq))
          clear hq
          rw [show ((5 : Nat) : Int) = 5 from rfl]
          go_wp2
          go_quiet ((go_at_call 29; exact Calls.quiet_of_same (word5 _)))
          have HN2 := Lib.hid (HN.out.drewN nq)
          clear HN c0 f0 cx
          generalize wr.drewN nq = w2 at *
          have f0 := HN2.out.row.free 0
          have cx := HN2.out.row.cell 0 (v := .int .i64 (k0 : Int)) rfl
          go_wp2
          go_roundw
          case rel => exact ⟨6, by omega, by omega, by go_num, by rw [show 6 - 1 = 5 from rfl, HK2.out]; exact HN2.out⟩
          case measure => simp [intOf]
      · have f0 := HN.out.row.free 0
        have cx := HN.out.row.cell 0 (v := .int .i64 (k0 : Int)) rfl
        by_cases hq : [102, 111, 114, 101, 105, 103, 110] = w0.data.toList
        · have q1 := word_eq _ _ hq
          have HK2 := Lib.hid (HK.out.trans (if_pos hq))
          clear hq
          rw [show ((6 : Nat) : Int) = 6 from rfl]
          go_wp2
          go_quiet ((go_at_call 29; exact Calls.quiet_of_same (word6 _)))
          have HN2 := Lib.hid (HN.out.drewN nq)
          clear HN c0 f0 cx
          generalize wr.drewN nq = w2 at *
          have f0 := HN2.out.row.free 0
          have cx := HN2.out.row.cell 0 (v := .int .i64 (k0 : Int)) rfl
          go_wp2
          go_roundw
          case rel => exact ⟨7, by omega, by omega, by go_num, by rw [show 7 - 1 = 6 from rfl, HK2.out]; exact HN2.out.set 0 _ _ rfl⟩
          case measure => simp [intOf]
        · have q1 := word_ne _ _ hq
          have HK2 := Lib.hid (HK.out.trans (if_neg hq))
          clear hq
          rw [show ((6 : Nat) : Int) = 6 from rfl]
          go_wp2
          go_quiet ((go_at_call 29; exact Calls.quiet_of_same (word6 _)))
          have HN2 := Lib.hid (HN.out.drewN nq)
          clear HN c0 f0 cx
          generalize wr.drewN nq = w2 at *
          have f0 := HN2.out.row.free 0
          have cx := HN2.out.row.cell 0 (v := .int .i64 (k0 : Int)) rfl
          go_wp2
          go_roundw
          case rel => exact ⟨7, by omega, by omega, by go_num, by rw [show 7 - 1 = 6 from rfl, HK2.out]; exact HN2.out⟩
          case measure => simp [intOf]
      · have f0 := HN.out.row.free 0
        have cx := HN.out.row.cell 0 (v := .int .i64 (k0 : Int)) rfl
        by_cases hq : [115, 116, 111, 112] = w0.data.toList
        · have q1 := word_eq _ _ hq
          have HK2 := Lib.hid (HK.out.trans (if_pos hq))
          clear hq
          rw [show ((7 : Nat) : Int) = 7 from rfl]
          go_wp2
          go_quiet ((go_at_call 29; exact Calls.quiet_of_same (word7 _)))
          have HN2 := Lib.hid (HN.out.drewN nq)
          clear HN c0 f0 cx
          generalize wr.drewN nq = w2 at *
          have f0 := HN2.out.row.free 0
          have cx := HN2.out.row.cell 0 (v := .int .i64 (k0 : Int)) rfl
          go_wp2
          go_roundw
          case rel => exact ⟨8, by omega, by omega, by go_num, by rw [show 8 - 1 = 7 from rfl, HK2.out]; exact HN2.out.set 0 _ _ rfl⟩
          case measure => simp [intOf]
        · have q1 := word_ne _ _ hq
          have HK2 := Lib.hid (HK.out.trans (if_neg hq))
          clear hq
          rw [show ((7 : Nat) : Int) = 7 from rfl]
          go_wp2
          go_quiet ((go_at_call 29; exact Calls.quiet_of_same (word7 _)))
          have HN2 := Lib.hid (HN.out.drewN nq)
          clear HN c0 f0 cx
          generalize wr.drewN nq = w2 at *
          have f0 := HN2.out.row.free 0
          have cx := HN2.out.row.cell 0 (v := .int .i64 (k0 : Int)) rfl
          go_wp2
          go_roundw
          case rel => exact ⟨8, by omega, by omega, by go_num, by rw [show 8 - 1 = 7 from rfl, HK2.out]; exact HN2.out⟩
          case measure => simp [intOf]
      · have f0 := HN.out.row.free 0
        have cx := HN.out.row.cell 0 (v := .int .i64 (k0 : Int)) rfl
        by_cases hq : [115, 116, 97, 114, 116] = w0.data.toList
        · have q1 := word_eq _ _ hq
          have HK2 := Lib.hid (HK.out.trans (if_pos hq))
          clear hq
          rw [show ((8 : Nat) : Int) = 8 from rfl]
          go_wp2
          go_quiet ((go_at_call 29; exact Calls.quiet_of_same (word8 _)))
          have HN2 := Lib.hid (HN.out.drewN nq)
          clear HN c0 f0 cx
          generalize wr.drewN nq = w2 at *
          have f0 := HN2.out.row.free 0
          have cx := HN2.out.row.cell 0 (v := .int .i64 (k0 : Int)) rfl
          go_wp2
          go_roundw
          case rel => exact ⟨9, by omega, by omega, by go_num, by rw [show 9 - 1 = 8 from rfl, HK2.out]; exact HN2.out.set 0 _ _ rfl⟩
          case measure => simp [intOf]
        · have q1 := word_ne _ _ hq
          have HK2 := Lib.hid (HK.out.trans (if_neg hq))
          clear hq
          rw [show ((8 : Nat) : Int) = 8 from rfl]
          go_wp2
          go_quiet ((go_at_call 29; exact Calls.quiet_of_same (word8 _)))
          have HN2 := Lib.hid (HN.out.drewN nq)
          clear HN c0 f0 cx
          generalize wr.drewN nq = w2 at *
          have f0 := HN2.out.row.free 0
          have cx := HN2.out.row.cell 0 (v := .int .i64 (k0 : Int)) rfl
          go_wp2
          go_roundw
          case rel => exact ⟨9, by omega, by omega, by go_num, by rw [show 9 - 1 = 8 from rfl, HK2.out]; exact HN2.out⟩
          case measure => simp [intOf]
    · obtain rfl : k = 9 := by omega
      have hlw : ws.length ≤ 301 := by
        have h1 := split_len s.data.toList
        rw [← HW.out] at h1
        simp [lists] at h1
        omega
      have hK8 := kind_le w0.data.toList 8
      have HPK := Lib.hid (progSt_K ws w0 rs HW0.out s.data.toList HW.out)
      rw [show 9 - 1 = 8 from rfl] at HN
      generalize kindUp w0.data.toList 8 = K at *
      clear hlt hk1 hk9
      obtain rfl | rfl | rfl | rfl | rfl | rfl | rfl | rfl | rfl : K = 0 ∨ K = 1 ∨ K = 2 ∨ K = 3 ∨ K = 4 ∨ K = 5 ∨ K = 6 ∨ K = 7 ∨ K = 8 := by omega

      · have hp : progSt (splitSp s.data.toList) = ⟨0, 0, 0, 0, 0, 0, []⟩ := HPK.out
        have HP := Lib.hid hp
        clear hp HPK
        have cx := HN.out.row.cell 0 (v := .int .i64 0) rfl
        have hk16 := HN.out.row.lt
        have qb1 := bits01
        have qb2 := bits02
        have qb4 := bits04
        go_wp2_with (first | (go_at_call 30; refine (has0 _).mono ?_; rintro e w1 ⟨rfl, rfl⟩) | (refine wpList_load_row rfl 40 (.tmp 5) rfl X rfl 40 _ (0, 0) _ HN.out.row.is Tryd.underlying40 rfl (size40 _) ?_) | (go_at_call 15; refine (L0_no rfl _).mono ?_; rintro e w9 ⟨rfl, hb9⟩; have HN9 := Lib.hid (HN.out.to hb9); clear hb9) | (refine wpList_buildTo rfl 40 #[] rfl (some 87) rfl (stepV stZ) (by simpa using built40) ?_) | (refine wpList_store_rowTo rfl 40 (.tmp 2) (.tmp 87) rfl rfl w.heap.size (stepV stZ) rfl rfl 40 (stepV stZ) HN9.out.res.is (size40 _) (old40 _ _) (one40 _) ?_) | (refine wpList_load_row rfl 40 (.tmp 5) rfl X rfl 40 _ (0, 0) _ HN9.out.row.is Tryd.underlying40 rfl (size40 _) ?_) | (refine wpList_store_rowTo rfl 40 (.tmp 2) (.tmp 88) rfl rfl w.heap.size (stepV ⟨0, 0, 0, 0, 0, 0, []⟩) rfl rfl 40 (stepV stZ) HN9.out.res.is (size40 _) (old40 _ _) (one40 _) ?_))
        refine bodyPost_ret (v := .tuple #[.agg (stepV stZ), .int .i64 3]) (results_row_tmp Tryd.results13 _ _ w.heap.size 40 _ (0, 0) _ rfl (HN9.out.res.row (ys := stepV stZ)).is Tryd.underlying40 rfl (size40 _)) rfl ⟨?_, belowRow HN9.out.below (Nat.le_refl _) _⟩
        rw [parseT_no HP.out rfl]
      · have hp : progSt (splitSp s.data.toList) = ⟨1, 0, numAt (lists ws) 1, 0, 0, 0, []⟩ := HPK.out
        have HP := Lib.hid hp
        clear hp HPK
        have cx := HN.out.row.cell 0 (v := .int .i64 1) rfl
        have hk16 := HN.out.row.lt
        have qb1 := bits21
        have qb2 := bits22
        have qb4 := bits24
        have N1 := Lib.hid (show ∀ w3, Vars w3 → Strs w3 g ws → Calls Tryd.prog 31 #[.slice (some ⟨g, 0, none⟩) ws.length cap, .int .i64 1] w3 fun e w' => e = .returned (.int .i64 (numAt (lists ws) 1)) ∧ Below w3.heap.size w3 w' from fun w3 hv3 hs3 => number g cap ws 1 (by omega) (by omega) w3 hv3 hs3)
        obtain ⟨z1, hz1⟩ : ∃ z, z = numAt (lists ws) 1 := ⟨_, rfl⟩
        rw [← hz1] at N1 HP
        clear hz1
        cases hr : right ⟨1, 0, z1, 0, 0, 0, []⟩
        · have HR := Lib.hid hr
          have LN := Lib.hid (fun w3 => L1_no z1 hr w3)
          clear hr
          go_wp2_with (first | (go_at_call 30; refine (has1 _).mono ?_; rintro e w1 ⟨rfl, rfl⟩) | (go_at_call 31; ((with_reducible refine (N1.out _ (HV.out _ HN.out.below) HN.out.strs).mono ?_); rintro e v1 ⟨rfl, hb1⟩; have HM1 := Lib.hid (HN.out.to hb1); have HN1 := Lib.hid (HM1.out.set 2 (.int .i64 z1) ⟨1, 0, z1, 0, 0, 0, []⟩ rfl); have cs1 := HM1.out.row.cell 2 (v := .int .i64 0) rfl; have fs1 := HM1.out.row.free 2; clear hb1 cx)) | (refine wpList_load_row rfl 40 (.tmp 5) rfl X rfl 40 _ (0, 0) _ HN1.out.row.is Tryd.underlying40 rfl (size40 _) ?_) | (go_at_call 15; refine (LN.out _).mono ?_; rintro e w9 ⟨rfl, hb9⟩; have HN9 := Lib.hid (HN1.out.to hb9); clear hb9) | (refine wpList_buildTo rfl 40 #[] rfl (some 87) rfl (stepV stZ) (by simpa using built40) ?_) | (refine wpList_store_rowTo rfl 40 (.tmp 2) (.tmp 87) rfl rfl w.heap.size (stepV stZ) rfl rfl 40 (stepV stZ) HN9.out.res.is (size40 _) (old40 _ _) (one40 _) ?_) | (refine wpList_load_row rfl 40 (.tmp 5) rfl X rfl 40 _ (0, 0) _ HN9.out.row.is Tryd.underlying40 rfl (size40 _) ?_) | (refine wpList_store_rowTo rfl 40 (.tmp 2) (.tmp 88) rfl rfl w.heap.size (stepV ⟨1, 0, z1, 0, 0, 0, []⟩) rfl rfl 40 (stepV stZ) HN9.out.res.is (size40 _) (old40 _ _) (one40 _) ?_))
          refine bodyPost_ret (v := .tuple #[.agg (stepV stZ), .int .i64 3]) (results_row_tmp Tryd.results13 _ _ w.heap.size 40 _ (0, 0) _ rfl (HN9.out.res.row (ys := stepV stZ)).is Tryd.underlying40 rfl (size40 _)) rfl ⟨?_, belowRow HN9.out.below (Nat.le_refl _) _⟩
          rw [parseT_no HP.out HR.out]
        · obtain ⟨t, ht⟩ : ∃ t, t = lineB ⟨1, 0, z1, 0, 0, 0, []⟩ := ⟨_, rfl⟩
          have hdt : t.data.toList = lineL ⟨1, 0, z1, 0, 0, 0, []⟩ := by rw [ht]; rfl
          have LY := Lib.hid (fun w3 (hv3 : Vars w3) => L1_yes z1 hr w3 hv3)
          rw [← ht] at LY
          have HR := Lib.hid hr
          clear ht hr
          by_cases hq : t.data.toList = s.data.toList
          · have q1 : (t.toList == s.toList) = true := by rw [ByteArray.toList_eq, ByteArray.toList_eq, beq_iff_eq]; exact hq
            have HE := Lib.hid (hdt.symm.trans hq)
            clear hq hdt
            go_wp2_with (first | (go_at_call 30; refine (has1 _).mono ?_; rintro e w1 ⟨rfl, rfl⟩) | (go_at_call 31; ((with_reducible refine (N1.out _ (HV.out _ HN.out.below) HN.out.strs).mono ?_); rintro e v1 ⟨rfl, hb1⟩; have HM1 := Lib.hid (HN.out.to hb1); have HN1 := Lib.hid (HM1.out.set 2 (.int .i64 z1) ⟨1, 0, z1, 0, 0, 0, []⟩ rfl); have cs1 := HM1.out.row.cell 2 (v := .int .i64 0) rfl; have fs1 := HM1.out.row.free 2; clear hb1 cx)) | (refine wpList_load_row rfl 40 (.tmp 5) rfl X rfl 40 _ (0, 0) _ HN1.out.row.is Tryd.underlying40 rfl (size40 _) ?_) | (go_at_call 15; refine (LY.out _ (HV.out _ HN1.out.below)).mono ?_; rintro e w9 ⟨rfl, hb9⟩; have HN9 := Lib.hid (HN1.out.to hb9); clear hb9) | (refine wpList_buildTo rfl 40 #[] rfl (some 87) rfl (stepV stZ) (by simpa using built40) ?_) | (refine wpList_store_rowTo rfl 40 (.tmp 2) (.tmp 87) rfl rfl w.heap.size (stepV stZ) rfl rfl 40 (stepV stZ) HN9.out.res.is (size40 _) (old40 _ _) (one40 _) ?_) | (refine wpList_load_row rfl 40 (.tmp 5) rfl X rfl 40 _ (0, 0) _ HN9.out.row.is Tryd.underlying40 rfl (size40 _) ?_) | (refine wpList_store_rowTo rfl 40 (.tmp 2) (.tmp 88) rfl rfl w.heap.size (stepV ⟨1, 0, z1, 0, 0, 0, []⟩) rfl rfl 40 (stepV stZ) HN9.out.res.is (size40 _) (old40 _ _) (one40 _) ?_))
            refine bodyPost_ret (v := .tuple #[.agg (stepV ⟨1, 0, z1, 0, 0, 0, []⟩), .int .i64 0]) (results_row_tmp Tryd.results13 _ _ w.heap.size 40 _ (0, 0) _ rfl (HN9.out.res.row (ys := stepV ⟨1, 0, z1, 0, 0, 0, []⟩)).is Tryd.underlying40 rfl (size40 _)) rfl ⟨?_, belowRow HN9.out.below (Nat.le_refl _) _⟩
            rw [parseT_yes HP.out HR.out HE.out]
          · have q1 : (t.toList == s.toList) = false := by rw [ByteArray.toList_eq, ByteArray.toList_eq, beq_eq_false_iff_ne]; exact hq
            have HE := Lib.hid (fun h => hq (hdt.trans h))
            clear hq hdt
            go_wp2_with (first | (go_at_call 30; refine (has1 _).mono ?_; rintro e w1 ⟨rfl, rfl⟩) | (go_at_call 31; ((with_reducible refine (N1.out _ (HV.out _ HN.out.below) HN.out.strs).mono ?_); rintro e v1 ⟨rfl, hb1⟩; have HM1 := Lib.hid (HN.out.to hb1); have HN1 := Lib.hid (HM1.out.set 2 (.int .i64 z1) ⟨1, 0, z1, 0, 0, 0, []⟩ rfl); have cs1 := HM1.out.row.cell 2 (v := .int .i64 0) rfl; have fs1 := HM1.out.row.free 2; clear hb1 cx)) | (refine wpList_load_row rfl 40 (.tmp 5) rfl X rfl 40 _ (0, 0) _ HN1.out.row.is Tryd.underlying40 rfl (size40 _) ?_) | (go_at_call 15; refine (LY.out _ (HV.out _ HN1.out.below)).mono ?_; rintro e w9 ⟨rfl, hb9⟩; have HN9 := Lib.hid (HN1.out.to hb9); clear hb9) | (refine wpList_buildTo rfl 40 #[] rfl (some 87) rfl (stepV stZ) (by simpa using built40) ?_) | (refine wpList_store_rowTo rfl 40 (.tmp 2) (.tmp 87) rfl rfl w.heap.size (stepV stZ) rfl rfl 40 (stepV stZ) HN9.out.res.is (size40 _) (old40 _ _) (one40 _) ?_) | (refine wpList_load_row rfl 40 (.tmp 5) rfl X rfl 40 _ (0, 0) _ HN9.out.row.is Tryd.underlying40 rfl (size40 _) ?_) | (refine wpList_store_rowTo rfl 40 (.tmp 2) (.tmp 88) rfl rfl w.heap.size (stepV ⟨1, 0, z1, 0, 0, 0, []⟩) rfl rfl 40 (stepV stZ) HN9.out.res.is (size40 _) (old40 _ _) (one40 _) ?_))
            refine bodyPost_ret (v := .tuple #[.agg (stepV stZ), .int .i64 3]) (results_row_tmp Tryd.results13 _ _ w.heap.size 40 _ (0, 0) _ rfl (HN9.out.res.row (ys := stepV stZ)).is Tryd.underlying40 rfl (size40 _)) rfl ⟨?_, belowRow HN9.out.below (Nat.le_refl _) _⟩
            rw [parseT_ne HP.out HE.out]
      · have hp : progSt (splitSp s.data.toList) = ⟨2, numAt (lists ws) 1, 0, 0, 0, 0, []⟩ := HPK.out
        have HP := Lib.hid hp
        clear hp HPK
        have cx := HN.out.row.cell 0 (v := .int .i64 2) rfl
        have hk16 := HN.out.row.lt
        have qb1 := bits11
        have qb2 := bits12
        have qb4 := bits14
        have N1 := Lib.hid (show ∀ w3, Vars w3 → Strs w3 g ws → Calls Tryd.prog 31 #[.slice (some ⟨g, 0, none⟩) ws.length cap, .int .i64 1] w3 fun e w' => e = .returned (.int .i64 (numAt (lists ws) 1)) ∧ Below w3.heap.size w3 w' from fun w3 hv3 hs3 => number g cap ws 1 (by omega) (by omega) w3 hv3 hs3)
        obtain ⟨z1, hz1⟩ : ∃ z, z = numAt (lists ws) 1 := ⟨_, rfl⟩
        rw [← hz1] at N1 HP
        clear hz1
        cases hr : right ⟨2, z1, 0, 0, 0, 0, []⟩
        · have HR := Lib.hid hr
          have LN := Lib.hid (fun w3 => L2_no z1 hr w3)
          clear hr
          go_wp2_with (first | (go_at_call 30; refine (has2 _).mono ?_; rintro e w1 ⟨rfl, rfl⟩) | (go_at_call 31; ((with_reducible refine (N1.out _ (HV.out _ HN.out.below) HN.out.strs).mono ?_); rintro e v1 ⟨rfl, hb1⟩; have HM1 := Lib.hid (HN.out.to hb1); have HN1 := Lib.hid (HM1.out.set 1 (.int .i64 z1) ⟨2, z1, 0, 0, 0, 0, []⟩ rfl); have cs1 := HM1.out.row.cell 1 (v := .int .i64 0) rfl; have fs1 := HM1.out.row.free 1; clear hb1 cx)) | (refine wpList_load_row rfl 40 (.tmp 5) rfl X rfl 40 _ (0, 0) _ HN1.out.row.is Tryd.underlying40 rfl (size40 _) ?_) | (go_at_call 15; refine (LN.out _).mono ?_; rintro e w9 ⟨rfl, hb9⟩; have HN9 := Lib.hid (HN1.out.to hb9); clear hb9) | (refine wpList_buildTo rfl 40 #[] rfl (some 87) rfl (stepV stZ) (by simpa using built40) ?_) | (refine wpList_store_rowTo rfl 40 (.tmp 2) (.tmp 87) rfl rfl w.heap.size (stepV stZ) rfl rfl 40 (stepV stZ) HN9.out.res.is (size40 _) (old40 _ _) (one40 _) ?_) | (refine wpList_load_row rfl 40 (.tmp 5) rfl X rfl 40 _ (0, 0) _ HN9.out.row.is Tryd.underlying40 rfl (size40 _) ?_) | (refine wpList_store_rowTo rfl 40 (.tmp 2) (.tmp 88) rfl rfl w.heap.size (stepV ⟨2, z1, 0, 0, 0, 0, []⟩) rfl rfl 40 (stepV stZ) HN9.out.res.is (size40 _) (old40 _ _) (one40 _) ?_))
          refine bodyPost_ret (v := .tuple #[.agg (stepV stZ), .int .i64 3]) (results_row_tmp Tryd.results13 _ _ w.heap.size 40 _ (0, 0) _ rfl (HN9.out.res.row (ys := stepV stZ)).is Tryd.underlying40 rfl (size40 _)) rfl ⟨?_, belowRow HN9.out.below (Nat.le_refl _) _⟩
          rw [parseT_no HP.out HR.out]
        · obtain ⟨t, ht⟩ : ∃ t, t = lineB ⟨2, z1, 0, 0, 0, 0, []⟩ := ⟨_, rfl⟩
          have hdt : t.data.toList = lineL ⟨2, z1, 0, 0, 0, 0, []⟩ := by rw [ht]; rfl
          have LY := Lib.hid (fun w3 (hv3 : Vars w3) => L2_yes z1 hr w3 hv3)
          rw [← ht] at LY
          have HR := Lib.hid hr
          clear ht hr
          by_cases hq : t.data.toList = s.data.toList
          · have q1 : (t.toList == s.toList) = true := by rw [ByteArray.toList_eq, ByteArray.toList_eq, beq_iff_eq]; exact hq
            have HE := Lib.hid (hdt.symm.trans hq)
            clear hq hdt
            go_wp2_with (first | (go_at_call 30; refine (has2 _).mono ?_; rintro e w1 ⟨rfl, rfl⟩) | (go_at_call 31; ((with_reducible refine (N1.out _ (HV.out _ HN.out.below) HN.out.strs).mono ?_); rintro e v1 ⟨rfl, hb1⟩; have HM1 := Lib.hid (HN.out.to hb1); have HN1 := Lib.hid (HM1.out.set 1 (.int .i64 z1) ⟨2, z1, 0, 0, 0, 0, []⟩ rfl); have cs1 := HM1.out.row.cell 1 (v := .int .i64 0) rfl; have fs1 := HM1.out.row.free 1; clear hb1 cx)) | (refine wpList_load_row rfl 40 (.tmp 5) rfl X rfl 40 _ (0, 0) _ HN1.out.row.is Tryd.underlying40 rfl (size40 _) ?_) | (go_at_call 15; refine (LY.out _ (HV.out _ HN1.out.below)).mono ?_; rintro e w9 ⟨rfl, hb9⟩; have HN9 := Lib.hid (HN1.out.to hb9); clear hb9) | (refine wpList_buildTo rfl 40 #[] rfl (some 87) rfl (stepV stZ) (by simpa using built40) ?_) | (refine wpList_store_rowTo rfl 40 (.tmp 2) (.tmp 87) rfl rfl w.heap.size (stepV stZ) rfl rfl 40 (stepV stZ) HN9.out.res.is (size40 _) (old40 _ _) (one40 _) ?_) | (refine wpList_load_row rfl 40 (.tmp 5) rfl X rfl 40 _ (0, 0) _ HN9.out.row.is Tryd.underlying40 rfl (size40 _) ?_) | (refine wpList_store_rowTo rfl 40 (.tmp 2) (.tmp 88) rfl rfl w.heap.size (stepV ⟨2, z1, 0, 0, 0, 0, []⟩) rfl rfl 40 (stepV stZ) HN9.out.res.is (size40 _) (old40 _ _) (one40 _) ?_))
            refine bodyPost_ret (v := .tuple #[.agg (stepV ⟨2, z1, 0, 0, 0, 0, []⟩), .int .i64 0]) (results_row_tmp Tryd.results13 _ _ w.heap.size 40 _ (0, 0) _ rfl (HN9.out.res.row (ys := stepV ⟨2, z1, 0, 0, 0, 0, []⟩)).is Tryd.underlying40 rfl (size40 _)) rfl ⟨?_, belowRow HN9.out.below (Nat.le_refl _) _⟩
            rw [parseT_yes HP.out HR.out HE.out]
          · have q1 : (t.toList == s.toList) = false := by rw [ByteArray.toList_eq, ByteArray.toList_eq, beq_eq_false_iff_ne]; exact hq
            have HE := Lib.hid (fun h => hq (hdt.trans h))
            clear hq hdt
            go_wp2_with (first | (go_at_call 30; refine (has2 _).mono ?_; rintro e w1 ⟨rfl, rfl⟩) | (go_at_call 31; ((with_reducible refine (N1.out _ (HV.out _ HN.out.below) HN.out.strs).mono ?_); rintro e v1 ⟨rfl, hb1⟩; have HM1 := Lib.hid (HN.out.to hb1); have HN1 := Lib.hid (HM1.out.set 1 (.int .i64 z1) ⟨2, z1, 0, 0, 0, 0, []⟩ rfl); have cs1 := HM1.out.row.cell 1 (v := .int .i64 0) rfl; have fs1 := HM1.out.row.free 1; clear hb1 cx)) | (refine wpList_load_row rfl 40 (.tmp 5) rfl X rfl 40 _ (0, 0) _ HN1.out.row.is Tryd.underlying40 rfl (size40 _) ?_) | (go_at_call 15; refine (LY.out _ (HV.out _ HN1.out.below)).mono ?_; rintro e w9 ⟨rfl, hb9⟩; have HN9 := Lib.hid (HN1.out.to hb9); clear hb9) | (refine wpList_buildTo rfl 40 #[] rfl (some 87) rfl (stepV stZ) (by simpa using built40) ?_) | (refine wpList_store_rowTo rfl 40 (.tmp 2) (.tmp 87) rfl rfl w.heap.size (stepV stZ) rfl rfl 40 (stepV stZ) HN9.out.res.is (size40 _) (old40 _ _) (one40 _) ?_) | (refine wpList_load_row rfl 40 (.tmp 5) rfl X rfl 40 _ (0, 0) _ HN9.out.row.is Tryd.underlying40 rfl (size40 _) ?_) | (refine wpList_store_rowTo rfl 40 (.tmp 2) (.tmp 88) rfl rfl w.heap.size (stepV ⟨2, z1, 0, 0, 0, 0, []⟩) rfl rfl 40 (stepV stZ) HN9.out.res.is (size40 _) (old40 _ _) (one40 _) ?_))
            refine bodyPost_ret (v := .tuple #[.agg (stepV stZ), .int .i64 3]) (results_row_tmp Tryd.results13 _ _ w.heap.size 40 _ (0, 0) _ rfl (HN9.out.res.row (ys := stepV stZ)).is Tryd.underlying40 rfl (size40 _)) rfl ⟨?_, belowRow HN9.out.below (Nat.le_refl _) _⟩
            rw [parseT_ne HP.out HE.out]
      · have cx := HN.out.row.cell 0 (v := .int .i64 3) rfl
        have hk16 := HN.out.row.lt
        have qb1 := bits41
        have qb2 := bits42
        have qb4 := bits44
        by_cases h5 : ws.length = 5
        · obtain ⟨w1', w2', w3', w4, rfl⟩ : ∃ a b c d, rs = [a, b, c, d] := by
            have := HW0.out
            subst this
            match rs, h5 with
            | [a, b, c, d], _ => exact ⟨a, b, c, d, rfl⟩
          have hp : progSt (splitSp s.data.toList) = ⟨3, 0, 0, numAt (lists ws) 1, numAt (lists ws) 2, puV w3'.data.toList, unhexL w4.data.toList⟩ := HPK.out.trans (by rw [progK, if_pos (by simpa [lists] using h5), HW0.out]; rfl)
          have HP := Lib.hid hp
          have d5 : ((ws.length : Int) == 5) = true := by rw [beq_iff_eq]; omega
          have N1 := Lib.hid (show ∀ w3, Vars w3 → Strs w3 g ws → Calls Tryd.prog 31 #[.slice (some ⟨g, 0, none⟩) ws.length cap, .int .i64 1] w3 fun e w' => e = .returned (.int .i64 (numAt (lists ws) 1)) ∧ Below w3.heap.size w3 w' from fun w3 hv3 hs3 => number g cap ws 1 (by omega) (by omega) w3 hv3 hs3)
          have N2 := Lib.hid (show ∀ w3, Vars w3 → Strs w3 g ws → Calls Tryd.prog 31 #[.slice (some ⟨g, 0, none⟩) ws.length cap, .int .i64 2] w3 fun e w' => e = .returned (.int .i64 (numAt (lists ws) 2)) ∧ Below w3.heap.size w3 w' from fun w3 hv3 hs3 => number g cap ws 2 (by omega) (by omega) w3 hv3 hs3)
          have h4s : w4.size ≤ 1000 := HN.out.strs.size w4 (by rw [HW0.out]; simp)
          have h3s : w3'.size ≤ 1000 := HN.out.strs.size w3' (by rw [HW0.out]; simp)
          have U4 := Lib.hid (fun w3 => Unhex.unhex w4 h4s w3)
          have P3 := Lib.hid (fun w3 (hv3 : Vars w3) => parseUint w3' h3s w3 hv3)
          have htv := puV_lt w3'.data.toList
          have C4 := Lib.hid (fun w3 (hs3 : Strs w3 g ws) => show w3.cell? ⟨g, 4, none⟩ = some (.string w4) from (hs3.cell 4 (by omega)).trans (by simp [HW0.out]))
          have C3 := Lib.hid (fun w3 (hs3 : Strs w3 g ws) => show w3.cell? ⟨g, 3, none⟩ = some (.string w3') from (hs3.cell 3 (by omega)).trans (by simp [HW0.out]))
          have i4 : (4 : Int) < (ws.length : Int) := by omega
          have i3 : (3 : Int) < (ws.length : Int) := by omega
          clear hp HPK h5 h4s h3s
          obtain ⟨z1, hz1⟩ : ∃ z, z = numAt (lists ws) 1 := ⟨_, rfl⟩
          obtain ⟨z2, hz2⟩ : ∃ z, z = numAt (lists ws) 2 := ⟨_, rfl⟩
          obtain ⟨tv, htv2⟩ : ∃ z, z = puV w3'.data.toList := ⟨_, rfl⟩
          obtain ⟨dv, hdv⟩ : ∃ z, z = unhexL w4.data.toList := ⟨_, rfl⟩
          rw [← hz1, ← hz2, ← htv2, ← hdv] at HP
          rw [← hz1] at N1
          rw [← hz2] at N2
          rw [← hdv] at U4
          rw [← htv2] at P3 htv
          clear hz1 hz2 htv2 hdv
          go_wp2_with (go_at_call 30; refine (has3 _).mono ?_; rintro e w1 ⟨rfl, rfl⟩)
          clear cx
          go_upto_region 16 with fail
          refine Tail.wp_region_class_tail (fun w' => In w w' X g ws ⟨3, 0, 0, 0, 0, 0, []⟩) 10 (by kernel_rfl) (by kernel_rfl) (HN.out.drewN 1) ?_
          simp only [List.take_succ_cons, List.take_zero, List.drop_succ_cons, List.drop_zero]
          refine wpQuiet_step (fun K hK => ?_)
          refine Tail.class_step (.slice (some ⟨g, 0, none⟩) ws.length cap) (by rfl) (fun wc hwc => ?_) ?_
          · go_simp
          go_simp
          refine hK _ ?_
          clear hK K
          refine wpQuiet_step (fun K hK => ?_)
          refine Tail.class_step (.int .i64 z1) (by rfl) (fun wc hwc => ?_) ?_
          · go_simp
            refine (N1.out _ (HV.out _ hwc.below) hwc.strs).mono ?_
            rintro e wx ⟨rfl, hb⟩
            exact ⟨rfl, hwc.to hb⟩
          go_simp
          refine hK _ ?_
          clear hK K
          refine wpQuiet_step (fun K hK => ?_)
          refine Tail.class_step (.slice (some ⟨g, 0, none⟩) ws.length cap) (by rfl) (fun wc hwc => ?_) ?_
          · go_simp
          go_simp
          refine hK _ ?_
          clear hK K
          refine wpQuiet_step (fun K hK => ?_)
          refine Tail.class_step (.int .i64 z2) (by rfl) (fun wc hwc => ?_) ?_
          · go_simp
            refine (N2.out _ (HV.out _ hwc.below) hwc.strs).mono ?_
            rintro e wx ⟨rfl, hb⟩
            exact ⟨rfl, hwc.to hb⟩
          go_simp
          refine hK _ ?_
          clear hK K
          refine wpQuiet_step (fun K hK => ?_)
          refine Tail.class_step (.slice (some ⟨g, 0, none⟩) ws.length cap) (by rfl) (fun wc hwc => ?_) ?_
          · go_simp
          go_simp
          refine hK _ ?_
          clear hK K
          refine wpQuiet_step (fun K hK => ?_)
          refine Tail.class_step (.pointer (some ⟨g, 4, none⟩)) (by rfl) (fun wc hwc => ?_) ?_
          · go_simp
          go_simp
          refine hK _ ?_
          clear hK K
          refine wpQuiet_step (fun K hK => ?_)
          refine Tail.class_step (.string w4) (by rfl) (fun wc hwc => ?_) ?_
          · have c4 := C4.out _ hwc.strs
            go_simp
          go_simp
          refine hK _ ?_
          clear hK K
          refine wpQuiet_step (fun K hK => ?_)
          refine Tail.class_step (.string ⟨dv.toArray⟩) (by rfl) (fun wc hwc => ?_) ?_
          · go_simp
            refine (U4.out _).mono ?_
            rintro e wx ⟨rfl, hb⟩
            exact ⟨rfl, hwc.to hb⟩
          go_simp
          refine hK _ ?_
          clear hK K
          refine wpQuiet_step (fun K hK => ?_)
          refine Tail.class_step (.agg #[.int .i64 z1, .int .i64 z2, .int .u64 0, .int .u64 0, .string ⟨dv.toArray⟩]) (by rfl) (fun wc hwc => ?_) ?_
          · go_simp
          go_simp
          refine hK _ ?_
          clear hK K
          refine wpQuiet_step (fun K hK => ?_)
          refine Tail.class_step (.pointer (some ⟨X, 3, none⟩)) (by rfl) (fun wc hwc => ?_) ?_
          · go_simp
          go_simp
          refine hK _ ?_
          clear hK K
          refine wpQuiet_nil ?_
          intro wb hwb
          have HB := Lib.hid hwb
          clear hwb HN
          have fx3 := HB.out.row.free 3
          have fx4 := HB.out.row.free 4
          have fx5 := HB.out.row.free 5
          have fx6 := HB.out.row.free 6
          have fx7 := HB.out.row.free 7
          have cx3 := HB.out.row.cell 3 (v := .int .i64 0) rfl
          have cx4 := HB.out.row.cell 4 (v := .int .i64 0) rfl
          have cx5 := HB.out.row.cell 5 (v := .int .u64 0) rfl
          have cx6 := HB.out.row.cell 6 (v := .int .u64 0) rfl
          have cx7 := HB.out.row.cell 7 (v := .string ⟨#[]⟩) rfl
          go_upto_region 17 with fail
          have HN5 := Lib.hid (((((HB.out.set 3 (.int .i64 z1) ⟨3, 0, 0, z1, 0, 0, []⟩ rfl).set 4 (.int .i64 z2) ⟨3, 0, 0, z1, z2, 0, []⟩ rfl).set 5 (.int .u64 0) ⟨3, 0, 0, z1, z2, 0, []⟩ rfl).set 6 (.int .u64 0) ⟨3, 0, 0, z1, z2, 0, []⟩ rfl).set 7 (.string ⟨dv.toArray⟩) ⟨3, 0, 0, z1, z2, 0, dv⟩ rfl)
          clear fx3 cx3 fx4 cx4 fx5 cx5 fx6 cx6 fx7 cx7 HB
          generalize ((((wb.setCell ⟨X, 3, none⟩ (.int .i64 z1)).setCell ⟨X, 4, none⟩ (.int .i64 z2)).setCell ⟨X, 5, none⟩ (.int .u64 0)).setCell ⟨X, 6, none⟩ (.int .u64 0)).setCell ⟨X, 7, none⟩ (.string ⟨dv.toArray⟩) = w5 at *
          have c3 := C3.out _ HN5.out.strs
          go_upto_region 18 with (go_at_call 33; refine (P3.out _ (HV.out _ HN5.out.below)).mono ?_; rintro e wp ⟨⟨xx, rfl⟩, hbp⟩; have HM := Lib.hid (HN5.out.to hbp); have HN6 := Lib.hid (HM.out.set 6 (.int .u64 (tv : Int)) ⟨3, 0, 0, z1, z2, tv, dv⟩ rfl); have c6 := HM.out.row.cell 6 (v := .int .u64 0) rfl; have f6 := HM.out.row.free 6; clear hbp c3 HN5)
          clear c6 f6 HM N1 N2 U4 P3 C4 C3 i3 i4
          cases hr : right ⟨3, 0, 0, z1, z2, tv, dv⟩
          · have HR := Lib.hid hr
            have LN := Lib.hid (fun w3 => L3_no z1 z2 tv dv hr w3)
            clear hr
            go_wp2_with (first | (go_at_call 30; refine (has3 _).mono ?_; rintro e w1 ⟨rfl, rfl⟩) | (refine wpList_load_row rfl 40 (.tmp 5) rfl X rfl 40 _ (0, 0) _ HN6.out.row.is Tryd.underlying40 rfl (size40 _) ?_) | (go_at_call 15; refine (LN.out _).mono ?_; rintro e w9 ⟨rfl, hb9⟩; have HN9 := Lib.hid (HN6.out.to hb9); clear hb9) | (refine wpList_buildTo rfl 40 #[] rfl (some 87) rfl (stepV stZ) (by simpa using built40) ?_) | (refine wpList_store_rowTo rfl 40 (.tmp 2) (.tmp 87) rfl rfl w.heap.size (stepV stZ) rfl rfl 40 (stepV stZ) HN9.out.res.is (size40 _) (old40 _ _) (one40 _) ?_) | (refine wpList_load_row rfl 40 (.tmp 5) rfl X rfl 40 _ (0, 0) _ HN9.out.row.is Tryd.underlying40 rfl (size40 _) ?_) | (refine wpList_store_rowTo rfl 40 (.tmp 2) (.tmp 88) rfl rfl w.heap.size (stepV ⟨3, 0, 0, z1, z2, tv, dv⟩) rfl rfl 40 (stepV stZ) HN9.out.res.is (size40 _) (old40 _ _) (one40 _) ?_))
            refine bodyPost_ret (v := .tuple #[.agg (stepV stZ), .int .i64 3]) (results_row_tmp Tryd.results13 _ _ w.heap.size 40 _ (0, 0) _ rfl (HN9.out.res.row (ys := stepV stZ)).is Tryd.underlying40 rfl (size40 _)) rfl ⟨?_, belowRow HN9.out.below (Nat.le_refl _) _⟩
            rw [parseT_no HP.out HR.out]
          · obtain ⟨t, ht⟩ : ∃ t, t = lineB ⟨3, 0, 0, z1, z2, tv, dv⟩ := ⟨_, rfl⟩
            have hdt : t.data.toList = lineL ⟨3, 0, 0, z1, z2, tv, dv⟩ := by rw [ht]; rfl
            have LY := Lib.hid (fun w3 (hv3 : Vars w3) => L3_yes z1 z2 tv htv dv hr w3 hv3)
            rw [← ht] at LY
            have HR := Lib.hid hr
            clear ht hr
            by_cases hq : t.data.toList = s.data.toList
            · have q1 : (t.toList == s.toList) = true := by rw [ByteArray.toList_eq, ByteArray.toList_eq, beq_iff_eq]; exact hq
              have HE := Lib.hid (hdt.symm.trans hq)
              clear hq hdt
              go_wp2_with (first | (go_at_call 30; refine (has3 _).mono ?_; rintro e w1 ⟨rfl, rfl⟩) | (refine wpList_load_row rfl 40 (.tmp 5) rfl X rfl 40 _ (0, 0) _ HN6.out.row.is Tryd.underlying40 rfl (size40 _) ?_) | (go_at_call 15; refine (LY.out _ (HV.out _ HN6.out.below)).mono ?_; rintro e w9 ⟨rfl, hb9⟩; have HN9 := Lib.hid (HN6.out.to hb9); clear hb9) | (refine wpList_buildTo rfl 40 #[] rfl (some 87) rfl (stepV stZ) (by simpa using built40) ?_) | (refine wpList_store_rowTo rfl 40 (.tmp 2) (.tmp 87) rfl rfl w.heap.size (stepV stZ) rfl rfl 40 (stepV stZ) HN9.out.res.is (size40 _) (old40 _ _) (one40 _) ?_) | (refine wpList_load_row rfl 40 (.tmp 5) rfl X rfl 40 _ (0, 0) _ HN9.out.row.is Tryd.underlying40 rfl (size40 _) ?_) | (refine wpList_store_rowTo rfl 40 (.tmp 2) (.tmp 88) rfl rfl w.heap.size (stepV ⟨3, 0, 0, z1, z2, tv, dv⟩) rfl rfl 40 (stepV stZ) HN9.out.res.is (size40 _) (old40 _ _) (one40 _) ?_))
              refine bodyPost_ret (v := .tuple #[.agg (stepV ⟨3, 0, 0, z1, z2, tv, dv⟩), .int .i64 0]) (results_row_tmp Tryd.results13 _ _ w.heap.size 40 _ (0, 0) _ rfl (HN9.out.res.row (ys := stepV ⟨3, 0, 0, z1, z2, tv, dv⟩)).is Tryd.underlying40 rfl (size40 _)) rfl ⟨?_, belowRow HN9.out.below (Nat.le_refl _) _⟩
              rw [parseT_yes HP.out HR.out HE.out]
            · have q1 : (t.toList == s.toList) = false := by rw [ByteArray.toList_eq, ByteArray.toList_eq, beq_eq_false_iff_ne]; exact hq
              have HE := Lib.hid (fun h => hq (hdt.trans h))
              clear hq hdt
              go_wp2_with (first | (go_at_call 30; refine (has3 _).mono ?_; rintro e w1 ⟨rfl, rfl⟩) | (refine wpList_load_row rfl 40 (.tmp 5) rfl X rfl 40 _ (0, 0) _ HN6.out.row.is Tryd.underlying40 rfl (size40 _) ?_) | (go_at_call 15; refine (LY.out _ (HV.out _ HN6.out.below)).mono ?_; rintro e w9 ⟨rfl, hb9⟩; have HN9 := Lib.hid (HN6.out.to hb9); clear hb9) | (refine wpList_buildTo rfl 40 #[] rfl (some 87) rfl (stepV stZ) (by simpa using built40) ?_) | (refine wpList_store_rowTo rfl 40 (.tmp 2) (.tmp 87) rfl rfl w.heap.size (stepV stZ) rfl rfl 40 (stepV stZ) HN9.out.res.is (size40 _) (old40 _ _) (one40 _) ?_) | (refine wpList_load_row rfl 40 (.tmp 5) rfl X rfl 40 _ (0, 0) _ HN9.out.row.is Tryd.underlying40 rfl (size40 _) ?_) | (refine wpList_store_rowTo rfl 40 (.tmp 2) (.tmp 88) rfl rfl w.heap.size (stepV ⟨3, 0, 0, z1, z2, tv, dv⟩) rfl rfl 40 (stepV stZ) HN9.out.res.is (size40 _) (old40 _ _) (one40 _) ?_))
              refine bodyPost_ret (v := .tuple #[.agg (stepV stZ), .int .i64 3]) (results_row_tmp Tryd.results13 _ _ w.heap.size 40 _ (0, 0) _ rfl (HN9.out.res.row (ys := stepV stZ)).is Tryd.underlying40 rfl (size40 _)) rfl ⟨?_, belowRow HN9.out.below (Nat.le_refl _) _⟩
              rw [parseT_ne HP.out HE.out]
        · have hp : progSt (splitSp s.data.toList) = ⟨3, 0, 0, 0, 0, 0, []⟩ := HPK.out.trans (by rw [progK, if_neg (by simpa [lists] using h5)])
          have HP := Lib.hid hp
          have d5 : ((ws.length : Int) == 5) = false := by rw [beq_eq_false_iff_ne]; omega
          clear hp HPK h5
          have hr : right ⟨3, 0, 0, 0, 0, 0, []⟩ = true := rfl
          obtain ⟨t, ht⟩ : ∃ t, t = lineB ⟨3, 0, 0, 0, 0, 0, []⟩ := ⟨_, rfl⟩
          have hdt : t.data.toList = lineL ⟨3, 0, 0, 0, 0, 0, []⟩ := by rw [ht]; rfl
          have LY := Lib.hid (fun w3 (hv3 : Vars w3) => L3_yes 0 0 0 (by omega) [] hr w3 hv3)
          rw [← ht] at LY
          have HR := Lib.hid hr
          clear ht hr
          by_cases hq : t.data.toList = s.data.toList
          · have q1 : (t.toList == s.toList) = true := by rw [ByteArray.toList_eq, ByteArray.toList_eq, beq_iff_eq]; exact hq
            have HE := Lib.hid (hdt.symm.trans hq)
            clear hq hdt
            go_wp2_with (first | (go_at_call 30; refine (has3 _).mono ?_; rintro e w1 ⟨rfl, rfl⟩) | (refine wpList_load_row rfl 40 (.tmp 5) rfl X rfl 40 _ (0, 0) _ HN.out.row.is Tryd.underlying40 rfl (size40 _) ?_) | (go_at_call 15; refine (LY.out _ (HV.out _ HN.out.below)).mono ?_; rintro e w9 ⟨rfl, hb9⟩; have HN9 := Lib.hid (HN.out.to hb9); clear hb9) | (refine wpList_buildTo rfl 40 #[] rfl (some 87) rfl (stepV stZ) (by simpa using built40) ?_) | (refine wpList_store_rowTo rfl 40 (.tmp 2) (.tmp 87) rfl rfl w.heap.size (stepV stZ) rfl rfl 40 (stepV stZ) HN9.out.res.is (size40 _) (old40 _ _) (one40 _) ?_) | (refine wpList_load_row rfl 40 (.tmp 5) rfl X rfl 40 _ (0, 0) _ HN9.out.row.is Tryd.underlying40 rfl (size40 _) ?_) | (refine wpList_store_rowTo rfl 40 (.tmp 2) (.tmp 88) rfl rfl w.heap.size (stepV ⟨3, 0, 0, 0, 0, 0, []⟩) rfl rfl 40 (stepV stZ) HN9.out.res.is (size40 _) (old40 _ _) (one40 _) ?_))
            refine bodyPost_ret (v := .tuple #[.agg (stepV ⟨3, 0, 0, 0, 0, 0, []⟩), .int .i64 0]) (results_row_tmp Tryd.results13 _ _ w.heap.size 40 _ (0, 0) _ rfl (HN9.out.res.row (ys := stepV ⟨3, 0, 0, 0, 0, 0, []⟩)).is Tryd.underlying40 rfl (size40 _)) rfl ⟨?_, belowRow HN9.out.below (Nat.le_refl _) _⟩
            rw [parseT_yes HP.out HR.out HE.out]
          · have q1 : (t.toList == s.toList) = false := by rw [ByteArray.toList_eq, ByteArray.toList_eq, beq_eq_false_iff_ne]; exact hq
            have HE := Lib.hid (fun h => hq (hdt.trans h))
            clear hq hdt
            go_wp2_with (first | (go_at_call 30; refine (has3 _).mono ?_; rintro e w1 ⟨rfl, rfl⟩) | (refine wpList_load_row rfl 40 (.tmp 5) rfl X rfl 40 _ (0, 0) _ HN.out.row.is Tryd.underlying40 rfl (size40 _) ?_) | (go_at_call 15; refine (LY.out _ (HV.out _ HN.out.below)).mono ?_; rintro e w9 ⟨rfl, hb9⟩; have HN9 := Lib.hid (HN.out.to hb9); clear hb9) | (refine wpList_buildTo rfl 40 #[] rfl (some 87) rfl (stepV stZ) (by simpa using built40) ?_) | (refine wpList_store_rowTo rfl 40 (.tmp 2) (.tmp 87) rfl rfl w.heap.size (stepV stZ) rfl rfl 40 (stepV stZ) HN9.out.res.is (size40 _) (old40 _ _) (one40 _) ?_) | (refine wpList_load_row rfl 40 (.tmp 5) rfl X rfl 40 _ (0, 0) _ HN9.out.row.is Tryd.underlying40 rfl (size40 _) ?_) | (refine wpList_store_rowTo rfl 40 (.tmp 2) (.tmp 88) rfl rfl w.heap.size (stepV ⟨3, 0, 0, 0, 0, 0, []⟩) rfl rfl 40 (stepV stZ) HN9.out.res.is (size40 _) (old40 _ _) (one40 _) ?_))
            refine bodyPost_ret (v := .tuple #[.agg (stepV stZ), .int .i64 3]) (results_row_tmp Tryd.results13 _ _ w.heap.size 40 _ (0, 0) _ rfl (HN9.out.res.row (ys := stepV stZ)).is Tryd.underlying40 rfl (size40 _)) rfl ⟨?_, belowRow HN9.out.below (Nat.le_refl _) _⟩
            rw [parseT_ne HP.out HE.out]
      · have hp : progSt (splitSp s.data.toList) = ⟨4, numAt (lists ws) 1, 0, 0, 0, 0, []⟩ := HPK.out
        have HP := Lib.hid hp
        clear hp HPK
        have cx := HN.out.row.cell 0 (v := .int .i64 4) rfl
        have hk16 := HN.out.row.lt
        have qb1 := bits11
        have qb2 := bits12
        have qb4 := bits14
        have N1 := Lib.hid (show ∀ w3, Vars w3 → Strs w3 g ws → Calls Tryd.prog 31 #[.slice (some ⟨g, 0, none⟩) ws.length cap, .int .i64 1] w3 fun e w' => e = .returned (.int .i64 (numAt (lists ws) 1)) ∧ Below w3.heap.size w3 w' from fun w3 hv3 hs3 => number g cap ws 1 (by omega) (by omega) w3 hv3 hs3)
        obtain ⟨z1, hz1⟩ : ∃ z, z = numAt (lists ws) 1 := ⟨_, rfl⟩
        rw [← hz1] at N1 HP
        clear hz1
        cases hr : right ⟨4, z1, 0, 0, 0, 0, []⟩
        · have HR := Lib.hid hr
          have LN := Lib.hid (fun w3 => L4_no z1 hr w3)
          clear hr
          go_wp2_with (first | (go_at_call 30; refine (has4 _).mono ?_; rintro e w1 ⟨rfl, rfl⟩) | (go_at_call 31; ((with_reducible refine (N1.out _ (HV.out _ HN.out.below) HN.out.strs).mono ?_); rintro e v1 ⟨rfl, hb1⟩; have HM1 := Lib.hid (HN.out.to hb1); have HN1 := Lib.hid (HM1.out.set 1 (.int .i64 z1) ⟨4, z1, 0, 0, 0, 0, []⟩ rfl); have cs1 := HM1.out.row.cell 1 (v := .int .i64 0) rfl; have fs1 := HM1.out.row.free 1; clear hb1 cx)) | (refine wpList_load_row rfl 40 (.tmp 5) rfl X rfl 40 _ (0, 0) _ HN1.out.row.is Tryd.underlying40 rfl (size40 _) ?_) | (go_at_call 15; refine (LN.out _).mono ?_; rintro e w9 ⟨rfl, hb9⟩; have HN9 := Lib.hid (HN1.out.to hb9); clear hb9) | (refine wpList_buildTo rfl 40 #[] rfl (some 87) rfl (stepV stZ) (by simpa using built40) ?_) | (refine wpList_store_rowTo rfl 40 (.tmp 2) (.tmp 87) rfl rfl w.heap.size (stepV stZ) rfl rfl 40 (stepV stZ) HN9.out.res.is (size40 _) (old40 _ _) (one40 _) ?_) | (refine wpList_load_row rfl 40 (.tmp 5) rfl X rfl 40 _ (0, 0) _ HN9.out.row.is Tryd.underlying40 rfl (size40 _) ?_) | (refine wpList_store_rowTo rfl 40 (.tmp 2) (.tmp 88) rfl rfl w.heap.size (stepV ⟨4, z1, 0, 0, 0, 0, []⟩) rfl rfl 40 (stepV stZ) HN9.out.res.is (size40 _) (old40 _ _) (one40 _) ?_))
          refine bodyPost_ret (v := .tuple #[.agg (stepV stZ), .int .i64 3]) (results_row_tmp Tryd.results13 _ _ w.heap.size 40 _ (0, 0) _ rfl (HN9.out.res.row (ys := stepV stZ)).is Tryd.underlying40 rfl (size40 _)) rfl ⟨?_, belowRow HN9.out.below (Nat.le_refl _) _⟩
          rw [parseT_no HP.out HR.out]
        · obtain ⟨t, ht⟩ : ∃ t, t = lineB ⟨4, z1, 0, 0, 0, 0, []⟩ := ⟨_, rfl⟩
          have hdt : t.data.toList = lineL ⟨4, z1, 0, 0, 0, 0, []⟩ := by rw [ht]; rfl
          have LY := Lib.hid (fun w3 (hv3 : Vars w3) => L4_yes z1 hr w3 hv3)
          rw [← ht] at LY
          have HR := Lib.hid hr
          clear ht hr
          by_cases hq : t.data.toList = s.data.toList
          · have q1 : (t.toList == s.toList) = true := by rw [ByteArray.toList_eq, ByteArray.toList_eq, beq_iff_eq]; exact hq
            have HE := Lib.hid (hdt.symm.trans hq)
            clear hq hdt
            go_wp2_with (first | (go_at_call 30; refine (has4 _).mono ?_; rintro e w1 ⟨rfl, rfl⟩) | (go_at_call 31; ((with_reducible refine (N1.out _ (HV.out _ HN.out.below) HN.out.strs).mono ?_); rintro e v1 ⟨rfl, hb1⟩; have HM1 := Lib.hid (HN.out.to hb1); have HN1 := Lib.hid (HM1.out.set 1 (.int .i64 z1) ⟨4, z1, 0, 0, 0, 0, []⟩ rfl); have cs1 := HM1.out.row.cell 1 (v := .int .i64 0) rfl; have fs1 := HM1.out.row.free 1; clear hb1 cx)) | (refine wpList_load_row rfl 40 (.tmp 5) rfl X rfl 40 _ (0, 0) _ HN1.out.row.is Tryd.underlying40 rfl (size40 _) ?_) | (go_at_call 15; refine (LY.out _ (HV.out _ HN1.out.below)).mono ?_; rintro e w9 ⟨rfl, hb9⟩; have HN9 := Lib.hid (HN1.out.to hb9); clear hb9) | (refine wpList_buildTo rfl 40 #[] rfl (some 87) rfl (stepV stZ) (by simpa using built40) ?_) | (refine wpList_store_rowTo rfl 40 (.tmp 2) (.tmp 87) rfl rfl w.heap.size (stepV stZ) rfl rfl 40 (stepV stZ) HN9.out.res.is (size40 _) (old40 _ _) (one40 _) ?_) | (refine wpList_load_row rfl 40 (.tmp 5) rfl X rfl 40 _ (0, 0) _ HN9.out.row.is Tryd.underlying40 rfl (size40 _) ?_) | (refine wpList_store_rowTo rfl 40 (.tmp 2) (.tmp 88) rfl rfl w.heap.size (stepV ⟨4, z1, 0, 0, 0, 0, []⟩) rfl rfl 40 (stepV stZ) HN9.out.res.is (size40 _) (old40 _ _) (one40 _) ?_))
            refine bodyPost_ret (v := .tuple #[.agg (stepV ⟨4, z1, 0, 0, 0, 0, []⟩), .int .i64 0]) (results_row_tmp Tryd.results13 _ _ w.heap.size 40 _ (0, 0) _ rfl (HN9.out.res.row (ys := stepV ⟨4, z1, 0, 0, 0, 0, []⟩)).is Tryd.underlying40 rfl (size40 _)) rfl ⟨?_, belowRow HN9.out.below (Nat.le_refl _) _⟩
            rw [parseT_yes HP.out HR.out HE.out]
          · have q1 : (t.toList == s.toList) = false := by rw [ByteArray.toList_eq, ByteArray.toList_eq, beq_eq_false_iff_ne]; exact hq
            have HE := Lib.hid (fun h => hq (hdt.trans h))
            clear hq hdt
            go_wp2_with (first | (go_at_call 30; refine (has4 _).mono ?_; rintro e w1 ⟨rfl, rfl⟩) | (go_at_call 31; ((with_reducible refine (N1.out _ (HV.out _ HN.out.below) HN.out.strs).mono ?_); rintro e v1 ⟨rfl, hb1⟩; have HM1 := Lib.hid (HN.out.to hb1); have HN1 := Lib.hid (HM1.out.set 1 (.int .i64 z1) ⟨4, z1, 0, 0, 0, 0, []⟩ rfl); have cs1 := HM1.out.row.cell 1 (v := .int .i64 0) rfl; have fs1 := HM1.out.row.free 1; clear hb1 cx)) | (refine wpList_load_row rfl 40 (.tmp 5) rfl X rfl 40 _ (0, 0) _ HN1.out.row.is Tryd.underlying40 rfl (size40 _) ?_) | (go_at_call 15; refine (LY.out _ (HV.out _ HN1.out.below)).mono ?_; rintro e w9 ⟨rfl, hb9⟩; have HN9 := Lib.hid (HN1.out.to hb9); clear hb9) | (refine wpList_buildTo rfl 40 #[] rfl (some 87) rfl (stepV stZ) (by simpa using built40) ?_) | (refine wpList_store_rowTo rfl 40 (.tmp 2) (.tmp 87) rfl rfl w.heap.size (stepV stZ) rfl rfl 40 (stepV stZ) HN9.out.res.is (size40 _) (old40 _ _) (one40 _) ?_) | (refine wpList_load_row rfl 40 (.tmp 5) rfl X rfl 40 _ (0, 0) _ HN9.out.row.is Tryd.underlying40 rfl (size40 _) ?_) | (refine wpList_store_rowTo rfl 40 (.tmp 2) (.tmp 88) rfl rfl w.heap.size (stepV ⟨4, z1, 0, 0, 0, 0, []⟩) rfl rfl 40 (stepV stZ) HN9.out.res.is (size40 _) (old40 _ _) (one40 _) ?_))
            refine bodyPost_ret (v := .tuple #[.agg (stepV stZ), .int .i64 3]) (results_row_tmp Tryd.results13 _ _ w.heap.size 40 _ (0, 0) _ rfl (HN9.out.res.row (ys := stepV stZ)).is Tryd.underlying40 rfl (size40 _)) rfl ⟨?_, belowRow HN9.out.below (Nat.le_refl _) _⟩
            rw [parseT_ne HP.out HE.out]
      · have hp : progSt (splitSp s.data.toList) = ⟨5, 0, numAt (lists ws) 1, 0, 0, 0, []⟩ := HPK.out
        have HP := Lib.hid hp
        clear hp HPK
        have cx := HN.out.row.cell 0 (v := .int .i64 5) rfl
        have hk16 := HN.out.row.lt
        have qb1 := bits21
        have qb2 := bits22
        have qb4 := bits24
        have N1 := Lib.hid (show ∀ w3, Vars w3 → Strs w3 g ws → Calls Tryd.prog 31 #[.slice (some ⟨g, 0, none⟩) ws.length cap, .int .i64 1] w3 fun e w' => e = .returned (.int .i64 (numAt (lists ws) 1)) ∧ Below w3.heap.size w3 w' from fun w3 hv3 hs3 => number g cap ws 1 (by omega) (by omega) w3 hv3 hs3)
        obtain ⟨z1, hz1⟩ : ∃ z, z = numAt (lists ws) 1 := ⟨_, rfl⟩
        rw [← hz1] at N1 HP
        clear hz1
        cases hr : right ⟨5, 0, z1, 0, 0, 0, []⟩
        · have HR := Lib.hid hr
          have LN := Lib.hid (fun w3 => L5_no z1 hr w3)
          clear hr
          go_wp2_with (first | (go_at_call 30; refine (has5 _).mono ?_; rintro e w1 ⟨rfl, rfl⟩) | (go_at_call 31; ((with_reducible refine (N1.out _ (HV.out _ HN.out.below) HN.out.strs).mono ?_); rintro e v1 ⟨rfl, hb1⟩; have HM1 := Lib.hid (HN.out.to hb1); have HN1 := Lib.hid (HM1.out.set 2 (.int .i64 z1) ⟨5, 0, z1, 0, 0, 0, []⟩ rfl); have cs1 := HM1.out.row.cell 2 (v := .int .i64 0) rfl; have fs1 := HM1.out.row.free 2; clear hb1 cx)) | (refine wpList_load_row rfl 40 (.tmp 5) rfl X rfl 40 _ (0, 0) _ HN1.out.row.is Tryd.underlying40 rfl (size40 _) ?_) | (go_at_call 15; refine (LN.out _).mono ?_; rintro e w9 ⟨rfl, hb9⟩; have HN9 := Lib.hid (HN1.out.to hb9); clear hb9) | (refine wpList_buildTo rfl 40 #[] rfl (some 87) rfl (stepV stZ) (by simpa using built40) ?_) | (refine wpList_store_rowTo rfl 40 (.tmp 2) (.tmp 87) rfl rfl w.heap.size (stepV stZ) rfl rfl 40 (stepV stZ) HN9.out.res.is (size40 _) (old40 _ _) (one40 _) ?_) | (refine wpList_load_row rfl 40 (.tmp 5) rfl X rfl 40 _ (0, 0) _ HN9.out.row.is Tryd.underlying40 rfl (size40 _) ?_) | (refine wpList_store_rowTo rfl 40 (.tmp 2) (.tmp 88) rfl rfl w.heap.size (stepV ⟨5, 0, z1, 0, 0, 0, []⟩) rfl rfl 40 (stepV stZ) HN9.out.res.is (size40 _) (old40 _ _) (one40 _) ?_))
          refine bodyPost_ret (v := .tuple #[.agg (stepV stZ), .int .i64 3]) (results_row_tmp Tryd.results13 _ _ w.heap.size 40 _ (0, 0) _ rfl (HN9.out.res.row (ys := stepV stZ)).is Tryd.underlying40 rfl (size40 _)) rfl ⟨?_, belowRow HN9.out.below (Nat.le_refl _) _⟩
          rw [parseT_no HP.out HR.out]
        · obtain ⟨t, ht⟩ : ∃ t, t = lineB ⟨5, 0, z1, 0, 0, 0, []⟩ := ⟨_, rfl⟩
          have hdt : t.data.toList = lineL ⟨5, 0, z1, 0, 0, 0, []⟩ := by rw [ht]; rfl
          have LY := Lib.hid (fun w3 (hv3 : Vars w3) => L5_yes z1 hr w3 hv3)
          rw [← ht] at LY
          have HR := Lib.hid hr
          clear ht hr
          by_cases hq : t.data.toList = s.data.toList
          · have q1 : (t.toList == s.toList) = true := by rw [ByteArray.toList_eq, ByteArray.toList_eq, beq_iff_eq]; exact hq
            have HE := Lib.hid (hdt.symm.trans hq)
            clear hq hdt
            go_wp2_with (first | (go_at_call 30; refine (has5 _).mono ?_; rintro e w1 ⟨rfl, rfl⟩) | (go_at_call 31; ((with_reducible refine (N1.out _ (HV.out _ HN.out.below) HN.out.strs).mono ?_); rintro e v1 ⟨rfl, hb1⟩; have HM1 := Lib.hid (HN.out.to hb1); have HN1 := Lib.hid (HM1.out.set 2 (.int .i64 z1) ⟨5, 0, z1, 0, 0, 0, []⟩ rfl); have cs1 := HM1.out.row.cell 2 (v := .int .i64 0) rfl; have fs1 := HM1.out.row.free 2; clear hb1 cx)) | (refine wpList_load_row rfl 40 (.tmp 5) rfl X rfl 40 _ (0, 0) _ HN1.out.row.is Tryd.underlying40 rfl (size40 _) ?_) | (go_at_call 15; refine (LY.out _ (HV.out _ HN1.out.below)).mono ?_; rintro e w9 ⟨rfl, hb9⟩; have HN9 := Lib.hid (HN1.out.to hb9); clear hb9) | (refine wpList_buildTo rfl 40 #[] rfl (some 87) rfl (stepV stZ) (by simpa using built40) ?_) | (refine wpList_store_rowTo rfl 40 (.tmp 2) (.tmp 87) rfl rfl w.heap.size (stepV stZ) rfl rfl 40 (stepV stZ) HN9.out.res.is (size40 _) (old40 _ _) (one40 _) ?_) | (refine wpList_load_row rfl 40 (.tmp 5) rfl X rfl 40 _ (0, 0) _ HN9.out.row.is Tryd.underlying40 rfl (size40 _) ?_) | (refine wpList_store_rowTo rfl 40 (.tmp 2) (.tmp 88) rfl rfl w.heap.size (stepV ⟨5, 0, z1, 0, 0, 0, []⟩) rfl rfl 40 (stepV stZ) HN9.out.res.is (size40 _) (old40 _ _) (one40 _) ?_))
            refine bodyPost_ret (v := .tuple #[.agg (stepV ⟨5, 0, z1, 0, 0, 0, []⟩), .int .i64 0]) (results_row_tmp Tryd.results13 _ _ w.heap.size 40 _ (0, 0) _ rfl (HN9.out.res.row (ys := stepV ⟨5, 0, z1, 0, 0, 0, []⟩)).is Tryd.underlying40 rfl (size40 _)) rfl ⟨?_, belowRow HN9.out.below (Nat.le_refl _) _⟩
            rw [parseT_yes HP.out HR.out HE.out]
          · have q1 : (t.toList == s.toList) = false := by rw [ByteArray.toList_eq, ByteArray.toList_eq, beq_eq_false_iff_ne]; exact hq
            have HE := Lib.hid (fun h => hq (hdt.trans h))
            clear hq hdt
            go_wp2_with (first | (go_at_call 30; refine (has5 _).mono ?_; rintro e w1 ⟨rfl, rfl⟩) | (go_at_call 31; ((with_reducible refine (N1.out _ (HV.out _ HN.out.below) HN.out.strs).mono ?_); rintro e v1 ⟨rfl, hb1⟩; have HM1 := Lib.hid (HN.out.to hb1); have HN1 := Lib.hid (HM1.out.set 2 (.int .i64 z1) ⟨5, 0, z1, 0, 0, 0, []⟩ rfl); have cs1 := HM1.out.row.cell 2 (v := .int .i64 0) rfl; have fs1 := HM1.out.row.free 2; clear hb1 cx)) | (refine wpList_load_row rfl 40 (.tmp 5) rfl X rfl 40 _ (0, 0) _ HN1.out.row.is Tryd.underlying40 rfl (size40 _) ?_) | (go_at_call 15; refine (LY.out _ (HV.out _ HN1.out.below)).mono ?_; rintro e w9 ⟨rfl, hb9⟩; have HN9 := Lib.hid (HN1.out.to hb9); clear hb9) | (refine wpList_buildTo rfl 40 #[] rfl (some 87) rfl (stepV stZ) (by simpa using built40) ?_) | (refine wpList_store_rowTo rfl 40 (.tmp 2) (.tmp 87) rfl rfl w.heap.size (stepV stZ) rfl rfl 40 (stepV stZ) HN9.out.res.is (size40 _) (old40 _ _) (one40 _) ?_) | (refine wpList_load_row rfl 40 (.tmp 5) rfl X rfl 40 _ (0, 0) _ HN9.out.row.is Tryd.underlying40 rfl (size40 _) ?_) | (refine wpList_store_rowTo rfl 40 (.tmp 2) (.tmp 88) rfl rfl w.heap.size (stepV ⟨5, 0, z1, 0, 0, 0, []⟩) rfl rfl 40 (stepV stZ) HN9.out.res.is (size40 _) (old40 _ _) (one40 _) ?_))
            refine bodyPost_ret (v := .tuple #[.agg (stepV stZ), .int .i64 3]) (results_row_tmp Tryd.results13 _ _ w.heap.size 40 _ (0, 0) _ rfl (HN9.out.res.row (ys := stepV stZ)).is Tryd.underlying40 rfl (size40 _)) rfl ⟨?_, belowRow HN9.out.below (Nat.le_refl _) _⟩
            rw [parseT_ne HP.out HE.out]
      · have hp : progSt (splitSp s.data.toList) = ⟨6, numAt (lists ws) 1, numAt (lists ws) 2, 0, 0, 0, []⟩ := HPK.out
        have HP := Lib.hid hp
        clear hp HPK
        have cx := HN.out.row.cell 0 (v := .int .i64 6) rfl
        have hk16 := HN.out.row.lt
        have qb1 := bits31
        have qb2 := bits32
        have qb4 := bits34
        have N1 := Lib.hid (show ∀ w3, Vars w3 → Strs w3 g ws → Calls Tryd.prog 31 #[.slice (some ⟨g, 0, none⟩) ws.length cap, .int .i64 1] w3 fun e w' => e = .returned (.int .i64 (numAt (lists ws) 1)) ∧ Below w3.heap.size w3 w' from fun w3 hv3 hs3 => number g cap ws 1 (by omega) (by omega) w3 hv3 hs3)
        obtain ⟨z1, hz1⟩ : ∃ z, z = numAt (lists ws) 1 := ⟨_, rfl⟩
        rw [← hz1] at N1 HP
        clear hz1
        have N2 := Lib.hid (show ∀ w3, Vars w3 → Strs w3 g ws → Calls Tryd.prog 31 #[.slice (some ⟨g, 0, none⟩) ws.length cap, .int .i64 2] w3 fun e w' => e = .returned (.int .i64 (numAt (lists ws) 2)) ∧ Below w3.heap.size w3 w' from fun w3 hv3 hs3 => number g cap ws 2 (by omega) (by omega) w3 hv3 hs3)
        obtain ⟨z2, hz2⟩ : ∃ z, z = numAt (lists ws) 2 := ⟨_, rfl⟩
        rw [← hz2] at N2 HP
        clear hz2
        cases hr : right ⟨6, z1, z2, 0, 0, 0, []⟩
        · have HR := Lib.hid hr
          have LN := Lib.hid (fun w3 => L6_no z1 z2 hr w3)
          clear hr
          go_wp2_with (first | (go_at_call 30; refine (has6 _).mono ?_; rintro e w1 ⟨rfl, rfl⟩) | (go_at_call 31; ((with_reducible refine (N1.out _ (HV.out _ HN.out.below) HN.out.strs).mono ?_); rintro e v1 ⟨rfl, hb1⟩; have HM1 := Lib.hid (HN.out.to hb1); have HN1 := Lib.hid (HM1.out.set 1 (.int .i64 z1) ⟨6, z1, 0, 0, 0, 0, []⟩ rfl); have cs1 := HM1.out.row.cell 1 (v := .int .i64 0) rfl; have fs1 := HM1.out.row.free 1; clear hb1 cx)) | (go_at_call 31; ((with_reducible refine (N2.out _ (HV.out _ HN1.out.below) HN1.out.strs).mono ?_); rintro e v2 ⟨rfl, hb2⟩; have HM2 := Lib.hid (HN1.out.to hb2); have HN2 := Lib.hid (HM2.out.set 2 (.int .i64 z2) ⟨6, z1, z2, 0, 0, 0, []⟩ rfl); have cs2 := HM2.out.row.cell 2 (v := .int .i64 0) rfl; have fs2 := HM2.out.row.free 2; clear hb2)) | (refine wpList_load_row rfl 40 (.tmp 5) rfl X rfl 40 _ (0, 0) _ HN2.out.row.is Tryd.underlying40 rfl (size40 _) ?_) | (go_at_call 15; refine (LN.out _).mono ?_; rintro e w9 ⟨rfl, hb9⟩; have HN9 := Lib.hid (HN2.out.to hb9); clear hb9) | (refine wpList_buildTo rfl 40 #[] rfl (some 87) rfl (stepV stZ) (by simpa using built40) ?_) | (refine wpList_store_rowTo rfl 40 (.tmp 2) (.tmp 87) rfl rfl w.heap.size (stepV stZ) rfl rfl 40 (stepV stZ) HN9.out.res.is (size40 _) (old40 _ _) (one40 _) ?_) | (refine wpList_load_row rfl 40 (.tmp 5) rfl X rfl 40 _ (0, 0) _ HN9.out.row.is Tryd.underlying40 rfl (size40 _) ?_) | (refine wpList_store_rowTo rfl 40 (.tmp 2) (.tmp 88) rfl rfl w.heap.size (stepV ⟨6, z1, z2, 0, 0, 0, []⟩) rfl rfl 40 (stepV stZ) HN9.out.res.is (size40 _) (old40 _ _) (one40 _) ?_))
          refine bodyPost_ret (v := .tuple #[.agg (stepV stZ), .int .i64 3]) (results_row_tmp Tryd.results13 _ _ w.heap.size 40 _ (0, 0) _ rfl (HN9.out.res.row (ys := stepV stZ)).is Tryd.underlying40 rfl (size40 _)) rfl ⟨?_, belowRow HN9.out.below (Nat.le_refl _) _⟩
          rw [parseT_no HP.out HR.out]
        · obtain ⟨t, ht⟩ : ∃ t, t = lineB ⟨6, z1, z2, 0, 0, 0, []⟩ := ⟨_, rfl⟩
          have hdt : t.data.toList = lineL ⟨6, z1, z2, 0, 0, 0, []⟩ := by rw [ht]; rfl
          have LY := Lib.hid (fun w3 (hv3 : Vars w3) => L6_yes z1 z2 hr w3 hv3)
          rw [← ht] at LY
          have HR := Lib.hid hr
          clear ht hr
          by_cases hq : t.data.toList = s.data.toList
          · have q1 : (t.toList == s.toList) = true := by rw [ByteArray.toList_eq, ByteArray.toList_eq, beq_iff_eq]; exact hq
            have HE := Lib.hid (hdt.symm.trans hq)
            clear hq hdt
            go_wp2_with (first | (go_at_call 30; refine (has6 _).mono ?_; rintro e w1 ⟨rfl, rfl⟩) | (go_at_call 31; ((with_reducible refine (N1.out _ (HV.out _ HN.out.below) HN.out.strs).mono ?_); rintro e v1 ⟨rfl, hb1⟩; have HM1 := Lib.hid (HN.out.to hb1); have HN1 := Lib.hid (HM1.out.set 1 (.int .i64 z1) ⟨6, z1, 0, 0, 0, 0, []⟩ rfl); have cs1 := HM1.out.row.cell 1 (v := .int .i64 0) rfl; have fs1 := HM1.out.row.free 1; clear hb1 cx)) | (go_at_call 31; ((with_reducible refine (N2.out _ (HV.out _ HN1.out.below) HN1.out.strs).mono ?_); rintro e v2 ⟨rfl, hb2⟩; have HM2 := Lib.hid (HN1.out.to hb2); have HN2 := Lib.hid (HM2.out.set 2 (.int .i64 z2) ⟨6, z1, z2, 0, 0, 0, []⟩ rfl); have cs2 := HM2.out.row.cell 2 (v := .int .i64 0) rfl; have fs2 := HM2.out.row.free 2; clear hb2)) | (refine wpList_load_row rfl 40 (.tmp 5) rfl X rfl 40 _ (0, 0) _ HN2.out.row.is Tryd.underlying40 rfl (size40 _) ?_) | (go_at_call 15; refine (LY.out _ (HV.out _ HN2.out.below)).mono ?_; rintro e w9 ⟨rfl, hb9⟩; have HN9 := Lib.hid (HN2.out.to hb9); clear hb9) | (refine wpList_buildTo rfl 40 #[] rfl (some 87) rfl (stepV stZ) (by simpa using built40) ?_) | (refine wpList_store_rowTo rfl 40 (.tmp 2) (.tmp 87) rfl rfl w.heap.size (stepV stZ) rfl rfl 40 (stepV stZ) HN9.out.res.is (size40 _) (old40 _ _) (one40 _) ?_) | (refine wpList_load_row rfl 40 (.tmp 5) rfl X rfl 40 _ (0, 0) _ HN9.out.row.is Tryd.underlying40 rfl (size40 _) ?_) | (refine wpList_store_rowTo rfl 40 (.tmp 2) (.tmp 88) rfl rfl w.heap.size (stepV ⟨6, z1, z2, 0, 0, 0, []⟩) rfl rfl 40 (stepV stZ) HN9.out.res.is (size40 _) (old40 _ _) (one40 _) ?_))
            refine bodyPost_ret (v := .tuple #[.agg (stepV ⟨6, z1, z2, 0, 0, 0, []⟩), .int .i64 0]) (results_row_tmp Tryd.results13 _ _ w.heap.size 40 _ (0, 0) _ rfl (HN9.out.res.row (ys := stepV ⟨6, z1, z2, 0, 0, 0, []⟩)).is Tryd.underlying40 rfl (size40 _)) rfl ⟨?_, belowRow HN9.out.below (Nat.le_refl _) _⟩
            rw [parseT_yes HP.out HR.out HE.out]
          · have q1 : (t.toList == s.toList) = false := by rw [ByteArray.toList_eq, ByteArray.toList_eq, beq_eq_false_iff_ne]; exact hq
            have HE := Lib.hid (fun h => hq (hdt.trans h))
            clear hq hdt
            go_wp2_with (first | (go_at_call 30; refine (has6 _).mono ?_; rintro e w1 ⟨rfl, rfl⟩) | (go_at_call 31; ((with_reducible refine (N1.out _ (HV.out _ HN.out.below) HN.out.strs).mono ?_); rintro e v1 ⟨rfl, hb1⟩; have HM1 := Lib.hid (HN.out.to hb1); have HN1 := Lib.hid (HM1.out.set 1 (.int .i64 z1) ⟨6, z1, 0, 0, 0, 0, []⟩ rfl); have cs1 := HM1.out.row.cell 1 (v := .int .i64 0) rfl; have fs1 := HM1.out.row.free 1; clear hb1 cx)) | (go_at_call 31; ((with_reducible refine (N2.out _ (HV.out _ HN1.out.below) HN1.out.strs).mono ?_); rintro e v2 ⟨rfl, hb2⟩; have HM2 := Lib.hid (HN1.out.to hb2); have HN2 := Lib.hid (HM2.out.set 2 (.int .i64 z2) ⟨6, z1, z2, 0, 0, 0, []⟩ rfl); have cs2 := HM2.out.row.cell 2 (v := .int .i64 0) rfl; have fs2 := HM2.out.row.free 2; clear hb2)) | (refine wpList_load_row rfl 40 (.tmp 5) rfl X rfl 40 _ (0, 0) _ HN2.out.row.is Tryd.underlying40 rfl (size40 _) ?_) | (go_at_call 15; refine (LY.out _ (HV.out _ HN2.out.below)).mono ?_; rintro e w9 ⟨rfl, hb9⟩; have HN9 := Lib.hid (HN2.out.to hb9); clear hb9) | (refine wpList_buildTo rfl 40 #[] rfl (some 87) rfl (stepV stZ) (by simpa using built40) ?_) | (refine wpList_store_rowTo rfl 40 (.tmp 2) (.tmp 87) rfl rfl w.heap.size (stepV stZ) rfl rfl 40 (stepV stZ) HN9.out.res.is (size40 _) (old40 _ _) (one40 _) ?_) | (refine wpList_load_row rfl 40 (.tmp 5) rfl X rfl 40 _ (0, 0) _ HN9.out.row.is Tryd.underlying40 rfl (size40 _) ?_) | (refine wpList_store_rowTo rfl 40 (.tmp 2) (.tmp 88) rfl rfl w.heap.size (stepV ⟨6, z1, z2, 0, 0, 0, []⟩) rfl rfl 40 (stepV stZ) HN9.out.res.is (size40 _) (old40 _ _) (one40 _) ?_))
            refine bodyPost_ret (v := .tuple #[.agg (stepV stZ), .int .i64 3]) (results_row_tmp Tryd.results13 _ _ w.heap.size 40 _ (0, 0) _ rfl (HN9.out.res.row (ys := stepV stZ)).is Tryd.underlying40 rfl (size40 _)) rfl ⟨?_, belowRow HN9.out.below (Nat.le_refl _) _⟩
            rw [parseT_ne HP.out HE.out]
      · have hp : progSt (splitSp s.data.toList) = ⟨7, 0, 0, 0, 0, 0, []⟩ := HPK.out
        have HP := Lib.hid hp
        clear hp HPK
        have cx := HN.out.row.cell 0 (v := .int .i64 7) rfl
        have hk16 := HN.out.row.lt
        have qb1 := bits01
        have qb2 := bits02
        have qb4 := bits04
        have hr : right ⟨7, 0, 0, 0, 0, 0, []⟩ = true := rfl
        obtain ⟨t, ht⟩ : ∃ t, t = lineB ⟨7, 0, 0, 0, 0, 0, []⟩ := ⟨_, rfl⟩
        have hdt : t.data.toList = lineL ⟨7, 0, 0, 0, 0, 0, []⟩ := by rw [ht]; rfl
        have LY := Lib.hid (fun w3 (hv3 : Vars w3) => L7_yes hr w3 hv3)
        rw [← ht] at LY
        have HR := Lib.hid hr
        clear ht hr
        by_cases hq : t.data.toList = s.data.toList
        · have q1 : (t.toList == s.toList) = true := by rw [ByteArray.toList_eq, ByteArray.toList_eq, beq_iff_eq]; exact hq
          have HE := Lib.hid (hdt.symm.trans hq)
          clear hq hdt
          go_wp2_with (first | (go_at_call 30; refine (has7 _).mono ?_; rintro e w1 ⟨rfl, rfl⟩) | (refine wpList_load_row rfl 40 (.tmp 5) rfl X rfl 40 _ (0, 0) _ HN.out.row.is Tryd.underlying40 rfl (size40 _) ?_) | (go_at_call 15; refine (LY.out _ (HV.out _ HN.out.below)).mono ?_; rintro e w9 ⟨rfl, hb9⟩; have HN9 := Lib.hid (HN.out.to hb9); clear hb9) | (refine wpList_buildTo rfl 40 #[] rfl (some 87) rfl (stepV stZ) (by simpa using built40) ?_) | (refine wpList_store_rowTo rfl 40 (.tmp 2) (.tmp 87) rfl rfl w.heap.size (stepV stZ) rfl rfl 40 (stepV stZ) HN9.out.res.is (size40 _) (old40 _ _) (one40 _) ?_) | (refine wpList_load_row rfl 40 (.tmp 5) rfl X rfl 40 _ (0, 0) _ HN9.out.row.is Tryd.underlying40 rfl (size40 _) ?_) | (refine wpList_store_rowTo rfl 40 (.tmp 2) (.tmp 88) rfl rfl w.heap.size (stepV ⟨7, 0, 0, 0, 0, 0, []⟩) rfl rfl 40 (stepV stZ) HN9.out.res.is (size40 _) (old40 _ _) (one40 _) ?_))
          refine bodyPost_ret (v := .tuple #[.agg (stepV ⟨7, 0, 0, 0, 0, 0, []⟩), .int .i64 0]) (results_row_tmp Tryd.results13 _ _ w.heap.size 40 _ (0, 0) _ rfl (HN9.out.res.row (ys := stepV ⟨7, 0, 0, 0, 0, 0, []⟩)).is Tryd.underlying40 rfl (size40 _)) rfl ⟨?_, belowRow HN9.out.below (Nat.le_refl _) _⟩
          rw [parseT_yes HP.out HR.out HE.out]
        · have q1 : (t.toList == s.toList) = false := by rw [ByteArray.toList_eq, ByteArray.toList_eq, beq_eq_false_iff_ne]; exact hq
          have HE := Lib.hid (fun h => hq (hdt.trans h))
          clear hq hdt
          go_wp2_with (first | (go_at_call 30; refine (has7 _).mono ?_; rintro e w1 ⟨rfl, rfl⟩) | (refine wpList_load_row rfl 40 (.tmp 5) rfl X rfl 40 _ (0, 0) _ HN.out.row.is Tryd.underlying40 rfl (size40 _) ?_) | (go_at_call 15; refine (LY.out _ (HV.out _ HN.out.below)).mono ?_; rintro e w9 ⟨rfl, hb9⟩; have HN9 := Lib.hid (HN.out.to hb9); clear hb9) | (refine wpList_buildTo rfl 40 #[] rfl (some 87) rfl (stepV stZ) (by simpa using built40) ?_) | (refine wpList_store_rowTo rfl 40 (.tmp 2) (.tmp 87) rfl rfl w.heap.size (stepV stZ) rfl rfl 40 (stepV stZ) HN9.out.res.is (size40 _) (old40 _ _) (one40 _) ?_) | (refine wpList_load_row rfl 40 (.tmp 5) rfl X rfl 40 _ (0, 0) _ HN9.out.row.is Tryd.underlying40 rfl (size40 _) ?_) | (refine wpList_store_rowTo rfl 40 (.tmp 2) (.tmp 88) rfl rfl w.heap.size (stepV ⟨7, 0, 0, 0, 0, 0, []⟩) rfl rfl 40 (stepV stZ) HN9.out.res.is (size40 _) (old40 _ _) (one40 _) ?_))
          refine bodyPost_ret (v := .tuple #[.agg (stepV stZ), .int .i64 3]) (results_row_tmp Tryd.results13 _ _ w.heap.size 40 _ (0, 0) _ rfl (HN9.out.res.row (ys := stepV stZ)).is Tryd.underlying40 rfl (size40 _)) rfl ⟨?_, belowRow HN9.out.below (Nat.le_refl _) _⟩
          rw [parseT_ne HP.out HE.out]
      · have hp : progSt (splitSp s.data.toList) = ⟨8, 0, 0, 0, 0, 0, []⟩ := HPK.out
        have HP := Lib.hid hp
        clear hp HPK
        have cx := HN.out.row.cell 0 (v := .int .i64 8) rfl
        have hk16 := HN.out.row.lt
        have qb1 := bits01
        have qb2 := bits02
        have qb4 := bits04
        have hr : right ⟨8, 0, 0, 0, 0, 0, []⟩ = true := rfl
        obtain ⟨t, ht⟩ : ∃ t, t = lineB ⟨8, 0, 0, 0, 0, 0, []⟩ := ⟨_, rfl⟩
        have hdt : t.data.toList = lineL ⟨8, 0, 0, 0, 0, 0, []⟩ := by rw [ht]; rfl
        have LY := Lib.hid (fun w3 (hv3 : Vars w3) => L8_yes hr w3 hv3)
        rw [← ht] at LY
        have HR := Lib.hid hr
        clear ht hr
        by_cases hq : t.data.toList = s.data.toList
        · have q1 : (t.toList == s.toList) = true := by rw [ByteArray.toList_eq, ByteArray.toList_eq, beq_iff_eq]; exact hq
          have HE := Lib.hid (hdt.symm.trans hq)
          clear hq hdt
          go_wp2_with (first | (go_at_call 30; refine (has8 _).mono ?_; rintro e w1 ⟨rfl, rfl⟩) | (refine wpList_load_row rfl 40 (.tmp 5) rfl X rfl 40 _ (0, 0) _ HN.out.row.is Tryd.underlying40 rfl (size40 _) ?_) | (go_at_call 15; refine (LY.out _ (HV.out _ HN.out.below)).mono ?_; rintro e w9 ⟨rfl, hb9⟩; have HN9 := Lib.hid (HN.out.to hb9); clear hb9) | (refine wpList_buildTo rfl 40 #[] rfl (some 87) rfl (stepV stZ) (by simpa using built40) ?_) | (refine wpList_store_rowTo rfl 40 (.tmp 2) (.tmp 87) rfl rfl w.heap.size (stepV stZ) rfl rfl 40 (stepV stZ) HN9.out.res.is (size40 _) (old40 _ _) (one40 _) ?_) | (refine wpList_load_row rfl 40 (.tmp 5) rfl X rfl 40 _ (0, 0) _ HN9.out.row.is Tryd.underlying40 rfl (size40 _) ?_) | (refine wpList_store_rowTo rfl 40 (.tmp 2) (.tmp 88) rfl rfl w.heap.size (stepV ⟨8, 0, 0, 0, 0, 0, []⟩) rfl rfl 40 (stepV stZ) HN9.out.res.is (size40 _) (old40 _ _) (one40 _) ?_))
          refine bodyPost_ret (v := .tuple #[.agg (stepV ⟨8, 0, 0, 0, 0, 0, []⟩), .int .i64 0]) (results_row_tmp Tryd.results13 _ _ w.heap.size 40 _ (0, 0) _ rfl (HN9.out.res.row (ys := stepV ⟨8, 0, 0, 0, 0, 0, []⟩)).is Tryd.underlying40 rfl (size40 _)) rfl ⟨?_, belowRow HN9.out.below (Nat.le_refl _) _⟩
          rw [parseT_yes HP.out HR.out HE.out]
        · have q1 : (t.toList == s.toList) = false := by rw [ByteArray.toList_eq, ByteArray.toList_eq, beq_eq_false_iff_ne]; exact hq
          have HE := Lib.hid (fun h => hq (hdt.trans h))
          clear hq hdt
          go_wp2_with (first | (go_at_call 30; refine (has8 _).mono ?_; rintro e w1 ⟨rfl, rfl⟩) | (refine wpList_load_row rfl 40 (.tmp 5) rfl X rfl 40 _ (0, 0) _ HN.out.row.is Tryd.underlying40 rfl (size40 _) ?_) | (go_at_call 15; refine (LY.out _ (HV.out _ HN.out.below)).mono ?_; rintro e w9 ⟨rfl, hb9⟩; have HN9 := Lib.hid (HN.out.to hb9); clear hb9) | (refine wpList_buildTo rfl 40 #[] rfl (some 87) rfl (stepV stZ) (by simpa using built40) ?_) | (refine wpList_store_rowTo rfl 40 (.tmp 2) (.tmp 87) rfl rfl w.heap.size (stepV stZ) rfl rfl 40 (stepV stZ) HN9.out.res.is (size40 _) (old40 _ _) (one40 _) ?_) | (refine wpList_load_row rfl 40 (.tmp 5) rfl X rfl 40 _ (0, 0) _ HN9.out.row.is Tryd.underlying40 rfl (size40 _) ?_) | (refine wpList_store_rowTo rfl 40 (.tmp 2) (.tmp 88) rfl rfl w.heap.size (stepV ⟨8, 0, 0, 0, 0, 0, []⟩) rfl rfl 40 (stepV stZ) HN9.out.res.is (size40 _) (old40 _ _) (one40 _) ?_))
          refine bodyPost_ret (v := .tuple #[.agg (stepV stZ), .int .i64 3]) (results_row_tmp Tryd.results13 _ _ w.heap.size 40 _ (0, 0) _ rfl (HN9.out.res.row (ys := stepV stZ)).is Tryd.underlying40 rfl (size40 _)) rfl ⟨?_, belowRow HN9.out.below (Nat.le_refl _) _⟩
          rw [parseT_ne HP.out HE.out]
end Go.Proofs.YtoahfegeeimomaaDoor.Parse
