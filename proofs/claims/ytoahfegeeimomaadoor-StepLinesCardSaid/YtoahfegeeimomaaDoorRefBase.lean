/- The reference's Parse, the plain part. Conditions: as stated in each theorem. -/
import Derived.Test.YtoahfegeeimomaaDoorParse
import Derived.Test.YtoahfegeeimomaaDoorRefRight
import Derived.Deep.RegionWith
set_option linter.unusedVariables false
set_option linter.unusedSimpArgs false
namespace Go.Proofs.YtoahfegeeimomaaDoor.RefParse
open Go.RowKit Base RowD Number TextP LinesPlain Num LoopsPlain Loops Loops2 Kinds Right RefRight Hex Line Line3 RefWords Split Parse
set_option maxRecDepth 100000

theorem refBytes (s : ByteArray) (hm : s.size ≤ 1000) (w : World) : Calls Tryd.prog 41 #[.string s] w fun e w' => e = .returned (bytesT (bytesR s.data.toList)) ∧ Below w.heap.size w w' := by
  by_cases h0 : s.size = 0
  · rw [empty_of h0]; exact refBytes_empty w
  by_cases h2 : s.size % 2 = 0
  · exact refBytes_even s (by omega) h2 hm w
  by_cases h1 : s.data.toList = [45]
  · have : s = ⟨#[45]⟩ := by
      apply ByteArray.ext
      apply Array.toList_inj.1
      exact h1
    rw [this]; exact refBytes_dash w
  · exact refBytes_odd s h1 (by omega) hm w
/-- what the reference's Parse answers -/
def RP (l : List UInt8) (e : Ending) : Prop :=
  (∃ y, refSt (splitSp l) = some y ∧ e = .returned (.tuple #[.agg (stepV y), .bool true])) ∨ (refSt (splitSp l) = none ∧ ∃ y, e = .returned (.tuple #[.agg (stepV y), .bool false]))
def refK (k : Nat) (w : List (List UInt8)) : Option St :=
  match k with
  | 1 => if w.length = 2 then (small (w.getD 1 []) 2147483647).map fun n => ⟨1, 0, n, 0, 0, 0, []⟩ else none
  | 2 => if w.length = 2 then (small (w.getD 1 []) 1).map fun s => ⟨2, s, 0, 0, 0, 0, []⟩ else none
  | 3 => if w.length = 5 then
      (small (w.getD 1 []) 3).bind fun c => (small (w.getD 2 []) 1).bind fun f => (numR (w.getD 3 [])).bind fun t => (bytesR (w.getD 4 [])).bind fun d =>
        if d.length ≤ 64 then some ⟨3, 0, 0, c, f, t, d⟩ else none
    else none
  | 4 => if w.length = 2 then (small (w.getD 1 []) 1).map fun s => ⟨4, s, 0, 0, 0, 0, []⟩ else none
  | 5 => if w.length = 2 then (small (w.getD 1 []) 7).map fun n => ⟨5, 0, n, 0, 0, 0, []⟩ else none
  | 6 => if w.length = 3 then (small (w.getD 1 []) 1).bind fun s => (small (w.getD 2 []) 4).bind fun n => if n = 0 then none else some ⟨6, s, n, 0, 0, 0, []⟩ else none
  | 7 => if w.length = 1 then some ⟨7, 0, 0, 0, 0, 0, []⟩ else none
  | 8 => if w.length = 1 then some ⟨8, 0, 0, 0, 0, 0, []⟩ else none
  | _ => none
theorem refSt_K (ws : List ByteArray) (w0 : ByteArray) (rs : List ByteArray) (h : ws = w0 :: rs) (l : List UInt8) (hl : lists ws = splitSp l) : refSt (splitSp l) = refK (kindUp w0.data.toList 8) (lists ws) := by
  rw [← hl, h]
  rfl
theorem in_putRow {w wr : World} {X g : Nat} {ws : List ByteArray} {x : St} (h : In w wr X g ws x) (y : St) : In w (wr.setRow X (stepV y)) X g ws y :=
  ⟨h.res.rowOther (by have := h.ne; omega), h.row.row, ⟨fun j hj => (World.cell?_of_block (w := wr) (a := ⟨g, j, none⟩) (setRow_other _ _ _ _ h.ng)).trans (h.strs.cell j hj), h.strs.size⟩, belowRow h.below (by have := h.ne; omega) _, h.ne, h.ng⟩
theorem ref1_no {w : List (List UInt8)} (hl : w.length = 2) (h : small (w.getD 1 []) 2147483647 = none) : refK 1 w = none := by
  rw [refK, if_pos hl, h]; rfl
theorem ref1_yes {w : List (List UInt8)} {v : Nat} (hl : w.length = 2) (h : small (w.getD 1 []) 2147483647 = some v) : refK 1 w = some ⟨1, 0, (v : Int), 0, 0, 0, []⟩ := by
  rw [refK, if_pos hl, h]; rfl
theorem ref5_no {w : List (List UInt8)} (hl : w.length = 2) (h : small (w.getD 1 []) 7 = none) : refK 5 w = none := by
  rw [refK, if_pos hl, h]; rfl
theorem ref5_yes {w : List (List UInt8)} {v : Nat} (hl : w.length = 2) (h : small (w.getD 1 []) 7 = some v) : refK 5 w = some ⟨5, 0, (v : Int), 0, 0, 0, []⟩ := by
  rw [refK, if_pos hl, h]; rfl
theorem ref2_no {w : List (List UInt8)} (hl : w.length = 2) (h : small (w.getD 1 []) 1 = none) : refK 2 w = none := by
  rw [refK, if_pos hl, h]; rfl
theorem ref2_yes {w : List (List UInt8)} {v : Nat} (hl : w.length = 2) (h : small (w.getD 1 []) 1 = some v) : refK 2 w = some ⟨2, (v : Int), 0, 0, 0, 0, []⟩ := by
  rw [refK, if_pos hl, h]; rfl
theorem ref4_no {w : List (List UInt8)} (hl : w.length = 2) (h : small (w.getD 1 []) 1 = none) : refK 4 w = none := by
  rw [refK, if_pos hl, h]; rfl
theorem ref4_yes {w : List (List UInt8)} {v : Nat} (hl : w.length = 2) (h : small (w.getD 1 []) 1 = some v) : refK 4 w = some ⟨4, (v : Int), 0, 0, 0, 0, []⟩ := by
  rw [refK, if_pos hl, h]; rfl
theorem ref6_no1 {w : List (List UInt8)} (hl : w.length = 3) (h : small (w.getD 1 []) 1 = none) : refK 6 w = none := by
  rw [refK, if_pos hl, h]; rfl
theorem ref6_no2 {w : List (List UInt8)} {v : Nat} (hl : w.length = 3) (h : small (w.getD 1 []) 1 = some v) (h2 : small (w.getD 2 []) 4 = none) : refK 6 w = none := by
  rw [refK, if_pos hl, h, h2]; rfl
theorem ref6_no3 {w : List (List UInt8)} {v : Nat} (hl : w.length = 3) (h : small (w.getD 1 []) 1 = some v) (h2 : small (w.getD 2 []) 4 = some 0) : refK 6 w = none := by
  rw [refK, if_pos hl, h, h2]; rfl
theorem ref6_yes {w : List (List UInt8)} {v n : Nat} (hl : w.length = 3) (h : small (w.getD 1 []) 1 = some v) (h2 : small (w.getD 2 []) 4 = some n) (hn : n ≠ 0) : refK 6 w = some ⟨6, (v : Int), (n : Int), 0, 0, 0, []⟩ := by
  rw [refK, if_pos hl, h, h2]; simp [hn]
theorem smallT_is (o : Option Nat) : ∃ (v : Nat) (b : Bool), smallT o = .tuple #[.int .i64 (v : Int), .bool b] ∧ o = if b then some v else none := by
  cases o with
  | none => exact ⟨0, false, rfl, rfl⟩
  | some v => exact ⟨v, true, rfl, rfl⟩
theorem numT_is (o : Option Nat) : ∃ (v : Nat) (b : Bool), numT o = .tuple #[.int .u64 (v : Int), .bool b] ∧ o = if b then some v else none := by
  cases o with
  | none => exact ⟨0, false, rfl, rfl⟩
  | some v => exact ⟨v, true, rfl, rfl⟩
theorem bytesT_is (o : Option (List UInt8)) : ∃ (v : List UInt8) (b : Bool), bytesT o = .tuple #[.string ⟨v.toArray⟩, .bool b] ∧ o = if b then some v else none := by
  cases o with
  | none => exact ⟨[], false, rfl, rfl⟩
  | some v => exact ⟨v, true, rfl, rfl⟩
theorem ref3_no {a b c : Bool} {va vb vt : Nat} {d : Bool} {vd : List UInt8} (h : (a && b && c && d) = false) :
    ((if a then some va else none).bind fun c' => (if b then some vb else none).bind fun f => (if c then some vt else none).bind fun t => (if d then some vd else none).bind fun d' =>
        if d'.length ≤ 64 then some (⟨3, 0, 0, (c' : Int), (f : Int), t, d'⟩ : St) else none) = none := by
  cases a <;> cases b <;> cases c <;> cases d <;> first | rfl | exact Bool.noConfusion h
theorem ref3_is {w : List (List UInt8)} {oa ob ot : Option Nat} {od : Option (List UInt8)} (hl : w.length = 5) (h1 : small (w.getD 1 []) 3 = oa) (h2 : small (w.getD 2 []) 1 = ob) (h3 : numR (w.getD 3 []) = ot) (h4 : bytesR (w.getD 4 []) = od) :
    refK 3 w = oa.bind fun c' => ob.bind fun f => ot.bind fun t => od.bind fun d' => if d'.length ≤ 64 then some (⟨3, 0, 0, (c' : Int), (f : Int), t, d'⟩ : St) else none := by
  rw [refK, if_pos hl, h1, h2, h3, h4]
theorem ref3_yes {va vb vt : Nat} {vd : List UInt8} (h : vd.length ≤ 64) :
    ((if true then some va else none).bind fun c' => (if true then some vb else none).bind fun f => (if true then some vt else none).bind fun t => (if true then some vd else none).bind fun d' =>
        if d'.length ≤ 64 then some (⟨3, 0, 0, (c' : Int), (f : Int), t, d'⟩ : St) else none) = some ⟨3, 0, 0, (va : Int), (vb : Int), vt, vd⟩ := if_pos h
theorem ref3_big {va vb vt : Nat} {vd : List UInt8} (h : ¬ vd.length ≤ 64) :
    ((if true then some va else none).bind fun c' => (if true then some vb else none).bind fun f => (if true then some vt else none).bind fun t => (if true then some vd else none).bind fun d' =>
        if d'.length ≤ 64 then some (⟨3, 0, 0, (c' : Int), (f : Int), t, d'⟩ : St) else none) = none := if_neg h
theorem rightP_small {va vb : Nat} {vd : List UInt8} (h1 : va ≤ 3) (h2 : vb ≤ 1) : rightP (va : Int) (vb : Int) ⟨vd.toArray⟩ = decide (vd.length ≤ 64) := by
  unfold rightP
  have e1 : decide (0 ≤ (va : Int)) = true := by simp
  have e2 : decide ((va : Int) < 4) = true := by simp; omega
  have e3 : (decide ((vb : Int) = 0) || decide ((vb : Int) = 1)) = true := by simp; omega
  have e4 : (ByteArray.size ⟨vd.toArray⟩) = vd.length := by simp [ByteArray.size]
  rw [e1, e2, e3, e4]
  rfl
theorem set1 {w9 : World} {g : Nat} {x : St} (h : Row w9 g (stepV x) 40) (i : Nat) (u : Value) (y : St) (hy : (stepV x).setIfInBounds i u = stepV y) : Row (w9.setCell ⟨g, i, none⟩ u) g (stepV y) 40 := hy ▸ h.set i u
theorem res_set8 {w9 : World} {g : Nat} (x : St) (h : Row w9 g (stepV stZ) 40) : Row ((((((((w9.setCell ⟨g, 0, none⟩ (.int .i64 (x.k : Int))).setCell ⟨g, 1, none⟩ (.int .i64 x.side)).setCell ⟨g, 2, none⟩ (.int .i64 x.n)).setCell ⟨g, 3, none⟩ (.int .i64 x.c)).setCell ⟨g, 4, none⟩ (.int .i64 x.f)).setCell ⟨g, 5, none⟩ (.int .u64 0)).setCell ⟨g, 6, none⟩ (.int .u64 (x.t : Int))).setCell ⟨g, 7, none⟩ (.string ⟨x.d.toArray⟩)) g (stepV x) 40 :=
  set1 (set1 (set1 (set1 (set1 (set1 (set1 (set1 h 0 _ ⟨x.k, 0, 0, 0, 0, 0, []⟩ rfl) 1 _ ⟨x.k, x.side, 0, 0, 0, 0, []⟩ rfl) 2 _ ⟨x.k, x.side, x.n, 0, 0, 0, []⟩ rfl) 3 _ ⟨x.k, x.side, x.n, x.c, 0, 0, []⟩ rfl) 4 _ ⟨x.k, x.side, x.n, x.c, x.f, 0, []⟩ rfl) 5 _ ⟨x.k, x.side, x.n, x.c, x.f, 0, []⟩ rfl) 6 _ ⟨x.k, x.side, x.n, x.c, x.f, x.t, []⟩ rfl) 7 _ x rfl
theorem below_set8 {B : Nat} {w w9 : World} {g : Nat} (x : St) (h : Below B w w9) (hg : B ≤ g) : Below B w ((((((((w9.setCell ⟨g, 0, none⟩ (.int .i64 (x.k : Int))).setCell ⟨g, 1, none⟩ (.int .i64 x.side)).setCell ⟨g, 2, none⟩ (.int .i64 x.n)).setCell ⟨g, 3, none⟩ (.int .i64 x.c)).setCell ⟨g, 4, none⟩ (.int .i64 x.f)).setCell ⟨g, 5, none⟩ (.int .u64 0)).setCell ⟨g, 6, none⟩ (.int .u64 (x.t : Int))).setCell ⟨g, 7, none⟩ (.string ⟨x.d.toArray⟩)) :=
  belowSet (belowSet (belowSet (belowSet (belowSet (belowSet (belowSet (belowSet h hg _ _) hg _ _) hg _ _) hg _ _) hg _ _) hg _ _) hg _ _) hg _ _
end Go.Proofs.YtoahfegeeimomaaDoor.RefParse
