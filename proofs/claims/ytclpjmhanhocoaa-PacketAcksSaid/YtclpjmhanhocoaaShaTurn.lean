/- sha.turn: a state turned by a block. Conditions: as stated in each theorem. -/
import Derived.Test.YtclpjmhanhocoaaShaSpread
import Derived.Test.YtclpjmhanhocoaaShaInv
import Derived.Deep.CutRange
set_option linter.unusedVariables false
set_option linter.unusedSimpArgs false
namespace Go.Proofs.Ytclpjmhanhocoaa.ShaTurn
open Go.RowKit Base Sha ShaRot ShaTab ShaRow ShaSpread ShaInv
set_option maxRecDepth 100000

def Z8 : Array Value := #[.int .u32 0, .int .u32 0, .int .u32 0, .int .u32 0, .int .u32 0, .int .u32 0, .int .u32 0, .int .u32 0]
def ptr (g : Nat) : Value := .pointer (some ⟨g, 0, none⟩)
/-- what the loops start from -/
def T0 (w wx : World) (V A : Array Value) (s5 s6 : Value) : Prop :=
  ∃ g5 g6 : Nat, s5 = ptr g5 ∧ s6 = ptr g6 ∧ w.heap.size + 2 ≤ g5 ∧ w.heap.size + 2 ≤ g6 ∧ g5 ≠ g6 ∧ Row wx w.heap.size V 104 ∧ Row wx (w.heap.size + 1) Z8 104 ∧ Row wx g5 A 122 ∧ Row wx g6 V 104 ∧ Below w.heap.size w wx
/-- the state of the region -/
def QQ (w wx : World) (V A : Array Value) (f3 f4 f5 f6 : Bool) (g5 g6 : Nat) : Prop :=
  Row wx w.heap.size V 104 ∧ Row wx (w.heap.size + 1) Z8 104 ∧ Below w.heap.size w wx ∧ w.heap.size + 2 ≤ wx.heap.size ∧ (f3 = true → w.heap.size + 2 ≤ g5 ∧ Row wx g5 (if f5 then A else Z64) 122) ∧ (f4 = true → w.heap.size + 2 ≤ g6 ∧ Row wx g6 (if f6 then V else Z8) 104) ∧ (f3 = true → f4 = true → g5 ≠ g6)
theorem QQ.below {w w1 w2 : World} {V A : Array Value} {f3 f4 f5 f6 : Bool} {g5 g6 : Nat} (h : QQ w w1 V A f3 f4 f5 f6 g5 g6) (hb : Below w1.heap.size w1 w2) : QQ w w2 V A f3 f4 f5 f6 g5 g6 :=
  ⟨h.1.below hb, h.2.1.below hb, h.2.2.1.trans (hb.mono h.2.2.1.size), Nat.le_trans h.2.2.2.1 hb.size, fun k => ⟨(h.2.2.2.2.1 k).1, (h.2.2.2.2.1 k).2.below hb⟩, fun k => ⟨(h.2.2.2.2.2.1 k).1, (h.2.2.2.2.2.1 k).2.below hb⟩, h.2.2.2.2.2.2⟩
theorem QQ.alloc5 {w w1 : World} {V A : Array Value} {f4 f6 : Bool} {g5 g6 : Nat} (h : QQ w w1 V A false f4 false f6 g5 g6) : QQ w (w1.alloc (.cells Z64 122)) V A true f4 false f6 w1.heap.size g6 := by
  obtain ⟨h1, h2, h3, h4, h5, h6, h7⟩ := h
  refine ⟨h1.alloc _, h2.alloc _, h3.alloc h3.size _, by simp; omega, fun _ => ⟨h4, Row.new _ _ _⟩, fun k => ⟨(h6 k).1, (h6 k).2.alloc _⟩, fun _ k => ?_⟩
  have := (h6 k).2.lt
  omega
theorem QQ.alloc6 {w w1 : World} {V A : Array Value} {f3 f5 : Bool} {g5 g6 : Nat} (h : QQ w w1 V A f3 false f5 false g5 g6) : QQ w (w1.alloc (.cells Z8 104)) V A f3 true f5 false g5 w1.heap.size := by
  obtain ⟨h1, h2, h3, h4, h5, h6, h7⟩ := h
  refine ⟨h1.alloc _, h2.alloc _, h3.alloc h3.size _, by simp; omega, fun k => ⟨(h5 k).1, (h5 k).2.alloc _⟩, fun _ => ⟨h4, Row.new _ _ _⟩, fun k _ => ?_⟩
  have := (h5 k).2.lt
  omega
theorem QQ.store5 {w w1 : World} {V A : Array Value} {f4 f6 : Bool} {g5 g6 : Nat} (h : QQ w w1 V A true f4 false f6 g5 g6) : QQ w (w1.setRow g5 A) V A true f4 true f6 g5 g6 := by
  obtain ⟨h1, h2, h3, h4, h5, h6, h7⟩ := h
  obtain ⟨h5a, h5b⟩ := h5 rfl
  refine ⟨h1.rowOther (by omega), h2.rowOther (by omega), belowRow h3 (by omega) _, by rw [setRow_size]; exact h4, fun _ => ⟨h5a, h5b.row⟩, fun k => ⟨(h6 k).1, (h6 k).2.rowOther (fun e => h7 rfl k e.symm)⟩, h7⟩
theorem QQ.store6 {w w1 : World} {V A : Array Value} {f3 f5 : Bool} {g5 g6 : Nat} (h : QQ w w1 V A f3 true f5 false g5 g6) : QQ w (w1.setRow g6 V) V A f3 true f5 true g5 g6 := by
  obtain ⟨h1, h2, h3, h4, h5, h6, h7⟩ := h
  obtain ⟨h6a, h6b⟩ := h6 rfl
  refine ⟨h1.rowOther (by omega), h2.rowOther (by omega), belowRow h3 (by omega) _, by rw [setRow_size]; exact h4, fun k => ⟨(h5 k).1, (h5 k).2.rowOther (h7 k rfl)⟩, fun _ => ⟨h6a, h6b.row⟩, h7⟩
theorem vals_one (s : St) : (vals s).all (·.oneCell') = true := by simp [vals, Value.oneCell']
def FR (V : Array Value) (b : ByteArray) (B : Nat) (x5 x6 x13 x14 x15 : Value) : Act := { tmps := #[.agg V, .string b, ptr B, undef, ptr (B + 1), x5, x6, undef, undef, undef, undef, undef, undef, x13, x14, x15, undef, undef, undef, undef, undef, undef, undef, undef, undef, undef, undef, undef, undef, undef, undef, undef, undef, undef, undef, undef, undef, undef, undef, undef, undef, undef, undef, undef, undef, undef, undef, undef, undef, undef, undef, undef, undef, undef, undef, undef, undef, undef, undef, undef, undef, undef, undef, undef, undef, undef, undef, undef, undef, undef, undef, undef, undef, undef, undef, undef, undef, undef, undef, undef, undef, undef, undef, undef, undef, undef, undef, undef, undef, undef, undef, undef, undef, undef, undef, undef, undef, undef, undef, undef, undef, undef, undef, undef, undef, undef, undef, undef], defers := [] }
def II (w : World) (V0 V A : Array Value) (b : ByteArray) (l : List Bool) (a : Act) (wx : World) : Prop :=
  ∃ (f0 f1 f2 f3 f4 f5 f6 : Bool) (g5 g6 : Nat) (x5 x6 x13 x14 x15 : Value), l = [f0, f1, f2, f3, f4, f5, f6] ∧ a = FR V0 b w.heap.size x5 x6 x13 x14 x15 ∧
    (f0 = true → x13 = .string b) ∧ (f1 = true → x14 = .agg A) ∧ (f2 = true → x15 = .agg V) ∧ (f3 = true → x5 = ptr g5) ∧ (f4 = true → x6 = ptr g6) ∧ QQ w wx V A f3 f4 f5 f6 g5 g6
def okState : List Bool → Bool
  | [f0, f1, f2, f3, f4, f5, f6] => (!f1 || f0) && (!f5 || (f0 && f1 && f3 && f4)) && (!f6 || (f0 && f1 && f2 && f3 && f4 && f5))
  | _ => false
def okStep : List Bool → Nat → Bool
  | [f0, _, _, _, _, _, _], 0 => !f0
  | [f0, f1, _, _, _, _, _], 1 => f0 && !f1
  | [_, _, f2, _, _, _, _], 2 => !f2
  | [_, _, _, f3, _, f5, _], 3 => !f3 && !f5
  | [_, _, _, _, f4, _, f6], 4 => !f4 && !f6
  | [_, f1, _, f3, _, f5, _], 5 => f1 && f3 && !f5
  | [_, _, f2, _, f4, _, f6], 6 => f2 && f4 && !f6
  | _, _ => false
def T1 (w wx : World) (V A : Array Value) (g5 g6 : Nat) (X : Array Value) : Prop :=
  Row wx w.heap.size V 104 ∧ Row wx (w.heap.size + 1) Z8 104 ∧ Row wx g5 A 122 ∧ Row wx g6 X 104 ∧ Below w.heap.size w wx
theorem T1.drewN {w w1 : World} {V A X : Array Value} {g5 g6 : Nat} (h : T1 w w1 V A g5 g6 X) (n : Nat) : T1 w (w1.drewN n) V A g5 g6 X := ⟨h.1.drewN n, h.2.1.drewN n, h.2.2.1.drewN n, h.2.2.2.1.drewN n, belowDrewN h.2.2.2.2 n⟩
theorem T1.below {w w1 w2 : World} {V A X : Array Value} {g5 g6 : Nat} (h : T1 w w1 V A g5 g6 X) (hb : Below w1.heap.size w1 w2) : T1 w w2 V A g5 g6 X := ⟨h.1.below hb, h.2.1.below hb, h.2.2.1.below hb, h.2.2.2.1.below hb, h.2.2.2.2.trans (hb.mono h.2.2.2.2.size)⟩
theorem T1.store {w w1 : World} {V A X Y : Array Value} {g5 g6 : Nat} (h : T1 w w1 V A g5 g6 X) (h6 : w.heap.size + 2 ≤ g6) (hn : g5 ≠ g6) : T1 w (w1.setRow g6 Y) V A g5 g6 Y := ⟨h.1.rowOther (by omega), h.2.1.rowOther (by omega), h.2.2.1.rowOther hn, h.2.2.2.1.row, belowRow h.2.2.2.2 (by omega) _⟩
theorem nextS {w1 w2 w3 : World} (h : Below w1.heap.size w1 w2) (hb : Below w2.heap.size w2 w3) : Below w1.heap.size w1 w3 := h.trans (hb.mono h.size)
theorem keepW {w1 w2 : World} {A X : Array Value} {g5 g6 t : Nat} {v7 v5 v6 vW : Value} (hA : Row w1 g5 A 122) (hX : Row w1 g6 X 104) (h7 : X[7]? = some v7) (h5 : X[5]? = some v5) (h6 : X[6]? = some v6) (hW : A[t]? = some vW) (hb : Below w1.heap.size w1 w2) :
    w2.cell? ⟨g6, 7, none⟩ = some v7 ∧ w2.cell? ⟨g6, 5, none⟩ = some v5 ∧ w2.cell? ⟨g6, 6, none⟩ = some v6 ∧ w2.cell? ⟨g5, t, none⟩ = some vW ∧ Below w1.heap.size w1 w2 :=
  ⟨(hX.below hb).cell 7 h7, (hX.below hb).cell 5 h5, (hX.below hb).cell 6 h6, (hA.below hb).cell t hW, hb⟩
theorem max32 : IntKind.u32.max = 4294967295 := by decide
theorem wrapN (a b : Nat) : IntKind.u32.wrap ((a : Int) + (b : Int)) = (((a + b) % 4294967296 : Nat) : Int) := by rw [IntKind.wrap_u32']; omega
theorem oneI {p0 p1 p2 p3 p4 p5 p6 p7 k W : Nat} (h4 : p4 < 4294967296) (h5 : p5 < 4294967296) (h6 : p6 < 4294967296) :
    IntKind.u32.wrap (IntKind.u32.wrap (IntKind.u32.wrap (IntKind.u32.wrap ((p7 : Int) + bits .xor .u32 (bits .xor .u32 (rotr p4 6 : Nat) (rotr p4 11 : Nat)) (rotr p4 25 : Nat)) + bits .or .u32 (bits .and .u32 (p4 : Int) (p5 : Int)) (bits .and .u32 (bits .xor .u32 IntKind.u32.max (p4 : Int)) (p6 : Int))) + (k : Int)) + (W : Int)) = ((one ⟨p0, p1, p2, p3, p4, p5, p6, p7⟩ k W : Nat) : Int) := by
  have r6 := rotr_lt h4 (n := 6) (by omega) (by omega)
  have r11 := rotr_lt h4 (n := 11) (by omega) (by omega)
  have r25 := rotr_lt h4 (n := 25) (by omega) (by omega)
  have hm : IntKind.u32.max = ((4294967295 : Nat) : Int) := by decide
  rw [u32_xor_nat _ _ r6 r11, u32_xor_nat _ _ (xor_lt r6 r11) r25, u32_and_nat _ _ h4 h5, hm, u32_xor_nat _ _ (by omega) h4, u32_and_nat _ _ (xor_lt (by omega) h4) h6, u32_or_nat _ _ (and_lt h4) (and_lt (xor_lt (by omega) h4)), ch_or h4]
  rw [wrapN, wrapN, wrapN, wrapN]
  congr 1
  unfold one S1
  simp only
  omega
theorem twoI {p0 p1 p2 p3 p4 p5 p6 p7 : Nat} (h0 : p0 < 4294967296) (h1 : p1 < 4294967296) (h2 : p2 < 4294967296) :
    IntKind.u32.wrap (bits .xor .u32 (bits .xor .u32 (rotr p0 2 : Nat) (rotr p0 13 : Nat)) (rotr p0 22 : Nat) + bits .or .u32 (bits .or .u32 (bits .and .u32 (p0 : Int) (p1 : Int)) (bits .and .u32 (p0 : Int) (p2 : Int))) (bits .and .u32 (p1 : Int) (p2 : Int))) = ((two ⟨p0, p1, p2, p3, p4, p5, p6, p7⟩ : Nat) : Int) := by
  have r2 := rotr_lt h0 (n := 2) (by omega) (by omega)
  have r13 := rotr_lt h0 (n := 13) (by omega) (by omega)
  have r22 := rotr_lt h0 (n := 22) (by omega) (by omega)
  rw [u32_xor_nat _ _ r2 r13, u32_xor_nat _ _ (xor_lt r2 r13) r22, u32_and_nat _ _ h0 h1, u32_and_nat _ _ h0 h2, u32_and_nat _ _ h1 h2, u32_or_nat _ _ (and_lt h0) (and_lt h0), u32_or_nat _ _ (or_lt (and_lt h0) (and_lt h0)) (and_lt h1), maj_or, wrapN]
  rfl
theorem twoM {p0 p1 p2 p3 p4 p5 p6 p7 : Nat} (h0 : p0 < 4294967296) (h1 : p1 < 4294967296) (h2 : p2 < 4294967296) :
    (bits .xor .u32 (bits .xor .u32 (rotr p0 2 : Nat) (rotr p0 13 : Nat)) (rotr p0 22 : Nat) + bits .or .u32 (bits .or .u32 (bits .and .u32 (p0 : Int) (p1 : Int)) (bits .and .u32 (p0 : Int) (p2 : Int))) (bits .and .u32 (p1 : Int) (p2 : Int))) % 4294967296 = ((two ⟨p0, p1, p2, p3, p4, p5, p6, p7⟩ : Nat) : Int) := by
  rw [← twoI h0 h1 h2, IntKind.wrap_u32']
def getW (s : St) : Nat → Nat
  | 0 => s.a
  | 1 => s.b
  | 2 => s.c
  | 3 => s.d
  | 4 => s.e
  | 5 => s.f
  | 6 => s.g
  | _ => s.h
def arr8 (f : Nat → Nat) : Array Value := #[.int .u32 (f 0 : Int), .int .u32 (f 1 : Int), .int .u32 (f 2 : Int), .int .u32 (f 3 : Int), .int .u32 (f 4 : Int), .int .u32 (f 5 : Int), .int .u32 (f 6 : Int), .int .u32 (f 7 : Int)]
theorem arr8_at (f : Nat → Nat) (t : Nat) (h : t < 8) : (arr8 f)[t]? = some (.int .u32 (f t : Int)) := by
  match t, h with
  | 0, _ => rfl
  | 1, _ => rfl
  | 2, _ => rfl
  | 3, _ => rfl
  | 4, _ => rfl
  | 5, _ => rfl
  | 6, _ => rfl
  | 7, _ => rfl
  | n + 8, h => exact absurd h (by omega)
def sumW (x y : Nat → Nat) (t : Nat) (j : Nat) : Nat := if j < t then (x j + y j) % 4294967296 else x j
theorem sumW_zero (x y : Nat → Nat) : sumW x y 0 = x := by funext j; simp [sumW]
theorem sumW_at (x y : Nat → Nat) (t : Nat) : sumW x y t t = x t := by simp [sumW]
theorem sumW_set (x y : Nat → Nat) (t : Nat) (h : t < 8) : (arr8 (sumW x y t)).setIfInBounds t (.int .u32 (((x t + y t) % 4294967296 : Nat) : Int)) = arr8 (sumW x y (t + 1)) := by
  match t, h with
  | 0, _ => rfl
  | 1, _ => rfl
  | 2, _ => rfl
  | 3, _ => rfl
  | 4, _ => rfl
  | 5, _ => rfl
  | 6, _ => rfl
  | 7, _ => rfl
  | n + 8, h => exact absurd h (by omega)
theorem arr8_one (f : Nat → Nat) : (arr8 f).all (·.oneCell') = true := by simp [arr8, Value.oneCell']
theorem vals_arr8 (s : St) : vals s = arr8 (getW s) := rfl
theorem add_arr8 (s t : St) : vals (add s t) = arr8 (sumW (getW s) (getW t) 8) := rfl
def T2 (w wx : World) (g6 : Nat) (X Y : Array Value) : Prop := Row wx w.heap.size X 104 ∧ Row wx (w.heap.size + 1) Z8 104 ∧ Row wx g6 Y 104 ∧ Below w.heap.size w wx
theorem T2.drew {w w1 : World} {g6 : Nat} {X Y : Array Value} (h : T2 w w1 g6 X Y) : T2 w w1.drew g6 X Y := ⟨h.1.drew, h.2.1.drew, h.2.2.1.drew, belowDrew h.2.2.2⟩
theorem T2.set {w w1 : World} {g6 : Nat} {x y : Nat → Nat} {Y : Array Value} {t : Nat} (h : T2 w w1 g6 (arr8 (sumW x y t)) Y) (h6 : w.heap.size + 2 ≤ g6) (ht : t < 8) : T2 w (w1.setCell ⟨w.heap.size, t, none⟩ (.int .u32 (((x t + y t) % 4294967296 : Nat) : Int))) g6 (arr8 (sumW x y (t + 1))) Y := by
  refine ⟨?_, h.2.1.setOther (by omega) _ _, h.2.2.1.setOther (by omega) _ _, belowSet h.2.2.2 (Nat.le_refl _) _ _⟩
  have := h.1.set t (.int .u32 (((x t + y t) % 4294967296 : Nat) : Int))
  rwa [sumW_set x y t ht] at this
set_option maxHeartbeats 4000000 in
theorem turn_ (s : St) (b : ByteArray) (hb : b.size = 64) (hs : s.ok) (w : World) : Calls Try.prog 67 #[.agg (vals s), .string b] w fun e w' => e = .returned (.agg (vals (turn s b.data.toList))) ∧ Below w.heap.size w w' := by
  have HB := Lib.hid hb
  have HS := Lib.hid hs
  obtain ⟨q0, q1, q2, q3, q4, q5, q6, q7⟩ := s
  have hv : vals ⟨q0, q1, q2, q3, q4, q5, q6, q7⟩ = #[.int .u32 q0, .int .u32 q1, .int .u32 q2, .int .u32 q3, .int .u32 q4, .int .u32 q5, .int .u32 q6, .int .u32 q7] := rfl
  obtain ⟨V, hV⟩ : ∃ V, V = vals ⟨q0, q1, q2, q3, q4, q5, q6, q7⟩ := ⟨_, rfl⟩
  obtain ⟨A, hA⟩ : ∃ A, A = arrT (sched b.data.toList 64) := ⟨_, rfl⟩
  have HV := Lib.hid hV
  have HA := Lib.hid hA
  rw [hv]
  clear hb hs hv hV hA
  go_enter Try.func67, Try.ntmps67
  go_upto_region 1 with fail
  go_cut [5, 6] from 13 to 15 (fun s5 s6 wx => T0 w wx V A s5 s6)
  case first =>
    refine region_inv 7 okState okStep (II w #[.int .u32 q0, .int .u32 q1, .int .u32 q2, .int .u32 q3, .int .u32 q4, .int .u32 q5, .int .u32 q6, .int .u32 q7] V A b) (by kernel_rfl) (by kernel_rfl) rfl ?hstep ?hlen ?hdone _ _ ?hstart
    case hlen =>
      rintro l a w1 ⟨f0, f1, f2, f3, f4, f5, f6, g5, g6, x5, x6, x13, x14, x15, rfl, _⟩
      rfl
    case hstart =>
      refine ⟨false, false, false, false, false, false, false, 0, 0, undef, undef, undef, undef, undef, rfl, ?_, (fun h => by cases h), (fun h => by cases h), (fun h => by cases h), (fun h => by cases h), (fun h => by cases h), ?_⟩
      · rfl
      · rw [HV.out]
        refine ⟨((Row.new w _ 104).alloc _).drew, ?_, belowDrew (((Below.refl _ _).alloc (Nat.le_refl _) _).alloc (by simp) _), ?_, (fun h => by cases h), (fun h => by cases h), (fun h => by cases h)⟩
        · have := Row.new (w.alloc (.cells (vals ⟨q0, q1, q2, q3, q4, q5, q6, q7⟩) 104)) Z8 104
          rw [World.size_alloc] at this
          exact this.drew
        · show _ ≤ (World.drew _).heap.size
          show _ ≤ (World.alloc _ _).heap.size
          simp
    case hdone =>
      rintro l a w1 ⟨f0, f1, f2, f3, f4, f5, f6, g5, g6, x5, x6, x13, x14, x15, rfl, rfl, h0, h1, h2, h3, h4, hQ⟩ hl
      simp only [List.all_cons, List.all_nil, Bool.and_eq_true, Bool.and_true] at hl
      obtain ⟨rfl, rfl, rfl, rfl, rfl, rfl, rfl⟩ := hl
      obtain rfl := h0 rfl
      obtain rfl := h1 rfl
      obtain rfl := h2 rfl
      obtain rfl := h3 rfl
      obtain rfl := h4 rfl
      unfold FR
      go_wp2_with fail
      go_meet
      exact ⟨g5, g6, rfl, rfl, (hQ.2.2.2.2.1 rfl).1, (hQ.2.2.2.2.2.1 rfl).1, hQ.2.2.2.2.2.2 rfl rfl, hQ.1, hQ.2.1, (hQ.2.2.2.2.1 rfl).2, (hQ.2.2.2.2.2.1 rfl).2, hQ.2.2.1⟩
    case hstep =>
      rintro l a w1 i ⟨f0, f1, f2, f3, f4, f5, f6, g5, g6, x5, x6, x13, x14, x15, rfl, rfl, h0, h1, h2, h3, h4, hQ⟩ hk
      have hi : i = 0 ∨ i = 1 ∨ i = 2 ∨ i = 3 ∨ i = 4 ∨ i = 5 ∨ i = 6 := by
        unfold okStep at hk
        split at hk <;> simp_all
      rcases hi with rfl | rfl | rfl | rfl | rfl | rfl | rfl
      · refine wpOp_step rfl (fun K hK => ?_)
        unfold FR
        go_simp
        exact hK _ _ ⟨true, f1, f2, f3, f4, f5, f6, g5, g6, x5, x6, .string b, x14, x15, rfl, rfl, fun _ => rfl, h1, h2, h3, h4, hQ⟩
      · simp only [okStep, Bool.and_eq_true, Bool.not_eq_true'] at hk
        obtain ⟨rfl, rfl⟩ := hk
        obtain rfl := h0 rfl
        refine wpOp_step rfl (fun K hK => ?_)
        unfold FR
        go_simp
        refine (spread b HB.out _).mono ?_
        rintro e w2 ⟨rfl, hb⟩
        rw [← HA.out]
        exact hK _ _ ⟨true, true, f2, f3, f4, f5, f6, g5, g6, x5, x6, .string b, .agg A, x15, rfl, rfl, h0, fun _ => rfl, h2, h3, h4, hQ.below hb⟩
      · refine wpOp_step rfl (fun K hK => ?_)
        refine step_plain rfl ?_
        refine wp_load_row 104 _ rfl w.heap.size rfl 104 V (0, 0) _ hQ.1.is Try.underlying104 rfl (by rw [HV.out]; kernel_rfl) (hK _ _ ?_)
        exact ⟨f0, f1, true, f3, f4, f5, f6, g5, g6, x5, x6, x13, x14, .agg V, rfl, rfl, h0, h1, fun _ => rfl, h3, h4, hQ⟩
      · simp only [okStep, Bool.and_eq_true, Bool.not_eq_true'] at hk
        obtain ⟨rfl, rfl⟩ := hk
        refine wpOp_step rfl (fun K hK => ?_)
        unfold FR
        go_simp
        refine hK _ (w1.alloc (.cells Z64 122)) ?_
        exact ⟨f0, f1, f2, true, f4, false, f6, w1.heap.size, g6, ptr w1.heap.size, x6, x13, x14, x15, rfl, rfl, h0, h1, h2, fun _ => rfl, h4, hQ.alloc5⟩
      · simp only [okStep, Bool.and_eq_true, Bool.not_eq_true'] at hk
        obtain ⟨rfl, rfl⟩ := hk
        refine wpOp_step rfl (fun K hK => ?_)
        unfold FR
        go_simp
        refine hK _ (w1.alloc (.cells Z8 104)) ?_
        exact ⟨f0, f1, f2, f3, true, f5, false, g5, w1.heap.size, x5, ptr w1.heap.size, x13, x14, x15, rfl, rfl, h0, h1, h2, h3, fun _ => rfl, hQ.alloc6⟩
      · simp only [okStep, Bool.and_eq_true, Bool.not_eq_true'] at hk
        obtain ⟨⟨rfl, rfl⟩, rfl⟩ := hk
        obtain rfl := h1 rfl
        obtain rfl := h3 rfl
        refine wpOp_step rfl (fun K hK => ?_)
        refine step_plain rfl ?_
        refine wp_store_row 122 (.tmp 5) (.tmp 14) rfl g5 A rfl rfl 122 Z64 (hQ.2.2.2.2.1 rfl).2.is (by rw [HA.out, arrT_size]; kernel_rfl) (by rw [HA.out, arrT_size]; rfl) (by rw [HA.out]; exact arrT_one _) (hK _ _ ?_)
        exact ⟨f0, true, f2, true, f4, true, f6, g5, g6, ptr g5, x6, x13, .agg A, x15, rfl, rfl, h0, h1, h2, h3, h4, hQ.store5⟩
      · simp only [okStep, Bool.and_eq_true, Bool.not_eq_true'] at hk
        obtain ⟨⟨rfl, rfl⟩, rfl⟩ := hk
        obtain rfl := h2 rfl
        obtain rfl := h4 rfl
        refine wpOp_step rfl (fun K hK => ?_)
        refine step_plain rfl ?_
        refine wp_store_row 104 (.tmp 6) (.tmp 15) rfl g6 V rfl rfl 104 Z8 (hQ.2.2.2.2.2.1 rfl).2.is (by rw [HV.out]; kernel_rfl) (by rw [HV.out]; rfl) (by rw [HV.out]; exact vals_one _) (hK _ _ ?_)
        exact ⟨f0, f1, true, f3, true, f5, true, g5, g6, x5, ptr g6, x13, x14, .agg V, rfl, rfl, h0, h1, h2, h3, h4, hQ.store6⟩
  case rest =>
    obtain ⟨g5, g6, rfl, rfl, hg5, hg6, h56, r0, r1, r5, r6, hbl⟩ := hcut
    unfold ptr
    go_wp2_with fail
    go_loopw [16] (fun i wr => ∃ t : Nat, t ≤ 64 ∧ i = .int .i64 t ∧ T1 w wr V A g5 g6 (vals (rnds ⟨q0, q1, q2, q3, q4, q5, q6, q7⟩ b.data.toList t))) (fun i _ => 64 - (intOf i).toNat)
    case atStart => exact ⟨0, by omega, rfl, r0, r1, r5, by rw [rnds, ← HV.out]; exact r6, hbl⟩
    case round =>
      clear r0 r1 r5 r6 hbl
      obtain ⟨t, ht, rfl, hin⟩ := hrel
      have HI := Lib.hid hin
      clear hin
      by_cases hlt : t < 64
      · have hok := rnds_ok HS.out b.data.toList t
        have hsucc : rnds ⟨q0, q1, q2, q3, q4, q5, q6, q7⟩ b.data.toList (t + 1) = rnd (rnds ⟨q0, q1, q2, q3, q4, q5, q6, q7⟩ b.data.toList t) (kAt t) ((sched b.data.toList 64).getD t 0) := rfl
        have HSU := Lib.hid hsucc
        clear hsucc
        obtain ⟨st, hst⟩ : ∃ st, st = rnds ⟨q0, q1, q2, q3, q4, q5, q6, q7⟩ b.data.toList t := ⟨_, rfl⟩
        have HST := Lib.hid hst
        rw [← hst] at hok
        clear hst
        obtain ⟨p0, p1, p2, p3, p4, p5, p6, p7⟩ := st
        have HOK := Lib.hid hok
        clear hok
        have hR : Row wr g6 (vals ⟨p0, p1, p2, p3, p4, p5, p6, p7⟩) 104 := by rw [HST.out]; exact HI.out.2.2.2.1
        have c0 := hR.cell 0 (v := .int .u32 (p0 : Int)) rfl
        have c4 := hR.cell 4 (v := .int .u32 (p4 : Int)) rfl
        have HR := Lib.hid hR
        clear hR
        have d1 : decide ((t : Int) < 64) = true := by simp; omega
        go_wp2_with fail
        go_quiet (fail)
        have HI1 := Lib.hid (HI.out.drewN nq)
        have HR1 := Lib.hid (HR.out.drewN nq)
        clear c0 c4
        generalize wr.drewN nq = w1 at *
        clear HI HR
        have bW : (sched b.data.toList 64).getD t 0 < 4294967296 := getD_lt (sched_lt _ _) t
        have hAT : A[t]? = some (.int .u32 ((sched b.data.toList 64).getD t 0 : Nat)) := by rw [HA.out]; exact arrT_at _ t hlt
        have HAT := Lib.hid hAT
        have cW := HI1.out.2.2.1.cell t hAT
        clear hAT
        generalize (sched b.data.toList 64).getD t 0 = W at *
        have c5 := HR1.out.cell 5 (v := .int .u32 (p5 : Int)) rfl
        have c6 := HR1.out.cell 6 (v := .int .u32 (p6 : Int)) rfl
        have c7 := HR1.out.cell 7 (v := .int .u32 (p7 : Int)) rfl
        have tI : (t : Int) < 64 := by omega
        have hkN := fun w2 (hb : Below w1.heap.size w1 w2) => keepW HI1.out.2.2.1 HR1.out (v7 := .int .u32 (p7 : Int)) (v5 := .int .u32 (p5 : Int)) (v6 := .int .u32 (p6 : Int)) rfl rfl rfl (show A[t]? = some (.int .u32 (W : Int)) from HAT.out) hb
        have HKN := Lib.hid hkN
        have HK0 := Lib.hid (hkN w1.drew (belowDrew (Below.refl _ _)))
        clear hkN c5 c6 c7 cW
        go_wp2_with fail
        go_region_held3 (fun w' => w'.cell? ⟨g6, 7, none⟩ = some (.int .u32 (p7 : Int)) ∧ w'.cell? ⟨g6, 5, none⟩ = some (.int .u32 (p5 : Int)) ∧ w'.cell? ⟨g6, 6, none⟩ = some (.int .u32 (p6 : Int)) ∧ w'.cell? ⟨g5, t, none⟩ = some (.int .u32 (W : Int)) ∧ Below w1.heap.size w1 w')
          (first | exact HK0.out | exact HKN.out _ (nextS (by assumption : _ ∧ _ ∧ _ ∧ _ ∧ _).2.2.2.2 hb))
          (first | (go_at_call_of 77 (Value.int IntKind.i64 6); refine (right p4 6 HOK.out.2.2.2.2.1 (by omega) (by omega) _).mono ?_; rintro e w9 ⟨rfl, rfl⟩) | (go_at_call_of 77 (Value.int IntKind.i64 11); refine (right p4 11 HOK.out.2.2.2.2.1 (by omega) (by omega) _).mono ?_; rintro e w9 ⟨rfl, rfl⟩) | (go_at_call_of 77 (Value.int IntKind.i64 25); refine (right p4 25 HOK.out.2.2.2.2.1 (by omega) (by omega) _).mono ?_; rintro e w9 ⟨rfl, rfl⟩) | (go_at_call 78; refine (constant t hlt _).mono ?_; rintro e w9 ⟨rfl, hb⟩))
        have hbb := (by assumption : _ ∧ _ ∧ _ ∧ _ ∧ _).2.2.2.2
        have hHI := HI1.out.below hbb
        have hHR := HR1.out.below hbb
        clear hbb
        have HI2 := Lib.hid hHI
        have HR2 := Lib.hid hHR
        clear hHI hHR
        rw [oneI (p0 := p0) (p1 := p1) (p2 := p2) (p3 := p3) HOK.out.2.2.2.2.1 HOK.out.2.2.2.2.2.1 HOK.out.2.2.2.2.2.2.1]
        obtain ⟨o1, ho1⟩ : ∃ o, o = one ⟨p0, p1, p2, p3, p4, p5, p6, p7⟩ (kAt t) W := ⟨_, rfl⟩
        rw [← ho1]
        have HO1 := Lib.hid ho1
        clear ho1
        have c1 := HR2.out.cell 1 (v := .int .u32 (p1 : Int)) rfl
        have c2 := HR2.out.cell 2 (v := .int .u32 (p2 : Int)) rfl
        go_wp2_with fail
        go_quiet ((first | (go_at_call_of 77 (Value.int IntKind.i64 2); exact Calls.quiet_of_same (flip (right p0 2 HOK.out.1 (by omega) (by omega) _))) | (go_at_call_of 77 (Value.int IntKind.i64 13); exact Calls.quiet_of_same (flip (right p0 13 HOK.out.1 (by omega) (by omega) _))) | (go_at_call_of 77 (Value.int IntKind.i64 22); exact Calls.quiet_of_same (flip (right p0 22 HOK.out.1 (by omega) (by omega) _)))))
        have HI3 := Lib.hid (HI2.out.drewN nq)
        have HR3 := Lib.hid (HR2.out.drewN nq)
        clear c1 c2 HI2 HR2
        generalize World.drewN _ nq = w3 at *
        rw [twoM (p3 := p3) (p4 := p4) (p5 := p5) (p6 := p6) (p7 := p7) HOK.out.1 HOK.out.2.1 HOK.out.2.2.1]
        obtain ⟨o2, ho2⟩ : ∃ o, o = two ⟨p0, p1, p2, p3, p4, p5, p6, p7⟩ := ⟨_, rfl⟩
        rw [← ho2]
        have HO2 := Lib.hid ho2
        clear ho2
        have c1 := HR3.out.cell 1 (v := .int .u32 (p1 : Int)) rfl
        have c2 := HR3.out.cell 2 (v := .int .u32 (p2 : Int)) rfl
        have c3 := HR3.out.cell 3 (v := .int .u32 (p3 : Int)) rfl
        have c5 := HR3.out.cell 5 (v := .int .u32 (p5 : Int)) rfl
        have c6 := HR3.out.cell 6 (v := .int .u32 (p6 : Int)) rfl
        obtain ⟨n0, hn0⟩ : ∃ n : Nat, n = (o1 + o2) % 4294967296 := ⟨_, rfl⟩
        obtain ⟨n4, hn4⟩ : ∃ n : Nat, n = (p3 + o1) % 4294967296 := ⟨_, rfl⟩
        have e0 : IntKind.u32.wrap ((o1 : Int) + (o2 : Int)) = (n0 : Int) := by rw [wrapN, hn0]
        have e4 : IntKind.u32.wrap ((p3 : Int) + (o1 : Int)) = (n4 : Int) := by rw [wrapN, hn4]
        have e0' : ((o1 : Int) + (o2 : Int)) % 4294967296 = (n0 : Int) := by omega
        have e4' : ((p3 : Int) + (o1 : Int)) % 4294967296 = (n4 : Int) := by omega
        have hfin : vals (rnds ⟨q0, q1, q2, q3, q4, q5, q6, q7⟩ b.data.toList (t + 1)) = #[.int .u32 (n0 : Int), .int .u32 (p0 : Int), .int .u32 (p1 : Int), .int .u32 (p2 : Int), .int .u32 (n4 : Int), .int .u32 (p4 : Int), .int .u32 (p5 : Int), .int .u32 (p6 : Int)] := by
          rw [HSU.out, ← HST.out, rnd, ← HO1.out, ← HO2.out, ← hn0]
          show vals ⟨n0, p0, p1, p2, (p3 + o1) % 4294967296, p4, p5, p6⟩ = _
          rw [← hn4]
          rfl
        have HF := Lib.hid hfin
        clear hfin hn0 hn4
        go_wp2_with (refine wpList_store_rowTo rfl 104 _ _ rfl rfl g6 #[.int .u32 (n0 : Int), .int .u32 (p0 : Int), .int .u32 (p1 : Int), .int .u32 (p2 : Int), .int .u32 (n4 : Int), .int .u32 (p4 : Int), .int .u32 (p5 : Int), .int .u32 (p6 : Int)] rfl rfl 104 _ HR3.out.is (by as_aux_lemma => kernel_rfl) rfl (vals_one ⟨n0, p0, p1, p2, n4, p4, p5, p6⟩) ?_)
        go_roundw
        case rel =>
          refine ⟨t + 1, by omega, by go_num, ?_⟩
          rw [HF.out]
          exact HI3.out.store hg6 h56
        case measure => simp [intOf]; omega
      · obtain rfl : t = 64 := by omega
        have hR6 := HI.out.2.2.2.1
        rw [vals_arr8] at hR6
        have hR0 := HI.out.1
        rw [HV.out, vals_arr8] at hR0
        have hin : T2 w wr g6 (arr8 (getW ⟨q0, q1, q2, q3, q4, q5, q6, q7⟩)) (arr8 (getW (rnds ⟨q0, q1, q2, q3, q4, q5, q6, q7⟩ b.data.toList 64))) := ⟨hR0, HI.out.2.1, hR6, HI.out.2.2.2.2⟩
        have HJ := Lib.hid hin
        have hturn : vals (turn ⟨q0, q1, q2, q3, q4, q5, q6, q7⟩ b.data.toList) = arr8 (sumW (getW ⟨q0, q1, q2, q3, q4, q5, q6, q7⟩) (getW (rnds ⟨q0, q1, q2, q3, q4, q5, q6, q7⟩ b.data.toList 64)) 8) := by rw [Sha.turn, add_arr8]
        have HTU := Lib.hid hturn
        clear hR6 hR0 hin HI hturn
        generalize getW (rnds ⟨q0, q1, q2, q3, q4, q5, q6, q7⟩ b.data.toList 64) = y at *
        generalize hx : getW ⟨q0, q1, q2, q3, q4, q5, q6, q7⟩ = x at *
        clear hx
        simp only [Int.cast_ofNat_Int] at *
        go_wp2_with fail
        go_loopw [95] (fun i wr => ∃ t : Nat, t ≤ 8 ∧ i = .int .i64 t ∧ T2 w wr g6 (arr8 (sumW x y t)) (arr8 y)) (fun i _ => 8 - (intOf i).toNat)
        case atStart => exact ⟨0, by omega, rfl, by rw [sumW_zero]; exact HJ.out⟩
        case round =>
          clear HJ
          obtain ⟨t, ht, rfl, hin⟩ := hrel
          have HJ := Lib.hid hin
          clear hin
          by_cases hlt : t < 8
          · have d1 : decide ((t : Int) < 8) = true := by simp; omega
            have tI : (t : Int) < 8 := by omega
            have c1 := HJ.out.1.cell t (arr8_at _ t hlt)
            rw [sumW_at] at c1
            have c2 := HJ.out.2.2.1.cell t (arr8_at _ t hlt)
            go_wp2_with fail
            go_still_tail 7, (by kernel_rfl)
            change wpList _ _ _ _ _ (World.drew _)
            have HJ2 := Lib.hid HJ.out.drew
            clear c1 c2
            generalize World.drew _ = w2 at *
            have c1 := HJ2.out.1.cell t (arr8_at _ t hlt)
            have f1 := HJ2.out.1.free t
            go_wp2
            go_roundw
            case rel =>
              refine ⟨t + 1, by omega, by go_num, ?_⟩
              have := HJ2.out.set hg6 hlt
              simpa [sumW_at] using this
            case measure => simp [intOf]; omega
          · obtain rfl : t = 8 := by omega
            go_wp2_with (first | (refine wpList_load_row rfl 104 _ rfl _ rfl 104 _ _ _ HJ.out.1.is Try.underlying104 rfl (by as_aux_lemma => kernel_rfl) ?_) | (refine wpList_store_rowTo rfl 104 _ _ rfl rfl (w.heap.size + 1) (arr8 (sumW x y 8)) rfl rfl 104 Z8 HJ.out.2.1.is (by as_aux_lemma => kernel_rfl) (by as_aux_lemma => kernel_rfl) (arr8_one _) ?_))
            have hR := (HJ.out.2.1).row (ys := arr8 (sumW x y 8))
            rw [HTU.out]
            exact bodyPost_ret (v := .agg (arr8 (sumW x y 8))) (results_cell_row Try.results67 _ _ (w.heap.size + 1) 104 _ (0, 0) _ rfl hR.is Try.underlying104 rfl (by kernel_rfl)) rfl ⟨rfl, belowRow HJ.out.2.2.2 (by omega) _⟩
end Go.Proofs.Ytclpjmhanhocoaa.ShaTurn
