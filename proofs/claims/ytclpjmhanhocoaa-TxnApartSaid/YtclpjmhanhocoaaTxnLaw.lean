/- The walk of muleteerlaw05.TxnApart, case by case. Conditions: as stated in each theorem. -/
import Derived.Test.YtclpjmhanhocoaaTxnInj
set_option linter.unusedVariables false
set_option linter.unusedSimpArgs false
namespace Go.Proofs.Ytclpjmhanhocoaa.TxnLaw
open Go.RowKit PTxnApart TxnPlain Digit TxnWalk Go.Proofs.YtclpjmhanhocoaaW.PrintWords
set_option maxRecDepth 100000

theorem awake (w : World) : Calls Try.prog 36 #[] w fun e w' => e = .returned (.bool true) ∧ Below w.heap.size w w' := by
  have hS : ET 1 2 3 0 [] = ByteArray.mk #[1, 1, 1, 2, 1, 3, 0] := by decide +kernel
  have HS := Lib.hid hS
  clear hS
  go_enter Try.func36, Try.ntmps36
  go_wp2_with fail
  refine (txnPut_ok 1 2 3 none 0 [] w (Kd.C_nil _ _) (by simp) (by decide) (by omega) (by omega) (by simp)).mono ?_
  rintro e w1 ⟨rfl, hb1⟩
  rw [show ET 1 2 3 ([] : List S86).length [] = ET 1 2 3 0 [] from rfl, HS.out]
  go_wp2
  go_ret
  exact ⟨rfl, hb1⟩
theorem few (s a n : Int) (A : Option Addr) (c : Nat) (l : List S86) (w : World) (hr : Kd.C k86 w A l.length l) (hc : l.length ≤ c) :
    Calls Try.prog 35 #[.agg #[.int .i64 s, .int .i64 a, .int .u64 n, .slice A l.length c]] w fun e w' => e = .returned (.bool (fewT l)) ∧ Below w.heap.size w w' := by
  obtain ⟨k, hk⟩ := few_is s a n l (Kd.C_max hr)
  exact muleteerlaw05_Few.calls k _ _ _ _ _ l _ w hr hc hk
def sameT (sa aa na : Int) (la : List S86) (sb ab nb : Int) (lb : List S86) : Bool := decide (sa = sb) && decide (aa = ab) && decide (na = nb) && sameL la lb
theorem refSame (sa aa na : Int) (Aa : Option Addr) (ca : Nat) (la : List S86) (sb ab nb : Int) (Ab : Option Addr) (cb : Nat) (lb : List S86) (w : World) (hra : Kd.C k86 w Aa la.length la) (hca : la.length ≤ ca) (hrb : Kd.C k86 w Ab lb.length lb) (hcb : lb.length ≤ cb) :
    Calls Try.prog 37 #[.agg #[.int .i64 sa, .int .i64 aa, .int .u64 na, .slice Aa la.length ca], .agg #[.int .i64 sb, .int .i64 ab, .int .u64 nb, .slice Ab lb.length cb]] w fun e w' => e = .returned (.bool (sameT sa aa na la sb ab nb lb)) ∧ Below w.heap.size w w' := by
  obtain ⟨k, hk⟩ := refSame_is sa aa na la sb ab nb lb (Kd.C_max hra)
  exact muleteerref05_Same.calls k _ _ _ _ _ la _ _ _ _ _ lb _ w hra hca hrb hcb hk
theorem txnSame (sa aa na : Int) (Aa : Option Addr) (ca : Nat) (la : List S86) (sb ab nb : Int) (Ab : Option Addr) (cb : Nat) (lb : List S86) (w : World) (hra : Kd.C k86 w Aa la.length la) (hca : la.length ≤ ca) (hrb : Kd.C k86 w Ab lb.length lb) (hcb : lb.length ≤ cb) :
    Calls Try.prog 38 #[.agg #[.int .i64 sa, .int .i64 aa, .int .u64 na, .slice Aa la.length ca], .agg #[.int .i64 sb, .int .i64 ab, .int .u64 nb, .slice Ab lb.length cb]] w fun e w' => e = .returned (.bool (sameT sa aa na la sb ab nb lb)) ∧ Below w.heap.size w w' := by
  obtain ⟨k, hk⟩ := txnSame_is sa aa na la sb ab nb lb (Kd.C_max hra)
  exact txn_Same.calls k _ _ _ _ _ la _ _ _ _ _ lb _ w hra hca hrb hcb hk
theorem sameT_iff (sa aa na : Int) (la : List S86) (sb ab nb : Int) (lb : List S86) : sameT sa aa na la sb ab nb lb = true ↔ sa = sb ∧ aa = ab ∧ na = nb ∧ la = lb := by
  simp only [sameT, Bool.and_eq_true, decide_eq_true_eq, sameL_iff, and_assoc]
set_option maxHeartbeats 2000000 in
theorem long1 (sa aa na : Int) (Aa : Option Addr) (ca : Nat) (la : List S86) (sb ab nb : Int) (Ab : Option Addr) (cb : Nat) (lb : List S86) (w : World) (hra : Kd.C k86 w Aa la.length la) (hca : la.length ≤ ca) (hrb : Kd.C k86 w Ab lb.length lb) (hcb : lb.length ≤ cb) (hf : fewT la = false) :
    Calls Try.prog 7 #[.agg #[.int .i64 sa, .int .i64 aa, .int .u64 na, .slice Aa la.length ca], .agg #[.int .i64 sb, .int .i64 ab, .int .u64 nb, .slice Ab lb.length cb]] w fun e w' => e = .returned (.bool true) ∧ Below w.heap.size w w' := by
  have HA := Lib.hid hra
  have HB := Lib.hid hrb
  clear hra hrb
  have HF := Lib.hid hf
  clear hf
  go_enter Try.func7, Try.ntmps7
  go_wp2_with fail
  refine (few _ _ _ _ _ la _ ((Kd.C_alloc (Kd.C_alloc HA.out _) _)) hca).mono ?_
  rintro e w1 ⟨rfl, hb1⟩
  rw [HF.out]
  obtain ⟨hc1, hf1⟩ := Base.bcell hb1
  have hB1 : Below w.heap.size w w1 := Base.bel (((Below.refl _ _).alloc (Nat.le_refl _) _).alloc (by simp) _) hb1 (by simp; omega)
  have p1 : w.heap.size < w1.heap.size := by (have := hb1.size; simp at this; omega)
  have q1 : w.heap.size + 1 < w1.heap.size := by (have := hb1.size; simp at this; omega)
  go_wp2_with fail
  refine (awake _).mono ?_
  rintro e w2 ⟨rfl, hb2⟩
  obtain ⟨hc2, hf2⟩ := Base.bcell hb2
  have hB2 : Below w.heap.size w w2 := Base.bel hB1 hb2 (by omega)
  have p2 : w.heap.size < w2.heap.size := by (have := hb2.size; omega)
  have q2 : w.heap.size + 1 < w2.heap.size := by (have := hb2.size; omega)
  go_wp2
  go_ret
  exact ⟨rfl, hB2⟩
set_option maxHeartbeats 2000000 in
theorem long2 (sa aa na : Int) (Aa : Option Addr) (ca : Nat) (la : List S86) (sb ab nb : Int) (Ab : Option Addr) (cb : Nat) (lb : List S86) (w : World) (hra : Kd.C k86 w Aa la.length la) (hca : la.length ≤ ca) (hrb : Kd.C k86 w Ab lb.length lb) (hcb : lb.length ≤ cb) (hf : fewT la = true) (hf2 : fewT lb = false) :
    Calls Try.prog 7 #[.agg #[.int .i64 sa, .int .i64 aa, .int .u64 na, .slice Aa la.length ca], .agg #[.int .i64 sb, .int .i64 ab, .int .u64 nb, .slice Ab lb.length cb]] w fun e w' => e = .returned (.bool true) ∧ Below w.heap.size w w' := by
  have HA := Lib.hid hra
  have HB := Lib.hid hrb
  clear hra hrb
  have HF := Lib.hid hf
  have HF2 := Lib.hid hf2
  clear hf hf2
  go_enter Try.func7, Try.ntmps7
  go_wp2_with fail
  refine (few _ _ _ _ _ la _ ((Kd.C_alloc (Kd.C_alloc HA.out _) _)) hca).mono ?_
  rintro e w1 ⟨rfl, hb1⟩
  rw [HF.out]
  obtain ⟨hc1, hf1⟩ := Base.bcell hb1
  have hB1 : Below w.heap.size w w1 := Base.bel (((Below.refl _ _).alloc (Nat.le_refl _) _).alloc (by simp) _) hb1 (by simp; omega)
  have p1 : w.heap.size < w1.heap.size := by (have := hb1.size; simp at this; omega)
  have q1 : w.heap.size + 1 < w1.heap.size := by (have := hb1.size; simp at this; omega)
  go_wp2_with fail
  refine (few _ _ _ _ _ lb _ (Kd.C_below HB.out hB1) hcb).mono ?_
  rintro e w2 ⟨rfl, hb2⟩
  rw [HF2.out]
  obtain ⟨hc2, hf2⟩ := Base.bcell hb2
  have hB2 : Below w.heap.size w w2 := Base.bel hB1 hb2 (by omega)
  have p2 : w.heap.size < w2.heap.size := by (have := hb2.size; omega)
  have q2 : w.heap.size + 1 < w2.heap.size := by (have := hb2.size; omega)
  go_wp2_with fail
  refine (awake _).mono ?_
  rintro e w3 ⟨rfl, hb3⟩
  obtain ⟨hc3, hf3⟩ := Base.bcell hb3
  have hB3 : Below w.heap.size w w3 := Base.bel hB2 hb3 (by omega)
  have p3 : w.heap.size < w3.heap.size := by (have := hb3.size; omega)
  have q3 : w.heap.size + 1 < w3.heap.size := by (have := hb3.size; omega)
  go_wp2
  go_ret
  exact ⟨rfl, hB3⟩
set_option maxHeartbeats 4000000 in
theorem law_nn (sa aa na : Int) (Aa : Option Addr) (ca : Nat) (la : List S86) (sb ab nb : Int) (Ab : Option Addr) (cb : Nat) (lb : List S86) (w : World) (hra : Kd.C k86 w Aa la.length la) (hca : la.length ≤ ca) (hrb : Kd.C k86 w Ab lb.length lb) (hcb : lb.length ≤ cb) (hf : fewT la = true) (hf2 : fewT lb = true) (q : Bool) (hq : sameT sa aa na la sb ab nb lb = q) (hself : sameT sa aa na la sa aa na la = true) (S T : ByteArray)
    (hp : ∀ w, Kd.C k86 w Aa la.length la → Calls Try.prog 39 #[.agg #[.int .i64 sa, .int .i64 aa, .int .u64 na, .slice Aa la.length ca]] w fun e w' => e = .returned (.tuple #[.string S, .int .i64 1]) ∧ Below w.heap.size w w')
    (hp2 : ∀ w, Kd.C k86 w Ab lb.length lb → Calls Try.prog 39 #[.agg #[.int .i64 sb, .int .i64 ab, .int .u64 nb, .slice Ab lb.length cb]] w fun e w' => e = .returned (.tuple #[.string T, .int .i64 1]) ∧ Below w.heap.size w w') :
    Calls Try.prog 7 #[.agg #[.int .i64 sa, .int .i64 aa, .int .u64 na, .slice Aa la.length ca], .agg #[.int .i64 sb, .int .i64 ab, .int .u64 nb, .slice Ab lb.length cb]] w fun e w' => e = .returned (.bool true) ∧ Below w.heap.size w w' := by
  have HA := Lib.hid hra
  have HB := Lib.hid hrb
  clear hra hrb
  have HF := Lib.hid hf
  have HF2 := Lib.hid hf2
  have HQ := Lib.hid hq
  have HS := Lib.hid hself
  have HP := Lib.hid hp
  have HP2 := Lib.hid hp2
  clear hf hf2 hq hself hp hp2
  cases hqq : q
  all_goals
    subst hqq
    go_enter Try.func7, Try.ntmps7
    go_wp2_with fail
    refine (few _ _ _ _ _ la _ ((Kd.C_alloc (Kd.C_alloc HA.out _) _)) hca).mono ?_
    rintro e w1 ⟨rfl, hb1⟩
    rw [HF.out]
    obtain ⟨hc1, hf1⟩ := Base.bcell hb1
    have hB1 : Below w.heap.size w w1 := Base.bel (((Below.refl _ _).alloc (Nat.le_refl _) _).alloc (by simp) _) hb1 (by simp; omega)
    have p1 : w.heap.size < w1.heap.size := by (have := hb1.size; simp at this; omega)
    have q1 : w.heap.size + 1 < w1.heap.size := by (have := hb1.size; simp at this; omega)
    go_wp2_with fail
    refine (few _ _ _ _ _ lb _ (Kd.C_below HB.out hB1) hcb).mono ?_
    rintro e w2 ⟨rfl, hb2⟩
    rw [HF2.out]
    obtain ⟨hc2, hf2⟩ := Base.bcell hb2
    have hB2 : Below w.heap.size w w2 := Base.bel hB1 hb2 (by omega)
    have p2 : w.heap.size < w2.heap.size := by (have := hb2.size; omega)
    have q2 : w.heap.size + 1 < w2.heap.size := by (have := hb2.size; omega)
    go_wp2_with fail
    refine (refSame _ _ _ _ _ la _ _ _ _ _ lb _ (Kd.C_below HA.out hB2) hca (Kd.C_below HB.out hB2) hcb).mono ?_
    rintro e w3 ⟨rfl, hb3⟩
    rw [HQ.out]
    obtain ⟨hc3, hf3⟩ := Base.bcell hb3
    have hB3 : Below w.heap.size w w3 := Base.bel hB2 hb3 (by omega)
    have p3 : w.heap.size < w3.heap.size := by (have := hb3.size; omega)
    have q3 : w.heap.size + 1 < w3.heap.size := by (have := hb3.size; omega)
    go_wp2_with fail
    refine (txnSame _ _ _ _ _ la _ _ _ _ _ lb _ (Kd.C_below HA.out hB3) hca (Kd.C_below HB.out hB3) hcb).mono ?_
    rintro e w4 ⟨rfl, hb4⟩
    rw [HQ.out]
    obtain ⟨hc4, hf4⟩ := Base.bcell hb4
    have hB4 : Below w.heap.size w w4 := Base.bel hB3 hb4 (by omega)
    have p4 : w.heap.size < w4.heap.size := by (have := hb4.size; omega)
    have q4 : w.heap.size + 1 < w4.heap.size := by (have := hb4.size; omega)
    go_wp2_with fail
    refine (txnSame _ _ _ _ _ la _ _ _ _ _ la _ (Kd.C_below HA.out hB4) hca (Kd.C_below HA.out hB4) hca).mono ?_
    rintro e w5 ⟨rfl, hb5⟩
    rw [HS.out]
    obtain ⟨hc5, hf5⟩ := Base.bcell hb5
    have hB5 : Below w.heap.size w w5 := Base.bel hB4 hb5 (by omega)
    have p5 : w.heap.size < w5.heap.size := by (have := hb5.size; omega)
    have q5 : w.heap.size + 1 < w5.heap.size := by (have := hb5.size; omega)
    go_wp2_with fail
    refine (HP.out _ (Kd.C_below HA.out hB5)).mono ?_
    rintro e w6 ⟨rfl, hb6⟩
    obtain ⟨hc6, hf6⟩ := Base.bcell hb6
    have hB6 : Below w.heap.size w w6 := Base.bel hB5 hb6 (by omega)
    have p6 : w.heap.size < w6.heap.size := by (have := hb6.size; omega)
    have q6 : w.heap.size + 1 < w6.heap.size := by (have := hb6.size; omega)
    go_wp2_with fail
    refine (HP2.out _ (Kd.C_below HB.out hB6)).mono ?_
    rintro e w7 ⟨rfl, hb7⟩
    obtain ⟨hc7, hf7⟩ := Base.bcell hb7
    have hB7 : Below w.heap.size w w7 := Base.bel hB6 hb7 (by omega)
    have p7 : w.heap.size < w7.heap.size := by (have := hb7.size; omega)
    have q7 : w.heap.size + 1 < w7.heap.size := by (have := hb7.size; omega)
    go_wp2_with fail
    refine (awake _).mono ?_
    rintro e w8 ⟨rfl, hb8⟩
    obtain ⟨hc8, hf8⟩ := Base.bcell hb8
    have hB8 : Below w.heap.size w w8 := Base.bel hB7 hb8 (by omega)
    have p8 : w.heap.size < w8.heap.size := by (have := hb8.size; omega)
    have q8 : w.heap.size + 1 < w8.heap.size := by (have := hb8.size; omega)
    go_wp2
    go_ret
    exact ⟨rfl, hB8⟩
set_option maxHeartbeats 4000000 in
theorem law_ny (sa aa na : Int) (Aa : Option Addr) (ca : Nat) (la : List S86) (sb ab nb : Int) (Ab : Option Addr) (cb : Nat) (lb : List S86) (w : World) (hra : Kd.C k86 w Aa la.length la) (hca : la.length ≤ ca) (hrb : Kd.C k86 w Ab lb.length lb) (hcb : lb.length ≤ cb) (hf : fewT la = true) (hf2 : fewT lb = true) (q : Bool) (hq : sameT sa aa na la sb ab nb lb = q) (hself : sameT sa aa na la sa aa na la = true) (S T : ByteArray)
    (hp : ∀ w, Kd.C k86 w Aa la.length la → Calls Try.prog 39 #[.agg #[.int .i64 sa, .int .i64 aa, .int .u64 na, .slice Aa la.length ca]] w fun e w' => e = .returned (.tuple #[.string S, .int .i64 1]) ∧ Below w.heap.size w w')
    (hp2 : ∀ w, Kd.C k86 w Ab lb.length lb → Calls Try.prog 39 #[.agg #[.int .i64 sb, .int .i64 ab, .int .u64 nb, .slice Ab lb.length cb]] w fun e w' => e = .returned (.tuple #[.string T, .int .i64 0]) ∧ Below w.heap.size w w') :
    Calls Try.prog 7 #[.agg #[.int .i64 sa, .int .i64 aa, .int .u64 na, .slice Aa la.length ca], .agg #[.int .i64 sb, .int .i64 ab, .int .u64 nb, .slice Ab lb.length cb]] w fun e w' => e = .returned (.bool true) ∧ Below w.heap.size w w' := by
  have HA := Lib.hid hra
  have HB := Lib.hid hrb
  clear hra hrb
  have HF := Lib.hid hf
  have HF2 := Lib.hid hf2
  have HQ := Lib.hid hq
  have HS := Lib.hid hself
  have HP := Lib.hid hp
  have HP2 := Lib.hid hp2
  clear hf hf2 hq hself hp hp2
  cases hqq : q
  all_goals
    subst hqq
    go_enter Try.func7, Try.ntmps7
    go_wp2_with fail
    refine (few _ _ _ _ _ la _ ((Kd.C_alloc (Kd.C_alloc HA.out _) _)) hca).mono ?_
    rintro e w1 ⟨rfl, hb1⟩
    rw [HF.out]
    obtain ⟨hc1, hf1⟩ := Base.bcell hb1
    have hB1 : Below w.heap.size w w1 := Base.bel (((Below.refl _ _).alloc (Nat.le_refl _) _).alloc (by simp) _) hb1 (by simp; omega)
    have p1 : w.heap.size < w1.heap.size := by (have := hb1.size; simp at this; omega)
    have q1 : w.heap.size + 1 < w1.heap.size := by (have := hb1.size; simp at this; omega)
    go_wp2_with fail
    refine (few _ _ _ _ _ lb _ (Kd.C_below HB.out hB1) hcb).mono ?_
    rintro e w2 ⟨rfl, hb2⟩
    rw [HF2.out]
    obtain ⟨hc2, hf2⟩ := Base.bcell hb2
    have hB2 : Below w.heap.size w w2 := Base.bel hB1 hb2 (by omega)
    have p2 : w.heap.size < w2.heap.size := by (have := hb2.size; omega)
    have q2 : w.heap.size + 1 < w2.heap.size := by (have := hb2.size; omega)
    go_wp2_with fail
    refine (refSame _ _ _ _ _ la _ _ _ _ _ lb _ (Kd.C_below HA.out hB2) hca (Kd.C_below HB.out hB2) hcb).mono ?_
    rintro e w3 ⟨rfl, hb3⟩
    rw [HQ.out]
    obtain ⟨hc3, hf3⟩ := Base.bcell hb3
    have hB3 : Below w.heap.size w w3 := Base.bel hB2 hb3 (by omega)
    have p3 : w.heap.size < w3.heap.size := by (have := hb3.size; omega)
    have q3 : w.heap.size + 1 < w3.heap.size := by (have := hb3.size; omega)
    go_wp2_with fail
    refine (txnSame _ _ _ _ _ la _ _ _ _ _ lb _ (Kd.C_below HA.out hB3) hca (Kd.C_below HB.out hB3) hcb).mono ?_
    rintro e w4 ⟨rfl, hb4⟩
    rw [HQ.out]
    obtain ⟨hc4, hf4⟩ := Base.bcell hb4
    have hB4 : Below w.heap.size w w4 := Base.bel hB3 hb4 (by omega)
    have p4 : w.heap.size < w4.heap.size := by (have := hb4.size; omega)
    have q4 : w.heap.size + 1 < w4.heap.size := by (have := hb4.size; omega)
    go_wp2_with fail
    refine (txnSame _ _ _ _ _ la _ _ _ _ _ la _ (Kd.C_below HA.out hB4) hca (Kd.C_below HA.out hB4) hca).mono ?_
    rintro e w5 ⟨rfl, hb5⟩
    rw [HS.out]
    obtain ⟨hc5, hf5⟩ := Base.bcell hb5
    have hB5 : Below w.heap.size w w5 := Base.bel hB4 hb5 (by omega)
    have p5 : w.heap.size < w5.heap.size := by (have := hb5.size; omega)
    have q5 : w.heap.size + 1 < w5.heap.size := by (have := hb5.size; omega)
    go_wp2_with fail
    refine (HP.out _ (Kd.C_below HA.out hB5)).mono ?_
    rintro e w6 ⟨rfl, hb6⟩
    obtain ⟨hc6, hf6⟩ := Base.bcell hb6
    have hB6 : Below w.heap.size w w6 := Base.bel hB5 hb6 (by omega)
    have p6 : w.heap.size < w6.heap.size := by (have := hb6.size; omega)
    have q6 : w.heap.size + 1 < w6.heap.size := by (have := hb6.size; omega)
    go_wp2_with fail
    refine (HP2.out _ (Kd.C_below HB.out hB6)).mono ?_
    rintro e w7 ⟨rfl, hb7⟩
    obtain ⟨hc7, hf7⟩ := Base.bcell hb7
    have hB7 : Below w.heap.size w w7 := Base.bel hB6 hb7 (by omega)
    have p7 : w.heap.size < w7.heap.size := by (have := hb7.size; omega)
    have q7 : w.heap.size + 1 < w7.heap.size := by (have := hb7.size; omega)
    go_wp2_with fail
    refine (awake _).mono ?_
    rintro e w8 ⟨rfl, hb8⟩
    obtain ⟨hc8, hf8⟩ := Base.bcell hb8
    have hB8 : Below w.heap.size w w8 := Base.bel hB7 hb8 (by omega)
    have p8 : w.heap.size < w8.heap.size := by (have := hb8.size; omega)
    have q8 : w.heap.size + 1 < w8.heap.size := by (have := hb8.size; omega)
    go_wp2
    go_ret
    exact ⟨rfl, hB8⟩
set_option maxHeartbeats 4000000 in
theorem law_yn (sa aa na : Int) (Aa : Option Addr) (ca : Nat) (la : List S86) (sb ab nb : Int) (Ab : Option Addr) (cb : Nat) (lb : List S86) (w : World) (hra : Kd.C k86 w Aa la.length la) (hca : la.length ≤ ca) (hrb : Kd.C k86 w Ab lb.length lb) (hcb : lb.length ≤ cb) (hf : fewT la = true) (hf2 : fewT lb = true) (q : Bool) (hq : sameT sa aa na la sb ab nb lb = q) (hself : sameT sa aa na la sa aa na la = true) (S T : ByteArray)
    (hp : ∀ w, Kd.C k86 w Aa la.length la → Calls Try.prog 39 #[.agg #[.int .i64 sa, .int .i64 aa, .int .u64 na, .slice Aa la.length ca]] w fun e w' => e = .returned (.tuple #[.string S, .int .i64 0]) ∧ Below w.heap.size w w')
    (hp2 : ∀ w, Kd.C k86 w Ab lb.length lb → Calls Try.prog 39 #[.agg #[.int .i64 sb, .int .i64 ab, .int .u64 nb, .slice Ab lb.length cb]] w fun e w' => e = .returned (.tuple #[.string T, .int .i64 1]) ∧ Below w.heap.size w w') :
    Calls Try.prog 7 #[.agg #[.int .i64 sa, .int .i64 aa, .int .u64 na, .slice Aa la.length ca], .agg #[.int .i64 sb, .int .i64 ab, .int .u64 nb, .slice Ab lb.length cb]] w fun e w' => e = .returned (.bool true) ∧ Below w.heap.size w w' := by
  have HA := Lib.hid hra
  have HB := Lib.hid hrb
  clear hra hrb
  have HF := Lib.hid hf
  have HF2 := Lib.hid hf2
  have HQ := Lib.hid hq
  have HS := Lib.hid hself
  have HP := Lib.hid hp
  have HP2 := Lib.hid hp2
  clear hf hf2 hq hself hp hp2
  cases hqq : q
  all_goals
    subst hqq
    go_enter Try.func7, Try.ntmps7
    go_wp2_with fail
    refine (few _ _ _ _ _ la _ ((Kd.C_alloc (Kd.C_alloc HA.out _) _)) hca).mono ?_
    rintro e w1 ⟨rfl, hb1⟩
    rw [HF.out]
    obtain ⟨hc1, hf1⟩ := Base.bcell hb1
    have hB1 : Below w.heap.size w w1 := Base.bel (((Below.refl _ _).alloc (Nat.le_refl _) _).alloc (by simp) _) hb1 (by simp; omega)
    have p1 : w.heap.size < w1.heap.size := by (have := hb1.size; simp at this; omega)
    have q1 : w.heap.size + 1 < w1.heap.size := by (have := hb1.size; simp at this; omega)
    go_wp2_with fail
    refine (few _ _ _ _ _ lb _ (Kd.C_below HB.out hB1) hcb).mono ?_
    rintro e w2 ⟨rfl, hb2⟩
    rw [HF2.out]
    obtain ⟨hc2, hf2⟩ := Base.bcell hb2
    have hB2 : Below w.heap.size w w2 := Base.bel hB1 hb2 (by omega)
    have p2 : w.heap.size < w2.heap.size := by (have := hb2.size; omega)
    have q2 : w.heap.size + 1 < w2.heap.size := by (have := hb2.size; omega)
    go_wp2_with fail
    refine (refSame _ _ _ _ _ la _ _ _ _ _ lb _ (Kd.C_below HA.out hB2) hca (Kd.C_below HB.out hB2) hcb).mono ?_
    rintro e w3 ⟨rfl, hb3⟩
    rw [HQ.out]
    obtain ⟨hc3, hf3⟩ := Base.bcell hb3
    have hB3 : Below w.heap.size w w3 := Base.bel hB2 hb3 (by omega)
    have p3 : w.heap.size < w3.heap.size := by (have := hb3.size; omega)
    have q3 : w.heap.size + 1 < w3.heap.size := by (have := hb3.size; omega)
    go_wp2_with fail
    refine (txnSame _ _ _ _ _ la _ _ _ _ _ lb _ (Kd.C_below HA.out hB3) hca (Kd.C_below HB.out hB3) hcb).mono ?_
    rintro e w4 ⟨rfl, hb4⟩
    rw [HQ.out]
    obtain ⟨hc4, hf4⟩ := Base.bcell hb4
    have hB4 : Below w.heap.size w w4 := Base.bel hB3 hb4 (by omega)
    have p4 : w.heap.size < w4.heap.size := by (have := hb4.size; omega)
    have q4 : w.heap.size + 1 < w4.heap.size := by (have := hb4.size; omega)
    go_wp2_with fail
    refine (txnSame _ _ _ _ _ la _ _ _ _ _ la _ (Kd.C_below HA.out hB4) hca (Kd.C_below HA.out hB4) hca).mono ?_
    rintro e w5 ⟨rfl, hb5⟩
    rw [HS.out]
    obtain ⟨hc5, hf5⟩ := Base.bcell hb5
    have hB5 : Below w.heap.size w w5 := Base.bel hB4 hb5 (by omega)
    have p5 : w.heap.size < w5.heap.size := by (have := hb5.size; omega)
    have q5 : w.heap.size + 1 < w5.heap.size := by (have := hb5.size; omega)
    go_wp2_with fail
    refine (HP.out _ (Kd.C_below HA.out hB5)).mono ?_
    rintro e w6 ⟨rfl, hb6⟩
    obtain ⟨hc6, hf6⟩ := Base.bcell hb6
    have hB6 : Below w.heap.size w w6 := Base.bel hB5 hb6 (by omega)
    have p6 : w.heap.size < w6.heap.size := by (have := hb6.size; omega)
    have q6 : w.heap.size + 1 < w6.heap.size := by (have := hb6.size; omega)
    go_wp2_with fail
    refine (HP2.out _ (Kd.C_below HB.out hB6)).mono ?_
    rintro e w7 ⟨rfl, hb7⟩
    obtain ⟨hc7, hf7⟩ := Base.bcell hb7
    have hB7 : Below w.heap.size w w7 := Base.bel hB6 hb7 (by omega)
    have p7 : w.heap.size < w7.heap.size := by (have := hb7.size; omega)
    have q7 : w.heap.size + 1 < w7.heap.size := by (have := hb7.size; omega)
    go_wp2_with fail
    refine (awake _).mono ?_
    rintro e w8 ⟨rfl, hb8⟩
    obtain ⟨hc8, hf8⟩ := Base.bcell hb8
    have hB8 : Below w.heap.size w w8 := Base.bel hB7 hb8 (by omega)
    have p8 : w.heap.size < w8.heap.size := by (have := hb8.size; omega)
    have q8 : w.heap.size + 1 < w8.heap.size := by (have := hb8.size; omega)
    go_wp2
    go_ret
    exact ⟨rfl, hB8⟩
set_option maxHeartbeats 4000000 in
theorem law_yy (sa aa na : Int) (Aa : Option Addr) (ca : Nat) (la : List S86) (sb ab nb : Int) (Ab : Option Addr) (cb : Nat) (lb : List S86) (w : World) (hra : Kd.C k86 w Aa la.length la) (hca : la.length ≤ ca) (hrb : Kd.C k86 w Ab lb.length lb) (hcb : lb.length ≤ cb) (hf : fewT la = true) (hf2 : fewT lb = true) (q : Bool) (hq : sameT sa aa na la sb ab nb lb = q) (hself : sameT sa aa na la sa aa na la = true) (S T : ByteArray) (hst : ((S.toList == T.toList) == q) = true)
    (hp : ∀ w, Kd.C k86 w Aa la.length la → Calls Try.prog 39 #[.agg #[.int .i64 sa, .int .i64 aa, .int .u64 na, .slice Aa la.length ca]] w fun e w' => e = .returned (.tuple #[.string S, .int .i64 0]) ∧ Below w.heap.size w w')
    (hp2 : ∀ w, Kd.C k86 w Ab lb.length lb → Calls Try.prog 39 #[.agg #[.int .i64 sb, .int .i64 ab, .int .u64 nb, .slice Ab lb.length cb]] w fun e w' => e = .returned (.tuple #[.string T, .int .i64 0]) ∧ Below w.heap.size w w') :
    Calls Try.prog 7 #[.agg #[.int .i64 sa, .int .i64 aa, .int .u64 na, .slice Aa la.length ca], .agg #[.int .i64 sb, .int .i64 ab, .int .u64 nb, .slice Ab lb.length cb]] w fun e w' => e = .returned (.bool true) ∧ Below w.heap.size w w' := by
  have HA := Lib.hid hra
  have HB := Lib.hid hrb
  clear hra hrb
  have HF := Lib.hid hf
  have HF2 := Lib.hid hf2
  have HQ := Lib.hid hq
  have HS := Lib.hid hself
  have HP := Lib.hid hp
  have HP2 := Lib.hid hp2
  clear hf hf2 hq hself hp hp2
  cases hqq : q
  all_goals
    subst hqq
    go_enter Try.func7, Try.ntmps7
    go_wp2_with fail
    refine (few _ _ _ _ _ la _ ((Kd.C_alloc (Kd.C_alloc HA.out _) _)) hca).mono ?_
    rintro e w1 ⟨rfl, hb1⟩
    rw [HF.out]
    obtain ⟨hc1, hf1⟩ := Base.bcell hb1
    have hB1 : Below w.heap.size w w1 := Base.bel (((Below.refl _ _).alloc (Nat.le_refl _) _).alloc (by simp) _) hb1 (by simp; omega)
    have p1 : w.heap.size < w1.heap.size := by (have := hb1.size; simp at this; omega)
    have q1 : w.heap.size + 1 < w1.heap.size := by (have := hb1.size; simp at this; omega)
    go_wp2_with fail
    refine (few _ _ _ _ _ lb _ (Kd.C_below HB.out hB1) hcb).mono ?_
    rintro e w2 ⟨rfl, hb2⟩
    rw [HF2.out]
    obtain ⟨hc2, hf2⟩ := Base.bcell hb2
    have hB2 : Below w.heap.size w w2 := Base.bel hB1 hb2 (by omega)
    have p2 : w.heap.size < w2.heap.size := by (have := hb2.size; omega)
    have q2 : w.heap.size + 1 < w2.heap.size := by (have := hb2.size; omega)
    go_wp2_with fail
    refine (refSame _ _ _ _ _ la _ _ _ _ _ lb _ (Kd.C_below HA.out hB2) hca (Kd.C_below HB.out hB2) hcb).mono ?_
    rintro e w3 ⟨rfl, hb3⟩
    rw [HQ.out]
    obtain ⟨hc3, hf3⟩ := Base.bcell hb3
    have hB3 : Below w.heap.size w w3 := Base.bel hB2 hb3 (by omega)
    have p3 : w.heap.size < w3.heap.size := by (have := hb3.size; omega)
    have q3 : w.heap.size + 1 < w3.heap.size := by (have := hb3.size; omega)
    go_wp2_with fail
    refine (txnSame _ _ _ _ _ la _ _ _ _ _ lb _ (Kd.C_below HA.out hB3) hca (Kd.C_below HB.out hB3) hcb).mono ?_
    rintro e w4 ⟨rfl, hb4⟩
    rw [HQ.out]
    obtain ⟨hc4, hf4⟩ := Base.bcell hb4
    have hB4 : Below w.heap.size w w4 := Base.bel hB3 hb4 (by omega)
    have p4 : w.heap.size < w4.heap.size := by (have := hb4.size; omega)
    have q4 : w.heap.size + 1 < w4.heap.size := by (have := hb4.size; omega)
    go_wp2_with fail
    refine (txnSame _ _ _ _ _ la _ _ _ _ _ la _ (Kd.C_below HA.out hB4) hca (Kd.C_below HA.out hB4) hca).mono ?_
    rintro e w5 ⟨rfl, hb5⟩
    rw [HS.out]
    obtain ⟨hc5, hf5⟩ := Base.bcell hb5
    have hB5 : Below w.heap.size w w5 := Base.bel hB4 hb5 (by omega)
    have p5 : w.heap.size < w5.heap.size := by (have := hb5.size; omega)
    have q5 : w.heap.size + 1 < w5.heap.size := by (have := hb5.size; omega)
    go_wp2_with fail
    refine (HP.out _ (Kd.C_below HA.out hB5)).mono ?_
    rintro e w6 ⟨rfl, hb6⟩
    obtain ⟨hc6, hf6⟩ := Base.bcell hb6
    have hB6 : Below w.heap.size w w6 := Base.bel hB5 hb6 (by omega)
    have p6 : w.heap.size < w6.heap.size := by (have := hb6.size; omega)
    have q6 : w.heap.size + 1 < w6.heap.size := by (have := hb6.size; omega)
    go_wp2_with fail
    refine (HP2.out _ (Kd.C_below HB.out hB6)).mono ?_
    rintro e w7 ⟨rfl, hb7⟩
    obtain ⟨hc7, hf7⟩ := Base.bcell hb7
    have hB7 : Below w.heap.size w w7 := Base.bel hB6 hb7 (by omega)
    have p7 : w.heap.size < w7.heap.size := by (have := hb7.size; omega)
    have q7 : w.heap.size + 1 < w7.heap.size := by (have := hb7.size; omega)
    go_wp2_with fail
    refine (awake _).mono ?_
    rintro e w8 ⟨rfl, hb8⟩
    obtain ⟨hc8, hf8⟩ := Base.bcell hb8
    have hB8 : Below w.heap.size w w8 := Base.bel hB7 hb8 (by omega)
    have p8 : w.heap.size < w8.heap.size := by (have := hb8.size; omega)
    have q8 : w.heap.size + 1 < w8.heap.size := by (have := hb8.size; omega)
    go_wp2
    go_ret
    exact ⟨rfl, hB8⟩
end Go.Proofs.Ytclpjmhanhocoaa.TxnLaw
