/- slices.Chunk at five messages, two at a time: its function value's contract. Conditions: as stated in each theorem. -/
import Derived.RangeFuncNested
import Derived.RangeFuncBound
import Derived.RangeFuncCalls
import Derived.RangeFuncLeaves
import Derived.RangeFuncBox
import Derived.RangeFuncFrom
import Derived.Shelf.Abstract
import Derived.Shelf.RegionOpen
import Derived.WalkKit
import Derived.OwnWalkIn
import Derived.TacticsInMore
import Derived.LoopNIn
import Derived.LoopIn
import Derived.Test.YtclpjmhanhocoaaProg
set_option linter.unusedVariables false
set_option linter.unusedSimpArgs false
namespace Go.Proofs.Ytclpjmhanhocoaa.SubIter
open Go.RowKit Go.Shelf
set_option maxRecDepth 100000
attribute [local go_sem] Oper.semAt_some

/-- the k-th part of five, two at a time -/
def part5 (b : Nat) (k : Fin 3) : Value := .slice (some ⟨b, k.val * 14, none⟩) (if k.val = 2 then 1 else 2) (if k.val = 2 then 1 else 2)
/-- the first k of the parts -/
def upto3 (k : Nat) : List (Fin 3) := ([0, 1, 2] : List (Fin 3)).take k

theorem chunk_in (F : Fence) (n : Nat) (h81 : F.fn 81) (hro : F.round = none) (a : Option Addr) (len cap : Nat) (w : World) :
    CallsIn F n Try.prog 81 #[.slice a len cap, .int .i64 2] w fun e w' => e = .returned (.func (.func 87) #[] #[.pointer (some ⟨w.heap.size, 0, none⟩), .pointer (some ⟨w.heap.size + 1, 0, none⟩)]) ∧ w' = (w.alloc (.cells #[.slice a len cap] 64)).alloc (.cells #[.int .i64 2] 3) := by
  refine callsIn_of_wp Try.func81 rfl h81 ?_ hro
  simp only [Try.ntmps81, List.size_toArray, List.length_cons, List.length_nil, Nat.reduceAdd, Nat.reduceSub, Array.replicate_succ, Array.replicate_zero, List.push_toArray, List.append_toArray, List.nil_append, List.cons_append]
  gi_wp2
  go_ret
  exact ⟨rfl, rfl⟩

/-- what a round keeps: the two boxes -/
def Kp (Bs Bm : Nat) (W W' : World) : Prop := W'.heap[Bs]? = W.heap[Bs]? ∧ W'.heap[Bm]? = W.heap[Bm]?

theorem kp_s {Bs Bm : Nat} {W W' : World} {v : Value} (h : Kp Bs Bm W.drew W') (hc : W.cell? ⟨Bs, 0, none⟩ = some v) : W'.cell? ⟨Bs, 0, none⟩ = some v :=
  (World.cell?_of_block (a := ⟨Bs, 0, none⟩) h.1).trans hc
theorem kp_m {Bs Bm : Nat} {W W' : World} {v : Value} (h : Kp Bs Bm W.drew W') (hc : W.cell? ⟨Bm, 0, none⟩ = some v) : W'.cell? ⟨Bm, 0, none⟩ = some v :=
  (World.cell?_of_block (a := ⟨Bm, 0, none⟩) h.2).trans hc
set_option maxHeartbeats 4000000 in
theorem iter_in (F : Fence) (n : Nat) (h87 : F.fn 87) (hro : F.round = none) (hn : 1 ≤ n) (l Bs Bm b cap : Nat) (hcap : 5 ≤ cap) (J Jx : List (Fin 3) → World → Prop) (hJd : ∀ pre W, J pre W → J pre W.drew)
    (hY : ∀ pre x W, J pre W → pre.length < 3 → YieldAt F (n - 1) Try.prog l #[part5 b x] W fun e W' =>
      (e = .returned (.bool true) ∧ J (pre ++ [x]) W' ∧ Kp Bs Bm W W') ∨ (e = .returned (.bool false) ∧ Jx (pre ++ [x]) W'))
    (W : World) (hBs : W.cell? ⟨Bs, 0, none⟩ = some (.slice (some ⟨b, 0, none⟩) 5 cap)) (hBm : W.cell? ⟨Bm, 0, none⟩ = some (.int .i64 2)) (h0 : J [] W) :
    CallsIn F n Try.prog 87 #[.func (.yield l) #[] #[], .pointer (some ⟨Bs, 0, none⟩), .pointer (some ⟨Bm, 0, none⟩)] W fun e W' => (∃ v, e = .returned v) ∧
      ((∃ ys, ys.length = 3 ∧ J ys W') ∨ (∃ pre, True ∧ Jx pre W')) := by
  refine callsIn_of_wp Try.func87 rfl h87 ?_ hro
  simp only [Try.ntmps87, List.size_toArray, List.length_cons, List.length_nil, Nat.reduceAdd, Nat.reduceSub, Array.replicate_succ, Array.replicate_zero, List.push_toArray, List.append_toArray, List.nil_append, List.cons_append]
  gi_wp2
  have hc0 : ¬ cap = 0 := by omega
  have hc2 : ¬ cap = 2 := by omega
  have hc4 : ¬ cap = 4 := by omega
  have hi1 : (1 : Int) ≤ cap := by omega
  have hi2 : (2 : Int) ≤ cap := by omega
  have hi4 : (4 : Int) ≤ cap := by omega
  have hi5 : (5 : Int) ≤ cap := by omega
  gi_loopw [4] (fun i wr => ∃ k : Nat, ((k = 0 ∧ i = .int .i64 0) ∨ (k = 1 ∧ i = .int .i64 2) ∨ (k = 2 ∧ i = .int .i64 4) ∨ (k = 3 ∧ i = .int .i64 6)) ∧ J (upto3 k) wr ∧ wr.cell? ⟨Bs, 0, none⟩ = some (.slice (some ⟨b, 0, none⟩) 5 cap) ∧ wr.cell? ⟨Bm, 0, none⟩ = some (.int .i64 2))
    (fun i _ => 8 - (intOf i).toNat)
  case atStart => exact ⟨0, .inl ⟨rfl, rfl⟩, h0, hBs, hBm⟩
  case round =>
    obtain ⟨k, hk, hJs, hcs, hcm⟩ := hrel
    rcases hk with ⟨rfl, rfl⟩ | ⟨rfl, rfl⟩ | ⟨rfl, rfl⟩ | ⟨rfl, rfl⟩
    · obtain ⟨fn, tmps, assign, body, hy, hR⟩ := hY _ 0 wr.drew (hJd _ _ hJs) (by decide)
      rw [show part5 b 0 = Value.slice (some ⟨b, 0, none⟩) 2 2 from rfl] at hy
      gi_wp2
      gi_region
      all_goals gi_wp2
      all_goals refine hR.mono ?_
      all_goals rintro e W3 (⟨rfl, hJ3, hk3⟩ | ⟨rfl, hJx3⟩)
      all_goals first
        | (have hcs3 := kp_s hk3 hcs
           have hcm3 := kp_m hk3 hcm
           gi_wp2
           go_roundw
           case rel => exact ⟨1, .inr (.inl ⟨rfl, rfl⟩), hJ3, hcs3, hcm3⟩
           case measure => simp [intOf])
        | (gi_wp2
           refine bodyPost_ret (results_none rfl _ _ _) rfl ?_
           exact ⟨⟨_, rfl⟩, .inr ⟨_, trivial, hJx3⟩⟩)
    · obtain ⟨fn, tmps, assign, body, hy, hR⟩ := hY _ 1 wr.drew (hJd _ _ hJs) (by decide)
      rw [show part5 b 1 = Value.slice (some ⟨b, 14, none⟩) 2 2 from rfl] at hy
      gi_wp2
      gi_region
      all_goals gi_wp2
      all_goals refine hR.mono ?_
      all_goals rintro e W3 (⟨rfl, hJ3, hk3⟩ | ⟨rfl, hJx3⟩)
      all_goals first
        | (have hcs3 := kp_s hk3 hcs
           have hcm3 := kp_m hk3 hcm
           gi_wp2
           go_roundw
           case rel => exact ⟨2, .inr (.inr (.inl ⟨rfl, rfl⟩)), hJ3, hcs3, hcm3⟩
           case measure => simp [intOf])
        | (gi_wp2
           refine bodyPost_ret (results_none rfl _ _ _) rfl ?_
           exact ⟨⟨_, rfl⟩, .inr ⟨_, trivial, hJx3⟩⟩)
    · obtain ⟨fn, tmps, assign, body, hy, hR⟩ := hY _ 2 wr.drew (hJd _ _ hJs) (by decide)
      rw [show part5 b 2 = Value.slice (some ⟨b, 28, none⟩) 1 1 from rfl] at hy
      gi_wp2
      gi_region
      all_goals gi_wp2
      all_goals refine hR.mono ?_
      all_goals rintro e W3 (⟨rfl, hJ3, hk3⟩ | ⟨rfl, hJx3⟩)
      all_goals first
        | (have hcs3 := kp_s hk3 hcs
           have hcm3 := kp_m hk3 hcm
           gi_wp2
           go_roundw
           case rel => exact ⟨3, .inr (.inr (.inr ⟨rfl, rfl⟩)), hJ3, hcs3, hcm3⟩
           case measure => simp [intOf])
        | (gi_wp2
           refine bodyPost_ret (results_none rfl _ _ _) rfl ?_
           exact ⟨⟨_, rfl⟩, .inr ⟨_, trivial, hJx3⟩⟩)
    · gi_wp2
      go_end0
      exact ⟨⟨_, rfl⟩, .inl ⟨_, rfl, hJs⟩⟩
theorem kp_t {Bs Bm : Nat} {A B C : World} (h : Kp Bs Bm A B) (k : Kp Bs Bm B C) : Kp Bs Bm A C := ⟨k.1.trans h.1, k.2.trans h.2⟩
theorem kp_b {Bs Bm : Nat} {w : World} (h1 : Bs < w.heap.size) (h2 : Bm < w.heap.size) (W : World) (l : Nat) (o o' : Obj) (hl : w.heap.size ≤ l) (h : W.heap[l]? = some o) (hc : o.isCells = false) (hw : o.isWalk = false) : Kp Bs Bm W (W.putObj l o') :=
  ⟨(grownBy_putObj' W l o').block Bs (by have := (Array.getElem?_eq_some_iff.1 h).1; omega) (by intro e; injection e with e; omega), (grownBy_putObj' W l o').block Bm (by have := (Array.getElem?_eq_some_iff.1 h).1; omega) (by intro e; injection e with e; omega)⟩
theorem stops (F : Fence) (n : Nat) (h87 : F.fn 87) (hro : F.round = none) (hn : 1 ≤ n) (Bs Bm b cap : Nat) (hcap : 5 ≤ cap) (w : World) (hBs : Bs < w.heap.size) (hBm : Bm < w.heap.size)
    (hcs : w.cell? ⟨Bs, 0, none⟩ = some (.slice (some ⟨b, 0, none⟩) 5 cap)) (hcm : w.cell? ⟨Bm, 0, none⟩ = some (.int .i64 2)) :
    SeqStopsK F n Try.prog 87 #[.pointer (some ⟨Bs, 0, none⟩), .pointer (some ⟨Bm, 0, none⟩)] (fun x : Fin 3 => #[part5 b x]) (Kp Bs Bm) (fun ys => ys.length = 3) (fun _ => True) 3 w := fun l J Jx W hW hJ hJx hY h0 => by
  refine (iter_in F n h87 hro hn l Bs Bm b cap hcap J Jx ?_ hY W ((hW.cell (p := ⟨Bs, 0, none⟩) hBs).trans hcs) ((hW.cell (p := ⟨Bm, 0, none⟩) hBm).trans hcm) h0).mono ?_
  · intro pre W1 h
    exact hJ pre W1 _ none h ⟨rfl, rfl, rfl, Nat.le_refl _, fun _ _ _ => rfl⟩ (fun r e => by cases e)
  · rintro e W' ⟨he, hh⟩
    exact ⟨he, hh⟩
end Go.Proofs.Ytclpjmhanhocoaa.SubIter
