/- The walk of submit.After. Conditions: as stated in each theorem. -/
import Derived.Test.YtclpjmhanhocoaaPSubmitAfterx1
import Derived.Test.YtclpjmhanhocoaaBase
import Derived.Deep.CutRange
import Derived.Laws.NewBlocks
set_option linter.unusedVariables false
set_option linter.unusedSimpArgs false
namespace Go.Proofs.Ytclpjmhanhocoaa.SubAfter
open Go.RowKit PSubmitAfter Base Go.Proofs.YtclpjmhanhocoaaW.PrintWords
set_option maxRecDepth 100000
def bodyF (r who s a n e x : Int) : Int × Int × Int × Int × Int × Int × Int × Int × Int × Bool := if r = 9 then (r, who, 0, 0, 0, s, a, 0, x, true) else (if r = 8 then (r, who, 0, 0, 0, s, a, e, n, true) else (if r = 7 then (r, who, 0, 0, 0, s, a, e, n, true) else (0, 0, 0, 0, 0, 0, 0, 0, 0, false)))
def submit_AfterF (k : Nat) (a0 who s a n : Int) (l : List S86) (e x : Int) : Option (Int × Int × Int × Int × Int × Int × Int × Int × Int × Bool) := (outcome_Op.f k a0).map fun r => bodyF r who s a n e x
theorem belDrewN {B : Nat} {a b : World} (h : Below B a b) (n : Nat) : Below B a (b.drewN n) := ⟨h.os, h.tape, h.output, h.size, h.block⟩
theorem bel3 {w wz : World} (h : Below w.heap.size w wz) (o1 o2 o3 : Obj) : Below w.heap.size w (((wz.alloc o1).alloc o2).alloc o3) := by
  have h1 := h.alloc h.size o1
  have h2 := h1.alloc h1.size o2
  exact h2.alloc h2.size o3
theorem alloc_drewN (X : World) (o : Obj) (m : Nat) : (X.alloc o).drewN m = (X.drewN m).alloc o := rfl
abbrev BA (s a n : Int) (A : Option Addr) (L c : Nat) : Obj := .cells #[.int .i64 s, .int .i64 a, .int .u64 n, .slice A L c] 66
abbrev BR (r1 r2 r3 r4 r5 r6 r7 r8 r9 : Int) : Obj := .cells #[.int .i64 r1, .int .i64 r2, .int .i64 r3, .int .i64 r4, .int .u64 r5, .int .i64 r6, .int .i64 r7, .int .u64 r8, .int .u64 r9] 73
theorem fold2 (w : World) (m : Nat) (r who s a n : Int) (A : Option Addr) (L c : Nat) : (((((((((((((w.alloc (BA s a n A L c)).alloc (BR 0 0 0 0 0 0 0 0 0)).alloc (BR 0 0 0 0 0 0 0 0 0)).drewN m).setCell ⟨w.heap.size + 1 + 1, 0, none⟩ (.int .i64 r)).setCell ⟨w.heap.size + 1 + 1, 1, none⟩ (.int .i64 who)).setCell ⟨w.heap.size + 1 + 1, 2, none⟩ (.int .i64 0)).setCell ⟨w.heap.size + 1 + 1, 3, none⟩ (.int .i64 0)).setCell ⟨w.heap.size + 1 + 1, 4, none⟩ (.int .u64 0)).setCell ⟨w.heap.size + 1 + 1, 5, none⟩ (.int .i64 s)).setCell ⟨w.heap.size + 1 + 1, 6, none⟩ (.int .i64 a)).setCell ⟨w.heap.size + 1 + 1, 7, none⟩ (.int .u64 0)).setCell ⟨w.heap.size + 1 + 1, 8, none⟩ (.int .u64 0)) = (((w.drewN m).alloc (BA s a n A L c)).alloc (BR 0 0 0 0 0 0 0 0 0)).alloc (BR r who 0 0 0 s a 0 0) := by
  simp only [alloc_drewN]
  have hs : (w.drewN m).heap.size = w.heap.size := rfl
  simp [World.setCell_alloc_at, hs]
theorem fold1 (w : World) (m : Nat) (r who s a n : Int) (A : Option Addr) (L c : Nat) : ((((w.alloc (BA s a n A L c)).alloc (BR 0 0 0 0 0 0 0 0 0)).drewN m).alloc (BR r who 0 0 0 s a 0 0)) = (((w.drewN m).alloc (BA s a n A L c)).alloc (BR 0 0 0 0 0 0 0 0 0)).alloc (BR r who 0 0 0 s a 0 0) := by
  simp only [alloc_drewN]
set_option maxHeartbeats 4000000 in
theorem after (k : Nat) (a0 who s a n : Int) (A : Option Addr) (c : Nat) (l : List S86) (e x : Int) (r1 r2 r3 r4 r5 r6 r7 r8 r9 : Int) (r10 : Bool) (w : World) (h : submit_AfterF k a0 who s a n l e x = some (r1, r2, r3, r4, r5, r6, r7, r8, r9, r10)) :
    Calls Try.prog 43 #[.int .i64 a0, .int .i64 who, .agg #[.int .i64 s, .int .i64 a, .int .u64 n, .slice A l.length c], .int .u64 e, .int .u64 x] w fun en w' => en = .returned (.tuple #[.agg #[.int .i64 r1, .int .i64 r2, .int .i64 r3, .int .i64 r4, .int .u64 r5, .int .i64 r6, .int .i64 r7, .int .u64 r8, .int .u64 r9], .bool r10]) ∧ Below w.heap.size w w' := by
  simp only [submit_AfterF, Option.map_eq_some_iff] at h
  obtain ⟨r, hr, hb⟩ := h
  have H := Lib.hid hr
  have HT := Lib.hid hb
  clear hr hb
  go_enter Try.func43, Try.ntmps43
  go_upto_region 1 with fail
  go_cut [12] from 13 to 20 (fun s12 wx => s12 = .pointer (some ⟨w.heap.size + 1 + 1, 0, none⟩) ∧ ∃ m, wx = (((w.drewN m).alloc (BA s a n A l.length c)).alloc (BR 0 0 0 0 0 0 0 0 0)).alloc (BR r who 0 0 0 s a 0 0))
  case first =>
    go_region_with (go_at_call 60; refine (outcome_Op.calls k _ _ _ H.out).mono ?_; rintro en w' ⟨rfl, hd⟩; obtain ⟨kk, rfl⟩ := hd)
    all_goals go_wp2_with fail
    all_goals go_meet
    all_goals refine ⟨rfl, 1 + kk, ?_⟩
    all_goals first
      | with_reducible exact fold1 ..
      | with_reducible exact fold2 ..
  case rest =>
    obtain ⟨rfl, m, rfl⟩ := hcut
    obtain ⟨wz, hwz⟩ : ∃ wz, w.drewN m = wz := ⟨_, rfl⟩
    have hz : w.heap.size = wz.heap.size := by rw [← hwz]; rfl
    have hbz : Below w.heap.size w wz := by rw [← hwz]; exact belDrewN (Below.refl _ _) m
    rw [hwz, hz]
    have HZ := Lib.hid hz
    clear hwz hz
    by_cases h9 : r = 9
    · subst h9
      have hT := HT.out
      simp [bodyF] at hT
      obtain ⟨rfl, rfl, rfl, rfl, rfl, rfl, rfl, rfl, rfl, rfl⟩ := hT
      clear HT
      go_wp2
      refine bodyPost_ret (v := .tuple #[.agg #[.int .i64 9, .int .i64 _, .int .i64 0, .int .i64 0, .int .u64 0, .int .i64 _, .int .i64 _, .int .u64 0, .int .u64 _], .bool true]) (by simp [results, Try.results43, go_sem]) rfl ⟨rfl, ?_⟩
      exact bel3 hbz _ _ _
    by_cases h8 : r = 8
    · subst h8
      have hT := HT.out
      simp [bodyF] at hT
      obtain ⟨rfl, rfl, rfl, rfl, rfl, rfl, rfl, rfl, rfl, rfl⟩ := hT
      clear HT
      go_wp2_with fail
      go_region
      all_goals go_wp2
      all_goals refine bodyPost_ret (v := .tuple #[.agg #[.int .i64 _, .int .i64 _, .int .i64 0, .int .i64 0, .int .u64 0, .int .i64 _, .int .i64 _, .int .u64 _, .int .u64 _], .bool true]) (by simp [results, Try.results43, go_sem]) rfl ⟨rfl, ?_⟩
      all_goals first
        | exact bel3 hbz _ _ _
        | exact belDrewN (bel3 hbz _ _ _) 1
    by_cases h7 : r = 7
    · subst h7
      have hT := HT.out
      simp [bodyF] at hT
      obtain ⟨rfl, rfl, rfl, rfl, rfl, rfl, rfl, rfl, rfl, rfl⟩ := hT
      clear HT
      go_wp2_with fail
      go_region
      all_goals go_wp2
      all_goals refine bodyPost_ret (v := .tuple #[.agg #[.int .i64 _, .int .i64 _, .int .i64 0, .int .i64 0, .int .u64 0, .int .i64 _, .int .i64 _, .int .u64 _, .int .u64 _], .bool true]) (by simp [results, Try.results43, go_sem]) rfl ⟨rfl, ?_⟩
      all_goals first
        | exact bel3 hbz _ _ _
        | exact belDrewN (bel3 hbz _ _ _) 1
    · have hT := HT.out
      simp [bodyF, h9, h8, h7] at hT
      obtain ⟨rfl, rfl, rfl, rfl, rfl, rfl, rfl, rfl, rfl, rfl⟩ := hT
      have e9 : (r == 9) = false := beq_eq_false_iff_ne.2 h9
      have e8 : (r == 8) = false := beq_eq_false_iff_ne.2 h8
      have e7 : (r == 7) = false := beq_eq_false_iff_ne.2 h7
      clear HT h9 h8 h7
      go_wp2
      refine bodyPost_ret (v := .tuple #[.agg #[.int .i64 0, .int .i64 0, .int .i64 0, .int .i64 0, .int .u64 0, .int .i64 0, .int .i64 0, .int .u64 0, .int .u64 0], .bool false]) (by simp [results, Try.results43, go_sem]) rfl ⟨rfl, ?_⟩
      exact bel3 hbz _ _ _
end Go.Proofs.Ytclpjmhanhocoaa.SubAfter
