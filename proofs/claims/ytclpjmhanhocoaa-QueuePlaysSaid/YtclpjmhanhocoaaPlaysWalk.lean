/- The walk of muleteerlaw16.QueuePlays. Conditions: as stated in each theorem. -/
import Derived.Test.YtclpjmhanhocoaaPlaysSteps
import Derived.Deep.CutRange
import Derived.Deep.CutBlock
import Derived.IntWalk
set_option linter.unusedVariables false
set_option linter.unusedSimpArgs false
namespace Go.Proofs.Ytclpjmhanhocoaa.Plays
open Go.RowKit Base QInt
set_option maxRecDepth 100000

/-- an argument that is a slice of pairs: of each element, what it is -/
def Pairs (w : World) (a : Option Addr) (n : Nat) (A B : Nat → Int) : Prop := ∀ i, i < n → ∃ b o, a = some ⟨b, o, none⟩ ∧ b < w.heap.size ∧ w.cell? ⟨b, o + i * 2, none⟩ = some (.int .i64 (A i)) ∧ w.cell? ⟨b, o + i * 2 + 1, none⟩ = some (.int .i64 (B i))

theorem Sp.start {w w1 : World} {q g n : Nat} (hq : QL w1 q g n []) (hb : Below w.heap.size w w1) (h1 : w.heap.size ≤ q) (h2 : w.heap.size ≤ g) :
    Sp w (w1.alloc (.cells #[.slice none 0 0, .int .i64 n] 47)) (w1.heap.size + 1) q g w1.heap.size n (.slice none 0 0) [] [] := by
  have hl := hq.le
  have hs := hb.size
  exact ⟨hq.kept (Below.heap_alloc _ _ _ hl.2.2.1) (Below.heap_alloc _ _ _ hl.2.2.2.1), block_new _ _, World.ownsRow_nil _ _ _ _, hb.alloc hs _, by simp, ⟨h1, by omega⟩, ⟨h2, by omega⟩, ⟨hs, by omega⟩, by omega, by omega⟩

theorem long (room : Int) (al : Option Addr) (ll cl : Nat) (w : World) (h : 100 < ll) :
    Calls Try.prog 5 #[.int .i64 room, .slice al ll cl] w fun e w' => e = .returned (.bool true) ∧ Below w.heap.size w w' := by
  have h1 : 100 < (ll : Int) := by omega
  go_enter Try.func5, Try.ntmps5
  go_wp2_with fail
  refine (QueueAwake.awake _).mono ?_
  rintro e w1 ⟨rfl, hb1⟩
  go_wp2
  go_ret
  exact ⟨rfl, hb1⟩
theorem noroom (room : Int) (hr : room < 1 ∨ 1024 < room) (al : Option Addr) (ll cl : Nat) (w : World) (h : ll ≤ 100) :
    Calls Try.prog 5 #[.int .i64 room, .slice al ll cl] w fun e w' => e = .returned (.bool true) ∧ Below w.heap.size w w' := by
  have h1 : ¬ 100 < (ll : Int) := by omega
  have HR := Lib.hid hr
  by_cases h2 : room < 1
  · clear hr
    go_enter Try.func5, Try.ntmps5
    go_wp2_with fail
    refine (new_no room _ HR.out).mono ?_
    rintro e w1 ⟨rfl, rfl⟩
    go_wp2_with fail
    refine (QueueAwake.awake _).mono ?_
    rintro e w2 ⟨rfl, hb1⟩
    go_wp2
    go_ret
    exact ⟨rfl, hb1⟩
  · have h3 : 1024 < room := by omega
    clear hr
    go_enter Try.func5, Try.ntmps5
    go_wp2_with fail
    refine (new_no room _ HR.out).mono ?_
    rintro e w1 ⟨rfl, rfl⟩
    go_wp2_with fail
    refine (QueueAwake.awake _).mono ?_
    rintro e w2 ⟨rfl, hb1⟩
    go_wp2
    go_ret
    exact ⟨rfl, hb1⟩

theorem keepB {w w2 : World} {b o : Nat} {u : Value} (hb : b < w.heap.size) (hc : w.cell? ⟨b, o, none⟩ = some u) (h : Below w.heap.size w w2) : w2.cell? ⟨b, o, none⟩ = some u ∧ Below w.heap.size w w2 :=
  ⟨(h.cell (p := ⟨b, o, none⟩) hb).trans hc, h⟩
theorem keepR {w w2 : World} {r : Nat} {u : Value} (hc : w.cell? ⟨r, 0, none⟩ = some u) (h : Below w.heap.size w w2) : w2.cell? ⟨r, 0, none⟩ = some u ∧ Below w.heap.size w w2 :=
  keepB (World.block_lt_of_cell? w _ hc) hc h
theorem keepR_drewN {w w2 : World} {r : Nat} {u : Value} (h : w2.cell? ⟨r, 0, none⟩ = some u ∧ Below w.heap.size w w2) (n : Nat) : (w2.drewN n).cell? ⟨r, 0, none⟩ = some u ∧ Below w.heap.size w (w2.drewN n) :=
  ⟨h.1, belDrewN h.2 n⟩
theorem keepR_bel {w w2 w3 : World} {r : Nat} {u : Value} (hc : w.cell? ⟨r, 0, none⟩ = some u) (h : w2.cell? ⟨r, 0, none⟩ = some u ∧ Below w.heap.size w w2) (hb : Below w2.heap.size w2 w3) : w3.cell? ⟨r, 0, none⟩ = some u ∧ Below w.heap.size w w3 :=
  keepR hc (Base.bel h.2 hb h.2.size)
theorem QL.bel {w w2 : World} {q g n : Nat} {xs : List Int} (h : QL w q g n xs) (hb : Below w.heap.size w w2) : QL w2 q g n xs := h.kept (hb.block q h.le.2.2.1) (hb.block g h.le.2.2.2.1)
theorem cells_bel {w w2 : World} {a : Option Addr} {l : List Int} (h : ∀ i x, l[i]? = some x → ∃ g, a = some ⟨g, 0, none⟩ ∧ w.cell? ⟨g, i, none⟩ = some (.int .i64 x)) (hb : Below w.heap.size w w2) : ∀ i x, l[i]? = some x → ∃ g, a = some ⟨g, 0, none⟩ ∧ w2.cell? ⟨g, i, none⟩ = some (.int .i64 x) := by
  intro i x hi
  obtain ⟨g, ha, hc⟩ := h i x hi
  exact ⟨g, ha, (hb.cell (p := ⟨g, i, none⟩) (World.block_lt_of_cell? w _ hc)).trans hc⟩

set_option maxHeartbeats 4000000 in
theorem walk (n : Nat) (h0 : 1 ≤ n) (hn : n ≤ 1024) (al : Option Addr) (ll cl : Nat) (w : World) (h : ll ≤ 100) (A B : Nat → Int) (hP : Pairs w al ll A B) :
    Calls Try.prog 5 #[.int .i64 n, .slice al ll cl] w fun e w' => e = .returned (.bool true) ∧ Below w.heap.size w w' := by
  have h1 : ¬ 100 < (ll : Int) := by omega
  have h2 : ¬ (n : Int) < 1 := by omega
  have h3 : ¬ 1024 < (n : Int) := by omega
  have HP := Lib.hid hP
  clear hP
  go_enter Try.func5, Try.ntmps5
  go_wp2_with fail
  refine (new_list n _ (by omega) (by omega)).mono ?_
  rintro e w1 ⟨q, g, rfl, hq, hg, hI, hb⟩
  have hS := Sp.start hI hb hq hg
  obtain ⟨base, hbase⟩ : ∃ b, b = w1.heap.size + 1 := ⟨_, rfl⟩
  obtain ⟨r, hr⟩ : ∃ b, b = w1.heap.size := ⟨_, rfl⟩
  have HS : Hid (Sp w (w1.alloc (.cells #[.slice none 0 0, .int .i64 n] 47)) base q g r n (.slice none 0 0) [] []) := Lib.hid (by rw [hbase, hr]; exact hS)
  clear hS hbase hq hg hI hb
  go_wp2_with fail
  rw [← hr]
  clear hr
  go_loopw [8, 9, 10, 11, 12, 13, 14] (fun i _ _ _ _ _ _ wr => ∃ (k : Nat) (v : Value) (xs : List Int), k ≤ ll ∧ i = .int .i64 k ∧ Sp w wr base q g r n v xs xs) (fun i _ _ _ _ _ _ _ => ll - (intOf i).toNat)
  case atStart => exact ⟨0, _, [], by omega, rfl, HS.out⟩
  case round =>
    obtain ⟨k, v, xs, hk, rfl, hS⟩ := hrel
    have HS2 := Lib.hid hS
    clear hS HS
    by_cases hlt : k < ll
    · obtain ⟨bl, ol, rfl, hbl, hca, hcb⟩ := HP.out k hlt
      have ha : wr.cell? ⟨bl, ol + k * 2, none⟩ = some (.int .i64 (A k)) := (HS2.out.bel.cell (p := ⟨bl, ol + k * 2, none⟩) hbl).trans hca
      have hbb : wr.cell? ⟨bl, ol + k * 2 + 1, none⟩ = some (.int .i64 (B k)) := (HS2.out.bel.cell (p := ⟨bl, ol + k * 2 + 1, none⟩) hbl).trans hcb
      have hb1 : (0 : Int) ≤ (k : Int) := by omega
      have hb2 : (k : Int) < ll := by omega
      go_upto_block 2 with fail
      generalize bits BinOp.and IntKind.i64 (A k) 7 = m
      have hcase : (m = 0 ∨ m = 1 ∨ m = 2 ∨ m = 3) ∨ m = 7 ∨ (¬ m = 0 ∧ ¬ m = 1 ∧ ¬ m = 2 ∧ ¬ m = 3 ∧ ¬ m = 7) := by omega
      have hxl : xs.length ≤ n := HS2.out.ql.le.1
      go_cut [9, 10, 11, 12, 13, 14] from 44 to 145 (fun _ _ _ _ _ _ wc => ∃ (v : Value) (xs : List Int), Sp w wc base q g r n v xs xs)
      case first =>
        rcases hcase with hm | rfl | ⟨m0, m1, m2, m3, m7⟩
        · by_cases hfull : xs.length < n
          · rcases hm with rfl | rfl | rfl | rfl
            all_goals go_wp2_with fail
            all_goals go_region_held3 (fun w2 => w2.cell? ⟨bl, ol + k * 2 + 1, none⟩ = some (.int .i64 (B k)) ∧ Below w.heap.size w w2)
              (first | assumption | exact keepB hbl hcb (HS2.out.drewN 1).bel | exact keepB hbl hcb HS3.out.bel | exact keepB hbl hcb HS4.out.bel)
              (first | (go_at_call 18; refine (put_list (B k) (HS2.out.drewN 1).ql hfull).mono ?_; rintro e w3 ⟨rfl, hQ3, hO3⟩; have HS3 := Lib.hid (Sp.queue (HS2.out.drewN 1) hQ3 hO3); clear hQ3 hO3) | (go_at_call 19; refine (rput (B k) HS3.out hfull).mono ?_; rintro e w4 ⟨rfl, v4, hS4, hO4⟩; have HS4 := Lib.hid hS4; clear hS4 hO4))
            all_goals go_wp2_with fail
            all_goals go_meet
            all_goals exact ⟨_, _, HS4.out⟩
          · have hfl : xs.length = n := by omega
            rcases hm with rfl | rfl | rfl | rfl
            all_goals go_wp2_with fail
            all_goals go_region_held3 (fun w2 => w2.cell? ⟨bl, ol + k * 2 + 1, none⟩ = some (.int .i64 (B k)) ∧ Below w.heap.size w w2)
              (first | assumption | exact keepB hbl hcb (HS2.out.drewN 1).bel | exact keepB hbl hcb (HS2.out.drewN _).bel)
              (first | (go_at_call 18; refine (putf_list (B k) (HS2.out.drewN 1).ql hfl).mono ?_; rintro e w3 ⟨rfl, k3, rfl⟩) | (go_at_call 19; refine (rput_full (B k) (HS2.out.drewN _) hfl).mono ?_; rintro e w4 ⟨rfl, k4, rfl⟩))
            all_goals go_wp2_with fail
            all_goals go_meet
            all_goals exact ⟨_, _, HS2.out.drewN _⟩
        · go_wp2_with fail
          refine (clear HS2.out.ql).mono ?_
          rintro e w3 ⟨rfl, hQ3, hO3⟩
          have HS3 := Lib.hid (HS2.out.queue hQ3 hO3)
          have c3 := HS3.out.c0
          have f3 := HS3.out.free
          obtain ⟨av, cv, hv, _⟩ := own_shape HS2.out.own
          clear hQ3 hO3
          go_wp2_with fail
          go_meet
          exact ⟨_, [], HS3.out.stored (Only.refl _ _) HS3.out.hr (by simpa [ints] using World.ownsRow_nil _ _ _ _)⟩
        · have e0 : (m == 0) = false := beq_eq_false_iff_ne.2 m0
          have e1 : (m == 1) = false := beq_eq_false_iff_ne.2 m1
          have e2 : (m == 2) = false := beq_eq_false_iff_ne.2 m2
          have e3 : (m == 3) = false := beq_eq_false_iff_ne.2 m3
          have e7 : (m == 7) = false := beq_eq_false_iff_ne.2 m7
          cases xs with
          | nil =>
            go_wp2_with fail
            refine (peekn_list HS2.out.ql).mono ?_
            rintro e w3 ⟨rfl, k3, rfl⟩
            go_wp2_with fail
            refine (getn_list (HS2.out.drewN _).ql).mono ?_
            rintro e w4 ⟨rfl, k4, rfl⟩
            go_wp2_with fail
            refine (rget_none (HS2.out.drewN _)).mono ?_
            rintro e w5 ⟨rfl, rfl⟩
            go_wp2_with fail
            go_meet
            exact ⟨_, _, HS2.out.drewN _⟩
          | cons x xs =>
            have hx1 : (x :: xs).length ≤ 1024 := by omega
            go_wp2_with fail
            refine (peek_list x HS2.out.ql).mono ?_
            rintro e w3 ⟨rfl, k3, rfl⟩
            go_wp2_with fail
            refine (get_list x (HS2.out.drewN _).ql).mono ?_
            rintro e w4 ⟨rfl, hQ4, hO4⟩
            have HS4 := Lib.hid (Sp.queue (HS2.out.drewN _) hQ4 hO4)
            clear hQ4 hO4
            go_wp2_with fail
            refine (rget x HS4.out hx1).mono ?_
            rintro e w5 ⟨rfl, v5, hS5⟩
            have HS5 := Lib.hid hS5
            clear hS5
            go_wp2_with fail
            go_meet
            exact ⟨_, _, HS5.out⟩
      case rest =>
        clear HS2 ha hbb hxl hcase xs v m
        obtain ⟨v, xs, hS⟩ := hcut
        have HS2 := Lib.hid hS
        obtain ⟨av, cv, rfl, hcap, hlen, hcell⟩ := own_shape hS.own
        have HC := Lib.hid hcell
        have hle := hS.ql.le
        have C0 := Lib.hid hS.c0
        have hsub : IntKind.i64.wrap ((n : Int) - (xs.length : Nat)) = ((n - xs.length : Nat) : Int) := by rw [IntWalk.i64_in _ (by omega)]; omega
        have hl1 : xs.length ≤ 1024 := by omega
        clear hS hcell
        go_wp2_with fail
        go_region_held3 (fun w2 => w2.cell? ⟨r, 0, none⟩ = some (.slice av xs.length cv) ∧ Below wc.heap.size wc w2)
          (first | assumption | exact keepR C0.out (belDrewN (Below.refl _ _) 1) | exact keepR C0.out (belDrewN (Below.refl _ _) _) | exact keepR_drewN (by assumption) _ | exact keepR_bel C0.out (by assumption) hb4)
          (first | (go_at_call 24; refine (len_list (QL.bel HS2.out.ql (by assumption : _ ∧ _).2)).mono ?_; rintro e w2 ⟨rfl, rfl⟩) | (go_at_call 25; refine (room_list (QL.bel HS2.out.ql (by assumption : _ ∧ _).2)).mono ?_; rintro e w2 ⟨rfl, k2, rfl⟩) | (go_at_call 27; refine (all (QL.bel HS2.out.ql (by assumption : _ ∧ _).2)).mono ?_; rintro e w4 ⟨v4, rfl, hown4, hb4⟩; obtain ⟨a4, cap4, rfl, _, _, hc4⟩ := own_shape hown4; have HC4 := Lib.hid hc4; clear hown4 hc4) | (go_at_call 26; refine (same_true xs HC4.out (cells_bel HC.out (by assumption : _ ∧ _).2) hl1).mono ?_; rintro e w5 ⟨rfl, k5, rfl⟩))
        go_wp2
        go_roundw
        case rel => exact ⟨k + 1, _, xs, by omega, by go_num, HS2.out.below (by assumption : _ ∧ _).2⟩
        case measure => simp [intOf]; omega
    · go_wp2_with fail
      refine (QueueAwake.awake _).mono ?_
      rintro e w4 ⟨rfl, hb4⟩
      go_wp2
      go_ret
      exact ⟨rfl, Base.bel HS2.out.bel hb4 HS2.out.bel.size⟩
end Go.Proofs.Ytclpjmhanhocoaa.Plays
