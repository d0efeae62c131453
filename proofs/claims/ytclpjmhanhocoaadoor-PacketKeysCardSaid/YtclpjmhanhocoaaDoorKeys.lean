/- The walk of muleteerlaw03.PacketKeys. Conditions: as stated in each theorem. -/
import Derived.Test.YtclpjmhanhocoaaDoorName
import Derived.Test.YtclpjmhanhocoaaDoorLess
import Derived.Test.YtclpjmhanhocoaaDoorPacket
set_option linter.unusedVariables false
set_option linter.unusedSimpArgs false
namespace Go.Proofs.YtclpjmhanhocoaaDoor.Keys
open Go.RowKit Base Less Name Go.Lib
set_option maxRecDepth 100000

abbrev K3 (a0 a1 a2 : Int) : Obj := .cells #[.int .i64 a0, .int .i64 a1, .int .u64 a2] 24
abbrev W0 (w : World) (a0 a1 a2 b0 b1 b2 c0 c1 c2 : Int) : World := ((w.alloc (K3 a0 a1 a2)).alloc (K3 b0 b1 b2)).alloc (K3 c0 c1 c2)
theorem keepC {w w1 : World} {a0 a1 a2 b0 b1 b2 c0 c1 c2 : Int} (hb : Below (W0 w a0 a1 a2 b0 b1 b2 c0 c1 c2).heap.size (W0 w a0 a1 a2 b0 b1 b2 c0 c1 c2) w1) :
    w1.cell? ⟨w.heap.size, 0, none⟩ = some (.int .i64 a0) ∧ w1.cell? ⟨w.heap.size, 1, none⟩ = some (.int .i64 a1) ∧ w1.cell? ⟨w.heap.size, 2, none⟩ = some (.int .u64 a2) ∧ w1.cell? ⟨w.heap.size + 1, 0, none⟩ = some (.int .i64 b0) ∧ w1.cell? ⟨w.heap.size + 1, 1, none⟩ = some (.int .i64 b1) ∧ w1.cell? ⟨w.heap.size + 1, 2, none⟩ = some (.int .u64 b2) ∧ w1.cell? ⟨w.heap.size + 1 + 1, 0, none⟩ = some (.int .i64 c0) ∧ w1.cell? ⟨w.heap.size + 1 + 1, 1, none⟩ = some (.int .i64 c1) ∧ w1.cell? ⟨w.heap.size + 1 + 1, 2, none⟩ = some (.int .u64 c2) ∧ Below (W0 w a0 a1 a2 b0 b1 b2 c0 c1 c2).heap.size (W0 w a0 a1 a2 b0 b1 b2 c0 c1 c2) w1 := by
  have hA : (W0 w a0 a1 a2 b0 b1 b2 c0 c1 c2).heap[w.heap.size]? = some (K3 a0 a1 a2) := block_alloc (block_alloc (block_new _ _) _) _
  have hB : (W0 w a0 a1 a2 b0 b1 b2 c0 c1 c2).heap[w.heap.size + 1]? = some (K3 b0 b1 b2) := by
    have h := block_new (w.alloc (K3 a0 a1 a2)) (K3 b0 b1 b2)
    rw [World.size_alloc] at h
    exact block_alloc h _
  have hC : (W0 w a0 a1 a2 b0 b1 b2 c0 c1 c2).heap[w.heap.size + 1 + 1]? = some (K3 c0 c1 c2) := by
    have h := block_new ((w.alloc (K3 a0 a1 a2)).alloc (K3 b0 b1 b2)) (K3 c0 c1 c2)
    rw [World.size_alloc, World.size_alloc] at h
    exact h
  have hA' := (hb.block _ (lt_of_block hA)).trans hA
  have hB' := (hb.block _ (lt_of_block hB)).trans hB
  have hC' := (hb.block _ (lt_of_block hC)).trans hC
  refine ⟨?_, ?_, ?_, ?_, ?_, ?_, ?_, ?_, ?_, hb⟩
  · rw [cell_of_block hA']; rfl
  · rw [cell_of_block hA']; rfl
  · rw [cell_of_block hA']; rfl
  · rw [cell_of_block hB']; rfl
  · rw [cell_of_block hB']; rfl
  · rw [cell_of_block hB']; rfl
  · rw [cell_of_block hC']; rfl
  · rw [cell_of_block hC']; rfl
  · rw [cell_of_block hC']; rfl
theorem keepD {w w1 w2 : World} {a0 a1 a2 b0 b1 b2 c0 c1 c2 : Int} (h : w1.cell? ⟨w.heap.size, 0, none⟩ = some (.int .i64 a0) ∧ w1.cell? ⟨w.heap.size, 1, none⟩ = some (.int .i64 a1) ∧ w1.cell? ⟨w.heap.size, 2, none⟩ = some (.int .u64 a2) ∧ w1.cell? ⟨w.heap.size + 1, 0, none⟩ = some (.int .i64 b0) ∧ w1.cell? ⟨w.heap.size + 1, 1, none⟩ = some (.int .i64 b1) ∧ w1.cell? ⟨w.heap.size + 1, 2, none⟩ = some (.int .u64 b2) ∧ w1.cell? ⟨w.heap.size + 1 + 1, 0, none⟩ = some (.int .i64 c0) ∧ w1.cell? ⟨w.heap.size + 1 + 1, 1, none⟩ = some (.int .i64 c1) ∧ w1.cell? ⟨w.heap.size + 1 + 1, 2, none⟩ = some (.int .u64 c2) ∧ Below (W0 w a0 a1 a2 b0 b1 b2 c0 c1 c2).heap.size (W0 w a0 a1 a2 b0 b1 b2 c0 c1 c2) w1) (hb : Below w1.heap.size w1 w2) : w2.cell? ⟨w.heap.size, 0, none⟩ = some (.int .i64 a0) ∧ w2.cell? ⟨w.heap.size, 1, none⟩ = some (.int .i64 a1) ∧ w2.cell? ⟨w.heap.size, 2, none⟩ = some (.int .u64 a2) ∧ w2.cell? ⟨w.heap.size + 1, 0, none⟩ = some (.int .i64 b0) ∧ w2.cell? ⟨w.heap.size + 1, 1, none⟩ = some (.int .i64 b1) ∧ w2.cell? ⟨w.heap.size + 1, 2, none⟩ = some (.int .u64 b2) ∧ w2.cell? ⟨w.heap.size + 1 + 1, 0, none⟩ = some (.int .i64 c0) ∧ w2.cell? ⟨w.heap.size + 1 + 1, 1, none⟩ = some (.int .i64 c1) ∧ w2.cell? ⟨w.heap.size + 1 + 1, 2, none⟩ = some (.int .u64 c2) ∧ Below (W0 w a0 a1 a2 b0 b1 b2 c0 c1 c2).heap.size (W0 w a0 a1 a2 b0 b1 b2 c0 c1 c2) w2 :=
  keepC (Base.bel h.2.2.2.2.2.2.2.2.2 hb h.2.2.2.2.2.2.2.2.2.size)
theorem W0_below (w : World) (a0 a1 a2 b0 b1 b2 c0 c1 c2 : Int) : Below w.heap.size w (W0 w a0 a1 a2 b0 b1 b2 c0 c1 c2) :=
  (((Below.refl _ w).alloc (Nat.le_refl _) _).alloc (by simp) _).alloc (by simp; omega) _
theorem toW {w w1 : World} {a0 a1 a2 b0 b1 b2 c0 c1 c2 : Int} (h : w1.cell? ⟨w.heap.size, 0, none⟩ = some (.int .i64 a0) ∧ w1.cell? ⟨w.heap.size, 1, none⟩ = some (.int .i64 a1) ∧ w1.cell? ⟨w.heap.size, 2, none⟩ = some (.int .u64 a2) ∧ w1.cell? ⟨w.heap.size + 1, 0, none⟩ = some (.int .i64 b0) ∧ w1.cell? ⟨w.heap.size + 1, 1, none⟩ = some (.int .i64 b1) ∧ w1.cell? ⟨w.heap.size + 1, 2, none⟩ = some (.int .u64 b2) ∧ w1.cell? ⟨w.heap.size + 1 + 1, 0, none⟩ = some (.int .i64 c0) ∧ w1.cell? ⟨w.heap.size + 1 + 1, 1, none⟩ = some (.int .i64 c1) ∧ w1.cell? ⟨w.heap.size + 1 + 1, 2, none⟩ = some (.int .u64 c2) ∧ Below (W0 w a0 a1 a2 b0 b1 b2 c0 c1 c2).heap.size (W0 w a0 a1 a2 b0 b1 b2 c0 c1 c2) w1) : Below w.heap.size w w1 :=
  (W0_below w a0 a1 a2 b0 b1 b2 c0 c1 c2).trans (h.2.2.2.2.2.2.2.2.2.mono (W0_below w a0 a1 a2 b0 b1 b2 c0 c1 c2).size)
theorem tabK {w w1 : World} {a0 a1 a2 b0 b1 b2 c0 c1 c2 : Int} {P : World → Prop} (ht : ∀ w', Below w.heap.size w w' → P w') (h : w1.cell? ⟨w.heap.size, 0, none⟩ = some (.int .i64 a0) ∧ w1.cell? ⟨w.heap.size, 1, none⟩ = some (.int .i64 a1) ∧ w1.cell? ⟨w.heap.size, 2, none⟩ = some (.int .u64 a2) ∧ w1.cell? ⟨w.heap.size + 1, 0, none⟩ = some (.int .i64 b0) ∧ w1.cell? ⟨w.heap.size + 1, 1, none⟩ = some (.int .i64 b1) ∧ w1.cell? ⟨w.heap.size + 1, 2, none⟩ = some (.int .u64 b2) ∧ w1.cell? ⟨w.heap.size + 1 + 1, 0, none⟩ = some (.int .i64 c0) ∧ w1.cell? ⟨w.heap.size + 1 + 1, 1, none⟩ = some (.int .i64 c1) ∧ w1.cell? ⟨w.heap.size + 1 + 1, 2, none⟩ = some (.int .u64 c2) ∧ Below (W0 w a0 a1 a2 b0 b1 b2 c0 c1 c2).heap.size (W0 w a0 a1 a2 b0 b1 b2 c0 c1 c2) w1) : ∀ w', Below w1.heap.size w1 w' → P w' := fun w' hb => ht w' (Base.bel (toW h) hb (toW h).size)
theorem drewB {B : Nat} {a b : World} (h : Below B a b) : Below B a b.drew := ⟨h.os, h.tape, h.output, h.size, h.block⟩
theorem lt_tt (a0 a1 a2 b0 b1 b2 : Int) (h : lessK a0 a1 a2 b0 b1 b2 = true) : lessK b0 b1 b2 a0 a1 a2 = false ∧ (a0 == b0 && (a1 == b1 && a2 == b2)) = false := by
  simp [lessK] at h ⊢
  omega
theorem lt_ff (a0 a1 a2 b0 b1 b2 : Int) (h : lessK a0 a1 a2 b0 b1 b2 = false) (hn : (a0 == b0 && (a1 == b1 && a2 == b2)) = false) : lessK b0 b1 b2 a0 a1 a2 = true := by
  simp [lessK] at h hn ⊢
  omega
theorem lt_trans (a0 a1 a2 b0 b1 b2 c0 c1 c2 : Int) (h : lessK a0 a1 a2 b0 b1 b2 = true) (h2 : lessK b0 b1 b2 c0 c1 c2 = true) : lessK a0 a1 a2 c0 c1 c2 = true := by
  simp [lessK] at h h2 ⊢
  omega
theorem lt_eq (a0 a1 a2 b0 b1 b2 : Int) (h : (a0 == b0 && (a1 == b1 && a2 == b2)) = true) : lessK a0 a1 a2 b0 b1 b2 = false ∧ lessK b0 b1 b2 a0 a1 a2 = false := by
  simp at h
  obtain ⟨rfl, rfl, rfl⟩ := h
  simp [lessK]
set_option maxHeartbeats 4000000 in
theorem eq_ (a0 a1 : Int) (s : Nat) (b0 b1 b2 c0 c1 c2 : Int) (hs : s < 18446744073709551616) (h0 : -9223372036854775808 ≤ a0) (h1 : a0 ≤ 9223372036854775807) (w : World) (htab : ∀ w', Below w.heap.size w w' → Lib.TabIs Tryd.prog w' "internal/strconv.uint64pow10" .u64 Lib.pow10Tab)
    (hx : lessK a0 a1 s b0 b1 b2 = false) (hy : lessK b0 b1 b2 a0 a1 s = false) (he : (a0 == b0 && (a1 == b1 && (s : Int) == b2)) = true) :
    Calls Tryd.prog 3 #[.agg #[.int .i64 a0, .int .i64 a1, .int .u64 s], .agg #[.int .i64 b0, .int .i64 b1, .int .u64 b2], .agg #[.int .i64 c0, .int .i64 c1, .int .u64 c2]] w fun e w' => e = .returned (.bool true) ∧ Below w.heap.size w w' := by
  have HT := Lib.hid htab
  have HX := Lib.hid hx
  have HY := Lib.hid hy
  have hk := fun w => keyEq' w a0 b0 a1 b1 (s : Int) b2 true he
  clear htab hx hy he
  have HW := Lib.hid (W0_below w a0 a1 s b0 b1 b2 c0 c1 c2)
  go_enter Tryd.func3, Tryd.ntmps3
  go_wp2_with fail
  go_region_held3 (fun w' => w'.cell? ⟨w.heap.size, 0, none⟩ = some (.int .i64 a0) ∧ w'.cell? ⟨w.heap.size, 1, none⟩ = some (.int .i64 a1) ∧ w'.cell? ⟨w.heap.size, 2, none⟩ = some (.int .u64 (s : Int)) ∧ w'.cell? ⟨w.heap.size + 1, 0, none⟩ = some (.int .i64 b0) ∧ w'.cell? ⟨w.heap.size + 1, 1, none⟩ = some (.int .i64 b1) ∧ w'.cell? ⟨w.heap.size + 1, 2, none⟩ = some (.int .u64 b2) ∧ w'.cell? ⟨w.heap.size + 1 + 1, 0, none⟩ = some (.int .i64 c0) ∧ w'.cell? ⟨w.heap.size + 1 + 1, 1, none⟩ = some (.int .i64 c1) ∧ w'.cell? ⟨w.heap.size + 1 + 1, 2, none⟩ = some (.int .u64 c2) ∧ Below (W0 w a0 a1 s b0 b1 b2 c0 c1 c2).heap.size (W0 w a0 a1 s b0 b1 b2 c0 c1 c2) w')
    (first | assumption | exact keepC (drewB (Below.refl _ _)) | exact keepD (by assumption) hb)
    (first | (go_at_call 4; refine (less _ _ _ _ _ _ _).mono ?_; rintro e w1 ⟨rfl, hb⟩))
  have hS := (by assumption : _ ∧ _ ∧ _ ∧ _ ∧ _ ∧ _ ∧ _ ∧ _ ∧ _ ∧ _)
  obtain ⟨f0, f1, f2, f3, f4, f5, f6, f7, f8, hB1⟩ := hS
  rw [HX.out, HY.out]
  go_wp2_with fail
  refine (Less.ref a0 a1 s b0 b1 b2 _).mono ?_
  rintro e w2 ⟨rfl, hb2⟩
  rw [HX.out]
  have hB2 := Base.bel hB1 hb2 hB1.size
  clear f0 f1 f2 f3 f4 f5 f6 f7 f8
  obtain ⟨f0, f1, f2, f3, f4, f5, f6, f7, f8, _⟩ := keepC hB2
  go_wp2_with fail
  refine (less a0 a1 s b0 b1 b2 _).mono ?_
  rintro e w3 ⟨rfl, hb3⟩
  rw [HX.out]
  have hB3 := Base.bel hB2 hb3 hB2.size
  clear f0 f1 f2 f3 f4 f5 f6 f7 f8
  obtain ⟨f0, f1, f2, f3, f4, f5, f6, f7, f8, _⟩ := keepC hB3
  go_wp2_with fail
  go_region_held3 (fun w' => w'.cell? ⟨w.heap.size, 0, none⟩ = some (.int .i64 a0) ∧ w'.cell? ⟨w.heap.size, 1, none⟩ = some (.int .i64 a1) ∧ w'.cell? ⟨w.heap.size, 2, none⟩ = some (.int .u64 (s : Int)) ∧ w'.cell? ⟨w.heap.size + 1, 0, none⟩ = some (.int .i64 b0) ∧ w'.cell? ⟨w.heap.size + 1, 1, none⟩ = some (.int .i64 b1) ∧ w'.cell? ⟨w.heap.size + 1, 2, none⟩ = some (.int .u64 b2) ∧ w'.cell? ⟨w.heap.size + 1 + 1, 0, none⟩ = some (.int .i64 c0) ∧ w'.cell? ⟨w.heap.size + 1 + 1, 1, none⟩ = some (.int .i64 c1) ∧ w'.cell? ⟨w.heap.size + 1 + 1, 2, none⟩ = some (.int .u64 c2) ∧ Below (W0 w a0 a1 s b0 b1 b2 c0 c1 c2).heap.size (W0 w a0 a1 s b0 b1 b2 c0 c1 c2) w')
    (first | assumption | exact keepC (drewB hB3) | exact keepD (by assumption) hb)
    (first | (go_at_call 6; refine (Digit.awake _).mono ?_; rintro e w8 ⟨rfl, hb⟩) | (go_at_call 7; refine (Name.name a0 a1 s hs h0 h1 _ (tabK HT.out (by assumption))).mono ?_; rintro e w9 ⟨rfl, hb⟩) | (go_at_call 8; refine (Name.ref a0 a1 s hs h0 h1 _).mono ?_; rintro e w9 ⟨rfl, hb⟩))
  go_wp2
  go_ret
  exact ⟨rfl, toW (by assumption)⟩
set_option maxHeartbeats 4000000 in
theorem gt_ (a0 a1 : Int) (s : Nat) (b0 b1 b2 c0 c1 c2 : Int) (hs : s < 18446744073709551616) (h0 : -9223372036854775808 ≤ a0) (h1 : a0 ≤ 9223372036854775807) (w : World) (htab : ∀ w', Below w.heap.size w w' → Lib.TabIs Tryd.prog w' "internal/strconv.uint64pow10" .u64 Lib.pow10Tab)
    (hx : lessK a0 a1 s b0 b1 b2 = false) (hy : lessK b0 b1 b2 a0 a1 s = true) (he : (a0 == b0 && (a1 == b1 && (s : Int) == b2)) = false) :
    Calls Tryd.prog 3 #[.agg #[.int .i64 a0, .int .i64 a1, .int .u64 s], .agg #[.int .i64 b0, .int .i64 b1, .int .u64 b2], .agg #[.int .i64 c0, .int .i64 c1, .int .u64 c2]] w fun e w' => e = .returned (.bool true) ∧ Below w.heap.size w w' := by
  have HT := Lib.hid htab
  have HX := Lib.hid hx
  have HY := Lib.hid hy
  have hk := fun w => keyEq' w a0 b0 a1 b1 (s : Int) b2 false he
  clear htab hx hy he
  have HW := Lib.hid (W0_below w a0 a1 s b0 b1 b2 c0 c1 c2)
  go_enter Tryd.func3, Tryd.ntmps3
  go_wp2_with fail
  go_region_held3 (fun w' => w'.cell? ⟨w.heap.size, 0, none⟩ = some (.int .i64 a0) ∧ w'.cell? ⟨w.heap.size, 1, none⟩ = some (.int .i64 a1) ∧ w'.cell? ⟨w.heap.size, 2, none⟩ = some (.int .u64 (s : Int)) ∧ w'.cell? ⟨w.heap.size + 1, 0, none⟩ = some (.int .i64 b0) ∧ w'.cell? ⟨w.heap.size + 1, 1, none⟩ = some (.int .i64 b1) ∧ w'.cell? ⟨w.heap.size + 1, 2, none⟩ = some (.int .u64 b2) ∧ w'.cell? ⟨w.heap.size + 1 + 1, 0, none⟩ = some (.int .i64 c0) ∧ w'.cell? ⟨w.heap.size + 1 + 1, 1, none⟩ = some (.int .i64 c1) ∧ w'.cell? ⟨w.heap.size + 1 + 1, 2, none⟩ = some (.int .u64 c2) ∧ Below (W0 w a0 a1 s b0 b1 b2 c0 c1 c2).heap.size (W0 w a0 a1 s b0 b1 b2 c0 c1 c2) w')
    (first | assumption | exact keepC (drewB (Below.refl _ _)) | exact keepD (by assumption) hb)
    (first | (go_at_call 4; refine (less _ _ _ _ _ _ _).mono ?_; rintro e w1 ⟨rfl, hb⟩))
  have hS := (by assumption : _ ∧ _ ∧ _ ∧ _ ∧ _ ∧ _ ∧ _ ∧ _ ∧ _ ∧ _)
  obtain ⟨f0, f1, f2, f3, f4, f5, f6, f7, f8, hB1⟩ := hS
  rw [HX.out, HY.out]
  go_wp2_with fail
  refine (Less.ref a0 a1 s b0 b1 b2 _).mono ?_
  rintro e w2 ⟨rfl, hb2⟩
  rw [HX.out]
  have hB2 := Base.bel hB1 hb2 hB1.size
  clear f0 f1 f2 f3 f4 f5 f6 f7 f8
  obtain ⟨f0, f1, f2, f3, f4, f5, f6, f7, f8, _⟩ := keepC hB2
  go_wp2_with fail
  refine (less a0 a1 s b0 b1 b2 _).mono ?_
  rintro e w3 ⟨rfl, hb3⟩
  rw [HX.out]
  have hB3 := Base.bel hB2 hb3 hB2.size
  clear f0 f1 f2 f3 f4 f5 f6 f7 f8
  obtain ⟨f0, f1, f2, f3, f4, f5, f6, f7, f8, _⟩ := keepC hB3
  go_wp2_with fail
  go_region_held3 (fun w' => w'.cell? ⟨w.heap.size, 0, none⟩ = some (.int .i64 a0) ∧ w'.cell? ⟨w.heap.size, 1, none⟩ = some (.int .i64 a1) ∧ w'.cell? ⟨w.heap.size, 2, none⟩ = some (.int .u64 (s : Int)) ∧ w'.cell? ⟨w.heap.size + 1, 0, none⟩ = some (.int .i64 b0) ∧ w'.cell? ⟨w.heap.size + 1, 1, none⟩ = some (.int .i64 b1) ∧ w'.cell? ⟨w.heap.size + 1, 2, none⟩ = some (.int .u64 b2) ∧ w'.cell? ⟨w.heap.size + 1 + 1, 0, none⟩ = some (.int .i64 c0) ∧ w'.cell? ⟨w.heap.size + 1 + 1, 1, none⟩ = some (.int .i64 c1) ∧ w'.cell? ⟨w.heap.size + 1 + 1, 2, none⟩ = some (.int .u64 c2) ∧ Below (W0 w a0 a1 s b0 b1 b2 c0 c1 c2).heap.size (W0 w a0 a1 s b0 b1 b2 c0 c1 c2) w')
    (first | assumption | exact keepC (drewB hB3) | exact keepD (by assumption) hb)
    (first | (go_at_call 6; refine (Digit.awake _).mono ?_; rintro e w8 ⟨rfl, hb⟩) | (go_at_call 7; refine (Name.name a0 a1 s hs h0 h1 _ (tabK HT.out (by assumption))).mono ?_; rintro e w9 ⟨rfl, hb⟩) | (go_at_call 8; refine (Name.ref a0 a1 s hs h0 h1 _).mono ?_; rintro e w9 ⟨rfl, hb⟩))
  go_wp2
  go_ret
  exact ⟨rfl, toW (by assumption)⟩
set_option maxHeartbeats 4000000 in
theorem lt_f (a0 a1 : Int) (s : Nat) (b0 b1 b2 c0 c1 c2 : Int) (hs : s < 18446744073709551616) (h0 : -9223372036854775808 ≤ a0) (h1 : a0 ≤ 9223372036854775807) (w : World) (htab : ∀ w', Below w.heap.size w w' → Lib.TabIs Tryd.prog w' "internal/strconv.uint64pow10" .u64 Lib.pow10Tab)
    (hx : lessK a0 a1 s b0 b1 b2 = true) (hy : lessK b0 b1 b2 a0 a1 s = false) (he : (a0 == b0 && (a1 == b1 && (s : Int) == b2)) = false) (hz : lessK b0 b1 b2 c0 c1 c2 = false) :
    Calls Tryd.prog 3 #[.agg #[.int .i64 a0, .int .i64 a1, .int .u64 s], .agg #[.int .i64 b0, .int .i64 b1, .int .u64 b2], .agg #[.int .i64 c0, .int .i64 c1, .int .u64 c2]] w fun e w' => e = .returned (.bool true) ∧ Below w.heap.size w w' := by
  have HT := Lib.hid htab
  have HX := Lib.hid hx
  have HY := Lib.hid hy
  have hk := fun w => keyEq' w a0 b0 a1 b1 (s : Int) b2 false he
  have HZ := Lib.hid hz
  clear htab hx hy he hz
  have HW := Lib.hid (W0_below w a0 a1 s b0 b1 b2 c0 c1 c2)
  go_enter Tryd.func3, Tryd.ntmps3
  go_wp2_with fail
  go_region_held3 (fun w' => w'.cell? ⟨w.heap.size, 0, none⟩ = some (.int .i64 a0) ∧ w'.cell? ⟨w.heap.size, 1, none⟩ = some (.int .i64 a1) ∧ w'.cell? ⟨w.heap.size, 2, none⟩ = some (.int .u64 (s : Int)) ∧ w'.cell? ⟨w.heap.size + 1, 0, none⟩ = some (.int .i64 b0) ∧ w'.cell? ⟨w.heap.size + 1, 1, none⟩ = some (.int .i64 b1) ∧ w'.cell? ⟨w.heap.size + 1, 2, none⟩ = some (.int .u64 b2) ∧ w'.cell? ⟨w.heap.size + 1 + 1, 0, none⟩ = some (.int .i64 c0) ∧ w'.cell? ⟨w.heap.size + 1 + 1, 1, none⟩ = some (.int .i64 c1) ∧ w'.cell? ⟨w.heap.size + 1 + 1, 2, none⟩ = some (.int .u64 c2) ∧ Below (W0 w a0 a1 s b0 b1 b2 c0 c1 c2).heap.size (W0 w a0 a1 s b0 b1 b2 c0 c1 c2) w')
    (first | assumption | exact keepC (drewB (Below.refl _ _)) | exact keepD (by assumption) hb)
    (first | (go_at_call 4; refine (less _ _ _ _ _ _ _).mono ?_; rintro e w1 ⟨rfl, hb⟩))
  have hS := (by assumption : _ ∧ _ ∧ _ ∧ _ ∧ _ ∧ _ ∧ _ ∧ _ ∧ _ ∧ _)
  obtain ⟨f0, f1, f2, f3, f4, f5, f6, f7, f8, hB1⟩ := hS
  rw [HX.out, HY.out]
  go_wp2_with fail
  refine (Less.ref a0 a1 s b0 b1 b2 _).mono ?_
  rintro e w2 ⟨rfl, hb2⟩
  rw [HX.out]
  have hB2 := Base.bel hB1 hb2 hB1.size
  clear f0 f1 f2 f3 f4 f5 f6 f7 f8
  obtain ⟨f0, f1, f2, f3, f4, f5, f6, f7, f8, _⟩ := keepC hB2
  go_wp2_with fail
  refine (less a0 a1 s b0 b1 b2 _).mono ?_
  rintro e w3 ⟨rfl, hb3⟩
  rw [HX.out]
  have hB3 := Base.bel hB2 hb3 hB2.size
  clear f0 f1 f2 f3 f4 f5 f6 f7 f8
  obtain ⟨f0, f1, f2, f3, f4, f5, f6, f7, f8, _⟩ := keepC hB3
  go_wp2_with fail
  refine (less b0 b1 b2 c0 c1 c2 _).mono ?_
  rintro e w4 ⟨rfl, hb4⟩
  rw [HZ.out]
  have hB4 := Base.bel hB3 hb4 hB3.size
  clear f0 f1 f2 f3 f4 f5 f6 f7 f8
  obtain ⟨f0, f1, f2, f3, f4, f5, f6, f7, f8, _⟩ := keepC hB4
  go_wp2_with fail
  go_region_held3 (fun w' => w'.cell? ⟨w.heap.size, 0, none⟩ = some (.int .i64 a0) ∧ w'.cell? ⟨w.heap.size, 1, none⟩ = some (.int .i64 a1) ∧ w'.cell? ⟨w.heap.size, 2, none⟩ = some (.int .u64 (s : Int)) ∧ w'.cell? ⟨w.heap.size + 1, 0, none⟩ = some (.int .i64 b0) ∧ w'.cell? ⟨w.heap.size + 1, 1, none⟩ = some (.int .i64 b1) ∧ w'.cell? ⟨w.heap.size + 1, 2, none⟩ = some (.int .u64 b2) ∧ w'.cell? ⟨w.heap.size + 1 + 1, 0, none⟩ = some (.int .i64 c0) ∧ w'.cell? ⟨w.heap.size + 1 + 1, 1, none⟩ = some (.int .i64 c1) ∧ w'.cell? ⟨w.heap.size + 1 + 1, 2, none⟩ = some (.int .u64 c2) ∧ Below (W0 w a0 a1 s b0 b1 b2 c0 c1 c2).heap.size (W0 w a0 a1 s b0 b1 b2 c0 c1 c2) w')
    (first | assumption | exact keepC (drewB hB4) | exact keepD (by assumption) hb)
    (first | (go_at_call 6; refine (Digit.awake _).mono ?_; rintro e w8 ⟨rfl, hb⟩) | (go_at_call 7; refine (Name.name a0 a1 s hs h0 h1 _ (tabK HT.out (by assumption))).mono ?_; rintro e w9 ⟨rfl, hb⟩) | (go_at_call 8; refine (Name.ref a0 a1 s hs h0 h1 _).mono ?_; rintro e w9 ⟨rfl, hb⟩))
  go_wp2
  go_ret
  exact ⟨rfl, toW (by assumption)⟩
set_option maxHeartbeats 4000000 in
theorem lt_t (a0 a1 : Int) (s : Nat) (b0 b1 b2 c0 c1 c2 : Int) (hs : s < 18446744073709551616) (h0 : -9223372036854775808 ≤ a0) (h1 : a0 ≤ 9223372036854775807) (w : World) (htab : ∀ w', Below w.heap.size w w' → Lib.TabIs Tryd.prog w' "internal/strconv.uint64pow10" .u64 Lib.pow10Tab)
    (hx : lessK a0 a1 s b0 b1 b2 = true) (hy : lessK b0 b1 b2 a0 a1 s = false) (he : (a0 == b0 && (a1 == b1 && (s : Int) == b2)) = false) (hz : lessK b0 b1 b2 c0 c1 c2 = true) (ha : lessK a0 a1 s c0 c1 c2 = true) :
    Calls Tryd.prog 3 #[.agg #[.int .i64 a0, .int .i64 a1, .int .u64 s], .agg #[.int .i64 b0, .int .i64 b1, .int .u64 b2], .agg #[.int .i64 c0, .int .i64 c1, .int .u64 c2]] w fun e w' => e = .returned (.bool true) ∧ Below w.heap.size w w' := by
  have HT := Lib.hid htab
  have HX := Lib.hid hx
  have HY := Lib.hid hy
  have hk := fun w => keyEq' w a0 b0 a1 b1 (s : Int) b2 false he
  have HZ := Lib.hid hz
  have HA := Lib.hid ha
  clear htab hx hy he hz ha
  have HW := Lib.hid (W0_below w a0 a1 s b0 b1 b2 c0 c1 c2)
  go_enter Tryd.func3, Tryd.ntmps3
  go_wp2_with fail
  go_region_held3 (fun w' => w'.cell? ⟨w.heap.size, 0, none⟩ = some (.int .i64 a0) ∧ w'.cell? ⟨w.heap.size, 1, none⟩ = some (.int .i64 a1) ∧ w'.cell? ⟨w.heap.size, 2, none⟩ = some (.int .u64 (s : Int)) ∧ w'.cell? ⟨w.heap.size + 1, 0, none⟩ = some (.int .i64 b0) ∧ w'.cell? ⟨w.heap.size + 1, 1, none⟩ = some (.int .i64 b1) ∧ w'.cell? ⟨w.heap.size + 1, 2, none⟩ = some (.int .u64 b2) ∧ w'.cell? ⟨w.heap.size + 1 + 1, 0, none⟩ = some (.int .i64 c0) ∧ w'.cell? ⟨w.heap.size + 1 + 1, 1, none⟩ = some (.int .i64 c1) ∧ w'.cell? ⟨w.heap.size + 1 + 1, 2, none⟩ = some (.int .u64 c2) ∧ Below (W0 w a0 a1 s b0 b1 b2 c0 c1 c2).heap.size (W0 w a0 a1 s b0 b1 b2 c0 c1 c2) w')
    (first | assumption | exact keepC (drewB (Below.refl _ _)) | exact keepD (by assumption) hb)
    (first | (go_at_call 4; refine (less _ _ _ _ _ _ _).mono ?_; rintro e w1 ⟨rfl, hb⟩))
  have hS := (by assumption : _ ∧ _ ∧ _ ∧ _ ∧ _ ∧ _ ∧ _ ∧ _ ∧ _ ∧ _)
  obtain ⟨f0, f1, f2, f3, f4, f5, f6, f7, f8, hB1⟩ := hS
  rw [HX.out, HY.out]
  go_wp2_with fail
  refine (Less.ref a0 a1 s b0 b1 b2 _).mono ?_
  rintro e w2 ⟨rfl, hb2⟩
  rw [HX.out]
  have hB2 := Base.bel hB1 hb2 hB1.size
  clear f0 f1 f2 f3 f4 f5 f6 f7 f8
  obtain ⟨f0, f1, f2, f3, f4, f5, f6, f7, f8, _⟩ := keepC hB2
  go_wp2_with fail
  refine (less a0 a1 s b0 b1 b2 _).mono ?_
  rintro e w3 ⟨rfl, hb3⟩
  rw [HX.out]
  have hB3 := Base.bel hB2 hb3 hB2.size
  clear f0 f1 f2 f3 f4 f5 f6 f7 f8
  obtain ⟨f0, f1, f2, f3, f4, f5, f6, f7, f8, _⟩ := keepC hB3
  go_wp2_with fail
  refine (less b0 b1 b2 c0 c1 c2 _).mono ?_
  rintro e w4 ⟨rfl, hb4⟩
  rw [HZ.out]
  have hB4 := Base.bel hB3 hb4 hB3.size
  clear f0 f1 f2 f3 f4 f5 f6 f7 f8
  obtain ⟨f0, f1, f2, f3, f4, f5, f6, f7, f8, _⟩ := keepC hB4
  go_wp2_with fail
  refine (less a0 a1 s c0 c1 c2 _).mono ?_
  rintro e w5 ⟨rfl, hb5⟩
  rw [HA.out]
  have hB5 := Base.bel hB4 hb5 hB4.size
  clear f0 f1 f2 f3 f4 f5 f6 f7 f8
  obtain ⟨f0, f1, f2, f3, f4, f5, f6, f7, f8, _⟩ := keepC hB5
  go_wp2_with fail
  go_region_held3 (fun w' => w'.cell? ⟨w.heap.size, 0, none⟩ = some (.int .i64 a0) ∧ w'.cell? ⟨w.heap.size, 1, none⟩ = some (.int .i64 a1) ∧ w'.cell? ⟨w.heap.size, 2, none⟩ = some (.int .u64 (s : Int)) ∧ w'.cell? ⟨w.heap.size + 1, 0, none⟩ = some (.int .i64 b0) ∧ w'.cell? ⟨w.heap.size + 1, 1, none⟩ = some (.int .i64 b1) ∧ w'.cell? ⟨w.heap.size + 1, 2, none⟩ = some (.int .u64 b2) ∧ w'.cell? ⟨w.heap.size + 1 + 1, 0, none⟩ = some (.int .i64 c0) ∧ w'.cell? ⟨w.heap.size + 1 + 1, 1, none⟩ = some (.int .i64 c1) ∧ w'.cell? ⟨w.heap.size + 1 + 1, 2, none⟩ = some (.int .u64 c2) ∧ Below (W0 w a0 a1 s b0 b1 b2 c0 c1 c2).heap.size (W0 w a0 a1 s b0 b1 b2 c0 c1 c2) w')
    (first | assumption | exact keepC (drewB hB5) | exact keepD (by assumption) hb)
    (first | (go_at_call 6; refine (Digit.awake _).mono ?_; rintro e w8 ⟨rfl, hb⟩) | (go_at_call 7; refine (Name.name a0 a1 s hs h0 h1 _ (tabK HT.out (by assumption))).mono ?_; rintro e w9 ⟨rfl, hb⟩) | (go_at_call 8; refine (Name.ref a0 a1 s hs h0 h1 _).mono ?_; rintro e w9 ⟨rfl, hb⟩))
  go_wp2
  go_ret
  exact ⟨rfl, toW (by assumption)⟩
theorem law (a0 a1 : Int) (s : Nat) (b0 b1 b2 c0 c1 c2 : Int) (hs : s < 18446744073709551616) (h0 : -9223372036854775808 ≤ a0) (h1 : a0 ≤ 9223372036854775807) (w : World) (htab : Lib.TabIs Tryd.prog w "internal/strconv.uint64pow10" .u64 Lib.pow10Tab) :
    Calls Tryd.prog 3 #[.agg #[.int .i64 a0, .int .i64 a1, .int .u64 s], .agg #[.int .i64 b0, .int .i64 b1, .int .u64 b2], .agg #[.int .i64 c0, .int .i64 c1, .int .u64 c2]] w fun e w' => e = .returned (.bool true) ∧ Below w.heap.size w w' := by
  have hT : ∀ w', Below w.heap.size w w' → Lib.TabIs Tryd.prog w' "internal/strconv.uint64pow10" .u64 Lib.pow10Tab := fun w' hb => Lib.tabBelow_of_tabIs htab w' hb
  cases he : (a0 == b0 && (a1 == b1 && (s : Int) == b2))
  · cases hx : lessK a0 a1 s b0 b1 b2
    · exact gt_ a0 a1 s b0 b1 b2 c0 c1 c2 hs h0 h1 w hT hx (lt_ff _ _ _ _ _ _ hx he) he
    · cases hz : lessK b0 b1 b2 c0 c1 c2
      · exact lt_f a0 a1 s b0 b1 b2 c0 c1 c2 hs h0 h1 w hT hx (lt_tt _ _ _ _ _ _ hx).1 he hz
      · exact lt_t a0 a1 s b0 b1 b2 c0 c1 c2 hs h0 h1 w hT hx (lt_tt _ _ _ _ _ _ hx).1 he hz (lt_trans _ _ _ _ _ _ _ _ _ hx hz)
  · exact eq_ a0 a1 s b0 b1 b2 c0 c1 c2 hs h0 h1 w hT (lt_eq _ _ _ _ _ _ he).1 (lt_eq _ _ _ _ _ _ he).2 he
end Go.Proofs.YtclpjmhanhocoaaDoor.Keys
