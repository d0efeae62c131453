/- The constants and the first state: the program's and the reference's. Conditions: as stated in each theorem. -/
import Derived.Test.YtclpjmhanhocoaaShaRot
import Derived.Great.BuildSlice
set_option linter.unusedVariables false
set_option linter.unusedSimpArgs false
namespace Go.Proofs.Ytclpjmhanhocoaa.ShaTab
open Go.RowKit Base Sha ShaRot
set_option maxRecDepth 100000

def KI : List Int := [1116352408, 1899447441, 3049323471, 3921009573, 961987163, 1508970993, 2453635748, 2870763221, 3624381080, 310598401, 607225278, 1426881987, 1925078388, 2162078206, 2614888103, 3248222580, 3835390401, 4022224774, 264347078, 604807628, 770255983, 1249150122, 1555081692, 1996064986, 2554220882, 2821834349, 2952996808, 3210313671, 3336571891, 3584528711, 113926993, 338241895, 666307205, 773529912, 1294757372, 1396182291, 1695183700, 1986661051, 2177026350, 2456956037, 2730485921, 2820302411, 3259730800, 3345764771, 3516065817, 3600352804, 4094571909, 275423344, 430227734, 506948616, 659060556, 883997877, 958139571, 1322822218, 1537002063, 1747873779, 1955562222, 2024104815, 2227730452, 2361852424, 2428436474, 2756734187, 3204031479, 3329325298]
def KV : Array Value := (KI.map (Value.int .u32)).toArray
theorem KI_eq : KI = K.map (fun n : Nat => (n : Int)) := by decide +kernel
theorem KV_at (t : Nat) (h : t < 64) : KV[t]? = some (.int .u32 (kAt t : Int)) := by
  have hl : K.length = 64 := by decide
  unfold KV kAt
  rw [KI_eq]
  simp [List.getD_eq_getElem?_getD, List.getElem?_eq_getElem (show t < K.length by omega)]
def Z64 : Array Value := #[.int .u32 0, .int .u32 0, .int .u32 0, .int .u32 0, .int .u32 0, .int .u32 0, .int .u32 0, .int .u32 0, .int .u32 0, .int .u32 0, .int .u32 0, .int .u32 0, .int .u32 0, .int .u32 0, .int .u32 0, .int .u32 0, .int .u32 0, .int .u32 0, .int .u32 0, .int .u32 0, .int .u32 0, .int .u32 0, .int .u32 0, .int .u32 0, .int .u32 0, .int .u32 0, .int .u32 0, .int .u32 0, .int .u32 0, .int .u32 0, .int .u32 0, .int .u32 0, .int .u32 0, .int .u32 0, .int .u32 0, .int .u32 0, .int .u32 0, .int .u32 0, .int .u32 0, .int .u32 0, .int .u32 0, .int .u32 0, .int .u32 0, .int .u32 0, .int .u32 0, .int .u32 0, .int .u32 0, .int .u32 0, .int .u32 0, .int .u32 0, .int .u32 0, .int .u32 0, .int .u32 0, .int .u32 0, .int .u32 0, .int .u32 0, .int .u32 0, .int .u32 0, .int .u32 0, .int .u32 0, .int .u32 0, .int .u32 0, .int .u32 0, .int .u32 0]
theorem below_setRow (w : World) (o : Obj) (cs : Array Value) : Below w.heap.size w ((w.alloc o).setRow w.heap.size cs) := by
  have h := (Below.refl w.heap.size w).alloc (Nat.le_refl _) o
  refine ⟨h.os, h.tape, h.output, by rw [setRow_size]; exact h.size, fun i hi => ?_⟩
  rw [setRow_other _ _ _ _ (Nat.ne_of_lt hi)]
  exact h.block i hi
set_option maxHeartbeats 1000000 in
theorem constant (t : Nat) (h : t < 64) (w : World) : Calls Try.prog 78 #[.int .i64 (t : Int)] w fun e w' => e = .returned (.int .u32 (kAt t : Int)) ∧ Below w.heap.size w w' := by
  have hc : ((w.alloc (.cells Z64 122)).setRow w.heap.size KV).cell? ⟨w.heap.size, t, none⟩ = some (.int .u32 (kAt t : Int)) := (cell_setRow_same _ _ _ _ _ _ _ (heap_alloc_new _ _)).trans (KV_at t h)
  unfold Z64 at hc
  go_enter Try.func78, Try.ntmps78
  go_wp2_with (first | (refine wpList_buildFlatArrTo rfl 122 103 64 _ rfl .u32 KI (some 4) rfl (by as_aux_lemma => kernel_rfl) (by as_aux_lemma => kernel_rfl) (by as_aux_lemma => kernel_rfl) (by as_aux_lemma => kernel_rfl) ?_; change wpList _ _ _ _ (Act.put _ _ (.agg KV)) _) | (refine wpList_store_rowTo rfl 122 _ _ rfl rfl w.heap.size KV rfl rfl 122 _ (heap_alloc_new _ _) (by as_aux_lemma => kernel_rfl) (by as_aux_lemma => kernel_rfl) (by as_aux_lemma => kernel_rfl) ?_))
  go_ret
  exact ⟨rfl, below_setRow w _ _⟩
set_option maxHeartbeats 1000000 in
theorem constants (w : World) : Calls Try.prog 80 #[] w fun e w' => e = .returned (.slice (some ⟨w.heap.size, 0, none⟩) 64 64) ∧ w' = w.alloc (.cells KV 103) := by
  go_enter Try.func80, Try.ntmps80
  go_wp2_with (refine wpList_buildFlatAt rfl 107 103 64 _ rfl .u32 KI w.heap.size rfl (some 1) rfl (by as_aux_lemma => kernel_rfl) (by as_aux_lemma => kernel_rfl) (by as_aux_lemma => kernel_rfl) (by as_aux_lemma => kernel_rfl) (by decide) (by decide) (by as_aux_lemma => kernel_rfl) ?_; change wpList _ _ _ _ _ (World.alloc _ (.cells KV 103)))
  go_ret
  exact ⟨rfl, rfl⟩
def vals (s : St) : Array Value := #[.int .u32 (s.a : Int), .int .u32 (s.b : Int), .int .u32 (s.c : Int), .int .u32 (s.d : Int), .int .u32 (s.e : Int), .int .u32 (s.f : Int), .int .u32 (s.g : Int), .int .u32 (s.h : Int)]
set_option maxHeartbeats 1000000 in
theorem start66 (w : World) : Calls Try.prog 66 #[] w fun e w' => e = .returned (.agg (vals Sha.start)) ∧ Below w.heap.size w w' := by
  go_enter Try.func66, Try.ntmps66
  go_wp2
  exact bodyPost_ret (v := .agg (vals Sha.start)) (by simp [results, Try.results66, go_sem]; rfl) rfl ⟨rfl, (Below.refl _ _).alloc (Nat.le_refl _) _⟩
set_option maxHeartbeats 1000000 in
theorem start69 (w : World) : Calls Try.prog 69 #[] w fun e w' => e = .returned (.slice (some ⟨w.heap.size, 0, none⟩) 8 8) ∧ w' = w.alloc (.cells (vals Sha.start) 103) := by
  go_enter Try.func69, Try.ntmps69
  go_wp2
  go_ret
  exact ⟨rfl, rfl⟩
end Go.Proofs.Ytclpjmhanhocoaa.ShaTab
