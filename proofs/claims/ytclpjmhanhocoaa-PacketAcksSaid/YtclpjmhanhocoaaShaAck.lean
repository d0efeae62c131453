/- packet.Ack and the reference's: five bytes of the data's sum. Conditions: as stated in each theorem. -/
import Derived.Test.YtclpjmhanhocoaaShaOfRef
set_option linter.unusedVariables false
set_option linter.unusedSimpArgs false
namespace Go.Proofs.Ytclpjmhanhocoaa.ShaAck
open Go.RowKit Base Sha ShaRot ShaTab ShaRow ShaSpread ShaInv ShaTurn ShaApp ShaPad ShaOf ShaOfRef
set_option maxRecDepth 100000

def ackL (st : St) : List UInt8 := [1, byteAt st 0, byteAt st 1, byteAt st 2, byteAt st 3]
def ackS (d : ByteArray) : ByteArray := mkS (ackL (Sha.sum d.data.toList))
theorem take4 (st : St) : (bytes32 st).take 4 = [byteAt st 0, byteAt st 1, byteAt st 2, byteAt st 3] := rfl
theorem conv4 (w : World) (g : Nat) (st : St) (h : Row w g (bytesA (bytes32 st)) 91) : (convert 93 9 (.slice (some ⟨g, 0, none⟩) 4 32)).run Try.prog w = .ok (.string (mkS ((bytes32 st).take 4))) w := by
  have hl : (bytes32 st).length = 32 := bytes32_length st
  generalize bytes32 st = l at *
  have := run_convert_bytes_arg w 93 5 Try.underlying93 Try.underlying5 g 0 4 32 ((l.take 4).map fun b => (b.toNat : Int)) (by simp [hl]) (by
    intro i hi
    rw [Nat.zero_add, h.cell i (bytesA_at l i (by omega))]
    simp [List.getD_eq_getElem?_getD, List.getElem?_take, hi, List.getElem?_eq_getElem (show i < l.length by omega)]) 9 Try.underlying9
  rw [this]
  have e : strOfNums ((l.take 4).map fun b => (b.toNat : Int)) = mkS (l.take 4) := by
    unfold strOfNums mkS
    congr 2
    rw [List.map_map]
    have : ((fun n : Int => UInt8.ofNat n.toNat) ∘ fun b : UInt8 => (b.toNat : Int)) = id := by
      funext b
      simp
    rw [this, List.map_id]
  rw [e]
theorem new2 (w : World) (o : Obj) (v : Value) (T : TypeId) : ((w.alloc o).alloc (.cells #[v] T)).cell? ⟨w.heap.size + 1, 0, none⟩ = some v := by
  have := (Row.new (w.alloc o) #[v] T).cell 0 (v := v) rfl
  rwa [World.size_alloc] at this
set_option maxHeartbeats 600000 in
theorem ack (c f s t : Int) (d : ByteArray) (hd : d.size ≤ 300) (w : World) : Calls Try.prog 40 #[.agg #[.int .i64 c, .int .i64 f, .int .u64 s, .int .u64 t, .string d]] w fun e w' => e = .returned (.string (ackS d)) ∧ Below w.heap.size w w' := by
  unfold ackS
  generalize hst : Sha.sum d.data.toList = st
  have HST := Lib.hid hst
  clear hst
  have hsum : ∀ w' : World, (Op.stringOp .add ⟨#[1]⟩ (mkS ((bytes32 st).take 4))).run Try.prog w' = .ok (.string (mkS (ackL st))) w' := fun w' => by
    have := run_string_add_sum (P := Try.prog) w' (mkS [1]) (mkS ((bytes32 st).take 4)) (by rw [mkS_size, mkS_size]; simp [bytes32_length])
    rw [mkS_app] at this
    exact this
  have hz := bytesA_size (bytes32 st)
  rw [bytes32_length] at hz
  have HZ := Lib.hid hz
  have H1 := Lib.hid (bytesA_one (bytes32 st))
  clear hz
  go_enter Try.func40, Try.ntmps40
  go_upto_region 2 with (first | (go_at_call 57; refine (of_ d hd _ 1 _ (new2 _ _ _ _)).mono ?_; rintro e w2 ⟨rfl, hb⟩; rw [HST.out]) | (refine wpList_store_rowTo rfl 91 _ _ rfl rfl w2.heap.size (bytesA (bytes32 st)) rfl rfl 91 Z32 (heap_alloc_new _ _) (by rw [HZ.out]; kernel_rfl) (by rw [HZ.out]; rfl) H1.out ?_))
  have hR : Row ((w2.alloc (.cells Z32 91)).setRow w2.heap.size (bytesA (bytes32 st))) w2.heap.size (bytesA (bytes32 st)) 91 := (Row.new w2 Z32 91).row
  have hB : Below w.heap.size w ((w2.alloc (.cells Z32 91)).setRow w2.heap.size (bytesA (bytes32 st))) := by
    have s1 : w.heap.size ≤ w2.heap.size := by have := hb.size; simp at this; omega
    exact belowRow (((((Below.refl w.heap.size w).alloc (Nat.le_refl _) _).alloc (by simp) _).trans (hb.mono (by simp; omega))).alloc s1 _) s1 _
  have HB := Lib.hid hB
  have hc4 := conv4 _ _ st hR
  clear hB hR hb
  change Code.wp _ _ _ _ ((w2.alloc (.cells Z32 91)).setRow w2.heap.size (bytesA (bytes32 st)))
  generalize w2.heap.size = g at *
  generalize World.setRow _ _ _ = w3 at *
  go_wp2
  go_ret
  exact ⟨rfl, HB.out⟩
set_option maxHeartbeats 600000 in
theorem refAck (c f s t : Int) (d : ByteArray) (hd : d.size ≤ 300) (w : World) : Calls Try.prog 41 #[.agg #[.int .i64 c, .int .i64 f, .int .u64 s, .int .u64 t, .string d]] w fun e w' => e = .returned (.string (ackS d)) ∧ Below w.heap.size w w' := by
  unfold ackS
  generalize hst : Sha.sum d.data.toList = st
  have HST := Lib.hid hst
  clear hst
  have hz := bytesA_size (bytes32 st)
  rw [bytes32_length] at hz
  have HZ := Lib.hid hz
  have H1 := Lib.hid (bytesA_one (bytes32 st))
  clear hz
  go_enter Try.func41, Try.ntmps41
  go_upto_region 2 with (first | (go_at_call 58; refine (refOf d hd _).mono ?_; rintro e w2 ⟨rfl, hb⟩; rw [HST.out]) | (refine wpList_store_rowTo rfl 90 _ _ rfl rfl w2.heap.size (bytesA (bytes32 st)) rfl rfl 90 Z32 (heap_alloc_new _ _) (by rw [HZ.out]; kernel_rfl) (by rw [HZ.out]; rfl) H1.out ?_))
  have hR : Row ((w2.alloc (.cells Z32 90)).setRow w2.heap.size (bytesA (bytes32 st))) w2.heap.size (bytesA (bytes32 st)) 90 := (Row.new w2 Z32 90).row
  have hB : Below w.heap.size w ((w2.alloc (.cells Z32 90)).setRow w2.heap.size (bytesA (bytes32 st))) ∧ w.heap.size ≤ ((w2.alloc (.cells Z32 90)).setRow w2.heap.size (bytesA (bytes32 st))).heap.size := by
    have s1 : w.heap.size ≤ w2.heap.size := by have := hb.size; simp at this; omega
    have := belowRow (((((Below.refl w.heap.size w).alloc (Nat.le_refl _) _)).trans (hb.mono (by simp))).alloc s1 (.cells Z32 90)) s1 (bytesA (bytes32 st))
    exact ⟨this, this.size⟩
  have HB := Lib.hid hB
  have c0 := hR.cell 0 (v := .int .u8 ((byteAt st 0).toNat : Int)) rfl
  have c1 := hR.cell 1 (v := .int .u8 ((byteAt st 1).toNat : Int)) rfl
  have c2 := hR.cell 2 (v := .int .u8 ((byteAt st 2).toNat : Int)) rfl
  have c3 := hR.cell 3 (v := .int .u8 ((byteAt st 3).toNat : Int)) rfl
  clear hB hR hb
  change Code.wp _ _ _ _ ((w2.alloc (.cells Z32 90)).setRow w2.heap.size (bytesA (bytes32 st)))
  generalize w2.heap.size = g at *
  generalize World.setRow _ _ _ = w3 at *
  have hcv := conv (n := 5) (w3.alloc (.cells (bytesA (ackL st)) 5)) w3.heap.size (ackL st) rfl (Row.new _ _ _)
  change (convert 93 9 (.slice (some ⟨w3.heap.size, 0, none⟩) 5 5)).run Try.prog (w3.alloc (.cells #[.int .u8 1, .int .u8 ((byteAt st 0).toNat : Int), .int .u8 ((byteAt st 1).toNat : Int), .int .u8 ((byteAt st 2).toNat : Int), .int .u8 ((byteAt st 3).toNat : Int)] 5)) = .ok (.string (mkS (ackL st))) (w3.alloc (.cells #[.int .u8 1, .int .u8 ((byteAt st 0).toNat : Int), .int .u8 ((byteAt st 1).toNat : Int), .int .u8 ((byteAt st 2).toNat : Int), .int .u8 ((byteAt st 3).toNat : Int)] 5)) at hcv
  go_wp2
  go_ret
  exact ⟨rfl, HB.out.1.alloc HB.out.2 _⟩
end Go.Proofs.Ytclpjmhanhocoaa.ShaAck
