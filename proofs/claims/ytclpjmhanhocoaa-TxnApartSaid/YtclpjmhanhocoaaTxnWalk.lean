/- The walks of msg.Put and txn.Put. Conditions: as stated in each theorem. -/
import Derived.Test.YtclpjmhanhocoaaTxnPlain
import Derived.Test.YtclpjmhanhocoaaApartWalk
import Derived.Test.YtclpjmhanhocoaaOpen
import Derived.Test.YtclpjmhanhocoaaBase
set_option linter.unusedVariables false
set_option linter.unusedSimpArgs false
namespace Go.Proofs.Ytclpjmhanhocoaa.TxnWalk
open Go.RowKit PTxnApart TxnPlain Digit Go.Proofs.YtclpjmhanhocoaaW.PrintWords
set_option maxRecDepth 100000

def EP (p : S24) : ByteArray := E p.f0.toNat p.f1.toNat p.f2.toNat p.f3.toNat p.f4
def EM (m : S86) : ByteArray := if m.f0 = 3 then N m.f0.toNat ++ EP m.f1 ++ (N m.f2.size ++ m.f2) else N m.f0.toNat ++ EP m.f1
def okM (m : S86) : Prop := 0 ≤ m.f1.f2 ∧ m.f1.f2 < 18446744073709551616 ∧ 0 ≤ m.f1.f3 ∧ m.f1.f3 < 18446744073709551616
theorem rM_kind {m : S86} (h : rM m = true) : 1 ≤ m.f0 ∧ m.f0 ≤ 4 := by
  simp [rM] at h
  omega
theorem rM_sizes {m : S86} (h : rM m = true) : m.f1.f4.size ≤ 64 ∧ m.f2.size ≤ 64 ∧ rightP m.f1.f0 m.f1.f1 m.f1.f4 = true := by
  simp [rM, rP] at h
  refine ⟨by omega, by omega, ?_⟩
  simp [rightP]
  omega
theorem EP_size {m : S86} (h : rM m = true) (ho : okM m) : (EP m.f1).size ≤ 109 := by
  obtain ⟨h1, h2, h3⟩ := rM_sizes h
  simp [rightP] at h3
  obtain ⟨o1, o2, o3, o4⟩ := ho
  have a := N_le m.f1.f0.toNat (by omega)
  have b := N_le m.f1.f1.toNat (by omega)
  have c := N_le m.f1.f2.toNat (by omega)
  have d := N_le m.f1.f3.toNat (by omega)
  have e := N_le m.f1.f4.size (by omega)
  simp only [EP, E, ByteArray.size_append]
  omega
theorem EM_size {m : S86} (h : rM m = true) (ho : okM m) : (EM m).size ≤ 200 := by
  have h0 := rM_kind h
  obtain ⟨h1, h2, h3⟩ := rM_sizes h
  have h4 := EP_size h ho
  have a := N_le m.f0.toNat (by omega)
  have b := N_le m.f2.size (by omega)
  unfold EM
  split <;> (simp only [ByteArray.size_append]; omega)

theorem msgRight (m : S86) (w : World) : Calls Try.prog 62 #[.agg #[.int .i64 m.f0, .int .i64 m.f1.f0, .int .i64 m.f1.f1, .int .u64 m.f1.f2, .int .u64 m.f1.f3, .string m.f1.f4, .string m.f2]] w fun e w' => e = .returned (.bool (rM m)) ∧ Below w.heap.size w w' :=
  msg_Right.calls 2 _ _ _ _ _ _ _ _ w (msg_Right_is 0 m)

set_option maxHeartbeats 2000000 in
theorem msgPut (m : S86) (w : World) (h : rM m = true) (ho : okM m) :
    Calls Try.prog 56 #[.agg #[.int .i64 m.f0, .int .i64 m.f1.f0, .int .i64 m.f1.f1, .int .u64 m.f1.f2, .int .u64 m.f1.f3, .string m.f1.f4, .string m.f2]] w fun e w' => e = .returned (.tuple #[.string (EM m), .int .i64 0]) ∧ Below w.heap.size w w' := by
  have HR := Lib.hid h
  have HO := Lib.hid ho
  have h0 := rM_kind h
  have h1 := rM_sizes h
  have h4 := EP_size h ho
  have H1 := Lib.hid h1
  have a := N_le m.f0.toNat (by omega)
  have b := N_le m.f2.size (by omega)
  have hs2 : m.f2.size ≤ 64 := h1.2.1
  have w1 : IntKind.u64.wrap m.f0 = m.f0 := u64_in _ (by omega) (by omega)
  have a1 := fun w => run_string_add_sum (P := Try.prog) w (N m.f0.toNat) (EP m.f1) (by omega)
  have a2 := fun w => run_string_add_sum (P := Try.prog) w (N m.f0.toNat ++ EP m.f1) (N m.f2.size ++ m.f2) (by simp only [ByteArray.size_append]; omega)
  clear h ho h1
  have HM := Lib.hid (show EM m = EM m from rfl)
  clear HM
  by_cases h3 : m.f0 = 3
  all_goals
    have H3 := Lib.hid h3
    (first | (have h3b : (m.f0 == 3) = true := beq_iff_eq.2 h3) | (have h3b : (m.f0 == 3) = false := beq_eq_false_iff_ne.2 h3))
    clear h3
    go_enter Try.func56, Try.ntmps56
    go_wp2_with fail
    refine (msgRight m _).mono ?_
    rintro e w1 ⟨rfl, hb1⟩
    rw [HR.out]
    obtain ⟨hcl, hfr⟩ := Base.bcell hb1
    go_wp2_with fail
    refine (put_E _ _ _ _ _ _ H1.out.2.2 HO.out.1 HO.out.2.1 HO.out.2.2.1 HO.out.2.2.2).mono ?_
    rintro e w2 ⟨rfl, hb2⟩
    rw [show E m.f1.f0.toNat m.f1.f1.toNat m.f1.f2.toNat m.f1.f3.toNat m.f1.f4 = EP m.f1 from rfl]
    obtain ⟨hcl2, hfr2⟩ := Base.bcell hb2
    have k1 : w.heap.size < w1.heap.size := by (have := hb1.size; simp at this; omega)
    have k2 : w.heap.size < w2.heap.size := by (have := hb2.size; omega)
    go_wp2_with fail
    refine (num_int _ _ (by omega) (by omega)).mono ?_
    rintro e w3 ⟨rfl, hb3⟩
    obtain ⟨hcl3, hfr3⟩ := Base.bcell hb3
    have hB : Below w.heap.size w w3 := Base.bel (Base.bel (Base.bel ((Below.refl _ _).alloc (Nat.le_refl _) _) hb1 (by simp)) hb2 (by omega)) hb3 (by omega)
  · have k3 : w.heap.size < w3.heap.size := by (have := hb3.size; omega)
    go_wp2_with fail
    refine (text _ _ (by omega)).mono ?_
    rintro e w4 ⟨rfl, hb4⟩
    go_wp2
    go_ret2
    exact ⟨by rw [EM, if_pos H3.out]; rfl, Base.bel hB hb4 (by omega)⟩
  · go_wp2
    go_ret2
    exact ⟨by rw [EM, if_neg H3.out]; rfl, hB⟩

/-! ### txn.Put -/
def ET0 (side acc non : Int) (n : Nat) : ByteArray := N side.toNat ++ N acc.toNat ++ N non.toNat ++ N n
def ET (side acc non : Int) (n : Nat) (l : List S86) : ByteArray := l.foldl (fun s m => s ++ EM m) (ET0 side acc non n)
theorem fold_size : ∀ (l : List S86) (s : ByteArray), (∀ m ∈ l, rM m = true) → (∀ m ∈ l, okM m) → (l.foldl (fun s m => s ++ EM m) s).size ≤ s.size + 200 * l.length := by
  intro l
  induction l with
  | nil => intro s _ _; simp
  | cons m l ih =>
    intro s h1 h2
    rw [List.foldl_cons]
    have := ih (s ++ EM m) (fun x hx => h1 x (by simp [hx])) (fun x hx => h2 x (by simp [hx]))
    have h3 := EM_size (h1 m (by simp)) (h2 m (by simp))
    simp only [ByteArray.size_append, List.length_cons] at this ⊢
    omega
theorem txnRight (side acc non : Int) (A : Option Addr) (c : Nat) (l : List S86) (w : World) (hr : Kd.C k86 w A l.length l) (hc : l.length ≤ c) :
    Calls Try.prog 54 #[.agg #[.int .i64 side, .int .i64 acc, .int .u64 non, .slice A l.length c]] w fun e w' => e = .returned (.bool (rT side acc l)) ∧ Below w.heap.size w w' := by
  obtain ⟨k, hk⟩ := txn_Right_is side acc non l (Kd.C_max hr)
  exact txn_Right.calls k _ _ _ _ _ l _ w hr hc hk
set_option maxHeartbeats 2000000 in
theorem txnPut_no (side acc non : Int) (A : Option Addr) (c : Nat) (l : List S86) (w : World) (hr : Kd.C k86 w A l.length l) (hc : l.length ≤ c) (h : rT side acc l = false) :
    Calls Try.prog 39 #[.agg #[.int .i64 side, .int .i64 acc, .int .u64 non, .slice A l.length c]] w fun e w' => e = .returned (.tuple #[.string ⟨#[]⟩, .int .i64 1]) ∧ Below w.heap.size w w' := by
  have HR := Lib.hid h
  have HC := Lib.hid hr
  clear h hr
  go_enter Try.func39, Try.ntmps39
  go_wp2_with fail
  refine (txnRight _ _ _ _ _ l _ (Kd.C_alloc HC.out _) hc).mono ?_
  rintro e w1 ⟨rfl, hb1⟩
  rw [HR.out]
  go_wp2
  go_ret2
  exact ⟨rfl, Base.bel ((Below.refl _ _).alloc (Nat.le_refl _) _) hb1 (by simp)⟩
theorem rT_parts {side acc : Int} {l : List S86} (h : rT side acc l = true) : 0 ≤ side ∧ side ≤ 1 ∧ 0 ≤ acc ∧ acc ≤ 4 ∧ l.length ≤ 8 ∧ ∀ m ∈ l, rM m = true := by
  simp [rT] at h
  exact ⟨by omega, by omega, by omega, by omega, by omega, fun m hm => (h.2 m hm).1⟩
theorem keep4 {b : Nat} {w w1 w2 : World} {v0 v1 v2 v3 : Value} (h : w1.cell? ⟨b, 0, none⟩ = some v0 ∧ w1.cell? ⟨b, 1, none⟩ = some v1 ∧ w1.cell? ⟨b, 2, none⟩ = some v2 ∧ w1.cell? ⟨b, 3, none⟩ = some v3 ∧ Below b w w1 ∧ b < w1.heap.size)
    (hb : Below w1.heap.size w1 w2) : w2.cell? ⟨b, 0, none⟩ = some v0 ∧ w2.cell? ⟨b, 1, none⟩ = some v1 ∧ w2.cell? ⟨b, 2, none⟩ = some v2 ∧ w2.cell? ⟨b, 3, none⟩ = some v3 ∧ Below b w w2 ∧ b < w2.heap.size := by
  obtain ⟨a0, a1, a2, a3, hB, hs⟩ := h
  have := hb.size
  exact ⟨(hb.cell (p := ⟨b, 0, none⟩) hs).trans a0, (hb.cell (p := ⟨b, 1, none⟩) hs).trans a1, (hb.cell (p := ⟨b, 2, none⟩) hs).trans a2, (hb.cell (p := ⟨b, 3, none⟩) hs).trans a3, hB.trans (hb.mono (by omega)), by omega⟩
theorem keep4_drew {b : Nat} {w w1 : World} {v0 v1 v2 v3 : Value} (h : w1.cell? ⟨b, 0, none⟩ = some v0 ∧ w1.cell? ⟨b, 1, none⟩ = some v1 ∧ w1.cell? ⟨b, 2, none⟩ = some v2 ∧ w1.cell? ⟨b, 3, none⟩ = some v3 ∧ Below b w w1 ∧ b < w1.heap.size) :
    w1.drew.cell? ⟨b, 0, none⟩ = some v0 ∧ w1.drew.cell? ⟨b, 1, none⟩ = some v1 ∧ w1.drew.cell? ⟨b, 2, none⟩ = some v2 ∧ w1.drew.cell? ⟨b, 3, none⟩ = some v3 ∧ Below b w w1.drew ∧ b < w1.drew.heap.size := keep4 h (Below.refl _ _).drew
theorem start4 {w : World} {v0 v1 v2 v3 : Value} {T : Nat} : (w.alloc (.cells #[v0, v1, v2, v3] T)).cell? ⟨w.heap.size, 0, none⟩ = some v0 ∧ (w.alloc (.cells #[v0, v1, v2, v3] T)).cell? ⟨w.heap.size, 1, none⟩ = some v1 ∧ (w.alloc (.cells #[v0, v1, v2, v3] T)).cell? ⟨w.heap.size, 2, none⟩ = some v2 ∧ (w.alloc (.cells #[v0, v1, v2, v3] T)).cell? ⟨w.heap.size, 3, none⟩ = some v3 ∧ Below w.heap.size w (w.alloc (.cells #[v0, v1, v2, v3] T)) ∧ w.heap.size < (w.alloc (.cells #[v0, v1, v2, v3] T)).heap.size :=
  ⟨by simp [World.cell?, World.alloc, -World.alloc_eq], by simp [World.cell?, World.alloc, -World.alloc_eq], by simp [World.cell?, World.alloc, -World.alloc_eq], by simp [World.cell?, World.alloc, -World.alloc_eq], (Below.refl _ _).alloc (Nat.le_refl _) _, by simp⟩
set_option maxHeartbeats 4000000 in
theorem txnPut_ok (side acc non : Int) (A : Option Addr) (c : Nat) (l : List S86) (w : World) (hr : Kd.C k86 w A l.length l) (hc : l.length ≤ c) (h : rT side acc l = true) (hn0 : 0 ≤ non) (hn : non < 18446744073709551616) (ho : ∀ m ∈ l, okM m) :
    Calls Try.prog 39 #[.agg #[.int .i64 side, .int .i64 acc, .int .u64 non, .slice A l.length c]] w fun e w' => e = .returned (.tuple #[.string (ET side acc non l.length l), .int .i64 0]) ∧ Below w.heap.size w w' := by
  obtain ⟨s0, s1, a0, a1, l8, hm⟩ := rT_parts h
  have HR := Lib.hid h
  have HC := Lib.hid hr
  have HO := Lib.hid ho
  have HM := Lib.hid hm
  clear h hr ho hm
  go_enter Try.func39, Try.ntmps39
  go_wp2_with fail
  refine (txnRight _ _ _ _ _ l _ (Kd.C_alloc HC.out _) hc).mono ?_
  rintro e w1 ⟨rfl, hb1⟩
  rw [HR.out]
  have hK := keep4 start4 hb1
  have c1 := N_le side.toNat (by omega)
  have c2 := N_le acc.toNat (by omega)
  have c3 := N_le non.toNat (by omega)
  have c4 := N_le l.length (by omega)
  have z1 : IntKind.u64.wrap side = side := u64_in _ (by omega) (by omega)
  have z2 : IntKind.u64.wrap acc = acc := u64_in _ (by omega) (by omega)
  have z3 : IntKind.u64.wrap (l.length : Int) = l.length := u64_in _ (by omega) (by omega)
  have d1 := fun w => run_string_add_sum (P := Try.prog) w (N side.toNat) (N acc.toNat) (by omega)
  have d2 := fun w => run_string_add_sum (P := Try.prog) w (N side.toNat ++ N acc.toNat) (N non.toNat) (by simp only [ByteArray.size_append]; omega)
  have d3 := fun w => run_string_add_sum (P := Try.prog) w (N side.toNat ++ N acc.toNat ++ N non.toNat) (N l.length) (by simp only [ByteArray.size_append]; omega)
  go_wp2_with fail
  go_region_held3 (fun w' => w'.cell? ⟨w.heap.size, 0, none⟩ = some (.int .i64 side) ∧ w'.cell? ⟨w.heap.size, 1, none⟩ = some (.int .i64 acc) ∧ w'.cell? ⟨w.heap.size, 2, none⟩ = some (.int .u64 non) ∧ w'.cell? ⟨w.heap.size, 3, none⟩ = some (.slice A l.length c) ∧ Below w.heap.size w w' ∧ w.heap.size < w'.heap.size)
    (first | exact keep4_drew hK | exact keep4 (by assumption) (by assumption) | exact keep4_drew (by assumption) | go_keep)
    (first | (go_at_call_of 55 (Value.int IntKind.u64 (l.length : Int)); refine (num_nat _ _ (by omega)).mono ?_; rintro e w1 ⟨rfl, hb⟩) | (go_at_call 55; refine (num_int _ _ (by omega) (by omega)).mono ?_; rintro e w1 ⟨rfl, hb⟩))
  have hB := (by assumption : _ ∧ _ ∧ _ ∧ _ ∧ _ ∧ _).2.2.2.2.1
  have HB := Lib.hid hB
  clear hB hK d1 d2 d3 z1 z2 z3
  go_wp2_with fail
  go_loopw [4, 34] (fun o i wr => ∃ k : Nat, k ≤ l.length ∧ i = .int .i64 k ∧ o = .string (ET side acc non l.length (l.take k)) ∧ Below w.heap.size w wr) (fun _ i _ => l.length - (intOf i).toNat)
  case atStart => exact ⟨0, by omega, rfl, rfl, HB.out⟩
  case round =>
    obtain ⟨k, hk, rfl, rfl, hbr⟩ := hrel
    have HBR := Lib.hid hbr
    clear hbr
    by_cases hlt : k < l.length
    · obtain ⟨ad, rfl, e0, e1, e2, e3, e4, e5, e6⟩ := at_T86 (Kd.C_below HC.out HBR.out) (k : Int) (by omega) (by omega)
      have hx1 : (0 : Int) ≤ (k : Int) := by omega
      have hx2 : (k : Int) < (l.length : Nat) := by omega
      rw [Int.toNat_natCast] at e0 e1 e2 e3 e4 e5 e6
      have hrd : rd_T86 l (k : Int) = l[k] := by unfold rd_T86; simp [List.getD_eq_getElem?_getD, hlt]
      have hmem : l[k] ∈ l := List.getElem_mem hlt
      rw [hrd] at e0 e1 e2 e3 e4 e5 e6
      have hsz : (ET side acc non l.length (l.take k)).size ≤ 36 + 200 * k := by
        have h1 := fold_size (l.take k) (ET0 side acc non l.length) (fun m hm => HM.out m (List.mem_of_mem_take hm)) (fun m hm => HO.out m (List.mem_of_mem_take hm))
        have h2 : (ET0 side acc non l.length).size ≤ 36 := by unfold ET0; simp only [ByteArray.size_append]; omega
        have h3 : (l.take k).length ≤ k := List.length_take_le _ _
        unfold ET
        omega
      have hes : (EM l[k]).size ≤ 200 := EM_size (HM.out _ hmem) (HO.out _ hmem)
      have hput := fun w => msgPut l[k] w (HM.out _ hmem) (HO.out _ hmem)
      have htk : ET side acc non l.length (l.take (k + 1)) = ET side acc non l.length (l.take k) ++ EM l[k] := by
        unfold ET
        rw [List.take_succ_eq_append_getElem hlt, List.foldl_append]
        rfl
      have HTK := Lib.hid htk
      clear htk hrd hmem
      generalize hm : l[k] = m at *
      clear hm
      have HP := Lib.hid hput
      clear hput
      generalize ET side acc non l.length (l.take k) = S at *
      go_wp2_with fail
      refine (HP.out _).mono ?_
      rintro e w5 ⟨rfl, hb5⟩
      go_wp2
      go_roundw
      case rel => exact ⟨k + 1, by omega, by go_num, by rw [HTK.out], Base.bel (HBR.out.alloc HBR.out.size _) hb5 (by have := HBR.out.size; simp; omega)⟩
      case measure => simp [intOf]; omega
    · go_wp2
      go_ret2
      have : k = l.length := by omega
      refine ⟨?_, HBR.out⟩
      rw [this, List.take_length]
      rfl
end Go.Proofs.Ytclpjmhanhocoaa.TxnWalk
