/- report.Ret, report.Entry and the reference's. Conditions: as stated in each theorem. -/
import Derived.Test.YtoahfegeeimomaaDoorRefOp
set_option linter.unusedVariables false
set_option linter.unusedSimpArgs false
namespace Go.Proofs.YtoahfegeeimomaaDoor.Rets
open Go.RowKit Base Go.Lib Name Words Ops RefOp
set_option maxRecDepth 100000

def okB : ByteArray := ⟨#[111, 107]⟩
def inB : ByteArray := ⟨#[105, 110]⟩
theorem szAll {a b c : ByteArray} {l m n : Nat} (ha : a.size ≤ l) (hb : b.size ≤ m) (hc : c.size ≤ n) (h : l + m + n ≤ 1000 := by decide) : a.size + b.size + c.size ≤ 1000 := by omega
theorem szTwo {a b : ByteArray} {l m : Nat} (ha : a.size ≤ l) (hb : b.size ≤ m) (h : l + m ≤ 1000 := by decide) : a.size + b.size ≤ 1000 := by omega
set_option maxHeartbeats 4000000 in
theorem ret_err (kd e0 : Int) (ep n m : Nat) (h : e0 ≠ 0) (he : n64 ep) (hn : n64 n) (hm : n64 m) (w : World) (ht : Tab w) :
    Calls Tryd.prog 8 #[.int .i64 kd, .agg #[.int .i64 e0, .int .u64 ep, .int .u64 n, .int .u64 m]] w fun e w' => e = .returned (.string (errW e0)) ∧ Below w.heap.size w w' := by
  have HE := Lib.hid he
  have HN := Lib.hid hn
  have HM := Lib.hid hm
  clear he hn hm
  have HT := Lib.hid ht
  clear ht
  have h1 : (e0 == 0) = false := beq_eq_false_iff_ne.2 h
  have h2 : (e0 != 0) = true := by simpa using h
  clear h
  go_enter Tryd.func8, Tryd.ntmps8
  go_wp2_with fail
  refine (error_any _ _).mono ?_
  rintro e w1 ⟨rfl, hb⟩
  have hB := nextB (startB w (.cells #[.int .i64 e0, .int .u64 ep, .int .u64 n, .int .u64 m] 29)) hb
  have f0 := cellV hB 0 (.int .i64 e0) rfl
  go_wp2_with fail
  go_ret
  exact ⟨rfl, wholeB hB⟩
set_option maxHeartbeats 4000000 in
theorem ret_other (kd : Int) (ep n m : Nat) (h6 : kd ≠ 6) (h9 : kd ≠ 9) (h10 : kd ≠ 10) (he : n64 ep) (hn : n64 n) (hm : n64 m) (w : World) (ht : Tab w) :
    Calls Tryd.prog 8 #[.int .i64 kd, .agg #[.int .i64 0, .int .u64 ep, .int .u64 n, .int .u64 m]] w fun e w' => e = .returned (.string (okB)) ∧ Below w.heap.size w w' := by
  have HE := Lib.hid he
  have HN := Lib.hid hn
  have HM := Lib.hid hm
  clear he hn hm
  have HT := Lib.hid ht
  clear ht
  have hk6 : (kd == 6) = false := beq_eq_false_iff_ne.2 h6
  have hk9 : (kd == 9) = false := beq_eq_false_iff_ne.2 h9
  have hk10 : (kd == 10) = false := beq_eq_false_iff_ne.2 h10
  clear h6 h9 h10
  go_enter Tryd.func8, Tryd.ntmps8
  go_wp2_with fail
  refine (error_any _ _).mono ?_
  rintro e w1 ⟨rfl, hb⟩
  have hB := nextB (startB w (.cells #[.int .i64 0, .int .u64 ep, .int .u64 n, .int .u64 m] 29)) hb
  have f0 := cellV hB 0 (.int .i64 0) rfl
  go_wp2_with fail
  go_ret
  exact ⟨rfl, wholeB hB⟩
set_option maxHeartbeats 4000000 in
theorem ret_6  (ep n m : Nat)  (he : n64 ep) (hn : n64 n) (hm : n64 m) (w : World) (ht : Tab w) :
    Calls Tryd.prog 8 #[.int .i64 6, .agg #[.int .i64 0, .int .u64 ep, .int .u64 n, .int .u64 m]] w fun e w' => e = .returned (.string (okB ++ sp ++ D n ++ sp ++ D m ++ sp ++ inB ++ sp ++ D ep)) ∧ Below w.heap.size w w' := by
  have HE := Lib.hid he
  have HN := Lib.hid hn
  have HM := Lib.hid hm
  clear he hn hm
  have HT := Lib.hid ht
  clear ht
  go_enter Tryd.func8, Tryd.ntmps8
  go_wp2_with fail
  refine (error_any _ _).mono ?_
  rintro e w1 ⟨rfl, hb⟩
  have hB := nextB (startB w (.cells #[.int .i64 0, .int .u64 ep, .int .u64 n, .int .u64 m] 29)) hb
  have f0 := cellV hB 0 (.int .i64 0) rfl
  go_wp2_with fail
  go_region_held3 (fun w' => w'.cell? ⟨w.heap.size, 2, none⟩ = some (.int .u64 n) ∧ w'.cell? ⟨w.heap.size, 3, none⟩ = some (.int .u64 m) ∧ Below (w.heap.size + 1) (w.alloc (.cells #[.int .i64 0, .int .u64 ep, .int .u64 n, .int .u64 m] 29)) w')
      (first | exact keep2 rfl rfl (drewB hB) | exact keep2 rfl rfl (nextB (by assumption : _ ∧ _ ∧ _).2.2 hb) | exact keep2 rfl rfl (allocB (by assumption : _ ∧ _ ∧ _).2.2 _))
      (first | (go_at_call_of 21 (Value.int IntKind.u64 (n : Int)); refine (num_any n HN.out _ (HT.out _ (wholeB (by assumption : _ ∧ _ ∧ _).2.2))).mono ?_; rintro e w2 ⟨rfl, hb⟩) | (go_at_call_of 21 (Value.int IntKind.u64 (m : Int)); refine (num_any m HM.out _ (HT.out _ (wholeB (by assumption : _ ∧ _ ∧ _).2.2))).mono ?_; rintro e w2 ⟨rfl, hb⟩) | (go_at_call 16; refine (words3 _ _ _ _ (by exact szAll (errW_size 0) (D_size HN.out) (D_size HM.out))).mono ?_; rintro e w2 ⟨rfl, hb⟩))
  obtain ⟨f2, f3, hB2⟩ := (by assumption : _ ∧ _ ∧ _)
  have f1 := cellV hB2 1 (.int .u64 ep) rfl
  go_wp2_with fail
  refine (num_any ep HE.out _ (tabAt HT.out (wholeB hB2) _ (Below.refl _ _))).mono ?_
  rintro e w3 ⟨rfl, hb3⟩
  go_wp2_with fail
  refine (words3 _ _ _ _ (by exact szAll (app_le (app_le (app_le (app_le (errW_size 0) (Nat.le_of_eq sp_size)) (D_size HN.out)) (Nat.le_of_eq sp_size)) (D_size HM.out)) (Nat.le_refl 2) (D_size HE.out))).mono ?_
  rintro e w4 ⟨rfl, hb4⟩
  go_wp2_with fail
  go_ret
  exact ⟨ret_str (ba_ext (by simp [okB, inB, sp, errW])), wholeB (nextB (allocB (nextB hB2 hb3) _) hb4)⟩
set_option maxHeartbeats 4000000 in
theorem ret_9  (ep n m : Nat)  (he : n64 ep) (hn : n64 n) (hm : n64 m) (w : World) (ht : Tab w) :
    Calls Tryd.prog 8 #[.int .i64 9, .agg #[.int .i64 0, .int .u64 ep, .int .u64 n, .int .u64 m]] w fun e w' => e = .returned (.string (okB ++ sp ++ inB ++ sp ++ D ep)) ∧ Below w.heap.size w w' := by
  have HE := Lib.hid he
  have HN := Lib.hid hn
  have HM := Lib.hid hm
  clear he hn hm
  have HT := Lib.hid ht
  clear ht
  go_enter Tryd.func8, Tryd.ntmps8
  go_wp2_with fail
  refine (error_any _ _).mono ?_
  rintro e w1 ⟨rfl, hb⟩
  have hB := nextB (startB w (.cells #[.int .i64 0, .int .u64 ep, .int .u64 n, .int .u64 m] 29)) hb
  have f0 := cellV hB 0 (.int .i64 0) rfl
  have f1 := cellV hB 1 (.int .u64 ep) rfl
  go_wp2_with fail
  refine (num_any ep HE.out _ (tabAt HT.out (wholeB hB) _ (Below.refl _ _))).mono ?_
  rintro e w3 ⟨rfl, hb3⟩
  go_wp2_with fail
  refine (words3 _ _ _ _ (by exact szAll (errW_size 0) (Nat.le_refl 2) (D_size HE.out))).mono ?_
  rintro e w4 ⟨rfl, hb4⟩
  go_wp2_with fail
  go_ret
  exact ⟨ret_str (ba_ext (by simp [okB, inB, sp, errW])), wholeB (nextB (allocB (nextB hB hb3) _) hb4)⟩
set_option maxHeartbeats 4000000 in
theorem ret_10  (ep n m : Nat)  (he : n64 ep) (hn : n64 n) (hm : n64 m) (w : World) (ht : Tab w) :
    Calls Tryd.prog 8 #[.int .i64 10, .agg #[.int .i64 0, .int .u64 ep, .int .u64 n, .int .u64 m]] w fun e w' => e = .returned (.string (okB ++ sp ++ D n)) ∧ Below w.heap.size w w' := by
  have HE := Lib.hid he
  have HN := Lib.hid hn
  have HM := Lib.hid hm
  clear he hn hm
  have HT := Lib.hid ht
  clear ht
  go_enter Tryd.func8, Tryd.ntmps8
  go_wp2_with fail
  refine (error_any _ _).mono ?_
  rintro e w1 ⟨rfl, hb⟩
  have hB := nextB (startB w (.cells #[.int .i64 0, .int .u64 ep, .int .u64 n, .int .u64 m] 29)) hb
  have f0 := cellV hB 0 (.int .i64 0) rfl
  have f2 := cellV hB 2 (.int .u64 n) rfl
  go_wp2_with fail
  refine (num_any n HN.out _ (tabAt HT.out (wholeB hB) _ (Below.refl _ _))).mono ?_
  rintro e w3 ⟨rfl, hb3⟩
  go_wp2_with fail
  refine (words2 _ _ _ (by exact szTwo (errW_size 0) (D_size HN.out))).mono ?_
  rintro e w4 ⟨rfl, hb4⟩
  go_wp2_with fail
  go_ret
  exact ⟨ret_str (ba_ext (by simp [okB, inB, sp, errW])), wholeB (nextB (allocB (nextB hB hb3) _) hb4)⟩
set_option maxHeartbeats 4000000 in
theorem ref_err (kd e0 : Int) (ep n m : Nat) (h : e0 ≠ 0) (he : n64 ep) (hn : n64 n) (hm : n64 m) (w : World) :
    Calls Tryd.prog 9 #[.int .i64 kd, .agg #[.int .i64 e0, .int .u64 ep, .int .u64 n, .int .u64 m]] w fun e w' => e = .returned (.string (errW e0)) ∧ Below w.heap.size w w' := by
  have HE := Lib.hid he
  have HN := Lib.hid hn
  have HM := Lib.hid hm
  clear he hn hm
  have h1 : (e0 == 0) = false := beq_eq_false_iff_ne.2 h
  have h2 : (e0 != 0) = true := by simpa using h
  clear h
  go_enter Tryd.func9, Tryd.ntmps9
  go_wp2_with fail
  refine (word_any _ _).mono ?_
  rintro e w1 ⟨rfl, hb⟩
  have hB := nextB (startB w (.cells #[.int .i64 e0, .int .u64 ep, .int .u64 n, .int .u64 m] 29)) hb
  have f0 := cellV hB 0 (.int .i64 e0) rfl
  go_wp2_with fail
  go_ret
  exact ⟨rfl, wholeB hB⟩
set_option maxHeartbeats 4000000 in
theorem ref_other (kd : Int) (ep n m : Nat) (h6 : kd ≠ 6) (h9 : kd ≠ 9) (h10 : kd ≠ 10) (he : n64 ep) (hn : n64 n) (hm : n64 m) (w : World) :
    Calls Tryd.prog 9 #[.int .i64 kd, .agg #[.int .i64 0, .int .u64 ep, .int .u64 n, .int .u64 m]] w fun e w' => e = .returned (.string (okB)) ∧ Below w.heap.size w w' := by
  have HE := Lib.hid he
  have HN := Lib.hid hn
  have HM := Lib.hid hm
  clear he hn hm
  have hk6 : (kd == 6) = false := beq_eq_false_iff_ne.2 h6
  have hk9 : (kd == 9) = false := beq_eq_false_iff_ne.2 h9
  have hk10 : (kd == 10) = false := beq_eq_false_iff_ne.2 h10
  clear h6 h9 h10
  go_enter Tryd.func9, Tryd.ntmps9
  go_wp2_with fail
  refine (word_any _ _).mono ?_
  rintro e w1 ⟨rfl, hb⟩
  have hB := nextB (startB w (.cells #[.int .i64 0, .int .u64 ep, .int .u64 n, .int .u64 m] 29)) hb
  have f0 := cellV hB 0 (.int .i64 0) rfl
  go_wp2_with fail
  go_ret
  exact ⟨rfl, wholeB hB⟩
set_option maxHeartbeats 4000000 in
theorem ref_6  (ep n m : Nat)  (he : n64 ep) (hn : n64 n) (hm : n64 m) (w : World) :
    Calls Tryd.prog 9 #[.int .i64 6, .agg #[.int .i64 0, .int .u64 ep, .int .u64 n, .int .u64 m]] w fun e w' => e = .returned (.string (okB ++ sp ++ D n ++ sp ++ D m ++ sp ++ inB ++ sp ++ D ep)) ∧ Below w.heap.size w w' := by
  have HE := Lib.hid he
  have HN := Lib.hid hn
  have HM := Lib.hid hm
  clear he hn hm
  have b1 := fun w => run_string_add_sum (P := Tryd.prog) w (errW 0) ((⟨#[32]⟩ : ByteArray)) (add_ok (errW_size 0) (by decide : (⟨#[32]⟩ : ByteArray).size ≤ 1))
  have b2 := fun w => run_string_add_sum (P := Tryd.prog) w (errW 0 ++ (⟨#[32]⟩ : ByteArray)) (D n) (add_ok (app_le (errW_size 0) (by decide : (⟨#[32]⟩ : ByteArray).size ≤ 1)) (D_size HN.out))
  have b3 := fun w => run_string_add_sum (P := Tryd.prog) w (errW 0 ++ (⟨#[32]⟩ : ByteArray) ++ D n) ((⟨#[32]⟩ : ByteArray)) (add_ok (app_le (app_le (errW_size 0) (by decide : (⟨#[32]⟩ : ByteArray).size ≤ 1)) (D_size HN.out)) (by decide : (⟨#[32]⟩ : ByteArray).size ≤ 1))
  have b4 := fun w => run_string_add_sum (P := Tryd.prog) w (errW 0 ++ (⟨#[32]⟩ : ByteArray) ++ D n ++ (⟨#[32]⟩ : ByteArray)) (D m) (add_ok (app_le (app_le (app_le (errW_size 0) (by decide : (⟨#[32]⟩ : ByteArray).size ≤ 1)) (D_size HN.out)) (by decide : (⟨#[32]⟩ : ByteArray).size ≤ 1)) (D_size HM.out))
  have b5 := fun w => run_string_add_sum (P := Tryd.prog) w (errW 0 ++ (⟨#[32]⟩ : ByteArray) ++ D n ++ (⟨#[32]⟩ : ByteArray) ++ D m) ((⟨#[32, 105, 110, 32]⟩ : ByteArray)) (add_ok (app_le (app_le (app_le (app_le (errW_size 0) (by decide : (⟨#[32]⟩ : ByteArray).size ≤ 1)) (D_size HN.out)) (by decide : (⟨#[32]⟩ : ByteArray).size ≤ 1)) (D_size HM.out)) (by decide : (⟨#[32, 105, 110, 32]⟩ : ByteArray).size ≤ 4))
  have b6 := fun w => run_string_add_sum (P := Tryd.prog) w (errW 0 ++ (⟨#[32]⟩ : ByteArray) ++ D n ++ (⟨#[32]⟩ : ByteArray) ++ D m ++ (⟨#[32, 105, 110, 32]⟩ : ByteArray)) (D ep) (add_ok (app_le (app_le (app_le (app_le (app_le (errW_size 0) (by decide : (⟨#[32]⟩ : ByteArray).size ≤ 1)) (D_size HN.out)) (by decide : (⟨#[32]⟩ : ByteArray).size ≤ 1)) (D_size HM.out)) (by decide : (⟨#[32, 105, 110, 32]⟩ : ByteArray).size ≤ 4)) (D_size HE.out))
  go_enter Tryd.func9, Tryd.ntmps9
  go_wp2_with fail
  refine (word_any _ _).mono ?_
  rintro e w1 ⟨rfl, hb⟩
  have hB := nextB (startB w (.cells #[.int .i64 0, .int .u64 ep, .int .u64 n, .int .u64 m] 29)) hb
  have f0 := cellV hB 0 (.int .i64 0) rfl
  go_wp2_with fail
  go_region_held3 (fun w' => w'.cell? ⟨w.heap.size, 2, none⟩ = some (.int .u64 n) ∧ w'.cell? ⟨w.heap.size, 3, none⟩ = some (.int .u64 m) ∧ Below (w.heap.size + 1) (w.alloc (.cells #[.int .i64 0, .int .u64 ep, .int .u64 n, .int .u64 m] 29)) w')
      (first | exact keep2 rfl rfl (drewB hB) | exact keep2 rfl rfl (nextB (by assumption : _ ∧ _ ∧ _).2.2 hb) | exact keep2 rfl rfl (allocB (by assumption : _ ∧ _ ∧ _).2.2 _))
      (first | (go_at_call_of 25 (Value.int IntKind.u64 (n : Int)); refine (digitsD n HN.out _).mono ?_; rintro e w2 ⟨rfl, hb⟩) | (go_at_call_of 25 (Value.int IntKind.u64 (m : Int)); refine (digitsD m HM.out _).mono ?_; rintro e w2 ⟨rfl, hb⟩))
  obtain ⟨f2, f3, hB2⟩ := (by assumption : _ ∧ _ ∧ _)
  have f1 := cellV hB2 1 (.int .u64 ep) rfl
  go_wp2_with fail
  refine (digitsD ep HE.out _).mono ?_
  rintro e w3 ⟨rfl, hb3⟩
  go_wp2_with fail
  go_ret
  exact ⟨ret_str (ba_ext (by simp [okB, inB, sp, errW])), wholeB (nextB hB2 hb3)⟩
set_option maxHeartbeats 4000000 in
theorem ref_9  (ep n m : Nat)  (he : n64 ep) (hn : n64 n) (hm : n64 m) (w : World) :
    Calls Tryd.prog 9 #[.int .i64 9, .agg #[.int .i64 0, .int .u64 ep, .int .u64 n, .int .u64 m]] w fun e w' => e = .returned (.string (okB ++ sp ++ inB ++ sp ++ D ep)) ∧ Below w.heap.size w w' := by
  have HE := Lib.hid he
  have HN := Lib.hid hn
  have HM := Lib.hid hm
  clear he hn hm
  have b1 := fun w => run_string_add_sum (P := Tryd.prog) w (errW 0) ((⟨#[32, 105, 110, 32]⟩ : ByteArray)) (add_ok (errW_size 0) (by decide : (⟨#[32, 105, 110, 32]⟩ : ByteArray).size ≤ 4))
  have b2 := fun w => run_string_add_sum (P := Tryd.prog) w (errW 0 ++ (⟨#[32, 105, 110, 32]⟩ : ByteArray)) (D ep) (add_ok (app_le (errW_size 0) (by decide : (⟨#[32, 105, 110, 32]⟩ : ByteArray).size ≤ 4)) (D_size HE.out))
  go_enter Tryd.func9, Tryd.ntmps9
  go_wp2_with fail
  refine (word_any _ _).mono ?_
  rintro e w1 ⟨rfl, hb⟩
  have hB := nextB (startB w (.cells #[.int .i64 0, .int .u64 ep, .int .u64 n, .int .u64 m] 29)) hb
  have f0 := cellV hB 0 (.int .i64 0) rfl
  have f1 := cellV hB 1 (.int .u64 ep) rfl
  go_wp2_with fail
  refine (digitsD ep HE.out _).mono ?_
  rintro e w3 ⟨rfl, hb3⟩
  go_wp2_with fail
  go_ret
  exact ⟨ret_str (ba_ext (by simp [okB, inB, sp, errW])), wholeB (nextB hB hb3)⟩
set_option maxHeartbeats 4000000 in
theorem ref_10  (ep n m : Nat)  (he : n64 ep) (hn : n64 n) (hm : n64 m) (w : World) :
    Calls Tryd.prog 9 #[.int .i64 10, .agg #[.int .i64 0, .int .u64 ep, .int .u64 n, .int .u64 m]] w fun e w' => e = .returned (.string (okB ++ sp ++ D n)) ∧ Below w.heap.size w w' := by
  have HE := Lib.hid he
  have HN := Lib.hid hn
  have HM := Lib.hid hm
  clear he hn hm
  have b1 := fun w => run_string_add_sum (P := Tryd.prog) w (errW 0) ((⟨#[32]⟩ : ByteArray)) (add_ok (errW_size 0) (by decide : (⟨#[32]⟩ : ByteArray).size ≤ 1))
  have b2 := fun w => run_string_add_sum (P := Tryd.prog) w (errW 0 ++ (⟨#[32]⟩ : ByteArray)) (D n) (add_ok (app_le (errW_size 0) (by decide : (⟨#[32]⟩ : ByteArray).size ≤ 1)) (D_size HN.out))
  go_enter Tryd.func9, Tryd.ntmps9
  go_wp2_with fail
  refine (word_any _ _).mono ?_
  rintro e w1 ⟨rfl, hb⟩
  have hB := nextB (startB w (.cells #[.int .i64 0, .int .u64 ep, .int .u64 n, .int .u64 m] 29)) hb
  have f0 := cellV hB 0 (.int .i64 0) rfl
  have f2 := cellV hB 2 (.int .u64 n) rfl
  go_wp2_with fail
  refine (digitsD n HN.out _).mono ?_
  rintro e w3 ⟨rfl, hb3⟩
  go_wp2_with fail
  go_ret
  exact ⟨ret_str (ba_ext (by simp [okB, inB, sp, errW])), wholeB (nextB hB hb3)⟩
set_option maxHeartbeats 4000000 in
theorem entry_pending (c f : Int) (s : Nat) (ow : Int)  (hc : r64 c) (hs : n64 s) (ho : r64 ow) (w : World) (ht : Tab w) :
    Calls Tryd.prog 10 #[.agg #[.int .i64 c, .int .i64 f, .int .u64 s, .int .i64 1, .int .i64 ow]] w fun e w' => e = .returned (.string (I c ++ side f ++ D s ++ sp ++ ⟨#[112, 101, 110, 100, 105, 110, 103]⟩)) ∧ Below w.heap.size w w' := by
  have HC := Lib.hid hc
  have HS := Lib.hid hs
  have HO := Lib.hid ho
  clear hc hs ho
  have HT := Lib.hid ht
  clear ht
  go_enter Tryd.func10, Tryd.ntmps10
  go_wp2_with fail
  refine (name c f s HS.out HC.out.1 HC.out.2 _ (tabAt HT.out ((Below.refl _ w).alloc (Nat.le_refl _) _))).mono ?_
  rintro e w1 ⟨rfl, hb⟩
  have hB := nextB (startB w (.cells #[.int .i64 c, .int .i64 f, .int .u64 s, .int .i64 1, .int .i64 ow] 31)) hb
  have f3 := cellV hB 3 (.int .i64 1) rfl
  have f4 := cellV hB 4 (.int .i64 ow) rfl
  go_wp2_with fail
  refine (words2 _ _ _ (by exact szTwo (name_size f HC.out HS.out) (Nat.le_refl 7))).mono ?_
  rintro e w4 ⟨rfl, hb4⟩
  go_wp2_with fail
  go_ret
  exact ⟨rfl, wholeB (nextB (allocB hB _) hb4)⟩
set_option maxHeartbeats 4000000 in
theorem entry_claimed (c f : Int) (s : Nat) (ow : Int)  (hc : r64 c) (hs : n64 s) (ho : r64 ow) (w : World) (ht : Tab w) :
    Calls Tryd.prog 10 #[.agg #[.int .i64 c, .int .i64 f, .int .u64 s, .int .i64 2, .int .i64 ow]] w fun e w' => e = .returned (.string (I c ++ side f ++ D s ++ sp ++ ⟨#[99, 108, 97, 105, 109, 101, 100]⟩ ++ sp ++ I ow)) ∧ Below w.heap.size w w' := by
  have HC := Lib.hid hc
  have HS := Lib.hid hs
  have HO := Lib.hid ho
  clear hc hs ho
  have HT := Lib.hid ht
  clear ht
  go_enter Tryd.func10, Tryd.ntmps10
  go_wp2_with fail
  refine (name c f s HS.out HC.out.1 HC.out.2 _ (tabAt HT.out ((Below.refl _ w).alloc (Nat.le_refl _) _))).mono ?_
  rintro e w1 ⟨rfl, hb⟩
  have hB := nextB (startB w (.cells #[.int .i64 c, .int .i64 f, .int .u64 s, .int .i64 2, .int .i64 ow] 31)) hb
  have f3 := cellV hB 3 (.int .i64 2) rfl
  have f4 := cellV hB 4 (.int .i64 ow) rfl
  go_wp2_with fail
  refine (intI ow HO.out.1 HO.out.2 _ (tabAt HT.out (wholeB hB) _ (Below.refl _ _))).mono ?_
  rintro e w3 ⟨rfl, hb3⟩
  go_wp2_with fail
  refine (words3 _ _ _ _ (by exact szAll (name_size f HC.out HS.out) (Nat.le_refl 7) (I_size' HO.out))).mono ?_
  rintro e w4 ⟨rfl, hb4⟩
  go_wp2_with fail
  go_ret
  exact ⟨rfl, wholeB (nextB (allocB (nextB hB hb3) _) hb4)⟩
set_option maxHeartbeats 4000000 in
theorem entry_done (c f : Int) (s : Nat) (ow : Int)  (hc : r64 c) (hs : n64 s) (ho : r64 ow) (w : World) (ht : Tab w) :
    Calls Tryd.prog 10 #[.agg #[.int .i64 c, .int .i64 f, .int .u64 s, .int .i64 3, .int .i64 ow]] w fun e w' => e = .returned (.string (I c ++ side f ++ D s ++ sp ++ ⟨#[100, 111, 110, 101]⟩)) ∧ Below w.heap.size w w' := by
  have HC := Lib.hid hc
  have HS := Lib.hid hs
  have HO := Lib.hid ho
  clear hc hs ho
  have HT := Lib.hid ht
  clear ht
  go_enter Tryd.func10, Tryd.ntmps10
  go_wp2_with fail
  refine (name c f s HS.out HC.out.1 HC.out.2 _ (tabAt HT.out ((Below.refl _ w).alloc (Nat.le_refl _) _))).mono ?_
  rintro e w1 ⟨rfl, hb⟩
  have hB := nextB (startB w (.cells #[.int .i64 c, .int .i64 f, .int .u64 s, .int .i64 3, .int .i64 ow] 31)) hb
  have f3 := cellV hB 3 (.int .i64 3) rfl
  have f4 := cellV hB 4 (.int .i64 ow) rfl
  go_wp2_with fail
  refine (words2 _ _ _ (by exact szTwo (name_size f HC.out HS.out) (Nat.le_refl 4))).mono ?_
  rintro e w4 ⟨rfl, hb4⟩
  go_wp2_with fail
  go_ret
  exact ⟨rfl, wholeB (nextB (allocB hB _) hb4)⟩
set_option maxHeartbeats 4000000 in
theorem entry_lost (c f : Int) (s : Nat) (st : Int) (ow : Int) (h1 : st ≠ 1) (h2 : st ≠ 2) (h3 : st ≠ 3) (hc : r64 c) (hs : n64 s) (ho : r64 ow) (w : World) (ht : Tab w) :
    Calls Tryd.prog 10 #[.agg #[.int .i64 c, .int .i64 f, .int .u64 s, .int .i64 st, .int .i64 ow]] w fun e w' => e = .returned (.string (I c ++ side f ++ D s ++ sp ++ ⟨#[108, 111, 115, 116]⟩)) ∧ Below w.heap.size w w' := by
  have HC := Lib.hid hc
  have HS := Lib.hid hs
  have HO := Lib.hid ho
  clear hc hs ho
  have HT := Lib.hid ht
  clear ht
  have hk1 : (st == 1) = false := beq_eq_false_iff_ne.2 h1
  have hk2 : (st == 2) = false := beq_eq_false_iff_ne.2 h2
  have hk3 : (st == 3) = false := beq_eq_false_iff_ne.2 h3
  clear h1 h2 h3
  go_enter Tryd.func10, Tryd.ntmps10
  go_wp2_with fail
  refine (name c f s HS.out HC.out.1 HC.out.2 _ (tabAt HT.out ((Below.refl _ w).alloc (Nat.le_refl _) _))).mono ?_
  rintro e w1 ⟨rfl, hb⟩
  have hB := nextB (startB w (.cells #[.int .i64 c, .int .i64 f, .int .u64 s, .int .i64 st, .int .i64 ow] 31)) hb
  have f3 := cellV hB 3 (.int .i64 st) rfl
  have f4 := cellV hB 4 (.int .i64 ow) rfl
  go_wp2_with fail
  refine (words2 _ _ _ (by exact szTwo (name_size f HC.out HS.out) (Nat.le_refl 4))).mono ?_
  rintro e w4 ⟨rfl, hb4⟩
  go_wp2_with fail
  go_ret
  exact ⟨rfl, wholeB (nextB (allocB hB _) hb4)⟩
set_option maxHeartbeats 4000000 in
theorem refEntry_pending (c f : Int) (s : Nat) (ow : Int)  (hc : r64 c) (hs : n64 s) (ho : r64 ow) (w : World) :
    Calls Tryd.prog 11 #[.agg #[.int .i64 c, .int .i64 f, .int .u64 s, .int .i64 1, .int .i64 ow]] w fun e w' => e = .returned (.string (I c ++ side f ++ D s ++ sp ++ ⟨#[112, 101, 110, 100, 105, 110, 103]⟩)) ∧ Below w.heap.size w w' := by
  have HC := Lib.hid hc
  have HS := Lib.hid hs
  have HO := Lib.hid ho
  clear hc hs ho
  have b1 := fun w => run_string_add_sum (P := Tryd.prog) w ((I c ++ side f ++ D s)) ((⟨#[32, 112, 101, 110, 100, 105, 110, 103]⟩ : ByteArray)) (add_ok (name_size f HC.out HS.out) (by decide : (⟨#[32, 112, 101, 110, 100, 105, 110, 103]⟩ : ByteArray).size ≤ 8))
  go_enter Tryd.func11, Tryd.ntmps11
  go_wp2_with fail
  refine (Name.ref c f s HS.out HC.out.1 HC.out.2 _).mono ?_
  rintro e w1 ⟨rfl, hb⟩
  have hB := nextB (startB w (.cells #[.int .i64 c, .int .i64 f, .int .u64 s, .int .i64 1, .int .i64 ow] 31)) hb
  have f3 := cellV hB 3 (.int .i64 1) rfl
  have f4 := cellV hB 4 (.int .i64 ow) rfl
  go_wp2_with fail
  go_ret
  exact ⟨ret_str (ba_ext (by simp [sp])), wholeB hB⟩
set_option maxHeartbeats 4000000 in
theorem refEntry_claimed (c f : Int) (s : Nat) (ow : Int)  (hc : r64 c) (hs : n64 s) (ho : r64 ow) (w : World) :
    Calls Tryd.prog 11 #[.agg #[.int .i64 c, .int .i64 f, .int .u64 s, .int .i64 2, .int .i64 ow]] w fun e w' => e = .returned (.string (I c ++ side f ++ D s ++ sp ++ ⟨#[99, 108, 97, 105, 109, 101, 100]⟩ ++ sp ++ I ow)) ∧ Below w.heap.size w w' := by
  have HC := Lib.hid hc
  have HS := Lib.hid hs
  have HO := Lib.hid ho
  clear hc hs ho
  have b1 := fun w => run_string_add_sum (P := Tryd.prog) w ((I c ++ side f ++ D s)) ((⟨#[32, 99, 108, 97, 105, 109, 101, 100, 32]⟩ : ByteArray)) (add_ok (name_size f HC.out HS.out) (by decide : (⟨#[32, 99, 108, 97, 105, 109, 101, 100, 32]⟩ : ByteArray).size ≤ 9))
  have b2 := fun w => run_string_add_sum (P := Tryd.prog) w ((I c ++ side f ++ D s) ++ (⟨#[32, 99, 108, 97, 105, 109, 101, 100, 32]⟩ : ByteArray)) (I ow) (add_ok (app_le (name_size f HC.out HS.out) (by decide : (⟨#[32, 99, 108, 97, 105, 109, 101, 100, 32]⟩ : ByteArray).size ≤ 9)) (I_size' HO.out))
  go_enter Tryd.func11, Tryd.ntmps11
  go_wp2_with fail
  refine (Name.ref c f s HS.out HC.out.1 HC.out.2 _).mono ?_
  rintro e w1 ⟨rfl, hb⟩
  have hB := nextB (startB w (.cells #[.int .i64 c, .int .i64 f, .int .u64 s, .int .i64 2, .int .i64 ow] 31)) hb
  have f3 := cellV hB 3 (.int .i64 2) rfl
  have f4 := cellV hB 4 (.int .i64 ow) rfl
  go_wp2_with fail
  refine (wholeI ow HO.out.1 HO.out.2 _).mono ?_
  rintro e w3 ⟨rfl, hb3⟩
  go_wp2_with fail
  go_ret
  exact ⟨ret_str (ba_ext (by simp [sp])), wholeB (nextB hB hb3)⟩
set_option maxHeartbeats 4000000 in
theorem refEntry_done (c f : Int) (s : Nat) (ow : Int)  (hc : r64 c) (hs : n64 s) (ho : r64 ow) (w : World) :
    Calls Tryd.prog 11 #[.agg #[.int .i64 c, .int .i64 f, .int .u64 s, .int .i64 3, .int .i64 ow]] w fun e w' => e = .returned (.string (I c ++ side f ++ D s ++ sp ++ ⟨#[100, 111, 110, 101]⟩)) ∧ Below w.heap.size w w' := by
  have HC := Lib.hid hc
  have HS := Lib.hid hs
  have HO := Lib.hid ho
  clear hc hs ho
  have b1 := fun w => run_string_add_sum (P := Tryd.prog) w ((I c ++ side f ++ D s)) ((⟨#[32, 100, 111, 110, 101]⟩ : ByteArray)) (add_ok (name_size f HC.out HS.out) (by decide : (⟨#[32, 100, 111, 110, 101]⟩ : ByteArray).size ≤ 5))
  go_enter Tryd.func11, Tryd.ntmps11
  go_wp2_with fail
  refine (Name.ref c f s HS.out HC.out.1 HC.out.2 _).mono ?_
  rintro e w1 ⟨rfl, hb⟩
  have hB := nextB (startB w (.cells #[.int .i64 c, .int .i64 f, .int .u64 s, .int .i64 3, .int .i64 ow] 31)) hb
  have f3 := cellV hB 3 (.int .i64 3) rfl
  have f4 := cellV hB 4 (.int .i64 ow) rfl
  go_wp2_with fail
  go_ret
  exact ⟨ret_str (ba_ext (by simp [sp])), wholeB hB⟩
set_option maxHeartbeats 4000000 in
theorem refEntry_lost (c f : Int) (s : Nat) (st : Int) (ow : Int) (h1 : st ≠ 1) (h2 : st ≠ 2) (h3 : st ≠ 3) (hc : r64 c) (hs : n64 s) (ho : r64 ow) (w : World) :
    Calls Tryd.prog 11 #[.agg #[.int .i64 c, .int .i64 f, .int .u64 s, .int .i64 st, .int .i64 ow]] w fun e w' => e = .returned (.string (I c ++ side f ++ D s ++ sp ++ ⟨#[108, 111, 115, 116]⟩)) ∧ Below w.heap.size w w' := by
  have HC := Lib.hid hc
  have HS := Lib.hid hs
  have HO := Lib.hid ho
  clear hc hs ho
  have hk1 : (st == 1) = false := beq_eq_false_iff_ne.2 h1
  have hk2 : (st == 2) = false := beq_eq_false_iff_ne.2 h2
  have hk3 : (st == 3) = false := beq_eq_false_iff_ne.2 h3
  clear h1 h2 h3
  have b1 := fun w => run_string_add_sum (P := Tryd.prog) w ((I c ++ side f ++ D s)) ((⟨#[32, 108, 111, 115, 116]⟩ : ByteArray)) (add_ok (name_size f HC.out HS.out) (by decide : (⟨#[32, 108, 111, 115, 116]⟩ : ByteArray).size ≤ 5))
  go_enter Tryd.func11, Tryd.ntmps11
  go_wp2_with fail
  refine (Name.ref c f s HS.out HC.out.1 HC.out.2 _).mono ?_
  rintro e w1 ⟨rfl, hb⟩
  have hB := nextB (startB w (.cells #[.int .i64 c, .int .i64 f, .int .u64 s, .int .i64 st, .int .i64 ow] 31)) hb
  have f3 := cellV hB 3 (.int .i64 st) rfl
  have f4 := cellV hB 4 (.int .i64 ow) rfl
  go_wp2_with fail
  go_ret
  exact ⟨ret_str (ba_ext (by simp [sp])), wholeB hB⟩
end Go.Proofs.YtoahfegeeimomaaDoor.Rets
