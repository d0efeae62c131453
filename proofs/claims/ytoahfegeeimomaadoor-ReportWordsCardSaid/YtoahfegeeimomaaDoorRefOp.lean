/- muleteerref39.Op. Conditions: as stated in each theorem. -/
import Derived.Test.YtoahfegeeimomaaDoorOps
set_option linter.unusedVariables false
set_option linter.unusedSimpArgs false
namespace Go.Proofs.YtoahfegeeimomaaDoor.RefOp
open Go.RowKit Base Go.Lib Name Words Ops
set_option maxRecDepth 100000

theorem app_le {a b : ByteArray} {m n : Nat} (ha : a.size ≤ m) (hb : b.size ≤ n) : (a ++ b).size ≤ m + n := by
  rw [ByteArray.size_append]
  omega
theorem add_ok {a b : ByteArray} {m n : Nat} (ha : a.size ≤ m) (hb : b.size ≤ n) (h : m + n ≤ 1000 := by decide) : a.size + b.size ≤ 9223372036854775807 := by omega
theorem kindW_lo (k : Int) (h : k < 1) : kindW k = ⟨#[110, 111, 110, 101]⟩ := by
  rcases Int.lt_or_le k 0 with h0 | h0
  · exact kindW_out k (.inl h0)
  · obtain rfl : k = 0 := by omega
    rfl
theorem ret_str {a b : ByteArray} (h : a = b) : Ending.returned (.string a) = .returned (.string b) := by rw [h]
set_option maxHeartbeats 4000000 in
theorem k1 (who c f : Int) (s : Nat) (sd ac : Int) (ep n : Nat)  (hw : r64 who) (hc : r64 c) (hs : n64 s) (ha : r64 ac) (he : n64 ep) (hn : n64 n) (w : World) :
    Calls Tryd.prog 7 #[.agg #[.int .i64 1, .int .i64 who, .int .i64 c, .int .i64 f, .int .u64 s, .int .i64 sd, .int .i64 ac, .int .u64 ep, .int .u64 n]] w fun e w' => e = .returned (.string (head 1 who ++ sp ++ (I c ++ side f ++ D s))) ∧ Below w.heap.size w w' := by
  have HW := Lib.hid hw
  have HC := Lib.hid hc
  have HS := Lib.hid hs
  have HA := Lib.hid ha
  have HE := Lib.hid he
  have HN := Lib.hid hn
  clear hw hc hs ha he hn
  have b1 := fun w => run_string_add_sum (P := Tryd.prog) w ((⟨#[105, 110, 115, 101, 114, 116]⟩ : ByteArray)) ((⟨#[32, 98, 121, 32]⟩ : ByteArray)) (add_ok (by decide : (⟨#[105, 110, 115, 101, 114, 116]⟩ : ByteArray).size ≤ 6) (by decide : (⟨#[32, 98, 121, 32]⟩ : ByteArray).size ≤ 4))
  have b2 := fun w => run_string_add_sum (P := Tryd.prog) w ((⟨#[105, 110, 115, 101, 114, 116]⟩ : ByteArray) ++ (⟨#[32, 98, 121, 32]⟩ : ByteArray)) (I who) (add_ok (app_le (by decide : (⟨#[105, 110, 115, 101, 114, 116]⟩ : ByteArray).size ≤ 6) (by decide : (⟨#[32, 98, 121, 32]⟩ : ByteArray).size ≤ 4)) (I_size' HW.out))
  have b3 := fun w => run_string_add_sum (P := Tryd.prog) w ((⟨#[105, 110, 115, 101, 114, 116]⟩ : ByteArray) ++ (⟨#[32, 98, 121, 32]⟩ : ByteArray) ++ I who) ((⟨#[32]⟩ : ByteArray)) (add_ok (app_le (app_le (by decide : (⟨#[105, 110, 115, 101, 114, 116]⟩ : ByteArray).size ≤ 6) (by decide : (⟨#[32, 98, 121, 32]⟩ : ByteArray).size ≤ 4)) (I_size' HW.out)) (by decide : (⟨#[32]⟩ : ByteArray).size ≤ 1))
  have b4 := fun w => run_string_add_sum (P := Tryd.prog) w ((⟨#[105, 110, 115, 101, 114, 116]⟩ : ByteArray) ++ (⟨#[32, 98, 121, 32]⟩ : ByteArray) ++ I who ++ (⟨#[32]⟩ : ByteArray)) ((I c ++ side f ++ D s)) (add_ok (app_le (app_le (app_le (by decide : (⟨#[105, 110, 115, 101, 114, 116]⟩ : ByteArray).size ≤ 6) (by decide : (⟨#[32, 98, 121, 32]⟩ : ByteArray).size ≤ 4)) (I_size' HW.out)) (by decide : (⟨#[32]⟩ : ByteArray).size ≤ 1)) (name_size f HC.out HS.out))
  go_enter Tryd.func7, Tryd.ntmps7
  go_wp2_with fail
  refine (wholeI who HW.out.1 HW.out.2 _).mono ?_
  rintro e w1 ⟨rfl, hb⟩
  have hB := nextB (allocB (startB w (.cells #[.int .i64 1, .int .i64 who, .int .i64 c, .int .i64 f, .int .u64 s, .int .i64 sd, .int .i64 ac, .int .u64 ep, .int .u64 n] 26)) _) hb
  have f0 := cellV hB 0 (.int .i64 1) rfl
  have f2 := cellV hB 2 (.int .i64 c) rfl
  have f3 := cellV hB 3 (.int .i64 f) rfl
  have f4 := cellV hB 4 (.int .u64 s) rfl
  go_wp2_with fail
  refine (Name.ref c f s HS.out HC.out.1 HC.out.2 _).mono ?_
  rintro e w2 ⟨rfl, hb2⟩
  go_wp2_with fail
  go_ret
  exact ⟨ret_str (ba_ext (by simp [mid, head, sp, by_, kindW])), wholeB (nextB hB hb2)⟩
set_option maxHeartbeats 4000000 in
theorem k2 (who c f : Int) (s : Nat) (sd ac : Int) (ep n : Nat)  (hw : r64 who) (hc : r64 c) (hs : n64 s) (ha : r64 ac) (he : n64 ep) (hn : n64 n) (w : World) :
    Calls Tryd.prog 7 #[.agg #[.int .i64 2, .int .i64 who, .int .i64 c, .int .i64 f, .int .u64 s, .int .i64 sd, .int .i64 ac, .int .u64 ep, .int .u64 n]] w fun e w' => e = .returned (.string (head 2 who ++ sp ++ (I c ++ side f ++ D s))) ∧ Below w.heap.size w w' := by
  have HW := Lib.hid hw
  have HC := Lib.hid hc
  have HS := Lib.hid hs
  have HA := Lib.hid ha
  have HE := Lib.hid he
  have HN := Lib.hid hn
  clear hw hc hs ha he hn
  have b1 := fun w => run_string_add_sum (P := Tryd.prog) w ((⟨#[99, 108, 97, 105, 109]⟩ : ByteArray)) ((⟨#[32, 98, 121, 32]⟩ : ByteArray)) (add_ok (by decide : (⟨#[99, 108, 97, 105, 109]⟩ : ByteArray).size ≤ 5) (by decide : (⟨#[32, 98, 121, 32]⟩ : ByteArray).size ≤ 4))
  have b2 := fun w => run_string_add_sum (P := Tryd.prog) w ((⟨#[99, 108, 97, 105, 109]⟩ : ByteArray) ++ (⟨#[32, 98, 121, 32]⟩ : ByteArray)) (I who) (add_ok (app_le (by decide : (⟨#[99, 108, 97, 105, 109]⟩ : ByteArray).size ≤ 5) (by decide : (⟨#[32, 98, 121, 32]⟩ : ByteArray).size ≤ 4)) (I_size' HW.out))
  have b3 := fun w => run_string_add_sum (P := Tryd.prog) w ((⟨#[99, 108, 97, 105, 109]⟩ : ByteArray) ++ (⟨#[32, 98, 121, 32]⟩ : ByteArray) ++ I who) ((⟨#[32]⟩ : ByteArray)) (add_ok (app_le (app_le (by decide : (⟨#[99, 108, 97, 105, 109]⟩ : ByteArray).size ≤ 5) (by decide : (⟨#[32, 98, 121, 32]⟩ : ByteArray).size ≤ 4)) (I_size' HW.out)) (by decide : (⟨#[32]⟩ : ByteArray).size ≤ 1))
  have b4 := fun w => run_string_add_sum (P := Tryd.prog) w ((⟨#[99, 108, 97, 105, 109]⟩ : ByteArray) ++ (⟨#[32, 98, 121, 32]⟩ : ByteArray) ++ I who ++ (⟨#[32]⟩ : ByteArray)) ((I c ++ side f ++ D s)) (add_ok (app_le (app_le (app_le (by decide : (⟨#[99, 108, 97, 105, 109]⟩ : ByteArray).size ≤ 5) (by decide : (⟨#[32, 98, 121, 32]⟩ : ByteArray).size ≤ 4)) (I_size' HW.out)) (by decide : (⟨#[32]⟩ : ByteArray).size ≤ 1)) (name_size f HC.out HS.out))
  go_enter Tryd.func7, Tryd.ntmps7
  go_wp2_with fail
  refine (wholeI who HW.out.1 HW.out.2 _).mono ?_
  rintro e w1 ⟨rfl, hb⟩
  have hB := nextB (allocB (startB w (.cells #[.int .i64 2, .int .i64 who, .int .i64 c, .int .i64 f, .int .u64 s, .int .i64 sd, .int .i64 ac, .int .u64 ep, .int .u64 n] 26)) _) hb
  have f0 := cellV hB 0 (.int .i64 2) rfl
  have f2 := cellV hB 2 (.int .i64 c) rfl
  have f3 := cellV hB 3 (.int .i64 f) rfl
  have f4 := cellV hB 4 (.int .u64 s) rfl
  go_wp2_with fail
  refine (Name.ref c f s HS.out HC.out.1 HC.out.2 _).mono ?_
  rintro e w2 ⟨rfl, hb2⟩
  go_wp2_with fail
  go_ret
  exact ⟨ret_str (ba_ext (by simp [mid, head, sp, by_, kindW])), wholeB (nextB hB hb2)⟩
set_option maxHeartbeats 4000000 in
theorem k3 (who c f : Int) (s : Nat) (sd ac : Int) (ep n : Nat)  (hw : r64 who) (hc : r64 c) (hs : n64 s) (ha : r64 ac) (he : n64 ep) (hn : n64 n) (w : World) :
    Calls Tryd.prog 7 #[.agg #[.int .i64 3, .int .i64 who, .int .i64 c, .int .i64 f, .int .u64 s, .int .i64 sd, .int .i64 ac, .int .u64 ep, .int .u64 n]] w fun e w' => e = .returned (.string (head 3 who ++ sp ++ (I c ++ side f ++ D s))) ∧ Below w.heap.size w w' := by
  have HW := Lib.hid hw
  have HC := Lib.hid hc
  have HS := Lib.hid hs
  have HA := Lib.hid ha
  have HE := Lib.hid he
  have HN := Lib.hid hn
  clear hw hc hs ha he hn
  have b1 := fun w => run_string_add_sum (P := Tryd.prog) w ((⟨#[114, 101, 108, 101, 97, 115, 101]⟩ : ByteArray)) ((⟨#[32, 98, 121, 32]⟩ : ByteArray)) (add_ok (by decide : (⟨#[114, 101, 108, 101, 97, 115, 101]⟩ : ByteArray).size ≤ 7) (by decide : (⟨#[32, 98, 121, 32]⟩ : ByteArray).size ≤ 4))
  have b2 := fun w => run_string_add_sum (P := Tryd.prog) w ((⟨#[114, 101, 108, 101, 97, 115, 101]⟩ : ByteArray) ++ (⟨#[32, 98, 121, 32]⟩ : ByteArray)) (I who) (add_ok (app_le (by decide : (⟨#[114, 101, 108, 101, 97, 115, 101]⟩ : ByteArray).size ≤ 7) (by decide : (⟨#[32, 98, 121, 32]⟩ : ByteArray).size ≤ 4)) (I_size' HW.out))
  have b3 := fun w => run_string_add_sum (P := Tryd.prog) w ((⟨#[114, 101, 108, 101, 97, 115, 101]⟩ : ByteArray) ++ (⟨#[32, 98, 121, 32]⟩ : ByteArray) ++ I who) ((⟨#[32]⟩ : ByteArray)) (add_ok (app_le (app_le (by decide : (⟨#[114, 101, 108, 101, 97, 115, 101]⟩ : ByteArray).size ≤ 7) (by decide : (⟨#[32, 98, 121, 32]⟩ : ByteArray).size ≤ 4)) (I_size' HW.out)) (by decide : (⟨#[32]⟩ : ByteArray).size ≤ 1))
  have b4 := fun w => run_string_add_sum (P := Tryd.prog) w ((⟨#[114, 101, 108, 101, 97, 115, 101]⟩ : ByteArray) ++ (⟨#[32, 98, 121, 32]⟩ : ByteArray) ++ I who ++ (⟨#[32]⟩ : ByteArray)) ((I c ++ side f ++ D s)) (add_ok (app_le (app_le (app_le (by decide : (⟨#[114, 101, 108, 101, 97, 115, 101]⟩ : ByteArray).size ≤ 7) (by decide : (⟨#[32, 98, 121, 32]⟩ : ByteArray).size ≤ 4)) (I_size' HW.out)) (by decide : (⟨#[32]⟩ : ByteArray).size ≤ 1)) (name_size f HC.out HS.out))
  go_enter Tryd.func7, Tryd.ntmps7
  go_wp2_with fail
  refine (wholeI who HW.out.1 HW.out.2 _).mono ?_
  rintro e w1 ⟨rfl, hb⟩
  have hB := nextB (allocB (startB w (.cells #[.int .i64 3, .int .i64 who, .int .i64 c, .int .i64 f, .int .u64 s, .int .i64 sd, .int .i64 ac, .int .u64 ep, .int .u64 n] 26)) _) hb
  have f0 := cellV hB 0 (.int .i64 3) rfl
  have f2 := cellV hB 2 (.int .i64 c) rfl
  have f3 := cellV hB 3 (.int .i64 f) rfl
  have f4 := cellV hB 4 (.int .u64 s) rfl
  go_wp2_with fail
  refine (Name.ref c f s HS.out HC.out.1 HC.out.2 _).mono ?_
  rintro e w2 ⟨rfl, hb2⟩
  go_wp2_with fail
  go_ret
  exact ⟨ret_str (ba_ext (by simp [mid, head, sp, by_, kindW])), wholeB (nextB hB hb2)⟩
set_option maxHeartbeats 4000000 in
theorem k4 (who c f : Int) (s : Nat) (sd ac : Int) (ep n : Nat)  (hw : r64 who) (hc : r64 c) (hs : n64 s) (ha : r64 ac) (he : n64 ep) (hn : n64 n) (w : World) :
    Calls Tryd.prog 7 #[.agg #[.int .i64 4, .int .i64 who, .int .i64 c, .int .i64 f, .int .u64 s, .int .i64 sd, .int .i64 ac, .int .u64 ep, .int .u64 n]] w fun e w' => e = .returned (.string (head 4 who ++ sp ++ (I c ++ side f ++ D s))) ∧ Below w.heap.size w w' := by
  have HW := Lib.hid hw
  have HC := Lib.hid hc
  have HS := Lib.hid hs
  have HA := Lib.hid ha
  have HE := Lib.hid he
  have HN := Lib.hid hn
  clear hw hc hs ha he hn
  have b1 := fun w => run_string_add_sum (P := Tryd.prog) w ((⟨#[99, 111, 109, 112, 108, 101, 116, 101]⟩ : ByteArray)) ((⟨#[32, 98, 121, 32]⟩ : ByteArray)) (add_ok (by decide : (⟨#[99, 111, 109, 112, 108, 101, 116, 101]⟩ : ByteArray).size ≤ 8) (by decide : (⟨#[32, 98, 121, 32]⟩ : ByteArray).size ≤ 4))
  have b2 := fun w => run_string_add_sum (P := Tryd.prog) w ((⟨#[99, 111, 109, 112, 108, 101, 116, 101]⟩ : ByteArray) ++ (⟨#[32, 98, 121, 32]⟩ : ByteArray)) (I who) (add_ok (app_le (by decide : (⟨#[99, 111, 109, 112, 108, 101, 116, 101]⟩ : ByteArray).size ≤ 8) (by decide : (⟨#[32, 98, 121, 32]⟩ : ByteArray).size ≤ 4)) (I_size' HW.out))
  have b3 := fun w => run_string_add_sum (P := Tryd.prog) w ((⟨#[99, 111, 109, 112, 108, 101, 116, 101]⟩ : ByteArray) ++ (⟨#[32, 98, 121, 32]⟩ : ByteArray) ++ I who) ((⟨#[32]⟩ : ByteArray)) (add_ok (app_le (app_le (by decide : (⟨#[99, 111, 109, 112, 108, 101, 116, 101]⟩ : ByteArray).size ≤ 8) (by decide : (⟨#[32, 98, 121, 32]⟩ : ByteArray).size ≤ 4)) (I_size' HW.out)) (by decide : (⟨#[32]⟩ : ByteArray).size ≤ 1))
  have b4 := fun w => run_string_add_sum (P := Tryd.prog) w ((⟨#[99, 111, 109, 112, 108, 101, 116, 101]⟩ : ByteArray) ++ (⟨#[32, 98, 121, 32]⟩ : ByteArray) ++ I who ++ (⟨#[32]⟩ : ByteArray)) ((I c ++ side f ++ D s)) (add_ok (app_le (app_le (app_le (by decide : (⟨#[99, 111, 109, 112, 108, 101, 116, 101]⟩ : ByteArray).size ≤ 8) (by decide : (⟨#[32, 98, 121, 32]⟩ : ByteArray).size ≤ 4)) (I_size' HW.out)) (by decide : (⟨#[32]⟩ : ByteArray).size ≤ 1)) (name_size f HC.out HS.out))
  go_enter Tryd.func7, Tryd.ntmps7
  go_wp2_with fail
  refine (wholeI who HW.out.1 HW.out.2 _).mono ?_
  rintro e w1 ⟨rfl, hb⟩
  have hB := nextB (allocB (startB w (.cells #[.int .i64 4, .int .i64 who, .int .i64 c, .int .i64 f, .int .u64 s, .int .i64 sd, .int .i64 ac, .int .u64 ep, .int .u64 n] 26)) _) hb
  have f0 := cellV hB 0 (.int .i64 4) rfl
  have f2 := cellV hB 2 (.int .i64 c) rfl
  have f3 := cellV hB 3 (.int .i64 f) rfl
  have f4 := cellV hB 4 (.int .u64 s) rfl
  go_wp2_with fail
  refine (Name.ref c f s HS.out HC.out.1 HC.out.2 _).mono ?_
  rintro e w2 ⟨rfl, hb2⟩
  go_wp2_with fail
  go_ret
  exact ⟨ret_str (ba_ext (by simp [mid, head, sp, by_, kindW])), wholeB (nextB hB hb2)⟩
set_option maxHeartbeats 4000000 in
theorem k5 (who c f : Int) (s : Nat) (sd ac : Int) (ep n : Nat)  (hw : r64 who) (hc : r64 c) (hs : n64 s) (ha : r64 ac) (he : n64 ep) (hn : n64 n) (w : World) :
    Calls Tryd.prog 7 #[.agg #[.int .i64 5, .int .i64 who, .int .i64 c, .int .i64 f, .int .u64 s, .int .i64 sd, .int .i64 ac, .int .u64 ep, .int .u64 n]] w fun e w' => e = .returned (.string (head 5 who ++ sp ++ (I c ++ side f ++ D s))) ∧ Below w.heap.size w w' := by
  have HW := Lib.hid hw
  have HC := Lib.hid hc
  have HS := Lib.hid hs
  have HA := Lib.hid ha
  have HE := Lib.hid he
  have HN := Lib.hid hn
  clear hw hc hs ha he hn
  have b1 := fun w => run_string_add_sum (P := Tryd.prog) w ((⟨#[101, 120, 112, 105, 114, 101]⟩ : ByteArray)) ((⟨#[32, 98, 121, 32]⟩ : ByteArray)) (add_ok (by decide : (⟨#[101, 120, 112, 105, 114, 101]⟩ : ByteArray).size ≤ 6) (by decide : (⟨#[32, 98, 121, 32]⟩ : ByteArray).size ≤ 4))
  have b2 := fun w => run_string_add_sum (P := Tryd.prog) w ((⟨#[101, 120, 112, 105, 114, 101]⟩ : ByteArray) ++ (⟨#[32, 98, 121, 32]⟩ : ByteArray)) (I who) (add_ok (app_le (by decide : (⟨#[101, 120, 112, 105, 114, 101]⟩ : ByteArray).size ≤ 6) (by decide : (⟨#[32, 98, 121, 32]⟩ : ByteArray).size ≤ 4)) (I_size' HW.out))
  have b3 := fun w => run_string_add_sum (P := Tryd.prog) w ((⟨#[101, 120, 112, 105, 114, 101]⟩ : ByteArray) ++ (⟨#[32, 98, 121, 32]⟩ : ByteArray) ++ I who) ((⟨#[32]⟩ : ByteArray)) (add_ok (app_le (app_le (by decide : (⟨#[101, 120, 112, 105, 114, 101]⟩ : ByteArray).size ≤ 6) (by decide : (⟨#[32, 98, 121, 32]⟩ : ByteArray).size ≤ 4)) (I_size' HW.out)) (by decide : (⟨#[32]⟩ : ByteArray).size ≤ 1))
  have b4 := fun w => run_string_add_sum (P := Tryd.prog) w ((⟨#[101, 120, 112, 105, 114, 101]⟩ : ByteArray) ++ (⟨#[32, 98, 121, 32]⟩ : ByteArray) ++ I who ++ (⟨#[32]⟩ : ByteArray)) ((I c ++ side f ++ D s)) (add_ok (app_le (app_le (app_le (by decide : (⟨#[101, 120, 112, 105, 114, 101]⟩ : ByteArray).size ≤ 6) (by decide : (⟨#[32, 98, 121, 32]⟩ : ByteArray).size ≤ 4)) (I_size' HW.out)) (by decide : (⟨#[32]⟩ : ByteArray).size ≤ 1)) (name_size f HC.out HS.out))
  go_enter Tryd.func7, Tryd.ntmps7
  go_wp2_with fail
  refine (wholeI who HW.out.1 HW.out.2 _).mono ?_
  rintro e w1 ⟨rfl, hb⟩
  have hB := nextB (allocB (startB w (.cells #[.int .i64 5, .int .i64 who, .int .i64 c, .int .i64 f, .int .u64 s, .int .i64 sd, .int .i64 ac, .int .u64 ep, .int .u64 n] 26)) _) hb
  have f0 := cellV hB 0 (.int .i64 5) rfl
  have f2 := cellV hB 2 (.int .i64 c) rfl
  have f3 := cellV hB 3 (.int .i64 f) rfl
  have f4 := cellV hB 4 (.int .u64 s) rfl
  go_wp2_with fail
  refine (Name.ref c f s HS.out HC.out.1 HC.out.2 _).mono ?_
  rintro e w2 ⟨rfl, hb2⟩
  go_wp2_with fail
  go_ret
  exact ⟨ret_str (ba_ext (by simp [mid, head, sp, by_, kindW])), wholeB (nextB hB hb2)⟩
set_option maxHeartbeats 4000000 in
theorem k10 (who c f : Int) (s : Nat) (sd ac : Int) (ep n : Nat)  (hw : r64 who) (hc : r64 c) (hs : n64 s) (ha : r64 ac) (he : n64 ep) (hn : n64 n) (w : World) :
    Calls Tryd.prog 7 #[.agg #[.int .i64 10, .int .i64 who, .int .i64 c, .int .i64 f, .int .u64 s, .int .i64 sd, .int .i64 ac, .int .u64 ep, .int .u64 n]] w fun e w' => e = .returned (.string (mid 10 who sd ac)) ∧ Below w.heap.size w w' := by
  have HW := Lib.hid hw
  have HC := Lib.hid hc
  have HS := Lib.hid hs
  have HA := Lib.hid ha
  have HE := Lib.hid he
  have HN := Lib.hid hn
  clear hw hc hs ha he hn
  have b1 := fun w => run_string_add_sum (P := Tryd.prog) w ((⟨#[100, 114, 111, 112]⟩ : ByteArray)) ((⟨#[32, 98, 121, 32]⟩ : ByteArray)) (add_ok (by decide : (⟨#[100, 114, 111, 112]⟩ : ByteArray).size ≤ 4) (by decide : (⟨#[32, 98, 121, 32]⟩ : ByteArray).size ≤ 4))
  have b2 := fun w => run_string_add_sum (P := Tryd.prog) w ((⟨#[100, 114, 111, 112]⟩ : ByteArray) ++ (⟨#[32, 98, 121, 32]⟩ : ByteArray)) (I who) (add_ok (app_le (by decide : (⟨#[100, 114, 111, 112]⟩ : ByteArray).size ≤ 4) (by decide : (⟨#[32, 98, 121, 32]⟩ : ByteArray).size ≤ 4)) (I_size' HW.out))
  have b3 := fun w => run_string_add_sum (P := Tryd.prog) w ((⟨#[100, 114, 111, 112]⟩ : ByteArray) ++ (⟨#[32, 98, 121, 32]⟩ : ByteArray) ++ I who) ((⟨#[32]⟩ : ByteArray)) (add_ok (app_le (app_le (by decide : (⟨#[100, 114, 111, 112]⟩ : ByteArray).size ≤ 4) (by decide : (⟨#[32, 98, 121, 32]⟩ : ByteArray).size ≤ 4)) (I_size' HW.out)) (by decide : (⟨#[32]⟩ : ByteArray).size ≤ 1))
  have b4 := fun w => run_string_add_sum (P := Tryd.prog) w ((⟨#[100, 114, 111, 112]⟩ : ByteArray) ++ (⟨#[32, 98, 121, 32]⟩ : ByteArray) ++ I who ++ (⟨#[32]⟩ : ByteArray)) (side sd) (add_ok (app_le (app_le (app_le (by decide : (⟨#[100, 114, 111, 112]⟩ : ByteArray).size ≤ 4) (by decide : (⟨#[32, 98, 121, 32]⟩ : ByteArray).size ≤ 4)) (I_size' HW.out)) (by decide : (⟨#[32]⟩ : ByteArray).size ≤ 1)) (Nat.le_of_eq (side_size sd)))
  have b5 := fun w => run_string_add_sum (P := Tryd.prog) w ((⟨#[100, 114, 111, 112]⟩ : ByteArray) ++ (⟨#[32, 98, 121, 32]⟩ : ByteArray) ++ I who ++ (⟨#[32]⟩ : ByteArray) ++ side sd) ((⟨#[32]⟩ : ByteArray)) (add_ok (app_le (app_le (app_le (app_le (by decide : (⟨#[100, 114, 111, 112]⟩ : ByteArray).size ≤ 4) (by decide : (⟨#[32, 98, 121, 32]⟩ : ByteArray).size ≤ 4)) (I_size' HW.out)) (by decide : (⟨#[32]⟩ : ByteArray).size ≤ 1)) (Nat.le_of_eq (side_size sd))) (by decide : (⟨#[32]⟩ : ByteArray).size ≤ 1))
  have b6 := fun w => run_string_add_sum (P := Tryd.prog) w ((⟨#[100, 114, 111, 112]⟩ : ByteArray) ++ (⟨#[32, 98, 121, 32]⟩ : ByteArray) ++ I who ++ (⟨#[32]⟩ : ByteArray) ++ side sd ++ (⟨#[32]⟩ : ByteArray)) (I ac) (add_ok (app_le (app_le (app_le (app_le (app_le (by decide : (⟨#[100, 114, 111, 112]⟩ : ByteArray).size ≤ 4) (by decide : (⟨#[32, 98, 121, 32]⟩ : ByteArray).size ≤ 4)) (I_size' HW.out)) (by decide : (⟨#[32]⟩ : ByteArray).size ≤ 1)) (Nat.le_of_eq (side_size sd))) (by decide : (⟨#[32]⟩ : ByteArray).size ≤ 1)) (I_size' HA.out))
  go_enter Tryd.func7, Tryd.ntmps7
  go_wp2_with fail
  refine (wholeI who HW.out.1 HW.out.2 _).mono ?_
  rintro e w1 ⟨rfl, hb⟩
  have hB := nextB (allocB (startB w (.cells #[.int .i64 10, .int .i64 who, .int .i64 c, .int .i64 f, .int .u64 s, .int .i64 sd, .int .i64 ac, .int .u64 ep, .int .u64 n] 26)) _) hb
  have f0 := cellV hB 0 (.int .i64 10) rfl
  have f5 := cellV hB 5 (.int .i64 sd) rfl
  have f6 := cellV hB 6 (.int .i64 ac) rfl
  go_wp2_with fail
  go_region_held3 (fun w' => w'.cell? ⟨w.heap.size, 5, none⟩ = some (.int .i64 sd) ∧ w'.cell? ⟨w.heap.size, 6, none⟩ = some (.int .i64 ac) ∧ Below (w.heap.size + 1) (w.alloc (.cells #[.int .i64 10, .int .i64 who, .int .i64 c, .int .i64 f, .int .u64 s, .int .i64 sd, .int .i64 ac, .int .u64 ep, .int .u64 n] 26)) w')
      (first | exact keep2 rfl rfl (drewB hB) | exact keep2 rfl rfl (nextB (by assumption : _ ∧ _ ∧ _).2.2 hb) | exact keep2 rfl rfl (allocB (by assumption : _ ∧ _ ∧ _).2.2 _))
      (first | (go_at_call 24; refine (letter_any _ _).mono ?_; rintro e w2 ⟨rfl, hb⟩) | (go_at_call 22; refine (wholeI ac HA.out.1 HA.out.2 _).mono ?_; rintro e w2 ⟨rfl, hb⟩))
  clear f0 f5 f6
  obtain ⟨f5, f6, hB2⟩ := (by assumption : _ ∧ _ ∧ _)
  have f0 := cellV hB2 0 (.int .i64 10) rfl
  go_wp2_with fail
  go_ret
  exact ⟨ret_str (ba_ext (by simp [mid, head, sp, by_, kindW])), wholeB hB2⟩
set_option maxHeartbeats 4000000 in
theorem k7 (who c f : Int) (s : Nat) (sd ac : Int) (ep n : Nat)  (hw : r64 who) (hc : r64 c) (hs : n64 s) (ha : r64 ac) (he : n64 ep) (hn : n64 n) (w : World) :
    Calls Tryd.prog 7 #[.agg #[.int .i64 7, .int .i64 who, .int .i64 c, .int .i64 f, .int .u64 s, .int .i64 sd, .int .i64 ac, .int .u64 ep, .int .u64 n]] w fun e w' => e = .returned (.string (mid 7 who sd ac ++ sp ++ D n ++ sp ++ ⟨#[105, 110]⟩ ++ sp ++ D ep)) ∧ Below w.heap.size w w' := by
  have HW := Lib.hid hw
  have HC := Lib.hid hc
  have HS := Lib.hid hs
  have HA := Lib.hid ha
  have HE := Lib.hid he
  have HN := Lib.hid hn
  clear hw hc hs ha he hn
  have b1 := fun w => run_string_add_sum (P := Tryd.prog) w ((⟨#[99, 111, 109, 109, 105, 116]⟩ : ByteArray)) ((⟨#[32, 98, 121, 32]⟩ : ByteArray)) (add_ok (by decide : (⟨#[99, 111, 109, 109, 105, 116]⟩ : ByteArray).size ≤ 6) (by decide : (⟨#[32, 98, 121, 32]⟩ : ByteArray).size ≤ 4))
  have b2 := fun w => run_string_add_sum (P := Tryd.prog) w ((⟨#[99, 111, 109, 109, 105, 116]⟩ : ByteArray) ++ (⟨#[32, 98, 121, 32]⟩ : ByteArray)) (I who) (add_ok (app_le (by decide : (⟨#[99, 111, 109, 109, 105, 116]⟩ : ByteArray).size ≤ 6) (by decide : (⟨#[32, 98, 121, 32]⟩ : ByteArray).size ≤ 4)) (I_size' HW.out))
  have b3 := fun w => run_string_add_sum (P := Tryd.prog) w ((⟨#[99, 111, 109, 109, 105, 116]⟩ : ByteArray) ++ (⟨#[32, 98, 121, 32]⟩ : ByteArray) ++ I who) ((⟨#[32]⟩ : ByteArray)) (add_ok (app_le (app_le (by decide : (⟨#[99, 111, 109, 109, 105, 116]⟩ : ByteArray).size ≤ 6) (by decide : (⟨#[32, 98, 121, 32]⟩ : ByteArray).size ≤ 4)) (I_size' HW.out)) (by decide : (⟨#[32]⟩ : ByteArray).size ≤ 1))
  have b4 := fun w => run_string_add_sum (P := Tryd.prog) w ((⟨#[99, 111, 109, 109, 105, 116]⟩ : ByteArray) ++ (⟨#[32, 98, 121, 32]⟩ : ByteArray) ++ I who ++ (⟨#[32]⟩ : ByteArray)) (side sd) (add_ok (app_le (app_le (app_le (by decide : (⟨#[99, 111, 109, 109, 105, 116]⟩ : ByteArray).size ≤ 6) (by decide : (⟨#[32, 98, 121, 32]⟩ : ByteArray).size ≤ 4)) (I_size' HW.out)) (by decide : (⟨#[32]⟩ : ByteArray).size ≤ 1)) (Nat.le_of_eq (side_size sd)))
  have b5 := fun w => run_string_add_sum (P := Tryd.prog) w ((⟨#[99, 111, 109, 109, 105, 116]⟩ : ByteArray) ++ (⟨#[32, 98, 121, 32]⟩ : ByteArray) ++ I who ++ (⟨#[32]⟩ : ByteArray) ++ side sd) ((⟨#[32]⟩ : ByteArray)) (add_ok (app_le (app_le (app_le (app_le (by decide : (⟨#[99, 111, 109, 109, 105, 116]⟩ : ByteArray).size ≤ 6) (by decide : (⟨#[32, 98, 121, 32]⟩ : ByteArray).size ≤ 4)) (I_size' HW.out)) (by decide : (⟨#[32]⟩ : ByteArray).size ≤ 1)) (Nat.le_of_eq (side_size sd))) (by decide : (⟨#[32]⟩ : ByteArray).size ≤ 1))
  have b6 := fun w => run_string_add_sum (P := Tryd.prog) w ((⟨#[99, 111, 109, 109, 105, 116]⟩ : ByteArray) ++ (⟨#[32, 98, 121, 32]⟩ : ByteArray) ++ I who ++ (⟨#[32]⟩ : ByteArray) ++ side sd ++ (⟨#[32]⟩ : ByteArray)) (I ac) (add_ok (app_le (app_le (app_le (app_le (app_le (by decide : (⟨#[99, 111, 109, 109, 105, 116]⟩ : ByteArray).size ≤ 6) (by decide : (⟨#[32, 98, 121, 32]⟩ : ByteArray).size ≤ 4)) (I_size' HW.out)) (by decide : (⟨#[32]⟩ : ByteArray).size ≤ 1)) (Nat.le_of_eq (side_size sd))) (by decide : (⟨#[32]⟩ : ByteArray).size ≤ 1)) (I_size' HA.out))
  have b7 := fun w => run_string_add_sum (P := Tryd.prog) w ((⟨#[99, 111, 109, 109, 105, 116]⟩ : ByteArray) ++ (⟨#[32, 98, 121, 32]⟩ : ByteArray) ++ I who ++ (⟨#[32]⟩ : ByteArray) ++ side sd ++ (⟨#[32]⟩ : ByteArray) ++ I ac) ((⟨#[32]⟩ : ByteArray)) (add_ok (app_le (app_le (app_le (app_le (app_le (app_le (by decide : (⟨#[99, 111, 109, 109, 105, 116]⟩ : ByteArray).size ≤ 6) (by decide : (⟨#[32, 98, 121, 32]⟩ : ByteArray).size ≤ 4)) (I_size' HW.out)) (by decide : (⟨#[32]⟩ : ByteArray).size ≤ 1)) (Nat.le_of_eq (side_size sd))) (by decide : (⟨#[32]⟩ : ByteArray).size ≤ 1)) (I_size' HA.out)) (by decide : (⟨#[32]⟩ : ByteArray).size ≤ 1))
  have b8 := fun w => run_string_add_sum (P := Tryd.prog) w ((⟨#[99, 111, 109, 109, 105, 116]⟩ : ByteArray) ++ (⟨#[32, 98, 121, 32]⟩ : ByteArray) ++ I who ++ (⟨#[32]⟩ : ByteArray) ++ side sd ++ (⟨#[32]⟩ : ByteArray) ++ I ac ++ (⟨#[32]⟩ : ByteArray)) (D n) (add_ok (app_le (app_le (app_le (app_le (app_le (app_le (app_le (by decide : (⟨#[99, 111, 109, 109, 105, 116]⟩ : ByteArray).size ≤ 6) (by decide : (⟨#[32, 98, 121, 32]⟩ : ByteArray).size ≤ 4)) (I_size' HW.out)) (by decide : (⟨#[32]⟩ : ByteArray).size ≤ 1)) (Nat.le_of_eq (side_size sd))) (by decide : (⟨#[32]⟩ : ByteArray).size ≤ 1)) (I_size' HA.out)) (by decide : (⟨#[32]⟩ : ByteArray).size ≤ 1)) (D_size HN.out))
  have b9 := fun w => run_string_add_sum (P := Tryd.prog) w ((⟨#[99, 111, 109, 109, 105, 116]⟩ : ByteArray) ++ (⟨#[32, 98, 121, 32]⟩ : ByteArray) ++ I who ++ (⟨#[32]⟩ : ByteArray) ++ side sd ++ (⟨#[32]⟩ : ByteArray) ++ I ac ++ (⟨#[32]⟩ : ByteArray) ++ D n) ((⟨#[32, 105, 110, 32]⟩ : ByteArray)) (add_ok (app_le (app_le (app_le (app_le (app_le (app_le (app_le (app_le (by decide : (⟨#[99, 111, 109, 109, 105, 116]⟩ : ByteArray).size ≤ 6) (by decide : (⟨#[32, 98, 121, 32]⟩ : ByteArray).size ≤ 4)) (I_size' HW.out)) (by decide : (⟨#[32]⟩ : ByteArray).size ≤ 1)) (Nat.le_of_eq (side_size sd))) (by decide : (⟨#[32]⟩ : ByteArray).size ≤ 1)) (I_size' HA.out)) (by decide : (⟨#[32]⟩ : ByteArray).size ≤ 1)) (D_size HN.out)) (by decide : (⟨#[32, 105, 110, 32]⟩ : ByteArray).size ≤ 4))
  have b10 := fun w => run_string_add_sum (P := Tryd.prog) w ((⟨#[99, 111, 109, 109, 105, 116]⟩ : ByteArray) ++ (⟨#[32, 98, 121, 32]⟩ : ByteArray) ++ I who ++ (⟨#[32]⟩ : ByteArray) ++ side sd ++ (⟨#[32]⟩ : ByteArray) ++ I ac ++ (⟨#[32]⟩ : ByteArray) ++ D n ++ (⟨#[32, 105, 110, 32]⟩ : ByteArray)) (D ep) (add_ok (app_le (app_le (app_le (app_le (app_le (app_le (app_le (app_le (app_le (by decide : (⟨#[99, 111, 109, 109, 105, 116]⟩ : ByteArray).size ≤ 6) (by decide : (⟨#[32, 98, 121, 32]⟩ : ByteArray).size ≤ 4)) (I_size' HW.out)) (by decide : (⟨#[32]⟩ : ByteArray).size ≤ 1)) (Nat.le_of_eq (side_size sd))) (by decide : (⟨#[32]⟩ : ByteArray).size ≤ 1)) (I_size' HA.out)) (by decide : (⟨#[32]⟩ : ByteArray).size ≤ 1)) (D_size HN.out)) (by decide : (⟨#[32, 105, 110, 32]⟩ : ByteArray).size ≤ 4)) (D_size HE.out))
  go_enter Tryd.func7, Tryd.ntmps7
  go_wp2_with fail
  refine (wholeI who HW.out.1 HW.out.2 _).mono ?_
  rintro e w1 ⟨rfl, hb⟩
  have hB := nextB (allocB (startB w (.cells #[.int .i64 7, .int .i64 who, .int .i64 c, .int .i64 f, .int .u64 s, .int .i64 sd, .int .i64 ac, .int .u64 ep, .int .u64 n] 26)) _) hb
  have f0 := cellV hB 0 (.int .i64 7) rfl
  have f5 := cellV hB 5 (.int .i64 sd) rfl
  have f6 := cellV hB 6 (.int .i64 ac) rfl
  go_wp2_with fail
  go_region_held3 (fun w' => w'.cell? ⟨w.heap.size, 5, none⟩ = some (.int .i64 sd) ∧ w'.cell? ⟨w.heap.size, 6, none⟩ = some (.int .i64 ac) ∧ Below (w.heap.size + 1) (w.alloc (.cells #[.int .i64 7, .int .i64 who, .int .i64 c, .int .i64 f, .int .u64 s, .int .i64 sd, .int .i64 ac, .int .u64 ep, .int .u64 n] 26)) w')
      (first | exact keep2 rfl rfl (drewB hB) | exact keep2 rfl rfl (nextB (by assumption : _ ∧ _ ∧ _).2.2 hb) | exact keep2 rfl rfl (allocB (by assumption : _ ∧ _ ∧ _).2.2 _))
      (first | (go_at_call 24; refine (letter_any _ _).mono ?_; rintro e w2 ⟨rfl, hb⟩) | (go_at_call 22; refine (wholeI ac HA.out.1 HA.out.2 _).mono ?_; rintro e w2 ⟨rfl, hb⟩))
  clear f0 f5 f6
  obtain ⟨f5, f6, hB2⟩ := (by assumption : _ ∧ _ ∧ _)
  have f0 := cellV hB2 0 (.int .i64 7) rfl
  have f7 := cellV hB2 7 (.int .u64 ep) rfl
  have f8 := cellV hB2 8 (.int .u64 n) rfl
  go_wp2_with fail
  refine (digitsD n HN.out _).mono ?_
  rintro e w3 ⟨rfl, hb3⟩
  have hB3 := nextB hB2 hb3
  clear f0 f5 f6 f7 f8
  have f0 := cellV hB3 0 (.int .i64 7) rfl
  have f7 := cellV hB3 7 (.int .u64 ep) rfl
  go_wp2_with fail
  refine (digitsD ep HE.out _).mono ?_
  rintro e w4 ⟨rfl, hb4⟩
  have hB4 := nextB hB3 hb4
  go_wp2_with fail
  go_ret
  exact ⟨ret_str (ba_ext (by simp [mid, head, sp, by_, kindW])), wholeB hB4⟩
set_option maxHeartbeats 4000000 in
theorem k8 (who c f : Int) (s : Nat) (sd ac : Int) (ep n : Nat)  (hw : r64 who) (hc : r64 c) (hs : n64 s) (ha : r64 ac) (he : n64 ep) (hn : n64 n) (w : World) :
    Calls Tryd.prog 7 #[.agg #[.int .i64 8, .int .i64 who, .int .i64 c, .int .i64 f, .int .u64 s, .int .i64 sd, .int .i64 ac, .int .u64 ep, .int .u64 n]] w fun e w' => e = .returned (.string (mid 8 who sd ac ++ sp ++ D n ++ sp ++ ⟨#[105, 110]⟩ ++ sp ++ D ep)) ∧ Below w.heap.size w w' := by
  have HW := Lib.hid hw
  have HC := Lib.hid hc
  have HS := Lib.hid hs
  have HA := Lib.hid ha
  have HE := Lib.hid he
  have HN := Lib.hid hn
  clear hw hc hs ha he hn
  have b1 := fun w => run_string_add_sum (P := Tryd.prog) w ((⟨#[114, 101, 116, 117, 114, 110]⟩ : ByteArray)) ((⟨#[32, 98, 121, 32]⟩ : ByteArray)) (add_ok (by decide : (⟨#[114, 101, 116, 117, 114, 110]⟩ : ByteArray).size ≤ 6) (by decide : (⟨#[32, 98, 121, 32]⟩ : ByteArray).size ≤ 4))
  have b2 := fun w => run_string_add_sum (P := Tryd.prog) w ((⟨#[114, 101, 116, 117, 114, 110]⟩ : ByteArray) ++ (⟨#[32, 98, 121, 32]⟩ : ByteArray)) (I who) (add_ok (app_le (by decide : (⟨#[114, 101, 116, 117, 114, 110]⟩ : ByteArray).size ≤ 6) (by decide : (⟨#[32, 98, 121, 32]⟩ : ByteArray).size ≤ 4)) (I_size' HW.out))
  have b3 := fun w => run_string_add_sum (P := Tryd.prog) w ((⟨#[114, 101, 116, 117, 114, 110]⟩ : ByteArray) ++ (⟨#[32, 98, 121, 32]⟩ : ByteArray) ++ I who) ((⟨#[32]⟩ : ByteArray)) (add_ok (app_le (app_le (by decide : (⟨#[114, 101, 116, 117, 114, 110]⟩ : ByteArray).size ≤ 6) (by decide : (⟨#[32, 98, 121, 32]⟩ : ByteArray).size ≤ 4)) (I_size' HW.out)) (by decide : (⟨#[32]⟩ : ByteArray).size ≤ 1))
  have b4 := fun w => run_string_add_sum (P := Tryd.prog) w ((⟨#[114, 101, 116, 117, 114, 110]⟩ : ByteArray) ++ (⟨#[32, 98, 121, 32]⟩ : ByteArray) ++ I who ++ (⟨#[32]⟩ : ByteArray)) (side sd) (add_ok (app_le (app_le (app_le (by decide : (⟨#[114, 101, 116, 117, 114, 110]⟩ : ByteArray).size ≤ 6) (by decide : (⟨#[32, 98, 121, 32]⟩ : ByteArray).size ≤ 4)) (I_size' HW.out)) (by decide : (⟨#[32]⟩ : ByteArray).size ≤ 1)) (Nat.le_of_eq (side_size sd)))
  have b5 := fun w => run_string_add_sum (P := Tryd.prog) w ((⟨#[114, 101, 116, 117, 114, 110]⟩ : ByteArray) ++ (⟨#[32, 98, 121, 32]⟩ : ByteArray) ++ I who ++ (⟨#[32]⟩ : ByteArray) ++ side sd) ((⟨#[32]⟩ : ByteArray)) (add_ok (app_le (app_le (app_le (app_le (by decide : (⟨#[114, 101, 116, 117, 114, 110]⟩ : ByteArray).size ≤ 6) (by decide : (⟨#[32, 98, 121, 32]⟩ : ByteArray).size ≤ 4)) (I_size' HW.out)) (by decide : (⟨#[32]⟩ : ByteArray).size ≤ 1)) (Nat.le_of_eq (side_size sd))) (by decide : (⟨#[32]⟩ : ByteArray).size ≤ 1))
  have b6 := fun w => run_string_add_sum (P := Tryd.prog) w ((⟨#[114, 101, 116, 117, 114, 110]⟩ : ByteArray) ++ (⟨#[32, 98, 121, 32]⟩ : ByteArray) ++ I who ++ (⟨#[32]⟩ : ByteArray) ++ side sd ++ (⟨#[32]⟩ : ByteArray)) (I ac) (add_ok (app_le (app_le (app_le (app_le (app_le (by decide : (⟨#[114, 101, 116, 117, 114, 110]⟩ : ByteArray).size ≤ 6) (by decide : (⟨#[32, 98, 121, 32]⟩ : ByteArray).size ≤ 4)) (I_size' HW.out)) (by decide : (⟨#[32]⟩ : ByteArray).size ≤ 1)) (Nat.le_of_eq (side_size sd))) (by decide : (⟨#[32]⟩ : ByteArray).size ≤ 1)) (I_size' HA.out))
  have b7 := fun w => run_string_add_sum (P := Tryd.prog) w ((⟨#[114, 101, 116, 117, 114, 110]⟩ : ByteArray) ++ (⟨#[32, 98, 121, 32]⟩ : ByteArray) ++ I who ++ (⟨#[32]⟩ : ByteArray) ++ side sd ++ (⟨#[32]⟩ : ByteArray) ++ I ac) ((⟨#[32]⟩ : ByteArray)) (add_ok (app_le (app_le (app_le (app_le (app_le (app_le (by decide : (⟨#[114, 101, 116, 117, 114, 110]⟩ : ByteArray).size ≤ 6) (by decide : (⟨#[32, 98, 121, 32]⟩ : ByteArray).size ≤ 4)) (I_size' HW.out)) (by decide : (⟨#[32]⟩ : ByteArray).size ≤ 1)) (Nat.le_of_eq (side_size sd))) (by decide : (⟨#[32]⟩ : ByteArray).size ≤ 1)) (I_size' HA.out)) (by decide : (⟨#[32]⟩ : ByteArray).size ≤ 1))
  have b8 := fun w => run_string_add_sum (P := Tryd.prog) w ((⟨#[114, 101, 116, 117, 114, 110]⟩ : ByteArray) ++ (⟨#[32, 98, 121, 32]⟩ : ByteArray) ++ I who ++ (⟨#[32]⟩ : ByteArray) ++ side sd ++ (⟨#[32]⟩ : ByteArray) ++ I ac ++ (⟨#[32]⟩ : ByteArray)) (D n) (add_ok (app_le (app_le (app_le (app_le (app_le (app_le (app_le (by decide : (⟨#[114, 101, 116, 117, 114, 110]⟩ : ByteArray).size ≤ 6) (by decide : (⟨#[32, 98, 121, 32]⟩ : ByteArray).size ≤ 4)) (I_size' HW.out)) (by decide : (⟨#[32]⟩ : ByteArray).size ≤ 1)) (Nat.le_of_eq (side_size sd))) (by decide : (⟨#[32]⟩ : ByteArray).size ≤ 1)) (I_size' HA.out)) (by decide : (⟨#[32]⟩ : ByteArray).size ≤ 1)) (D_size HN.out))
  have b9 := fun w => run_string_add_sum (P := Tryd.prog) w ((⟨#[114, 101, 116, 117, 114, 110]⟩ : ByteArray) ++ (⟨#[32, 98, 121, 32]⟩ : ByteArray) ++ I who ++ (⟨#[32]⟩ : ByteArray) ++ side sd ++ (⟨#[32]⟩ : ByteArray) ++ I ac ++ (⟨#[32]⟩ : ByteArray) ++ D n) ((⟨#[32, 105, 110, 32]⟩ : ByteArray)) (add_ok (app_le (app_le (app_le (app_le (app_le (app_le (app_le (app_le (by decide : (⟨#[114, 101, 116, 117, 114, 110]⟩ : ByteArray).size ≤ 6) (by decide : (⟨#[32, 98, 121, 32]⟩ : ByteArray).size ≤ 4)) (I_size' HW.out)) (by decide : (⟨#[32]⟩ : ByteArray).size ≤ 1)) (Nat.le_of_eq (side_size sd))) (by decide : (⟨#[32]⟩ : ByteArray).size ≤ 1)) (I_size' HA.out)) (by decide : (⟨#[32]⟩ : ByteArray).size ≤ 1)) (D_size HN.out)) (by decide : (⟨#[32, 105, 110, 32]⟩ : ByteArray).size ≤ 4))
  have b10 := fun w => run_string_add_sum (P := Tryd.prog) w ((⟨#[114, 101, 116, 117, 114, 110]⟩ : ByteArray) ++ (⟨#[32, 98, 121, 32]⟩ : ByteArray) ++ I who ++ (⟨#[32]⟩ : ByteArray) ++ side sd ++ (⟨#[32]⟩ : ByteArray) ++ I ac ++ (⟨#[32]⟩ : ByteArray) ++ D n ++ (⟨#[32, 105, 110, 32]⟩ : ByteArray)) (D ep) (add_ok (app_le (app_le (app_le (app_le (app_le (app_le (app_le (app_le (app_le (by decide : (⟨#[114, 101, 116, 117, 114, 110]⟩ : ByteArray).size ≤ 6) (by decide : (⟨#[32, 98, 121, 32]⟩ : ByteArray).size ≤ 4)) (I_size' HW.out)) (by decide : (⟨#[32]⟩ : ByteArray).size ≤ 1)) (Nat.le_of_eq (side_size sd))) (by decide : (⟨#[32]⟩ : ByteArray).size ≤ 1)) (I_size' HA.out)) (by decide : (⟨#[32]⟩ : ByteArray).size ≤ 1)) (D_size HN.out)) (by decide : (⟨#[32, 105, 110, 32]⟩ : ByteArray).size ≤ 4)) (D_size HE.out))
  go_enter Tryd.func7, Tryd.ntmps7
  go_wp2_with fail
  refine (wholeI who HW.out.1 HW.out.2 _).mono ?_
  rintro e w1 ⟨rfl, hb⟩
  have hB := nextB (allocB (startB w (.cells #[.int .i64 8, .int .i64 who, .int .i64 c, .int .i64 f, .int .u64 s, .int .i64 sd, .int .i64 ac, .int .u64 ep, .int .u64 n] 26)) _) hb
  have f0 := cellV hB 0 (.int .i64 8) rfl
  have f5 := cellV hB 5 (.int .i64 sd) rfl
  have f6 := cellV hB 6 (.int .i64 ac) rfl
  go_wp2_with fail
  go_region_held3 (fun w' => w'.cell? ⟨w.heap.size, 5, none⟩ = some (.int .i64 sd) ∧ w'.cell? ⟨w.heap.size, 6, none⟩ = some (.int .i64 ac) ∧ Below (w.heap.size + 1) (w.alloc (.cells #[.int .i64 8, .int .i64 who, .int .i64 c, .int .i64 f, .int .u64 s, .int .i64 sd, .int .i64 ac, .int .u64 ep, .int .u64 n] 26)) w')
      (first | exact keep2 rfl rfl (drewB hB) | exact keep2 rfl rfl (nextB (by assumption : _ ∧ _ ∧ _).2.2 hb) | exact keep2 rfl rfl (allocB (by assumption : _ ∧ _ ∧ _).2.2 _))
      (first | (go_at_call 24; refine (letter_any _ _).mono ?_; rintro e w2 ⟨rfl, hb⟩) | (go_at_call 22; refine (wholeI ac HA.out.1 HA.out.2 _).mono ?_; rintro e w2 ⟨rfl, hb⟩))
  clear f0 f5 f6
  obtain ⟨f5, f6, hB2⟩ := (by assumption : _ ∧ _ ∧ _)
  have f0 := cellV hB2 0 (.int .i64 8) rfl
  have f7 := cellV hB2 7 (.int .u64 ep) rfl
  have f8 := cellV hB2 8 (.int .u64 n) rfl
  go_wp2_with fail
  refine (digitsD n HN.out _).mono ?_
  rintro e w3 ⟨rfl, hb3⟩
  have hB3 := nextB hB2 hb3
  clear f0 f5 f6 f7 f8
  have f0 := cellV hB3 0 (.int .i64 8) rfl
  have f7 := cellV hB3 7 (.int .u64 ep) rfl
  go_wp2_with fail
  refine (digitsD ep HE.out _).mono ?_
  rintro e w4 ⟨rfl, hb4⟩
  have hB4 := nextB hB3 hb4
  go_wp2_with fail
  go_ret
  exact ⟨ret_str (ba_ext (by simp [mid, head, sp, by_, kindW])), wholeB hB4⟩
set_option maxHeartbeats 4000000 in
theorem k6 (who c f : Int) (s : Nat) (sd ac : Int) (ep n : Nat)  (hw : r64 who) (hc : r64 c) (hs : n64 s) (ha : r64 ac) (he : n64 ep) (hn : n64 n) (w : World) :
    Calls Tryd.prog 7 #[.agg #[.int .i64 6, .int .i64 who, .int .i64 c, .int .i64 f, .int .u64 s, .int .i64 sd, .int .i64 ac, .int .u64 ep, .int .u64 n]] w fun e w' => e = .returned (.string (mid 6 who sd ac ++ sp ++ D n)) ∧ Below w.heap.size w w' := by
  have HW := Lib.hid hw
  have HC := Lib.hid hc
  have HS := Lib.hid hs
  have HA := Lib.hid ha
  have HE := Lib.hid he
  have HN := Lib.hid hn
  clear hw hc hs ha he hn
  have b1 := fun w => run_string_add_sum (P := Tryd.prog) w ((⟨#[114, 101, 115, 101, 114, 118, 101]⟩ : ByteArray)) ((⟨#[32, 98, 121, 32]⟩ : ByteArray)) (add_ok (by decide : (⟨#[114, 101, 115, 101, 114, 118, 101]⟩ : ByteArray).size ≤ 7) (by decide : (⟨#[32, 98, 121, 32]⟩ : ByteArray).size ≤ 4))
  have b2 := fun w => run_string_add_sum (P := Tryd.prog) w ((⟨#[114, 101, 115, 101, 114, 118, 101]⟩ : ByteArray) ++ (⟨#[32, 98, 121, 32]⟩ : ByteArray)) (I who) (add_ok (app_le (by decide : (⟨#[114, 101, 115, 101, 114, 118, 101]⟩ : ByteArray).size ≤ 7) (by decide : (⟨#[32, 98, 121, 32]⟩ : ByteArray).size ≤ 4)) (I_size' HW.out))
  have b3 := fun w => run_string_add_sum (P := Tryd.prog) w ((⟨#[114, 101, 115, 101, 114, 118, 101]⟩ : ByteArray) ++ (⟨#[32, 98, 121, 32]⟩ : ByteArray) ++ I who) ((⟨#[32]⟩ : ByteArray)) (add_ok (app_le (app_le (by decide : (⟨#[114, 101, 115, 101, 114, 118, 101]⟩ : ByteArray).size ≤ 7) (by decide : (⟨#[32, 98, 121, 32]⟩ : ByteArray).size ≤ 4)) (I_size' HW.out)) (by decide : (⟨#[32]⟩ : ByteArray).size ≤ 1))
  have b4 := fun w => run_string_add_sum (P := Tryd.prog) w ((⟨#[114, 101, 115, 101, 114, 118, 101]⟩ : ByteArray) ++ (⟨#[32, 98, 121, 32]⟩ : ByteArray) ++ I who ++ (⟨#[32]⟩ : ByteArray)) (side sd) (add_ok (app_le (app_le (app_le (by decide : (⟨#[114, 101, 115, 101, 114, 118, 101]⟩ : ByteArray).size ≤ 7) (by decide : (⟨#[32, 98, 121, 32]⟩ : ByteArray).size ≤ 4)) (I_size' HW.out)) (by decide : (⟨#[32]⟩ : ByteArray).size ≤ 1)) (Nat.le_of_eq (side_size sd)))
  have b5 := fun w => run_string_add_sum (P := Tryd.prog) w ((⟨#[114, 101, 115, 101, 114, 118, 101]⟩ : ByteArray) ++ (⟨#[32, 98, 121, 32]⟩ : ByteArray) ++ I who ++ (⟨#[32]⟩ : ByteArray) ++ side sd) ((⟨#[32]⟩ : ByteArray)) (add_ok (app_le (app_le (app_le (app_le (by decide : (⟨#[114, 101, 115, 101, 114, 118, 101]⟩ : ByteArray).size ≤ 7) (by decide : (⟨#[32, 98, 121, 32]⟩ : ByteArray).size ≤ 4)) (I_size' HW.out)) (by decide : (⟨#[32]⟩ : ByteArray).size ≤ 1)) (Nat.le_of_eq (side_size sd))) (by decide : (⟨#[32]⟩ : ByteArray).size ≤ 1))
  have b6 := fun w => run_string_add_sum (P := Tryd.prog) w ((⟨#[114, 101, 115, 101, 114, 118, 101]⟩ : ByteArray) ++ (⟨#[32, 98, 121, 32]⟩ : ByteArray) ++ I who ++ (⟨#[32]⟩ : ByteArray) ++ side sd ++ (⟨#[32]⟩ : ByteArray)) (I ac) (add_ok (app_le (app_le (app_le (app_le (app_le (by decide : (⟨#[114, 101, 115, 101, 114, 118, 101]⟩ : ByteArray).size ≤ 7) (by decide : (⟨#[32, 98, 121, 32]⟩ : ByteArray).size ≤ 4)) (I_size' HW.out)) (by decide : (⟨#[32]⟩ : ByteArray).size ≤ 1)) (Nat.le_of_eq (side_size sd))) (by decide : (⟨#[32]⟩ : ByteArray).size ≤ 1)) (I_size' HA.out))
  have b7 := fun w => run_string_add_sum (P := Tryd.prog) w ((⟨#[114, 101, 115, 101, 114, 118, 101]⟩ : ByteArray) ++ (⟨#[32, 98, 121, 32]⟩ : ByteArray) ++ I who ++ (⟨#[32]⟩ : ByteArray) ++ side sd ++ (⟨#[32]⟩ : ByteArray) ++ I ac) ((⟨#[32]⟩ : ByteArray)) (add_ok (app_le (app_le (app_le (app_le (app_le (app_le (by decide : (⟨#[114, 101, 115, 101, 114, 118, 101]⟩ : ByteArray).size ≤ 7) (by decide : (⟨#[32, 98, 121, 32]⟩ : ByteArray).size ≤ 4)) (I_size' HW.out)) (by decide : (⟨#[32]⟩ : ByteArray).size ≤ 1)) (Nat.le_of_eq (side_size sd))) (by decide : (⟨#[32]⟩ : ByteArray).size ≤ 1)) (I_size' HA.out)) (by decide : (⟨#[32]⟩ : ByteArray).size ≤ 1))
  have b8 := fun w => run_string_add_sum (P := Tryd.prog) w ((⟨#[114, 101, 115, 101, 114, 118, 101]⟩ : ByteArray) ++ (⟨#[32, 98, 121, 32]⟩ : ByteArray) ++ I who ++ (⟨#[32]⟩ : ByteArray) ++ side sd ++ (⟨#[32]⟩ : ByteArray) ++ I ac ++ (⟨#[32]⟩ : ByteArray)) (D n) (add_ok (app_le (app_le (app_le (app_le (app_le (app_le (app_le (by decide : (⟨#[114, 101, 115, 101, 114, 118, 101]⟩ : ByteArray).size ≤ 7) (by decide : (⟨#[32, 98, 121, 32]⟩ : ByteArray).size ≤ 4)) (I_size' HW.out)) (by decide : (⟨#[32]⟩ : ByteArray).size ≤ 1)) (Nat.le_of_eq (side_size sd))) (by decide : (⟨#[32]⟩ : ByteArray).size ≤ 1)) (I_size' HA.out)) (by decide : (⟨#[32]⟩ : ByteArray).size ≤ 1)) (D_size HN.out))
  go_enter Tryd.func7, Tryd.ntmps7
  go_wp2_with fail
  refine (wholeI who HW.out.1 HW.out.2 _).mono ?_
  rintro e w1 ⟨rfl, hb⟩
  have hB := nextB (allocB (startB w (.cells #[.int .i64 6, .int .i64 who, .int .i64 c, .int .i64 f, .int .u64 s, .int .i64 sd, .int .i64 ac, .int .u64 ep, .int .u64 n] 26)) _) hb
  have f0 := cellV hB 0 (.int .i64 6) rfl
  have f5 := cellV hB 5 (.int .i64 sd) rfl
  have f6 := cellV hB 6 (.int .i64 ac) rfl
  go_wp2_with fail
  go_region_held3 (fun w' => w'.cell? ⟨w.heap.size, 5, none⟩ = some (.int .i64 sd) ∧ w'.cell? ⟨w.heap.size, 6, none⟩ = some (.int .i64 ac) ∧ Below (w.heap.size + 1) (w.alloc (.cells #[.int .i64 6, .int .i64 who, .int .i64 c, .int .i64 f, .int .u64 s, .int .i64 sd, .int .i64 ac, .int .u64 ep, .int .u64 n] 26)) w')
      (first | exact keep2 rfl rfl (drewB hB) | exact keep2 rfl rfl (nextB (by assumption : _ ∧ _ ∧ _).2.2 hb) | exact keep2 rfl rfl (allocB (by assumption : _ ∧ _ ∧ _).2.2 _))
      (first | (go_at_call 24; refine (letter_any _ _).mono ?_; rintro e w2 ⟨rfl, hb⟩) | (go_at_call 22; refine (wholeI ac HA.out.1 HA.out.2 _).mono ?_; rintro e w2 ⟨rfl, hb⟩))
  clear f0 f5 f6
  obtain ⟨f5, f6, hB2⟩ := (by assumption : _ ∧ _ ∧ _)
  have f0 := cellV hB2 0 (.int .i64 6) rfl
  have f7 := cellV hB2 7 (.int .u64 ep) rfl
  have f8 := cellV hB2 8 (.int .u64 n) rfl
  go_wp2_with fail
  refine (digitsD n HN.out _).mono ?_
  rintro e w3 ⟨rfl, hb3⟩
  have hB3 := nextB hB2 hb3
  clear f0 f5 f6 f7 f8
  have f0 := cellV hB3 0 (.int .i64 6) rfl
  have f7 := cellV hB3 7 (.int .u64 ep) rfl
  go_wp2_with fail
  go_ret
  exact ⟨ret_str (ba_ext (by simp [mid, head, sp, by_, kindW])), wholeB hB3⟩
set_option maxHeartbeats 4000000 in
theorem k9 (who c f : Int) (s : Nat) (sd ac : Int) (ep n : Nat)  (hw : r64 who) (hc : r64 c) (hs : n64 s) (ha : r64 ac) (he : n64 ep) (hn : n64 n) (w : World) :
    Calls Tryd.prog 7 #[.agg #[.int .i64 9, .int .i64 who, .int .i64 c, .int .i64 f, .int .u64 s, .int .i64 sd, .int .i64 ac, .int .u64 ep, .int .u64 n]] w fun e w' => e = .returned (.string (mid 9 who sd ac ++ sp ++ D n)) ∧ Below w.heap.size w w' := by
  have HW := Lib.hid hw
  have HC := Lib.hid hc
  have HS := Lib.hid hs
  have HA := Lib.hid ha
  have HE := Lib.hid he
  have HN := Lib.hid hn
  clear hw hc hs ha he hn
  have b1 := fun w => run_string_add_sum (P := Tryd.prog) w ((⟨#[114, 101, 115, 121, 110, 99]⟩ : ByteArray)) ((⟨#[32, 98, 121, 32]⟩ : ByteArray)) (add_ok (by decide : (⟨#[114, 101, 115, 121, 110, 99]⟩ : ByteArray).size ≤ 6) (by decide : (⟨#[32, 98, 121, 32]⟩ : ByteArray).size ≤ 4))
  have b2 := fun w => run_string_add_sum (P := Tryd.prog) w ((⟨#[114, 101, 115, 121, 110, 99]⟩ : ByteArray) ++ (⟨#[32, 98, 121, 32]⟩ : ByteArray)) (I who) (add_ok (app_le (by decide : (⟨#[114, 101, 115, 121, 110, 99]⟩ : ByteArray).size ≤ 6) (by decide : (⟨#[32, 98, 121, 32]⟩ : ByteArray).size ≤ 4)) (I_size' HW.out))
  have b3 := fun w => run_string_add_sum (P := Tryd.prog) w ((⟨#[114, 101, 115, 121, 110, 99]⟩ : ByteArray) ++ (⟨#[32, 98, 121, 32]⟩ : ByteArray) ++ I who) ((⟨#[32]⟩ : ByteArray)) (add_ok (app_le (app_le (by decide : (⟨#[114, 101, 115, 121, 110, 99]⟩ : ByteArray).size ≤ 6) (by decide : (⟨#[32, 98, 121, 32]⟩ : ByteArray).size ≤ 4)) (I_size' HW.out)) (by decide : (⟨#[32]⟩ : ByteArray).size ≤ 1))
  have b4 := fun w => run_string_add_sum (P := Tryd.prog) w ((⟨#[114, 101, 115, 121, 110, 99]⟩ : ByteArray) ++ (⟨#[32, 98, 121, 32]⟩ : ByteArray) ++ I who ++ (⟨#[32]⟩ : ByteArray)) (side sd) (add_ok (app_le (app_le (app_le (by decide : (⟨#[114, 101, 115, 121, 110, 99]⟩ : ByteArray).size ≤ 6) (by decide : (⟨#[32, 98, 121, 32]⟩ : ByteArray).size ≤ 4)) (I_size' HW.out)) (by decide : (⟨#[32]⟩ : ByteArray).size ≤ 1)) (Nat.le_of_eq (side_size sd)))
  have b5 := fun w => run_string_add_sum (P := Tryd.prog) w ((⟨#[114, 101, 115, 121, 110, 99]⟩ : ByteArray) ++ (⟨#[32, 98, 121, 32]⟩ : ByteArray) ++ I who ++ (⟨#[32]⟩ : ByteArray) ++ side sd) ((⟨#[32]⟩ : ByteArray)) (add_ok (app_le (app_le (app_le (app_le (by decide : (⟨#[114, 101, 115, 121, 110, 99]⟩ : ByteArray).size ≤ 6) (by decide : (⟨#[32, 98, 121, 32]⟩ : ByteArray).size ≤ 4)) (I_size' HW.out)) (by decide : (⟨#[32]⟩ : ByteArray).size ≤ 1)) (Nat.le_of_eq (side_size sd))) (by decide : (⟨#[32]⟩ : ByteArray).size ≤ 1))
  have b6 := fun w => run_string_add_sum (P := Tryd.prog) w ((⟨#[114, 101, 115, 121, 110, 99]⟩ : ByteArray) ++ (⟨#[32, 98, 121, 32]⟩ : ByteArray) ++ I who ++ (⟨#[32]⟩ : ByteArray) ++ side sd ++ (⟨#[32]⟩ : ByteArray)) (I ac) (add_ok (app_le (app_le (app_le (app_le (app_le (by decide : (⟨#[114, 101, 115, 121, 110, 99]⟩ : ByteArray).size ≤ 6) (by decide : (⟨#[32, 98, 121, 32]⟩ : ByteArray).size ≤ 4)) (I_size' HW.out)) (by decide : (⟨#[32]⟩ : ByteArray).size ≤ 1)) (Nat.le_of_eq (side_size sd))) (by decide : (⟨#[32]⟩ : ByteArray).size ≤ 1)) (I_size' HA.out))
  have b7 := fun w => run_string_add_sum (P := Tryd.prog) w ((⟨#[114, 101, 115, 121, 110, 99]⟩ : ByteArray) ++ (⟨#[32, 98, 121, 32]⟩ : ByteArray) ++ I who ++ (⟨#[32]⟩ : ByteArray) ++ side sd ++ (⟨#[32]⟩ : ByteArray) ++ I ac) ((⟨#[32]⟩ : ByteArray)) (add_ok (app_le (app_le (app_le (app_le (app_le (app_le (by decide : (⟨#[114, 101, 115, 121, 110, 99]⟩ : ByteArray).size ≤ 6) (by decide : (⟨#[32, 98, 121, 32]⟩ : ByteArray).size ≤ 4)) (I_size' HW.out)) (by decide : (⟨#[32]⟩ : ByteArray).size ≤ 1)) (Nat.le_of_eq (side_size sd))) (by decide : (⟨#[32]⟩ : ByteArray).size ≤ 1)) (I_size' HA.out)) (by decide : (⟨#[32]⟩ : ByteArray).size ≤ 1))
  have b8 := fun w => run_string_add_sum (P := Tryd.prog) w ((⟨#[114, 101, 115, 121, 110, 99]⟩ : ByteArray) ++ (⟨#[32, 98, 121, 32]⟩ : ByteArray) ++ I who ++ (⟨#[32]⟩ : ByteArray) ++ side sd ++ (⟨#[32]⟩ : ByteArray) ++ I ac ++ (⟨#[32]⟩ : ByteArray)) (D n) (add_ok (app_le (app_le (app_le (app_le (app_le (app_le (app_le (by decide : (⟨#[114, 101, 115, 121, 110, 99]⟩ : ByteArray).size ≤ 6) (by decide : (⟨#[32, 98, 121, 32]⟩ : ByteArray).size ≤ 4)) (I_size' HW.out)) (by decide : (⟨#[32]⟩ : ByteArray).size ≤ 1)) (Nat.le_of_eq (side_size sd))) (by decide : (⟨#[32]⟩ : ByteArray).size ≤ 1)) (I_size' HA.out)) (by decide : (⟨#[32]⟩ : ByteArray).size ≤ 1)) (D_size HN.out))
  go_enter Tryd.func7, Tryd.ntmps7
  go_wp2_with fail
  refine (wholeI who HW.out.1 HW.out.2 _).mono ?_
  rintro e w1 ⟨rfl, hb⟩
  have hB := nextB (allocB (startB w (.cells #[.int .i64 9, .int .i64 who, .int .i64 c, .int .i64 f, .int .u64 s, .int .i64 sd, .int .i64 ac, .int .u64 ep, .int .u64 n] 26)) _) hb
  have f0 := cellV hB 0 (.int .i64 9) rfl
  have f5 := cellV hB 5 (.int .i64 sd) rfl
  have f6 := cellV hB 6 (.int .i64 ac) rfl
  go_wp2_with fail
  go_region_held3 (fun w' => w'.cell? ⟨w.heap.size, 5, none⟩ = some (.int .i64 sd) ∧ w'.cell? ⟨w.heap.size, 6, none⟩ = some (.int .i64 ac) ∧ Below (w.heap.size + 1) (w.alloc (.cells #[.int .i64 9, .int .i64 who, .int .i64 c, .int .i64 f, .int .u64 s, .int .i64 sd, .int .i64 ac, .int .u64 ep, .int .u64 n] 26)) w')
      (first | exact keep2 rfl rfl (drewB hB) | exact keep2 rfl rfl (nextB (by assumption : _ ∧ _ ∧ _).2.2 hb) | exact keep2 rfl rfl (allocB (by assumption : _ ∧ _ ∧ _).2.2 _))
      (first | (go_at_call 24; refine (letter_any _ _).mono ?_; rintro e w2 ⟨rfl, hb⟩) | (go_at_call 22; refine (wholeI ac HA.out.1 HA.out.2 _).mono ?_; rintro e w2 ⟨rfl, hb⟩))
  clear f0 f5 f6
  obtain ⟨f5, f6, hB2⟩ := (by assumption : _ ∧ _ ∧ _)
  have f0 := cellV hB2 0 (.int .i64 9) rfl
  have f7 := cellV hB2 7 (.int .u64 ep) rfl
  have f8 := cellV hB2 8 (.int .u64 n) rfl
  go_wp2_with fail
  refine (digitsD n HN.out _).mono ?_
  rintro e w3 ⟨rfl, hb3⟩
  have hB3 := nextB hB2 hb3
  clear f0 f5 f6 f7 f8
  have f0 := cellV hB3 0 (.int .i64 9) rfl
  have f7 := cellV hB3 7 (.int .u64 ep) rfl
  go_wp2_with fail
  go_ret
  exact ⟨ret_str (ba_ext (by simp [mid, head, sp, by_, kindW])), wholeB hB3⟩
set_option maxHeartbeats 4000000 in
theorem lo (k who c f : Int) (s : Nat) (sd ac : Int) (ep n : Nat) (hk : k < 1) (hw : r64 who) (hc : r64 c) (hs : n64 s) (ha : r64 ac) (he : n64 ep) (hn : n64 n) (w : World) :
    Calls Tryd.prog 7 #[.agg #[.int .i64 k, .int .i64 who, .int .i64 c, .int .i64 f, .int .u64 s, .int .i64 sd, .int .i64 ac, .int .u64 ep, .int .u64 n]] w fun e w' => e = .returned (.string (mid k who sd ac ++ sp ++ D n)) ∧ Below w.heap.size w w' := by
  have HW := Lib.hid hw
  have HC := Lib.hid hc
  have HS := Lib.hid hs
  have HA := Lib.hid ha
  have HE := Lib.hid he
  have HN := Lib.hid hn
  clear hw hc hs ha he hn
  have hkw : kindW k = ⟨#[110, 111, 110, 101]⟩ := kindW_lo k hk
  have HKW := Lib.hid hkw
  clear hkw
  have b1 := fun w => run_string_add_sum (P := Tryd.prog) w ((⟨#[110, 111, 110, 101]⟩ : ByteArray)) ((⟨#[32, 98, 121, 32]⟩ : ByteArray)) (add_ok (by decide : (⟨#[110, 111, 110, 101]⟩ : ByteArray).size ≤ 4) (by decide : (⟨#[32, 98, 121, 32]⟩ : ByteArray).size ≤ 4))
  have b2 := fun w => run_string_add_sum (P := Tryd.prog) w ((⟨#[110, 111, 110, 101]⟩ : ByteArray) ++ (⟨#[32, 98, 121, 32]⟩ : ByteArray)) (I who) (add_ok (app_le (by decide : (⟨#[110, 111, 110, 101]⟩ : ByteArray).size ≤ 4) (by decide : (⟨#[32, 98, 121, 32]⟩ : ByteArray).size ≤ 4)) (I_size' HW.out))
  have b3 := fun w => run_string_add_sum (P := Tryd.prog) w ((⟨#[110, 111, 110, 101]⟩ : ByteArray) ++ (⟨#[32, 98, 121, 32]⟩ : ByteArray) ++ I who) ((⟨#[32]⟩ : ByteArray)) (add_ok (app_le (app_le (by decide : (⟨#[110, 111, 110, 101]⟩ : ByteArray).size ≤ 4) (by decide : (⟨#[32, 98, 121, 32]⟩ : ByteArray).size ≤ 4)) (I_size' HW.out)) (by decide : (⟨#[32]⟩ : ByteArray).size ≤ 1))
  have b4 := fun w => run_string_add_sum (P := Tryd.prog) w ((⟨#[110, 111, 110, 101]⟩ : ByteArray) ++ (⟨#[32, 98, 121, 32]⟩ : ByteArray) ++ I who ++ (⟨#[32]⟩ : ByteArray)) (side sd) (add_ok (app_le (app_le (app_le (by decide : (⟨#[110, 111, 110, 101]⟩ : ByteArray).size ≤ 4) (by decide : (⟨#[32, 98, 121, 32]⟩ : ByteArray).size ≤ 4)) (I_size' HW.out)) (by decide : (⟨#[32]⟩ : ByteArray).size ≤ 1)) (Nat.le_of_eq (side_size sd)))
  have b5 := fun w => run_string_add_sum (P := Tryd.prog) w ((⟨#[110, 111, 110, 101]⟩ : ByteArray) ++ (⟨#[32, 98, 121, 32]⟩ : ByteArray) ++ I who ++ (⟨#[32]⟩ : ByteArray) ++ side sd) ((⟨#[32]⟩ : ByteArray)) (add_ok (app_le (app_le (app_le (app_le (by decide : (⟨#[110, 111, 110, 101]⟩ : ByteArray).size ≤ 4) (by decide : (⟨#[32, 98, 121, 32]⟩ : ByteArray).size ≤ 4)) (I_size' HW.out)) (by decide : (⟨#[32]⟩ : ByteArray).size ≤ 1)) (Nat.le_of_eq (side_size sd))) (by decide : (⟨#[32]⟩ : ByteArray).size ≤ 1))
  have b6 := fun w => run_string_add_sum (P := Tryd.prog) w ((⟨#[110, 111, 110, 101]⟩ : ByteArray) ++ (⟨#[32, 98, 121, 32]⟩ : ByteArray) ++ I who ++ (⟨#[32]⟩ : ByteArray) ++ side sd ++ (⟨#[32]⟩ : ByteArray)) (I ac) (add_ok (app_le (app_le (app_le (app_le (app_le (by decide : (⟨#[110, 111, 110, 101]⟩ : ByteArray).size ≤ 4) (by decide : (⟨#[32, 98, 121, 32]⟩ : ByteArray).size ≤ 4)) (I_size' HW.out)) (by decide : (⟨#[32]⟩ : ByteArray).size ≤ 1)) (Nat.le_of_eq (side_size sd))) (by decide : (⟨#[32]⟩ : ByteArray).size ≤ 1)) (I_size' HA.out))
  have b7 := fun w => run_string_add_sum (P := Tryd.prog) w ((⟨#[110, 111, 110, 101]⟩ : ByteArray) ++ (⟨#[32, 98, 121, 32]⟩ : ByteArray) ++ I who ++ (⟨#[32]⟩ : ByteArray) ++ side sd ++ (⟨#[32]⟩ : ByteArray) ++ I ac) ((⟨#[32]⟩ : ByteArray)) (add_ok (app_le (app_le (app_le (app_le (app_le (app_le (by decide : (⟨#[110, 111, 110, 101]⟩ : ByteArray).size ≤ 4) (by decide : (⟨#[32, 98, 121, 32]⟩ : ByteArray).size ≤ 4)) (I_size' HW.out)) (by decide : (⟨#[32]⟩ : ByteArray).size ≤ 1)) (Nat.le_of_eq (side_size sd))) (by decide : (⟨#[32]⟩ : ByteArray).size ≤ 1)) (I_size' HA.out)) (by decide : (⟨#[32]⟩ : ByteArray).size ≤ 1))
  have b8 := fun w => run_string_add_sum (P := Tryd.prog) w ((⟨#[110, 111, 110, 101]⟩ : ByteArray) ++ (⟨#[32, 98, 121, 32]⟩ : ByteArray) ++ I who ++ (⟨#[32]⟩ : ByteArray) ++ side sd ++ (⟨#[32]⟩ : ByteArray) ++ I ac ++ (⟨#[32]⟩ : ByteArray)) (D n) (add_ok (app_le (app_le (app_le (app_le (app_le (app_le (app_le (by decide : (⟨#[110, 111, 110, 101]⟩ : ByteArray).size ≤ 4) (by decide : (⟨#[32, 98, 121, 32]⟩ : ByteArray).size ≤ 4)) (I_size' HW.out)) (by decide : (⟨#[32]⟩ : ByteArray).size ≤ 1)) (Nat.le_of_eq (side_size sd))) (by decide : (⟨#[32]⟩ : ByteArray).size ≤ 1)) (I_size' HA.out)) (by decide : (⟨#[32]⟩ : ByteArray).size ≤ 1)) (D_size HN.out))
  have h0 : ¬ 0 < k := by omega
  have h1 : ¬ 1 ≤ k := by omega
  have h2 : (k == 10) = false := by simp; omega
  have h2' : (k != 10) = true := by simp; omega
  have h3 : (k == 7) = false := by simp; omega
  have h4 : (k == 8) = false := by simp; omega
  go_enter Tryd.func7, Tryd.ntmps7
  go_wp2_with fail
  refine (wholeI who HW.out.1 HW.out.2 _).mono ?_
  rintro e w1 ⟨rfl, hb⟩
  have hB := nextB (allocB (startB w (.cells #[.int .i64 k, .int .i64 who, .int .i64 c, .int .i64 f, .int .u64 s, .int .i64 sd, .int .i64 ac, .int .u64 ep, .int .u64 n] 26)) _) hb
  have f0 := cellV hB 0 (.int .i64 k) rfl
  have f5 := cellV hB 5 (.int .i64 sd) rfl
  have f6 := cellV hB 6 (.int .i64 ac) rfl
  go_wp2_with fail
  go_region_held3 (fun w' => w'.cell? ⟨w.heap.size, 5, none⟩ = some (.int .i64 sd) ∧ w'.cell? ⟨w.heap.size, 6, none⟩ = some (.int .i64 ac) ∧ Below (w.heap.size + 1) (w.alloc (.cells #[.int .i64 k, .int .i64 who, .int .i64 c, .int .i64 f, .int .u64 s, .int .i64 sd, .int .i64 ac, .int .u64 ep, .int .u64 n] 26)) w')
      (first | exact keep2 rfl rfl (drewB hB) | exact keep2 rfl rfl (nextB (by assumption : _ ∧ _ ∧ _).2.2 hb) | exact keep2 rfl rfl (allocB (by assumption : _ ∧ _ ∧ _).2.2 _))
      (first | (go_at_call 24; refine (letter_any _ _).mono ?_; rintro e w2 ⟨rfl, hb⟩) | (go_at_call 22; refine (wholeI ac HA.out.1 HA.out.2 _).mono ?_; rintro e w2 ⟨rfl, hb⟩))
  clear f0 f5 f6
  obtain ⟨f5, f6, hB2⟩ := (by assumption : _ ∧ _ ∧ _)
  have f0 := cellV hB2 0 (.int .i64 k) rfl
  have f7 := cellV hB2 7 (.int .u64 ep) rfl
  have f8 := cellV hB2 8 (.int .u64 n) rfl
  go_wp2_with fail
  refine (digitsD n HN.out _).mono ?_
  rintro e w3 ⟨rfl, hb3⟩
  have hB3 := nextB hB2 hb3
  clear f0 f5 f6 f7 f8
  have f0 := cellV hB3 0 (.int .i64 k) rfl
  have f7 := cellV hB3 7 (.int .u64 ep) rfl
  go_wp2_with fail
  go_ret
  exact ⟨ret_str (ba_ext (by simp [mid, head, sp, by_, HKW.out])), wholeB hB3⟩
set_option maxHeartbeats 4000000 in
theorem hi (k who c f : Int) (s : Nat) (sd ac : Int) (ep n : Nat) (hk : 10 < k) (hw : r64 who) (hc : r64 c) (hs : n64 s) (ha : r64 ac) (he : n64 ep) (hn : n64 n) (w : World) :
    Calls Tryd.prog 7 #[.agg #[.int .i64 k, .int .i64 who, .int .i64 c, .int .i64 f, .int .u64 s, .int .i64 sd, .int .i64 ac, .int .u64 ep, .int .u64 n]] w fun e w' => e = .returned (.string (mid k who sd ac ++ sp ++ D n)) ∧ Below w.heap.size w w' := by
  have HW := Lib.hid hw
  have HC := Lib.hid hc
  have HS := Lib.hid hs
  have HA := Lib.hid ha
  have HE := Lib.hid he
  have HN := Lib.hid hn
  clear hw hc hs ha he hn
  have hkw : kindW k = ⟨#[110, 111, 110, 101]⟩ := kindW_out k (.inr hk)
  have HKW := Lib.hid hkw
  clear hkw
  have b1 := fun w => run_string_add_sum (P := Tryd.prog) w ((⟨#[110, 111, 110, 101]⟩ : ByteArray)) ((⟨#[32, 98, 121, 32]⟩ : ByteArray)) (add_ok (by decide : (⟨#[110, 111, 110, 101]⟩ : ByteArray).size ≤ 4) (by decide : (⟨#[32, 98, 121, 32]⟩ : ByteArray).size ≤ 4))
  have b2 := fun w => run_string_add_sum (P := Tryd.prog) w ((⟨#[110, 111, 110, 101]⟩ : ByteArray) ++ (⟨#[32, 98, 121, 32]⟩ : ByteArray)) (I who) (add_ok (app_le (by decide : (⟨#[110, 111, 110, 101]⟩ : ByteArray).size ≤ 4) (by decide : (⟨#[32, 98, 121, 32]⟩ : ByteArray).size ≤ 4)) (I_size' HW.out))
  have b3 := fun w => run_string_add_sum (P := Tryd.prog) w ((⟨#[110, 111, 110, 101]⟩ : ByteArray) ++ (⟨#[32, 98, 121, 32]⟩ : ByteArray) ++ I who) ((⟨#[32]⟩ : ByteArray)) (add_ok (app_le (app_le (by decide : (⟨#[110, 111, 110, 101]⟩ : ByteArray).size ≤ 4) (by decide : (⟨#[32, 98, 121, 32]⟩ : ByteArray).size ≤ 4)) (I_size' HW.out)) (by decide : (⟨#[32]⟩ : ByteArray).size ≤ 1))
  have b4 := fun w => run_string_add_sum (P := Tryd.prog) w ((⟨#[110, 111, 110, 101]⟩ : ByteArray) ++ (⟨#[32, 98, 121, 32]⟩ : ByteArray) ++ I who ++ (⟨#[32]⟩ : ByteArray)) (side sd) (add_ok (app_le (app_le (app_le (by decide : (⟨#[110, 111, 110, 101]⟩ : ByteArray).size ≤ 4) (by decide : (⟨#[32, 98, 121, 32]⟩ : ByteArray).size ≤ 4)) (I_size' HW.out)) (by decide : (⟨#[32]⟩ : ByteArray).size ≤ 1)) (Nat.le_of_eq (side_size sd)))
  have b5 := fun w => run_string_add_sum (P := Tryd.prog) w ((⟨#[110, 111, 110, 101]⟩ : ByteArray) ++ (⟨#[32, 98, 121, 32]⟩ : ByteArray) ++ I who ++ (⟨#[32]⟩ : ByteArray) ++ side sd) ((⟨#[32]⟩ : ByteArray)) (add_ok (app_le (app_le (app_le (app_le (by decide : (⟨#[110, 111, 110, 101]⟩ : ByteArray).size ≤ 4) (by decide : (⟨#[32, 98, 121, 32]⟩ : ByteArray).size ≤ 4)) (I_size' HW.out)) (by decide : (⟨#[32]⟩ : ByteArray).size ≤ 1)) (Nat.le_of_eq (side_size sd))) (by decide : (⟨#[32]⟩ : ByteArray).size ≤ 1))
  have b6 := fun w => run_string_add_sum (P := Tryd.prog) w ((⟨#[110, 111, 110, 101]⟩ : ByteArray) ++ (⟨#[32, 98, 121, 32]⟩ : ByteArray) ++ I who ++ (⟨#[32]⟩ : ByteArray) ++ side sd ++ (⟨#[32]⟩ : ByteArray)) (I ac) (add_ok (app_le (app_le (app_le (app_le (app_le (by decide : (⟨#[110, 111, 110, 101]⟩ : ByteArray).size ≤ 4) (by decide : (⟨#[32, 98, 121, 32]⟩ : ByteArray).size ≤ 4)) (I_size' HW.out)) (by decide : (⟨#[32]⟩ : ByteArray).size ≤ 1)) (Nat.le_of_eq (side_size sd))) (by decide : (⟨#[32]⟩ : ByteArray).size ≤ 1)) (I_size' HA.out))
  have b7 := fun w => run_string_add_sum (P := Tryd.prog) w ((⟨#[110, 111, 110, 101]⟩ : ByteArray) ++ (⟨#[32, 98, 121, 32]⟩ : ByteArray) ++ I who ++ (⟨#[32]⟩ : ByteArray) ++ side sd ++ (⟨#[32]⟩ : ByteArray) ++ I ac) ((⟨#[32]⟩ : ByteArray)) (add_ok (app_le (app_le (app_le (app_le (app_le (app_le (by decide : (⟨#[110, 111, 110, 101]⟩ : ByteArray).size ≤ 4) (by decide : (⟨#[32, 98, 121, 32]⟩ : ByteArray).size ≤ 4)) (I_size' HW.out)) (by decide : (⟨#[32]⟩ : ByteArray).size ≤ 1)) (Nat.le_of_eq (side_size sd))) (by decide : (⟨#[32]⟩ : ByteArray).size ≤ 1)) (I_size' HA.out)) (by decide : (⟨#[32]⟩ : ByteArray).size ≤ 1))
  have b8 := fun w => run_string_add_sum (P := Tryd.prog) w ((⟨#[110, 111, 110, 101]⟩ : ByteArray) ++ (⟨#[32, 98, 121, 32]⟩ : ByteArray) ++ I who ++ (⟨#[32]⟩ : ByteArray) ++ side sd ++ (⟨#[32]⟩ : ByteArray) ++ I ac ++ (⟨#[32]⟩ : ByteArray)) (D n) (add_ok (app_le (app_le (app_le (app_le (app_le (app_le (app_le (by decide : (⟨#[110, 111, 110, 101]⟩ : ByteArray).size ≤ 4) (by decide : (⟨#[32, 98, 121, 32]⟩ : ByteArray).size ≤ 4)) (I_size' HW.out)) (by decide : (⟨#[32]⟩ : ByteArray).size ≤ 1)) (Nat.le_of_eq (side_size sd))) (by decide : (⟨#[32]⟩ : ByteArray).size ≤ 1)) (I_size' HA.out)) (by decide : (⟨#[32]⟩ : ByteArray).size ≤ 1)) (D_size HN.out))
  have h0 : ¬ k ≤ 10 := by omega
  have h1 : ¬ k ≤ 5 := by omega
  have h1' : 0 < k := by omega
  have h2 : (k == 10) = false := by simp; omega
  have h2' : (k != 10) = true := by simp; omega
  have h3 : (k == 7) = false := by simp; omega
  have h4 : (k == 8) = false := by simp; omega
  go_enter Tryd.func7, Tryd.ntmps7
  go_wp2_with fail
  refine (wholeI who HW.out.1 HW.out.2 _).mono ?_
  rintro e w1 ⟨rfl, hb⟩
  have hB := nextB (allocB (startB w (.cells #[.int .i64 k, .int .i64 who, .int .i64 c, .int .i64 f, .int .u64 s, .int .i64 sd, .int .i64 ac, .int .u64 ep, .int .u64 n] 26)) _) hb
  have f0 := cellV hB 0 (.int .i64 k) rfl
  have f5 := cellV hB 5 (.int .i64 sd) rfl
  have f6 := cellV hB 6 (.int .i64 ac) rfl
  go_wp2_with fail
  go_region_held3 (fun w' => w'.cell? ⟨w.heap.size, 5, none⟩ = some (.int .i64 sd) ∧ w'.cell? ⟨w.heap.size, 6, none⟩ = some (.int .i64 ac) ∧ Below (w.heap.size + 1) (w.alloc (.cells #[.int .i64 k, .int .i64 who, .int .i64 c, .int .i64 f, .int .u64 s, .int .i64 sd, .int .i64 ac, .int .u64 ep, .int .u64 n] 26)) w')
      (first | exact keep2 rfl rfl (drewB hB) | exact keep2 rfl rfl (nextB (by assumption : _ ∧ _ ∧ _).2.2 hb) | exact keep2 rfl rfl (allocB (by assumption : _ ∧ _ ∧ _).2.2 _))
      (first | (go_at_call 24; refine (letter_any _ _).mono ?_; rintro e w2 ⟨rfl, hb⟩) | (go_at_call 22; refine (wholeI ac HA.out.1 HA.out.2 _).mono ?_; rintro e w2 ⟨rfl, hb⟩))
  clear f0 f5 f6
  obtain ⟨f5, f6, hB2⟩ := (by assumption : _ ∧ _ ∧ _)
  have f0 := cellV hB2 0 (.int .i64 k) rfl
  have f7 := cellV hB2 7 (.int .u64 ep) rfl
  have f8 := cellV hB2 8 (.int .u64 n) rfl
  go_wp2_with fail
  refine (digitsD n HN.out _).mono ?_
  rintro e w3 ⟨rfl, hb3⟩
  have hB3 := nextB hB2 hb3
  clear f0 f5 f6 f7 f8
  have f0 := cellV hB3 0 (.int .i64 k) rfl
  have f7 := cellV hB3 7 (.int .u64 ep) rfl
  go_wp2_with fail
  go_ret
  exact ⟨ret_str (ba_ext (by simp [mid, head, sp, by_, HKW.out])), wholeB hB3⟩
end Go.Proofs.YtoahfegeeimomaaDoor.RefOp
