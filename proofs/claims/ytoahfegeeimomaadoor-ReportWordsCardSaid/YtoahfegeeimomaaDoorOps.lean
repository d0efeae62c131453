/- report.Op and the reference's. Conditions: as stated in each theorem. -/
import Derived.Test.YtoahfegeeimomaaDoorWords
set_option linter.unusedVariables false
set_option linter.unusedSimpArgs false
namespace Go.Proofs.YtoahfegeeimomaaDoor.Ops
open Go.RowKit Base Go.Lib Name Words
set_option maxRecDepth 100000

theorem drewB {B : Nat} {a b : World} (h : Below B a b) : Below B a b.drew := ⟨h.os, h.tape, h.output, h.size, h.block⟩
theorem cellB {w w1 : World} {xs : Array Value} {t : TypeId} (h : Below (w.heap.size + 1) (w.alloc (.cells xs t)) w1) (j : Nat) : w1.cell? ⟨w.heap.size, j, none⟩ = xs[j]? :=
  (h.cell (p := ⟨w.heap.size, j, none⟩) (by simp)).trans (World.cell?_alloc_new w _ _ j)
theorem startB (w : World) (o : Obj) : Below (w.heap.size + 1) (w.alloc o) (w.alloc o) := Below.refl _ _
theorem keep2 {w w0 : World} {xs : Array Value} {t : TypeId} {i j : Nat} {u v : Value} (hu : xs[i]? = some u) (hv : xs[j]? = some v) (h : Below (w.heap.size + 1) (w.alloc (.cells xs t)) w0) :
    w0.cell? ⟨w.heap.size, i, none⟩ = some u ∧ w0.cell? ⟨w.heap.size, j, none⟩ = some v ∧ Below (w.heap.size + 1) (w.alloc (.cells xs t)) w0 :=
  ⟨(cellB h i).trans hu, (cellB h j).trans hv, h⟩
theorem nextB {w w0 w1 : World} {o : Obj} (h : Below (w.heap.size + 1) (w.alloc o) w0) (hb : Below w0.heap.size w0 w1) : Below (w.heap.size + 1) (w.alloc o) w1 :=
  h.trans (hb.mono (by have := h.size; simp at this; exact this))
theorem allocB {w w0 : World} {o : Obj} (h : Below (w.heap.size + 1) (w.alloc o) w0) (o2 : Obj) : Below (w.heap.size + 1) (w.alloc o) (w0.alloc o2) :=
  h.alloc (by have := h.size; simp at this; exact this) o2
theorem wholeB {w w1 : World} {o : Obj} (h : Below (w.heap.size + 1) (w.alloc o) w1) : Below w.heap.size w w1 :=
  ((Below.refl _ w).alloc (Nat.le_refl _) _).trans (h.mono (by omega))
def by_ : ByteArray := ⟨#[98, 121]⟩
def head (k who : Int) : ByteArray := kindW k ++ sp ++ by_ ++ sp ++ I who
theorem join3 (a b c : ByteArray) : (⟨(Lib.join ([a, b, c].map (·.data.toList)) [32]).toArray⟩ : ByteArray) = a ++ sp ++ b ++ sp ++ c := by
  apply ba_ext
  simp [Lib.join, sp, List.intercalate]
theorem join4 (a b c d : ByteArray) : (⟨(Lib.join ([a, b, c, d].map (·.data.toList)) [32]).toArray⟩ : ByteArray) = a ++ sp ++ b ++ sp ++ c ++ sp ++ d := by
  apply ba_ext
  simp [Lib.join, sp, List.intercalate]
theorem sp_size : sp.size = 1 := rfl
theorem words3 (a b c : ByteArray) (w : World) (h : a.size + b.size + c.size ≤ 1000) :
    Calls Tryd.prog 16 #[.slice (some ⟨w.heap.size, 0, none⟩) 3 3] (w.alloc (.cells #[.string a, .string b, .string c] 9)) fun e w' => e = .returned (.string (a ++ sp ++ b ++ sp ++ c)) ∧ Below (w.alloc (.cells #[.string a, .string b, .string c] 9)).heap.size (w.alloc (.cells #[.string a, .string b, .string c] 9)) w' := by
  have e : (.cells #[.string a, .string b, .string c] 9 : Obj) = .cells ([a, b, c].map Value.string).toArray 9 := by simp
  rw [e]
  exact words_any w.heap.size 3 [a, b, c] _ (by simp) (heap_alloc_new _ _) (by simp) (by simp) _ (join3 a b c) (by simp only [ByteArray.size_append, sp_size]; omega)
theorem words2 (a b : ByteArray) (w : World) (h : a.size + b.size ≤ 1000) :
    Calls Tryd.prog 16 #[.slice (some ⟨w.heap.size, 0, none⟩) 2 2] (w.alloc (.cells #[.string a, .string b] 9)) fun e w' => e = .returned (.string (a ++ sp ++ b)) ∧ Below (w.alloc (.cells #[.string a, .string b] 9)).heap.size (w.alloc (.cells #[.string a, .string b] 9)) w' := by
  have e : (.cells #[.string a, .string b] 9 : Obj) = .cells ([a, b].map Value.string).toArray 9 := by simp
  rw [e]
  exact words_any w.heap.size 2 [a, b] _ (by simp) (heap_alloc_new _ _) (by simp) (by simp) _ (join2 a b) (by simp only [ByteArray.size_append, sp_size]; omega)
theorem words4 (a b c d : ByteArray) (w : World) (h : a.size + b.size + c.size + d.size ≤ 1000) :
    Calls Tryd.prog 16 #[.slice (some ⟨w.heap.size, 0, none⟩) 4 4] (w.alloc (.cells #[.string a, .string b, .string c, .string d] 9)) fun e w' => e = .returned (.string (a ++ sp ++ b ++ sp ++ c ++ sp ++ d)) ∧ Below (w.alloc (.cells #[.string a, .string b, .string c, .string d] 9)).heap.size (w.alloc (.cells #[.string a, .string b, .string c, .string d] 9)) w' := by
  have e : (.cells #[.string a, .string b, .string c, .string d] 9 : Obj) = .cells ([a, b, c, d].map Value.string).toArray 9 := by simp
  rw [e]
  exact words_any w.heap.size 4 [a, b, c, d] _ (by simp) (heap_alloc_new _ _) (by simp) (by simp) _ (join4 a b c d) (by simp only [ByteArray.size_append, sp_size]; omega)
theorem I_size' {z : Int} (h : -9223372036854775808 ≤ z ∧ z ≤ 9223372036854775807) : (I z).size ≤ 21 := I_size h.1 h.2
theorem head_size (k : Int) {who : Int} (h : -9223372036854775808 ≤ who ∧ who ≤ 9223372036854775807) : (head k who).size ≤ 40 := by
  have h1 := kindW_size k
  have h2 := I_size' h
  simp only [head, ByteArray.size_append, sp_size, show by_.size = 2 from rfl]
  omega
def Tab (w : World) : Prop := ∀ w', Below w.heap.size w w' → Lib.TabIs Tryd.prog w' "internal/strconv.uint64pow10" .u64 Lib.pow10Tab
def r64 (z : Int) : Prop := -9223372036854775808 ≤ z ∧ z ≤ 9223372036854775807
def n64 (n : Nat) : Prop := n < 18446744073709551616
theorem cellV {w w1 : World} {xs : Array Value} {t : TypeId} (h : Below (w.heap.size + 1) (w.alloc (.cells xs t)) w1) (j : Nat) (u : Value) (hu : xs[j]? = some u) : w1.cell? ⟨w.heap.size, j, none⟩ = some u := (cellB h j).trans hu
theorem tabAt {w w1 : World} (ht : Tab w) (h : Below w.heap.size w w1) : Tab w1 := fun w2 hb => ht w2 (h.trans (hb.mono h.size))
def mid (k who sd ac : Int) : ByteArray := head k who ++ sp ++ side sd ++ sp ++ I ac
theorem tail_size (k sd : Int) {who ac : Int} (h : r64 who) (h2 : r64 ac) : (mid k who sd ac).size ≤ 80 := by
  have h1 := head_size k h
  have h3 := I_size' h2
  simp only [mid, ByteArray.size_append, sp_size, side_size]
  omega
theorem w1ok (k : Int) {who : Int} (h : r64 who) : (kindW k).size + (⟨#[98, 121]⟩ : ByteArray).size + (I who).size ≤ 1000 := by
  have h1 := kindW_size k
  have h3 := I_size' h
  rw [show (⟨#[98, 121]⟩ : ByteArray).size = 2 from rfl]
  omega
theorem w3ok (k sd : Int) {who ac : Int} (h : r64 who) (h2 : r64 ac) : (kindW k ++ sp ++ (⟨#[98, 121]⟩ : ByteArray) ++ sp ++ I who).size + (side sd).size + (I ac).size ≤ 1000 := by
  have h1 := head_size k h
  have h3 := I_size' h2
  rw [side_size]
  have e : (kindW k ++ sp ++ (⟨#[98, 121]⟩ : ByteArray) ++ sp ++ I who) = head k who := rfl
  rw [e]
  omega
theorem w4ok (k sd : Int) {who ac : Int} {n ep : Nat} (h : r64 who) (h2 : r64 ac) (h3 : n64 n) (h4 : n64 ep) : (kindW k ++ sp ++ (⟨#[98, 121]⟩ : ByteArray) ++ sp ++ I who ++ sp ++ side sd ++ sp ++ I ac).size + (D n).size + (⟨#[105, 110]⟩ : ByteArray).size + (D ep).size ≤ 1000 := by
  have h1 := tail_size k sd h h2
  have h5 := D_size h3
  have h6 := D_size h4
  have e : (kindW k ++ sp ++ (⟨#[98, 121]⟩ : ByteArray) ++ sp ++ I who ++ sp ++ side sd ++ sp ++ I ac) = mid k who sd ac := rfl
  rw [e, show (⟨#[105, 110]⟩ : ByteArray).size = 2 from rfl]
  omega
theorem name_size (f : Int) {c : Int} {s : Nat} (h : r64 c) (h2 : n64 s) : (I c ++ side f ++ D s).size ≤ 50 := by
  have h1 := I_size' h
  have h3 := D_size h2
  simp only [ByteArray.size_append, side_size]
  omega
theorem w2ok (k f : Int) {who c : Int} {s : Nat} (h : r64 who) (h2 : r64 c) (h3 : n64 s) : (head k who).size + (I c ++ side f ++ D s).size ≤ 1000 := by
  have h1 := head_size k h
  have h3 := name_size f h2 h3
  omega
theorem w2ok' (k sd : Int) {who ac : Int} {n : Nat} (h : r64 who) (h2 : r64 ac) (h3 : n64 n) : (mid k who sd ac).size + (D n).size ≤ 1000 := by
  have h1 := tail_size k sd h h2
  have h5 := D_size h3
  omega
set_option maxHeartbeats 4000000 in
theorem opA (k who c f : Int) (s : Nat) (sd ac : Int) (ep n : Nat) (hk : 1 ≤ k ∧ k ≤ 5) (hw : r64 who) (hc : r64 c) (hs : n64 s) (ha : r64 ac) (he : n64 ep) (hn : n64 n) (w : World) (ht : Tab w) :
    Calls Tryd.prog 6 #[.agg #[.int .i64 k, .int .i64 who, .int .i64 c, .int .i64 f, .int .u64 s, .int .i64 sd, .int .i64 ac, .int .u64 ep, .int .u64 n]] w fun e w' => e = .returned (.string (head k who ++ sp ++ (I c ++ side f ++ D s))) ∧ Below w.heap.size w w' := by
  have HT := Lib.hid ht
  have HW := Lib.hid hw
  have HC := Lib.hid hc
  have HS := Lib.hid hs
  have HA := Lib.hid ha
  have HE := Lib.hid he
  have HN := Lib.hid hn
  clear ht hw hc hs ha he hn
  obtain ⟨k1, k2⟩ := hk
  go_enter Tryd.func6, Tryd.ntmps6
  go_wp2_with fail
  go_region_held3 (fun w' => w'.cell? ⟨w.heap.size, 0, none⟩ = some (.int .i64 k) ∧ w'.cell? ⟨w.heap.size, 1, none⟩ = some (.int .i64 who) ∧ Below (w.heap.size + 1) (w.alloc (.cells #[.int .i64 k, .int .i64 who, .int .i64 c, .int .i64 f, .int .u64 s, .int .i64 sd, .int .i64 ac, .int .u64 ep, .int .u64 n] 26)) w')
      (first | exact keep2 rfl rfl (drewB (startB _ _)) | exact keep2 rfl rfl (nextB (by assumption : _ ∧ _ ∧ _).2.2 hb) | exact keep2 rfl rfl (allocB (by assumption : _ ∧ _ ∧ _).2.2 _))
      (first | (go_at_call 17; refine (kind_any _ _).mono ?_; rintro e w1 ⟨rfl, hb⟩) | (go_at_call 18; refine (intI who HW.out.1 HW.out.2 _ (HT.out _ (wholeB (by assumption : _ ∧ _ ∧ _).2.2))).mono ?_; rintro e w1 ⟨rfl, hb⟩) | (go_at_call 16; refine (words3 _ _ _ _ (by exact w1ok _ HW.out)).mono ?_; rintro e w1 ⟨rfl, hb⟩))
  obtain ⟨f0, f1, hB⟩ := (by assumption : _ ∧ _ ∧ _)
  have f2 := cellV hB 2 (.int .i64 c) rfl
  have f3 := cellV hB 3 (.int .i64 f) rfl
  have f4 := cellV hB 4 (.int .u64 s) rfl
  go_wp2_with fail
  refine (name c f s HS.out HC.out.1 HC.out.2 w1 (tabAt HT.out (wholeB hB))).mono ?_
  rintro e w2 ⟨rfl, hb2⟩
  go_wp2_with fail
  refine (words2 _ _ _ (by exact w2ok _ _ HW.out HC.out HS.out)).mono ?_
  rintro e w3 ⟨rfl, hb3⟩
  go_wp2_with fail
  go_ret
  exact ⟨rfl, wholeB (nextB (allocB (nextB hB hb2) _) hb3)⟩
set_option maxHeartbeats 4000000 in
theorem opB (who c f : Int) (s : Nat) (sd ac : Int) (ep n : Nat)  (hw : r64 who) (hc : r64 c) (hs : n64 s) (ha : r64 ac) (he : n64 ep) (hn : n64 n) (w : World) (ht : Tab w) :
    Calls Tryd.prog 6 #[.agg #[.int .i64 10, .int .i64 who, .int .i64 c, .int .i64 f, .int .u64 s, .int .i64 sd, .int .i64 ac, .int .u64 ep, .int .u64 n]] w fun e w' => e = .returned (.string (mid 10 who sd ac)) ∧ Below w.heap.size w w' := by
  have HT := Lib.hid ht
  have HW := Lib.hid hw
  have HC := Lib.hid hc
  have HS := Lib.hid hs
  have HA := Lib.hid ha
  have HE := Lib.hid he
  have HN := Lib.hid hn
  clear ht hw hc hs ha he hn
  go_enter Tryd.func6, Tryd.ntmps6
  go_wp2_with fail
  go_region_held3 (fun w' => w'.cell? ⟨w.heap.size, 0, none⟩ = some (.int .i64 10) ∧ w'.cell? ⟨w.heap.size, 1, none⟩ = some (.int .i64 who) ∧ Below (w.heap.size + 1) (w.alloc (.cells #[.int .i64 10, .int .i64 who, .int .i64 c, .int .i64 f, .int .u64 s, .int .i64 sd, .int .i64 ac, .int .u64 ep, .int .u64 n] 26)) w')
      (first | exact keep2 rfl rfl (drewB (startB _ _)) | exact keep2 rfl rfl (nextB (by assumption : _ ∧ _ ∧ _).2.2 hb) | exact keep2 rfl rfl (allocB (by assumption : _ ∧ _ ∧ _).2.2 _))
      (first | (go_at_call 17; refine (kind_any _ _).mono ?_; rintro e w1 ⟨rfl, hb⟩) | (go_at_call 18; refine (intI who HW.out.1 HW.out.2 _ (HT.out _ (wholeB (by assumption : _ ∧ _ ∧ _).2.2))).mono ?_; rintro e w1 ⟨rfl, hb⟩) | (go_at_call 16; refine (words3 _ _ _ _ (by exact w1ok _ HW.out)).mono ?_; rintro e w1 ⟨rfl, hb⟩))
  obtain ⟨f0, f1, hB⟩ := (by assumption : _ ∧ _ ∧ _)
  have f5 := cellV hB 5 (.int .i64 sd) rfl
  have f6 := cellV hB 6 (.int .i64 ac) rfl
  go_wp2_with fail
  go_region_held3 (fun w' => w'.cell? ⟨w.heap.size, 5, none⟩ = some (.int .i64 sd) ∧ w'.cell? ⟨w.heap.size, 6, none⟩ = some (.int .i64 ac) ∧ Below (w.heap.size + 1) (w.alloc (.cells #[.int .i64 10, .int .i64 who, .int .i64 c, .int .i64 f, .int .u64 s, .int .i64 sd, .int .i64 ac, .int .u64 ep, .int .u64 n] 26)) w')
      (first | exact keep2 rfl rfl (drewB hB) | exact keep2 rfl rfl (nextB (by assumption : _ ∧ _ ∧ _).2.2 hb) | exact keep2 rfl rfl (allocB (by assumption : _ ∧ _ ∧ _).2.2 _))
      (first | (go_at_call 20; refine (side_any _ _).mono ?_; rintro e w2 ⟨rfl, hb⟩) | (go_at_call 18; refine (intI ac HA.out.1 HA.out.2 _ (HT.out _ (wholeB (by assumption : _ ∧ _ ∧ _).2.2))).mono ?_; rintro e w2 ⟨rfl, hb⟩) | (go_at_call 16; refine (words3 _ _ _ _ (by exact w3ok _ _ HW.out HA.out)).mono ?_; rintro e w2 ⟨rfl, hb⟩))
  obtain ⟨f5, f6, hB2⟩ := (by assumption : _ ∧ _ ∧ _)
  have f7 := cellV hB2 0 (.int .i64 10) rfl
  go_wp2_with fail
  go_ret
  exact ⟨rfl, wholeB hB2⟩
set_option maxHeartbeats 4000000 in
theorem opC7 (who c f : Int) (s : Nat) (sd ac : Int) (ep n : Nat)  (hw : r64 who) (hc : r64 c) (hs : n64 s) (ha : r64 ac) (he : n64 ep) (hn : n64 n) (w : World) (ht : Tab w) :
    Calls Tryd.prog 6 #[.agg #[.int .i64 7, .int .i64 who, .int .i64 c, .int .i64 f, .int .u64 s, .int .i64 sd, .int .i64 ac, .int .u64 ep, .int .u64 n]] w fun e w' => e = .returned (.string (mid 7 who sd ac ++ sp ++ D n ++ sp ++ ⟨#[105, 110]⟩ ++ sp ++ D ep)) ∧ Below w.heap.size w w' := by
  have HT := Lib.hid ht
  have HW := Lib.hid hw
  have HC := Lib.hid hc
  have HS := Lib.hid hs
  have HA := Lib.hid ha
  have HE := Lib.hid he
  have HN := Lib.hid hn
  clear ht hw hc hs ha he hn
  go_enter Tryd.func6, Tryd.ntmps6
  go_wp2_with fail
  go_region_held3 (fun w' => w'.cell? ⟨w.heap.size, 0, none⟩ = some (.int .i64 7) ∧ w'.cell? ⟨w.heap.size, 1, none⟩ = some (.int .i64 who) ∧ Below (w.heap.size + 1) (w.alloc (.cells #[.int .i64 7, .int .i64 who, .int .i64 c, .int .i64 f, .int .u64 s, .int .i64 sd, .int .i64 ac, .int .u64 ep, .int .u64 n] 26)) w')
      (first | exact keep2 rfl rfl (drewB (startB _ _)) | exact keep2 rfl rfl (nextB (by assumption : _ ∧ _ ∧ _).2.2 hb) | exact keep2 rfl rfl (allocB (by assumption : _ ∧ _ ∧ _).2.2 _))
      (first | (go_at_call 17; refine (kind_any _ _).mono ?_; rintro e w1 ⟨rfl, hb⟩) | (go_at_call 18; refine (intI who HW.out.1 HW.out.2 _ (HT.out _ (wholeB (by assumption : _ ∧ _ ∧ _).2.2))).mono ?_; rintro e w1 ⟨rfl, hb⟩) | (go_at_call 16; refine (words3 _ _ _ _ (by exact w1ok _ HW.out)).mono ?_; rintro e w1 ⟨rfl, hb⟩))
  obtain ⟨f0, f1, hB⟩ := (by assumption : _ ∧ _ ∧ _)
  have f5 := cellV hB 5 (.int .i64 sd) rfl
  have f6 := cellV hB 6 (.int .i64 ac) rfl
  go_wp2_with fail
  go_region_held3 (fun w' => w'.cell? ⟨w.heap.size, 5, none⟩ = some (.int .i64 sd) ∧ w'.cell? ⟨w.heap.size, 6, none⟩ = some (.int .i64 ac) ∧ Below (w.heap.size + 1) (w.alloc (.cells #[.int .i64 7, .int .i64 who, .int .i64 c, .int .i64 f, .int .u64 s, .int .i64 sd, .int .i64 ac, .int .u64 ep, .int .u64 n] 26)) w')
      (first | exact keep2 rfl rfl (drewB hB) | exact keep2 rfl rfl (nextB (by assumption : _ ∧ _ ∧ _).2.2 hb) | exact keep2 rfl rfl (allocB (by assumption : _ ∧ _ ∧ _).2.2 _))
      (first | (go_at_call 20; refine (side_any _ _).mono ?_; rintro e w2 ⟨rfl, hb⟩) | (go_at_call 18; refine (intI ac HA.out.1 HA.out.2 _ (HT.out _ (wholeB (by assumption : _ ∧ _ ∧ _).2.2))).mono ?_; rintro e w2 ⟨rfl, hb⟩) | (go_at_call 16; refine (words3 _ _ _ _ (by exact w3ok _ _ HW.out HA.out)).mono ?_; rintro e w2 ⟨rfl, hb⟩))
  obtain ⟨f5, f6, hB2⟩ := (by assumption : _ ∧ _ ∧ _)
  have f9 := cellV hB2 0 (.int .i64 7) rfl
  have f7 := cellV hB2 7 (.int .u64 ep) rfl
  have f8 := cellV hB2 8 (.int .u64 n) rfl
  go_wp2_with fail
  go_region_held3 (fun w' => w'.cell? ⟨w.heap.size, 7, none⟩ = some (.int .u64 ep) ∧ w'.cell? ⟨w.heap.size, 8, none⟩ = some (.int .u64 n) ∧ Below (w.heap.size + 1) (w.alloc (.cells #[.int .i64 7, .int .i64 who, .int .i64 c, .int .i64 f, .int .u64 s, .int .i64 sd, .int .i64 ac, .int .u64 ep, .int .u64 n] 26)) w')
      (first | exact keep2 rfl rfl (drewB hB2) | exact keep2 rfl rfl (nextB (by assumption : _ ∧ _ ∧ _).2.2 hb) | exact keep2 rfl rfl (allocB (by assumption : _ ∧ _ ∧ _).2.2 _))
      (first | (go_at_call_of 21 (Value.int IntKind.u64 (n : Int)); refine (num_any n HN.out _ (HT.out _ (wholeB (by assumption : _ ∧ _ ∧ _).2.2))).mono ?_; rintro e w2 ⟨rfl, hb⟩) | (go_at_call_of 21 (Value.int IntKind.u64 (ep : Int)); refine (num_any ep HE.out _ (HT.out _ (wholeB (by assumption : _ ∧ _ ∧ _).2.2))).mono ?_; rintro e w2 ⟨rfl, hb⟩) | (go_at_call 16; refine (words4 _ _ _ _ _ (by exact w4ok _ _ HW.out HA.out HN.out HE.out)).mono ?_; rintro e w2 ⟨rfl, hb⟩))
  obtain ⟨f7, f8, hB3⟩ := (by assumption : _ ∧ _ ∧ _)
  go_wp2_with fail
  go_ret
  exact ⟨rfl, wholeB hB3⟩
set_option maxHeartbeats 4000000 in
theorem opC8 (who c f : Int) (s : Nat) (sd ac : Int) (ep n : Nat)  (hw : r64 who) (hc : r64 c) (hs : n64 s) (ha : r64 ac) (he : n64 ep) (hn : n64 n) (w : World) (ht : Tab w) :
    Calls Tryd.prog 6 #[.agg #[.int .i64 8, .int .i64 who, .int .i64 c, .int .i64 f, .int .u64 s, .int .i64 sd, .int .i64 ac, .int .u64 ep, .int .u64 n]] w fun e w' => e = .returned (.string (mid 8 who sd ac ++ sp ++ D n ++ sp ++ ⟨#[105, 110]⟩ ++ sp ++ D ep)) ∧ Below w.heap.size w w' := by
  have HT := Lib.hid ht
  have HW := Lib.hid hw
  have HC := Lib.hid hc
  have HS := Lib.hid hs
  have HA := Lib.hid ha
  have HE := Lib.hid he
  have HN := Lib.hid hn
  clear ht hw hc hs ha he hn
  go_enter Tryd.func6, Tryd.ntmps6
  go_wp2_with fail
  go_region_held3 (fun w' => w'.cell? ⟨w.heap.size, 0, none⟩ = some (.int .i64 8) ∧ w'.cell? ⟨w.heap.size, 1, none⟩ = some (.int .i64 who) ∧ Below (w.heap.size + 1) (w.alloc (.cells #[.int .i64 8, .int .i64 who, .int .i64 c, .int .i64 f, .int .u64 s, .int .i64 sd, .int .i64 ac, .int .u64 ep, .int .u64 n] 26)) w')
      (first | exact keep2 rfl rfl (drewB (startB _ _)) | exact keep2 rfl rfl (nextB (by assumption : _ ∧ _ ∧ _).2.2 hb) | exact keep2 rfl rfl (allocB (by assumption : _ ∧ _ ∧ _).2.2 _))
      (first | (go_at_call 17; refine (kind_any _ _).mono ?_; rintro e w1 ⟨rfl, hb⟩) | (go_at_call 18; refine (intI who HW.out.1 HW.out.2 _ (HT.out _ (wholeB (by assumption : _ ∧ _ ∧ _).2.2))).mono ?_; rintro e w1 ⟨rfl, hb⟩) | (go_at_call 16; refine (words3 _ _ _ _ (by exact w1ok _ HW.out)).mono ?_; rintro e w1 ⟨rfl, hb⟩))
  obtain ⟨f0, f1, hB⟩ := (by assumption : _ ∧ _ ∧ _)
  have f5 := cellV hB 5 (.int .i64 sd) rfl
  have f6 := cellV hB 6 (.int .i64 ac) rfl
  go_wp2_with fail
  go_region_held3 (fun w' => w'.cell? ⟨w.heap.size, 5, none⟩ = some (.int .i64 sd) ∧ w'.cell? ⟨w.heap.size, 6, none⟩ = some (.int .i64 ac) ∧ Below (w.heap.size + 1) (w.alloc (.cells #[.int .i64 8, .int .i64 who, .int .i64 c, .int .i64 f, .int .u64 s, .int .i64 sd, .int .i64 ac, .int .u64 ep, .int .u64 n] 26)) w')
      (first | exact keep2 rfl rfl (drewB hB) | exact keep2 rfl rfl (nextB (by assumption : _ ∧ _ ∧ _).2.2 hb) | exact keep2 rfl rfl (allocB (by assumption : _ ∧ _ ∧ _).2.2 _))
      (first | (go_at_call 20; refine (side_any _ _).mono ?_; rintro e w2 ⟨rfl, hb⟩) | (go_at_call 18; refine (intI ac HA.out.1 HA.out.2 _ (HT.out _ (wholeB (by assumption : _ ∧ _ ∧ _).2.2))).mono ?_; rintro e w2 ⟨rfl, hb⟩) | (go_at_call 16; refine (words3 _ _ _ _ (by exact w3ok _ _ HW.out HA.out)).mono ?_; rintro e w2 ⟨rfl, hb⟩))
  obtain ⟨f5, f6, hB2⟩ := (by assumption : _ ∧ _ ∧ _)
  have f9 := cellV hB2 0 (.int .i64 8) rfl
  have f7 := cellV hB2 7 (.int .u64 ep) rfl
  have f8 := cellV hB2 8 (.int .u64 n) rfl
  go_wp2_with fail
  go_region_held3 (fun w' => w'.cell? ⟨w.heap.size, 7, none⟩ = some (.int .u64 ep) ∧ w'.cell? ⟨w.heap.size, 8, none⟩ = some (.int .u64 n) ∧ Below (w.heap.size + 1) (w.alloc (.cells #[.int .i64 8, .int .i64 who, .int .i64 c, .int .i64 f, .int .u64 s, .int .i64 sd, .int .i64 ac, .int .u64 ep, .int .u64 n] 26)) w')
      (first | exact keep2 rfl rfl (drewB hB2) | exact keep2 rfl rfl (nextB (by assumption : _ ∧ _ ∧ _).2.2 hb) | exact keep2 rfl rfl (allocB (by assumption : _ ∧ _ ∧ _).2.2 _))
      (first | (go_at_call_of 21 (Value.int IntKind.u64 (n : Int)); refine (num_any n HN.out _ (HT.out _ (wholeB (by assumption : _ ∧ _ ∧ _).2.2))).mono ?_; rintro e w2 ⟨rfl, hb⟩) | (go_at_call_of 21 (Value.int IntKind.u64 (ep : Int)); refine (num_any ep HE.out _ (HT.out _ (wholeB (by assumption : _ ∧ _ ∧ _).2.2))).mono ?_; rintro e w2 ⟨rfl, hb⟩) | (go_at_call 16; refine (words4 _ _ _ _ _ (by exact w4ok _ _ HW.out HA.out HN.out HE.out)).mono ?_; rintro e w2 ⟨rfl, hb⟩))
  obtain ⟨f7, f8, hB3⟩ := (by assumption : _ ∧ _ ∧ _)
  go_wp2_with fail
  go_ret
  exact ⟨rfl, wholeB hB3⟩
set_option maxHeartbeats 4000000 in
theorem opD (k who c f : Int) (s : Nat) (sd ac : Int) (ep n : Nat) (hk : ¬ (1 ≤ k ∧ k ≤ 5)) (h7 : (k == 7) = false) (h8 : (k == 8) = false) (h10 : (k == 10) = false) (hw : r64 who) (hc : r64 c) (hs : n64 s) (ha : r64 ac) (he : n64 ep) (hn : n64 n) (w : World) (ht : Tab w) :
    Calls Tryd.prog 6 #[.agg #[.int .i64 k, .int .i64 who, .int .i64 c, .int .i64 f, .int .u64 s, .int .i64 sd, .int .i64 ac, .int .u64 ep, .int .u64 n]] w fun e w' => e = .returned (.string (mid k who sd ac ++ sp ++ D n)) ∧ Below w.heap.size w w' := by
  have HT := Lib.hid ht
  have HW := Lib.hid hw
  have HC := Lib.hid hc
  have HS := Lib.hid hs
  have HA := Lib.hid ha
  have HE := Lib.hid he
  have HN := Lib.hid hn
  clear ht hw hc hs ha he hn
  have hk1 : k < 1 ∨ 5 < k := by omega
  clear hk
  rcases hk1 with hk1 | hk1
  · have hd : ¬ 1 ≤ k := by omega
    go_enter Tryd.func6, Tryd.ntmps6
    go_wp2_with fail
    go_region_held3 (fun w' => w'.cell? ⟨w.heap.size, 0, none⟩ = some (.int .i64 k) ∧ w'.cell? ⟨w.heap.size, 1, none⟩ = some (.int .i64 who) ∧ Below (w.heap.size + 1) (w.alloc (.cells #[.int .i64 k, .int .i64 who, .int .i64 c, .int .i64 f, .int .u64 s, .int .i64 sd, .int .i64 ac, .int .u64 ep, .int .u64 n] 26)) w')
        (first | exact keep2 rfl rfl (drewB (startB _ _)) | exact keep2 rfl rfl (nextB (by assumption : _ ∧ _ ∧ _).2.2 hb) | exact keep2 rfl rfl (allocB (by assumption : _ ∧ _ ∧ _).2.2 _))
        (first | (go_at_call 17; refine (kind_any _ _).mono ?_; rintro e w1 ⟨rfl, hb⟩) | (go_at_call 18; refine (intI who HW.out.1 HW.out.2 _ (HT.out _ (wholeB (by assumption : _ ∧ _ ∧ _).2.2))).mono ?_; rintro e w1 ⟨rfl, hb⟩) | (go_at_call 16; refine (words3 _ _ _ _ (by exact w1ok _ HW.out)).mono ?_; rintro e w1 ⟨rfl, hb⟩))
    obtain ⟨f0, f1, hB⟩ := (by assumption : _ ∧ _ ∧ _)
    have f5 := cellV hB 5 (.int .i64 sd) rfl
    have f6 := cellV hB 6 (.int .i64 ac) rfl
    go_wp2_with fail
    go_region_held3 (fun w' => w'.cell? ⟨w.heap.size, 5, none⟩ = some (.int .i64 sd) ∧ w'.cell? ⟨w.heap.size, 6, none⟩ = some (.int .i64 ac) ∧ Below (w.heap.size + 1) (w.alloc (.cells #[.int .i64 k, .int .i64 who, .int .i64 c, .int .i64 f, .int .u64 s, .int .i64 sd, .int .i64 ac, .int .u64 ep, .int .u64 n] 26)) w')
        (first | exact keep2 rfl rfl (drewB hB) | exact keep2 rfl rfl (nextB (by assumption : _ ∧ _ ∧ _).2.2 hb) | exact keep2 rfl rfl (allocB (by assumption : _ ∧ _ ∧ _).2.2 _))
        (first | (go_at_call 20; refine (side_any _ _).mono ?_; rintro e w2 ⟨rfl, hb⟩) | (go_at_call 18; refine (intI ac HA.out.1 HA.out.2 _ (HT.out _ (wholeB (by assumption : _ ∧ _ ∧ _).2.2))).mono ?_; rintro e w2 ⟨rfl, hb⟩) | (go_at_call 16; refine (words3 _ _ _ _ (by exact w3ok _ _ HW.out HA.out)).mono ?_; rintro e w2 ⟨rfl, hb⟩))
    obtain ⟨f5, f6, hB2⟩ := (by assumption : _ ∧ _ ∧ _)
    have f9 := cellV hB2 0 (.int .i64 k) rfl
    have f8 := cellV hB2 8 (.int .u64 n) rfl
    go_wp2_with fail
    refine (num_any n HN.out _ (tabAt HT.out (wholeB hB2) _ (Below.refl _ _))).mono ?_
    rintro e w3 ⟨rfl, hb3⟩
    go_wp2_with fail
    refine (words2 _ _ _ (by exact w2ok' _ _ HW.out HA.out HN.out)).mono ?_
    rintro e w4 ⟨rfl, hb4⟩
    go_wp2_with fail
    go_ret
    exact ⟨rfl, wholeB (nextB (allocB (nextB hB2 hb3) _) hb4)⟩
  · have hd : ¬ k ≤ 5 := by omega
    have hd2 : 1 ≤ k := by omega
    go_enter Tryd.func6, Tryd.ntmps6
    go_wp2_with fail
    go_region_held3 (fun w' => w'.cell? ⟨w.heap.size, 0, none⟩ = some (.int .i64 k) ∧ w'.cell? ⟨w.heap.size, 1, none⟩ = some (.int .i64 who) ∧ Below (w.heap.size + 1) (w.alloc (.cells #[.int .i64 k, .int .i64 who, .int .i64 c, .int .i64 f, .int .u64 s, .int .i64 sd, .int .i64 ac, .int .u64 ep, .int .u64 n] 26)) w')
        (first | exact keep2 rfl rfl (drewB (startB _ _)) | exact keep2 rfl rfl (nextB (by assumption : _ ∧ _ ∧ _).2.2 hb) | exact keep2 rfl rfl (allocB (by assumption : _ ∧ _ ∧ _).2.2 _))
        (first | (go_at_call 17; refine (kind_any _ _).mono ?_; rintro e w1 ⟨rfl, hb⟩) | (go_at_call 18; refine (intI who HW.out.1 HW.out.2 _ (HT.out _ (wholeB (by assumption : _ ∧ _ ∧ _).2.2))).mono ?_; rintro e w1 ⟨rfl, hb⟩) | (go_at_call 16; refine (words3 _ _ _ _ (by exact w1ok _ HW.out)).mono ?_; rintro e w1 ⟨rfl, hb⟩))
    obtain ⟨f0, f1, hB⟩ := (by assumption : _ ∧ _ ∧ _)
    have f5 := cellV hB 5 (.int .i64 sd) rfl
    have f6 := cellV hB 6 (.int .i64 ac) rfl
    go_wp2_with fail
    go_region_held3 (fun w' => w'.cell? ⟨w.heap.size, 5, none⟩ = some (.int .i64 sd) ∧ w'.cell? ⟨w.heap.size, 6, none⟩ = some (.int .i64 ac) ∧ Below (w.heap.size + 1) (w.alloc (.cells #[.int .i64 k, .int .i64 who, .int .i64 c, .int .i64 f, .int .u64 s, .int .i64 sd, .int .i64 ac, .int .u64 ep, .int .u64 n] 26)) w')
        (first | exact keep2 rfl rfl (drewB hB) | exact keep2 rfl rfl (nextB (by assumption : _ ∧ _ ∧ _).2.2 hb) | exact keep2 rfl rfl (allocB (by assumption : _ ∧ _ ∧ _).2.2 _))
        (first | (go_at_call 20; refine (side_any _ _).mono ?_; rintro e w2 ⟨rfl, hb⟩) | (go_at_call 18; refine (intI ac HA.out.1 HA.out.2 _ (HT.out _ (wholeB (by assumption : _ ∧ _ ∧ _).2.2))).mono ?_; rintro e w2 ⟨rfl, hb⟩) | (go_at_call 16; refine (words3 _ _ _ _ (by exact w3ok _ _ HW.out HA.out)).mono ?_; rintro e w2 ⟨rfl, hb⟩))
    obtain ⟨f5, f6, hB2⟩ := (by assumption : _ ∧ _ ∧ _)
    have f9 := cellV hB2 0 (.int .i64 k) rfl
    have f8 := cellV hB2 8 (.int .u64 n) rfl
    go_wp2_with fail
    refine (num_any n HN.out _ (tabAt HT.out (wholeB hB2) _ (Below.refl _ _))).mono ?_
    rintro e w3 ⟨rfl, hb3⟩
    go_wp2_with fail
    refine (words2 _ _ _ (by exact w2ok' _ _ HW.out HA.out HN.out)).mono ?_
    rintro e w4 ⟨rfl, hb4⟩
    go_wp2_with fail
    go_ret
    exact ⟨rfl, wholeB (nextB (allocB (nextB hB2 hb3) _) hb4)⟩
end Go.Proofs.YtoahfegeeimomaaDoor.Ops
