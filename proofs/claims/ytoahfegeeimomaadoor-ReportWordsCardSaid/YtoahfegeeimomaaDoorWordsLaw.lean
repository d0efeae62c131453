/- The walk of muleteerlaw39.ReportWords. Conditions: as stated in each theorem. -/
import Derived.Test.YtoahfegeeimomaaDoorRets
set_option linter.unusedVariables false
set_option linter.unusedSimpArgs false
namespace Go.Proofs.YtoahfegeeimomaaDoor.WordsLaw
open Go.RowKit Base Go.Lib Name Words Ops RefOp Rets
set_option maxRecDepth 100000

def opW (k who c f : Int) (s : Nat) (sd ac : Int) (ep n : Nat) : ByteArray :=
  if 1 ≤ k ∧ k ≤ 5 then head k who ++ sp ++ (I c ++ side f ++ D s)
  else if k = 10 then mid k who sd ac
  else if k = 7 ∨ k = 8 then mid k who sd ac ++ sp ++ D n ++ sp ++ ⟨#[105, 110]⟩ ++ sp ++ D ep
  else mid k who sd ac ++ sp ++ D n
def retW (kd : Int) (e0 : Int) (rp rn rm : Nat) : ByteArray :=
  if e0 ≠ 0 then errW e0
  else if kd = 6 then okB ++ sp ++ D rn ++ sp ++ D rm ++ sp ++ inB ++ sp ++ D rp
  else if kd = 9 then okB ++ sp ++ inB ++ sp ++ D rp
  else if kd = 10 then okB ++ sp ++ D rn
  else okB
def entryW (xc xf : Int) (xs : Nat) (st ow : Int) : ByteArray :=
  if st = 1 then I xc ++ side xf ++ D xs ++ sp ++ ⟨#[112, 101, 110, 100, 105, 110, 103]⟩
  else if st = 2 then I xc ++ side xf ++ D xs ++ sp ++ (⟨#[99, 108, 97, 105, 109, 101, 100]⟩ ++ sp ++ I ow)
  else if st = 3 then I xc ++ side xf ++ D xs ++ sp ++ ⟨#[100, 111, 110, 101]⟩
  else I xc ++ side xf ++ D xs ++ sp ++ ⟨#[108, 111, 115, 116]⟩
theorem op_any (k who c f : Int) (s : Nat) (sd ac : Int) (ep n : Nat) (hw : r64 who) (hc : r64 c) (hs : n64 s) (ha : r64 ac) (he : n64 ep) (hn : n64 n) (w : World) (ht : Tab w) :
    Calls Tryd.prog 6 #[.agg #[.int .i64 k, .int .i64 who, .int .i64 c, .int .i64 f, .int .u64 s, .int .i64 sd, .int .i64 ac, .int .u64 ep, .int .u64 n]] w fun e w' => e = .returned (.string (opW k who c f s sd ac ep n)) ∧ Below w.heap.size w w' := by
  unfold opW
  by_cases h1 : 1 ≤ k ∧ k ≤ 5
  · rw [if_pos h1]
    exact opA k who c f s sd ac ep n h1 hw hc hs ha he hn w ht
  · rw [if_neg h1]
    by_cases h2 : k = 10
    · rw [if_pos h2]
      subst h2
      exact opB who c f s sd ac ep n hw hc hs ha he hn w ht
    · rw [if_neg h2]
      by_cases h3 : k = 7
      · rw [if_pos (.inl h3)]
        subst h3
        exact opC7 who c f s sd ac ep n hw hc hs ha he hn w ht
      · by_cases h4 : k = 8
        · rw [if_pos (.inr h4)]
          subst h4
          exact opC8 who c f s sd ac ep n hw hc hs ha he hn w ht
        · rw [if_neg (by omega)]
          exact opD k who c f s sd ac ep n h1 (beq_eq_false_iff_ne.2 h3) (beq_eq_false_iff_ne.2 h4) (beq_eq_false_iff_ne.2 h2) hw hc hs ha he hn w ht
theorem refOp_any (k who c f : Int) (s : Nat) (sd ac : Int) (ep n : Nat) (hw : r64 who) (hc : r64 c) (hs : n64 s) (ha : r64 ac) (he : n64 ep) (hn : n64 n) (w : World) :
    Calls Tryd.prog 7 #[.agg #[.int .i64 k, .int .i64 who, .int .i64 c, .int .i64 f, .int .u64 s, .int .i64 sd, .int .i64 ac, .int .u64 ep, .int .u64 n]] w fun e w' => e = .returned (.string (opW k who c f s sd ac ep n)) ∧ Below w.heap.size w w' := by
  by_cases h0 : k < 1
  · have := lo k who c f s sd ac ep n h0 hw hc hs ha he hn w
    unfold opW
    rwa [if_neg (by omega), if_neg (by omega), if_neg (by omega)]
  by_cases h11 : 10 < k
  · have := hi k who c f s sd ac ep n h11 hw hc hs ha he hn w
    unfold opW
    rwa [if_neg (by omega), if_neg (by omega), if_neg (by omega)]
  have hk : k = 1 ∨ k = 2 ∨ k = 3 ∨ k = 4 ∨ k = 5 ∨ k = 6 ∨ k = 7 ∨ k = 8 ∨ k = 9 ∨ k = 10 := by omega
  clear h0 h11
  rcases hk with rfl | rfl | rfl | rfl | rfl | rfl | rfl | rfl | rfl | rfl
  · exact k1 who c f s sd ac ep n hw hc hs ha he hn w
  · exact k2 who c f s sd ac ep n hw hc hs ha he hn w
  · exact k3 who c f s sd ac ep n hw hc hs ha he hn w
  · exact k4 who c f s sd ac ep n hw hc hs ha he hn w
  · exact k5 who c f s sd ac ep n hw hc hs ha he hn w
  · exact k6 who c f s sd ac ep n hw hc hs ha he hn w
  · exact k7 who c f s sd ac ep n hw hc hs ha he hn w
  · exact k8 who c f s sd ac ep n hw hc hs ha he hn w
  · exact k9 who c f s sd ac ep n hw hc hs ha he hn w
  · exact k10 who c f s sd ac ep n hw hc hs ha he hn w
theorem ret_any (kd : Int) (e0 : Int) (rp rn rm : Nat) (he : n64 rp) (hn : n64 rn) (hm : n64 rm) (w : World) (ht : Tab w) :
    Calls Tryd.prog 8 #[.int .i64 kd, .agg #[.int .i64 e0, .int .u64 rp, .int .u64 rn, .int .u64 rm]] w fun e w' => e = .returned (.string (retW kd e0 rp rn rm)) ∧ Below w.heap.size w w' := by
  unfold retW
  by_cases h0 : e0 ≠ 0
  · rw [if_pos h0]
    exact ret_err kd e0 rp rn rm h0 he hn hm w ht
  · rw [if_neg h0]
    obtain rfl : e0 = 0 := by omega
    by_cases h6 : kd = 6
    · rw [if_pos h6]; subst h6; exact ret_6 rp rn rm he hn hm w ht
    rw [if_neg h6]
    by_cases h9 : kd = 9
    · rw [if_pos h9]; subst h9; exact ret_9 rp rn rm he hn hm w ht
    rw [if_neg h9]
    by_cases h10 : kd = 10
    · rw [if_pos h10]; subst h10; exact ret_10 rp rn rm he hn hm w ht
    rw [if_neg h10]
    exact ret_other kd rp rn rm h6 h9 h10 he hn hm w ht
theorem refRet_any (kd : Int) (e0 : Int) (rp rn rm : Nat) (he : n64 rp) (hn : n64 rn) (hm : n64 rm) (w : World) :
    Calls Tryd.prog 9 #[.int .i64 kd, .agg #[.int .i64 e0, .int .u64 rp, .int .u64 rn, .int .u64 rm]] w fun e w' => e = .returned (.string (retW kd e0 rp rn rm)) ∧ Below w.heap.size w w' := by
  unfold retW
  by_cases h0 : e0 ≠ 0
  · rw [if_pos h0]
    exact ref_err kd e0 rp rn rm h0 he hn hm w
  · rw [if_neg h0]
    obtain rfl : e0 = 0 := by omega
    by_cases h6 : kd = 6
    · rw [if_pos h6]; subst h6; exact ref_6 rp rn rm he hn hm w
    rw [if_neg h6]
    by_cases h9 : kd = 9
    · rw [if_pos h9]; subst h9; exact ref_9 rp rn rm he hn hm w
    rw [if_neg h9]
    by_cases h10 : kd = 10
    · rw [if_pos h10]; subst h10; exact ref_10 rp rn rm he hn hm w
    rw [if_neg h10]
    exact ref_other kd rp rn rm h6 h9 h10 he hn hm w
theorem entry_any (xc xf : Int) (xs : Nat) (st ow : Int) (hc : r64 xc) (hs : n64 xs) (ho : r64 ow) (w : World) (ht : Tab w) :
    Calls Tryd.prog 10 #[.agg #[.int .i64 xc, .int .i64 xf, .int .u64 xs, .int .i64 st, .int .i64 ow]] w fun e w' => e = .returned (.string (entryW xc xf xs st ow)) ∧ Below w.heap.size w w' := by
  unfold entryW
  by_cases h1 : st = 1
  · rw [if_pos h1]; subst h1; exact entry_pending xc xf xs ow hc hs ho w ht
  rw [if_neg h1]
  by_cases h2 : st = 2
  · rw [if_pos h2]; subst h2
    have e : (I xc ++ side xf ++ D xs ++ sp ++ (⟨#[99, 108, 97, 105, 109, 101, 100]⟩ ++ sp ++ I ow) : ByteArray) = I xc ++ side xf ++ D xs ++ sp ++ ⟨#[99, 108, 97, 105, 109, 101, 100]⟩ ++ sp ++ I ow := ba_ext (by simp)
    rw [e]
    exact entry_claimed xc xf xs ow hc hs ho w ht
  rw [if_neg h2]
  by_cases h3 : st = 3
  · rw [if_pos h3]; subst h3; exact entry_done xc xf xs ow hc hs ho w ht
  rw [if_neg h3]
  exact entry_lost xc xf xs st ow h1 h2 h3 hc hs ho w ht
theorem refEntry_any (xc xf : Int) (xs : Nat) (st ow : Int) (hc : r64 xc) (hs : n64 xs) (ho : r64 ow) (w : World) :
    Calls Tryd.prog 11 #[.agg #[.int .i64 xc, .int .i64 xf, .int .u64 xs, .int .i64 st, .int .i64 ow]] w fun e w' => e = .returned (.string (entryW xc xf xs st ow)) ∧ Below w.heap.size w w' := by
  unfold entryW
  by_cases h1 : st = 1
  · rw [if_pos h1]; subst h1; exact refEntry_pending xc xf xs ow hc hs ho w
  rw [if_neg h1]
  by_cases h2 : st = 2
  · rw [if_pos h2]; subst h2
    have e : (I xc ++ side xf ++ D xs ++ sp ++ (⟨#[99, 108, 97, 105, 109, 101, 100]⟩ ++ sp ++ I ow) : ByteArray) = I xc ++ side xf ++ D xs ++ sp ++ ⟨#[99, 108, 97, 105, 109, 101, 100]⟩ ++ sp ++ I ow := ba_ext (by simp)
    rw [e]
    exact refEntry_claimed xc xf xs ow hc hs ho w
  rw [if_neg h2]
  by_cases h3 : st = 3
  · rw [if_pos h3]; subst h3; exact refEntry_done xc xf xs ow hc hs ho w
  rw [if_neg h3]
  exact refEntry_lost xc xf xs st ow h1 h2 h3 hc hs ho w
theorem awakeW : opW 2 3 0 0 5 0 0 0 0 = ⟨#[99, 108, 97, 105, 109, 32, 98, 121, 32, 51, 32, 48, 97, 53]⟩ := by
  apply ba_ext
  simp [opW, head, kindW, sp, by_, I, D, side, Lib.itoa, Lib.decDigits]
set_option maxHeartbeats 1000000 in
theorem awake (w : World) (ht : Tab w) : Calls Tryd.prog 5 #[] w fun e w' => e = .returned (.bool true) ∧ Below w.heap.size w w' := by
  have h := op_any 2 3 0 0 5 0 0 0 0 (by unfold r64; omega) (by unfold r64; omega) (by unfold n64; omega) (by unfold r64; omega) (by unfold n64; omega) (by unfold n64; omega) w ht
  rw [awakeW] at h
  have H := Lib.hid h
  clear h
  go_enter Tryd.func5, Tryd.ntmps5
  go_wp2_with fail
  refine H.out.mono ?_
  rintro e w1 ⟨rfl, hb⟩
  go_wp2_with fail
  go_ret
  exact ⟨rfl, hb⟩
theorem mkS {w w' : World} {k who c f : Int} {s : Nat} {sd ac : Int} {ep n : Nat} {e0 : Int} {rp rn rm : Nat} {xc xf : Int} {xs : Nat} {st ow : Int} (h : Below (((w.alloc (.cells #[.int .i64 k, .int .i64 who, .int .i64 c, .int .i64 f, .int .u64 s, .int .i64 sd, .int .i64 ac, .int .u64 ep, .int .u64 n] 26)).alloc (.cells #[.int .i64 e0, .int .u64 rp, .int .u64 rn, .int .u64 rm] 29)).alloc (.cells #[.int .i64 xc, .int .i64 xf, .int .u64 xs, .int .i64 st, .int .i64 ow] 31)).heap.size (((w.alloc (.cells #[.int .i64 k, .int .i64 who, .int .i64 c, .int .i64 f, .int .u64 s, .int .i64 sd, .int .i64 ac, .int .u64 ep, .int .u64 n] 26)).alloc (.cells #[.int .i64 e0, .int .u64 rp, .int .u64 rn, .int .u64 rm] 29)).alloc (.cells #[.int .i64 xc, .int .i64 xf, .int .u64 xs, .int .i64 st, .int .i64 ow] 31)) w') : Below (((w.alloc (.cells #[.int .i64 k, .int .i64 who, .int .i64 c, .int .i64 f, .int .u64 s, .int .i64 sd, .int .i64 ac, .int .u64 ep, .int .u64 n] 26)).alloc (.cells #[.int .i64 e0, .int .u64 rp, .int .u64 rn, .int .u64 rm] 29)).alloc (.cells #[.int .i64 xc, .int .i64 xf, .int .u64 xs, .int .i64 st, .int .i64 ow] 31)).heap.size (((w.alloc (.cells #[.int .i64 k, .int .i64 who, .int .i64 c, .int .i64 f, .int .u64 s, .int .i64 sd, .int .i64 ac, .int .u64 ep, .int .u64 n] 26)).alloc (.cells #[.int .i64 e0, .int .u64 rp, .int .u64 rn, .int .u64 rm] 29)).alloc (.cells #[.int .i64 xc, .int .i64 xf, .int .u64 xs, .int .i64 st, .int .i64 ow] 31)) w' ∧ w'.cell? ⟨w.heap.size, 0, none⟩ = some (.int .i64 k) ∧ w'.cell? ⟨w.heap.size, 1, none⟩ = some (.int .i64 who) ∧ w'.cell? ⟨w.heap.size, 2, none⟩ = some (.int .i64 c) ∧ w'.cell? ⟨w.heap.size, 3, none⟩ = some (.int .i64 f) ∧ w'.cell? ⟨w.heap.size, 4, none⟩ = some (.int .u64 s) ∧ w'.cell? ⟨w.heap.size, 5, none⟩ = some (.int .i64 sd) ∧ w'.cell? ⟨w.heap.size, 6, none⟩ = some (.int .i64 ac) ∧ w'.cell? ⟨w.heap.size, 7, none⟩ = some (.int .u64 ep) ∧ w'.cell? ⟨w.heap.size, 8, none⟩ = some (.int .u64 n) ∧ w'.cell? ⟨w.heap.size + 1, 0, none⟩ = some (.int .i64 e0) ∧ w'.cell? ⟨w.heap.size + 1, 1, none⟩ = some (.int .u64 rp) ∧ w'.cell? ⟨w.heap.size + 1, 2, none⟩ = some (.int .u64 rn) ∧ w'.cell? ⟨w.heap.size + 1, 3, none⟩ = some (.int .u64 rm) ∧ w'.cell? ⟨w.heap.size + 1 + 1, 0, none⟩ = some (.int .i64 xc) ∧ w'.cell? ⟨w.heap.size + 1 + 1, 1, none⟩ = some (.int .i64 xf) ∧ w'.cell? ⟨w.heap.size + 1 + 1, 2, none⟩ = some (.int .u64 xs) ∧ w'.cell? ⟨w.heap.size + 1 + 1, 3, none⟩ = some (.int .i64 st) ∧ w'.cell? ⟨w.heap.size + 1 + 1, 4, none⟩ = some (.int .i64 ow) := by
  have hA : (((w.alloc (.cells #[.int .i64 k, .int .i64 who, .int .i64 c, .int .i64 f, .int .u64 s, .int .i64 sd, .int .i64 ac, .int .u64 ep, .int .u64 n] 26)).alloc (.cells #[.int .i64 e0, .int .u64 rp, .int .u64 rn, .int .u64 rm] 29)).alloc (.cells #[.int .i64 xc, .int .i64 xf, .int .u64 xs, .int .i64 st, .int .i64 ow] 31)).heap[w.heap.size]? = some (.cells #[.int .i64 k, .int .i64 who, .int .i64 c, .int .i64 f, .int .u64 s, .int .i64 sd, .int .i64 ac, .int .u64 ep, .int .u64 n] 26) := block_alloc (block_alloc (block_new _ _) _) _
  have hB : (((w.alloc (.cells #[.int .i64 k, .int .i64 who, .int .i64 c, .int .i64 f, .int .u64 s, .int .i64 sd, .int .i64 ac, .int .u64 ep, .int .u64 n] 26)).alloc (.cells #[.int .i64 e0, .int .u64 rp, .int .u64 rn, .int .u64 rm] 29)).alloc (.cells #[.int .i64 xc, .int .i64 xf, .int .u64 xs, .int .i64 st, .int .i64 ow] 31)).heap[w.heap.size + 1]? = some (.cells #[.int .i64 e0, .int .u64 rp, .int .u64 rn, .int .u64 rm] 29) := by
    have h := block_new (w.alloc (.cells #[.int .i64 k, .int .i64 who, .int .i64 c, .int .i64 f, .int .u64 s, .int .i64 sd, .int .i64 ac, .int .u64 ep, .int .u64 n] 26)) (.cells #[.int .i64 e0, .int .u64 rp, .int .u64 rn, .int .u64 rm] 29)
    rw [World.size_alloc] at h
    exact block_alloc h _
  have hC : (((w.alloc (.cells #[.int .i64 k, .int .i64 who, .int .i64 c, .int .i64 f, .int .u64 s, .int .i64 sd, .int .i64 ac, .int .u64 ep, .int .u64 n] 26)).alloc (.cells #[.int .i64 e0, .int .u64 rp, .int .u64 rn, .int .u64 rm] 29)).alloc (.cells #[.int .i64 xc, .int .i64 xf, .int .u64 xs, .int .i64 st, .int .i64 ow] 31)).heap[w.heap.size + 1 + 1]? = some (.cells #[.int .i64 xc, .int .i64 xf, .int .u64 xs, .int .i64 st, .int .i64 ow] 31) := by
    have h := block_new ((w.alloc (.cells #[.int .i64 k, .int .i64 who, .int .i64 c, .int .i64 f, .int .u64 s, .int .i64 sd, .int .i64 ac, .int .u64 ep, .int .u64 n] 26)).alloc (.cells #[.int .i64 e0, .int .u64 rp, .int .u64 rn, .int .u64 rm] 29)) (.cells #[.int .i64 xc, .int .i64 xf, .int .u64 xs, .int .i64 st, .int .i64 ow] 31)
    rw [World.size_alloc, World.size_alloc] at h
    exact h
  have hA' := (h.block _ (lt_of_block hA)).trans hA
  have hB' := (h.block _ (lt_of_block hB)).trans hB
  have hC' := (h.block _ (lt_of_block hC)).trans hC
  refine ⟨h, ?_, ?_, ?_, ?_, ?_, ?_, ?_, ?_, ?_, ?_, ?_, ?_, ?_, ?_, ?_, ?_, ?_, ?_⟩
  · rw [cell_of_block hA']; rfl
  · rw [cell_of_block hA']; rfl
  · rw [cell_of_block hA']; rfl
  · rw [cell_of_block hA']; rfl
  · rw [cell_of_block hA']; rfl
  · rw [cell_of_block hA']; rfl
  · rw [cell_of_block hA']; rfl
  · rw [cell_of_block hA']; rfl
  · rw [cell_of_block hA']; rfl
  · rw [cell_of_block hB']; rfl
  · rw [cell_of_block hB']; rfl
  · rw [cell_of_block hB']; rfl
  · rw [cell_of_block hB']; rfl
  · rw [cell_of_block hC']; rfl
  · rw [cell_of_block hC']; rfl
  · rw [cell_of_block hC']; rfl
  · rw [cell_of_block hC']; rfl
  · rw [cell_of_block hC']; rfl
theorem below0 (w : World) (x y z : Obj) : Below w.heap.size w (((w.alloc x).alloc y).alloc z) :=
  (((Below.refl _ w).alloc (Nat.le_refl _) _).alloc (by simp) _).alloc (by simp; omega) _
theorem wholeS {w w1 : World} {x y z : Obj} (h : Below (((w.alloc x).alloc y).alloc z).heap.size (((w.alloc x).alloc y).alloc z) w1) : Below w.heap.size w w1 := (below0 w x y z).trans (h.mono (below0 w x y z).size)
theorem tabS {w w1 : World} {x y z : Obj} (ht : Tab w) (h : Below (((w.alloc x).alloc y).alloc z).heap.size (((w.alloc x).alloc y).alloc z) w1) : Tab w1 := tabAt ht (wholeS h)
theorem nextS {w1 w2 w3 : World} (h : Below w1.heap.size w1 w2) (hb : Below w2.heap.size w2 w3) : Below w1.heap.size w1 w3 := h.trans (hb.mono h.size)
set_option maxHeartbeats 8000000 in
theorem law (k who c f : Int) (s : Nat) (sd ac : Int) (ep n : Nat) (e0 : Int) (rp rn rm : Nat) (xc xf : Int) (xs : Nat) (st ow : Int) (hw : r64 who) (hc : r64 c) (hs : n64 s) (ha : r64 ac) (he : n64 ep) (hn : n64 n) (hrp : n64 rp) (hrn : n64 rn) (hrm : n64 rm) (hxc : r64 xc) (hxs : n64 xs) (how : r64 ow) (w : World) (ht : Tab w) :
    Calls Tryd.prog 3 #[.agg #[.int .i64 k, .int .i64 who, .int .i64 c, .int .i64 f, .int .u64 s, .int .i64 sd, .int .i64 ac, .int .u64 ep, .int .u64 n], .agg #[.int .i64 e0, .int .u64 rp, .int .u64 rn, .int .u64 rm], .agg #[.int .i64 xc, .int .i64 xf, .int .u64 xs, .int .i64 st, .int .i64 ow]] w fun e w' => e = .returned (.bool true) ∧ Below w.heap.size w w' := by
  have HT := Lib.hid ht
  have HO := fun w ht => op_any k who c f s sd ac ep n hw hc hs ha he hn w ht
  have HP := fun w => refOp_any k who c f s sd ac ep n hw hc hs ha he hn w
  have HR := fun w ht => ret_any k e0 rp rn rm hrp hrn hrm w ht
  have HQ := fun w => refRet_any k e0 rp rn rm hrp hrn hrm w
  have HX := fun w ht => entry_any xc xf xs st ow hxc hxs how w ht
  have HY := fun w => refEntry_any xc xf xs st ow hxc hxs how w
  have KO := Lib.hid HO
  have KP := Lib.hid HP
  have KR := Lib.hid HR
  have KQ := Lib.hid HQ
  have KX := Lib.hid HX
  have KY := Lib.hid HY
  clear ht HO HP HR HQ HX HY hw hc hs ha he hn hrp hrn hrm hxc hxs how
  generalize opW k who c f s sd ac ep n = o1 at *
  generalize retW k e0 rp rn rm = o2 at *
  generalize entryW xc xf xs st ow = o3 at *
  go_enter Tryd.func3, Tryd.ntmps3
  go_wp2_with fail
  go_region_held3 (fun w' => Below (((w.alloc (.cells #[.int .i64 k, .int .i64 who, .int .i64 c, .int .i64 f, .int .u64 s, .int .i64 sd, .int .i64 ac, .int .u64 ep, .int .u64 n] 26)).alloc (.cells #[.int .i64 e0, .int .u64 rp, .int .u64 rn, .int .u64 rm] 29)).alloc (.cells #[.int .i64 xc, .int .i64 xf, .int .u64 xs, .int .i64 st, .int .i64 ow] 31)).heap.size (((w.alloc (.cells #[.int .i64 k, .int .i64 who, .int .i64 c, .int .i64 f, .int .u64 s, .int .i64 sd, .int .i64 ac, .int .u64 ep, .int .u64 n] 26)).alloc (.cells #[.int .i64 e0, .int .u64 rp, .int .u64 rn, .int .u64 rm] 29)).alloc (.cells #[.int .i64 xc, .int .i64 xf, .int .u64 xs, .int .i64 st, .int .i64 ow] 31)) w' ∧ w'.cell? ⟨w.heap.size, 0, none⟩ = some (.int .i64 k) ∧ w'.cell? ⟨w.heap.size, 1, none⟩ = some (.int .i64 who) ∧ w'.cell? ⟨w.heap.size, 2, none⟩ = some (.int .i64 c) ∧ w'.cell? ⟨w.heap.size, 3, none⟩ = some (.int .i64 f) ∧ w'.cell? ⟨w.heap.size, 4, none⟩ = some (.int .u64 s) ∧ w'.cell? ⟨w.heap.size, 5, none⟩ = some (.int .i64 sd) ∧ w'.cell? ⟨w.heap.size, 6, none⟩ = some (.int .i64 ac) ∧ w'.cell? ⟨w.heap.size, 7, none⟩ = some (.int .u64 ep) ∧ w'.cell? ⟨w.heap.size, 8, none⟩ = some (.int .u64 n) ∧ w'.cell? ⟨w.heap.size + 1, 0, none⟩ = some (.int .i64 e0) ∧ w'.cell? ⟨w.heap.size + 1, 1, none⟩ = some (.int .u64 rp) ∧ w'.cell? ⟨w.heap.size + 1, 2, none⟩ = some (.int .u64 rn) ∧ w'.cell? ⟨w.heap.size + 1, 3, none⟩ = some (.int .u64 rm) ∧ w'.cell? ⟨w.heap.size + 1 + 1, 0, none⟩ = some (.int .i64 xc) ∧ w'.cell? ⟨w.heap.size + 1 + 1, 1, none⟩ = some (.int .i64 xf) ∧ w'.cell? ⟨w.heap.size + 1 + 1, 2, none⟩ = some (.int .u64 xs) ∧ w'.cell? ⟨w.heap.size + 1 + 1, 3, none⟩ = some (.int .i64 st) ∧ w'.cell? ⟨w.heap.size + 1 + 1, 4, none⟩ = some (.int .i64 ow))
    (first | exact mkS (drewB (Below.refl _ _)) | exact mkS (nextS (by assumption : _ ∧ _ ∧ _ ∧ _ ∧ _ ∧ _ ∧ _ ∧ _ ∧ _ ∧ _ ∧ _ ∧ _ ∧ _ ∧ _ ∧ _ ∧ _ ∧ _ ∧ _ ∧ _).1 hb))
    (first | (go_at_call 5; refine (awake _ (tabS HT.out (by assumption : _ ∧ _ ∧ _ ∧ _ ∧ _ ∧ _ ∧ _ ∧ _ ∧ _ ∧ _ ∧ _ ∧ _ ∧ _ ∧ _ ∧ _ ∧ _ ∧ _ ∧ _ ∧ _).1)).mono ?_; rintro e w1 ⟨rfl, hb⟩) | (go_at_call 6; refine (KO.out _ (tabS HT.out (by assumption : _ ∧ _ ∧ _ ∧ _ ∧ _ ∧ _ ∧ _ ∧ _ ∧ _ ∧ _ ∧ _ ∧ _ ∧ _ ∧ _ ∧ _ ∧ _ ∧ _ ∧ _ ∧ _).1)).mono ?_; rintro e w1 ⟨rfl, hb⟩) | (go_at_call 7; refine (KP.out _).mono ?_; rintro e w1 ⟨rfl, hb⟩) | (go_at_call 8; refine (KR.out _ (tabS HT.out (by assumption : _ ∧ _ ∧ _ ∧ _ ∧ _ ∧ _ ∧ _ ∧ _ ∧ _ ∧ _ ∧ _ ∧ _ ∧ _ ∧ _ ∧ _ ∧ _ ∧ _ ∧ _ ∧ _).1)).mono ?_; rintro e w1 ⟨rfl, hb⟩) | (go_at_call 9; refine (KQ.out _).mono ?_; rintro e w1 ⟨rfl, hb⟩) | (go_at_call 10; refine (KX.out _ (tabS HT.out (by assumption : _ ∧ _ ∧ _ ∧ _ ∧ _ ∧ _ ∧ _ ∧ _ ∧ _ ∧ _ ∧ _ ∧ _ ∧ _ ∧ _ ∧ _ ∧ _ ∧ _ ∧ _ ∧ _).1)).mono ?_; rintro e w1 ⟨rfl, hb⟩) | (go_at_call 11; refine (KY.out _).mono ?_; rintro e w1 ⟨rfl, hb⟩))
  go_wp2_with fail
  go_ret
  exact ⟨rfl, wholeS (by assumption : _ ∧ _ ∧ _ ∧ _ ∧ _ ∧ _ ∧ _ ∧ _ ∧ _ ∧ _ ∧ _ ∧ _ ∧ _ ∧ _ ∧ _ ∧ _ ∧ _ ∧ _ ∧ _).1⟩
end Go.Proofs.YtoahfegeeimomaaDoor.WordsLaw
