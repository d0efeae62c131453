/- submit.Many at the page's example, and the example. Conditions: as stated in each theorem. -/
import Derived.Test.YtclpjmhanhocoaaSubPart
import Derived.Test.YtclpjmhanhocoaaPSubmitAfterx1
import Derived.Test.YtclpjmhanhocoaaWArr
import Derived.Test.YtclpjmhanhocoaaBase
set_option linter.unusedVariables false
set_option linter.unusedSimpArgs false
namespace Go.Proofs.Ytclpjmhanhocoaa.SubAwake
open Go.RowKit PSubmitAfter SubPart Go.Proofs.YtclpjmhanhocoaaW.PrintWords
set_option maxRecDepth 100000

def m4 : S86 := ⟨4, z24, ⟨#[]⟩⟩
def mR : S86 := ⟨2, z24, ⟨#[]⟩⟩
def six : List S86 := [m4, m4, mR, m4, m4, m4]
theorem to_six : batch_To.f 10 six 0 = some [m4, m4, m4, m4, m4] := by
  simp [batch_To.f, batch_To.l0, msg_Side.f, msg_Side.j0, rd_T86, six, m4, mR, z24, wrap64]
def cells1 (k : Int) : List Value := [.int .i64 k, .int .i64 0, .int .i64 0, .int .u64 0, .int .u64 0, .string ⟨#[]⟩, .string ⟨#[]⟩]
def cells6 : List Value := cells1 4 ++ cells1 4 ++ cells1 2 ++ cells1 4 ++ cells1 4 ++ cells1 4
theorem reads_six {w : World} {b : Nat} (h : ∀ j u, cells6[j]? = some u → w.cell? ⟨b, j, none⟩ = some u) : Kd.C k86 w (some ⟨b, 0, none⟩) six.length six := by
  refine ⟨rfl, by decide, fun _ => ⟨⟨b, 0, none⟩, rfl, fun j p hj => ?_⟩⟩
  have hadd : ∀ i, (⟨b, 0, none⟩ : Addr).add i = ⟨b, i, none⟩ := fun i => by unfold Addr.add; split <;> simp_all
  match j, hj with
  | 0, hj => simp [six] at hj; subst hj; exact ⟨_, rfl, k86_mk w m4, fun i u hu => by rw [hadd]; exact h _ _ (by have hi := (List.getElem?_eq_some_iff.1 hu).1; simp at hi; match i, hi, hu with | 0, _, hu => exact hu | 1, _, hu => exact hu | 2, _, hu => exact hu | 3, _, hu => exact hu | 4, _, hu => exact hu | 5, _, hu => exact hu | 6, _, hu => exact hu)⟩
  | 1, hj => simp [six] at hj; subst hj; exact ⟨_, rfl, k86_mk w m4, fun i u hu => by rw [hadd]; exact h _ _ (by have hi := (List.getElem?_eq_some_iff.1 hu).1; simp at hi; match i, hi, hu with | 0, _, hu => exact hu | 1, _, hu => exact hu | 2, _, hu => exact hu | 3, _, hu => exact hu | 4, _, hu => exact hu | 5, _, hu => exact hu | 6, _, hu => exact hu)⟩
  | 2, hj => simp [six] at hj; subst hj; exact ⟨_, rfl, k86_mk w mR, fun i u hu => by rw [hadd]; exact h _ _ (by have hi := (List.getElem?_eq_some_iff.1 hu).1; simp at hi; match i, hi, hu with | 0, _, hu => exact hu | 1, _, hu => exact hu | 2, _, hu => exact hu | 3, _, hu => exact hu | 4, _, hu => exact hu | 5, _, hu => exact hu | 6, _, hu => exact hu)⟩
  | 3, hj => simp [six] at hj; subst hj; exact ⟨_, rfl, k86_mk w m4, fun i u hu => by rw [hadd]; exact h _ _ (by have hi := (List.getElem?_eq_some_iff.1 hu).1; simp at hi; match i, hi, hu with | 0, _, hu => exact hu | 1, _, hu => exact hu | 2, _, hu => exact hu | 3, _, hu => exact hu | 4, _, hu => exact hu | 5, _, hu => exact hu | 6, _, hu => exact hu)⟩
  | 4, hj => simp [six] at hj; subst hj; exact ⟨_, rfl, k86_mk w m4, fun i u hu => by rw [hadd]; exact h _ _ (by have hi := (List.getElem?_eq_some_iff.1 hu).1; simp at hi; match i, hi, hu with | 0, _, hu => exact hu | 1, _, hu => exact hu | 2, _, hu => exact hu | 3, _, hu => exact hu | 4, _, hu => exact hu | 5, _, hu => exact hu | 6, _, hu => exact hu)⟩
  | 5, hj => simp [six] at hj; subst hj; exact ⟨_, rfl, k86_mk w m4, fun i u hu => by rw [hadd]; exact h _ _ (by have hi := (List.getElem?_eq_some_iff.1 hu).1; simp at hi; match i, hi, hu with | 0, _, hu => exact hu | 1, _, hu => exact hu | 2, _, hu => exact hu | 3, _, hu => exact hu | 4, _, hu => exact hu | 5, _, hu => exact hu | 6, _, hu => exact hu)⟩

theorem many (b c : Nat) (hc : 6 ≤ c) (w : World) (h : ∀ j u, cells6[j]? = some u → w.cell? ⟨b, j, none⟩ = some u) :
    Calls Try.prog 59 #[.slice (some ⟨b, 0, none⟩) 6 c, .int .i64 0, .int .i64 2] w fun e w' => e = .returned (.int .u64 3) ∧ Below w.heap.size w w' := by
  have HC := Lib.hid (reads_six h)
  clear h
  go_enter Try.func59, Try.ntmps59
  go_wp2_with fail
  refine (batch_To.calls 10 (some ⟨b, 0, none⟩) c six 0 _ _ HC.out hc to_six).mono ?_
  rintro e w1 ⟨v, rfl, hR, hb1⟩
  obtain ⟨_, inner, hown, hreps⟩ := hR
  obtain ⟨g, cap, rfl⟩ := ownsRow_succ hown
  have hcap : 5 ≤ cap := by
    rcases hown.2 with ⟨h0, _⟩ | ⟨g', cap', cur, h0, _, _, hnc, _⟩
    · cases h0
    · injection h0 with _ _ h0
      subst h0
      exact hnc
  have hlen : inner.length = 35 := hown.1
  have hRow : Row w1 g 0 inner := by
    refine ⟨fun j u hu => ?_, fun u hu => ?_⟩
    · rw [Nat.zero_add, hown.cellAt j (by have := (List.getElem?_eq_some_iff.1 hu).1; show j < 35; omega)]
      exact hu
    · exact Kd.reps_one hreps (by decide) (fun p c hp => k86.K_one (k86.K_of_M hp)) u hu
  have HR := Lib.hid hRow
  clear hown hreps hRow
  go_wp2_with fail
  refine (SubPart.part g cap hcap inner hlen _ HR.out).mono ?_
  rintro e w2 ⟨⟨a2, c2, rfl⟩, hb2⟩
  go_wp2
  go_ret
  exact ⟨rfl, Base.bel hb1 hb2 hb1.size⟩
set_option maxHeartbeats 4000000 in
theorem awake (w : World) : Calls Try.prog 42 #[] w fun e w' => e = .returned (.bool true) ∧ Below w.heap.size w w' := by
  go_enter Try.func42, Try.ntmps42
  go_wp2_with fail
  refine (many (w.heap.size + 1) 6 (by omega) _ ?_).mono ?_
  · intro j u hu
    have hb : World.cell? _ ⟨(w.alloc (.cells (cells1 4).toArray 86)).heap.size, j, none⟩ = cells6.toArray[j]? := Base.cell_of_block (Base.block_new (w.alloc (.cells (cells1 4).toArray 86)) (.cells cells6.toArray 86))
    rw [World.size_alloc] at hb
    refine Eq.trans hb ?_
    simpa using hu
  · rintro e w1 ⟨rfl, hb1⟩
    go_wp2
    go_ret
    exact ⟨rfl, Base.bel (((Below.refl _ w).alloc (Nat.le_refl _) _).alloc (by simp) _) hb1 (by simp; omega)⟩
end Go.Proofs.Ytclpjmhanhocoaa.SubAwake
