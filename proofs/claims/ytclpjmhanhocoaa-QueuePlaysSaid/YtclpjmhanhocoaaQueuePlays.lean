/- muleteerlaw16.QueuePlays answers true for every input, and leaves its arguments as they were. Conditions: none. -/
import Derived.Test.YtclpjmhanhocoaaPlaysWalk
import Derived.Test.YtclpjmhanhocoaaOpen
set_option linter.unusedVariables false
set_option linter.unusedSimpArgs false
namespace Go.Proofs.Ytclpjmhanhocoaa.Plays
open Go.RowKit Base QInt Go.ChangeShapes
set_option maxRecDepth 100000
theorem law (room : Int) (al : Option Addr) (ll cl : Nat) (w : World) (A B : Nat → Int) (hP : Pairs w al ll A B) :
    Calls Try.prog 5 #[.int .i64 room, .slice al ll cl] w fun e w' => e = .returned (.bool true) ∧ Below w.heap.size w w' := by
  rcases Nat.lt_or_ge 100 ll with h | h
  · exact long room al ll cl w h
  · by_cases hr : room < 1 ∨ 1024 < room
    · exact noroom room hr al ll cl w h
    · obtain ⟨n, rfl⟩ := Int.eq_ofNat_of_zero_le (show 0 ≤ room by omega)
      exact walk n (by omega) (by omega) al ll cl w h A B hP
theorem pairs {H : Type} {enc : TypeId × Value → H} {w : World} {base : Nat} {spare : Nat → Bool} {held : Bool} {a : Option Addr} {len cap : Nat} {d : DataW H} {p : List MemPlace} (h : DataW.Trod enc Try.prog w base spare held 40 (.slice a len cap) d p) :
    ∃ A B : Nat → Int, Pairs w a len A B := by
  obtain ⟨fuel, hf⟩ := h
  have h1 := fun i hi => Open.reads (k := 2) Try.underlying40 (by kernel_rfl) (by decide) hf i hi
  have h2 : ∀ i, i < len → ∃ (x y : Int) (b o : Nat), a = some ⟨b, o, none⟩ ∧ b < w.heap.size ∧ w.cell? ⟨b, o + i * 2, none⟩ = some (.int .i64 x) ∧ w.cell? ⟨b, o + i * 2 + 1, none⟩ = some (.int .i64 y) := by
    intro i hi
    obtain ⟨b, o, ha, hb, cs, n, y, hl, hc, ht⟩ := h1 i hi
    obtain ⟨xs, m, _, _, _, hx, hat⟩ := DataW.trod_array Try.underlying48 ht
    have hk : Try.prog.cellsOf 3 = 1 := by kernel_rfl
    match cs, hl with
    | [c0, c1], _ =>
      have g0 := hat 0 (by decide)
      have g1 := hat 1 (by decide)
      rw [hk] at g0 g1
      rw [List.getElem?_eq_getElem (by omega)] at g0 g1
      obtain ⟨x, e0, _, _⟩ := DataW.trod_int Try.underlying3 g0
      obtain ⟨z, e1, _, _⟩ := DataW.trod_int Try.underlying3 g1
      simp at e0 e1
      subst e0 e1
      exact ⟨x, z, b, o, ha, hb, by simpa using hc 0 (by decide), by simpa using hc 1 (by decide)⟩
  refine ⟨fun i => if hi : i < len then (h2 i hi).choose else 0, fun i => if hi : i < len then (h2 i hi).choose_spec.choose else 0, fun i hi => ?_⟩
  obtain ⟨b, o, ha, hb, hc, hd⟩ := (h2 i hi).choose_spec.choose_spec
  exact ⟨b, o, ha, hb, by simpa [hi] using hc, by simpa [hi] using hd⟩
end Go.Proofs.Ytclpjmhanhocoaa.Plays
namespace Go.Proofs.Ytclpjmhanhocoaa.queuePlays
open Go.ChangeShapes Go.WideShapes Go.ChangeAt Go.RowKit
open Go.Joins Go.Deep
set_option maxRecDepth 100000
theorem own : ownKnob Try.prog.godebug = none := by kernel_rfl
theorem laidOut : laidOutB Try.prog = true := by kernel_rfl
theorem lifted (os : Os) (started : os.Started) (H : Type) (enc : TypeId × Value → H) :
    ReturnsInHanded {} Try.checked os 5 .any (Rows.queuePlaysSpec.pre6 enc Try.prog Try.f5 Rows.queuePlaysRow.domain false) (Rows.queuePlaysSpec.post enc Try.prog Try.f5 false true false false) := by
  refine returnsInHanded_of_change (C := Try.checked) own started (by kernel_rfl) Try.func5
    (ChangeSpec.witness6 (enc := enc) (C := Try.checked) false ⟨#[], #[.int .i64 0, .slice none 0 0], []⟩ 8 (by kernel_rfl) (by kernel_rfl) (by kernel_rfl) (by kernel_rfl)) ?_
  intro W base args ds gs before hval0 hW hcnd _
  have hval : ∀ (j : Nat) t v, Try.f5.params[j]? = some t → args[j]? = some v → Value.okWide Try.prog W .any base t v := hval0
  have hW' := hW
  obtain ⟨p, q, hA0, hV, rfl, hfz, hnd⟩ := hW
  have hA : DataW.TrodAll enc Try.prog W 0 (fun _ => true) true Try.f5.params.toList args.toList ds p := hA0
  rw [Try.params5] at hA hval
  obtain ⟨v0, vs0, d0, ds0, p0, q0, hargs, rfl, rfl, h0, r0⟩ := trodAll_cons hA
  obtain ⟨v1, vs1, d1, ds1, p1, q1, rfl, rfl, rfl, h1, r1⟩ := trodAll_cons r0
  obtain ⟨rfl, rfl, rfl⟩ := trodAll_nil r1
  obtain rfl : args = #[v0, v1] := by cases args; simp_all
  obtain ⟨rfl, rfl⟩ := trodVars_none hV
  have k0 := h0
  have lt0 : ∀ x ∈ p0, x.block < W.heap.size := by obtain ⟨m, hm⟩ := k0; exact DataW.trod_lt m _ _ _ hm
  have k1 := h1
  have lt1 : ∀ x ∈ p1, x.block < W.heap.size := by obtain ⟨m, hm⟩ := k1; exact DataW.trod_lt m _ _ _ hm
  obtain ⟨room, rfl, rfl, rfl, wr⟩ := open_int Try.underlying3 (hval 0 3 v0 rfl rfl) h0
  obtain ⟨al, ll, cl, rfl⟩ := okWide_slice Try.underlying40 (hval 1 40 v1 rfl rfl)
  obtain ⟨A, B, hP⟩ := Plays.pairs h1
  clear hA0 hval0
  refine (Plays.law room al ll cl W A B hP).mono fun e W' ⟨he, bel⟩ => ?_
  subst he
  exact ⟨_, rfl, _, _, _, [], _, [], hW', trodAll_mk1 (shut_bool Try.underlying4 _), (trodAll_cons_mk (Below.trod laidOut (by kernel_rfl) (of_decide_eq_true (by kernel_rfl)) k0 bel lt0) (trodAll_cons_mk (Below.trod laidOut (by kernel_rfl) (of_decide_eq_true (by kernel_rfl)) k1 bel lt1) trodAll_mk0)), rfl, bel.frame _, fun h => by cases h⟩
theorem over : Rows.queuePlaysRow.holds Try.pinned (OpenSpec.ofChange Rows.queuePlaysSpec) :=
  OpenClaim.holds_of_wide 5 Try.f5 rfl rfl rfl rfl rfl rfl rfl ⟨rfl, rfl, rfl, rfl, rfl⟩ rfl rfl rfl rfl rfl (by kernel_rfl) Try.func5 (by kernel_rfl)
    (of_decide_eq_true (by kernel_rfl)) (by unfold Func.isWrapper; first | (rw [if_pos (by decide +kernel)]; kernel_rfl) | (rw [if_neg (by decide +kernel)]; exact ⟨rfl, rfl⟩))
    (fun os started H enc _ => lifted os started H enc)
end Go.Proofs.Ytclpjmhanhocoaa.queuePlays
namespace Go.Proofs.Ytclpjmhanhocoaa
theorem queuePlays_holds : Rows.QueuePlaysSaid := queuePlays.over
#print axioms queuePlays_holds
end Go.Proofs.Ytclpjmhanhocoaa
