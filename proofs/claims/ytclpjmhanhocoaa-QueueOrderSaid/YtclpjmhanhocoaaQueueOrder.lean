/- muleteerlaw16.QueueOrder answers true for every input, and leaves its arguments as they were. Conditions: none. -/
import Derived.Test.YtclpjmhanhocoaaOrderWalk
import Derived.Test.YtclpjmhanhocoaaOpen
set_option linter.unusedVariables false
set_option linter.unusedSimpArgs false
namespace Go.Proofs.Ytclpjmhanhocoaa.Order
open Go.RowKit Base QStr Go.ChangeShapes
theorem law (r : Nat) (hr : r ≤ 255) (al ag : Option Addr) (ll cl lg cg : Nat) (w : World) (L : Nat → ByteArray) (G : Nat → Bool) (hL : Reads w al ll (fun i => .string (L i))) (hG : Reads w ag lg (fun i => .bool (G i))) :
    Calls Try.prog 4 #[.int .u8 r, .slice al ll cl, .slice ag lg cg] w fun e w' => e = .returned (.bool true) ∧ Below w.heap.size w w' := by
  rcases Nat.lt_or_ge 60 ll with h | h
  · exact long r al ag ll cl lg cg w h
  · exact walk r hr al ag ll cl lg cg w h L G hL hG
theorem reads_strings {H : Type} {enc : TypeId × Value → H} {w : World} {base : Nat} {spare : Nat → Bool} {held : Bool} {a : Option Addr} {len cap : Nat} {d : DataW H} {p : List MemPlace} (h : DataW.Trod enc Try.prog w base spare held 30 (.slice a len cap) d p) :
    ∃ L : Nat → ByteArray, Reads w a len (fun i => .string (L i)) := by
  obtain ⟨fuel, hf⟩ := h
  have h1 := fun i hi => Open.reads (k := 1) Try.underlying30 (by kernel_rfl) (by decide) hf i hi
  have h2 : ∀ i, i < len → ∃ (x : ByteArray) (b o : Nat), a = some ⟨b, o, none⟩ ∧ b < w.heap.size ∧ w.cell? ⟨b, o + i, none⟩ = some (.string x) := by
    intro i hi
    obtain ⟨b, o, ha, hb, cs, n, y, hl, hc, ht⟩ := h1 i hi
    obtain ⟨x, rfl, _, _⟩ := DataW.trod_string Try.underlying9 ht
    exact ⟨x, b, o, ha, hb, by simpa using hc 0 (by decide)⟩
  refine ⟨fun i => if hi : i < len then (h2 i hi).choose else ⟨#[]⟩, fun i hi => ?_⟩
  obtain ⟨b, o, ha, hb, hc⟩ := (h2 i hi).choose_spec
  exact ⟨b, o, ha, hb, by simpa [hi] using hc⟩
theorem reads_bools {H : Type} {enc : TypeId × Value → H} {w : World} {base : Nat} {spare : Nat → Bool} {held : Bool} {a : Option Addr} {len cap : Nat} {d : DataW H} {p : List MemPlace} (h : DataW.Trod enc Try.prog w base spare held 31 (.slice a len cap) d p) :
    ∃ L : Nat → Bool, Reads w a len (fun i => .bool (L i)) := by
  obtain ⟨fuel, hf⟩ := h
  have h1 := fun i hi => Open.reads (k := 1) Try.underlying31 (by kernel_rfl) (by decide) hf i hi
  have h2 : ∀ i, i < len → ∃ (x : Bool) (b o : Nat), a = some ⟨b, o, none⟩ ∧ b < w.heap.size ∧ w.cell? ⟨b, o + i, none⟩ = some (.bool x) := by
    intro i hi
    obtain ⟨b, o, ha, hb, cs, n, y, hl, hc, ht⟩ := h1 i hi
    obtain ⟨x, rfl, _⟩ := DataW.trod_bool Try.underlying4 ht
    exact ⟨x, b, o, ha, hb, by simpa using hc 0 (by decide)⟩
  refine ⟨fun i => if hi : i < len then (h2 i hi).choose else false, fun i hi => ?_⟩
  obtain ⟨b, o, ha, hb, hc⟩ := (h2 i hi).choose_spec
  exact ⟨b, o, ha, hb, by simpa [hi] using hc⟩
end Go.Proofs.Ytclpjmhanhocoaa.Order
namespace Go.Proofs.Ytclpjmhanhocoaa.queueOrder
open Go.ChangeShapes Go.WideShapes Go.ChangeAt Go.RowKit
open Go.Joins Go.Deep
set_option maxRecDepth 100000
theorem own : ownKnob Try.prog.godebug = none := by kernel_rfl
theorem laidOut : laidOutB Try.prog = true := by kernel_rfl
theorem lifted (os : Os) (started : os.Started) (H : Type) (enc : TypeId × Value → H) :
    ReturnsInHanded {} Try.checked os 4 .any (Rows.queueOrderSpec.pre6 enc Try.prog Try.f4 Rows.queueOrderRow.domain false) (Rows.queueOrderSpec.post enc Try.prog Try.f4 false true false false) := by
  refine returnsInHanded_of_change (C := Try.checked) own started (by kernel_rfl) Try.func4
    (ChangeSpec.witness6 (enc := enc) (C := Try.checked) false ⟨#[], #[.int .u8 0, .slice none 0 0, .slice none 0 0], []⟩ 8 (by kernel_rfl) (by kernel_rfl) (by kernel_rfl) (by kernel_rfl)) ?_
  intro W base args ds gs before hval0 hW hcnd _
  have hval : ∀ (j : Nat) t v, Try.f4.params[j]? = some t → args[j]? = some v → Value.okWide Try.prog W .any base t v := hval0
  have hW' := hW
  obtain ⟨p, q, hA0, hV, rfl, hfz, hnd⟩ := hW
  have hA : DataW.TrodAll enc Try.prog W 0 (fun _ => true) true Try.f4.params.toList args.toList ds p := hA0
  rw [Try.params4] at hA hval
  obtain ⟨v0, vs0, d0, ds0, p0, q0, hargs, rfl, rfl, h0, r0⟩ := trodAll_cons hA
  obtain ⟨v1, vs1, d1, ds1, p1, q1, rfl, rfl, rfl, h1, r1⟩ := trodAll_cons r0
  obtain ⟨v2, vs2, d2, ds2, p2, q2, rfl, rfl, rfl, h2, r2⟩ := trodAll_cons r1
  obtain ⟨rfl, rfl, rfl⟩ := trodAll_nil r2
  obtain rfl : args = #[v0, v1, v2] := by cases args; simp_all
  obtain ⟨rfl, rfl⟩ := trodVars_none hV
  have k0 := h0
  have lt0 : ∀ x ∈ p0, x.block < W.heap.size := by obtain ⟨m, hm⟩ := k0; exact DataW.trod_lt m _ _ _ hm
  have k1 := h1
  have lt1 : ∀ x ∈ p1, x.block < W.heap.size := by obtain ⟨m, hm⟩ := k1; exact DataW.trod_lt m _ _ _ hm
  have k2 := h2
  have lt2 : ∀ x ∈ p2, x.block < W.heap.size := by obtain ⟨m, hm⟩ := k2; exact DataW.trod_lt m _ _ _ hm
  obtain ⟨r, rfl, rfl, rfl, wr⟩ := open_int Try.underlying5 (hval 0 5 v0 rfl rfl) h0
  have m1 : IntKind.u8.min = 0 := rfl
  have m2 : IntKind.u8.max = 255 := rfl
  simp only [Lit.wf, Bool.and_eq_true, decide_eq_true_eq, m1, m2] at wr
  obtain ⟨r, rfl⟩ := Int.eq_ofNat_of_zero_le wr.1
  obtain ⟨al, ll, cl, rfl⟩ := okWide_slice Try.underlying30 (hval 1 30 v1 rfl rfl)
  obtain ⟨ag, lg, cg, rfl⟩ := okWide_slice Try.underlying31 (hval 2 31 v2 rfl rfl)
  obtain ⟨L, hL⟩ := Order.reads_strings h1
  obtain ⟨G, hG⟩ := Order.reads_bools h2
  clear hA0 hval0
  refine (Order.law r (by omega) al ag ll cl lg cg W L G hL hG).mono fun e W' ⟨he, bel⟩ => ?_
  subst he
  exact ⟨_, rfl, _, _, _, [], _, [], hW', trodAll_mk1 (shut_bool Try.underlying4 _), (trodAll_cons_mk (Below.trod laidOut (by kernel_rfl) (of_decide_eq_true (by kernel_rfl)) k0 bel lt0) (trodAll_cons_mk (Below.trod laidOut (by kernel_rfl) (of_decide_eq_true (by kernel_rfl)) k1 bel lt1) (trodAll_cons_mk (Below.trod laidOut (by kernel_rfl) (of_decide_eq_true (by kernel_rfl)) k2 bel lt2) trodAll_mk0))), rfl, bel.frame _, fun h => by cases h⟩
theorem over : Rows.queueOrderRow.holds Try.pinned (OpenSpec.ofChange Rows.queueOrderSpec) :=
  OpenClaim.holds_of_wide 4 Try.f4 rfl rfl rfl rfl rfl rfl rfl ⟨rfl, rfl, rfl, rfl, rfl⟩ rfl rfl rfl rfl rfl (by kernel_rfl) Try.func4 (by kernel_rfl)
    (of_decide_eq_true (by kernel_rfl)) (by unfold Func.isWrapper; first | (rw [if_pos (by decide +kernel)]; kernel_rfl) | (rw [if_neg (by decide +kernel)]; exact ⟨rfl, rfl⟩))
    (fun os started H enc _ => lifted os started H enc)
end Go.Proofs.Ytclpjmhanhocoaa.queueOrder
namespace Go.Proofs.Ytclpjmhanhocoaa
theorem queueOrder_holds : Rows.QueueOrderSaid := queueOrder.over
#print axioms queueOrder_holds
end Go.Proofs.Ytclpjmhanhocoaa
