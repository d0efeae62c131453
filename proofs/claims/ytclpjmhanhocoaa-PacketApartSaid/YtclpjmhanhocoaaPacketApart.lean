/- muleteerlaw03.PacketApart answers true for every input, and leaves its arguments as they were. Conditions: none. -/
import Derived.Test.YtclpjmhanhocoaaApartWalk
import Derived.ProofKit
import Derived.OpenShut
import Derived.Lib.SmallJoins
import Derived.Deep.Slices
import Derived.Deep.Fields
import Derived.ChangeSame
set_option linter.unusedVariables false
set_option linter.unusedSimpArgs false
namespace Go.Proofs.Ytclpjmhanhocoaa.Digit
open Go.RowKit
set_option maxRecDepth 100000

theorem toList_iff (a b : ByteArray) : a.toList = b.toList ↔ a = b := by
  rw [ByteArray.toList_eq, ByteArray.toList_eq]
  obtain ⟨⟨x⟩⟩ := a
  obtain ⟨⟨y⟩⟩ := b
  simp
theorem bytes_toList (a b : ByteArray) (q : Bool) (h : a = b ↔ q = true) : (a.toList == b.toList) = q := by
  cases q
  · have : ¬ a = b := fun e => by simpa using h.1 e
    rw [beq_eq_false_iff_ne]
    exact fun e => this ((toList_iff a b).1 e)
  · have : a = b := h.2 rfl
    subst this
    exact beq_self_eq_true _

theorem apart (c f s t : Int) (d : ByteArray) (c' f' s' t' : Int) (d' : ByteArray) (w : World)
    (hs0 : 0 ≤ s) (hs : s < 18446744073709551616) (ht0 : 0 ≤ t) (ht : t < 18446744073709551616) (hs0' : 0 ≤ s') (hs' : s' < 18446744073709551616) (ht0' : 0 ≤ t') (ht' : t' < 18446744073709551616) :
    Calls Try.prog 3 #[.agg #[.int .i64 c, .int .i64 f, .int .u64 s, .int .u64 t, .string d], .agg #[.int .i64 c', .int .i64 f', .int .u64 s', .int .u64 t', .string d']] w fun e w' => e = .returned (.bool true) ∧ Below w.heap.size w w' := by
  by_cases h : 300 < (d.size : Int)
  · exact apart_long _ _ _ _ _ _ _ _ _ _ _ (.inl h)
  by_cases h2 : 300 < (d'.size : Int)
  · exact apart_long _ _ _ _ _ _ _ _ _ _ _ (.inr ⟨h, h2⟩)
  cases hr : rightP c f d
  · cases hr2 : rightP c' f' d'
    · exact apart_nn _ _ _ _ _ _ _ _ _ _ _ h h2 hr hr2
    · exact apart_ny _ _ _ _ _ _ _ _ _ _ _ h h2 hr hr2 hs0' hs' ht0' ht'
  · cases hr2 : rightP c' f' d'
    · exact apart_yn _ _ _ _ _ _ _ _ _ _ _ h h2 hr hr2 hs0 hs ht0 ht
    · have hp := fun w => put_E c f s t d w hr hs0 hs ht0 ht
      have hp2 := fun w => put_E c' f' s' t' d' w hr2 hs0' hs' ht0' ht'
      simp [rightP] at hr hr2
      obtain ⟨c, rfl⟩ := Int.eq_ofNat_of_zero_le (show 0 ≤ c by omega)
      obtain ⟨f, rfl⟩ := Int.eq_ofNat_of_zero_le (show 0 ≤ f by omega)
      obtain ⟨s, rfl⟩ := Int.eq_ofNat_of_zero_le hs0
      obtain ⟨t, rfl⟩ := Int.eq_ofNat_of_zero_le ht0
      obtain ⟨c', rfl⟩ := Int.eq_ofNat_of_zero_le (show 0 ≤ c' by omega)
      obtain ⟨f', rfl⟩ := Int.eq_ofNat_of_zero_le (show 0 ≤ f' by omega)
      obtain ⟨s', rfl⟩ := Int.eq_ofNat_of_zero_le hs0'
      obtain ⟨t', rfl⟩ := Int.eq_ofNat_of_zero_le ht0'
      simp only [Int.toNat_natCast] at hp hp2
      have hpre : ∀ z, (E c f s t d).data.toList ++ z = (E c' f' s' t' d').data.toList → c = c' ∧ f = f' ∧ s = s' ∧ t = t' ∧ d = d' :=
        fun z hz => E_pre _ _ _ _ _ _ _ _ _ _ z (by omega) (by omega) (by omega) (by omega) (by omega) (by omega) (by omega) (by omega) (by omega) (by omega) hz
      have hpre' : ∀ z, (E c' f' s' t' d').data.toList ++ z = (E c f s t d).data.toList → c = c' ∧ f = f' ∧ s = s' ∧ t = t' ∧ d = d' := by
        intro z hz
        obtain ⟨e1, e2, e3, e4, e5⟩ := E_pre _ _ _ _ _ _ _ _ _ _ z (by omega) (by omega) (by omega) (by omega) (by omega) (by omega) (by omega) (by omega) (by omega) (by omega) hz
        exact ⟨e1.symm, e2.symm, e3.symm, e4.symm, e5.symm⟩
      obtain ⟨q, hq⟩ : ∃ q : Bool, (c = c' ∧ f = f' ∧ s = s' ∧ t = t' ∧ d = d') ↔ q = true := by
        by_cases e : c = c' ∧ f = f' ∧ s = s' ∧ t = t' ∧ d = d'
        · exact ⟨true, by simpa using e⟩
        · exact ⟨false, by simpa using e⟩
      have hE : E c f s t d = E c' f' s' t' d' ↔ q = true := by
        refine ⟨fun e => hq.1 (hpre [] (by rw [e, List.append_nil])), fun e => ?_⟩
        obtain ⟨e1, e2, e3, e4, e5⟩ := hq.2 e
        subst e1 e2 e3 e4 e5
        rfl
      have hqq : ((c : Int) == c' && ((f : Int) == f' && ((s : Int) == s' && ((t : Int) == t' && (d.toList == d'.toList))))) = q := by
        rw [Bool.eq_iff_iff, ← hq]
        simp only [Bool.and_eq_true, beq_iff_eq, toList_iff]
        exact ⟨fun ⟨e1, e2, e3, e4, e5⟩ => ⟨by omega, by omega, by omega, by omega, e5⟩, fun ⟨e1, e2, e3, e4, e5⟩ => ⟨by omega, by omega, by omega, by omega, e5⟩⟩
      generalize E c f s t d = S at *
      generalize E c' f' s' t' d' = T at *
      have hx : ∀ (S T : ByteArray), S.size ≤ T.size → (∀ z, S.data.toList ++ z = T.data.toList → q = true) → q = false → (!((T.extract 0 S.size).toList == S.toList)) = true := by
        intro S T hle hz e
        rw [bytes_toList _ _ false ?_]
        · rfl
        · refine ⟨fun e2 => ?_, fun e2 => by cases e2⟩
          rw [← e]
          refine hz (T.data.toList.drop S.size) ?_
          have : S.data.toList = T.data.toList.take S.size := by
            have := congrArg (fun x : ByteArray => x.data.toList) e2
            simp at this
            rw [← this]
          rw [this]
          exact List.take_append_drop _ _
      by_cases hgt : (T.size : Int) < (S.size : Int)
      · exact apart_yy2 _ _ _ _ _ _ _ _ _ _ w h h2 S T q hp hp2 hqq (bytes_toList _ _ _ hE) (bytes_toList _ _ _ (by rw [← hE]; exact eq_comm)) hgt (hx T S (by omega) fun z hz => hq.1 (hpre' z hz))
      · exact apart_yy _ _ _ _ _ _ _ _ _ _ w h h2 S T q hp hp2 hqq (bytes_toList _ _ _ hE) (bytes_toList _ _ _ (by rw [← hE]; exact eq_comm)) hgt (hx S T (by omega) fun z hz => hq.1 (hpre z hz))
end Go.Proofs.Ytclpjmhanhocoaa.Digit

namespace Go.Proofs.Ytclpjmhanhocoaa.packetApart
open Go.ChangeShapes Go.WideShapes Go.ChangeAt Go.RowKit
open Go.Joins Go.Deep
set_option maxRecDepth 100000
theorem own : ownKnob Try.prog.godebug = none := by kernel_rfl
theorem laidOut : laidOutB Try.prog = true := by kernel_rfl
theorem open_agg5 {H : Type} {enc : TypeId × Value → H} {P : Program} {w : World} {base : Nat} {spare : Nat → Bool} {held : Bool} {r : Reach} {b0 : Nat} {t : TypeId} {f0 f1 f2 f3 f4 : Field} {v : Value} {d : DataW H} {p : List MemPlace} (hs : P.underlying t = some (.struct #[f0, f1, f2, f3, f4])) (hone : oneCellFields P #[f0, f1, f2, f3, f4] = true) (hC : P.cellsOf t = 5)
    (hv : Value.okWide P w r b0 t v) (h : DataW.Trod enc P w base spare held t v d p) :
    ∃ (v0 v1 v2 v3 v4 : Value) (y0 y1 y2 y3 y4 : DataW H × List MemPlace) (n : Nat), v = .agg #[v0, v1, v2, v3, v4] ∧ d = .agg [y0.1, y1.1, y2.1, y3.1, y4.1] ∧ p = y0.2 ++ (y1.2 ++ (y2.2 ++ (y3.2 ++ y4.2))) ∧
      DataW.trod enc P w base spare held n f0.type [v0] = some y0 ∧ DataW.trod enc P w base spare held n f1.type [v1] = some y1 ∧ DataW.trod enc P w base spare held n f2.type [v2] = some y2 ∧ DataW.trod enc P w base spare held n f3.type [v3] = some y3 ∧ DataW.trod enc P w base spare held n f4.type [v4] = some y4 := by
  obtain ⟨cs, rfl, hsz⟩ := okWide_struct hs hv
  obtain ⟨l⟩ := cs
  match l, hsz.trans hC with
  | [c0, c1, c2, c3, c4], _ =>
    obtain ⟨fuel, hf⟩ := h
    obtain ⟨xs, n, _, hx, _, hlen, hg⟩ := DataW.trod_struct hs hf
    obtain ⟨o0, k0⟩ := hone_of hone 0 f0 rfl
    obtain ⟨o1, k1⟩ := hone_of hone 1 f1 rfl
    obtain ⟨o2, k2⟩ := hone_of hone 2 f2 rfl
    obtain ⟨o3, k3⟩ := hone_of hone 3 f3 rfl
    obtain ⟨o4, k4⟩ := hone_of hone 4 f4 rfl
    match xs, hlen with
    | [y0, y1, y2, y3, y4], _ =>
      simp only [Prod.mk.injEq] at hx
      exact ⟨c0, c1, c2, c3, c4, y0, y1, y2, y3, y4, n, rfl, by simpa using hx.1, by simpa using hx.2, by simpa [Value.cells, o0, k0] using hg 0 f0 rfl, by simpa [Value.cells, o1, k1] using hg 1 f1 rfl, by simpa [Value.cells, o2, k2] using hg 2 f2 rfl, by simpa [Value.cells, o3, k3] using hg 3 f3 rfl, by simpa [Value.cells, o4, k4] using hg 4 f4 rfl⟩
/-- an argument that is a packet -/
theorem open_packet {H : Type} {enc : TypeId × Value → H} {w : World} {base : Nat} {spare : Nat → Bool} {held : Bool} {r : Reach} {b0 : Nat} {v : Value} {d : DataW H} {p : List MemPlace} (hv : Value.okWide Try.prog w r b0 24 v) (h : DataW.Trod enc Try.prog w base spare held 24 v d p) :
    ∃ (c f s t : Int) (x : ByteArray), v = .agg #[.int .i64 c, .int .i64 f, .int .u64 s, .int .u64 t, .string x] ∧ 0 ≤ s ∧ s < 18446744073709551616 ∧ 0 ≤ t ∧ t < 18446744073709551616 := by
  obtain ⟨v0, v1, v2, v3, v4, y0, y1, y2, y3, y4, n, rfl, _, _, h0, h1, h2, h3, h4⟩ := open_agg5 Try.underlying24 (by kernel_rfl) (by kernel_rfl) hv h
  obtain ⟨a0, e0, _, _⟩ := DataW.trod_int Try.underlying3 h0
  obtain ⟨a1, e1, _, _⟩ := DataW.trod_int Try.underlying3 h1
  obtain ⟨a2, e2, _, k2⟩ := DataW.trod_int Try.underlying22 h2
  obtain ⟨a3, e3, _, k3⟩ := DataW.trod_int Try.underlying22 h3
  obtain ⟨a4, e4, _, _⟩ := DataW.trod_string Try.underlying9 h4
  simp at e0 e1 e2 e3 e4
  subst e0 e1 e2 e3 e4
  have m1 : IntKind.u64.min = 0 := rfl
  have m2 : IntKind.u64.max = 18446744073709551615 := rfl
  simp only [Lit.wf, Bool.and_eq_true, decide_eq_true_eq, m1, m2] at k2 k3
  exact ⟨a0, a1, a2, a3, a4, rfl, by omega, by omega, by omega, by omega⟩

set_option maxRecDepth 100000 in
theorem lifted (os : Os) (started : os.Started) (H : Type) (enc : TypeId × Value → H) :
    ReturnsInHanded {} Try.checked os 3 .any (Rows.packetApartSpec.pre6 enc Try.prog Try.f3 Rows.packetApartRow.domain false) (Rows.packetApartSpec.post enc Try.prog Try.f3 false true false false) := by
  refine returnsInHanded_of_change (C := Try.checked) own started (by kernel_rfl) Try.func3
    (ChangeSpec.witness6 (enc := enc) (C := Try.checked) false ⟨#[], #[.agg #[.int .i64 0, .int .i64 0, .int .u64 0, .int .u64 0, .string ByteArray.empty], .agg #[.int .i64 0, .int .i64 0, .int .u64 0, .int .u64 0, .string ByteArray.empty]], []⟩ 8 (by kernel_rfl) (by kernel_rfl) (by kernel_rfl) (by kernel_rfl)) ?_
  intro W base args ds gs before hval0 hW hcnd _
  have hval : ∀ (j : Nat) t v, Try.f3.params[j]? = some t → args[j]? = some v → Value.okWide Try.prog W .any base t v := hval0
  have hW' := hW
  obtain ⟨p, q, hA0, hV, rfl, hfz, hnd⟩ := hW
  have hA : DataW.TrodAll enc Try.prog W 0 (fun _ => true) true Try.f3.params.toList args.toList ds p := hA0
  rw [Try.params3] at hA hval
  obtain ⟨v0, v1, d0, d1, p0, p1, rfl, rfl, rfl, h0, h1⟩ := trodAll_two hA
  obtain ⟨rfl, rfl⟩ := trodVars_none hV
  have k0 := h0
  have k1 := h1
  have lt0 : ∀ x ∈ p0, x.block < W.heap.size := by obtain ⟨m, hm⟩ := k0; exact DataW.trod_lt m _ _ _ hm
  have lt1 : ∀ x ∈ p1, x.block < W.heap.size := by obtain ⟨m, hm⟩ := k1; exact DataW.trod_lt m _ _ _ hm
  obtain ⟨c, f, s, t, x, rfl, b1, b2, b3, b4⟩ := open_packet (hval 0 24 v0 rfl rfl) h0
  obtain ⟨c', f', s', t', x', rfl, b1', b2', b3', b4'⟩ := open_packet (hval 1 24 v1 rfl rfl) h1
  clear hA0 hval0
  simp only [List.append_nil] at hW'
  refine (Digit.apart c f s t x c' f' s' t' x' W b1 b2 b3 b4 b1' b2' b3' b4').mono fun e W' ⟨he, bel⟩ => ?_
  subst he
  exact ⟨_, rfl, _, _, _, [], _, [], hW', trodAll_mk1 (shut_bool Try.underlying4 _), trodAll_mk2 (Below.trod laidOut (by kernel_rfl) (of_decide_eq_true (by kernel_rfl)) k0 bel lt0) (Below.trod laidOut (by kernel_rfl) (of_decide_eq_true (by kernel_rfl)) k1 bel lt1), rfl, bel.frame _, fun h => by cases h⟩

theorem over : Rows.packetApartRow.holds Try.pinned (OpenSpec.ofChange Rows.packetApartSpec) :=
  OpenClaim.holds_of_wide 3 Try.f3 rfl rfl rfl rfl rfl rfl rfl ⟨rfl, rfl, rfl, rfl, rfl⟩ rfl rfl rfl rfl rfl (by kernel_rfl) Try.func3 (by kernel_rfl)
    (of_decide_eq_true (by kernel_rfl)) (by unfold Func.isWrapper; first | (rw [if_pos (by decide +kernel)]; kernel_rfl) | (rw [if_neg (by decide +kernel)]; exact ⟨rfl, rfl⟩))
    (fun os started H enc _ => lifted os started H enc)
end Go.Proofs.Ytclpjmhanhocoaa.packetApart
namespace Go.Proofs.Ytclpjmhanhocoaa
theorem packetApart_holds : Rows.PacketApartSaid := packetApart.over
#print axioms packetApart_holds
end Go.Proofs.Ytclpjmhanhocoaa
