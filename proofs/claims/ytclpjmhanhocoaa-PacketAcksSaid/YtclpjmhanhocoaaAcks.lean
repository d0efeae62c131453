/- The law PacketAcks, and its row. Conditions: as stated in each theorem. -/
import Derived.Test.YtclpjmhanhocoaaShaAck
import Derived.Test.YtclpjmhanhocoaaPacket
import Derived.ProofKit
import Derived.OpenShut
import Derived.Lib.SmallJoins
import Derived.Deep.Slices
import Derived.Deep.Fields
import Derived.ChangeSame
set_option linter.unusedVariables false
set_option linter.unusedSimpArgs false
namespace Go.Proofs.Ytclpjmhanhocoaa.Acks
open Go.RowKit Base Sha ShaRot ShaTab ShaRow ShaSpread ShaInv ShaTurn ShaApp ShaPad ShaOf ShaOfRef ShaAck
set_option maxRecDepth 100000

theorem toList_iff (a b : ByteArray) : a.toList = b.toList ↔ a = b := by
  rw [ByteArray.toList_eq, ByteArray.toList_eq]
  obtain ⟨⟨x⟩⟩ := a
  obtain ⟨⟨y⟩⟩ := b
  simp
def P5 (c f s t : Int) (d : ByteArray) : Array Value := #[.int .i64 c, .int .i64 f, .int .u64 s, .int .u64 t, .string d]
def SS (w1 w' : World) (g g' : Nat) (v0 v1 v2 v3 v4 u0 u1 u2 u3 u4 : Value) : Prop :=
  w'.cell? ⟨g, 0, none⟩ = some v0 ∧ w'.cell? ⟨g, 1, none⟩ = some v1 ∧ w'.cell? ⟨g, 2, none⟩ = some v2 ∧ w'.cell? ⟨g, 3, none⟩ = some v3 ∧ w'.cell? ⟨g, 4, none⟩ = some v4 ∧ w'.cell? ⟨g', 0, none⟩ = some u0 ∧ w'.cell? ⟨g', 1, none⟩ = some u1 ∧ w'.cell? ⟨g', 2, none⟩ = some u2 ∧ w'.cell? ⟨g', 3, none⟩ = some u3 ∧ w'.cell? ⟨g', 4, none⟩ = some u4 ∧ Below w1.heap.size w1 w'
theorem keepSS {w1 w' : World} {g g' : Nat} {v0 v1 v2 v3 v4 u0 u1 u2 u3 u4 : Value} (h : Row w1 g #[v0, v1, v2, v3, v4] 24) (h' : Row w1 g' #[u0, u1, u2, u3, u4] 24) (hb : Below w1.heap.size w1 w') : SS w1 w' g g' v0 v1 v2 v3 v4 u0 u1 u2 u3 u4 :=
  ⟨(h.below hb).cell 0 rfl, (h.below hb).cell 1 rfl, (h.below hb).cell 2 rfl, (h.below hb).cell 3 rfl, (h.below hb).cell 4 rfl, (h'.below hb).cell 0 rfl, (h'.below hb).cell 1 rfl, (h'.below hb).cell 2 rfl, (h'.below hb).cell 3 rfl, (h'.below hb).cell 4 rfl, hb⟩
theorem two_rows (w : World) (X Y : Array Value) (T : TypeId) : Row ((w.alloc (.cells X T)).alloc (.cells Y T)) w.heap.size X T ∧ Row ((w.alloc (.cells X T)).alloc (.cells Y T)) (w.heap.size + 1) Y T ∧ Below w.heap.size w ((w.alloc (.cells X T)).alloc (.cells Y T)) := by
  refine ⟨(Row.new w X T).alloc _, ?_, ((Below.refl _ _).alloc (Nat.le_refl _) _).alloc (by simp) _⟩
  have := Row.new (w.alloc (.cells X T)) Y T
  rwa [World.size_alloc] at this
set_option maxHeartbeats 1000000 in
theorem big (c f s t : Int) (d : ByteArray) (c' f' s' t' : Int) (d' : ByteArray) (w : World) (h : ¬ (d.size ≤ 300 ∧ d'.size ≤ 300)) : Calls Try.prog 8 #[.agg #[.int .i64 c, .int .i64 f, .int .u64 s, .int .u64 t, .string d], .agg #[.int .i64 c', .int .i64 f', .int .u64 s', .int .u64 t', .string d']] w fun e w' => e = .returned (.bool true) ∧ Below w.heap.size w w' := by
  by_cases h1 : d.size ≤ 300
  · have h2 : ¬ d'.size ≤ 300 := fun k => h ⟨h1, k⟩
    have d1 : decide ((300 : Int) < (d.size : Int)) = false := by simp; omega
    have d2 : decide ((300 : Int) < (d'.size : Int)) = true := by simp; omega
    clear h
    go_enter Try.func8, Try.ntmps8
    go_wp2_with (go_at_call 10; refine (Digit.awake _).mono ?_; rintro e w2 ⟨rfl, hb⟩)
    go_ret
    exact ⟨rfl, (((Below.refl w.heap.size w).alloc (Nat.le_refl _) _).alloc (by simp) _).trans (hb.mono (by simp; omega))⟩
  · have d1 : decide ((300 : Int) < (d.size : Int)) = true := by simp; omega
    clear h
    go_enter Try.func8, Try.ntmps8
    go_wp2_with (go_at_call 10; refine (Digit.awake _).mono ?_; rintro e w2 ⟨rfl, hb⟩)
    go_ret
    exact ⟨rfl, (((Below.refl w.heap.size w).alloc (Nat.le_refl _) _).alloc (by simp) _).trans (hb.mono (by simp; omega))⟩
set_option maxHeartbeats 1000000 in
theorem small (c f s t : Int) (d : ByteArray) (c' f' s' t' : Int) (d' : ByteArray) (w : World) (h1 : d.size ≤ 300) (h2 : d'.size ≤ 300) : Calls Try.prog 8 #[.agg #[.int .i64 c, .int .i64 f, .int .u64 s, .int .u64 t, .string d], .agg #[.int .i64 c', .int .i64 f', .int .u64 s', .int .u64 t', .string d']] w fun e w' => e = .returned (.bool true) ∧ Below w.heap.size w w' := by
  have d1 : decide ((300 : Int) < (d.size : Int)) = false := by simp; omega
  have d2 : decide ((300 : Int) < (d'.size : Int)) = false := by simp; omega
  have hx := fun w => idx (s := ackS d) (i := 0) (j := 0) rfl (by unfold ackS; rw [mkS_size]; simp [ackL]) w
  have hb4 : by4 (ackS d).data.toList 0 = 1 := by unfold ackS; rw [mkS_list]; rfl
  rw [hb4] at hx
  have hsz : (ackS d).size = 5 := by unfold ackS; rw [mkS_size]; rfl
  have A1 := Lib.hid (ack c f s t d h1)
  have A2 := Lib.hid (ack c' f' s' t' d' h2)
  have A3 := Lib.hid (refAck c f s t d h1)
  clear hb4
  obtain ⟨r1, r2, r3⟩ := two_rows w #[.int .i64 c, .int .i64 f, .int .u64 s, .int .u64 t, .string d] #[.int .i64 c', .int .i64 f', .int .u64 s', .int .u64 t', .string d'] 24
  have hkN := fun w2 (hb : Below _ _ w2) => keepSS r1 r2 hb
  have HKN := Lib.hid hkN
  have HK0 := Lib.hid (hkN _ (belowDrew (Below.refl _ _)))
  have HR3 := Lib.hid r3
  clear r1 r2 r3 hkN
  go_enter Try.func8, Try.ntmps8
  go_wp2_with fail
  generalize World.alloc _ _ = w1 at *
  go_region_held3 (fun w' => w'.cell? ⟨w.heap.size, 0, none⟩ = some (.int .i64 c) ∧ w'.cell? ⟨w.heap.size, 1, none⟩ = some (.int .i64 f) ∧ w'.cell? ⟨w.heap.size, 2, none⟩ = some (.int .u64 s) ∧ w'.cell? ⟨w.heap.size, 3, none⟩ = some (.int .u64 t) ∧ w'.cell? ⟨w.heap.size, 4, none⟩ = some (.string d) ∧ w'.cell? ⟨w.heap.size + 1, 0, none⟩ = some (.int .i64 c') ∧ w'.cell? ⟨w.heap.size + 1, 1, none⟩ = some (.int .i64 f') ∧ w'.cell? ⟨w.heap.size + 1, 2, none⟩ = some (.int .u64 s') ∧ w'.cell? ⟨w.heap.size + 1, 3, none⟩ = some (.int .u64 t') ∧ w'.cell? ⟨w.heap.size + 1, 4, none⟩ = some (.string d') ∧ Below w1.heap.size w1 w')
    (first | exact HK0.out | exact HKN.out _ (nextS (by assumption : _ ∧ _ ∧ _ ∧ _ ∧ _ ∧ _ ∧ _ ∧ _ ∧ _ ∧ _ ∧ _).2.2.2.2.2.2.2.2.2.2 hb))
    (first | (go_at_call_of 40 (Value.string d); refine (A1.out _).mono ?_; rintro e w9 ⟨rfl, hb⟩) | (go_at_call 40; refine (A2.out _).mono ?_; rintro e w9 ⟨rfl, hb⟩))
  have hbb := (by assumption : _ ∧ _ ∧ _ ∧ _ ∧ _ ∧ _ ∧ _ ∧ _ ∧ _ ∧ _ ∧ _).2.2.2.2.2.2.2.2.2.2
  have HBB := Lib.hid hbb
  clear hbb
  obtain ⟨k0, k1, k2, k3, k4, l0, l1, l2, l3, l4, _⟩ := HKN.out _ HBB.out
  by_cases hdd : d = d'
  · subst hdd
    go_wp2_with (first | (go_at_call 41; refine (A3.out _).mono ?_; rintro e w6 ⟨rfl, hb6⟩) | (go_at_call 10; refine (Digit.awake _).mono ?_; rintro e w7 ⟨rfl, hb7⟩; obtain ⟨k0, k1, k2, k3, k4, l0, l1, l2, l3, l4, _⟩ := HKN.out w7 (nextS (nextS HBB.out hb6) hb7)))
    go_ret
    exact ⟨rfl, HR3.out.trans ((nextS (nextS HBB.out hb6) hb7).mono HR3.out.size)⟩
  · have hne : (d.toList == d'.toList) = false := by
      rw [beq_eq_false_iff_ne]
      intro e
      exact hdd ((toList_iff _ _).1 e)
    go_wp2_with (first | (go_at_call 41; refine (A3.out _).mono ?_; rintro e w6 ⟨rfl, hb6⟩) | (go_at_call 10; refine (Digit.awake _).mono ?_; rintro e w7 ⟨rfl, hb7⟩; obtain ⟨k0, k1, k2, k3, k4, l0, l1, l2, l3, l4, _⟩ := HKN.out w7 (nextS (nextS HBB.out hb6) hb7)))
    go_ret
    exact ⟨rfl, HR3.out.trans ((nextS (nextS HBB.out hb6) hb7).mono HR3.out.size)⟩
theorem law (c f s t : Int) (d : ByteArray) (c' f' s' t' : Int) (d' : ByteArray) (w : World) : Calls Try.prog 8 #[.agg #[.int .i64 c, .int .i64 f, .int .u64 s, .int .u64 t, .string d], .agg #[.int .i64 c', .int .i64 f', .int .u64 s', .int .u64 t', .string d']] w fun e w' => e = .returned (.bool true) ∧ Below w.heap.size w w' := by
  by_cases h : d.size ≤ 300 ∧ d'.size ≤ 300
  · exact small c f s t d c' f' s' t' d' w h.1 h.2
  · exact big c f s t d c' f' s' t' d' w h
end Go.Proofs.Ytclpjmhanhocoaa.Acks
namespace Go.Proofs.Ytclpjmhanhocoaa.packetAcks
open Go.ChangeShapes Go.WideShapes Go.ChangeAt Go.RowKit
open Go.Joins Go.Deep
set_option maxRecDepth 100000
theorem own : ownKnob Try.prog.godebug = none := by kernel_rfl
theorem laidOut : laidOutB Try.prog = true := by kernel_rfl
theorem open_agg5 {H : Type} {enc : TypeId × Value → H} {P : Program} {w : World} {base : Nat} {spare : Nat → Bool} {held : Bool} {r : Reach} {b0 : Nat} {t : TypeId} {f0 f1 f2 f3 f4 : Field} {v : Value} {d : DataW H} {p : List MemPlace} (hs : P.underlying t = some (.struct #[f0, f1, f2, f3, f4])) (hone : oneCellFields P #[f0, f1, f2, f3, f4] = true) (hC : P.cellsOf t = 5)
    (hv : Value.okWide P w r b0 t v) (h : DataW.Trod enc P w base spare held t v d p) :
    ∃ (v0 v1 v2 v3 v4 : Value) (y0 y1 y2 y3 y4 : DataW H × List MemPlace) (n : Nat), v = .agg #[v0, v1, v2, v3, v4] ∧ d = .agg [y0.1, y1.1, y2.1, y3.1, y4.1] ∧ p = y0.2 ++ (y1.2 ++ (y2.2 ++ (y3.2 ++ y4.2))) ∧
      DataW.trod enc P w base spare held n f0.type [v0] = some y0 ∧ DataW.trod enc P w base spare held n f1.type [v1] = some y1 ∧ DataW.trod enc P w base spare held n f2.type [v2] = some y2 ∧ DataW.trod enc P w base spare held n f3.type [v3] = some y3 ∧ DataW.trod enc P w base spare held n f4.type [v4] = some y4 := by
  obtain ⟨cs, rfl, hsz⟩ := okWide_struct hs hv
  obtain ⟨l⟩ := cs
  match l, hsz.trans hC with
  | [c0, c1, c2, c3, c4], _ =>
    obtain ⟨fuel, hf⟩ := h
    obtain ⟨xs, n, _, hx, _, hlen, hg⟩ := DataW.trod_struct hs hf
    obtain ⟨o0, k0⟩ := hone_of hone 0 f0 rfl
    obtain ⟨o1, k1⟩ := hone_of hone 1 f1 rfl
    obtain ⟨o2, k2⟩ := hone_of hone 2 f2 rfl
    obtain ⟨o3, k3⟩ := hone_of hone 3 f3 rfl
    obtain ⟨o4, k4⟩ := hone_of hone 4 f4 rfl
    match xs, hlen with
    | [y0, y1, y2, y3, y4], _ =>
      simp only [Prod.mk.injEq] at hx
      exact ⟨c0, c1, c2, c3, c4, y0, y1, y2, y3, y4, n, rfl, by simpa using hx.1, by simpa using hx.2, by simpa [Value.cells, o0, k0] using hg 0 f0 rfl, by simpa [Value.cells, o1, k1] using hg 1 f1 rfl, by simpa [Value.cells, o2, k2] using hg 2 f2 rfl, by simpa [Value.cells, o3, k3] using hg 3 f3 rfl, by simpa [Value.cells, o4, k4] using hg 4 f4 rfl⟩
/-- an argument that is a packet -/
theorem open_packet {H : Type} {enc : TypeId × Value → H} {w : World} {base : Nat} {spare : Nat → Bool} {held : Bool} {r : Reach} {b0 : Nat} {v : Value} {d : DataW H} {p : List MemPlace} (hv : Value.okWide Try.prog w r b0 24 v) (h : DataW.Trod enc Try.prog w base spare held 24 v d p) :
    ∃ (c f s t : Int) (x : ByteArray), v = .agg #[.int .i64 c, .int .i64 f, .int .u64 s, .int .u64 t, .string x] ∧ 0 ≤ s ∧ s < 18446744073709551616 ∧ 0 ≤ t ∧ t < 18446744073709551616 := by
  obtain ⟨v0, v1, v2, v3, v4, y0, y1, y2, y3, y4, n, rfl, _, _, h0, h1, h2, h3, h4⟩ := open_agg5 Try.underlying24 (by kernel_rfl) (by kernel_rfl) hv h
  obtain ⟨a0, e0, _, _⟩ := DataW.trod_int Try.underlying3 h0
  obtain ⟨a1, e1, _, _⟩ := DataW.trod_int Try.underlying3 h1
  obtain ⟨a2, e2, _, k2⟩ := DataW.trod_int Try.underlying22 h2
  obtain ⟨a3, e3, _, k3⟩ := DataW.trod_int Try.underlying22 h3
  obtain ⟨a4, e4, _, _⟩ := DataW.trod_string Try.underlying9 h4
  simp at e0 e1 e2 e3 e4
  subst e0 e1 e2 e3 e4
  have m1 : IntKind.u64.min = 0 := rfl
  have m2 : IntKind.u64.max = 18446744073709551615 := rfl
  simp only [Lit.wf, Bool.and_eq_true, decide_eq_true_eq, m1, m2] at k2 k3
  exact ⟨a0, a1, a2, a3, a4, rfl, by omega, by omega, by omega, by omega⟩

theorem lifted (os : Os) (started : os.Started) (H : Type) (enc : TypeId × Value → H) :
    ReturnsInHanded {} Try.checked os 8 .any (Rows.packetAcksSpec.pre6 enc Try.prog Try.f8 Rows.packetAcksRow.domain false) (Rows.packetAcksSpec.post enc Try.prog Try.f8 false true false false) := by
  refine returnsInHanded_of_change (C := Try.checked) own started (by kernel_rfl) Try.func8
    (ChangeSpec.witness6 (enc := enc) (C := Try.checked) false ⟨#[], #[.agg #[.int .i64 0, .int .i64 0, .int .u64 0, .int .u64 0, .string ByteArray.empty], .agg #[.int .i64 0, .int .i64 0, .int .u64 0, .int .u64 0, .string ByteArray.empty]], []⟩ 8 (by kernel_rfl) (by kernel_rfl) (by kernel_rfl) (by kernel_rfl)) ?_
  intro W base args ds gs before hval0 hW hcnd _
  have hval : ∀ (j : Nat) t v, Try.f8.params[j]? = some t → args[j]? = some v → Value.okWide Try.prog W .any base t v := hval0
  have hW' := hW
  obtain ⟨p, q, hA0, hV, rfl, hfz, hnd⟩ := hW
  have hA : DataW.TrodAll enc Try.prog W 0 (fun _ => true) true Try.f8.params.toList args.toList ds p := hA0
  rw [Try.params8] at hA hval
  obtain ⟨v0, vs0, d0, ds0, p0, q0, hargs, rfl, rfl, h0, r0⟩ := trodAll_cons hA
  obtain ⟨v1, vs1, d1, ds1, p1, q1, rfl, rfl, rfl, h1, r1⟩ := trodAll_cons r0
  obtain ⟨rfl, rfl, rfl⟩ := trodAll_nil r1
  obtain rfl : args = #[v0, v1] := by cases args; simp_all
  obtain ⟨rfl, rfl⟩ := trodVars_none hV
  have k0 := h0
  have lt0 : ∀ x ∈ p0, x.block < W.heap.size := by obtain ⟨m, hm⟩ := k0; exact DataW.trod_lt m _ _ _ hm
  have k1 := h1
  have lt1 : ∀ x ∈ p1, x.block < W.heap.size := by obtain ⟨m, hm⟩ := k1; exact DataW.trod_lt m _ _ _ hm
  obtain ⟨c, f, s, t, x, rfl, b1, b2, b3, b4⟩ := open_packet (hval 0 24 v0 rfl rfl) h0
  obtain ⟨c', f', s', t', x', rfl, b1', b2', b3', b4'⟩ := open_packet (hval 1 24 v1 rfl rfl) h1
  clear hA0 hval0
  refine (Acks.law c f s t x c' f' s' t' x' W).mono fun e W' ⟨he, bel⟩ => ?_
  subst he
  exact ⟨_, rfl, _, _, _, [], _, [], hW', trodAll_mk1 (shut_bool Try.underlying4 _), (trodAll_cons_mk (Below.trod laidOut (by kernel_rfl) (of_decide_eq_true (by kernel_rfl)) k0 bel lt0) (trodAll_cons_mk (Below.trod laidOut (by kernel_rfl) (of_decide_eq_true (by kernel_rfl)) k1 bel lt1) trodAll_mk0)), rfl, bel.frame _, fun h => by cases h⟩
theorem over : Rows.packetAcksRow.holds Try.pinned (OpenSpec.ofChange Rows.packetAcksSpec) :=
  OpenClaim.holds_of_wide 8 Try.f8 rfl rfl rfl rfl rfl rfl rfl ⟨rfl, rfl, rfl, rfl, rfl⟩ rfl rfl rfl rfl rfl (by kernel_rfl) Try.func8 (by kernel_rfl)
    (of_decide_eq_true (by kernel_rfl)) (by unfold Func.isWrapper; first | (rw [if_pos (by decide +kernel)]; kernel_rfl) | (rw [if_neg (by decide +kernel)]; exact ⟨rfl, rfl⟩))
    (fun os started H enc _ => lifted os started H enc)
end Go.Proofs.Ytclpjmhanhocoaa.packetAcks
namespace Go.Proofs.Ytclpjmhanhocoaa
theorem packetAcks_holds : Rows.PacketAcksSaid := packetAcks.over
#print axioms packetAcks_holds
end Go.Proofs.Ytclpjmhanhocoaa
