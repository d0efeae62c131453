/- slices.Clone and batch.Part at five messages, two at a time. Conditions: as stated in each theorem. -/
import Derived.Test.YtclpjmhanhocoaaSubIter
import Derived.Laws.OwnMore
import Derived.Laws.Cover3
import Derived.Lib.Hide
import Derived.OwnWalk
import Derived.WalkSpells
import Derived.BigQuiet
import Derived.Maps.AppendAt
set_option linter.unusedVariables false
set_option linter.unusedSimpArgs false
namespace Go.Proofs.Ytclpjmhanhocoaa.SubPart
open Go.RowKit Go.Shelf SubIter
set_option maxRecDepth 100000

/-- cells that are there -/
def Row (w : World) (b o : Nat) (cs : List Value) : Prop := (∀ j u, cs[j]? = some u → w.cell? ⟨b, o + j, none⟩ = some u) ∧ ∀ u ∈ cs, u.oneCell' = true
theorem info86 : (Try.prog.info? 86).map (fun i => (i.size, i.bytes, i.zero.map fun z => z.cells.size)) = some (7, 72, some 7) := by kernel_rfl
theorem eql_nil (a : Addr) (l c : Nat) (w : World) : (binOp .eql 64 (.slice (some a) l c) (.slice none 0 0)).run Try.prog w = .ok (.bool false) w := by
  simp only [binOp]
  simp [run_equal_slice_nil w 64 86 (some a) l c Try.underlying64]
theorem clone (b o n c : Nat) (cs : List Value) (hn : cs.length = n * 7) (hs : n ≤ 5) (w : World) (hR : Row w b o cs) :
    Calls Try.prog 82 #[.slice (some ⟨b, o, none⟩) n c] w fun e w' => (∃ a m k, e = .returned (.slice a m k)) ∧ Below w.heap.size w w' := by
  obtain ⟨i0, hi, h0⟩ : ∃ i0, Try.prog.info? 86 = some i0 ∧ (i0.size, i0.bytes, i0.zero.map fun z => z.cells.size) = (7, 72, some 7) := by
    have := info86
    cases h : Try.prog.info? 86 with
    | none => rw [h] at this; simp at this
    | some i0 => rw [h] at this; exact ⟨i0, rfl, by simpa using this⟩
  simp only [Prod.mk.injEq] at h0
  obtain ⟨hz1, hz2, hz3⟩ := h0
  obtain ⟨z, hz0, hzs⟩ : ∃ z, i0.zero = some z ∧ z.cells.size = 7 := by
    cases h : i0.zero with
    | none => rw [h] at hz3; simp at hz3
    | some z => rw [h] at hz3; exact ⟨z, rfl, by simpa using hz3⟩
  have hown0 := World.ownsRow_lit (e := 86) (size := 7) (base := w.heap.size) w #[] 0 (Nat.le_refl _) (by unfold maxLen; omega) rfl
  have hb0 : Below w.heap.size w (w.alloc (.cells #[] 86)) := (Below.refl _ w).alloc (Nat.le_refl _) _
  have hcells : ∀ j u, cs[j]? = some u → (w.alloc (.cells #[] 86)).cell? ((⟨b, o, none⟩ : Addr).add j) = some u := by
    intro j u hu
    have hc := hR.1 j u hu
    have hadd : (⟨b, o, none⟩ : Addr).add j = ⟨b, o + j, none⟩ := by unfold Addr.add; split <;> simp_all
    rw [hadd]
    exact (hb0.cell (p := ⟨b, o + j, none⟩) (World.block_lt_of_cell? w _ hc)).trans hc
  have hone := hR.2
  have heq := fun w => eql_nil ⟨b, o, none⟩ n c w
  have HC := Lib.hid hcells
  have HO := Lib.hid hone
  have HR := Lib.hid hR
  clear hcells hone hR
  go_enter Try.func82, Try.ntmps82
  go_wp2_with (at_builtin; go_must (refine wpList_append_own _ rfl (.tmp 5) (.tmp 6) 64 rfl w.heap.size 86 i0 z 7 72 Try.underlying64 hi hz0 hz1 hz2 hzs (by decide) _ _ _ rfl hown0 ⟨b, o, none⟩ n c cs rfl hn HC.out HO.out (by unfold maxLen; omega) (by omega) (by simp) ?_); intro v3 w3 ho3 hg3 hw3)
  go_ret
  have hb3 := hb0.grown hg3 (by simp) (fun k hk => (hown0.lt k hk).1)
  rcases ho3.2 with ⟨h1, _⟩ | ⟨g, cap, cur, h1, _⟩
  · subst h1
    exact ⟨⟨_, _, _, rfl⟩, hb3⟩
  · subst h1
    exact ⟨⟨_, _, _, rfl⟩, hb3⟩

section
attribute [local go_sem] Oper.semAt_some
theorem info64 : (Try.prog.info? 64).map (fun i => (i.zero, i.size, i.bytes)) = some (some (.slice none 0 0), 1, 24) := by kernel_rfl
theorem own_holds (n₀ B0 B : Nat) : OwnFrom B (fun (pre : List (Fin 3)) W => ∃ v l, Boxed W B0 110 v ∧ W.ownsRow n₀ 64 1 v pre.length l) := by
  rintro s X Y row ⟨v, l, hv, hr⟩ hg hrow
  refine ⟨v, l, hv.kept hg (fun e' => ?_), hr.kept hg ?_⟩
  · obtain ⟨_, o, ho, hc⟩ := hrow B0 e'.symm
    rw [show X.heap[B0]? = _ from hv] at ho
    cases ho
    cases hc
  · rcases hr.2 with ⟨rfl, _⟩ | ⟨g, cap, cur, rfl, _, hgb, _⟩
    · exact .inl rfl
    · refine .inr fun e' => ?_
      obtain ⟨_, o, ho, hc⟩ := hrow g (by simpa [Value.ownBlock] using e'.symm)
      rw [hgb] at ho
      cases ho
      cases hc
theorem Row.keep {w W : World} {b o : Nat} {cs : List Value} (h : Row w b o cs) (hb : Below w.heap.size w W) : Row W b o cs :=
  ⟨fun j u hu => (hb.cell (p := ⟨b, o + j, none⟩) (World.block_lt_of_cell? w _ (h.1 j u hu))).trans (h.1 j u hu), h.2⟩
theorem Row.sub {w : World} {b : Nat} {cs : List Value} (h : Row w b 0 cs) (d n : Nat) : Row w b d ((cs.drop d).take n) := by
  refine ⟨fun j u hu => ?_, fun u hu => h.2 u (List.mem_of_mem_drop (List.mem_of_mem_take hu))⟩
  have hj : j < n := by
    have h1 := (List.getElem?_eq_some_iff.1 hu).1
    simp at h1
    omega
  rw [List.getElem?_take, if_pos hj, List.getElem?_drop] at hu
  have := h.1 (d + j) u hu
  rwa [Nat.zero_add] at this
/-- the append of one part, all that the walk wants of it -/
theorem app_run {W w3 : World} {B0 n3 L : Nat} {v u : Value} {lst : List Value} {i0 : TypeInfo} (hi : Try.prog.info? 64 = some i0) (hz0 : i0.zero = some (.slice none 0 0)) (hz1 : i0.size = 1) (hz2 : i0.bytes = 24)
    (hv : Boxed W B0 110 v) (hrow : W.ownsRow n3 64 1 v L lst) (hn3 : n3 ≤ W.heap.size) (hB0 : B0 < n3) (hL : L ≤ 3) (hu : u.oneCell' = true) (hb : Below W.heap.size W.drew w3) :
    ∃ g c w4, (Builtin.append_ #[110, 110] 110 #[v, .slice (some ⟨w3.heap.size, 0, none⟩) 1 1]).run Try.prog (w3.alloc (.cells #[u] 64)) = .ok (.slice (some ⟨g, 0, none⟩) (L + 1) c) w4 ∧
      w3.cell? ⟨B0, 0, none⟩ = some v ∧ (w3.alloc (.cells #[u] 64)).cell? ⟨B0, 0, none⟩ = some v ∧ w4.cell? ⟨B0, 0, none⟩ = some v ∧ w4.frozen? ⟨B0, 0, none⟩ = false ∧
      w4.ownsRow n3 64 1 (.slice (some ⟨g, 0, none⟩) (L + 1) c) (L + 1) (lst ++ [u]) ∧ (∀ k, k < W.heap.size → some k ≠ v.ownBlock → w4.heap[k]? = W.heap[k]?) ∧ W.heap.size ≤ w4.heap.size ∧ w4.os = W.os ∧ w4.tape = W.tape ∧ w4.output = W.output := by
  have hb' : Below W.heap.size W w3 := ⟨hb.os, hb.tape, hb.output, hb.size, hb.block⟩
  have hrow3 : w3.ownsRow n3 64 1 v L lst := hrow.kept (row := none) ⟨hb'.os, hb'.tape, hb'.output, hb'.size, fun k hk _ => hb'.block k hk⟩ (by cases v.ownBlock with | none => exact .inl rfl | some k => exact .inr (by simp))
  have hv3 : Boxed w3 B0 110 v := (hb'.block B0 hv.lt).trans hv
  obtain ⟨v4, w4, hr, hown, hg, _⟩ := run_append_own (P := Try.prog) (w3.alloc (.cells #[u] 64)) n3 110 110 64 i0 (.slice none 0 0) 1 24 Try.underlying110 hi hz0 hz1 hz2 rfl (by decide) v L lst (hrow3.alloc _) ⟨w3.heap.size, 0, none⟩ 1 1 [u] rfl (cell_one_new _ _ _) (by simpa using hu) (by unfold maxLen; omega) (by omega) (by have := hb'.size; simp; omega)
  obtain ⟨g, c, rfl⟩ := ownsRow_succ hown
  have hv4 : Boxed w4 B0 110 v := (hv3.alloc _).kept hg ((hv3.alloc (.cells #[u] 64)).not_row (by decide) (hrow3.alloc _))
  refine ⟨g, c, w4, hr, hv3.cell, (hv3.alloc _).cell, hv4.cell, hv4.frozen, hown, fun k hk hn => ?_, ?_, hg.os.trans hb'.os, hg.tape.trans hb'.tape, hg.output.trans hb'.output⟩
  · rw [hg.block k (by have := hb'.size; simp; omega) hn, Below.heap_alloc _ _ _ (by have := hb'.size; omega), hb'.block k hk]
  · have h1 := hg.size
    have h2 := hb'.size
    simp at h1
    omega
theorem body_end {w W w4 : World} {B0 n3 L : Nat} {v v4 : Value} {lst l4 : List Value} (hv : Boxed W B0 110 v) (hrow : W.ownsRow n3 64 1 v L lst) (hB0 : B0 = w.heap.size) (hn3 : n3 = w.heap.size + 3) (hn : n3 ≤ W.heap.size) (hB : Below w.heap.size w W)
    (c4 : w4.cell? ⟨B0, 0, none⟩ = some v) (hown : w4.ownsRow n3 64 1 v4 (L + 1) l4) (hk : ∀ k, k < W.heap.size → some k ≠ v.ownBlock → w4.heap[k]? = W.heap[k]?) (hs : W.heap.size ≤ w4.heap.size) (h1 : w4.os = W.os) (h2 : w4.tape = W.tape) (h3 : w4.output = W.output) :
    KeepsOthers W (w4.setCell ⟨B0, 0, none⟩ v4) ∧ Kp (w.heap.size + 1) (w.heap.size + 1 + 1) W (w4.setCell ⟨B0, 0, none⟩ v4) ∧ (Boxed (w4.setCell ⟨B0, 0, none⟩ v4) B0 110 v4 ∧ (w4.setCell ⟨B0, 0, none⟩ v4).ownsRow n3 64 1 v4 (L + 1) l4) ∧ Below w.heap.size w (w4.setCell ⟨B0, 0, none⟩ v4) := by
  have hvb : some B0 ≠ v.ownBlock := hv.not_row (by decide) hrow
  have hv4 : Boxed w4 B0 110 v := (hk B0 hv.lt hvb).trans hv
  have hlow : ∀ k, k < n3 → some k ≠ v.ownBlock := fun k hkk e => by have := (hrow.lt k e.symm).1; omega
  have hfin : ∀ k, k < W.heap.size → k ≠ B0 → some k ≠ v.ownBlock → (w4.setCell ⟨B0, 0, none⟩ v4).heap[k]? = W.heap[k]? := fun k hkk hne hnr => (Below.heap_setCell _ _ _ _ hne).trans (hk k hkk hnr)
  refine ⟨⟨by simp [World.setCell]; omega, fun k o ho hc => ?_⟩, ⟨hfin _ (by omega) (by omega) (hlow _ (by omega)), hfin _ (by omega) (by omega) (hlow _ (by omega))⟩, ⟨hv4.set v4, hown.kept (grownBy_setCell' w4 B0 v4) (.inr (hv4.not_row (by decide) hown).symm)⟩, ?_⟩
  · have hkk : k < W.heap.size := (Array.getElem?_eq_some_iff.1 ho).1
    by_cases hkB : k = B0
    · subst hkB
      rw [show W.heap[k]? = _ from hv] at ho
      cases ho
      cases hc
    · by_cases hkr : some k = v.ownBlock
      · rcases hrow.2 with ⟨rfl, _⟩ | ⟨g, cap, cur, rfl, _, hgb, _⟩
        · simp [Value.ownBlock] at hkr
        · obtain rfl : k = g := by simpa [Value.ownBlock] using hkr
          rw [hgb] at ho
          cases ho
          cases hc
      · exact (hfin k hkk hkB hkr).trans ho
  · refine hB.trans ⟨h1, h2, h3, by simp [World.setCell]; omega, fun k hkk => hfin k (by have := hB.size; omega) (by omega) (hlow k (by omega))⟩
theorem step_app {F : Fence} {n : Nat} {P : Program} {ops : Array Oper} {o : Oper} {a : Act} {K : Act → World → Prop} {Q : Exit → Act → World → Prop} {E : Prop} {W W' : World} {v : Value} (hgd : o.guard = none) (s x : Operand) (t : TypeId)
    (ho : o.op = .call { callee := .builtin .append, args := #[s, x], argTypes := #[t, t] }) (hrun : (Builtin.append_ #[t, t] o.type #[a.eval s, a.eval x]).run P W = .ok v W') (h : K (a.put o.dst v) W') :
    if Region.wanted o (yielded ops a.tmps) = true then Oper.wpIn F n P o a W K Q else E := by
  have hw : Region.wanted o (yielded ops a.tmps) = true := by simp [Region.wanted, hgd]
  rw [if_pos hw]
  unfold Oper.wpIn
  refine ⟨?_, ?_⟩
  · simp [Oper.about, ho, resolve, Target.leads, Sem.run_pure]
  · rw [Oper.semAt_plain F _ _ (by rw [ho]; intro c hc'; cases hc')]
    simp [execOp, ho, resolve, invoke, builtin, hrun, Result.andThen]
    exact h
theorem own_size (m B : Nat) : OwnFrom B (fun (_ : List (Fin 3)) W => m ≤ W.heap.size) := fun s X Y row hs hg _ => Nat.le_trans hs hg.size
set_option maxHeartbeats 4000000 in
theorem part (b cap : Nat) (hcap : 5 ≤ cap) (cs : List Value) (hn : cs.length = 35) (w : World) (hR : Row w b 0 cs) :
    Calls Try.prog 71 #[.slice (some ⟨b, 0, none⟩) 5 cap, .int .i64 2] w fun e w' => (∃ a c, e = .returned (.slice a 3 c)) ∧ Below w.heap.size w w' := by
  obtain ⟨i0, hi, hz0, hz1, hz2⟩ := info_parts info64
  refine (callsIn_wide (n := 5)).1 ?_
  refine callsIn_of_wp_marks Try.func71 rfl trivial ?_ rfl
  simp only [Try.ntmps71, List.size_toArray, List.length_cons, List.length_nil, Nat.reduceAdd, Nat.reduceSub, Array.replicate_succ, Array.replicate_zero, List.push_toArray, List.append_toArray, List.nil_append, List.cons_append]
  gi_wp2_with (refine ⟨trivial, ?_⟩; gi_at_call 81; refine (chunk_in _ 4 trivial rfl _ _ _ _).mono ?_; rintro e w' ⟨rfl, rfl⟩)
  have hB0 : Below w.heap.size w (((w.alloc (.cells #[.slice none 0 0] 110)).alloc (.cells #[.slice (some ⟨b, 0, none⟩) 5 cap] 64)).alloc (.cells #[.int .i64 2] 3)) := (((Below.refl _ w).alloc (Nat.le_refl _) _).alloc (by simp) _).alloc (by simp; omega) _
  have bO : Boxed (((w.alloc (.cells #[.slice none 0 0] 110)).alloc (.cells #[.slice (some ⟨b, 0, none⟩) 5 cap] 64)).alloc (.cells #[.int .i64 2] 3)) w.heap.size 110 (.slice none 0 0) := ((Boxed.new w 110 (.slice none 0 0)).alloc _).alloc _
  have bS : Boxed (((w.alloc (.cells #[.slice none 0 0] 110)).alloc (.cells #[.slice (some ⟨b, 0, none⟩) 5 cap] 64)).alloc (.cells #[.int .i64 2] 3)) (w.heap.size + 1) 64 (.slice (some ⟨b, 0, none⟩) 5 cap) := by
    have h := (Boxed.new (w.alloc (.cells #[.slice none 0 0] 110)) 64 (.slice (some ⟨b, 0, none⟩) 5 cap)).alloc (.cells #[.int .i64 2] 3)
    rwa [World.size_alloc] at h
  have bM : Boxed (((w.alloc (.cells #[.slice none 0 0] 110)).alloc (.cells #[.slice (some ⟨b, 0, none⟩) 5 cap] 64)).alloc (.cells #[.int .i64 2] 3)) (w.heap.size + 1 + 1) 3 (.int .i64 2) := by
    have h := Boxed.new ((w.alloc (.cells #[.slice none 0 0] 110)).alloc (.cells #[.slice (some ⟨b, 0, none⟩) 5 cap] 64)) 3 (.int .i64 2)
    rwa [World.size_alloc, World.size_alloc] at h
  refine wpIn_rangeFunc_ownG (n := 5) (F := Fence.wide) (P := Try.prog) rfl (by decide) (gf := 87) (lb := #[.pointer (some ⟨w.heap.size + 1, 0, none⟩), .pointer (some ⟨w.heap.size + 1 + 1, 0, none⟩)]) rfl trivial (enters_of Try.func87 (by kernel_rfl) rfl)
    (stops _ 4 trivial rfl (by decide) (w.heap.size + 1) (w.heap.size + 1 + 1) b cap hcap _ bS.lt bM.lt bS.cell bM.cell) kp_t (kp_b bS.lt bM.lt) (Below.refl _ _) (fun _ => rfl)
    (fun pre W => (∃ v l, Boxed W w.heap.size 110 v ∧ W.ownsRow (w.heap.size + 3) 64 1 v pre.length l) ∧ w.heap.size + 3 ≤ W.heap.size ∧ Below w.heap.size w W)
    (fun _ _ _ => False)
    (OwnFrom.and (own_holds (w.heap.size + 3) w.heap.size _) (OwnFrom.and (own_size _ _) (ownFrom_below (Nat.le_refl _) (by simp; omega))))
    (fun _ _ _ _ _ hs _ _ => hs)
    ⟨⟨_, [], bO, World.ownsRow_nil _ _ _ _⟩, by simp, hB0⟩
    (fun x => { tmps := #[.slice (some ⟨b, 0, none⟩) 5 cap, .int .i64 2, undef, undef, .slice none 0 0, .pointer (some ⟨w.heap.size, 0, none⟩), part5 b x, .int .i64 2, .bool false, .slice (some ⟨b, 0, none⟩) 5 cap, .int .i64 2, .func (.func 87) #[] #[.pointer (some ⟨w.heap.size + 1, 0, none⟩), .pointer (some ⟨w.heap.size + 1 + 1, 0, none⟩)], part5 b x, undef, undef, undef, undef, undef, undef], defers := [] }) ?assign ?body ?done ?stop
  case assign =>
    intro l x W K hK
    gi_wp2
    exact hK
  case body =>
    rintro l pre x W ⟨⟨v, lst, hv, hrow⟩, hsz, hB⟩ hlt
    have hc := hv.cell
    have hx := x.isLt
    have hpre : pre.length ≤ 3 := by omega
    obtain ⟨m, hm⟩ : ∃ m, m = (if x.val = 2 then 1 else 2) := ⟨_, rfl⟩
    have hm5 : m ≤ 5 ∧ x.val * 14 + m * 7 ≤ 35 := by split at hm <;> omega
    have hpart : part5 b x = .slice (some ⟨b, x.val * 14, none⟩) m m := by rw [hm]; rfl
    rw [hpart]
    have hsub := (hR.keep hB).sub (x.val * 14) (m * 7)
    have hlen : ((cs.drop (x.val * 14)).take (m * 7)).length = m * 7 := by simp; omega
    have hRW : Row W.drew b (x.val * 14) ((cs.drop (x.val * 14)).take (m * 7)) := hsub
    clear hpart hsub hm
    gi_wp2
    refine wpIn_region_any (by kernel_rfl) ?_
    change wpAnyIn _ _ _ _ _ _ _ _ _ (World.drew _)
    refine wpAnyIn_ready (rs := [0, 1]) (by kernel_rfl) (by simp) ?_
    refine AllReadyIn.cons rfl (fun K hK => ?_) (AllReadyIn.cons rfl (fun K hK => ?_) AllReadyIn.nil)
    · go_simp
      refine hK _ _ ?_
      clear hK K
      refine wpAnyIn_ready (rs := [1]) (by kernel_rfl) (by simp) ?_
      refine AllReadyIn.cons rfl (fun K hK => ?_) AllReadyIn.nil
      go_simp
      refine hK _ _ ?_
      clear hK K
      refine wpAnyIn_ready (rs := [2]) (by kernel_rfl) (by simp) ?_
      refine AllReadyIn.cons rfl (fun K hK => ?_) AllReadyIn.nil
      go_simp
      gi_wp2_with (refine ⟨trivial, ?_⟩; gi_at_call 82; refine (CallsIn.inRound l (callsIn_wide.2 (clone b (x.val * 14) m m _ hlen hm5.1 _ hRW))).mono ?_; rintro e w3 ⟨⟨a3, m3, k3, rfl⟩, hb3⟩; obtain ⟨g4, c4, w4, hrun4, e3, e3a, e4, f4, hown4, hk4, hs4, o4, t4, p4⟩ := app_run (u := .slice a3 m3 k3) hi hz0 hz1 hz2 hv hrow hsz (by omega) hpre rfl hb3)
      refine wpAnyIn_ready (rs := [3]) (by kernel_rfl) (by simp) ?_
      refine AllReadyIn.cons rfl (fun K hK => ?_) AllReadyIn.nil
      go_simp
      refine hK _ _ ?_
      clear hK K
      refine wpAnyIn_ready (rs := [4]) (by kernel_rfl) (by simp) ?_
      refine AllReadyIn.cons rfl (fun K hK => ?_) AllReadyIn.nil
      refine step_app rfl (.tmp 13) (.tmp 16) 110 rfl hrun4 ?_
      refine hK _ _ ?_
      clear hK K
      refine wpAnyIn_ready (rs := [5]) (by kernel_rfl) (by simp) ?_
      refine AllReadyIn.cons rfl (fun K hK => ?_) AllReadyIn.nil
      go_simp
      refine hK _ _ ?_
      clear hK K
      refine wpAnyIn_done (by kernel_rfl) ?_ _
      have hE := body_end hv hrow rfl rfl hsz hB e4 hown4 hk4 hs4 o4 t4 p4
      exact ⟨hE.1.from _, hE.2.1, ⟨_, _, hE.2.2.1.1, by simpa using hE.2.2.1.2⟩, by have h9 := hE.1.size; omega, hE.2.2.2⟩
    · go_simp
      refine hK _ _ ?_
      clear hK K
      refine wpAnyIn_ready (rs := [0, 2]) (by kernel_rfl) (by simp) ?_
      refine AllReadyIn.cons rfl (fun K hK => ?_) (AllReadyIn.cons rfl (fun K hK => ?_) AllReadyIn.nil)
      · go_simp
        refine hK _ _ ?_
        clear hK K
        refine wpAnyIn_ready (rs := [2]) (by kernel_rfl) (by simp) ?_
        refine AllReadyIn.cons rfl (fun K hK => ?_) AllReadyIn.nil
        go_simp
        gi_wp2_with (refine ⟨trivial, ?_⟩; gi_at_call 82; refine (CallsIn.inRound l (callsIn_wide.2 (clone b (x.val * 14) m m _ hlen hm5.1 _ hRW))).mono ?_; rintro e w3 ⟨⟨a3, m3, k3, rfl⟩, hb3⟩; obtain ⟨g4, c4, w4, hrun4, e3, e3a, e4, f4, hown4, hk4, hs4, o4, t4, p4⟩ := app_run (u := .slice a3 m3 k3) hi hz0 hz1 hz2 hv hrow hsz (by omega) hpre rfl hb3)
        refine wpAnyIn_ready (rs := [3]) (by kernel_rfl) (by simp) ?_
        refine AllReadyIn.cons rfl (fun K hK => ?_) AllReadyIn.nil
        go_simp
        refine hK _ _ ?_
        clear hK K
        refine wpAnyIn_ready (rs := [4]) (by kernel_rfl) (by simp) ?_
        refine AllReadyIn.cons rfl (fun K hK => ?_) AllReadyIn.nil
        refine step_app rfl (.tmp 13) (.tmp 16) 110 rfl hrun4 ?_
        refine hK _ _ ?_
        clear hK K
        refine wpAnyIn_ready (rs := [5]) (by kernel_rfl) (by simp) ?_
        refine AllReadyIn.cons rfl (fun K hK => ?_) AllReadyIn.nil
        go_simp
        refine hK _ _ ?_
        clear hK K
        refine wpAnyIn_done (by kernel_rfl) ?_ _
        have hE := body_end hv hrow rfl rfl hsz hB e4 hown4 hk4 hs4 o4 t4 p4
        exact ⟨hE.1.from _, hE.2.1, ⟨_, _, hE.2.2.1.1, by simpa using hE.2.2.1.2⟩, by have h9 := hE.1.size; omega, hE.2.2.2⟩
      · go_simp
        gi_wp2_with (refine ⟨trivial, ?_⟩; gi_at_call 82; refine (CallsIn.inRound l (callsIn_wide.2 (clone b (x.val * 14) m m _ hlen hm5.1 _ hRW))).mono ?_; rintro e w3 ⟨⟨a3, m3, k3, rfl⟩, hb3⟩; obtain ⟨g4, c4, w4, hrun4, e3, e3a, e4, f4, hown4, hk4, hs4, o4, t4, p4⟩ := app_run (u := .slice a3 m3 k3) hi hz0 hz1 hz2 hv hrow hsz (by omega) hpre rfl hb3)
        refine wpAnyIn_ready (rs := [0, 3]) (by kernel_rfl) (by simp) ?_
        refine AllReadyIn.cons rfl (fun K hK => ?_) (AllReadyIn.cons rfl (fun K hK => ?_) AllReadyIn.nil)
        · go_simp
          refine hK _ _ ?_
          clear hK K
          refine wpAnyIn_ready (rs := [3]) (by kernel_rfl) (by simp) ?_
          refine AllReadyIn.cons rfl (fun K hK => ?_) AllReadyIn.nil
          go_simp
          refine hK _ _ ?_
          clear hK K
          refine wpAnyIn_ready (rs := [4]) (by kernel_rfl) (by simp) ?_
          refine AllReadyIn.cons rfl (fun K hK => ?_) AllReadyIn.nil
          refine step_app rfl (.tmp 13) (.tmp 16) 110 rfl hrun4 ?_
          refine hK _ _ ?_
          clear hK K
          refine wpAnyIn_ready (rs := [5]) (by kernel_rfl) (by simp) ?_
          refine AllReadyIn.cons rfl (fun K hK => ?_) AllReadyIn.nil
          go_simp
          refine hK _ _ ?_
          clear hK K
          refine wpAnyIn_done (by kernel_rfl) ?_ _
          have hE := body_end hv hrow rfl rfl hsz hB e4 hown4 hk4 hs4 o4 t4 p4
          exact ⟨hE.1.from _, hE.2.1, ⟨_, _, hE.2.2.1.1, by simpa using hE.2.2.1.2⟩, by have h9 := hE.1.size; omega, hE.2.2.2⟩
        · go_simp
          refine hK _ _ ?_
          clear hK K
          refine wpAnyIn_ready (rs := [0]) (by kernel_rfl) (by simp) ?_
          refine AllReadyIn.cons rfl (fun K hK => ?_) AllReadyIn.nil
          go_simp
          refine hK _ _ ?_
          clear hK K
          refine wpAnyIn_ready (rs := [4]) (by kernel_rfl) (by simp) ?_
          refine AllReadyIn.cons rfl (fun K hK => ?_) AllReadyIn.nil
          refine step_app rfl (.tmp 13) (.tmp 16) 110 rfl hrun4 ?_
          refine hK _ _ ?_
          clear hK K
          refine wpAnyIn_ready (rs := [5]) (by kernel_rfl) (by simp) ?_
          refine AllReadyIn.cons rfl (fun K hK => ?_) AllReadyIn.nil
          go_simp
          refine hK _ _ ?_
          clear hK K
          refine wpAnyIn_done (by kernel_rfl) ?_ _
          have hE := body_end hv hrow rfl rfl hsz hB e4 hown4 hk4 hs4 o4 t4 p4
          exact ⟨hE.1.from _, hE.2.1, ⟨_, _, hE.2.2.1.1, by simpa using hE.2.2.1.2⟩, by have h9 := hE.1.size; omega, hE.2.2.2⟩
  case done =>
    rintro D ys W hD hy ⟨⟨v, lst, hv, hrow⟩, hsz, hB⟩ hK
    have hc := hv.cell
    rw [hy] at hrow
    obtain ⟨g, cp, rfl⟩ := ownsRow_succ hrow
    gi_wp2
    refine ⟨by simp, .inl ⟨_, _, rfl, run_takeDeferred hK, ?_⟩⟩
    exact ⟨_, results_tmp rfl _ _ _, ⟨_, _, rfl⟩, hB.trans (belowK_b (w := w) (Nat.le_refl _) W D _ _ (by simp at hD; omega) hK rfl rfl)⟩
  case stop =>
    rintro D c pre W _ _ h _
    exact h.elim
end
end Go.Proofs.Ytclpjmhanhocoaa.SubPart
