/- strconv.Atoi and ParseUint at any short text; the program's numbers, the reference's. Conditions: as stated in each theorem. -/
import Derived.Test.YtoahfegeeimomaaDoorRow
import Derived.Test.YtoahfegeeimomaaDoorShelf2
import Derived.Test.YtoahfegeeimomaaDoorLinesPlain
set_option linter.unusedVariables false
set_option linter.unusedSimpArgs false
namespace Go.Proofs.YtoahfegeeimomaaDoor.Num
open Go.RowKit Base RowD Number TextP LinesPlain
set_option maxRecDepth 100000

theorem var_keep {P : Program} {w w' : World} (hb : Below w.heap.size w w') {n : String} {cs : Array Value} (h : w.var? P n = some cs) : w'.var? P n = some cs := by
  unfold World.var? at h ⊢
  cases hg : P.globalNamed n with
  | none => rw [hg] at h; cases h
  | some g =>
    rw [hg] at h
    simp only [Option.bind_some] at h ⊢
    cases hw : w.heap[g]? with
    | none => rw [hw] at h; cases h
    | some o => rw [hb.block g (by have := Array.getElem?_eq_some_iff.1 hw; exact this.1), hw]; rw [hw] at h; exact h
/-- the library's variables, as the program's text lays them -/
structure Vars (w : World) : Prop where
  tab : Lib.TabIs Tryd.prog w "internal/strconv.uint64pow10" .u64 Lib.pow10Tab
  syn : ∃ tp p, w.var? Tryd.prog "strconv.ErrSyntax" = some #[.iface tp p]
  ran : ∃ tp p, w.var? Tryd.prog "strconv.ErrRange" = some #[.iface tp p]
theorem Vars.below {w w' : World} (h : Vars w) (hb : Below w.heap.size w w') : Vars w' := by
  obtain ⟨tp, p, hs⟩ := h.syn
  obtain ⟨tq, q, hr⟩ := h.ran
  exact ⟨var_keep hb h.tab, ⟨tp, p, var_keep hb hs⟩, ⟨tq, q, var_keep hb hr⟩⟩
theorem below_bytes (w : World) (e : TypeId) (s : ByteArray) : Below w.heap.size w (Lib.bytesWorld w e s) := Lib.bytesWorld_below w e s
def Pair (v : Value) (w : World) (e : Ending) (w' : World) : Prop := (∃ x, e = .returned (.tuple #[v, x])) ∧ Below w.heap.size w w'
theorem pair {v x : Value} {w w' : World} (h : Below w.heap.size w w') : Pair v w (.returned (.tuple #[v, x])) w' := ⟨⟨x, rfl⟩, h⟩
theorem atoi (s : ByteArray) (hs : s.size ≤ 1000) (w : World) (hv : Vars w) : Calls Tryd.prog 49 #[.string s] w (Pair (.int .i64 (atoiV s.data.toList)) w) := by
  obtain ⟨tp, p, hsy⟩ := hv.syn
  obtain ⟨tq, q, hra⟩ := hv.ran
  unfold atoiV
  cases h : Lib.atoiAll s.data.toList with
  | ok v =>
    refine (Tryd.strconv_Atoi_ok s (by omega) v h w).mono ?_
    rintro e w' ⟨rfl, hw⟩
    refine pair ?_
    rcases hw with rfl | ⟨t, rfl⟩
    · exact Below.refl _ _
    · exact below_bytes _ _ _
  | range =>
    refine (Tryd.strconv_Atoi_range_var s (by omega) h tq q w hra).mono ?_
    rintro e w' ⟨N, rfl, _, _, hb⟩
    exact pair hb
  | _ =>
    refine (Tryd.strconv_Atoi_syntax_var s (by omega) (h.trans rfl) tp p w hsy).mono ?_
    rintro e w' ⟨N, rfl, _, _, hb⟩
    exact pair hb
theorem parseUint (s : ByteArray) (hs : s.size ≤ 1000) (w : World) (hv : Vars w) : Calls Tryd.prog 33 #[.string s, .int .i64 10, .int .i64 64] w (Pair (.int .u64 (puV s.data.toList : Nat)) w) := by
  obtain ⟨tp, p, hsy⟩ := hv.syn
  obtain ⟨tq, q, hra⟩ := hv.ran
  unfold puV
  cases h : Lib.parseUintB 64 s.data.toList with
  | ok v =>
    refine (Tryd.strconv_ParseUint_10_at64_ok s (by omega) v h w).mono ?_
    rintro e w' ⟨rfl, hw⟩
    refine pair ?_
    rcases hw with rfl | rfl
    · exact Below.refl _ _
    · exact below_bytes _ _ _
  | range =>
    refine (Tryd.strconv_ParseUint_10_at64_range_var s (by omega) h tq q w hra).mono ?_
    rintro e w' ⟨N, rfl, _, _, hb⟩
    exact pair hb
  | _ =>
    refine (Tryd.strconv_ParseUint_10_at64_syntax_var s (by omega) (h.trans rfl) tp p w hsy).mono ?_
    rintro e w' ⟨N, rfl, _, _, hb⟩
    exact pair hb
/-- a row of texts -/
structure Strs (w : World) (g : Nat) (ws : List ByteArray) : Prop where
  cell : ∀ i (h : i < ws.length), w.cell? ⟨g, i, none⟩ = some (.string ws[i])
  size : ∀ s ∈ ws, s.size ≤ 1000
theorem Strs.below {w w' : World} {g : Nat} {ws : List ByteArray} (h : Strs w g ws) (hb : Below w.heap.size w w') : Strs w' g ws :=
  ⟨fun i hi => (hb.cell (p := ⟨g, i, none⟩) (World.block_lt_of_cell? w _ (h.cell i hi))).trans (h.cell i hi), h.size⟩
/-- texts as lists -/
def lists (ws : List ByteArray) : List (List UInt8) := ws.map fun s => s.data.toList
theorem lists_at (ws : List ByteArray) (i : Nat) (h : i < ws.length) : (lists ws).getD i [] = ws[i].data.toList := by
  simp [lists, List.getD_eq_getElem?_getD, h]
theorem numAt_in (ws : List ByteArray) (i : Nat) (h : i < ws.length) : numAt (lists ws) i = atoiV ws[i].data.toList := by
  unfold numAt
  rw [if_pos (by simpa [lists] using h), lists_at ws i h]
theorem numAt_out (ws : List ByteArray) (i : Nat) (h : ¬ i < ws.length) : numAt (lists ws) i = 0 := by
  unfold numAt
  rw [if_neg (by simpa [lists] using h)]
theorem number (g c : Nat) (ws : List ByteArray) (i : Nat) (hi : i ≤ 5) (hn : ws.length ≤ 1000) (w : World) (hv : Vars w) (h : Strs w g ws) : Calls Tryd.prog 31 #[.slice (some ⟨g, 0, none⟩) ws.length c, .int .i64 (i : Int)] w fun e w' => e = .returned (.int .i64 (numAt (lists ws) i)) ∧ Below w.heap.size w w' := by
  by_cases hlt : i < ws.length
  · rw [numAt_in ws i hlt]
    have hc := h.cell i hlt
    have hs := h.size ws[i] (List.getElem_mem hlt)
    have HV := Lib.hid hv
    have HS := Lib.hid hs
    have h1 : decide (ws.length ≤ i) = false := by simp; omega
    have h2 : ((i : Int) < (ws.length : Int)) := by omega
    clear h hv hs
    generalize ws[i] = s at *
    go_enter Tryd.func31, Tryd.ntmps31
    go_wp2_with fail
    refine (atoi s HS.out _ HV.out).mono ?_
    rintro e w1 ⟨⟨x, rfl⟩, hb⟩
    go_wp2
    go_ret
    exact ⟨rfl, hb⟩
  · rw [numAt_out ws i hlt]
    have h1 : decide (ws.length ≤ i) = true := by simp; omega
    clear h
    go_enter Tryd.func31, Tryd.ntmps31
    go_wp2
    go_ret
    exact ⟨rfl, Below.refl _ _⟩
end Go.Proofs.YtoahfegeeimomaaDoor.Num
