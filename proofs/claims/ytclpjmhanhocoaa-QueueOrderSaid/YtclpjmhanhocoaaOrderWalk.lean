/- The walk of muleteerlaw16.QueueOrder. Conditions: as stated in each theorem. -/
import Derived.Test.YtclpjmhanhocoaaOrderSteps
import Derived.Test.YtclpjmhanhocoaaQueueAwake

set_option linter.unusedVariables false
set_option linter.unusedSimpArgs false
namespace Go.Proofs.Ytclpjmhanhocoaa.Order
open Go.RowKit Base QStr
set_option maxRecDepth 100000

/-- an argument that is a slice: of each element, that it is there -/
def Reads (w : World) (a : Option Addr) (n : Nat) (f : Nat → Value) : Prop := ∀ i, i < n → ∃ b o, a = some ⟨b, o, none⟩ ∧ b < w.heap.size ∧ w.cell? ⟨b, o + i, none⟩ = some (f i)

theorem long (r : Nat) (al ag : Option Addr) (ll cl lg cg : Nat) (w : World) (h : 60 < ll) :
    Calls Try.prog 4 #[.int .u8 r, .slice al ll cl, .slice ag lg cg] w fun e w' => e = .returned (.bool true) ∧ Below w.heap.size w w' := by
  have h1 : 60 < (ll : Int) := by omega
  go_enter Try.func4, Try.ntmps4
  go_wp2_with fail
  refine (QueueAwake.awake _).mono ?_
  rintro e w1 ⟨rfl, hb1⟩
  go_wp2
  go_ret
  exact ⟨rfl, hb1⟩

set_option maxHeartbeats 4000000 in
theorem walk (r : Nat) (hr : r ≤ 255) (al ag : Option Addr) (ll cl lg cg : Nat) (w : World) (h : ll ≤ 60) (L : Nat → ByteArray) (G : Nat → Bool) (hL : Reads w al ll (fun i => .string (L i))) (hG : Reads w ag lg (fun i => .bool (G i))) :
    Calls Try.prog 4 #[.int .u8 r, .slice al ll cl, .slice ag lg cg] w fun e w' => e = .returned (.bool true) ∧ Below w.heap.size w w' := by
  have h1 : ¬ 60 < (ll : Int) := by omega
  have HL := Lib.hid hL
  have HG := Lib.hid hG
  clear hL hG
  obtain ⟨i0, hi, hz0, hz1, hz2⟩ := info_parts info9
  go_enter Try.func4, Try.ntmps4
  go_wp2_with fail
  refine (new_int _ _ (by omega) (by omega)).mono ?_
  rintro e w1 ⟨q, g, rfl, hq, hg, hI, hb⟩
  have hS := St.start hI hb hq hg
  generalize w1.heap.size = base at hS
  have hroom : ((r : Int) + 1).toNat = r + 1 := by omega
  rw [hroom] at hS
  have HS := Lib.hid hS
  clear hS hI hroom hb hq hg
  go_wp2_with fail
  go_loopw [9, 10, 11] (fun vin vout i wr => ∃ (k : Nat) (A Bl C : List ByteArray), k ≤ ll ∧ i = .int .i64 k ∧ A = Bl ++ C ∧ A.length ≤ k ∧ St w wr base q g (r + 1) vin vout A Bl C) (fun _ _ i _ => ll - (intOf i).toNat)
  case atStart => exact ⟨0, [], [], [], by omega, rfl, rfl, by simp, HS.out⟩
  case round =>
    obtain ⟨k, A, Bl, C, hk, rfl, hA, hAk, hS⟩ := hrel
    have HS2 := Lib.hid hS
    have HA := Lib.hid hA
    clear hS hA HS
    by_cases hlt : k < ll
    · obtain ⟨bl, ol, rfl, hbl, hcl⟩ := HL.out k hlt
      have hc : wr.cell? ⟨bl, ol + k, none⟩ = some (.string (L k)) := (HS2.out.bel.cell (p := ⟨bl, ol + k, none⟩) hbl).trans hcl
      have hlen := HS2.out.ql.le.1
      have hAl : A.length = Bl.length + C.length := by rw [HA.out]; simp
      by_cases hroom : C.length < r + 1
      · by_cases hgl : k < lg
        · cases hgk : G k
          · obtain ⟨bg, og, hag, hbg, hcg⟩ := HG.out k hgl
            subst hag
            have hcg' : wr.cell? ⟨bg, og + k, none⟩ = some (.bool false) := (HS2.out.bel.cell (p := ⟨bg, og + k, none⟩) hbg).trans (hcg.trans (by simp [hgk]))
            have hb1 : (0 : Int) ≤ (k : Int) := by omega
            have hb2 : (k : Int) < lg := by omega
            go_wp2_with fail
            refine (put_list (L k) HS2.out.ql hroom).mono ?_
            rintro e w2 ⟨rfl, hQ2, hO2⟩
            have HS3 := Lib.hid (HS2.out.only hQ2 hO2)
            have hc2 : w2.cell? ⟨bl, ol + k, none⟩ = some (.string (L k)) := (HS3.out.bel.cell (p := ⟨bl, ol + k, none⟩) hbl).trans hcl
            clear hQ2 hO2
            have hin := HS3.out.hin
            have hbs := HS3.out.bs
            go_wp2_with (at_builtin; go_must (refine wpList_append_one _ rfl (.tmp 44) (.tmp 49) 30 rfl base 9 i0 (.string ⟨#[]⟩) 16 Try.underlying30 hi hz0 hz1 hz2 rfl (.string (L k)) rfl _ _ _ rfl hin rfl (by unfold maxLen; omega) (by omega) hbs ?_); intro v3 w3 ho3 hg3 hw3; have HS4 := Lib.hid (HS3.out.app1In _ ho3 hg3 hw3); clear ho3 hg3 hw3; have hcg4 : w3.cell? ⟨bg, og + k, none⟩ = some (.bool false) := (HS4.out.bel.cell (p := ⟨bg, og + k, none⟩) hbg).trans (hcg.trans (by simp [hgk])))
            go_roundw
            case rel => exact ⟨k + 1, (A ++ [L k]), Bl, (C ++ [L k]), by omega, by go_num, by rw [HA.out]; simp, by simp; omega, HS4.out⟩
            case measure => simp [intOf]; omega
          · obtain ⟨bg, og, hag, hbg, hcg⟩ := HG.out k hgl
            subst hag
            have hcg' : wr.cell? ⟨bg, og + k, none⟩ = some (.bool true) := (HS2.out.bel.cell (p := ⟨bg, og + k, none⟩) hbg).trans (hcg.trans (by simp [hgk]))
            have hb1 : (0 : Int) ≤ (k : Int) := by omega
            have hb2 : (k : Int) < lg := by omega
            go_wp2_with fail
            refine (put_list (L k) HS2.out.ql hroom).mono ?_
            rintro e w2 ⟨rfl, hQ2, hO2⟩
            have HS3 := Lib.hid (HS2.out.only hQ2 hO2)
            have hc2 : w2.cell? ⟨bl, ol + k, none⟩ = some (.string (L k)) := (HS3.out.bel.cell (p := ⟨bl, ol + k, none⟩) hbl).trans hcl
            clear hQ2 hO2
            have hin := HS3.out.hin
            have hbs := HS3.out.bs
            go_wp2_with (at_builtin; go_must (refine wpList_append_one _ rfl (.tmp 44) (.tmp 49) 30 rfl base 9 i0 (.string ⟨#[]⟩) 16 Try.underlying30 hi hz0 hz1 hz2 rfl (.string (L k)) rfl _ _ _ rfl hin rfl (by unfold maxLen; omega) (by omega) hbs ?_); intro v3 w3 ho3 hg3 hw3; have HS4 := Lib.hid (HS3.out.app1In _ ho3 hg3 hw3); clear ho3 hg3 hw3; have hcg4 : w3.cell? ⟨bg, og + k, none⟩ = some (.bool true) := (HS4.out.bel.cell (p := ⟨bg, og + k, none⟩) hbg).trans (hcg.trans (by simp [hgk])))
            have hne : ∃ c cs, (C ++ [L k]) = c :: cs := by
              cases C with
              | nil => exact ⟨_, _, rfl⟩
              | cons c cs => exact ⟨_, _, rfl⟩
            obtain ⟨c, cs, hcs⟩ := hne
            have HCS := Lib.hid hcs
            clear hcs
            have hBl : Bl.length ≤ 60 := by omega
            refine (get_list c (by rw [← HCS.out]; exact HS4.out.ql)).mono ?_
            rintro e w5 ⟨rfl, hQ5, hO5⟩
            have HS5 := Lib.hid (HS4.out.only hQ5 hO5)
            clear hQ5 hO5
            have hout := HS5.out.hout
            have hbs5 := HS5.out.bs
            go_wp2_with (at_builtin; go_must (refine wpList_append_one _ rfl (.tmp 67) (.tmp 69) 30 rfl base 9 i0 (.string ⟨#[]⟩) 16 Try.underlying30 hi hz0 hz1 hz2 rfl (.string c) rfl _ _ _ rfl hout rfl (by unfold maxLen; omega) (by omega) hbs5 ?_); intro v6 w6 ho6 hg6 hw6; have HS6 := Lib.hid (HS5.out.app1Out _ ho6 hg6 hw6); clear ho6 hg6 hw6)
            go_roundw
            case rel => exact ⟨k + 1, (A ++ [L k]), Bl ++ [c], cs, by omega, by go_num, by rw [HA.out, List.append_assoc, HCS.out]; simp, by simp; omega, HS6.out⟩
            case measure => simp [intOf]; omega
        · go_wp2_with fail
          refine (put_list (L k) HS2.out.ql hroom).mono ?_
          rintro e w2 ⟨rfl, hQ2, hO2⟩
          have HS3 := Lib.hid (HS2.out.only hQ2 hO2)
          have hc2 : w2.cell? ⟨bl, ol + k, none⟩ = some (.string (L k)) := (HS3.out.bel.cell (p := ⟨bl, ol + k, none⟩) hbl).trans hcl
          clear hQ2 hO2
          have hin := HS3.out.hin
          have hbs := HS3.out.bs
          go_wp2_with (at_builtin; go_must (refine wpList_append_one _ rfl (.tmp 44) (.tmp 49) 30 rfl base 9 i0 (.string ⟨#[]⟩) 16 Try.underlying30 hi hz0 hz1 hz2 rfl (.string (L k)) rfl _ _ _ rfl hin rfl (by unfold maxLen; omega) (by omega) hbs ?_); intro v3 w3 ho3 hg3 hw3; have HS4 := Lib.hid (HS3.out.app1In _ ho3 hg3 hw3); clear ho3 hg3 hw3)
          go_roundw
          case rel => exact ⟨k + 1, (A ++ [L k]), Bl, (C ++ [L k]), by omega, by go_num, by rw [HA.out]; simp, by simp; omega, HS4.out⟩
          case measure => simp [intOf]; omega
      · by_cases hgl : k < lg
        · cases hgk : G k
          · obtain ⟨bg, og, hag, hbg, hcg⟩ := HG.out k hgl
            subst hag
            have hcg' : wr.cell? ⟨bg, og + k, none⟩ = some (.bool false) := (HS2.out.bel.cell (p := ⟨bg, og + k, none⟩) hbg).trans (hcg.trans (by simp [hgk]))
            have hb1 : (0 : Int) ≤ (k : Int) := by omega
            have hb2 : (k : Int) < lg := by omega
            go_wp2_with fail
            refine (putf_list (L k) HS2.out.ql (by omega)).mono ?_
            rintro e w2 ⟨rfl, kk, rfl⟩
            have HS4 := Lib.hid (HS2.out.drewN kk)
            go_wp2
            go_roundw
            case rel => exact ⟨k + 1, A, Bl, C, by omega, by go_num, by exact HA.out, by omega, HS4.out⟩
            case measure => simp [intOf]; omega
          · obtain ⟨bg, og, hag, hbg, hcg⟩ := HG.out k hgl
            subst hag
            have hcg' : wr.cell? ⟨bg, og + k, none⟩ = some (.bool true) := (HS2.out.bel.cell (p := ⟨bg, og + k, none⟩) hbg).trans (hcg.trans (by simp [hgk]))
            have hb1 : (0 : Int) ≤ (k : Int) := by omega
            have hb2 : (k : Int) < lg := by omega
            go_wp2_with fail
            refine (putf_list (L k) HS2.out.ql (by omega)).mono ?_
            rintro e w2 ⟨rfl, kk, rfl⟩
            have HS4 := Lib.hid (HS2.out.drewN kk)
            go_wp2_with fail
            have hne : ∃ c cs, C = c :: cs := by
              cases C with
              | nil => simp at hroom
              | cons c cs => exact ⟨_, _, rfl⟩
            obtain ⟨c, cs, hcs⟩ := hne
            have HCS := Lib.hid hcs
            clear hcs
            have hBl : Bl.length ≤ 60 := by omega
            refine (get_list c (by rw [← HCS.out]; exact HS4.out.ql)).mono ?_
            rintro e w5 ⟨rfl, hQ5, hO5⟩
            have HS5 := Lib.hid (HS4.out.only hQ5 hO5)
            clear hQ5 hO5
            have hout := HS5.out.hout
            have hbs5 := HS5.out.bs
            go_wp2_with (at_builtin; go_must (refine wpList_append_one _ rfl (.tmp 67) (.tmp 69) 30 rfl base 9 i0 (.string ⟨#[]⟩) 16 Try.underlying30 hi hz0 hz1 hz2 rfl (.string c) rfl _ _ _ rfl hout rfl (by unfold maxLen; omega) (by omega) hbs5 ?_); intro v6 w6 ho6 hg6 hw6; have HS6 := Lib.hid (HS5.out.app1Out _ ho6 hg6 hw6); clear ho6 hg6 hw6)
            go_roundw
            case rel => exact ⟨k + 1, A, Bl ++ [c], cs, by omega, by go_num, by rw [HA.out, HCS.out]; simp, by omega, HS6.out⟩
            case measure => simp [intOf]; omega
        · go_wp2_with fail
          refine (putf_list (L k) HS2.out.ql (by omega)).mono ?_
          rintro e w2 ⟨rfl, kk, rfl⟩
          have HS4 := Lib.hid (HS2.out.drewN kk)
          go_wp2
          go_roundw
          case rel => exact ⟨k + 1, A, Bl, C, by omega, by go_num, by exact HA.out, by omega, HS4.out⟩
          case measure => simp [intOf]; omega
    · have hkl : k = ll := by omega
      have HKL := Lib.hid hkl
      clear hkl
      have hCl : C.length ≤ ll := by
        have h1 : A.length = Bl.length + C.length := by rw [HA.out]; simp
        omega
      go_wp2_with fail
      go_loopw [10, 14] (fun vout i wr => ∃ (m : Nat) (Bl C : List ByteArray), C.length + m ≤ ll ∧ i = .int .i64 m ∧ A = Bl ++ C ∧ St w wr base q g (r + 1) u9 vout A Bl C) (fun _ i _ => ll + 1 - (intOf i).toNat)
      case atStart => exact ⟨0, Bl, C, by omega, rfl, HA.out, HS2.out⟩
      case round =>
        clear HS2 HA
        obtain ⟨m, Bl2, C2, hm, rfl, hA, hS⟩ := hrel
        have HS2 := Lib.hid hS
        have HA := Lib.hid hA
        clear hS hA
        have hml : (m : Int) ≤ ll := by omega
        have hAl : A.length = Bl2.length + C2.length := by rw [HA.out]; simp
        go_wp2_with fail
        refine (len_list HS2.out.ql).mono ?_
        rintro e w2 ⟨rfl, rfl⟩
        cases C2 with
        | cons c cs =>
          have hpos : (0 : Int) < ((c :: cs).length : Nat) := by (simp; try omega)
          have hBl : Bl2.length ≤ 60 := by omega
          go_wp2_with fail
          refine (get_list c HS2.out.ql).mono ?_
          rintro e w5 ⟨rfl, hQ5, hO5⟩
          have HS5 := Lib.hid (HS2.out.only hQ5 hO5)
          clear hQ5 hO5
          have hout := HS5.out.hout
          have hbs5 := HS5.out.bs
          go_wp2_with (at_builtin; go_must (refine wpList_append_one _ rfl (.tmp 89) (.tmp 91) 30 rfl base 9 i0 (.string ⟨#[]⟩) 16 Try.underlying30 hi hz0 hz1 hz2 rfl (.string c) rfl _ _ _ rfl hout rfl (by unfold maxLen; omega) (by omega) hbs5 ?_); intro v6 w6 ho6 hg6 hw6; have HS6 := Lib.hid (HS5.out.app1Out _ ho6 hg6 hw6); clear ho6 hg6 hw6)
          go_roundw
          case rel => exact ⟨m + 1, Bl2 ++ [c], cs, by simp at hm; omega, by go_num, by rw [HA.out]; simp, HS6.out⟩
          case measure => simp [intOf] at hm ⊢; omega
        | nil =>
          obtain ⟨ai, ci, hv1, hr1⟩ := own_shape HS2.out.hin
          obtain ⟨ao, co, hv2, hr2⟩ := own_shape HS2.out.hout
          rw [hv1, hv2]
          have hBA : Bl2 = A := by rw [HA.out]; simp
          subst hBA
          have hbel := HS2.out.bel
          have HQ := Lib.hid HS2.out.ql
          have hlen : (((Bl2.length : Nat) : Int) != (Bl2.length : Nat)) = false := by simp
          have HL1 := Lib.hid hr1
          have HL2 := Lib.hid hr2
          clear hv1 hv2 hr1 hr2 HS2 HA hAl
          go_wp2_with fail
          refine (len_list HQ.out).mono ?_
          rintro e w2 ⟨rfl, rfl⟩
          go_wp2_with fail
          have hnl : Bl2.length ≤ 60 := by omega
          go_loopw [17] (fun i wr => ∃ (t nq : Nat), t ≤ Bl2.length ∧ i = .int .i64 t ∧ wr = w2.drewN nq) (fun i _ => Bl2.length - (intOf i).toNat)
          case atStart => exact ⟨0, 0, by omega, rfl, rfl⟩
          case round =>
            obtain ⟨t, nq, ht, rfl, rfl⟩ := hrel
            by_cases htl : t < Bl2.length
            · obtain ⟨b1, rfl, hc1⟩ := HL1.out t _ (List.getElem?_eq_getElem htl)
              obtain ⟨b2, rfl, hc2⟩ := HL2.out t _ (List.getElem?_eq_getElem htl)
              generalize Bl2[t] = x at hc1 hc2
              have hx1 : (0 : Int) ≤ (t : Int) := by omega
              have hx2 : (t : Int) < (Bl2.length : Nat) := by omega
              have hxx : (!(x.toList == x.toList)) = false := by simp
              go_wp2_with fail
              go_quiet (fail)
              go_wp2
              go_roundw
              case rel => exact ⟨t + 1, _, by omega, by go_num, rfl⟩
              case measure => simp [intOf]; omega
            · go_wp2_with fail
              refine (QueueAwake.awake _).mono ?_
              rintro e w4 ⟨rfl, hb4⟩
              go_wp2
              go_ret
              exact ⟨rfl, bel (hbel.trans ((Only.ofBelow (Below.refl _ _) _).drewN nq |> fun h => Only.below (Below.refl _ _) h (fun _ _ => id) hbel.size)) hb4 (by have := hbel.size; simpa using this)⟩
end Go.Proofs.Ytclpjmhanhocoaa.Order
