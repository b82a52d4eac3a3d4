-- written by xprint.py (a program of this repository over the kit's print)
import Derived.Test.YtjeicglkanfbjaaDoorPUx0
import Derived.Test.YtjeicglkanfbjaaDoorPUx1
import Derived.Test.YtjeicglkanfbjaaDoorPUx2
import Derived.Test.YtjeicglkanfbjaaDoorPUx3
namespace Go.Proofs.YtjeicglkanfbjaaDoor.PU
open Go.Proofs.YtjeicglkanfbjaaDoorX
open Go.Proofs.YtjeicglkanfbjaaDoor
open Go.RowKit Go.Proofs.YtjeicglkanfbjaaDoorW.PrintWords Go.Proofs.YtjeicglkanfbjaaDoorW.PrintLast Go.Proofs.YtjeicglkanfbjaaDoorW.PrintMore
attribute [local go_sem] Go.Proofs.YtjeicglkanfbjaaDoorX.cell_set max2_int min2_int max_two min_two max_three min_three max_four min_four   -- for this text's walks alone
set_option linter.unusedVariables false
set_option linter.unusedSimpArgs false

/-! ### skiarealaw60_ScriptBack: function 7 -/
def skiarealaw60_ScriptBack.f (k : Nat) (l0 : List (S39)) : Option (Bool) := (skiarealaw60_alive.f k).bind fun t209 => (if t209 = true then ((skiarealaw60_small.f k l0).bind fun t210 => (if t210 = true then ((script_Print.f l0).bind fun bt211 => (if bt211.2 = 0 then ((script_Parse.f k bt211.1).bind fun bt213 => (if (bt211.1.size : Int) > 20000 then (if bt213.2.1 = 0 then (if bt213.2.2 = 4 then (some ((bt213.1.length : Int) == 0)) else (none)) else (none)) else (if (l0.length : Int) > 400 then (if bt213.2.1 = 401 then (if bt213.2.2 = 4 then (some ((bt213.1.length : Int) == 0)) else (none)) else (none)) else (if bt213.2.1 = 0 then (if bt213.2.2 = 0 then ((skiarearef60_Same.f k l0 bt213.1).bind fun t218 => (some t218)) else (none)) else (none))))) else (some (bt211.1.toList == ([] : List UInt8))))) else (some true))) else (none))
theorem skiarealaw60_ScriptBack.mono : ∀ a0 k, LeO (skiarealaw60_ScriptBack.f k a0) (skiarealaw60_ScriptBack.f (k + 1) a0) := by
  intro a0 k
  unfold skiarealaw60_ScriptBack.f
  repeat' first
      | (with_reducible exact script_Parse.mono _ _)
      | (with_reducible exact skiarealaw60_alive.mono _)
      | (with_reducible exact skiarealaw60_small.mono _ _)
      | (with_reducible exact skiarearef60_Same.mono _ _ _)
      | (with_reducible exact LeO.refl _)
      | (with_reducible exact LeO.none _)
      | (with_reducible refine LeO.ite ?_ ?_)
      | (with_reducible refine LeO.bind ?_ (fun _ => ?_))
      | exact script_Parse.mono _ _
      | exact skiarealaw60_alive.mono _
      | exact skiarealaw60_small.mono _ _
      | exact skiarearef60_Same.mono _ _ _
      | exact LeO.none _
      | refine LeO.ite ?_ ?_
      | refine LeO.bind ?_ (fun _ => ?_)
set_option maxHeartbeats 8000000 in
set_option maxRecDepth 100000 in
theorem skiarealaw60_ScriptBack.calls (k : Nat) (A0 : Option Addr) (c0 : Nat) (l0 : List (S39)) (r : Bool) (w : World) (hr0 : Kd.C k39 w A0 l0.length l0) (hc0 : l0.length ≤ c0) (hG : GW w) (h : skiarealaw60_ScriptBack.f k l0 = some r) :
    Calls Tryd.prog 7 #[.slice A0 l0.length c0] w fun e w' => e = .returned (.bool r) ∧ Below w.heap.size w w' := by
  have HG := Aside0.mk hG
  clear hG
  have HR0 := Aside0.mk hr0
  have HC0 := Aside0.mk hc0
  clear hr0 hc0
  have HB := Aside0.mk (Below.refl w.heap.size w)
  have H : ((skiarealaw60_alive.f k).bind fun t209 => (if t209 = true then ((skiarealaw60_small.f k l0).bind fun t210 => (if t210 = true then ((script_Print.f l0).bind fun bt211 => (if bt211.2 = 0 then ((script_Parse.f k bt211.1).bind fun bt213 => (if (bt211.1.size : Int) > 20000 then (if bt213.2.1 = 0 then (if bt213.2.2 = 4 then (some ((bt213.1.length : Int) == 0)) else (none)) else (none)) else (if (l0.length : Int) > 400 then (if bt213.2.1 = 401 then (if bt213.2.2 = 4 then (some ((bt213.1.length : Int) == 0)) else (none)) else (none)) else (if bt213.2.1 = 0 then (if bt213.2.2 = 0 then ((skiarearef60_Same.f k l0 bt213.1).bind fun t218 => (some t218)) else (none)) else (none))))) else (some (bt211.1.toList == ([] : List UInt8))))) else (some true))) else (none))) = some r := h
  clear h
  replace H := Option.bind_eq_some_iff.mp H
  obtain ⟨t209, A20, H⟩ := H
  replace H : (if t209 = true then ((skiarealaw60_small.f k l0).bind fun t210 => (if t210 = true then ((script_Print.f l0).bind fun bt211 => (if bt211.2 = 0 then ((script_Parse.f k bt211.1).bind fun bt213 => (if (bt211.1.size : Int) > 20000 then (if bt213.2.1 = 0 then (if bt213.2.2 = 4 then (some ((bt213.1.length : Int) == 0)) else (none)) else (none)) else (if (l0.length : Int) > 400 then (if bt213.2.1 = 401 then (if bt213.2.2 = 4 then (some ((bt213.1.length : Int) == 0)) else (none)) else (none)) else (if bt213.2.1 = 0 then (if bt213.2.2 = 0 then ((skiarearef60_Same.f k l0 bt213.1).bind fun t218 => (some t218)) else (none)) else (none))))) else (some (bt211.1.toList == ([] : List UInt8))))) else (some true))) else (none)) = some r := H
  have A2 := Aside0.mk A20
  clear A20
  by_cases c3 : t209 = true
  · subst c3
    have H1 : ((skiarealaw60_small.f k l0).bind fun t210 => (if t210 = true then ((script_Print.f l0).bind fun bt211 => (if bt211.2 = 0 then ((script_Parse.f k bt211.1).bind fun bt213 => (if (bt211.1.size : Int) > 20000 then (if bt213.2.1 = 0 then (if bt213.2.2 = 4 then (some ((bt213.1.length : Int) == 0)) else (none)) else (none)) else (if (l0.length : Int) > 400 then (if bt213.2.1 = 401 then (if bt213.2.2 = 4 then (some ((bt213.1.length : Int) == 0)) else (none)) else (none)) else (if bt213.2.1 = 0 then (if bt213.2.2 = 0 then ((skiarearef60_Same.f k l0 bt213.1).bind fun t218 => (some t218)) else (none)) else (none))))) else (some (bt211.1.toList == ([] : List UInt8))))) else (some true))) = some r := by rw [if_pos rfl] at H; exact H
    clear H
    have H := H1
    clear H1
    replace H := Option.bind_eq_some_iff.mp H
    obtain ⟨t210, A40, H⟩ := H
    replace H : (if t210 = true then ((script_Print.f l0).bind fun bt211 => (if bt211.2 = 0 then ((script_Parse.f k bt211.1).bind fun bt213 => (if (bt211.1.size : Int) > 20000 then (if bt213.2.1 = 0 then (if bt213.2.2 = 4 then (some ((bt213.1.length : Int) == 0)) else (none)) else (none)) else (if (l0.length : Int) > 400 then (if bt213.2.1 = 401 then (if bt213.2.2 = 4 then (some ((bt213.1.length : Int) == 0)) else (none)) else (none)) else (if bt213.2.1 = 0 then (if bt213.2.2 = 0 then ((skiarearef60_Same.f k l0 bt213.1).bind fun t218 => (some t218)) else (none)) else (none))))) else (some (bt211.1.toList == ([] : List UInt8))))) else (some true)) = some r := H
    have A4 := Aside0.mk A40
    clear A40
    by_cases c5 : t210 = true
    · subst c5
      have H1 : ((script_Print.f l0).bind fun bt211 => (if bt211.2 = 0 then ((script_Parse.f k bt211.1).bind fun bt213 => (if (bt211.1.size : Int) > 20000 then (if bt213.2.1 = 0 then (if bt213.2.2 = 4 then (some ((bt213.1.length : Int) == 0)) else (none)) else (none)) else (if (l0.length : Int) > 400 then (if bt213.2.1 = 401 then (if bt213.2.2 = 4 then (some ((bt213.1.length : Int) == 0)) else (none)) else (none)) else (if bt213.2.1 = 0 then (if bt213.2.2 = 0 then ((skiarearef60_Same.f k l0 bt213.1).bind fun t218 => (some t218)) else (none)) else (none))))) else (some (bt211.1.toList == ([] : List UInt8))))) = some r := by rw [if_pos rfl] at H; exact H
      clear H
      have H := H1
      clear H1
      replace H := Option.bind_eq_some_iff.mp H
      obtain ⟨⟨t211, t212⟩, A60, H⟩ := H
      replace H : (if t212 = 0 then ((script_Parse.f k t211).bind fun bt213 => (if (t211.size : Int) > 20000 then (if bt213.2.1 = 0 then (if bt213.2.2 = 4 then (some ((bt213.1.length : Int) == 0)) else (none)) else (none)) else (if (l0.length : Int) > 400 then (if bt213.2.1 = 401 then (if bt213.2.2 = 4 then (some ((bt213.1.length : Int) == 0)) else (none)) else (none)) else (if bt213.2.1 = 0 then (if bt213.2.2 = 0 then ((skiarearef60_Same.f k l0 bt213.1).bind fun t218 => (some t218)) else (none)) else (none))))) else (some (t211.toList == ([] : List UInt8)))) = some r := H
      have A6 := Aside0.mk A60
      clear A60
      by_cases c7 : t212 = 0
      · rw [if_pos c7] at H
        have c7b0 : (t212 == 0) = true := beq_iff_eq.mpr c7
        have c7b1 : (t212 != 0) = false := bne_eq_false_iff_eq.mpr c7
        clear c7
        replace H := Option.bind_eq_some_iff.mp H
        obtain ⟨⟨t213, t214, t215⟩, A80, H⟩ := H
        replace H : (if (t211.size : Int) > 20000 then (if t214 = 0 then (if t215 = 4 then (some ((t213.length : Int) == 0)) else (none)) else (none)) else (if (l0.length : Int) > 400 then (if t214 = 401 then (if t215 = 4 then (some ((t213.length : Int) == 0)) else (none)) else (none)) else (if t214 = 0 then (if t215 = 0 then ((skiarearef60_Same.f k l0 t213).bind fun t218 => (some t218)) else (none)) else (none)))) = some r := H
        have A8 := Aside0.mk A80
        clear A80
        by_cases c9 : (t211.size : Int) > 20000
        · rw [if_pos c9] at H
          have c9b0 : decide (20000 < (t211.size : Int)) = true := decide_eq_true c9
          have c9b1 : decide (20000 < t211.size) = true := decide_eq_true (by omega)
          clear c9
          by_cases c10 : t214 = 0
          · rw [if_pos c10] at H
            have c10b0 : (t214 == 0) = true := beq_iff_eq.mpr c10
            have c10b1 : (t214 != 0) = false := bne_eq_false_iff_eq.mpr c10
            clear c10
            by_cases c11 : t215 = 4
            · rw [if_pos c11] at H
              have c11b0 : (t215 == 4) = true := beq_iff_eq.mpr c11
              have c11b1 : (t215 != 4) = false := bne_eq_false_iff_eq.mpr c11
              clear c11
              obtain rfl := Option.some.inj H
              go_enter Tryd.func7, Tryd.ntmps7
              go_wp2_with (first | ((with_reducible refine gate_callee (f := 9) rfl ?_); refine goesL_ (some 8) rfl rfl Tryd.func9 (by kernel_rfl) rfl #[] rfl (by (try simp only [List.map_toArray, List.map_cons, List.map_nil]); first | done | rfl | (simp only [List.length_drop, List.length_take]; rfl)) ?_; (with_reducible refine (skiarealaw60_alive.calls k  true _ ?side1 A2.out).mono ?_); (case side1 => exact GW_below HG.out (by repeat (first | (with_reducible first | exact HB.out | apply below_alloc | apply pw_below_drewN | apply below_drew1) | exact HB.out))); rintro e w12 ⟨rfl, hb⟩; refine ⟨_, rfl, ?_⟩; have n0_ := Aside0.mk (below_step (by repeat (first | (with_reducible first | exact HB.out | apply below_alloc | apply pw_below_drewN | apply below_drew1) | exact HB.out)) hb); clear HB; have HB := n0_; clear n0_; (try clear hb); (try clear hb2); (try clear hk); (try clear hi)) | ((with_reducible refine gate_callee (f := 15) rfl ?_); refine goesL_ (some 11) rfl rfl Tryd.func15 (by kernel_rfl) rfl #[.slice A0 l0.length c0] rfl (by (try simp only [List.map_toArray, List.map_cons, List.map_nil]); first | done | rfl | (simp only [List.length_drop, List.length_take]; rfl)) ?_; (with_reducible refine (skiarealaw60_small.calls k _ _ l0 true _ ?side1 ?side2 A4.out).mono ?_); (case side1 => repeat (first | exact (Kd.C_below HR0.out HB.out) | (with_reducible refine Kd.C_alloc ?_ _) | (with_reducible refine Kd.C_drewN ?_ _) | (with_reducible refine Kd.C_drew ?_))); (case side2 => exact HC0.out); rintro e w' ⟨rfl, ⟨nd, rfl⟩⟩; refine ⟨_, rfl, ?_⟩) | ((with_reducible refine gate_callee (f := 16) rfl ?_); refine goesL_ (some 15) rfl rfl Tryd.func16 (by kernel_rfl) rfl #[.slice A0 l0.length c0] rfl (by (try simp only [List.map_toArray, List.map_cons, List.map_nil]); first | done | rfl | (simp only [List.length_drop, List.length_take]; rfl)) ?_; (with_reducible refine (script_Print.calls _ _ l0 t211 t212 _ ?side1 ?side2 ?side3 A6.out).mono ?_); (case side1 => repeat (first | exact (Kd.C_below HR0.out (by repeat (first | (with_reducible first | exact HB.out | apply below_alloc | apply pw_below_drewN | apply below_drew1) | exact HB.out))) | (with_reducible refine Kd.C_alloc ?_ _) | (with_reducible refine Kd.C_drewN ?_ _) | (with_reducible refine Kd.C_drew ?_))); (case side2 => exact HC0.out); (case side3 => exact GW_below HG.out (by repeat (first | (with_reducible first | exact HB.out | apply below_alloc | apply pw_below_drewN | apply below_drew1) | exact HB.out))); rintro e w13 ⟨rfl, hb⟩; refine ⟨_, rfl, ?_⟩; have n0_ := Aside0.mk (below_step (by repeat (first | (with_reducible first | exact HB.out | apply below_alloc | apply pw_below_drewN | apply below_drew1) | exact HB.out)) hb); clear HB; have HB := n0_; clear n0_; (try clear hb); (try clear hb2); (try clear hk); (try clear hi)) | ((with_reducible refine gate_callee (f := 10) rfl ?_); refine goesL_ (some 24) rfl rfl Tryd.func10 (by kernel_rfl) rfl #[.string t211] rfl (by (try simp only [List.map_toArray, List.map_cons, List.map_nil]); first | done | rfl | (simp only [List.length_drop, List.length_take]; rfl)) ?_; (with_reducible refine (script_Parse.calls k t211 t213 t214 t215 _ ?side1 A8.out).mono ?_); (case side1 => exact GW_below HG.out (by repeat (first | (with_reducible first | exact HB.out | apply below_alloc | apply pw_below_drewN | apply below_drew1) | exact HB.out))); rintro e w14 ⟨v216, rfl, ho0, hb⟩; refine ⟨_, rfl, ?_⟩; have n0_ := Aside0.mk (Kd.S_lower ho0 (below_size (by repeat (first | (with_reducible first | exact HB.out | apply below_alloc | apply pw_below_drewN | apply below_drew1) | exact HB.out)))); have n1_ := Aside0.mk (below_step (by repeat (first | (with_reducible first | exact HB.out | apply below_alloc | apply pw_below_drewN | apply below_drew1) | exact HB.out)) hb); clear HB; have HO217 := n0_; have HB := n1_; clear n0_ n1_; (try clear hb); (try clear hb2); (try clear hk); (try clear hi); (try clear ho0); obtain ⟨Ao15, co15, eo15⟩ := Kd.S_slice HO217.out; subst eo15))
              go_ret
              exact ⟨by first | rfl | (simp [errW_none, errW_some] <;> rfl) | (simp [*, errW_none, errW_some] <;> rfl), by repeat (first | (with_reducible first | exact HB.out | apply below_alloc | apply pw_below_drewN | apply below_drew1) | exact HB.out)⟩
            · rw [if_neg c11] at H
              exact absurd H (by simp)
          · rw [if_neg c10] at H
            exact absurd H (by simp)
        · rw [if_neg c9] at H
          have c9b0 : decide (20000 < (t211.size : Int)) = false := decide_eq_false c9
          have c9b1 : decide (20000 < t211.size) = false := decide_eq_false (by omega)
          clear c9
          by_cases c16 : (l0.length : Int) > 400
          · rw [if_pos c16] at H
            have c16b0 : decide (400 < (l0.length : Int)) = true := decide_eq_true c16
            have c16b1 : decide (400 < l0.length) = true := decide_eq_true (by omega)
            clear c16
            by_cases c17 : t214 = 401
            · rw [if_pos c17] at H
              have c17b0 : (t214 == 401) = true := beq_iff_eq.mpr c17
              have c17b1 : (t214 != 401) = false := bne_eq_false_iff_eq.mpr c17
              clear c17
              by_cases c18 : t215 = 4
              · rw [if_pos c18] at H
                have c18b0 : (t215 == 4) = true := beq_iff_eq.mpr c18
                have c18b1 : (t215 != 4) = false := bne_eq_false_iff_eq.mpr c18
                clear c18
                obtain rfl := Option.some.inj H
                go_enter Tryd.func7, Tryd.ntmps7
                go_wp2_with (first | ((with_reducible refine gate_callee (f := 9) rfl ?_); refine goesL_ (some 8) rfl rfl Tryd.func9 (by kernel_rfl) rfl #[] rfl (by (try simp only [List.map_toArray, List.map_cons, List.map_nil]); first | done | rfl | (simp only [List.length_drop, List.length_take]; rfl)) ?_; (with_reducible refine (skiarealaw60_alive.calls k  true _ ?side1 A2.out).mono ?_); (case side1 => exact GW_below HG.out (by repeat (first | (with_reducible first | exact HB.out | apply below_alloc | apply pw_below_drewN | apply below_drew1) | exact HB.out))); rintro e w19 ⟨rfl, hb⟩; refine ⟨_, rfl, ?_⟩; have n0_ := Aside0.mk (below_step (by repeat (first | (with_reducible first | exact HB.out | apply below_alloc | apply pw_below_drewN | apply below_drew1) | exact HB.out)) hb); clear HB; have HB := n0_; clear n0_; (try clear hb); (try clear hb2); (try clear hk); (try clear hi)) | ((with_reducible refine gate_callee (f := 15) rfl ?_); refine goesL_ (some 11) rfl rfl Tryd.func15 (by kernel_rfl) rfl #[.slice A0 l0.length c0] rfl (by (try simp only [List.map_toArray, List.map_cons, List.map_nil]); first | done | rfl | (simp only [List.length_drop, List.length_take]; rfl)) ?_; (with_reducible refine (skiarealaw60_small.calls k _ _ l0 true _ ?side1 ?side2 A4.out).mono ?_); (case side1 => repeat (first | exact (Kd.C_below HR0.out HB.out) | (with_reducible refine Kd.C_alloc ?_ _) | (with_reducible refine Kd.C_drewN ?_ _) | (with_reducible refine Kd.C_drew ?_))); (case side2 => exact HC0.out); rintro e w' ⟨rfl, ⟨nd, rfl⟩⟩; refine ⟨_, rfl, ?_⟩) | ((with_reducible refine gate_callee (f := 16) rfl ?_); refine goesL_ (some 15) rfl rfl Tryd.func16 (by kernel_rfl) rfl #[.slice A0 l0.length c0] rfl (by (try simp only [List.map_toArray, List.map_cons, List.map_nil]); first | done | rfl | (simp only [List.length_drop, List.length_take]; rfl)) ?_; (with_reducible refine (script_Print.calls _ _ l0 t211 t212 _ ?side1 ?side2 ?side3 A6.out).mono ?_); (case side1 => repeat (first | exact (Kd.C_below HR0.out (by repeat (first | (with_reducible first | exact HB.out | apply below_alloc | apply pw_below_drewN | apply below_drew1) | exact HB.out))) | (with_reducible refine Kd.C_alloc ?_ _) | (with_reducible refine Kd.C_drewN ?_ _) | (with_reducible refine Kd.C_drew ?_))); (case side2 => exact HC0.out); (case side3 => exact GW_below HG.out (by repeat (first | (with_reducible first | exact HB.out | apply below_alloc | apply pw_below_drewN | apply below_drew1) | exact HB.out))); rintro e w20 ⟨rfl, hb⟩; refine ⟨_, rfl, ?_⟩; have n0_ := Aside0.mk (below_step (by repeat (first | (with_reducible first | exact HB.out | apply below_alloc | apply pw_below_drewN | apply below_drew1) | exact HB.out)) hb); clear HB; have HB := n0_; clear n0_; (try clear hb); (try clear hb2); (try clear hk); (try clear hi)) | ((with_reducible refine gate_callee (f := 10) rfl ?_); refine goesL_ (some 24) rfl rfl Tryd.func10 (by kernel_rfl) rfl #[.string t211] rfl (by (try simp only [List.map_toArray, List.map_cons, List.map_nil]); first | done | rfl | (simp only [List.length_drop, List.length_take]; rfl)) ?_; (with_reducible refine (script_Parse.calls k t211 t213 t214 t215 _ ?side1 A8.out).mono ?_); (case side1 => exact GW_below HG.out (by repeat (first | (with_reducible first | exact HB.out | apply below_alloc | apply pw_below_drewN | apply below_drew1) | exact HB.out))); rintro e w21 ⟨v216, rfl, ho0, hb⟩; refine ⟨_, rfl, ?_⟩; have n0_ := Aside0.mk (Kd.S_lower ho0 (below_size (by repeat (first | (with_reducible first | exact HB.out | apply below_alloc | apply pw_below_drewN | apply below_drew1) | exact HB.out)))); have n1_ := Aside0.mk (below_step (by repeat (first | (with_reducible first | exact HB.out | apply below_alloc | apply pw_below_drewN | apply below_drew1) | exact HB.out)) hb); clear HB; have HO217 := n0_; have HB := n1_; clear n0_ n1_; (try clear hb); (try clear hb2); (try clear hk); (try clear hi); (try clear ho0); obtain ⟨Ao22, co22, eo22⟩ := Kd.S_slice HO217.out; subst eo22))
                go_ret
                exact ⟨by first | rfl | (simp [errW_none, errW_some] <;> rfl) | (simp [*, errW_none, errW_some] <;> rfl), by repeat (first | (with_reducible first | exact HB.out | apply below_alloc | apply pw_below_drewN | apply below_drew1) | exact HB.out)⟩
              · rw [if_neg c18] at H
                exact absurd H (by simp)
            · rw [if_neg c17] at H
              exact absurd H (by simp)
          · rw [if_neg c16] at H
            have c16b0 : decide (400 < (l0.length : Int)) = false := decide_eq_false c16
            have c16b1 : decide (400 < l0.length) = false := decide_eq_false (by omega)
            clear c16
            by_cases c23 : t214 = 0
            · rw [if_pos c23] at H
              have c23b0 : (t214 == 0) = true := beq_iff_eq.mpr c23
              have c23b1 : (t214 != 0) = false := bne_eq_false_iff_eq.mpr c23
              clear c23
              by_cases c24 : t215 = 0
              · rw [if_pos c24] at H
                have c24b0 : (t215 == 0) = true := beq_iff_eq.mpr c24
                have c24b1 : (t215 != 0) = false := bne_eq_false_iff_eq.mpr c24
                clear c24
                replace H := Option.bind_eq_some_iff.mp H
                obtain ⟨t218, A250, H⟩ := H
                replace H : (some t218) = some r := H
                have A25 := Aside0.mk A250
                clear A250
                obtain rfl := Option.some.inj H
                go_enter Tryd.func7, Tryd.ntmps7
                go_wp2_with (first | ((with_reducible refine gate_callee (f := 9) rfl ?_); refine goesL_ (some 8) rfl rfl Tryd.func9 (by kernel_rfl) rfl #[] rfl (by (try simp only [List.map_toArray, List.map_cons, List.map_nil]); first | done | rfl | (simp only [List.length_drop, List.length_take]; rfl)) ?_; (with_reducible refine (skiarealaw60_alive.calls k  true _ ?side1 A2.out).mono ?_); (case side1 => exact GW_below HG.out (by repeat (first | (with_reducible first | exact HB.out | apply below_alloc | apply pw_below_drewN | apply below_drew1) | exact HB.out))); rintro e w26 ⟨rfl, hb⟩; refine ⟨_, rfl, ?_⟩; have n0_ := Aside0.mk (below_step (by repeat (first | (with_reducible first | exact HB.out | apply below_alloc | apply pw_below_drewN | apply below_drew1) | exact HB.out)) hb); clear HB; have HB := n0_; clear n0_; (try clear hb); (try clear hb2); (try clear hk); (try clear hi)) | ((with_reducible refine gate_callee (f := 15) rfl ?_); refine goesL_ (some 11) rfl rfl Tryd.func15 (by kernel_rfl) rfl #[.slice A0 l0.length c0] rfl (by (try simp only [List.map_toArray, List.map_cons, List.map_nil]); first | done | rfl | (simp only [List.length_drop, List.length_take]; rfl)) ?_; (with_reducible refine (skiarealaw60_small.calls k _ _ l0 true _ ?side1 ?side2 A4.out).mono ?_); (case side1 => repeat (first | exact (Kd.C_below HR0.out HB.out) | (with_reducible refine Kd.C_alloc ?_ _) | (with_reducible refine Kd.C_drewN ?_ _) | (with_reducible refine Kd.C_drew ?_))); (case side2 => exact HC0.out); rintro e w' ⟨rfl, ⟨nd, rfl⟩⟩; refine ⟨_, rfl, ?_⟩) | ((with_reducible refine gate_callee (f := 16) rfl ?_); refine goesL_ (some 15) rfl rfl Tryd.func16 (by kernel_rfl) rfl #[.slice A0 l0.length c0] rfl (by (try simp only [List.map_toArray, List.map_cons, List.map_nil]); first | done | rfl | (simp only [List.length_drop, List.length_take]; rfl)) ?_; (with_reducible refine (script_Print.calls _ _ l0 t211 t212 _ ?side1 ?side2 ?side3 A6.out).mono ?_); (case side1 => repeat (first | exact (Kd.C_below HR0.out (by repeat (first | (with_reducible first | exact HB.out | apply below_alloc | apply pw_below_drewN | apply below_drew1) | exact HB.out))) | (with_reducible refine Kd.C_alloc ?_ _) | (with_reducible refine Kd.C_drewN ?_ _) | (with_reducible refine Kd.C_drew ?_))); (case side2 => exact HC0.out); (case side3 => exact GW_below HG.out (by repeat (first | (with_reducible first | exact HB.out | apply below_alloc | apply pw_below_drewN | apply below_drew1) | exact HB.out))); rintro e w27 ⟨rfl, hb⟩; refine ⟨_, rfl, ?_⟩; have n0_ := Aside0.mk (below_step (by repeat (first | (with_reducible first | exact HB.out | apply below_alloc | apply pw_below_drewN | apply below_drew1) | exact HB.out)) hb); clear HB; have HB := n0_; clear n0_; (try clear hb); (try clear hb2); (try clear hk); (try clear hi)) | ((with_reducible refine gate_callee (f := 10) rfl ?_); refine goesL_ (some 24) rfl rfl Tryd.func10 (by kernel_rfl) rfl #[.string t211] rfl (by (try simp only [List.map_toArray, List.map_cons, List.map_nil]); first | done | rfl | (simp only [List.length_drop, List.length_take]; rfl)) ?_; (with_reducible refine (script_Parse.calls k t211 t213 t214 t215 _ ?side1 A8.out).mono ?_); (case side1 => exact GW_below HG.out (by repeat (first | (with_reducible first | exact HB.out | apply below_alloc | apply pw_below_drewN | apply below_drew1) | exact HB.out))); rintro e w28 ⟨v216, rfl, ho0, hb⟩; refine ⟨_, rfl, ?_⟩; have n0_ := Aside0.mk (Kd.S_lower ho0 (below_size (by repeat (first | (with_reducible first | exact HB.out | apply below_alloc | apply pw_below_drewN | apply below_drew1) | exact HB.out)))); have n1_ := Aside0.mk (below_step (by repeat (first | (with_reducible first | exact HB.out | apply below_alloc | apply pw_below_drewN | apply below_drew1) | exact HB.out)) hb); clear HB; have HO217 := n0_; have HB := n1_; clear n0_ n1_; (try clear hb); (try clear hb2); (try clear hk); (try clear hi); (try clear ho0); obtain ⟨Ao29, co29, eo29⟩ := Kd.S_slice HO217.out; subst eo29) | (go_at_call 12; (with_reducible refine (skiarearef60_Same.calls k _ _ l0 _ _ t213 t218 _ ?side1 ?side2 ?side3 ?side4 A25.out).mono ?_); (case side1 => repeat (first | exact (Kd.C_below HR0.out HB.out) | (with_reducible refine Kd.C_alloc ?_ _) | (with_reducible refine Kd.C_drewN ?_ _) | (with_reducible refine Kd.C_drew ?_))); (case side2 => exact HC0.out); (case side3 => repeat (first | exact (Kd.S_reads' HO217.out).2.2 | (with_reducible refine Kd.C_alloc ?_ _) | (with_reducible refine Kd.C_drewN ?_ _) | (with_reducible refine Kd.C_drew ?_))); (case side4 => exact (Kd.S_reads' HO217.out).2.1); rintro e w' ⟨rfl, ⟨nd, rfl⟩⟩))
                go_ret
                exact ⟨by first | rfl | (simp [errW_none, errW_some] <;> rfl) | (simp [*, errW_none, errW_some] <;> rfl), by repeat (first | (with_reducible first | exact HB.out | apply below_alloc | apply pw_below_drewN | apply below_drew1) | exact HB.out)⟩
              · rw [if_neg c24] at H
                exact absurd H (by simp)
            · rw [if_neg c23] at H
              exact absurd H (by simp)
      · rw [if_neg c7] at H
        have c7b0 : (t212 == 0) = false := beq_eq_false_iff_ne.mpr c7
        have c7b1 : (t212 != 0) = true := bne_iff_ne.mpr c7
        obtain rfl := Option.some.inj H
        go_enter Tryd.func7, Tryd.ntmps7
        go_wp2_with (first | ((with_reducible refine gate_callee (f := 9) rfl ?_); refine goesL_ (some 8) rfl rfl Tryd.func9 (by kernel_rfl) rfl #[] rfl (by (try simp only [List.map_toArray, List.map_cons, List.map_nil]); first | done | rfl | (simp only [List.length_drop, List.length_take]; rfl)) ?_; (with_reducible refine (skiarealaw60_alive.calls k  true _ ?side1 A2.out).mono ?_); (case side1 => exact GW_below HG.out (by repeat (first | (with_reducible first | exact HB.out | apply below_alloc | apply pw_below_drewN | apply below_drew1) | exact HB.out))); rintro e w30 ⟨rfl, hb⟩; refine ⟨_, rfl, ?_⟩; have n0_ := Aside0.mk (below_step (by repeat (first | (with_reducible first | exact HB.out | apply below_alloc | apply pw_below_drewN | apply below_drew1) | exact HB.out)) hb); clear HB; have HB := n0_; clear n0_; (try clear hb); (try clear hb2); (try clear hk); (try clear hi)) | ((with_reducible refine gate_callee (f := 15) rfl ?_); refine goesL_ (some 11) rfl rfl Tryd.func15 (by kernel_rfl) rfl #[.slice A0 l0.length c0] rfl (by (try simp only [List.map_toArray, List.map_cons, List.map_nil]); first | done | rfl | (simp only [List.length_drop, List.length_take]; rfl)) ?_; (with_reducible refine (skiarealaw60_small.calls k _ _ l0 true _ ?side1 ?side2 A4.out).mono ?_); (case side1 => repeat (first | exact (Kd.C_below HR0.out HB.out) | (with_reducible refine Kd.C_alloc ?_ _) | (with_reducible refine Kd.C_drewN ?_ _) | (with_reducible refine Kd.C_drew ?_))); (case side2 => exact HC0.out); rintro e w' ⟨rfl, ⟨nd, rfl⟩⟩; refine ⟨_, rfl, ?_⟩) | ((with_reducible refine gate_callee (f := 16) rfl ?_); refine goesL_ (some 15) rfl rfl Tryd.func16 (by kernel_rfl) rfl #[.slice A0 l0.length c0] rfl (by (try simp only [List.map_toArray, List.map_cons, List.map_nil]); first | done | rfl | (simp only [List.length_drop, List.length_take]; rfl)) ?_; (with_reducible refine (script_Print.calls _ _ l0 t211 t212 _ ?side1 ?side2 ?side3 A6.out).mono ?_); (case side1 => repeat (first | exact (Kd.C_below HR0.out (by repeat (first | (with_reducible first | exact HB.out | apply below_alloc | apply pw_below_drewN | apply below_drew1) | exact HB.out))) | (with_reducible refine Kd.C_alloc ?_ _) | (with_reducible refine Kd.C_drewN ?_ _) | (with_reducible refine Kd.C_drew ?_))); (case side2 => exact HC0.out); (case side3 => exact GW_below HG.out (by repeat (first | (with_reducible first | exact HB.out | apply below_alloc | apply pw_below_drewN | apply below_drew1) | exact HB.out))); rintro e w31 ⟨rfl, hb⟩; refine ⟨_, rfl, ?_⟩; have n0_ := Aside0.mk (below_step (by repeat (first | (with_reducible first | exact HB.out | apply below_alloc | apply pw_below_drewN | apply below_drew1) | exact HB.out)) hb); clear HB; have HB := n0_; clear n0_; (try clear hb); (try clear hb2); (try clear hk); (try clear hi)))
        go_ret
        exact ⟨by first | rfl | (simp [errW_none, errW_some] <;> rfl) | (simp [*, errW_none, errW_some] <;> rfl), by repeat (first | (with_reducible first | exact HB.out | apply below_alloc | apply pw_below_drewN | apply below_drew1) | exact HB.out)⟩
    · replace c5 := Bool.eq_false_iff.mpr c5
      subst c5
      have H1 : (some true) = some r := by rw [if_neg (show ¬ (false = true) by decide)] at H; exact H
      clear H
      have H := H1
      clear H1
      obtain rfl := Option.some.inj H
      go_enter Tryd.func7, Tryd.ntmps7
      go_wp2_with (first | ((with_reducible refine gate_callee (f := 9) rfl ?_); refine goesL_ (some 8) rfl rfl Tryd.func9 (by kernel_rfl) rfl #[] rfl (by (try simp only [List.map_toArray, List.map_cons, List.map_nil]); first | done | rfl | (simp only [List.length_drop, List.length_take]; rfl)) ?_; (with_reducible refine (skiarealaw60_alive.calls k  true _ ?side1 A2.out).mono ?_); (case side1 => exact GW_below HG.out (by repeat (first | (with_reducible first | exact HB.out | apply below_alloc | apply pw_below_drewN | apply below_drew1) | exact HB.out))); rintro e w32 ⟨rfl, hb⟩; refine ⟨_, rfl, ?_⟩; have n0_ := Aside0.mk (below_step (by repeat (first | (with_reducible first | exact HB.out | apply below_alloc | apply pw_below_drewN | apply below_drew1) | exact HB.out)) hb); clear HB; have HB := n0_; clear n0_; (try clear hb); (try clear hb2); (try clear hk); (try clear hi)) | ((with_reducible refine gate_callee (f := 15) rfl ?_); refine goesL_ (some 11) rfl rfl Tryd.func15 (by kernel_rfl) rfl #[.slice A0 l0.length c0] rfl (by (try simp only [List.map_toArray, List.map_cons, List.map_nil]); first | done | rfl | (simp only [List.length_drop, List.length_take]; rfl)) ?_; (with_reducible refine (skiarealaw60_small.calls k _ _ l0 false _ ?side1 ?side2 A4.out).mono ?_); (case side1 => repeat (first | exact (Kd.C_below HR0.out HB.out) | (with_reducible refine Kd.C_alloc ?_ _) | (with_reducible refine Kd.C_drewN ?_ _) | (with_reducible refine Kd.C_drew ?_))); (case side2 => exact HC0.out); rintro e w' ⟨rfl, ⟨nd, rfl⟩⟩; refine ⟨_, rfl, ?_⟩))
      go_ret
      exact ⟨by first | rfl | (simp [errW_none, errW_some] <;> rfl) | (simp [*, errW_none, errW_some] <;> rfl), by repeat (first | (with_reducible first | exact HB.out | apply below_alloc | apply pw_below_drewN | apply below_drew1) | exact HB.out)⟩
  · replace c3 := Bool.eq_false_iff.mpr c3
    subst c3
    have H1 : (none) = some r := by rw [if_neg (show ¬ (false = true) by decide)] at H; exact H
    clear H
    have H := H1
    clear H1
    exact absurd H (by simp)

/-! ### skiarealaw60_ScriptLines: function 8 -/
mutual
def skiarealaw60_ScriptLines.j0 : Nat → List (S39) → Int → Int → Int → Int → Bool → Option (Bool)
  | 0, _, _, _, _, _, _ => none
  | k + 1, x3, x4, x5, x7, x10, x63 => if x63 = true then (none) else (if x5 = 0 then ((script_Print.f x3).bind fun bt237 => (skiarealaw60_ScriptLines.l0 k x3 x4 x7 x10 bt237.1 bt237.2 0 0)) else (if (x3.length : Int) = 0 then (if x7 = (wrap64 (x4 + 1)) then (some (x10 == (wrap64 (x4 + 1)))) else (none)) else (none)))
def skiarealaw60_ScriptLines.l0 : Nat → List (S39) → Int → Int → Int → ByteArray → Int → Int → Int → Option (Bool)
  | 0, _, _, _, _, _, _, _, _ => none
  | k + 1, x3, x4, x7, x10, x12, x13, x14, x15 => if x15 < (x12.size : Int) then (if 0 ≤ x15 then (if (bt x12 x15) = 10 then (skiarealaw60_ScriptLines.l0 k x3 x4 x7 x10 x12 x13 (wrap64 (x14 + 1)) (wrap64 (x15 + 1))) else (skiarealaw60_ScriptLines.l0 k x3 x4 x7 x10 x12 x13 x14 (wrap64 (x15 + 1)))) else (none)) else ((script_Parse.f k x12).bind fun bt239 => (if x4 = 0 then (if x7 = 0 then (if x10 = 0 then (if x13 = 0 then (if x14 = (x3.length : Int) then (if bt239.2.2 = 0 then ((skiarearef60_Same.f k bt239.1 x3).bind fun t244 => (some t244)) else (none)) else (none)) else (none)) else (none)) else (none)) else (none)))
end
def skiarealaw60_ScriptLines.f (k : Nat) (a0 : ByteArray) : Option (Bool) := (skiarealaw60_alive.f k).bind fun t219 => (if t219 = true then (if (a0.size : Int) > 19000 then (some true) else ((script_Parse.f k a0).bind fun bt220 => (if 1 + a0.size ≤ 9223372036854775807 then ((script_Parse.f k ((⟨#[10]⟩ : ByteArray) ++ a0)).bind fun bt225 => (if 6 + a0.size ≤ 9223372036854775807 then ((script_Parse.f k ((⟨#[35, 116, 105, 99, 107, 10]⟩ : ByteArray) ++ a0)).bind fun bt230 => (if bt220.2.2 = bt225.2.2 then (if bt220.2.2 = bt230.2.2 then ((skiarearef60_Same.f k bt220.1 bt225.1).bind fun t235 => (if t235 = true then ((skiarearef60_Same.f k bt220.1 bt230.1).bind fun t236 => (skiarealaw60_ScriptLines.j0 k bt220.1 bt220.2.1 bt220.2.2 bt225.2.1 bt230.2.1 (!t236))) else (none))) else (none)) else (none))) else (none))) else (none)))) else (none))
theorem skiarealaw60_ScriptLines.mono_l : ∀ k, (∀ y0 y1 y2 y3 y4 y5, LeO (skiarealaw60_ScriptLines.j0 k y0 y1 y2 y3 y4 y5) (skiarealaw60_ScriptLines.j0 (k + 1) y0 y1 y2 y3 y4 y5)) ∧ (∀ y0 y1 y2 y3 y4 y5 y6 y7, LeO (skiarealaw60_ScriptLines.l0 k y0 y1 y2 y3 y4 y5 y6 y7) (skiarealaw60_ScriptLines.l0 (k + 1) y0 y1 y2 y3 y4 y5 y6 y7))
  | 0 => ⟨fun _ _ _ _ _ _ r h => by simp [skiarealaw60_ScriptLines.j0] at h, fun _ _ _ _ _ _ _ _ r h => by simp [skiarealaw60_ScriptLines.l0] at h⟩
  | k + 1 => by
    obtain ⟨ih0, ih1⟩ := skiarealaw60_ScriptLines.mono_l k
    refine ⟨?_, ?_⟩
    · intro y0 y1 y2 y3 y4 y5
      unfold skiarealaw60_ScriptLines.j0
      repeat' first
      | (with_reducible exact ih0 _ _ _ _ _ _)
      | (with_reducible exact ih1 _ _ _ _ _ _ _ _)
      | (with_reducible exact script_Parse.mono _ _)
      | (with_reducible exact skiarealaw60_alive.mono _)
      | (with_reducible exact skiarearef60_Same.mono _ _ _)
      | (with_reducible exact LeO.refl _)
      | (with_reducible exact LeO.none _)
      | (with_reducible refine LeO.ite ?_ ?_)
      | (with_reducible refine LeO.bind ?_ (fun _ => ?_))
      | exact ih0 _ _ _ _ _ _
      | exact ih1 _ _ _ _ _ _ _ _
      | exact script_Parse.mono _ _
      | exact skiarealaw60_alive.mono _
      | exact skiarearef60_Same.mono _ _ _
      | exact LeO.none _
      | refine LeO.ite ?_ ?_
      | refine LeO.bind ?_ (fun _ => ?_)
    · intro y0 y1 y2 y3 y4 y5 y6 y7
      unfold skiarealaw60_ScriptLines.l0
      repeat' first
      | (with_reducible exact ih0 _ _ _ _ _ _)
      | (with_reducible exact ih1 _ _ _ _ _ _ _ _)
      | (with_reducible exact script_Parse.mono _ _)
      | (with_reducible exact skiarealaw60_alive.mono _)
      | (with_reducible exact skiarearef60_Same.mono _ _ _)
      | (with_reducible exact LeO.refl _)
      | (with_reducible exact LeO.none _)
      | (with_reducible refine LeO.ite ?_ ?_)
      | (with_reducible refine LeO.bind ?_ (fun _ => ?_))
      | exact ih0 _ _ _ _ _ _
      | exact ih1 _ _ _ _ _ _ _ _
      | exact script_Parse.mono _ _
      | exact skiarealaw60_alive.mono _
      | exact skiarearef60_Same.mono _ _ _
      | exact LeO.none _
      | refine LeO.ite ?_ ?_
      | refine LeO.bind ?_ (fun _ => ?_)
theorem skiarealaw60_ScriptLines.mono : ∀ a0 k, LeO (skiarealaw60_ScriptLines.f k a0) (skiarealaw60_ScriptLines.f (k + 1) a0) := by
  intro a0 k
  obtain ⟨ih0, ih1⟩ := skiarealaw60_ScriptLines.mono_l k
  unfold skiarealaw60_ScriptLines.f
  repeat' first
      | (with_reducible exact ih0 _ _ _ _ _ _)
      | (with_reducible exact ih1 _ _ _ _ _ _ _ _)
      | (with_reducible exact script_Parse.mono _ _)
      | (with_reducible exact skiarealaw60_alive.mono _)
      | (with_reducible exact skiarearef60_Same.mono _ _ _)
      | (with_reducible exact LeO.refl _)
      | (with_reducible exact LeO.none _)
      | (with_reducible refine LeO.ite ?_ ?_)
      | (with_reducible refine LeO.bind ?_ (fun _ => ?_))
      | exact ih0 _ _ _ _ _ _
      | exact ih1 _ _ _ _ _ _ _ _
      | exact script_Parse.mono _ _
      | exact skiarealaw60_alive.mono _
      | exact skiarearef60_Same.mono _ _ _
      | exact LeO.none _
      | refine LeO.ite ?_ ?_
      | refine LeO.bind ?_ (fun _ => ?_)
set_option maxHeartbeats 8000000 in
set_option maxRecDepth 100000 in
theorem skiarealaw60_ScriptLines.calls (k : Nat) (a0 : ByteArray) (r : Bool) (w : World) (hG : GW w) (h : skiarealaw60_ScriptLines.f k a0 = some r) :
    Calls Tryd.prog 8 #[.string a0] w fun e w' => e = .returned (.bool r) ∧ Below w.heap.size w w' := by
  have HG := Aside0.mk hG
  clear hG
  have HB := Aside0.mk (Below.refl w.heap.size w)
  have H : ((skiarealaw60_alive.f k).bind fun t219 => (if t219 = true then (if (a0.size : Int) > 19000 then (some true) else ((script_Parse.f k a0).bind fun bt220 => (if 1 + a0.size ≤ 9223372036854775807 then ((script_Parse.f k ((⟨#[10]⟩ : ByteArray) ++ a0)).bind fun bt225 => (if 6 + a0.size ≤ 9223372036854775807 then ((script_Parse.f k ((⟨#[35, 116, 105, 99, 107, 10]⟩ : ByteArray) ++ a0)).bind fun bt230 => (if bt220.2.2 = bt225.2.2 then (if bt220.2.2 = bt230.2.2 then ((skiarearef60_Same.f k bt220.1 bt225.1).bind fun t235 => (if t235 = true then ((skiarearef60_Same.f k bt220.1 bt230.1).bind fun t236 => (skiarealaw60_ScriptLines.j0 k bt220.1 bt220.2.1 bt220.2.2 bt225.2.1 bt230.2.1 (!t236))) else (none))) else (none)) else (none))) else (none))) else (none)))) else (none))) = some r := h
  clear h
  replace H := Option.bind_eq_some_iff.mp H
  obtain ⟨t219, A20, H⟩ := H
  replace H : (if t219 = true then (if (a0.size : Int) > 19000 then (some true) else ((script_Parse.f k a0).bind fun bt220 => (if 1 + a0.size ≤ 9223372036854775807 then ((script_Parse.f k ((⟨#[10]⟩ : ByteArray) ++ a0)).bind fun bt225 => (if 6 + a0.size ≤ 9223372036854775807 then ((script_Parse.f k ((⟨#[35, 116, 105, 99, 107, 10]⟩ : ByteArray) ++ a0)).bind fun bt230 => (if bt220.2.2 = bt225.2.2 then (if bt220.2.2 = bt230.2.2 then ((skiarearef60_Same.f k bt220.1 bt225.1).bind fun t235 => (if t235 = true then ((skiarearef60_Same.f k bt220.1 bt230.1).bind fun t236 => (skiarealaw60_ScriptLines.j0 k bt220.1 bt220.2.1 bt220.2.2 bt225.2.1 bt230.2.1 (!t236))) else (none))) else (none)) else (none))) else (none))) else (none)))) else (none)) = some r := H
  have A2 := Aside0.mk A20
  clear A20
  by_cases c3 : t219 = true
  · subst c3
    have H1 : (if (a0.size : Int) > 19000 then (some true) else ((script_Parse.f k a0).bind fun bt220 => (if 1 + a0.size ≤ 9223372036854775807 then ((script_Parse.f k ((⟨#[10]⟩ : ByteArray) ++ a0)).bind fun bt225 => (if 6 + a0.size ≤ 9223372036854775807 then ((script_Parse.f k ((⟨#[35, 116, 105, 99, 107, 10]⟩ : ByteArray) ++ a0)).bind fun bt230 => (if bt220.2.2 = bt225.2.2 then (if bt220.2.2 = bt230.2.2 then ((skiarearef60_Same.f k bt220.1 bt225.1).bind fun t235 => (if t235 = true then ((skiarearef60_Same.f k bt220.1 bt230.1).bind fun t236 => (skiarealaw60_ScriptLines.j0 k bt220.1 bt220.2.1 bt220.2.2 bt225.2.1 bt230.2.1 (!t236))) else (none))) else (none)) else (none))) else (none))) else (none)))) = some r := by rw [if_pos rfl] at H; exact H
    clear H
    have H := H1
    clear H1
    by_cases c4 : (a0.size : Int) > 19000
    · rw [if_pos c4] at H
      have c4b0 : decide (19000 < (a0.size : Int)) = true := decide_eq_true c4
      have c4b1 : decide (19000 < a0.size) = true := decide_eq_true (by omega)
      clear c4
      obtain rfl := Option.some.inj H
      go_enter Tryd.func8, Tryd.ntmps8
      go_wp2_with (first | ((with_reducible refine gate_callee (f := 9) rfl ?_); refine goesL_ (some 19) rfl rfl Tryd.func9 (by kernel_rfl) rfl #[] rfl (by (try simp only [List.map_toArray, List.map_cons, List.map_nil]); first | done | rfl | (simp only [List.length_drop, List.length_take]; rfl)) ?_; (with_reducible refine (skiarealaw60_alive.calls k  true _ ?side1 A2.out).mono ?_); (case side1 => exact GW_below HG.out (by repeat (first | (with_reducible first | exact HB.out | apply below_alloc | apply pw_below_drewN | apply below_drew1) | exact HB.out))); rintro e w5 ⟨rfl, hb⟩; refine ⟨_, rfl, ?_⟩; have n0_ := Aside0.mk (below_step (by repeat (first | (with_reducible first | exact HB.out | apply below_alloc | apply pw_below_drewN | apply below_drew1) | exact HB.out)) hb); clear HB; have HB := n0_; clear n0_; (try clear hb); (try clear hb2); (try clear hk); (try clear hi)))
      go_ret
      exact ⟨by first | rfl | (simp [errW_none, errW_some] <;> rfl) | (simp [*, errW_none, errW_some] <;> rfl), by repeat (first | (with_reducible first | exact HB.out | apply below_alloc | apply pw_below_drewN | apply below_drew1) | exact HB.out)⟩
    · rw [if_neg c4] at H
      have c4b0 : decide (19000 < (a0.size : Int)) = false := decide_eq_false c4
      have c4b1 : decide (19000 < a0.size) = false := decide_eq_false (by omega)
      clear c4
      replace H := Option.bind_eq_some_iff.mp H
      obtain ⟨⟨t220, t221, t222⟩, A60, H⟩ := H
      replace H : (if 1 + a0.size ≤ 9223372036854775807 then ((script_Parse.f k ((⟨#[10]⟩ : ByteArray) ++ a0)).bind fun bt225 => (if 6 + a0.size ≤ 9223372036854775807 then ((script_Parse.f k ((⟨#[35, 116, 105, 99, 107, 10]⟩ : ByteArray) ++ a0)).bind fun bt230 => (if t222 = bt225.2.2 then (if t222 = bt230.2.2 then ((skiarearef60_Same.f k t220 bt225.1).bind fun t235 => (if t235 = true then ((skiarearef60_Same.f k t220 bt230.1).bind fun t236 => (skiarealaw60_ScriptLines.j0 k t220 t221 t222 bt225.2.1 bt230.2.1 (!t236))) else (none))) else (none)) else (none))) else (none))) else (none)) = some r := H
      have A6 := Aside0.mk A60
      clear A60
      by_cases c7 : 1 + a0.size ≤ 9223372036854775807
      · rw [if_pos c7] at H
        have c7b0 := eq_true c7
        have c7b1 : decide (1 + a0.size ≤ 9223372036854775807) = true := decide_eq_true c7
        try have c7b2 : (9223372036854775807 < 1 + a0.size) = False := eq_false (Nat.not_lt.2 c7)
        replace H := Option.bind_eq_some_iff.mp H
        obtain ⟨⟨t225, t226, t227⟩, A80, H⟩ := H
        replace H : (if 6 + a0.size ≤ 9223372036854775807 then ((script_Parse.f k ((⟨#[35, 116, 105, 99, 107, 10]⟩ : ByteArray) ++ a0)).bind fun bt230 => (if t222 = t227 then (if t222 = bt230.2.2 then ((skiarearef60_Same.f k t220 t225).bind fun t235 => (if t235 = true then ((skiarearef60_Same.f k t220 bt230.1).bind fun t236 => (skiarealaw60_ScriptLines.j0 k t220 t221 t222 t226 bt230.2.1 (!t236))) else (none))) else (none)) else (none))) else (none)) = some r := H
        have A8 := Aside0.mk A80
        clear A80
        by_cases c9 : 6 + a0.size ≤ 9223372036854775807
        · rw [if_pos c9] at H
          have c9b0 := eq_true c9
          have c9b1 : decide (6 + a0.size ≤ 9223372036854775807) = true := decide_eq_true c9
          try have c9b2 : (9223372036854775807 < 6 + a0.size) = False := eq_false (Nat.not_lt.2 c9)
          replace H := Option.bind_eq_some_iff.mp H
          obtain ⟨⟨t230, t231, t232⟩, A100, H⟩ := H
          replace H : (if t222 = t227 then (if t222 = t232 then ((skiarearef60_Same.f k t220 t225).bind fun t235 => (if t235 = true then ((skiarearef60_Same.f k t220 t230).bind fun t236 => (skiarealaw60_ScriptLines.j0 k t220 t221 t222 t226 t231 (!t236))) else (none))) else (none)) else (none)) = some r := H
          have A10 := Aside0.mk A100
          clear A100
          have HC11 := Aside0.mk H
          clear H
          go_enter Tryd.func8, Tryd.ntmps8
          go_upto_region 8 with (first | ((with_reducible refine gate_callee (f := 9) rfl ?_); refine goesL_ (some 19) rfl rfl Tryd.func9 (by kernel_rfl) rfl #[] rfl (by (try simp only [List.map_toArray, List.map_cons, List.map_nil]); first | done | rfl | (simp only [List.length_drop, List.length_take]; rfl)) ?_; (with_reducible refine (skiarealaw60_alive.calls k  true _ ?side1 A2.out).mono ?_); (case side1 => exact GW_below HG.out (by repeat (first | (with_reducible first | exact HB.out | apply below_alloc | apply pw_below_drewN | apply below_drew1) | exact HB.out))); rintro e w12 ⟨rfl, hb⟩; refine ⟨_, rfl, ?_⟩; have n0_ := Aside0.mk (below_step (by repeat (first | (with_reducible first | exact HB.out | apply below_alloc | apply pw_below_drewN | apply below_drew1) | exact HB.out)) hb); clear HB; have HB := n0_; clear n0_; (try clear hb); (try clear hb2); (try clear hk); (try clear hi)) | ((with_reducible refine gate_callee (f := 10) rfl ?_); refine goesL_ (some 26) rfl rfl Tryd.func10 (by kernel_rfl) rfl #[.string a0] rfl (by (try simp only [List.map_toArray, List.map_cons, List.map_nil]); first | done | rfl | (simp only [List.length_drop, List.length_take]; rfl)) ?_; (with_reducible refine (script_Parse.calls k a0 t220 t221 t222 _ ?side1 A6.out).mono ?_); (case side1 => exact GW_below HG.out (by repeat (first | (with_reducible first | exact HB.out | apply below_alloc | apply pw_below_drewN | apply below_drew1) | exact HB.out))); rintro e w13 ⟨v223, rfl, ho0, hb⟩; refine ⟨_, rfl, ?_⟩; have n0_ := Aside0.mk (Kd.S_lower ho0 (below_size (by repeat (first | (with_reducible first | exact HB.out | apply below_alloc | apply pw_below_drewN | apply below_drew1) | exact HB.out)))); have n1_ := Aside0.mk (below_step (by repeat (first | (with_reducible first | exact HB.out | apply below_alloc | apply pw_below_drewN | apply below_drew1) | exact HB.out)) hb); clear HB; have HO224 := n0_; have HB := n1_; clear n0_ n1_; (try clear hb); (try clear hb2); (try clear hk); (try clear hi); (try clear ho0)) | ((with_reducible refine gate_callee (f := 10) rfl ?_); refine goesL_ (some 33) rfl rfl Tryd.func10 (by kernel_rfl) rfl #[.string ((⟨#[10]⟩ : ByteArray) ++ a0)] rfl (by (try simp only [List.map_toArray, List.map_cons, List.map_nil]); first | done | rfl | (simp only [List.length_drop, List.length_take]; rfl)) ?_; (with_reducible refine (script_Parse.calls k ((⟨#[10]⟩ : ByteArray) ++ a0) t225 t226 t227 _ ?side1 A8.out).mono ?_); (case side1 => exact GW_below HG.out (by repeat (first | (with_reducible first | exact HB.out | apply below_alloc | apply pw_below_drewN | apply below_drew1) | exact HB.out))); rintro e w14 ⟨v228, rfl, ho0, hb⟩; refine ⟨_, rfl, ?_⟩; have n0_ := Aside0.mk (Kd.S_elder' (by (with_reducible repeat (first | apply Kd.S_alloc | apply Kd.S_drewN | apply Kd.S_drew)); exact HO224.out) (by first | exact Kd.S_base ho0 | exact Kd.S_base ho0 | exact Kd.R_base ho0) hb); have n1_ := Aside0.mk (Kd.S_lower (Kd.S_new' ho0 (Kd.S_lt (by (with_reducible repeat (first | apply Kd.S_alloc | apply Kd.S_drewN | apply Kd.S_drew)); exact HO224.out))) (below_size (by repeat (first | (with_reducible first | exact HB.out | apply below_alloc | apply pw_below_drewN | apply below_drew1) | exact HB.out)))); have n2_ := Aside0.mk (below_step (by repeat (first | (with_reducible first | exact HB.out | apply below_alloc | apply pw_below_drewN | apply below_drew1) | exact HB.out)) hb); clear HO224; clear HB; have HO224 := n0_; have HO229 := n1_; have HB := n2_; clear n0_ n1_ n2_; (try clear hb); (try clear hb2); (try clear hk); (try clear hi); (try clear ho0)) | ((with_reducible refine gate_callee (f := 10) rfl ?_); refine goesL_ (some 40) rfl rfl Tryd.func10 (by kernel_rfl) rfl #[.string ((⟨#[35, 116, 105, 99, 107, 10]⟩ : ByteArray) ++ a0)] rfl (by (try simp only [List.map_toArray, List.map_cons, List.map_nil]); first | done | rfl | (simp only [List.length_drop, List.length_take]; rfl)) ?_; (with_reducible refine (script_Parse.calls k ((⟨#[35, 116, 105, 99, 107, 10]⟩ : ByteArray) ++ a0) t230 t231 t232 _ ?side1 A10.out).mono ?_); (case side1 => exact GW_below HG.out (by repeat (first | (with_reducible first | exact HB.out | apply below_alloc | apply pw_below_drewN | apply below_drew1) | exact HB.out))); rintro e w15 ⟨v233, rfl, ho0, hb⟩; refine ⟨_, rfl, ?_⟩; have n0_ := Aside0.mk (Kd.S_elder' (by (with_reducible repeat (first | apply Kd.S_alloc | apply Kd.S_drewN | apply Kd.S_drew)); exact HO224.out) (by first | exact Kd.S_base ho0 | exact Kd.S_base ho0 | exact Kd.R_base ho0) hb); have n1_ := Aside0.mk (Kd.S_elder' (by (with_reducible repeat (first | apply Kd.S_alloc | apply Kd.S_drewN | apply Kd.S_drew)); exact HO229.out) (by first | exact Kd.S_base ho0 | exact Kd.S_base ho0 | exact Kd.R_base ho0) hb); have n2_ := Aside0.mk (Kd.S_lower (Kd.S_new' (Kd.S_new' ho0 (Kd.S_lt (by (with_reducible repeat (first | apply Kd.S_alloc | apply Kd.S_drewN | apply Kd.S_drew)); exact HO224.out))) (Kd.S_lt (by (with_reducible repeat (first | apply Kd.S_alloc | apply Kd.S_drewN | apply Kd.S_drew)); exact HO229.out))) (below_size (by repeat (first | (with_reducible first | exact HB.out | apply below_alloc | apply pw_below_drewN | apply below_drew1) | exact HB.out)))); have n3_ := Aside0.mk (below_step (by repeat (first | (with_reducible first | exact HB.out | apply below_alloc | apply pw_below_drewN | apply below_drew1) | exact HB.out)) hb); clear HO224; clear HO229; clear HB; have HO224 := n0_; have HO229 := n1_; have HO234 := n2_; have HB := n3_; clear n0_ n1_ n2_ n3_; (try clear hb); (try clear hb2); (try clear hk); (try clear hi); (try clear ho0)))
          (try simp only [Act.put, List.setIfInBounds_toArray, List.set_cons_zero, List.set_cons_succ])
          go_cut [63] (fun v63 wc => ∃ (kq : Nat) (x63_10 : Bool), v63 = .bool x63_10 ∧ Aside0 (skiarealaw60_ScriptLines.j0 kq t220 t221 t222 t226 t231 x63_10 = some r) ∧ Aside0 (kq ≤ k) ∧ Aside0 (Kd.S k39 39 wc w.heap.size (fun _ => True) v223 t220) ∧ Aside0 (Below w.heap.size w wc))
          case first =>
            have H := HC11.out
            clear HC11
            by_cases c16 : t222 = t227
            · rw [if_pos c16] at H
              have c16b0 : (t222 == t227) = true := beq_iff_eq.mpr c16
              have c16b1 : (t222 != t227) = false := bne_eq_false_iff_eq.mpr c16
              clear c16
              (first | rw [c16b0] | (simp only [i64_w, i32_w]; rw [c16b0]) | rw [c16b1] | skip)
              by_cases c17 : t222 = t232
              · rw [if_pos c17] at H
                have c17b0 : (t222 == t232) = true := beq_iff_eq.mpr c17
                have c17b1 : (t222 != t232) = false := bne_eq_false_iff_eq.mpr c17
                clear c17
                replace H := Option.bind_eq_some_iff.mp H
                obtain ⟨t235, A180, H⟩ := H
                replace H : (if t235 = true then ((skiarearef60_Same.f k t220 t230).bind fun t236 => (skiarealaw60_ScriptLines.j0 k t220 t221 t222 t226 t231 (!t236))) else (none)) = some r := H
                have A18 := Aside0.mk A180
                clear A180
                by_cases c19 : t235 = true
                · subst c19
                  have H1 : ((skiarearef60_Same.f k t220 t230).bind fun t236 => (skiarealaw60_ScriptLines.j0 k t220 t221 t222 t226 t231 (!t236))) = some r := by rw [if_pos rfl] at H; exact H
                  clear H
                  have H := H1
                  clear H1
                  replace H := Option.bind_eq_some_iff.mp H
                  obtain ⟨t236, A200, H⟩ := H
                  replace H : (skiarealaw60_ScriptLines.j0 k t220 t221 t222 t226 t231 (!t236)) = some r := H
                  have A20 := Aside0.mk A200
                  clear A200
                  have H' := Aside0.mk H
                  clear H
                  obtain ⟨Ao21, co21, eo21⟩ := Kd.S_slice HO224.out
                  subst eo21
                  obtain ⟨Ao22, co22, eo22⟩ := Kd.S_slice HO229.out
                  subst eo22
                  go_wp2_with (first | (go_at_call 12; (with_reducible refine (skiarearef60_Same.calls k _ _ t220 _ _ t225 true _ ?side1 ?side2 ?side3 ?side4 A18.out).mono ?_); (case side1 => repeat (first | exact (Kd.S_reads' HO224.out).2.2 | (with_reducible refine Kd.C_alloc ?_ _) | (with_reducible refine Kd.C_drewN ?_ _) | (with_reducible refine Kd.C_drew ?_))); (case side2 => exact (Kd.S_reads' HO224.out).2.1); (case side3 => repeat (first | exact (Kd.S_reads' HO229.out).2.2 | (with_reducible refine Kd.C_alloc ?_ _) | (with_reducible refine Kd.C_drewN ?_ _) | (with_reducible refine Kd.C_drew ?_))); (case side4 => exact (Kd.S_reads' HO229.out).2.1); rintro e w' ⟨rfl, ⟨nd, rfl⟩⟩; obtain ⟨Ao23, co23, eo23⟩ := Kd.S_slice HO234.out; subst eo23) | (go_at_call 12; (with_reducible refine (skiarearef60_Same.calls k _ _ t220 _ _ t230 t236 _ ?side1 ?side2 ?side3 ?side4 A20.out).mono ?_); (case side1 => repeat (first | exact (Kd.S_reads' HO224.out).2.2 | (with_reducible refine Kd.C_alloc ?_ _) | (with_reducible refine Kd.C_drewN ?_ _) | (with_reducible refine Kd.C_drew ?_))); (case side2 => exact (Kd.S_reads' HO224.out).2.1); (case side3 => repeat (first | exact (Kd.S_reads' HO234.out).2.2 | (with_reducible refine Kd.C_alloc ?_ _) | (with_reducible refine Kd.C_drewN ?_ _) | (with_reducible refine Kd.C_drew ?_))); (case side4 => exact (Kd.S_reads' HO234.out).2.1); rintro e w' ⟨rfl, ⟨nd, rfl⟩⟩))
                  go_meet
                  case rel => exact ⟨_, (!t236), (by first | rfl | (simp; done) | (simp [*]; done)), H', ⟨by first | omega | exact Nat.le_refl _⟩, ⟨by (with_reducible repeat (first | apply Kd.S_alloc | apply Kd.S_drewN | apply Kd.S_drew)); exact Kd.S_mono HO224.out (fun _ hk => trivial)⟩, ⟨by repeat (first | (with_reducible first | exact HB.out | apply below_alloc | apply pw_below_drewN | apply below_drew1) | exact HB.out)⟩⟩
                · replace c19 := Bool.eq_false_iff.mpr c19
                  subst c19
                  have H1 : (none) = some r := by rw [if_neg (show ¬ (false = true) by decide)] at H; exact H
                  clear H
                  have H := H1
                  clear H1
                  exact absurd H (by simp)
              · rw [if_neg c17] at H
                exact absurd H (by simp)
            · rw [if_neg c16] at H
              exact absurd H (by simp)
          case rest =>
            clear HC11
            try clear c1
            try clear p2
            try clear c3
            try clear c4
            try clear c4b0
            try clear c4b1
            try clear c7
            try clear c7b0
            try clear c7b1
            try clear c7b2
            try clear c8
            try clear c9
            try clear c9b0
            try clear c9b1
            try clear c9b2
            try clear c10
            try clear c16
            try clear c16b0
            try clear c16b1
            try clear c17
            try clear c17b0
            try clear c17b1
            try clear c19
            obtain ⟨kq, x63_10, rfl, HA, HJ10, HO_3, HB⟩ := hcut
            cases kq with
            | zero => exact absurd HA.out (by simp [skiarealaw60_ScriptLines.j0])
            | succ kj10 =>
              have H := HA.out
              clear HA
              simp only [skiarealaw60_ScriptLines.j0] at H
              by_cases c24 : x63_10 = true
              · subst c24
                have H1 : (none) = some r := by rw [if_pos rfl] at H; exact H
                clear H
                have H := H1
                clear H1
                exact absurd H (by simp)
              · replace c24 := Bool.eq_false_iff.mpr c24
                subst c24
                have H1 : (if t222 = 0 then ((script_Print.f t220).bind fun bt237 => (skiarealaw60_ScriptLines.l0 kj10 t220 t221 t226 t231 bt237.1 bt237.2 0 0)) else (if (t220.length : Int) = 0 then (if t226 = (wrap64 (t221 + 1)) then (some (t231 == (wrap64 (t221 + 1)))) else (none)) else (none))) = some r := by rw [if_neg (show ¬ (false = true) by decide)] at H; exact H
                clear H
                have H := H1
                clear H1
                by_cases c25 : t222 = 0
                · rw [if_pos c25] at H
                  have c25b0 : (t222 == 0) = true := beq_iff_eq.mpr c25
                  have c25b1 : (t222 != 0) = false := bne_eq_false_iff_eq.mpr c25
                  clear c25
                  replace H := Option.bind_eq_some_iff.mp H
                  obtain ⟨⟨t237, t238⟩, A260, H⟩ := H
                  replace H : (skiarealaw60_ScriptLines.l0 kj10 t220 t221 t226 t231 t237 t238 0 0) = some r := H
                  have A26 := Aside0.mk A260
                  clear A260
                  have H' := Aside0.mk H
                  clear H
                  obtain ⟨Ao27, co27, eo27⟩ := Kd.S_slice HO_3.out
                  subst eo27
                  go_wp2_with (first | ((with_reducible refine gate_callee (f := 16) rfl ?_); refine goesL_ (some 83) rfl rfl Tryd.func16 (by kernel_rfl) rfl #[.slice Ao27 t220.length co27] rfl (by (try simp only [List.map_toArray, List.map_cons, List.map_nil]); first | done | rfl | (simp only [List.length_drop, List.length_take]; rfl)) ?_; (with_reducible refine (script_Print.calls _ _ t220 t237 t238 _ ?side1 ?side2 ?side3 A26.out).mono ?_); (case side1 => repeat (first | exact (Kd.S_reads' HO_3.out).2.2 | (with_reducible refine Kd.C_alloc ?_ _) | (with_reducible refine Kd.C_drewN ?_ _) | (with_reducible refine Kd.C_drew ?_))); (case side2 => exact (Kd.S_reads' HO_3.out).2.1); (case side3 => exact GW_below HG.out (by repeat (first | (with_reducible first | exact HB.out | apply below_alloc | apply pw_below_drewN | apply below_drew1) | exact HB.out))); rintro e w28 ⟨rfl, hb⟩; refine ⟨_, rfl, ?_⟩; have n0_ := Aside0.mk (Kd.S_below (by (with_reducible repeat (first | apply Kd.S_alloc | apply Kd.S_drewN | apply Kd.S_drew)); exact HO_3.out) hb); have n1_ := Aside0.mk (below_step (by repeat (first | (with_reducible first | exact HB.out | apply below_alloc | apply pw_below_drewN | apply below_drew1) | exact HB.out)) hb); clear HO_3; clear HB; have HO_3 := n0_; have HB := n1_; clear n0_ n1_; (try clear hb); (try clear hb2); (try clear hk); (try clear hi)))
                  go_loopg [14, 15] kj10 (fun kq v14 v15 w' => ∃ (x14_2 : Int) (x15_2 : Int), v14 = .int .i64 x14_2 ∧ v15 = .int .i64 x15_2 ∧ Aside0 (skiarealaw60_ScriptLines.l0 kq t220 t221 t226 t231 t237 t238 x14_2 x15_2 = some r) ∧ Aside0 (kq ≤ kj10) ∧ Aside0 (Kd.S k39 39 w' w.heap.size (fun _ => True) (.slice Ao27 t220.length co27) t220) ∧ Aside0 (Below w.heap.size w w'))
                  case atStart => exact ⟨(0), (0), (by first | rfl | (simp; done) | (simp [*]; done)), (by first | rfl | (simp; done) | (simp [*]; done)), H', ⟨Nat.le_refl _⟩, ⟨by (with_reducible repeat (first | apply Kd.S_alloc | apply Kd.S_drewN | apply Kd.S_drew)); exact HO_3.out⟩, ⟨by repeat (first | (with_reducible first | exact HB.out | apply below_alloc | apply pw_below_drewN | apply below_drew1) | exact HB.out)⟩⟩
                  case round =>
                    clear H'
                    try clear c1
                    try clear c2
                    try clear p2
                    try clear c3
                    try clear c4
                    try clear c4b0
                    try clear c4b1
                    try clear p6
                    try clear c7
                    try clear c7b0
                    try clear c7b1
                    try clear c7b2
                    try clear c8
                    try clear c9
                    try clear c9b0
                    try clear c9b1
                    try clear c9b2
                    try clear c10
                    try clear c16
                    try clear c16b0
                    try clear c16b1
                    try clear c17
                    try clear c17b0
                    try clear c17b1
                    try clear c19
                    try clear c24
                    try clear c25
                    try clear c25b0
                    try clear c25b1
                    try clear p2
                    obtain ⟨x14_2, x15_2, rfl, rfl, HA, HK2, HO_3, HB⟩ := hrel
                    cases gk with
                    | zero => exact absurd HA.out (by simp [skiarealaw60_ScriptLines.l0])
                    | succ k2 =>
                      have H := HA.out
                      clear HA
                      simp only [skiarealaw60_ScriptLines.l0] at H
                      by_cases c29 : x15_2 < (t237.size : Int)
                      · rw [if_pos c29] at H
                        have c29b0 : decide (x15_2 < (t237.size : Int)) = true := decide_eq_true c29
                        clear c29
                        by_cases c30 : 0 ≤ x15_2
                        · rw [if_pos c30] at H
                          have c30b0 : decide (0 ≤ x15_2) = true := decide_eq_true c30
                          clear c30
                          by_cases c32 : (bt t237 x15_2) = 10
                          · rw [if_pos c32] at H
                            have c32b0 : ((bt t237 x15_2) == 10) = true := beq_iff_eq.mpr c32
                            have c32b1 : ((bt t237 x15_2) != 10) = false := bne_eq_false_iff_eq.mpr c32
                            clear c32
                            have H' := Aside0.mk H
                            clear H
                            have p31 : 0 ≤ (x15_2 : Int) := of_decide_eq_true (by first | (with_reducible assumption) | assumption)
                            have q31 : x15_2 < (t237.size : Int) := of_decide_eq_true (by first | (with_reducible assumption) | assumption)
                            have hx31 := bt_at t237 x15_2
                            replace p31 := eq_true p31
                            replace q31 := eq_true q31
                            go_wp2
                            go_roundg k2
                            case measure => have := HJ10.out; have := HK2.out; omega
                            case rel => exact ⟨(wrap64 (x14_2 + 1)), (wrap64 (x15_2 + 1)), (by first | rfl | (simp; done) | (simp [*]; done)), (by first | rfl | (simp; done) | (simp [*]; done)), H', ⟨by have := HJ10.out; have := HK2.out; omega⟩, ⟨by (with_reducible repeat (first | apply Kd.S_alloc | apply Kd.S_drewN | apply Kd.S_drew)); exact HO_3.out⟩, ⟨by repeat (first | (with_reducible first | exact HB.out | apply below_alloc | apply pw_below_drewN | apply below_drew1) | exact HB.out)⟩⟩
                          · rw [if_neg c32] at H
                            have c32b0 : ((bt t237 x15_2) == 10) = false := beq_eq_false_iff_ne.mpr c32
                            have c32b1 : ((bt t237 x15_2) != 10) = true := bne_iff_ne.mpr c32
                            have H' := Aside0.mk H
                            clear H
                            have p31 : 0 ≤ (x15_2 : Int) := of_decide_eq_true (by first | (with_reducible assumption) | assumption)
                            have q31 : x15_2 < (t237.size : Int) := of_decide_eq_true (by first | (with_reducible assumption) | assumption)
                            have hx31 := bt_at t237 x15_2
                            replace p31 := eq_true p31
                            replace q31 := eq_true q31
                            go_wp2
                            go_roundg k2
                            case measure => have := HJ10.out; have := HK2.out; omega
                            case rel => exact ⟨(x14_2), (wrap64 (x15_2 + 1)), (by first | rfl | (simp; done) | (simp [*]; done)), (by first | rfl | (simp; done) | (simp [*]; done)), H', ⟨by have := HJ10.out; have := HK2.out; omega⟩, ⟨by (with_reducible repeat (first | apply Kd.S_alloc | apply Kd.S_drewN | apply Kd.S_drew)); exact HO_3.out⟩, ⟨by repeat (first | (with_reducible first | exact HB.out | apply below_alloc | apply pw_below_drewN | apply below_drew1) | exact HB.out)⟩⟩
                        · rw [if_neg c30] at H
                          exact absurd H (by simp)
                      · rw [if_neg c29] at H
                        have c29b0 : decide (x15_2 < (t237.size : Int)) = false := decide_eq_false c29
                        clear c29
                        replace H := Option.bind_eq_some_iff.mp H
                        obtain ⟨⟨t239, t240, t241⟩, A330, H⟩ := H
                        replace H : (if t221 = 0 then (if t226 = 0 then (if t231 = 0 then (if t238 = 0 then (if x14_2 = (t220.length : Int) then (if t241 = 0 then ((skiarearef60_Same.f k2 t239 t220).bind fun t244 => (some t244)) else (none)) else (none)) else (none)) else (none)) else (none)) else (none)) = some r := H
                        have A33 := Aside0.mk A330
                        clear A330
                        by_cases c34 : t221 = 0
                        · rw [if_pos c34] at H
                          have c34b0 : (t221 == 0) = true := beq_iff_eq.mpr c34
                          have c34b1 : (t221 != 0) = false := bne_eq_false_iff_eq.mpr c34
                          clear c34
                          by_cases c35 : t226 = 0
                          · rw [if_pos c35] at H
                            have c35b0 : (t226 == 0) = true := beq_iff_eq.mpr c35
                            have c35b1 : (t226 != 0) = false := bne_eq_false_iff_eq.mpr c35
                            clear c35
                            by_cases c36 : t231 = 0
                            · rw [if_pos c36] at H
                              have c36b0 : (t231 == 0) = true := beq_iff_eq.mpr c36
                              have c36b1 : (t231 != 0) = false := bne_eq_false_iff_eq.mpr c36
                              clear c36
                              by_cases c37 : t238 = 0
                              · rw [if_pos c37] at H
                                have c37b0 : (t238 == 0) = true := beq_iff_eq.mpr c37
                                have c37b1 : (t238 != 0) = false := bne_eq_false_iff_eq.mpr c37
                                clear c37
                                by_cases c38 : x14_2 = (t220.length : Int)
                                · rw [if_pos c38] at H
                                  have c38b0 : (x14_2 == (t220.length : Int)) = true := beq_iff_eq.mpr c38
                                  have c38b1 : (x14_2 != (t220.length : Int)) = false := bne_eq_false_iff_eq.mpr c38
                                  clear c38
                                  by_cases c39 : t241 = 0
                                  · rw [if_pos c39] at H
                                    have c39b0 : (t241 == 0) = true := beq_iff_eq.mpr c39
                                    have c39b1 : (t241 != 0) = false := bne_eq_false_iff_eq.mpr c39
                                    clear c39
                                    replace H := Option.bind_eq_some_iff.mp H
                                    obtain ⟨t244, A400, H⟩ := H
                                    replace H : (some t244) = some r := H
                                    have A40 := Aside0.mk A400
                                    clear A400
                                    obtain rfl := Option.some.inj H
                                    go_wp2_with (first | ((with_reducible refine gate_callee (f := 10) rfl ?_); refine goesL_ (some 100) rfl rfl Tryd.func10 (by kernel_rfl) rfl #[.string t237] rfl (by (try simp only [List.map_toArray, List.map_cons, List.map_nil]); first | done | rfl | (simp only [List.length_drop, List.length_take]; rfl)) ?_; (with_reducible refine (script_Parse.calls k2 t237 t239 t240 t241 _ ?side1 A33.out).mono ?_); (case side1 => exact GW_below HG.out (by repeat (first | (with_reducible first | exact HB.out | apply below_alloc | apply pw_below_drewN | apply below_drew1) | exact HB.out))); rintro e w41 ⟨v242, rfl, ho0, hb⟩; refine ⟨_, rfl, ?_⟩; have n0_ := Aside0.mk (Kd.S_elder' (by (with_reducible repeat (first | apply Kd.S_alloc | apply Kd.S_drewN | apply Kd.S_drew)); exact HO_3.out) (by first | exact Kd.S_base ho0 | exact Kd.S_base ho0 | exact Kd.R_base ho0) hb); have n1_ := Aside0.mk (Kd.S_lower (Kd.S_new' ho0 (Kd.S_lt (by (with_reducible repeat (first | apply Kd.S_alloc | apply Kd.S_drewN | apply Kd.S_drew)); exact HO_3.out))) (below_size (by repeat (first | (with_reducible first | exact HB.out | apply below_alloc | apply pw_below_drewN | apply below_drew1) | exact HB.out)))); have n2_ := Aside0.mk (below_step (by repeat (first | (with_reducible first | exact HB.out | apply below_alloc | apply pw_below_drewN | apply below_drew1) | exact HB.out)) hb); clear HO_3; clear HB; have HO_3 := n0_; have HO243 := n1_; have HB := n2_; clear n0_ n1_ n2_; (try clear hb); (try clear hb2); (try clear hk); (try clear hi); (try clear ho0); obtain ⟨Ao42, co42, eo42⟩ := Kd.S_slice HO243.out; subst eo42) | (go_at_call 12; (with_reducible refine (skiarearef60_Same.calls k2 _ _ t239 _ _ t220 t244 _ ?side1 ?side2 ?side3 ?side4 A40.out).mono ?_); (case side1 => repeat (first | exact (Kd.S_reads' HO243.out).2.2 | (with_reducible refine Kd.C_alloc ?_ _) | (with_reducible refine Kd.C_drewN ?_ _) | (with_reducible refine Kd.C_drew ?_))); (case side2 => exact (Kd.S_reads' HO243.out).2.1); (case side3 => repeat (first | exact (Kd.S_reads' HO_3.out).2.2 | (with_reducible refine Kd.C_alloc ?_ _) | (with_reducible refine Kd.C_drewN ?_ _) | (with_reducible refine Kd.C_drew ?_))); (case side4 => exact (Kd.S_reads' HO_3.out).2.1); rintro e w' ⟨rfl, ⟨nd, rfl⟩⟩))
                                    go_ret
                                    exact ⟨by first | rfl | (simp [errW_none, errW_some] <;> rfl) | (simp [*, errW_none, errW_some] <;> rfl), by repeat (first | (with_reducible first | exact HB.out | apply below_alloc | apply pw_below_drewN | apply below_drew1) | exact HB.out)⟩
                                  · rw [if_neg c39] at H
                                    exact absurd H (by simp)
                                · rw [if_neg c38] at H
                                  exact absurd H (by simp)
                              · rw [if_neg c37] at H
                                exact absurd H (by simp)
                            · rw [if_neg c36] at H
                              exact absurd H (by simp)
                          · rw [if_neg c35] at H
                            exact absurd H (by simp)
                        · rw [if_neg c34] at H
                          exact absurd H (by simp)
                · rw [if_neg c25] at H
                  have c25b0 : (t222 == 0) = false := beq_eq_false_iff_ne.mpr c25
                  have c25b1 : (t222 != 0) = true := bne_iff_ne.mpr c25
                  by_cases c43 : (t220.length : Int) = 0
                  · rw [if_pos c43] at H
                    have c43b0 : ((t220.length : Int) == 0) = true := beq_iff_eq.mpr c43
                    have c43b1 : ((t220.length : Int) != 0) = false := bne_eq_false_iff_eq.mpr c43
                    clear c43
                    by_cases c44 : t226 = (wrap64 (t221 + 1))
                    · rw [if_pos c44] at H
                      have c44b0 : (t226 == (wrap64 (t221 + 1))) = true := beq_iff_eq.mpr c44
                      have c44b1 : (t226 != (wrap64 (t221 + 1))) = false := bne_eq_false_iff_eq.mpr c44
                      clear c44
                      obtain rfl := Option.some.inj H
                      obtain ⟨Ao45, co45, eo45⟩ := Kd.S_slice HO_3.out
                      subst eo45
                      go_wp2
                      go_ret
                      exact ⟨by first | rfl | (simp [errW_none, errW_some] <;> rfl) | (simp [*, errW_none, errW_some] <;> rfl), by repeat (first | (with_reducible first | exact HB.out | apply below_alloc | apply pw_below_drewN | apply below_drew1) | exact HB.out)⟩
                    · rw [if_neg c44] at H
                      exact absurd H (by simp)
                  · rw [if_neg c43] at H
                    exact absurd H (by simp)
        · rw [if_neg c9] at H
          exact absurd H (by simp)
      · rw [if_neg c7] at H
        exact absurd H (by simp)
  · replace c3 := Bool.eq_false_iff.mpr c3
    subst c3
    have H1 : (none) = some r := by rw [if_neg (show ¬ (false = true) by decide)] at H; exact H
    clear H
    have H := H1
    clear H1
    exact absurd H (by simp)

/-- THE ONE PURE STATEMENT of skiarealaw60_ScriptLines: yours. -/
def skiarealaw60_ScriptLines.Pure : Prop := ∀ (a0 : ByteArray), a0.size ≤ 140737488351232 → ∃ k, skiarealaw60_ScriptLines.f k a0 = some true
theorem skiarealaw60_ScriptLines.walk (P : skiarealaw60_ScriptLines.Pure) (a0 : ByteArray) (w : World) (w0 : a0.size ≤ 140737488351232) (hG : GW w) :
    Calls Tryd.prog 8 #[.string a0] w fun e w' => e = .returned (.bool true) ∧ Below w.heap.size w w' := by
  obtain ⟨k, h⟩ := P a0 w0
  refine (skiarealaw60_ScriptLines.calls k a0 true w hG h).mono ?_
  rintro e w' ⟨rfl, hd⟩
  exact ⟨rfl, hd⟩

end Go.Proofs.YtjeicglkanfbjaaDoor.PU
