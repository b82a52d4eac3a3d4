-- written by xprint.py (a program of this repository over the kit's print)
import Derived.Test.YtkpljfckfljddaaPQx0
import Derived.Test.YtkpljfckfljddaaPQx1
import Derived.Test.YtkpljfckfljddaaPQx2
import Derived.Test.YtkpljfckfljddaaPQx3
import Derived.Test.YtkpljfckfljddaaPQx9
import Derived.Test.YtkpljfckfljddaaPQx10
namespace Go.Proofs.Ytkpljfckfljddaa.PQ
open Go.Proofs.YtkpljfckfljddaaX
open Go.RowKit Go.Proofs.YtkpljfckfljddaaW.PrintWords Go.Proofs.YtkpljfckfljddaaW.PrintLast Go.Proofs.YtkpljfckfljddaaW.PrintMore
attribute [local go_sem] Go.Proofs.YtkpljfckfljddaaX.cell_set max2_int min2_int max_two min_two max_three min_three max_four min_four   -- for this text's walks alone
set_option linter.unusedVariables false
set_option linter.unusedSimpArgs false

/-! ### skiarealaw18_QueueKeeps: function 8 -/
mutual
def skiarealaw18_QueueKeeps.j0 : Nat → Int → Int → Bool → List Int → Int → Option (Bool)
  | 0, _, _, _, _, _ => none
  | k + 1, x1, x2, x27, x310000, x310001 => if x27 = true then (some true) else ((some (([] : List Int) : List Int)).bind fun y313 => (if y313.length + x310000.length < 17592186044416 then ((some (y313 ++ x310000 : List Int)).bind fun y316 => (if 0 ≤ (wrap64 ((x310000.length : Int) + 9)) then (if (wrap64 ((x310000.length : Int) + 9) : Int).toNat ≤ 35184372088832 then ((some (List.replicate 0 0 : List Int)).bind fun y320 => (if y320.length + x310000.length < 17592186044416 then ((some (y320 ++ x310000 : List Int)).bind fun y323 => ((queue_Join.f y323 x310001 x1).bind fun bt326 => ((queue_Join.f y323 x310001 1).bind fun bt332 => ((queue_Seat.f k x310000 x310001 x2).bind fun bt338 => (if (bt338.1.length : Int) > 0 then (if 0 < (bt338.1.length : Int) then (skiarealaw18_QueueKeeps.j1 k x1 x310000 x310001 y316 x310001 bt326.1 bt326.2.1 bt332.1 bt332.2.1) else (none)) else (skiarealaw18_QueueKeeps.j1 k x1 x310000 x310001 y316 x310001 bt326.1 bt326.2.1 bt332.1 bt332.2.1)))))) else (none))) else (none)) else (none))) else (none)))
def skiarealaw18_QueueKeeps.j1 : Nat → Int → List Int → Int → List Int → Int → List Int → Int → List Int → Int → Option (Bool)
  | 0, _, _, _, _, _, _, _, _, _ => none
  | k + 1, x1, x310000, x310001, x320000, x320001, x332000, x332001, x338000, x338001 => if (x338000.length : Int) > 0 then (if 0 < (x338000.length : Int) then ((skiarearef18_Join.f k x320000 x320001 x1).bind fun bt349 => ((skiarearef18_Same.f k x310000 x310001 x320000 x320001).bind fun t355 => (if t355 = true then ((skiarearef18_Same.f k x332000 x332001 bt349.1 bt349.2.1).bind fun t356 => (some t356)) else (none)))) else (none)) else ((skiarearef18_Join.f k x320000 x320001 x1).bind fun bt357 => ((skiarearef18_Same.f k x310000 x310001 x320000 x320001).bind fun t363 => (if t363 = true then ((skiarearef18_Same.f k x332000 x332001 bt357.1 bt357.2.1).bind fun t364 => (some t364)) else (none))))
end
def skiarealaw18_QueueKeeps.f (k : Nat) (l0_0 : List Int) (a0_1 : Int) (a1 : Int) (a2 : Int) : Option (Bool) := (skiarealaw18_alive.f k).bind fun t310 => (if t310 = true then ((skiarealaw18_small.f l0_0 a0_1).bind fun t311 => (if t311 = true then ((queue_Right.f k l0_0 a0_1).bind fun t312 => (skiarealaw18_QueueKeeps.j0 k a1 a2 (!t312) l0_0 a0_1)) else (skiarealaw18_QueueKeeps.j0 k a1 a2 true l0_0 a0_1))) else (none))
theorem skiarealaw18_QueueKeeps.mono_l : ∀ k, (∀ y0 y1 y2 y3 y4, LeO (skiarealaw18_QueueKeeps.j0 k y0 y1 y2 y3 y4) (skiarealaw18_QueueKeeps.j0 (k + 1) y0 y1 y2 y3 y4)) ∧ (∀ y0 y1 y2 y3 y4 y5 y6 y7 y8, LeO (skiarealaw18_QueueKeeps.j1 k y0 y1 y2 y3 y4 y5 y6 y7 y8) (skiarealaw18_QueueKeeps.j1 (k + 1) y0 y1 y2 y3 y4 y5 y6 y7 y8))
  | 0 => ⟨fun _ _ _ _ _ r h => by simp [skiarealaw18_QueueKeeps.j0] at h, fun _ _ _ _ _ _ _ _ _ r h => by simp [skiarealaw18_QueueKeeps.j1] at h⟩
  | k + 1 => by
    obtain ⟨ih0, ih1⟩ := skiarealaw18_QueueKeeps.mono_l k
    refine ⟨?_, ?_⟩
    · intro y0 y1 y2 y3 y4
      unfold skiarealaw18_QueueKeeps.j0
      repeat' first
      | (with_reducible exact ih0 _ _ _ _ _)
      | (with_reducible exact ih1 _ _ _ _ _ _ _ _ _)
      | (with_reducible exact queue_Right.mono _ _ _)
      | (with_reducible exact queue_Seat.mono _ _ _ _)
      | (with_reducible exact skiarealaw18_alive.mono _)
      | (with_reducible exact skiarearef18_Join.mono _ _ _ _)
      | (with_reducible exact skiarearef18_Same.mono _ _ _ _ _)
      | (with_reducible exact LeO.refl _)
      | (with_reducible exact LeO.none _)
      | (with_reducible refine LeO.ite ?_ ?_)
      | (with_reducible refine LeO.bind ?_ (fun _ => ?_))
      | exact ih0 _ _ _ _ _
      | exact ih1 _ _ _ _ _ _ _ _ _
      | exact queue_Right.mono _ _ _
      | exact queue_Seat.mono _ _ _ _
      | exact skiarealaw18_alive.mono _
      | exact skiarearef18_Join.mono _ _ _ _
      | exact skiarearef18_Same.mono _ _ _ _ _
      | exact LeO.none _
      | refine LeO.ite ?_ ?_
      | refine LeO.bind ?_ (fun _ => ?_)
    · intro y0 y1 y2 y3 y4 y5 y6 y7 y8
      unfold skiarealaw18_QueueKeeps.j1
      repeat' first
      | (with_reducible exact ih0 _ _ _ _ _)
      | (with_reducible exact ih1 _ _ _ _ _ _ _ _ _)
      | (with_reducible exact queue_Right.mono _ _ _)
      | (with_reducible exact queue_Seat.mono _ _ _ _)
      | (with_reducible exact skiarealaw18_alive.mono _)
      | (with_reducible exact skiarearef18_Join.mono _ _ _ _)
      | (with_reducible exact skiarearef18_Same.mono _ _ _ _ _)
      | (with_reducible exact LeO.refl _)
      | (with_reducible exact LeO.none _)
      | (with_reducible refine LeO.ite ?_ ?_)
      | (with_reducible refine LeO.bind ?_ (fun _ => ?_))
      | exact ih0 _ _ _ _ _
      | exact ih1 _ _ _ _ _ _ _ _ _
      | exact queue_Right.mono _ _ _
      | exact queue_Seat.mono _ _ _ _
      | exact skiarealaw18_alive.mono _
      | exact skiarearef18_Join.mono _ _ _ _
      | exact skiarearef18_Same.mono _ _ _ _ _
      | exact LeO.none _
      | refine LeO.ite ?_ ?_
      | refine LeO.bind ?_ (fun _ => ?_)
theorem skiarealaw18_QueueKeeps.mono : ∀ a0 a1 a2 a3 k, LeO (skiarealaw18_QueueKeeps.f k a0 a1 a2 a3) (skiarealaw18_QueueKeeps.f (k + 1) a0 a1 a2 a3) := by
  intro a0 a1 a2 a3 k
  obtain ⟨ih0, ih1⟩ := skiarealaw18_QueueKeeps.mono_l k
  unfold skiarealaw18_QueueKeeps.f
  repeat' first
      | (with_reducible exact ih0 _ _ _ _ _)
      | (with_reducible exact ih1 _ _ _ _ _ _ _ _ _)
      | (with_reducible exact queue_Right.mono _ _ _)
      | (with_reducible exact queue_Seat.mono _ _ _ _)
      | (with_reducible exact skiarealaw18_alive.mono _)
      | (with_reducible exact skiarearef18_Join.mono _ _ _ _)
      | (with_reducible exact skiarearef18_Same.mono _ _ _ _ _)
      | (with_reducible exact LeO.refl _)
      | (with_reducible exact LeO.none _)
      | (with_reducible refine LeO.ite ?_ ?_)
      | (with_reducible refine LeO.bind ?_ (fun _ => ?_))
      | exact ih0 _ _ _ _ _
      | exact ih1 _ _ _ _ _ _ _ _ _
      | exact queue_Right.mono _ _ _
      | exact queue_Seat.mono _ _ _ _
      | exact skiarealaw18_alive.mono _
      | exact skiarearef18_Join.mono _ _ _ _
      | exact skiarearef18_Same.mono _ _ _ _ _
      | exact LeO.none _
      | refine LeO.ite ?_ ?_
      | refine LeO.bind ?_ (fun _ => ?_)
def skiarealaw18_QueueKeeps.T5 : Bool × List (List Nat × List Nat) := (true, [([], []), ([], []), ([1], [1]), ([0, 2], [0, 2]), ([], []), ([4], [4]), ([3, 5], [3, 5]), ([], []), ([7, 6, 3, 0, 1, 2, 3, 4, 5, 6, 7], [6, 7])])
def skiarealaw18_QueueKeeps.B5 : List Nat := [0, 0, 2, 7, 0, 16, 63, 0, 255]
theorem skiarealaw18_QueueKeeps.tab5 : rtab .any (opsOf Try.f8 5) = skiarealaw18_QueueKeeps.T5 := by kernel_rfl
theorem skiarealaw18_QueueKeeps.bits5 : waitsOk skiarealaw18_QueueKeeps.T5.2 skiarealaw18_QueueKeeps.B5 = true := by kernel_rfl
def skiarealaw18_QueueKeeps.T12 : Bool × List (List Nat × List Nat) := (true, [([], []), ([0], [0]), ([], []), ([2], [2]), ([3], [3]), ([4], [4]), ([5], [5]), ([1, 0, 1, 2, 3, 4, 5, 6], [1]), ([7, 6, 0, 1, 2, 3, 4, 5, 6], [6, 7])])
def skiarealaw18_QueueKeeps.B12 : List Nat := [0, 1, 0, 4, 12, 28, 60, 127, 255]
theorem skiarealaw18_QueueKeeps.tab12 : rtab .any (opsOf Try.f8 12) = skiarealaw18_QueueKeeps.T12 := by kernel_rfl
theorem skiarealaw18_QueueKeeps.bits12 : waitsOk skiarealaw18_QueueKeeps.T12.2 skiarealaw18_QueueKeeps.B12 = true := by kernel_rfl
def skiarealaw18_QueueKeeps.T14 : Bool × List (List Nat × List Nat) := (true, [([], []), ([0], [0]), ([], []), ([2], [2]), ([3], [3]), ([4], [4]), ([5], [5]), ([1, 0, 1, 2, 3, 4, 5, 6], [1]), ([7, 6, 0, 1, 2, 3, 4, 5, 6], [6, 7])])
def skiarealaw18_QueueKeeps.B14 : List Nat := [0, 1, 0, 4, 12, 28, 60, 127, 255]
theorem skiarealaw18_QueueKeeps.tab14 : rtab .any (opsOf Try.f8 14) = skiarealaw18_QueueKeeps.T14 := by kernel_rfl
theorem skiarealaw18_QueueKeeps.bits14 : waitsOk skiarealaw18_QueueKeeps.T14.2 skiarealaw18_QueueKeeps.B14 = true := by kernel_rfl
set_option maxHeartbeats 8000000 in
set_option maxRecDepth 100000 in
theorem skiarealaw18_QueueKeeps.calls (k : Nat) (A0_0 : Option Addr) (c0_0 : Nat) (l0_0 : List Int) (a0_1 : Int) (a1 : Int) (a2 : Int) (r : Bool) (w : World) (hr0_0 : Kd.C (Kd.int .i64) w A0_0 l0_0.length l0_0) (hc0_0 : l0_0.length ≤ c0_0) (h : skiarealaw18_QueueKeeps.f k l0_0 a0_1 a1 a2 = some r) :
    Calls Try.prog 8 #[.agg #[.slice A0_0 l0_0.length c0_0, .int .i64 a0_1], .int .i64 a1, .int .i64 a2] w fun e w' => e = .returned (.bool r) ∧ Below w.heap.size w w' := by
  have hu24 := Try.underlying24
  have HR0_0 := Aside0.mk hr0_0
  have HC0_0 := Aside0.mk hc0_0
  clear hr0_0 hc0_0
  have HB := Aside0.mk (Below.refl w.heap.size w)
  have H : ((skiarealaw18_alive.f k).bind fun t310 => (if t310 = true then ((skiarealaw18_small.f l0_0 a0_1).bind fun t311 => (if t311 = true then ((queue_Right.f k l0_0 a0_1).bind fun t312 => (skiarealaw18_QueueKeeps.j0 k a1 a2 (!t312) l0_0 a0_1)) else (skiarealaw18_QueueKeeps.j0 k a1 a2 true l0_0 a0_1))) else (none))) = some r := h
  clear h
  replace H := Option.bind_eq_some_iff.mp H
  obtain ⟨t310, A40, H⟩ := H
  replace H : (if t310 = true then ((skiarealaw18_small.f l0_0 a0_1).bind fun t311 => (if t311 = true then ((queue_Right.f k l0_0 a0_1).bind fun t312 => (skiarealaw18_QueueKeeps.j0 k a1 a2 (!t312) l0_0 a0_1)) else (skiarealaw18_QueueKeeps.j0 k a1 a2 true l0_0 a0_1))) else (none)) = some r := H
  have A4 := Aside0.mk A40
  clear A40
  by_cases c5 : t310 = true
  · subst c5
    have H1 : ((skiarealaw18_small.f l0_0 a0_1).bind fun t311 => (if t311 = true then ((queue_Right.f k l0_0 a0_1).bind fun t312 => (skiarealaw18_QueueKeeps.j0 k a1 a2 (!t312) l0_0 a0_1)) else (skiarealaw18_QueueKeeps.j0 k a1 a2 true l0_0 a0_1))) = some r := by rw [if_pos rfl] at H; exact H
    clear H
    have H := H1
    clear H1
    have HC6 := Aside0.mk H
    clear H
    go_enter Try.func8, Try.ntmps8
    go_upto_region 3 with (first | ((with_reducible refine gate_dst (N := 3) rfl ?_); refine box_event ?hg (N := 3) ?hd (cs := #[.slice A0_0 l0_0.length c0_0, .int .i64 a0_1]) (t := 24) ?hr ?_; (case hd => rfl); (case hg => rfl); (case hr => first | (go_simp; done) | (go_simp; rfl)); intro gb309 hg w7 hbox hb; have n0_ := Aside0.mk (below_step (by repeat (first | (with_reducible first | exact HB.out | apply below_alloc | apply pw_below_drewN | apply below_drew1) | exact HB.out)) hb); have n1_ := Aside0.mk (hbox); have n2_ := Aside0.mk ((by rw [hg]; exact (below_size (by repeat (first | (with_reducible first | exact HB.out | apply below_alloc | apply pw_below_drewN | apply below_drew1) | exact HB.out))) : w.heap.size ≤ gb309)); have n3_ := Aside0.mk ((by rw [hg]; exact (below_size (by repeat (first | (with_reducible first | exact HB.out | apply below_alloc | apply pw_below_drewN | apply below_drew1) | exact HB.out))) : w.heap.size ≤ gb309)); clear HB; have HB := n0_; have BK309 := n1_; have GW309 := n2_; have GE309 := n3_; clear n0_ n1_ n2_ n3_; clear hb hbox hg) | ((with_reducible refine gate_callee (f := 10) rfl ?_); refine goesL_ (some 18) rfl rfl Try.func10 (by kernel_rfl) rfl #[] rfl (by (try simp only [List.map_toArray, List.map_cons, List.map_nil]); first | done | rfl | (simp only [List.length_drop, List.length_take]; rfl)) ?_; (with_reducible refine (skiarealaw18_alive.calls k  true _ A4.out).mono ?_); rintro e w8 ⟨rfl, hb⟩; refine ⟨_, rfl, ?_⟩; have n0_ := Aside0.mk (blk_below (g := gb309) (o := .cells #[.slice A0_0 l0_0.length c0_0, .int .i64 a0_1] 24 (0, 0)) (by (with_reducible repeat (first | refine blk_drewN ?_ _ | refine blk_drew ?_ | refine blk_alloc ?_ _)); exact BK309.out) hb); have n1_ := Aside0.mk (below_step (by repeat (first | (with_reducible first | exact HB.out | apply below_alloc | apply pw_below_drewN | apply below_drew1 | refine below_set ?_ GE309.out) | exact HB.out)) hb); clear BK309; clear HB; have BK309 := n0_; have HB := n1_; clear n0_ n1_; (try clear hb); (try clear hb2); (try clear hk); (try clear hi)))
    (try simp only [Act.put, List.setIfInBounds_toArray, List.set_cons_zero, List.set_cons_succ])
    go_cut [27] (fun v27 wc => ∃ (kq : Nat) (x27_5 : Bool), v27 = .bool x27_5 ∧ Aside0 (skiarealaw18_QueueKeeps.j0 kq a1 a2 x27_5 l0_0 a0_1 = some r) ∧ Aside0 (kq ≤ k) ∧ Aside0 (wc.heap[gb309]? = some (.cells #[(.slice A0_0 l0_0.length c0_0), .int .i64 a0_1] 24 (0, 0))) ∧ Aside0 (Below w.heap.size w wc))
    case first =>
      have H := HC6.out
      clear HC6
      replace H := Option.bind_eq_some_iff.mp H
      obtain ⟨t311, A90, H⟩ := H
      replace H : (if t311 = true then ((queue_Right.f k l0_0 a0_1).bind fun t312 => (skiarealaw18_QueueKeeps.j0 k a1 a2 (!t312) l0_0 a0_1)) else (skiarealaw18_QueueKeeps.j0 k a1 a2 true l0_0 a0_1)) = some r := H
      have A9 := Aside0.mk A90
      clear A90
      by_cases c10 : t311 = true
      · subst c10
        have H1 : ((queue_Right.f k l0_0 a0_1).bind fun t312 => (skiarealaw18_QueueKeeps.j0 k a1 a2 (!t312) l0_0 a0_1)) = some r := by rw [if_pos rfl] at H; exact H
        clear H
        have H := H1
        clear H1
        replace H := Option.bind_eq_some_iff.mp H
        obtain ⟨t312, A110, H⟩ := H
        replace H : (skiarealaw18_QueueKeeps.j0 k a1 a2 (!t312) l0_0 a0_1) = some r := H
        have A11 := Aside0.mk A110
        clear A110
        have H' := Aside0.mk H
        clear H
        have hcz12_0 : w8.cell? ⟨gb309, 0, none⟩ = some (.slice A0_0 l0_0.length c0_0) := (blk_cell BK309.out 0).trans rfl
        have hcz12_1 : w8.cell? ⟨gb309, 1, none⟩ = some (.int .i64 a0_1) := (blk_cell BK309.out 1).trans rfl
        have hfz12_0 := blk_frozen BK309.out 0
        have hfz12_1 := blk_frozen BK309.out 1
        go_wp2_with (first | ((with_reducible refine gate_callee (f := 11) rfl ?_); refine goesL_ (some 21) rfl rfl Try.func11 (by kernel_rfl) rfl #[.agg #[.slice A0_0 l0_0.length c0_0, .int .i64 a0_1]] rfl (by (try simp only [List.map_toArray, List.map_cons, List.map_nil]); first | done | rfl | (simp only [List.length_drop, List.length_take]; rfl)) ?_; (with_reducible refine (skiarealaw18_small.calls _ _ l0_0 a0_1 true _ ?side1 ?side2 A9.out).mono ?_); (case side1 => repeat (first | exact (Kd.C_below HR0_0.out HB.out) | (with_reducible refine Kd.C_alloc ?_ _) | (with_reducible refine Kd.C_drewN ?_ _) | (with_reducible refine Kd.C_drew ?_))); (case side2 => exact HC0_0.out); rintro e w13 ⟨rfl, hb⟩; refine ⟨_, rfl, ?_⟩; have n0_ := Aside0.mk (blk_below (g := gb309) (o := .cells #[.slice A0_0 l0_0.length c0_0, .int .i64 a0_1] 24 (0, 0)) (by (with_reducible repeat (first | refine blk_drewN ?_ _ | refine blk_drew ?_ | refine blk_alloc ?_ _)); exact BK309.out) hb); have n1_ := Aside0.mk (below_step (by repeat (first | (with_reducible first | exact HB.out | apply below_alloc | apply pw_below_drewN | apply below_drew1 | refine below_set ?_ GE309.out) | exact HB.out)) hb); clear BK309; clear HB; have BK309 := n0_; have HB := n1_; clear n0_ n1_; (try clear hb); (try clear hb2); (try clear hk); (try clear hi); have hcz14_0 : w13.cell? ⟨gb309, 0, none⟩ = some (.slice A0_0 l0_0.length c0_0) := (blk_cell BK309.out 0).trans rfl; have hcz14_1 : w13.cell? ⟨gb309, 1, none⟩ = some (.int .i64 a0_1) := (blk_cell BK309.out 1).trans rfl; have hfz14_0 := blk_frozen BK309.out 0; have hfz14_1 := blk_frozen BK309.out 1) | (go_at_call 12; (with_reducible refine (queue_Right.calls k _ _ l0_0 a0_1 t312 _ ?side1 ?side2 A11.out).mono ?_); (case side1 => repeat (first | exact (Kd.C_below HR0_0.out HB.out) | (with_reducible refine Kd.C_alloc ?_ _) | (with_reducible refine Kd.C_drewN ?_ _) | (with_reducible refine Kd.C_drew ?_))); (case side2 => exact HC0_0.out); rintro e w15 ⟨rfl, hb⟩; have n0_ := Aside0.mk (blk_below (g := gb309) (o := .cells #[.slice A0_0 l0_0.length c0_0, .int .i64 a0_1] 24 (0, 0)) (by (with_reducible repeat (first | refine blk_drewN ?_ _ | refine blk_drew ?_ | refine blk_alloc ?_ _)); exact BK309.out) hb); have n1_ := Aside0.mk (below_step (by repeat (first | (with_reducible first | exact HB.out | apply below_alloc | apply pw_below_drewN | apply below_drew1 | refine below_set ?_ GE309.out) | exact HB.out)) hb); clear BK309; clear HB; have BK309 := n0_; have HB := n1_; clear n0_ n1_; (try clear hb); (try clear hb2); (try clear hk); (try clear hi)))
        go_meet
        case rel => exact ⟨_, (!t312), (by first | rfl | (simp; done) | (simp [*]; done)), H', ⟨by first | omega | exact Nat.le_refl _⟩, ⟨by (with_reducible repeat (first | refine blk_drewN ?_ _ | refine blk_drew ?_ | refine blk_alloc ?_ _)); exact BK309.out⟩, ⟨by repeat (first | (with_reducible first | exact HB.out | apply below_alloc | apply pw_below_drewN | apply below_drew1 | refine below_set ?_ GE309.out) | exact HB.out)⟩⟩
      · replace c10 := Bool.eq_false_iff.mpr c10
        subst c10
        have H1 : (skiarealaw18_QueueKeeps.j0 k a1 a2 true l0_0 a0_1) = some r := by rw [if_neg (show ¬ (false = true) by decide)] at H; exact H
        clear H
        have H := H1
        clear H1
        have H' := Aside0.mk H
        clear H
        have hcz16_0 : w8.cell? ⟨gb309, 0, none⟩ = some (.slice A0_0 l0_0.length c0_0) := (blk_cell BK309.out 0).trans rfl
        have hcz16_1 : w8.cell? ⟨gb309, 1, none⟩ = some (.int .i64 a0_1) := (blk_cell BK309.out 1).trans rfl
        have hfz16_0 := blk_frozen BK309.out 0
        have hfz16_1 := blk_frozen BK309.out 1
        go_wp2_with (first | ((with_reducible refine gate_callee (f := 11) rfl ?_); refine goesL_ (some 21) rfl rfl Try.func11 (by kernel_rfl) rfl #[.agg #[.slice A0_0 l0_0.length c0_0, .int .i64 a0_1]] rfl (by (try simp only [List.map_toArray, List.map_cons, List.map_nil]); first | done | rfl | (simp only [List.length_drop, List.length_take]; rfl)) ?_; (with_reducible refine (skiarealaw18_small.calls _ _ l0_0 a0_1 false _ ?side1 ?side2 A9.out).mono ?_); (case side1 => repeat (first | exact (Kd.C_below HR0_0.out HB.out) | (with_reducible refine Kd.C_alloc ?_ _) | (with_reducible refine Kd.C_drewN ?_ _) | (with_reducible refine Kd.C_drew ?_))); (case side2 => exact HC0_0.out); rintro e w17 ⟨rfl, hb⟩; refine ⟨_, rfl, ?_⟩; have n0_ := Aside0.mk (blk_below (g := gb309) (o := .cells #[.slice A0_0 l0_0.length c0_0, .int .i64 a0_1] 24 (0, 0)) (by (with_reducible repeat (first | refine blk_drewN ?_ _ | refine blk_drew ?_ | refine blk_alloc ?_ _)); exact BK309.out) hb); have n1_ := Aside0.mk (below_step (by repeat (first | (with_reducible first | exact HB.out | apply below_alloc | apply pw_below_drewN | apply below_drew1 | refine below_set ?_ GE309.out) | exact HB.out)) hb); clear BK309; clear HB; have BK309 := n0_; have HB := n1_; clear n0_ n1_; (try clear hb); (try clear hb2); (try clear hk); (try clear hi)))
        go_meet
        case rel => exact ⟨_, (true), (by first | rfl | (simp; done) | (simp [*]; done)), H', ⟨by first | omega | exact Nat.le_refl _⟩, ⟨by (with_reducible repeat (first | refine blk_drewN ?_ _ | refine blk_drew ?_ | refine blk_alloc ?_ _)); exact BK309.out⟩, ⟨by repeat (first | (with_reducible first | exact HB.out | apply below_alloc | apply pw_below_drewN | apply below_drew1 | refine below_set ?_ GE309.out) | exact HB.out)⟩⟩
    case rest =>
      clear HC6
      try clear c1
      try clear p2
      try clear c5
      try clear c8
      try clear c10
      try clear c11
      try clear hcz12_0
      try clear hcz12_1
      try clear hcz14_0
      try clear hcz14_1
      try clear hcz16_0
      try clear hcz16_1
      try clear hfz12_0
      try clear hfz12_1
      try clear hfz14_0
      try clear hfz14_1
      try clear hfz16_0
      try clear hfz16_1
      obtain ⟨kq, x27_5, rfl, HA, HJ5, BK309, HB⟩ := hcut
      cases kq with
      | zero => exact absurd HA.out (by simp [skiarealaw18_QueueKeeps.j0])
      | succ kj5 =>
        have H := HA.out
        clear HA
        simp only [skiarealaw18_QueueKeeps.j0] at H
        by_cases c18 : x27_5 = true
        · subst c18
          have H1 : (some true) = some r := by rw [if_pos rfl] at H; exact H
          clear H
          have H := H1
          clear H1
          obtain rfl := Option.some.inj H
          go_wp2
          go_ret
          exact ⟨by first | rfl | (simp [errW_none, errW_some] <;> rfl) | (simp [*, errW_none, errW_some] <;> rfl), by repeat (first | (with_reducible first | exact HB.out | apply below_alloc | apply pw_below_drewN | apply below_drew1 | refine below_set ?_ GE309.out) | exact HB.out)⟩
        · replace c18 := Bool.eq_false_iff.mpr c18
          subst c18
          have H1 : ((some (([] : List Int) : List Int)).bind fun y313 => (if y313.length + l0_0.length < 17592186044416 then ((some (y313 ++ l0_0 : List Int)).bind fun y316 => (if 0 ≤ (wrap64 ((l0_0.length : Int) + 9)) then (if (wrap64 ((l0_0.length : Int) + 9) : Int).toNat ≤ 35184372088832 then ((some (List.replicate 0 0 : List Int)).bind fun y320 => (if y320.length + l0_0.length < 17592186044416 then ((some (y320 ++ l0_0 : List Int)).bind fun y323 => ((queue_Join.f y323 a0_1 a1).bind fun bt326 => ((queue_Join.f y323 a0_1 1).bind fun bt332 => ((queue_Seat.f kj5 l0_0 a0_1 a2).bind fun bt338 => (if (bt338.1.length : Int) > 0 then (if 0 < (bt338.1.length : Int) then (skiarealaw18_QueueKeeps.j1 kj5 a1 l0_0 a0_1 y316 a0_1 bt326.1 bt326.2.1 bt332.1 bt332.2.1) else (none)) else (skiarealaw18_QueueKeeps.j1 kj5 a1 l0_0 a0_1 y316 a0_1 bt326.1 bt326.2.1 bt332.1 bt332.2.1)))))) else (none))) else (none)) else (none))) else (none))) = some r := by rw [if_neg (show ¬ (false = true) by decide)] at H; exact H
          clear H
          have H := H1
          clear H1
          obtain ⟨y313, hy313⟩ : ∃ y_ : List Int, y_ = (([] : List Int)) := ⟨_, rfl⟩
          replace H : (if y313.length + l0_0.length < 17592186044416 then ((some (y313 ++ l0_0 : List Int)).bind fun y316 => (if 0 ≤ (wrap64 ((l0_0.length : Int) + 9)) then (if (wrap64 ((l0_0.length : Int) + 9) : Int).toNat ≤ 35184372088832 then ((some (List.replicate 0 0 : List Int)).bind fun y320 => (if y320.length + l0_0.length < 17592186044416 then ((some (y320 ++ l0_0 : List Int)).bind fun y323 => ((queue_Join.f y323 a0_1 a1).bind fun bt326 => ((queue_Join.f y323 a0_1 1).bind fun bt332 => ((queue_Seat.f kj5 l0_0 a0_1 a2).bind fun bt338 => (if (bt338.1.length : Int) > 0 then (if 0 < (bt338.1.length : Int) then (skiarealaw18_QueueKeeps.j1 kj5 a1 l0_0 a0_1 y316 a0_1 bt326.1 bt326.2.1 bt332.1 bt332.2.1) else (none)) else (skiarealaw18_QueueKeeps.j1 kj5 a1 l0_0 a0_1 y316 a0_1 bt326.1 bt326.2.1 bt332.1 bt332.2.1)))))) else (none))) else (none)) else (none))) else (none)) = some r := by first | (rw [hy313]; with_reducible exact H) | (have H2_ := (Option.bind_some _ _).symm.trans H; rw [hy313]; with_reducible exact H2_) | (have H2_ := (Option.bind_some _ _).symm.trans H; with_reducible exact H2_) | with_reducible exact H | (rw [hy313]; exact H) | exact H
          have Ny313 := Aside0.mk hy313
          clear hy313
          by_cases c19 : y313.length + l0_0.length < 17592186044416
          · rw [if_pos c19] at H
            have LMc19 := Aside0.mk c19
            clear c19
            obtain ⟨y316, hy316⟩ : ∃ y_ : List Int, y_ = (y313 ++ l0_0) := ⟨_, rfl⟩
            replace H : (if 0 ≤ (wrap64 ((l0_0.length : Int) + 9)) then (if (wrap64 ((l0_0.length : Int) + 9) : Int).toNat ≤ 35184372088832 then ((some (List.replicate 0 0 : List Int)).bind fun y320 => (if y320.length + l0_0.length < 17592186044416 then ((some (y320 ++ l0_0 : List Int)).bind fun y323 => ((queue_Join.f y323 a0_1 a1).bind fun bt326 => ((queue_Join.f y323 a0_1 1).bind fun bt332 => ((queue_Seat.f kj5 l0_0 a0_1 a2).bind fun bt338 => (if (bt338.1.length : Int) > 0 then (if 0 < (bt338.1.length : Int) then (skiarealaw18_QueueKeeps.j1 kj5 a1 l0_0 a0_1 y316 a0_1 bt326.1 bt326.2.1 bt332.1 bt332.2.1) else (none)) else (skiarealaw18_QueueKeeps.j1 kj5 a1 l0_0 a0_1 y316 a0_1 bt326.1 bt326.2.1 bt332.1 bt332.2.1)))))) else (none))) else (none)) else (none)) = some r := by first | (rw [hy316]; with_reducible exact H) | (have H2_ := (Option.bind_some _ _).symm.trans H; rw [hy316]; with_reducible exact H2_) | (have H2_ := (Option.bind_some _ _).symm.trans H; with_reducible exact H2_) | with_reducible exact H | (rw [hy316]; exact H) | exact H
            have Ny316 := Aside0.mk hy316
            clear hy316
            obtain ⟨ji20, hji20⟩ : ∃ j_ : Int, (wrap64 ((l0_0.length : Int) + 9)) = j_ := ⟨_, rfl⟩
            replace H : (if 0 ≤ (ji20) then (if (ji20 : Int).toNat ≤ 35184372088832 then ((some (List.replicate 0 0 : List Int)).bind fun y320 => (if y320.length + l0_0.length < 17592186044416 then ((some (y320 ++ l0_0 : List Int)).bind fun y323 => ((queue_Join.f y323 a0_1 a1).bind fun bt326 => ((queue_Join.f y323 a0_1 1).bind fun bt332 => ((queue_Seat.f kj5 l0_0 a0_1 a2).bind fun bt338 => (if (bt338.1.length : Int) > 0 then (if 0 < (bt338.1.length : Int) then (skiarealaw18_QueueKeeps.j1 kj5 a1 l0_0 a0_1 y316 a0_1 bt326.1 bt326.2.1 bt332.1 bt332.2.1) else (none)) else (skiarealaw18_QueueKeeps.j1 kj5 a1 l0_0 a0_1 y316 a0_1 bt326.1 bt326.2.1 bt332.1 bt332.2.1)))))) else (none))) else (none)) else (none)) = some r := by first | (rw [hji20] at H; exact H) | (simp only [hji20] at H ⊢; exact H)
            have hji20w : (IntKind.i64.wrap ((l0_0.length : Int) + 9)) = ji20 := (i64_w _).trans hji20
            by_cases c21 : 0 ≤ (ji20)
            · rw [if_pos c21] at H
              have c21b0 := eq_true c21
              have c21b1 : decide (0 ≤ (ji20)) = true := decide_eq_true c21
              clear c21
              by_cases c22 : (ji20 : Int).toNat ≤ 35184372088832
              · rw [if_pos c22] at H
                have c22b0 := eq_true c22
                have c22b1 : decide ((ji20 : Int).toNat ≤ 35184372088832) = true := decide_eq_true c22
                clear c22
                obtain ⟨y320, hy320⟩ : ∃ y_ : List Int, y_ = (List.replicate 0 0) := ⟨_, rfl⟩
                replace H : (if y320.length + l0_0.length < 17592186044416 then ((some (y320 ++ l0_0 : List Int)).bind fun y323 => ((queue_Join.f y323 a0_1 a1).bind fun bt326 => ((queue_Join.f y323 a0_1 1).bind fun bt332 => ((queue_Seat.f kj5 l0_0 a0_1 a2).bind fun bt338 => (if (bt338.1.length : Int) > 0 then (if 0 < (bt338.1.length : Int) then (skiarealaw18_QueueKeeps.j1 kj5 a1 l0_0 a0_1 y316 a0_1 bt326.1 bt326.2.1 bt332.1 bt332.2.1) else (none)) else (skiarealaw18_QueueKeeps.j1 kj5 a1 l0_0 a0_1 y316 a0_1 bt326.1 bt326.2.1 bt332.1 bt332.2.1)))))) else (none)) = some r := by first | (rw [hy320]; with_reducible exact H) | (have H2_ := (Option.bind_some _ _).symm.trans H; rw [hy320]; with_reducible exact H2_) | (have H2_ := (Option.bind_some _ _).symm.trans H; with_reducible exact H2_) | with_reducible exact H | (rw [hy320]; exact H) | exact H
                have Ny320 := Aside0.mk hy320
                clear hy320
                by_cases c23 : y320.length + l0_0.length < 17592186044416
                · rw [if_pos c23] at H
                  have LMc23 := Aside0.mk c23
                  clear c23
                  obtain ⟨y323, hy323⟩ : ∃ y_ : List Int, y_ = (y320 ++ l0_0) := ⟨_, rfl⟩
                  replace H : ((queue_Join.f y323 a0_1 a1).bind fun bt326 => ((queue_Join.f y323 a0_1 1).bind fun bt332 => ((queue_Seat.f kj5 l0_0 a0_1 a2).bind fun bt338 => (if (bt338.1.length : Int) > 0 then (if 0 < (bt338.1.length : Int) then (skiarealaw18_QueueKeeps.j1 kj5 a1 l0_0 a0_1 y316 a0_1 bt326.1 bt326.2.1 bt332.1 bt332.2.1) else (none)) else (skiarealaw18_QueueKeeps.j1 kj5 a1 l0_0 a0_1 y316 a0_1 bt326.1 bt326.2.1 bt332.1 bt332.2.1))))) = some r := by first | (rw [hy323]; with_reducible exact H) | (have H2_ := (Option.bind_some _ _).symm.trans H; rw [hy323]; with_reducible exact H2_) | (have H2_ := (Option.bind_some _ _).symm.trans H; with_reducible exact H2_) | with_reducible exact H | (rw [hy323]; exact H) | exact H
                  have Ny323 := Aside0.mk hy323
                  clear hy323
                  replace H := Option.bind_eq_some_iff.mp H
                  obtain ⟨⟨t326, t329, t330⟩, A240, H⟩ := H
                  replace H : ((queue_Join.f y323 a0_1 1).bind fun bt332 => ((queue_Seat.f kj5 l0_0 a0_1 a2).bind fun bt338 => (if (bt338.1.length : Int) > 0 then (if 0 < (bt338.1.length : Int) then (skiarealaw18_QueueKeeps.j1 kj5 a1 l0_0 a0_1 y316 a0_1 t326 t329 bt332.1 bt332.2.1) else (none)) else (skiarealaw18_QueueKeeps.j1 kj5 a1 l0_0 a0_1 y316 a0_1 t326 t329 bt332.1 bt332.2.1)))) = some r := H
                  have A24 := Aside0.mk A240
                  clear A240
                  replace H := Option.bind_eq_some_iff.mp H
                  obtain ⟨⟨t332, t335, t336⟩, A250, H⟩ := H
                  replace H : ((queue_Seat.f kj5 l0_0 a0_1 a2).bind fun bt338 => (if (bt338.1.length : Int) > 0 then (if 0 < (bt338.1.length : Int) then (skiarealaw18_QueueKeeps.j1 kj5 a1 l0_0 a0_1 y316 a0_1 t326 t329 t332 t335) else (none)) else (skiarealaw18_QueueKeeps.j1 kj5 a1 l0_0 a0_1 y316 a0_1 t326 t329 t332 t335))) = some r := H
                  have A25 := Aside0.mk A250
                  clear A250
                  replace H := Option.bind_eq_some_iff.mp H
                  obtain ⟨⟨t338, t341, t342, t343⟩, A260, H⟩ := H
                  replace H : (if (t338.length : Int) > 0 then (if 0 < (t338.length : Int) then (skiarealaw18_QueueKeeps.j1 kj5 a1 l0_0 a0_1 y316 a0_1 t326 t329 t332 t335) else (none)) else (skiarealaw18_QueueKeeps.j1 kj5 a1 l0_0 a0_1 y316 a0_1 t326 t329 t332 t335)) = some r := H
                  have A26 := Aside0.mk A260
                  clear A260
                  have HC27 := Aside0.mk H
                  clear H
                  try go_wp2
                  have n0_ := Aside0.mk (blk_drew BK309.out)
                  have n1_ := Aside0.mk (below_drew1 HB.out)
                  clear BK309
                  clear HB
                  have BK309 := n0_
                  have HB := n1_
                  clear n0_ n1_
                  refine start_ (n := 9) (S := fun w' => w'.cell? ⟨gb309, 0, none⟩ = some (.slice A0_0 l0_0.length c0_0) ∧ w'.cell? ⟨gb309, 1, none⟩ = some (.int .i64 a0_1)) (ds := []) #[false, false, false, false, false, false, false, false, false] (by kernel_rfl) rfl rfl ⟨(blk_cell BK309.out 0).trans rfl, (blk_cell BK309.out 1).trans rfl⟩ (fun hHeld => ?_); refine with_tabW skiarealaw18_QueueKeeps.tab5 skiarealaw18_QueueKeeps.bits5 (fun HT_ HW_ => ?_)
                  generalize wc.drew = w28 at BK309 HB hHeld ⊢
                  refine pure_ (i := 1) (N := some 29) (v := ?_) (a' := ?_) #[false, true, false, false, false, false, false, false, false] rfl rfl (any_of HT_.out (by kernel_rfl)) (fun _ _ _ h => h) (Or.inl ⟨by rfl, ?_⟩) ?_ ?_
                  rotate_left
                  · intro w'
                    go_simp
                    with_reducible rfl
                  rotate_left
                  · simp only [Act.put, List.setIfInBounds_toArray, List.set_cons_zero, List.set_cons_succ, i64_w, i32_w]
                    rfl
                  refine pure_ (i := 4) (N := some 32) (v := ?_) (a' := ?_) #[false, true, false, false, true, false, false, false, false] rfl rfl (any_of HT_.out (by kernel_rfl)) (fun _ _ _ h => h) (Or.inl ⟨by rfl, ?_⟩) ?_ ?_
                  rotate_left
                  · intro w'
                    go_simp
                    with_reducible rfl
                  rotate_left
                  · simp only [Act.put, List.setIfInBounds_toArray, List.set_cons_zero, List.set_cons_succ, i64_w, i32_w]
                    rfl
                  refine take_ (i := 2) (N := some 30) (v := ?_) (a' := ?_) #[false, true, true, false, true, false, false, false, false] rfl rfl (take_ofW HT_.out HW_.out (by kernel_rfl)) (fun _ _ _ h => h) (Or.inl ⟨by rfl, ?_⟩) hHeld ?_ ?_
                  rotate_left
                  · rintro w' ⟨s0, s1⟩
                    go_simp
                    with_reducible rfl
                  rotate_left
                  · simp only [Act.put, List.setIfInBounds_toArray, List.set_cons_zero, List.set_cons_succ, i64_w, i32_w]
                    rfl
                  refine take_ (i := 5) (N := some 33) (v := ?_) (a' := ?_) #[false, true, true, false, true, true, false, false, false] rfl rfl (take_ofW HT_.out HW_.out (by kernel_rfl)) (fun _ _ _ h => h) (Or.inl ⟨by rfl, ?_⟩) hHeld ?_ ?_
                  rotate_left
                  · rintro w' ⟨s0, s1⟩
                    go_simp
                    with_reducible rfl
                  rotate_left
                  · simp only [Act.put, List.setIfInBounds_toArray, List.set_cons_zero, List.set_cons_succ, i64_w, i32_w]
                    rfl
                  refine join_ (σ := Value × Value × Nat) 1 #[true, true, true, true, true, true, true, true, false] (fun s_ => [(28, s_.1), (31, s_.2.1), (7, .pointer (some ⟨s_.2.2, 0, none⟩)), (34, .agg #[s_.2.1, .int .i64 a0_1])]) (fun s_ w' => (w'.cell? ⟨gb309, 0, none⟩ = some (.slice A0_0 l0_0.length c0_0) ∧ w'.cell? ⟨gb309, 1, none⟩ = some (.int .i64 a0_1)) ∧ (Kd.R (Kd.int .i64) 3 w' w.heap.size (fun _ => True) s_.2.1 y316) ∧ (w'.heap[gb309]? = some (.cells #[.slice A0_0 l0_0.length c0_0, .int .i64 a0_1] 24 (0, 0))) ∧ (w'.heap[s_.2.2]? = some (.cells #[.slice none 0 0, .int .i64 0] 24 (0, 0))) ∧ (w.heap.size ≤ s_.2.2) ∧ (w.heap.size ≤ s_.2.2) ∧ (gb309 ≠ s_.2.2) ∧ (s_.2.2 ≠ gb309) ∧ (Below w.heap.size w w')) ?_ ?_
                  rotate_left
                  · intro hCont
                    refine two_ (i := 0) (j := 7) (Ni := some 28) (Nj := some 7) #[true, true, true, false, true, true, false, false, false] #[false, true, true, false, true, true, false, true, false] rfl rfl rfl rfl (two_of HT_.out (by kernel_rfl)) (by decide) (by decide) (fun K hK => ?_) (fun K hK => ?_)
                    · skip
                      refine Kd.R_lit_step (Kd.int .i64) _ 3 ?hg (N := 28) ?hd (xs := ([] : List Int)) (inner := []) (ok := fun _ => True) (okp := fun _ => True) ?hr ?hp (fun _ hk => hk) trivial (Below.refl _ _) (Nat.le_refl _) (by simp) ?_; (case hd => rfl); (case hg => rfl); (case hr => first | (go_simp; done) | (go_simp; rfl)); (case hp => exact (Reps.none _ _))
                      intro v314 w29 ho30 hb hg_ hnew_
                      clear hg_ hnew_
                      (first | rw [← Ny313.out] at ho30 | (simp only [Int.reduceToNat] at ho30; rw [← Ny313.out] at ho30))
                      have n0_ := Aside0.mk (Kd.R_lower ho30 (below_size (by repeat (first | (with_reducible first | exact HB.out | apply below_alloc | apply pw_below_drewN | apply below_drew1 | refine below_set ?_ GE309.out) | exact HB.out))))
                      have n1_ := Aside0.mk (blk_below (g := gb309) (o := .cells #[.slice A0_0 l0_0.length c0_0, .int .i64 a0_1] 24 (0, 0)) (by (with_reducible repeat (first | refine blk_drewN ?_ _ | refine blk_drew ?_ | refine blk_alloc ?_ _)); exact BK309.out) hb)
                      have n2_ := Aside0.mk (below_step (by repeat (first | (with_reducible first | exact HB.out | apply below_alloc | apply pw_below_drewN | apply below_drew1 | refine below_set ?_ GE309.out) | exact HB.out)) hb)
                      clear BK309
                      clear HB
                      have HO315 := n0_
                      have BK309 := n1_
                      have HB := n2_
                      clear n0_ n1_ n2_
                      clear hb ho30
                      refine hK.out _ _ ⟨(blk_cell BK309.out 0).trans rfl, (blk_cell BK309.out 1).trans rfl⟩ (fun hHeld => ?_)
                      clear hK K
                      refine norm_ (a' := ?_) ?_ ?_
                      rotate_left
                      · show Act.put _ (some 28) _ = _
                        simp only [Act.put, List.setIfInBounds_toArray, List.set_cons_zero, List.set_cons_succ, i64_w, i32_w]
                        rfl
                      refine two_ (i := 3) (j := 7) (Ni := some 31) (Nj := some 7) #[true, true, true, true, true, true, false, false, false] #[true, true, true, false, true, true, false, true, false] rfl rfl rfl rfl (two_of HT_.out (by kernel_rfl)) (by decide) (by decide) (fun K hK => ?_) (fun K hK => ?_)
                      · skip
                        refine Kd.R_append_rows_step (Kd.int .i64) (w0 := w) w.heap.size (by rfl) (.tmp 28) (.tmp 30) 22 3 (.int .i64 0) 8 rfl Try.underlying22 info3 rfl (by decide) (by omega) v314 y313 l0_0 _ _ _ (fun _ => True) (fun _ => False) rfl rfl ?aO ?aR (fun _ _ h => h) (fun _ h => h.elim) ?aF ?aB ?aS ?aL ?_
                        (case aR => repeat (first | exact (Kd.C_below HR0_0.out HB.out) | (with_reducible refine Kd.C_alloc ?_ _) | (with_reducible refine Kd.C_drewN ?_ _) | (with_reducible refine Kd.C_drew ?_)))
                        (case aB => exact (by repeat (first | (with_reducible first | exact HB.out | apply below_alloc | apply pw_below_drewN | apply below_drew1 | refine below_set ?_ GE309.out) | exact HB.out)))
                        (case aF => exact (fun _ _ => trivial))
                        (case aO => exact (by (with_reducible repeat (first | apply Kd.R_alloc | apply Kd.R_drewN | apply Kd.R_drew)); exact HO315.out))
                        (case aS => exact (below_size (by repeat (first | (with_reducible first | exact HB.out | apply below_alloc | apply pw_below_drewN | apply below_drew1 | refine below_set ?_ GE309.out) | exact HB.out))))
                        (case aL => have := LMc19.out; omega)
                        intro v317 w31 ho hb hg hat
                        rw [← Ny316.out] at ho
                        have n0_ := Aside0.mk (blk_grown (g := gb309) (o := .cells #[.slice A0_0 l0_0.length c0_0, .int .i64 a0_1] 24 (0, 0)) (by (with_reducible repeat (first | refine blk_drewN ?_ _ | refine blk_drew ?_ | refine blk_alloc ?_ _)); exact BK309.out) hg (Kd.R_ne HO315.out BK309.out (by decide)))
                        have n1_ := Aside0.mk (hb)
                        have n2_ := Aside0.mk (ho)
                        clear BK309
                        clear HB
                        clear HO315
                        have BK309 := n0_
                        have HB := n1_
                        have HO318 := n2_
                        clear n0_ n1_ n2_
                        clear ho hb hg hat
                        obtain ⟨Ao32, co32, eo32⟩ := Kd.R_slice HO318.out
                        (first | subst eo32 | (injection eo32 with f1_ f2_ f3_; have f4_ := f1_.symm; have f5_ := f3_.symm; clear f1_ f2_ f3_; subst f4_; subst f5_))
                        refine hK.out _ _ ⟨(blk_cell BK309.out 0).trans rfl, (blk_cell BK309.out 1).trans rfl⟩ (fun hHeld => ?_)
                        clear hK K
                        refine norm_ (a' := ?_) ?_ ?_
                        rotate_left
                        · show Act.put _ (some 31) _ = _
                          simp only [Act.put, List.setIfInBounds_toArray, List.set_cons_zero, List.set_cons_succ, i64_w, i32_w]
                          rfl
                        refine pure_ (i := 6) (N := some 34) (v := ?_) (a' := ?_) #[true, true, true, true, true, true, true, false, false] rfl rfl (any_of HT_.out (by kernel_rfl)) (fun _ _ _ h => h) (Or.inl ⟨by rfl, ?_⟩) ?_ ?_
                        rotate_left
                        · intro w'
                          go_simp
                          with_reducible rfl
                        rotate_left
                        · simp only [Act.put, List.setIfInBounds_toArray, List.set_cons_zero, List.set_cons_succ, i64_w, i32_w]
                          rfl
                        refine one_ (i := 7) (N := some 7) #[true, true, true, true, true, true, true, true, false] rfl rfl (one_of HT_.out (by kernel_rfl)) (by decide) (fun K hK => ?_)
                        refine box_step ?hg (N := 7) ?hd (cs := #[.slice none 0 0, .int .i64 0]) (t := 24) ?hr ?_; (case hd => rfl); (case hg => rfl); (case hr => first | (go_simp; done) | (go_simp; rfl))
                        intro gb319 hg w33 hbox hb
                        have n0_ := Aside0.mk (Kd.R_below (by (with_reducible repeat (first | apply Kd.R_alloc | apply Kd.R_drewN | apply Kd.R_drew)); exact HO318.out) hb)
                        have n1_ := Aside0.mk (blk_below (g := gb309) (o := .cells #[.slice A0_0 l0_0.length c0_0, .int .i64 a0_1] 24 (0, 0)) (by (with_reducible repeat (first | refine blk_drewN ?_ _ | refine blk_drew ?_ | refine blk_alloc ?_ _)); exact BK309.out) hb)
                        have n2_ := Aside0.mk (below_step (by repeat (first | (with_reducible first | exact HB.out | apply below_alloc | apply pw_below_drewN | apply below_drew1 | refine below_set ?_ GE309.out) | exact HB.out)) hb)
                        have n3_ := Aside0.mk (hbox)
                        have n4_ := Aside0.mk ((by rw [hg]; exact (below_size (by repeat (first | (with_reducible first | exact HB.out | apply below_alloc | apply pw_below_drewN | apply below_drew1 | refine below_set ?_ GE309.out) | exact HB.out))) : w.heap.size ≤ gb319))
                        have n5_ := Aside0.mk ((by rw [hg]; exact (below_size (by repeat (first | (with_reducible first | exact HB.out | apply below_alloc | apply pw_below_drewN | apply below_drew1 | refine below_set ?_ GE309.out) | exact HB.out))) : w.heap.size ≤ gb319))
                        have n6_ := Aside0.mk ((by rw [hg]; exact Nat.ne_of_lt (blk_lt (g := gb309) (o := .cells #[.slice A0_0 l0_0.length c0_0, .int .i64 a0_1] 24 (0, 0)) (by (with_reducible repeat (first | refine blk_drewN ?_ _ | refine blk_drew ?_ | refine blk_alloc ?_ _)); exact BK309.out)) : gb309 ≠ gb319))
                        have n7_ := Aside0.mk ((by rw [hg]; exact Nat.ne_of_gt (blk_lt (g := gb309) (o := .cells #[.slice A0_0 l0_0.length c0_0, .int .i64 a0_1] 24 (0, 0)) (by (with_reducible repeat (first | refine blk_drewN ?_ _ | refine blk_drew ?_ | refine blk_alloc ?_ _)); exact BK309.out)) : gb319 ≠ gb309))
                        clear HO318
                        clear BK309
                        clear HB
                        have HO318 := n0_
                        have BK309 := n1_
                        have HB := n2_
                        have BK319 := n3_
                        have GW319 := n4_
                        have GE319 := n5_
                        have NB309_319 := n6_
                        have NB319_309 := n7_
                        clear n0_ n1_ n2_ n3_ n4_ n5_ n6_ n7_
                        clear hb hbox hg
                        refine hK.out _ _ ⟨(blk_cell BK309.out 0).trans rfl, (blk_cell BK309.out 1).trans rfl⟩ (fun hHeld => ?_)
                        clear hK K
                        refine norm_ (a' := ?_) ?_ ?_
                        rotate_left
                        · show Act.put _ (some 7) _ = _
                          simp only [Act.put, List.setIfInBounds_toArray, List.set_cons_zero, List.set_cons_succ, i64_w, i32_w]
                          rfl
                        exact norm_ (by simp only [putAll, Act.put, List.setIfInBounds_toArray, List.set_cons_zero, List.set_cons_succ]) (hCont (v314, .slice Ao32 y316.length co32, gb319) _ ⟨hHeld, (by (with_reducible repeat (first | apply Kd.R_alloc | apply Kd.R_drewN | apply Kd.R_drew)); exact HO318.out), (by (with_reducible repeat (first | refine blk_drewN ?_ _ | refine blk_drew ?_ | refine blk_alloc ?_ _)); exact BK309.out), (by (with_reducible repeat (first | refine blk_drewN ?_ _ | refine blk_drew ?_ | refine blk_alloc ?_ _)); exact BK319.out), GW319.out, GE319.out, NB309_319.out, NB319_309.out, (by repeat (first | (with_reducible first | exact HB.out | apply below_alloc | apply pw_below_drewN | apply below_drew1 | refine below_set ?_ GE309.out | refine below_set ?_ GE319.out) | exact HB.out))⟩)
                      · skip
                        refine box_step ?hg (N := 7) ?hd (cs := #[.slice none 0 0, .int .i64 0]) (t := 24) ?hr ?_; (case hd => rfl); (case hg => rfl); (case hr => first | (go_simp; done) | (go_simp; rfl))
                        intro gb319 hg w31 hbox hb
                        have n0_ := Aside0.mk (Kd.R_below (by (with_reducible repeat (first | apply Kd.R_alloc | apply Kd.R_drewN | apply Kd.R_drew)); exact HO315.out) hb)
                        have n1_ := Aside0.mk (blk_below (g := gb309) (o := .cells #[.slice A0_0 l0_0.length c0_0, .int .i64 a0_1] 24 (0, 0)) (by (with_reducible repeat (first | refine blk_drewN ?_ _ | refine blk_drew ?_ | refine blk_alloc ?_ _)); exact BK309.out) hb)
                        have n2_ := Aside0.mk (below_step (by repeat (first | (with_reducible first | exact HB.out | apply below_alloc | apply pw_below_drewN | apply below_drew1 | refine below_set ?_ GE309.out) | exact HB.out)) hb)
                        have n3_ := Aside0.mk (hbox)
                        have n4_ := Aside0.mk ((by rw [hg]; exact (below_size (by repeat (first | (with_reducible first | exact HB.out | apply below_alloc | apply pw_below_drewN | apply below_drew1 | refine below_set ?_ GE309.out) | exact HB.out))) : w.heap.size ≤ gb319))
                        have n5_ := Aside0.mk ((by rw [hg]; exact (below_size (by repeat (first | (with_reducible first | exact HB.out | apply below_alloc | apply pw_below_drewN | apply below_drew1 | refine below_set ?_ GE309.out) | exact HB.out))) : w.heap.size ≤ gb319))
                        have n6_ := Aside0.mk ((by rw [hg]; exact Nat.ne_of_lt (blk_lt (g := gb309) (o := .cells #[.slice A0_0 l0_0.length c0_0, .int .i64 a0_1] 24 (0, 0)) (by (with_reducible repeat (first | refine blk_drewN ?_ _ | refine blk_drew ?_ | refine blk_alloc ?_ _)); exact BK309.out)) : gb309 ≠ gb319))
                        have n7_ := Aside0.mk ((by rw [hg]; exact Nat.ne_of_gt (blk_lt (g := gb309) (o := .cells #[.slice A0_0 l0_0.length c0_0, .int .i64 a0_1] 24 (0, 0)) (by (with_reducible repeat (first | refine blk_drewN ?_ _ | refine blk_drew ?_ | refine blk_alloc ?_ _)); exact BK309.out)) : gb319 ≠ gb309))
                        clear HO315
                        clear BK309
                        clear HB
                        have HO315 := n0_
                        have BK309 := n1_
                        have HB := n2_
                        have BK319 := n3_
                        have GW319 := n4_
                        have GE319 := n5_
                        have NB309_319 := n6_
                        have NB319_309 := n7_
                        clear n0_ n1_ n2_ n3_ n4_ n5_ n6_ n7_
                        clear hb hbox hg
                        refine hK.out _ _ ⟨(blk_cell BK309.out 0).trans rfl, (blk_cell BK309.out 1).trans rfl⟩ (fun hHeld => ?_)
                        clear hK K
                        refine norm_ (a' := ?_) ?_ ?_
                        rotate_left
                        · show Act.put _ (some 7) _ = _
                          simp only [Act.put, List.setIfInBounds_toArray, List.set_cons_zero, List.set_cons_succ, i64_w, i32_w]
                          rfl
                        refine one_ (i := 3) (N := some 31) #[true, true, true, true, true, true, false, true, false] rfl rfl (one_of HT_.out (by kernel_rfl)) (by decide) (fun K hK => ?_)
                        refine Kd.R_append_rows_step (Kd.int .i64) (w0 := w) w.heap.size (by rfl) (.tmp 28) (.tmp 30) 22 3 (.int .i64 0) 8 rfl Try.underlying22 info3 rfl (by decide) (by omega) v314 y313 l0_0 _ _ _ (fun _ => True) (fun _ => False) rfl rfl ?aO ?aR (fun _ _ h => h) (fun _ h => h.elim) ?aF ?aB ?aS ?aL ?_
                        (case aR => repeat (first | exact (Kd.C_below HR0_0.out HB.out) | (with_reducible refine Kd.C_alloc ?_ _) | (with_reducible refine Kd.C_drewN ?_ _) | (with_reducible refine Kd.C_drew ?_)))
                        (case aB => exact (by repeat (first | (with_reducible first | exact HB.out | apply below_alloc | apply pw_below_drewN | apply below_drew1 | refine below_set ?_ GE309.out | refine below_set ?_ GE319.out) | exact HB.out)))
                        (case aF => exact (fun _ _ => trivial))
                        (case aO => exact (by (with_reducible repeat (first | apply Kd.R_alloc | apply Kd.R_drewN | apply Kd.R_drew)); exact HO315.out))
                        (case aS => exact (below_size (by repeat (first | (with_reducible first | exact HB.out | apply below_alloc | apply pw_below_drewN | apply below_drew1 | refine below_set ?_ GE309.out | refine below_set ?_ GE319.out) | exact HB.out))))
                        (case aL => have := LMc19.out; omega)
                        intro v317 w32 ho hb hg hat
                        rw [← Ny316.out] at ho
                        have n0_ := Aside0.mk (blk_grown (g := gb309) (o := .cells #[.slice A0_0 l0_0.length c0_0, .int .i64 a0_1] 24 (0, 0)) (by (with_reducible repeat (first | refine blk_drewN ?_ _ | refine blk_drew ?_ | refine blk_alloc ?_ _)); exact BK309.out) hg (Kd.R_ne HO315.out BK309.out (by decide)))
                        have n1_ := Aside0.mk (blk_grown (g := gb319) (o := .cells #[.slice none 0 0, .int .i64 0] 24 (0, 0)) (by (with_reducible repeat (first | refine blk_drewN ?_ _ | refine blk_drew ?_ | refine blk_alloc ?_ _)); exact BK319.out) hg (Kd.R_ne HO315.out BK319.out (by decide)))
                        have n2_ := Aside0.mk (hb)
                        have n3_ := Aside0.mk (ho)
                        clear BK309
                        clear BK319
                        clear HB
                        clear HO315
                        have BK309 := n0_
                        have BK319 := n1_
                        have HB := n2_
                        have HO318 := n3_
                        clear n0_ n1_ n2_ n3_
                        clear ho hb hg hat
                        obtain ⟨Ao33, co33, eo33⟩ := Kd.R_slice HO318.out
                        (first | subst eo33 | (injection eo33 with f1_ f2_ f3_; have f4_ := f1_.symm; have f5_ := f3_.symm; clear f1_ f2_ f3_; subst f4_; subst f5_))
                        refine hK.out _ _ ⟨(blk_cell BK309.out 0).trans rfl, (blk_cell BK309.out 1).trans rfl⟩ (fun hHeld => ?_)
                        clear hK K
                        refine norm_ (a' := ?_) ?_ ?_
                        rotate_left
                        · show Act.put _ (some 31) _ = _
                          simp only [Act.put, List.setIfInBounds_toArray, List.set_cons_zero, List.set_cons_succ, i64_w, i32_w]
                          rfl
                        refine pure_ (i := 6) (N := some 34) (v := ?_) (a' := ?_) #[true, true, true, true, true, true, true, true, false] rfl rfl (any_of HT_.out (by kernel_rfl)) (fun _ _ _ h => h) (Or.inl ⟨by rfl, ?_⟩) ?_ ?_
                        rotate_left
                        · intro w'
                          go_simp
                          with_reducible rfl
                        rotate_left
                        · simp only [Act.put, List.setIfInBounds_toArray, List.set_cons_zero, List.set_cons_succ, i64_w, i32_w]
                          rfl
                        exact norm_ (by simp only [putAll, Act.put, List.setIfInBounds_toArray, List.set_cons_zero, List.set_cons_succ]) (hCont (v314, .slice Ao33 y316.length co33, gb319) _ ⟨hHeld, (by (with_reducible repeat (first | apply Kd.R_alloc | apply Kd.R_drewN | apply Kd.R_drew)); exact HO318.out), (by (with_reducible repeat (first | refine blk_drewN ?_ _ | refine blk_drew ?_ | refine blk_alloc ?_ _)); exact BK309.out), (by (with_reducible repeat (first | refine blk_drewN ?_ _ | refine blk_drew ?_ | refine blk_alloc ?_ _)); exact BK319.out), GW319.out, GE319.out, NB309_319.out, NB319_309.out, (by repeat (first | (with_reducible first | exact HB.out | apply below_alloc | apply pw_below_drewN | apply below_drew1 | refine below_set ?_ GE309.out | refine below_set ?_ GE319.out) | exact HB.out))⟩)
                    · skip
                      refine box_step ?hg (N := 7) ?hd (cs := #[.slice none 0 0, .int .i64 0]) (t := 24) ?hr ?_; (case hd => rfl); (case hg => rfl); (case hr => first | (go_simp; done) | (go_simp; rfl))
                      intro gb319 hg w29 hbox hb
                      have n0_ := Aside0.mk (blk_below (g := gb309) (o := .cells #[.slice A0_0 l0_0.length c0_0, .int .i64 a0_1] 24 (0, 0)) (by (with_reducible repeat (first | refine blk_drewN ?_ _ | refine blk_drew ?_ | refine blk_alloc ?_ _)); exact BK309.out) hb)
                      have n1_ := Aside0.mk (below_step (by repeat (first | (with_reducible first | exact HB.out | apply below_alloc | apply pw_below_drewN | apply below_drew1 | refine below_set ?_ GE309.out) | exact HB.out)) hb)
                      have n2_ := Aside0.mk (hbox)
                      have n3_ := Aside0.mk ((by rw [hg]; exact (below_size (by repeat (first | (with_reducible first | exact HB.out | apply below_alloc | apply pw_below_drewN | apply below_drew1 | refine below_set ?_ GE309.out) | exact HB.out))) : w.heap.size ≤ gb319))
                      have n4_ := Aside0.mk ((by rw [hg]; exact (below_size (by repeat (first | (with_reducible first | exact HB.out | apply below_alloc | apply pw_below_drewN | apply below_drew1 | refine below_set ?_ GE309.out) | exact HB.out))) : w.heap.size ≤ gb319))
                      have n5_ := Aside0.mk ((by rw [hg]; exact Nat.ne_of_lt (blk_lt (g := gb309) (o := .cells #[.slice A0_0 l0_0.length c0_0, .int .i64 a0_1] 24 (0, 0)) (by (with_reducible repeat (first | refine blk_drewN ?_ _ | refine blk_drew ?_ | refine blk_alloc ?_ _)); exact BK309.out)) : gb309 ≠ gb319))
                      have n6_ := Aside0.mk ((by rw [hg]; exact Nat.ne_of_gt (blk_lt (g := gb309) (o := .cells #[.slice A0_0 l0_0.length c0_0, .int .i64 a0_1] 24 (0, 0)) (by (with_reducible repeat (first | refine blk_drewN ?_ _ | refine blk_drew ?_ | refine blk_alloc ?_ _)); exact BK309.out)) : gb319 ≠ gb309))
                      clear BK309
                      clear HB
                      have BK309 := n0_
                      have HB := n1_
                      have BK319 := n2_
                      have GW319 := n3_
                      have GE319 := n4_
                      have NB309_319 := n5_
                      have NB319_309 := n6_
                      clear n0_ n1_ n2_ n3_ n4_ n5_ n6_
                      clear hb hbox hg
                      refine hK.out _ _ ⟨(blk_cell BK309.out 0).trans rfl, (blk_cell BK309.out 1).trans rfl⟩ (fun hHeld => ?_)
                      clear hK K
                      refine norm_ (a' := ?_) ?_ ?_
                      rotate_left
                      · show Act.put _ (some 7) _ = _
                        simp only [Act.put, List.setIfInBounds_toArray, List.set_cons_zero, List.set_cons_succ, i64_w, i32_w]
                        rfl
                      refine one_ (i := 0) (N := some 28) #[true, true, true, false, true, true, false, true, false] rfl rfl (one_of HT_.out (by kernel_rfl)) (by decide) (fun K hK => ?_)
                      refine Kd.R_lit_step (Kd.int .i64) _ 3 ?hg (N := 28) ?hd (xs := ([] : List Int)) (inner := []) (ok := fun _ => True) (okp := fun _ => True) ?hr ?hp (fun _ hk => hk) trivial (Below.refl _ _) (Nat.le_refl _) (by simp) ?_; (case hd => rfl); (case hg => rfl); (case hr => first | (go_simp; done) | (go_simp; rfl)); (case hp => exact (Reps.none _ _))
                      intro v314 w30 ho31 hb hg_ hnew_
                      clear hg_ hnew_
                      (first | rw [← Ny313.out] at ho31 | (simp only [Int.reduceToNat] at ho31; rw [← Ny313.out] at ho31))
                      have n0_ := Aside0.mk (Kd.R_lower ho31 (below_size (by repeat (first | (with_reducible first | exact HB.out | apply below_alloc | apply pw_below_drewN | apply below_drew1 | refine below_set ?_ GE309.out | refine below_set ?_ GE319.out) | exact HB.out))))
                      have n1_ := Aside0.mk (blk_below (g := gb309) (o := .cells #[.slice A0_0 l0_0.length c0_0, .int .i64 a0_1] 24 (0, 0)) (by (with_reducible repeat (first | refine blk_drewN ?_ _ | refine blk_drew ?_ | refine blk_alloc ?_ _)); exact BK309.out) hb)
                      have n2_ := Aside0.mk (blk_below (g := gb319) (o := .cells #[.slice none 0 0, .int .i64 0] 24 (0, 0)) (by (with_reducible repeat (first | refine blk_drewN ?_ _ | refine blk_drew ?_ | refine blk_alloc ?_ _)); exact BK319.out) hb)
                      have n3_ := Aside0.mk (below_step (by repeat (first | (with_reducible first | exact HB.out | apply below_alloc | apply pw_below_drewN | apply below_drew1 | refine below_set ?_ GE309.out | refine below_set ?_ GE319.out) | exact HB.out)) hb)
                      clear BK309
                      clear BK319
                      clear HB
                      have HO315 := n0_
                      have BK309 := n1_
                      have BK319 := n2_
                      have HB := n3_
                      clear n0_ n1_ n2_ n3_
                      clear hb ho31
                      refine hK.out _ _ ⟨(blk_cell BK309.out 0).trans rfl, (blk_cell BK309.out 1).trans rfl⟩ (fun hHeld => ?_)
                      clear hK K
                      refine norm_ (a' := ?_) ?_ ?_
                      rotate_left
                      · show Act.put _ (some 28) _ = _
                        simp only [Act.put, List.setIfInBounds_toArray, List.set_cons_zero, List.set_cons_succ, i64_w, i32_w]
                        rfl
                      refine one_ (i := 3) (N := some 31) #[true, true, true, true, true, true, false, true, false] rfl rfl (one_of HT_.out (by kernel_rfl)) (by decide) (fun K hK => ?_)
                      refine Kd.R_append_rows_step (Kd.int .i64) (w0 := w) w.heap.size (by rfl) (.tmp 28) (.tmp 30) 22 3 (.int .i64 0) 8 rfl Try.underlying22 info3 rfl (by decide) (by omega) v314 y313 l0_0 _ _ _ (fun _ => True) (fun _ => False) rfl rfl ?aO ?aR (fun _ _ h => h) (fun _ h => h.elim) ?aF ?aB ?aS ?aL ?_
                      (case aR => repeat (first | exact (Kd.C_below HR0_0.out HB.out) | (with_reducible refine Kd.C_alloc ?_ _) | (with_reducible refine Kd.C_drewN ?_ _) | (with_reducible refine Kd.C_drew ?_)))
                      (case aB => exact (by repeat (first | (with_reducible first | exact HB.out | apply below_alloc | apply pw_below_drewN | apply below_drew1 | refine below_set ?_ GE309.out | refine below_set ?_ GE319.out) | exact HB.out)))
                      (case aF => exact (fun _ _ => trivial))
                      (case aO => exact (by (with_reducible repeat (first | apply Kd.R_alloc | apply Kd.R_drewN | apply Kd.R_drew)); exact HO315.out))
                      (case aS => exact (below_size (by repeat (first | (with_reducible first | exact HB.out | apply below_alloc | apply pw_below_drewN | apply below_drew1 | refine below_set ?_ GE309.out | refine below_set ?_ GE319.out) | exact HB.out))))
                      (case aL => have := LMc19.out; omega)
                      intro v317 w32 ho hb hg hat
                      rw [← Ny316.out] at ho
                      have n0_ := Aside0.mk (blk_grown (g := gb309) (o := .cells #[.slice A0_0 l0_0.length c0_0, .int .i64 a0_1] 24 (0, 0)) (by (with_reducible repeat (first | refine blk_drewN ?_ _ | refine blk_drew ?_ | refine blk_alloc ?_ _)); exact BK309.out) hg (Kd.R_ne HO315.out BK309.out (by decide)))
                      have n1_ := Aside0.mk (blk_grown (g := gb319) (o := .cells #[.slice none 0 0, .int .i64 0] 24 (0, 0)) (by (with_reducible repeat (first | refine blk_drewN ?_ _ | refine blk_drew ?_ | refine blk_alloc ?_ _)); exact BK319.out) hg (Kd.R_ne HO315.out BK319.out (by decide)))
                      have n2_ := Aside0.mk (hb)
                      have n3_ := Aside0.mk (ho)
                      clear BK309
                      clear BK319
                      clear HB
                      clear HO315
                      have BK309 := n0_
                      have BK319 := n1_
                      have HB := n2_
                      have HO318 := n3_
                      clear n0_ n1_ n2_ n3_
                      clear ho hb hg hat
                      obtain ⟨Ao33, co33, eo33⟩ := Kd.R_slice HO318.out
                      (first | subst eo33 | (injection eo33 with f1_ f2_ f3_; have f4_ := f1_.symm; have f5_ := f3_.symm; clear f1_ f2_ f3_; subst f4_; subst f5_))
                      refine hK.out _ _ ⟨(blk_cell BK309.out 0).trans rfl, (blk_cell BK309.out 1).trans rfl⟩ (fun hHeld => ?_)
                      clear hK K
                      refine norm_ (a' := ?_) ?_ ?_
                      rotate_left
                      · show Act.put _ (some 31) _ = _
                        simp only [Act.put, List.setIfInBounds_toArray, List.set_cons_zero, List.set_cons_succ, i64_w, i32_w]
                        rfl
                      refine pure_ (i := 6) (N := some 34) (v := ?_) (a' := ?_) #[true, true, true, true, true, true, true, true, false] rfl rfl (any_of HT_.out (by kernel_rfl)) (fun _ _ _ h => h) (Or.inl ⟨by rfl, ?_⟩) ?_ ?_
                      rotate_left
                      · intro w'
                        go_simp
                        with_reducible rfl
                      rotate_left
                      · simp only [Act.put, List.setIfInBounds_toArray, List.set_cons_zero, List.set_cons_succ, i64_w, i32_w]
                        rfl
                      exact norm_ (by simp only [putAll, Act.put, List.setIfInBounds_toArray, List.set_cons_zero, List.set_cons_succ]) (hCont (v314, .slice Ao33 y316.length co33, gb319) _ ⟨hHeld, (by (with_reducible repeat (first | apply Kd.R_alloc | apply Kd.R_drewN | apply Kd.R_drew)); exact HO318.out), (by (with_reducible repeat (first | refine blk_drewN ?_ _ | refine blk_drew ?_ | refine blk_alloc ?_ _)); exact BK309.out), (by (with_reducible repeat (first | refine blk_drewN ?_ _ | refine blk_drew ?_ | refine blk_alloc ?_ _)); exact BK319.out), GW319.out, GE319.out, NB309_319.out, NB319_309.out, (by repeat (first | (with_reducible first | exact HB.out | apply below_alloc | apply pw_below_drewN | apply below_drew1 | refine below_set ?_ GE309.out | refine below_set ?_ GE319.out) | exact HB.out))⟩)
                  rintro ⟨v314, v317, gb319⟩ w34 ⟨hS_, h0_, h1_, h2_, h3_, h4_, h5_, h6_, h7_⟩
                  have n0_ : Aside0 (Kd.R (Kd.int .i64) 3 w34 w.heap.size (fun _ => True) v317 y316) := ⟨h0_⟩
                  have n1_ : Aside0 (w34.heap[gb309]? = some (.cells #[.slice A0_0 l0_0.length c0_0, .int .i64 a0_1] 24 (0, 0))) := ⟨h1_⟩
                  have n2_ : Aside0 (w34.heap[gb319]? = some (.cells #[.slice none 0 0, .int .i64 0] 24 (0, 0))) := ⟨h2_⟩
                  have n3_ : Aside0 (w.heap.size ≤ gb319) := ⟨h3_⟩
                  have n4_ : Aside0 (w.heap.size ≤ gb319) := ⟨h4_⟩
                  have n5_ : Aside0 (gb309 ≠ gb319) := ⟨h5_⟩
                  have n6_ : Aside0 (gb319 ≠ gb309) := ⟨h6_⟩
                  have n7_ : Aside0 (Below w.heap.size w w34) := ⟨h7_⟩
                  clear BK309
                  clear HB
                  clear h0_ h1_ h2_ h3_ h4_ h5_ h6_ h7_
                  have HO318 := n0_
                  have BK309 := n1_
                  have BK319 := n2_
                  have GW319 := n3_
                  have GE319 := n4_
                  have NB309_319 := n5_
                  have NB319_309 := n6_
                  have HB := n7_
                  clear n0_ n1_ n2_ n3_ n4_ n5_ n6_ n7_
                  have hHeld : w34.cell? ⟨gb309, 0, none⟩ = some (.slice A0_0 l0_0.length c0_0) ∧ w34.cell? ⟨gb309, 1, none⟩ = some (.int .i64 a0_1) := hS_
                  obtain ⟨Ao35, co35, eo35⟩ := Kd.R_slice HO318.out
                  (first | subst eo35 | (injection eo35 with f1_ f2_ f3_; have f4_ := f1_.symm; have f5_ := f3_.symm; clear f1_ f2_ f3_; subst f4_; subst f5_))
                  refine norm_ (a' := ?_) ?_ ?_
                  rotate_left
                  · simp only [putAll, Act.put, List.setIfInBounds_toArray, List.set_cons_zero, List.set_cons_succ]
                    rfl
                  refine one_ (i := 8) (N := none) #[true, true, true, true, true, true, true, true, true] rfl rfl (one_of HT_.out (by kernel_rfl)) (by decide) (fun K hK => ?_)
                  have hs36 : w34.cell? ⟨gb319, 0, none⟩ = some (.slice none 0 0) := (blk_cell BK319.out 0).trans rfl
                  have hfs36 := blk_frozen BK319.out 0
                  have hns36_0 := NB309_319.out
                  have hms36_0 := NB319_309.out
                  have hs37 : w34.cell? ⟨gb319, 1, none⟩ = some (.int .i64 0) := (blk_cell BK319.out 1).trans rfl
                  have hfs37 := blk_frozen BK319.out 1
                  have hns37_0 := NB309_319.out
                  have hms37_0 := NB319_309.out
                  refine skip_ (w1 := ?_) (by rfl) rfl ?_ ?_
                  rotate_left
                  · go_simp
                    rfl
                  refine hK.out _ _ ⟨((cell_far (p := ⟨gb319, _, none⟩) NB309_319.out _).trans (((cell_far (p := ⟨gb319, _, none⟩) NB309_319.out _).trans (hHeld.1)))), ((cell_far (p := ⟨gb319, _, none⟩) NB309_319.out _).trans (((cell_far (p := ⟨gb319, _, none⟩) NB309_319.out _).trans (hHeld.2))))⟩ (fun hHeld => ?_)
                  clear hK K
                  refine done_ (done_of HT_.out (by kernel_rfl)) ?_
                  have hnb38 := NB309_319.out
                  have hnc38 := NB319_309.out
                  have hcz39_0 : w34.cell? ⟨gb309, 0, none⟩ = some (.slice A0_0 l0_0.length c0_0) := (blk_cell BK309.out 0).trans rfl
                  have hcz39_1 : w34.cell? ⟨gb309, 1, none⟩ = some (.int .i64 a0_1) := (blk_cell BK309.out 1).trans rfl
                  have hfz39_0 := blk_frozen BK309.out 0
                  have hfz39_1 := blk_frozen BK309.out 1
                  go_upto_if 71 with (first | ((with_reducible refine gate_dst (N := 39) rfl ?_); refine Go.Proofs.YtkpljfckfljddaaX.R_make2 (Kd.int .i64) _ 3 rfl (N := 39) rfl 22 _ _ rfl 0 ji20 rfl rfl Try.underlying22 (.int .i64 0) 8 info3 rfl (by decide) (by omega) 0 (ok := fun _ => True) (okp := fun _ => True) rfl (fun _ hk => hk) trivial (by omega) (of_decide_eq_true (by first | (with_reducible assumption) | assumption)) (Nat.le_trans (Nat.mul_le_mul_right _ (of_decide_eq_true (by first | (with_reducible assumption) | assumption) : (ji20 : Int).toNat ≤ 35184372088832)) (by omega)) (Below.refl _ _) (Nat.le_refl _) ?_; intro v321 w40 ho41 hb hg_ hnew_; clear hg_ hnew_; (first | rw [← Ny320.out] at ho41 | (simp only [Int.reduceToNat] at ho41; rw [← Ny320.out] at ho41)); have n0_ := Aside0.mk (Kd.R_elder' (by (with_reducible repeat (first | apply Kd.R_alloc | apply Kd.R_drewN | apply Kd.R_drew)); exact (Kd.R_mono (Kd.R_far (p := ⟨gb319, 1, none⟩) (Kd.R_far (p := ⟨gb319, 0, none⟩) (Kd.R_types HO318.out BK319.out (by decide)) (fun _ hk => hk.2) (.slice Ao35 y316.length co35)) (fun _ hk => hk.2) (.int .i64 a0_1)) (fun _ h_ => h_.1))) (Kd.R_base ho41) hb); have n1_ := Aside0.mk (Kd.R_lower (Kd.R_new' ho41 (Kd.R_lt (by (with_reducible repeat (first | apply Kd.R_alloc | apply Kd.R_drewN | apply Kd.R_drew)); exact (Kd.R_mono (Kd.R_far (p := ⟨gb319, 1, none⟩) (Kd.R_far (p := ⟨gb319, 0, none⟩) (Kd.R_types HO318.out BK319.out (by decide)) (fun _ hk => hk.2) (.slice Ao35 y316.length co35)) (fun _ hk => hk.2) (.int .i64 a0_1)) (fun _ h_ => h_.1))))) (below_size (by repeat (first | (with_reducible first | exact HB.out | apply below_alloc | apply pw_below_drewN | apply below_drew1 | refine below_set ?_ GE309.out | refine below_set ?_ GE319.out) | exact HB.out)))); have n2_ := Aside0.mk (blk_below (g := gb309) (o := .cells #[.slice A0_0 l0_0.length c0_0, .int .i64 a0_1] 24 (0, 0)) (by (with_reducible repeat (first | refine blk_drewN ?_ _ | refine blk_drew ?_ | refine blk_alloc ?_ _)); refine blk_far ?_ NB309_319.out _; (with_reducible repeat (first | refine blk_drewN ?_ _ | refine blk_drew ?_ | refine blk_alloc ?_ _)); refine blk_far ?_ NB309_319.out _; (with_reducible repeat (first | refine blk_drewN ?_ _ | refine blk_drew ?_ | refine blk_alloc ?_ _)); exact BK309.out) hb); have n3_ := Aside0.mk (blk_below (g := gb319) (o := .cells #[.slice Ao35 y316.length co35, .int .i64 a0_1] 24 (0, 0)) (by (with_reducible repeat (first | refine blk_drewN ?_ _ | refine blk_drew ?_ | refine blk_alloc ?_ _)); refine blk_put (cs := #[.slice Ao35 y316.length co35, .int .i64 0]) ?_ 1 _ rfl; (with_reducible repeat (first | refine blk_drewN ?_ _ | refine blk_drew ?_ | refine blk_alloc ?_ _)); refine blk_put (cs := #[.slice none 0 0, .int .i64 0]) ?_ 0 _ rfl; (with_reducible repeat (first | refine blk_drewN ?_ _ | refine blk_drew ?_ | refine blk_alloc ?_ _)); exact BK319.out) hb); have n4_ := Aside0.mk (below_step (by repeat (first | (with_reducible first | exact HB.out | apply below_alloc | apply pw_below_drewN | apply below_drew1 | refine below_set ?_ GE309.out | refine below_set ?_ GE319.out) | exact HB.out)) hb); clear HO318; clear BK309; clear BK319; clear HB; have HO318 := n0_; have HO322 := n1_; have BK309 := n2_; have BK319 := n3_; have HB := n4_; clear n0_ n1_ n2_ n3_ n4_; clear hb ho41; have hcz42_0 : w40.cell? ⟨gb309, 0, none⟩ = some (.slice A0_0 l0_0.length c0_0) := (blk_cell BK309.out 0).trans rfl; have hcz42_1 : w40.cell? ⟨gb309, 1, none⟩ = some (.int .i64 a0_1) := (blk_cell BK309.out 1).trans rfl; have hfz42_0 := blk_frozen BK309.out 0; have hfz42_1 := blk_frozen BK309.out 1) | ((with_reducible refine gate_builtin (b := .append) (xs := #[.tmp 40, .tmp 42]) rfl ?_); at_builtin; refine Kd.R_append_rows (Kd.int .i64) (w0 := w) w.heap.size rfl (.tmp 40) (.tmp 42) 22 3 (.int .i64 0) 8 rfl Try.underlying22 info3 rfl (by decide) (by omega) v321 y320 l0_0 _ _ _ (fun k_ => some k_ ≠ (.slice Ao35 y316.length co35 : Value).ownBlock) (fun _ => False) rfl rfl ?aO ?aR (fun _ _ h => h) (fun _ h => h.elim) ?aF ?aB ?aS ?aL ?_; (case aR => repeat (first | exact (Kd.C_below HR0_0.out HB.out) | (with_reducible refine Kd.C_alloc ?_ _) | (with_reducible refine Kd.C_drewN ?_ _) | (with_reducible refine Kd.C_drew ?_))); (case aB => exact (by repeat (first | (with_reducible first | exact HB.out | apply below_alloc | apply pw_below_drewN | apply below_drew1 | refine below_set ?_ GE309.out | refine below_set ?_ GE319.out) | exact HB.out))); (case aF => exact (fun k_ hk => Kd.fresh' (Kd.R_lt (by (with_reducible repeat (first | apply Kd.R_alloc | apply Kd.R_drewN | apply Kd.R_drew)); exact HO318.out)) k_ hk)); (case aO => exact (by (with_reducible repeat (first | apply Kd.R_alloc | apply Kd.R_drewN | apply Kd.R_drew)); exact Kd.R_mono HO322.out (fun _ hk => hk.2))); (case aS => exact (below_size (by repeat (first | (with_reducible first | exact HB.out | apply below_alloc | apply pw_below_drewN | apply below_drew1 | refine below_set ?_ GE309.out | refine below_set ?_ GE319.out) | exact HB.out)))); (case aL => have := LMc23.out; omega); intro v324 w43 ho hb hg hat; rw [← Ny323.out] at ho; have n0_ := Aside0.mk (blk_grown (g := gb309) (o := .cells #[.slice A0_0 l0_0.length c0_0, .int .i64 a0_1] 24 (0, 0)) (by (with_reducible repeat (first | refine blk_drewN ?_ _ | refine blk_drew ?_ | refine blk_alloc ?_ _)); exact BK309.out) hg (Kd.R_ne HO322.out BK309.out (by decide))); have n1_ := Aside0.mk (Kd.R_after (ok := (fun _ => True)) (by (with_reducible repeat (first | apply Kd.R_alloc | apply Kd.R_drewN | apply Kd.R_drew)); exact HO318.out) hg hat); have n2_ := Aside0.mk (blk_grown (g := gb319) (o := .cells #[.slice Ao35 y316.length co35, .int .i64 a0_1] 24 (0, 0)) (by (with_reducible repeat (first | refine blk_drewN ?_ _ | refine blk_drew ?_ | refine blk_alloc ?_ _)); exact BK319.out) hg (Kd.R_ne HO322.out BK319.out (by decide))); have n3_ := Aside0.mk (hb); have n4_ := Aside0.mk (ho); clear BK309; clear HO318; clear BK319; clear HB; clear HO322; have BK309 := n0_; have HO318 := n1_; have BK319 := n2_; have HB := n3_; have HO325 := n4_; clear n0_ n1_ n2_ n3_ n4_; clear ho hb hg hat; have hcz44_0 : w43.cell? ⟨gb309, 0, none⟩ = some (.slice A0_0 l0_0.length c0_0) := (blk_cell BK309.out 0).trans rfl; have hcz44_1 : w43.cell? ⟨gb309, 1, none⟩ = some (.int .i64 a0_1) := (blk_cell BK309.out 1).trans rfl; have hfz44_0 := blk_frozen BK309.out 0; have hfz44_1 := blk_frozen BK309.out 1; obtain ⟨Ao45, co45, eo45⟩ := Kd.R_slice HO325.out; subst eo45) | ((with_reducible refine gate_callee (f := 21) rfl ?_); refine goesL_ (some 50) rfl rfl Try.func21 (by kernel_rfl) rfl #[.agg #[.slice Ao45 y323.length co45, .int .i64 a0_1], .int .i64 a1] rfl (by (try simp only [List.map_toArray, List.map_cons, List.map_nil]); first | done | rfl | (simp only [List.length_drop, List.length_take]; rfl)) ?_; (with_reducible refine (queue_Join.calls _ _ y323 a0_1 a1 t326 t329 t330 _ ?side1 ?side2 A24.out).mono ?_); (case side1 => repeat (first | exact (Kd.R_reads' HO325.out).2.2 | (with_reducible refine Kd.C_alloc ?_ _) | (with_reducible refine Kd.C_drewN ?_ _) | (with_reducible refine Kd.C_drew ?_))); (case side2 => exact (Kd.R_reads' HO325.out).2.1); rintro e w46 ⟨v327, rfl, ho0, hb⟩; refine ⟨_, rfl, ?_⟩; have n0_ := Aside0.mk (Kd.R_elder' (by (with_reducible repeat (first | apply Kd.R_alloc | apply Kd.R_drewN | apply Kd.R_drew)); exact HO318.out) (Kd.R_base ho0) hb); have n1_ := Aside0.mk (Kd.R_elder' (by (with_reducible repeat (first | apply Kd.R_alloc | apply Kd.R_drewN | apply Kd.R_drew)); exact HO325.out) (Kd.R_base ho0) hb); have n2_ := Aside0.mk (Kd.R_lower (Kd.R_new' (Kd.R_new' ho0 (Kd.R_lt (by (with_reducible repeat (first | apply Kd.R_alloc | apply Kd.R_drewN | apply Kd.R_drew)); exact HO318.out))) (Kd.R_lt (by (with_reducible repeat (first | apply Kd.R_alloc | apply Kd.R_drewN | apply Kd.R_drew)); exact HO325.out))) (below_size (by repeat (first | (with_reducible first | exact HB.out | apply below_alloc | apply pw_below_drewN | apply below_drew1 | refine below_set ?_ GE309.out | refine below_set ?_ GE319.out) | exact HB.out)))); have n3_ := Aside0.mk (blk_below (g := gb309) (o := .cells #[.slice A0_0 l0_0.length c0_0, .int .i64 a0_1] 24 (0, 0)) (by (with_reducible repeat (first | refine blk_drewN ?_ _ | refine blk_drew ?_ | refine blk_alloc ?_ _)); exact BK309.out) hb); have n4_ := Aside0.mk (blk_below (g := gb319) (o := .cells #[.slice Ao35 y316.length co35, .int .i64 a0_1] 24 (0, 0)) (by (with_reducible repeat (first | refine blk_drewN ?_ _ | refine blk_drew ?_ | refine blk_alloc ?_ _)); exact BK319.out) hb); have n5_ := Aside0.mk (below_step (by repeat (first | (with_reducible first | exact HB.out | apply below_alloc | apply pw_below_drewN | apply below_drew1 | refine below_set ?_ GE309.out | refine below_set ?_ GE319.out) | exact HB.out)) hb); clear HO318; clear HO325; clear BK309; clear BK319; clear HB; have HO318 := n0_; have HO325 := n1_; have HO328 := n2_; have BK309 := n3_; have BK319 := n4_; have HB := n5_; clear n0_ n1_ n2_ n3_ n4_ n5_; (try clear hb); (try clear hb2); (try clear hk); (try clear hi); (try clear ho0)) | ((with_reducible refine gate_dst (N := 9) rfl ?_); refine box_event ?hg (N := 9) ?hd (cs := #[.slice none 0 0, .int .i64 0]) (t := 24) ?hr ?_; (case hd => rfl); (case hg => rfl); (case hr => first | (go_simp; done) | (go_simp; rfl)); intro gb331 hg w47 hbox hb; have n0_ := Aside0.mk (Kd.R_below (by (with_reducible repeat (first | apply Kd.R_alloc | apply Kd.R_drewN | apply Kd.R_drew)); exact HO318.out) hb); have n1_ := Aside0.mk (Kd.R_below (by (with_reducible repeat (first | apply Kd.R_alloc | apply Kd.R_drewN | apply Kd.R_drew)); exact HO325.out) hb); have n2_ := Aside0.mk (Kd.R_below (by (with_reducible repeat (first | apply Kd.R_alloc | apply Kd.R_drewN | apply Kd.R_drew)); exact HO328.out) hb); have n3_ := Aside0.mk (blk_below (g := gb309) (o := .cells #[.slice A0_0 l0_0.length c0_0, .int .i64 a0_1] 24 (0, 0)) (by (with_reducible repeat (first | refine blk_drewN ?_ _ | refine blk_drew ?_ | refine blk_alloc ?_ _)); exact BK309.out) hb); have n4_ := Aside0.mk (blk_below (g := gb319) (o := .cells #[.slice Ao35 y316.length co35, .int .i64 a0_1] 24 (0, 0)) (by (with_reducible repeat (first | refine blk_drewN ?_ _ | refine blk_drew ?_ | refine blk_alloc ?_ _)); exact BK319.out) hb); have n5_ := Aside0.mk (below_step (by repeat (first | (with_reducible first | exact HB.out | apply below_alloc | apply pw_below_drewN | apply below_drew1 | refine below_set ?_ GE309.out | refine below_set ?_ GE319.out) | exact HB.out)) hb); have n6_ := Aside0.mk (hbox); have n7_ := Aside0.mk ((by rw [hg]; exact (below_size (by repeat (first | (with_reducible first | exact HB.out | apply below_alloc | apply pw_below_drewN | apply below_drew1 | refine below_set ?_ GE309.out | refine below_set ?_ GE319.out) | exact HB.out))) : w.heap.size ≤ gb331)); have n8_ := Aside0.mk ((by rw [hg]; exact (below_size (by repeat (first | (with_reducible first | exact HB.out | apply below_alloc | apply pw_below_drewN | apply below_drew1 | refine below_set ?_ GE309.out | refine below_set ?_ GE319.out) | exact HB.out))) : w.heap.size ≤ gb331)); have n9_ := Aside0.mk ((by rw [hg]; exact Nat.ne_of_lt (blk_lt (g := gb309) (o := .cells #[.slice A0_0 l0_0.length c0_0, .int .i64 a0_1] 24 (0, 0)) (by (with_reducible repeat (first | refine blk_drewN ?_ _ | refine blk_drew ?_ | refine blk_alloc ?_ _)); exact BK309.out)) : gb309 ≠ gb331)); have n10_ := Aside0.mk ((by rw [hg]; exact Nat.ne_of_gt (blk_lt (g := gb309) (o := .cells #[.slice A0_0 l0_0.length c0_0, .int .i64 a0_1] 24 (0, 0)) (by (with_reducible repeat (first | refine blk_drewN ?_ _ | refine blk_drew ?_ | refine blk_alloc ?_ _)); exact BK309.out)) : gb331 ≠ gb309)); have n11_ := Aside0.mk ((by rw [hg]; exact Nat.ne_of_lt (blk_lt (g := gb319) (o := .cells #[.slice Ao35 y316.length co35, .int .i64 a0_1] 24 (0, 0)) (by (with_reducible repeat (first | refine blk_drewN ?_ _ | refine blk_drew ?_ | refine blk_alloc ?_ _)); exact BK319.out)) : gb319 ≠ gb331)); have n12_ := Aside0.mk ((by rw [hg]; exact Nat.ne_of_gt (blk_lt (g := gb319) (o := .cells #[.slice Ao35 y316.length co35, .int .i64 a0_1] 24 (0, 0)) (by (with_reducible repeat (first | refine blk_drewN ?_ _ | refine blk_drew ?_ | refine blk_alloc ?_ _)); exact BK319.out)) : gb331 ≠ gb319)); clear HO318; clear HO325; clear HO328; clear BK309; clear BK319; clear HB; have HO318 := n0_; have HO325 := n1_; have HO328 := n2_; have BK309 := n3_; have BK319 := n4_; have HB := n5_; have BK331 := n6_; have GW331 := n7_; have GE331 := n8_; have NB309_331 := n9_; have NB331_309 := n10_; have NB319_331 := n11_; have NB331_319 := n12_; clear n0_ n1_ n2_ n3_ n4_ n5_ n6_ n7_ n8_ n9_ n10_ n11_ n12_; clear hb hbox hg; obtain ⟨Ao48, co48, eo48⟩ := Kd.R_slice HO328.out; subst eo48; have hnb49 := NB331_309.out; have hnc49 := NB309_331.out; have hnb50 := NB331_319.out; have hnc50 := NB319_331.out; have hcz51_0 : w47.cell? ⟨gb331, 0, none⟩ = some (.slice none 0 0) := (blk_cell BK331.out 0).trans rfl; have hcz51_1 : w47.cell? ⟨gb331, 1, none⟩ = some (.int .i64 0) := (blk_cell BK331.out 1).trans rfl; have hfz51_0 := blk_frozen BK331.out 0; have hfz51_1 := blk_frozen BK331.out 1; have hcz52_0 : w47.cell? ⟨gb309, 0, none⟩ = some (.slice A0_0 l0_0.length c0_0) := (blk_cell BK309.out 0).trans rfl; have hcz52_1 : w47.cell? ⟨gb309, 1, none⟩ = some (.int .i64 a0_1) := (blk_cell BK309.out 1).trans rfl; have hfz52_0 := blk_frozen BK309.out 0; have hfz52_1 := blk_frozen BK309.out 1) | ((with_reducible refine gate_callee (f := 21) rfl ?_); refine goesL_ (some 58) rfl rfl Try.func21 (by kernel_rfl) rfl #[.agg #[.slice Ao45 y323.length co45, .int .i64 a0_1], .int .i64 1] rfl (by (try simp only [List.map_toArray, List.map_cons, List.map_nil]); first | done | rfl | (simp only [List.length_drop, List.length_take]; rfl)) ?_; (with_reducible refine (queue_Join.calls _ _ y323 a0_1 1 t332 t335 t336 _ ?side1 ?side2 A25.out).mono ?_); (case side1 => refine (Kd.R_reads' (e := 3) (base := w.heap.size) (ok := fun k_ => (some k_ ≠ (.slice Ao35 y316.length co35 : Value).ownBlock ∧ some k_ ≠ (.slice Ao48 t326.length co48 : Value).ownBlock)) (n := y323.length) (c := co45) ?_).2.2; exact (by (with_reducible repeat (first | apply Kd.R_alloc | apply Kd.R_drewN | apply Kd.R_drew)); exact (Kd.R_mono (Kd.R_far (p := ⟨gb331, 1, none⟩) (Kd.R_far (p := ⟨gb331, 0, none⟩) (Kd.R_types HO325.out BK331.out (by decide)) (fun _ hk => hk.2) (.slice Ao48 t326.length co48)) (fun _ hk => hk.2) (.int .i64 t329)) (fun _ h_ => h_.1)))); (case side2 => exact (Kd.R_reads' HO325.out).2.1); rintro e w53 ⟨v333, rfl, ho0, hb⟩; refine ⟨_, rfl, ?_⟩; have n0_ := Aside0.mk (Kd.R_elder' (by (with_reducible repeat (first | apply Kd.R_alloc | apply Kd.R_drewN | apply Kd.R_drew)); exact (Kd.R_mono (Kd.R_far (p := ⟨gb331, 1, none⟩) (Kd.R_far (p := ⟨gb331, 0, none⟩) (Kd.R_types HO318.out BK331.out (by decide)) (fun _ hk => hk.2) (.slice Ao48 t326.length co48)) (fun _ hk => hk.2) (.int .i64 t329)) (fun _ h_ => h_.1))) (Kd.R_base ho0) hb); have n1_ := Aside0.mk (Kd.R_elder' (by (with_reducible repeat (first | apply Kd.R_alloc | apply Kd.R_drewN | apply Kd.R_drew)); exact (Kd.R_mono (Kd.R_far (p := ⟨gb331, 1, none⟩) (Kd.R_far (p := ⟨gb331, 0, none⟩) (Kd.R_types HO325.out BK331.out (by decide)) (fun _ hk => hk.2) (.slice Ao48 t326.length co48)) (fun _ hk => hk.2) (.int .i64 t329)) (fun _ h_ => h_.1))) (Kd.R_base ho0) hb); have n2_ := Aside0.mk (Kd.R_elder' (by (with_reducible repeat (first | apply Kd.R_alloc | apply Kd.R_drewN | apply Kd.R_drew)); exact (Kd.R_mono (Kd.R_far (p := ⟨gb331, 1, none⟩) (Kd.R_far (p := ⟨gb331, 0, none⟩) (Kd.R_types HO328.out BK331.out (by decide)) (fun _ hk => hk.2) (.slice Ao48 t326.length co48)) (fun _ hk => hk.2) (.int .i64 t329)) (fun _ h_ => h_.1))) (Kd.R_base ho0) hb); have n3_ := Aside0.mk (Kd.R_lower (Kd.R_new' (Kd.R_new' (Kd.R_new' ho0 (Kd.R_lt (by (with_reducible repeat (first | apply Kd.R_alloc | apply Kd.R_drewN | apply Kd.R_drew)); exact (Kd.R_mono (Kd.R_far (p := ⟨gb331, 1, none⟩) (Kd.R_far (p := ⟨gb331, 0, none⟩) (Kd.R_types HO318.out BK331.out (by decide)) (fun _ hk => hk.2) (.slice Ao48 t326.length co48)) (fun _ hk => hk.2) (.int .i64 t329)) (fun _ h_ => h_.1))))) (Kd.R_lt (by (with_reducible repeat (first | apply Kd.R_alloc | apply Kd.R_drewN | apply Kd.R_drew)); exact (Kd.R_mono (Kd.R_far (p := ⟨gb331, 1, none⟩) (Kd.R_far (p := ⟨gb331, 0, none⟩) (Kd.R_types HO325.out BK331.out (by decide)) (fun _ hk => hk.2) (.slice Ao48 t326.length co48)) (fun _ hk => hk.2) (.int .i64 t329)) (fun _ h_ => h_.1))))) (Kd.R_lt (by (with_reducible repeat (first | apply Kd.R_alloc | apply Kd.R_drewN | apply Kd.R_drew)); exact (Kd.R_mono (Kd.R_far (p := ⟨gb331, 1, none⟩) (Kd.R_far (p := ⟨gb331, 0, none⟩) (Kd.R_types HO328.out BK331.out (by decide)) (fun _ hk => hk.2) (.slice Ao48 t326.length co48)) (fun _ hk => hk.2) (.int .i64 t329)) (fun _ h_ => h_.1))))) (below_size (by repeat (first | (with_reducible first | exact HB.out | apply below_alloc | apply pw_below_drewN | apply below_drew1 | refine below_set ?_ GE309.out | refine below_set ?_ GE319.out | refine below_set ?_ GE331.out) | exact HB.out)))); have n4_ := Aside0.mk (blk_below (g := gb309) (o := .cells #[.slice A0_0 l0_0.length c0_0, .int .i64 a0_1] 24 (0, 0)) (by (with_reducible repeat (first | refine blk_drewN ?_ _ | refine blk_drew ?_ | refine blk_alloc ?_ _)); refine blk_far ?_ NB309_331.out _; (with_reducible repeat (first | refine blk_drewN ?_ _ | refine blk_drew ?_ | refine blk_alloc ?_ _)); refine blk_far ?_ NB309_331.out _; (with_reducible repeat (first | refine blk_drewN ?_ _ | refine blk_drew ?_ | refine blk_alloc ?_ _)); exact BK309.out) hb); have n5_ := Aside0.mk (blk_below (g := gb319) (o := .cells #[.slice Ao35 y316.length co35, .int .i64 a0_1] 24 (0, 0)) (by (with_reducible repeat (first | refine blk_drewN ?_ _ | refine blk_drew ?_ | refine blk_alloc ?_ _)); refine blk_far ?_ NB319_331.out _; (with_reducible repeat (first | refine blk_drewN ?_ _ | refine blk_drew ?_ | refine blk_alloc ?_ _)); refine blk_far ?_ NB319_331.out _; (with_reducible repeat (first | refine blk_drewN ?_ _ | refine blk_drew ?_ | refine blk_alloc ?_ _)); exact BK319.out) hb); have n6_ := Aside0.mk (blk_below (g := gb331) (o := .cells #[.slice Ao48 t326.length co48, .int .i64 t329] 24 (0, 0)) (by (with_reducible repeat (first | refine blk_drewN ?_ _ | refine blk_drew ?_ | refine blk_alloc ?_ _)); refine blk_put (cs := #[.slice Ao48 t326.length co48, .int .i64 0]) ?_ 1 _ rfl; (with_reducible repeat (first | refine blk_drewN ?_ _ | refine blk_drew ?_ | refine blk_alloc ?_ _)); refine blk_put (cs := #[.slice none 0 0, .int .i64 0]) ?_ 0 _ rfl; (with_reducible repeat (first | refine blk_drewN ?_ _ | refine blk_drew ?_ | refine blk_alloc ?_ _)); exact BK331.out) hb); have n7_ := Aside0.mk (below_step (by repeat (first | (with_reducible first | exact HB.out | apply below_alloc | apply pw_below_drewN | apply below_drew1 | refine below_set ?_ GE309.out | refine below_set ?_ GE319.out | refine below_set ?_ GE331.out) | exact HB.out)) hb); clear HO318; clear HO325; clear HO328; clear BK309; clear BK319; clear BK331; clear HB; have HO318 := n0_; have HO325 := n1_; have HO328 := n2_; have HO334 := n3_; have BK309 := n4_; have BK319 := n5_; have BK331 := n6_; have HB := n7_; clear n0_ n1_ n2_ n3_ n4_ n5_ n6_ n7_; (try clear hb); (try clear hb2); (try clear hk); (try clear hi); (try clear ho0)) | ((with_reducible refine gate_dst (N := 11) rfl ?_); refine box_event ?hg (N := 11) ?hd (cs := #[.slice none 0 0, .int .i64 0]) (t := 24) ?hr ?_; (case hd => rfl); (case hg => rfl); (case hr => first | (go_simp; done) | (go_simp; rfl)); intro gb337 hg w54 hbox hb; have n0_ := Aside0.mk (Kd.R_below (by (with_reducible repeat (first | apply Kd.R_alloc | apply Kd.R_drewN | apply Kd.R_drew)); exact HO318.out) hb); have n1_ := Aside0.mk (Kd.R_below (by (with_reducible repeat (first | apply Kd.R_alloc | apply Kd.R_drewN | apply Kd.R_drew)); exact HO325.out) hb); have n2_ := Aside0.mk (Kd.R_below (by (with_reducible repeat (first | apply Kd.R_alloc | apply Kd.R_drewN | apply Kd.R_drew)); exact HO328.out) hb); have n3_ := Aside0.mk (Kd.R_below (by (with_reducible repeat (first | apply Kd.R_alloc | apply Kd.R_drewN | apply Kd.R_drew)); exact HO334.out) hb); have n4_ := Aside0.mk (blk_below (g := gb309) (o := .cells #[.slice A0_0 l0_0.length c0_0, .int .i64 a0_1] 24 (0, 0)) (by (with_reducible repeat (first | refine blk_drewN ?_ _ | refine blk_drew ?_ | refine blk_alloc ?_ _)); exact BK309.out) hb); have n5_ := Aside0.mk (blk_below (g := gb319) (o := .cells #[.slice Ao35 y316.length co35, .int .i64 a0_1] 24 (0, 0)) (by (with_reducible repeat (first | refine blk_drewN ?_ _ | refine blk_drew ?_ | refine blk_alloc ?_ _)); exact BK319.out) hb); have n6_ := Aside0.mk (blk_below (g := gb331) (o := .cells #[.slice Ao48 t326.length co48, .int .i64 t329] 24 (0, 0)) (by (with_reducible repeat (first | refine blk_drewN ?_ _ | refine blk_drew ?_ | refine blk_alloc ?_ _)); exact BK331.out) hb); have n7_ := Aside0.mk (below_step (by repeat (first | (with_reducible first | exact HB.out | apply below_alloc | apply pw_below_drewN | apply below_drew1 | refine below_set ?_ GE309.out | refine below_set ?_ GE319.out | refine below_set ?_ GE331.out) | exact HB.out)) hb); have n8_ := Aside0.mk (hbox); have n9_ := Aside0.mk ((by rw [hg]; exact (below_size (by repeat (first | (with_reducible first | exact HB.out | apply below_alloc | apply pw_below_drewN | apply below_drew1 | refine below_set ?_ GE309.out | refine below_set ?_ GE319.out | refine below_set ?_ GE331.out) | exact HB.out))) : w.heap.size ≤ gb337)); have n10_ := Aside0.mk ((by rw [hg]; exact (below_size (by repeat (first | (with_reducible first | exact HB.out | apply below_alloc | apply pw_below_drewN | apply below_drew1 | refine below_set ?_ GE309.out | refine below_set ?_ GE319.out | refine below_set ?_ GE331.out) | exact HB.out))) : w.heap.size ≤ gb337)); have n11_ := Aside0.mk ((by rw [hg]; exact Nat.ne_of_lt (blk_lt (g := gb309) (o := .cells #[.slice A0_0 l0_0.length c0_0, .int .i64 a0_1] 24 (0, 0)) (by (with_reducible repeat (first | refine blk_drewN ?_ _ | refine blk_drew ?_ | refine blk_alloc ?_ _)); exact BK309.out)) : gb309 ≠ gb337)); have n12_ := Aside0.mk ((by rw [hg]; exact Nat.ne_of_gt (blk_lt (g := gb309) (o := .cells #[.slice A0_0 l0_0.length c0_0, .int .i64 a0_1] 24 (0, 0)) (by (with_reducible repeat (first | refine blk_drewN ?_ _ | refine blk_drew ?_ | refine blk_alloc ?_ _)); exact BK309.out)) : gb337 ≠ gb309)); have n13_ := Aside0.mk ((by rw [hg]; exact Nat.ne_of_lt (blk_lt (g := gb319) (o := .cells #[.slice Ao35 y316.length co35, .int .i64 a0_1] 24 (0, 0)) (by (with_reducible repeat (first | refine blk_drewN ?_ _ | refine blk_drew ?_ | refine blk_alloc ?_ _)); exact BK319.out)) : gb319 ≠ gb337)); have n14_ := Aside0.mk ((by rw [hg]; exact Nat.ne_of_gt (blk_lt (g := gb319) (o := .cells #[.slice Ao35 y316.length co35, .int .i64 a0_1] 24 (0, 0)) (by (with_reducible repeat (first | refine blk_drewN ?_ _ | refine blk_drew ?_ | refine blk_alloc ?_ _)); exact BK319.out)) : gb337 ≠ gb319)); have n15_ := Aside0.mk ((by rw [hg]; exact Nat.ne_of_lt (blk_lt (g := gb331) (o := .cells #[.slice Ao48 t326.length co48, .int .i64 t329] 24 (0, 0)) (by (with_reducible repeat (first | refine blk_drewN ?_ _ | refine blk_drew ?_ | refine blk_alloc ?_ _)); exact BK331.out)) : gb331 ≠ gb337)); have n16_ := Aside0.mk ((by rw [hg]; exact Nat.ne_of_gt (blk_lt (g := gb331) (o := .cells #[.slice Ao48 t326.length co48, .int .i64 t329] 24 (0, 0)) (by (with_reducible repeat (first | refine blk_drewN ?_ _ | refine blk_drew ?_ | refine blk_alloc ?_ _)); exact BK331.out)) : gb337 ≠ gb331)); clear HO318; clear HO325; clear HO328; clear HO334; clear BK309; clear BK319; clear BK331; clear HB; have HO318 := n0_; have HO325 := n1_; have HO328 := n2_; have HO334 := n3_; have BK309 := n4_; have BK319 := n5_; have BK331 := n6_; have HB := n7_; have BK337 := n8_; have GW337 := n9_; have GE337 := n10_; have NB309_337 := n11_; have NB337_309 := n12_; have NB319_337 := n13_; have NB337_319 := n14_; have NB331_337 := n15_; have NB337_331 := n16_; clear n0_ n1_ n2_ n3_ n4_ n5_ n6_ n7_ n8_ n9_ n10_ n11_ n12_ n13_ n14_ n15_ n16_; clear hb hbox hg; obtain ⟨Ao55, co55, eo55⟩ := Kd.R_slice HO334.out; subst eo55; have hnb56 := NB337_309.out; have hnc56 := NB309_337.out; have hnb57 := NB337_319.out; have hnc57 := NB319_337.out; have hnb58 := NB337_331.out; have hnc58 := NB331_337.out; have hcz59_0 : w54.cell? ⟨gb337, 0, none⟩ = some (.slice none 0 0) := (blk_cell BK337.out 0).trans rfl; have hcz59_1 : w54.cell? ⟨gb337, 1, none⟩ = some (.int .i64 0) := (blk_cell BK337.out 1).trans rfl; have hfz59_0 := blk_frozen BK337.out 0; have hfz59_1 := blk_frozen BK337.out 1; have hcz60_0 : w54.cell? ⟨gb309, 0, none⟩ = some (.slice A0_0 l0_0.length c0_0) := (blk_cell BK309.out 0).trans rfl; have hcz60_1 : w54.cell? ⟨gb309, 1, none⟩ = some (.int .i64 a0_1) := (blk_cell BK309.out 1).trans rfl; have hfz60_0 := blk_frozen BK309.out 0; have hfz60_1 := blk_frozen BK309.out 1) | ((with_reducible refine gate_callee (f := 14) rfl ?_); refine goesL_ (some 64) rfl rfl Try.func14 (by kernel_rfl) rfl #[.agg #[.slice A0_0 l0_0.length c0_0, .int .i64 a0_1], .int .i64 a2] rfl (by (try simp only [List.map_toArray, List.map_cons, List.map_nil]); first | done | rfl | (simp only [List.length_drop, List.length_take]; rfl)) ?_; (with_reducible refine (queue_Seat.calls kj5 _ _ l0_0 a0_1 a2 t338 t341 t342 t343 _ ?side1 ?side2 A26.out).mono ?_); (case side1 => exact Kd.C_below HR0_0.out (by repeat (first | (with_reducible first | exact HB.out | apply below_alloc | apply pw_below_drewN | apply below_drew1 | refine below_set ?_ GE309.out | refine below_set ?_ GE319.out | refine below_set ?_ GE331.out | refine below_set ?_ GE337.out) | exact HB.out))); (case side2 => exact HC0_0.out); rintro e w61 ⟨v339, rfl, ho0, hb⟩; refine ⟨_, rfl, ?_⟩; have n0_ := Aside0.mk (Kd.R_elder' (by (with_reducible repeat (first | apply Kd.R_alloc | apply Kd.R_drewN | apply Kd.R_drew)); exact (Kd.R_mono (Kd.R_far (p := ⟨gb337, 1, none⟩) (Kd.R_far (p := ⟨gb337, 0, none⟩) (Kd.R_types HO318.out BK337.out (by decide)) (fun _ hk => hk.2) (.slice Ao55 t332.length co55)) (fun _ hk => hk.2) (.int .i64 t335)) (fun _ h_ => h_.1))) (Kd.Q_base ho0) hb); have n1_ := Aside0.mk (Kd.R_elder' (by (with_reducible repeat (first | apply Kd.R_alloc | apply Kd.R_drewN | apply Kd.R_drew)); exact (Kd.R_mono (Kd.R_far (p := ⟨gb337, 1, none⟩) (Kd.R_far (p := ⟨gb337, 0, none⟩) (Kd.R_types HO325.out BK337.out (by decide)) (fun _ hk => hk.2) (.slice Ao55 t332.length co55)) (fun _ hk => hk.2) (.int .i64 t335)) (fun _ h_ => h_.1))) (Kd.Q_base ho0) hb); have n2_ := Aside0.mk (Kd.R_elder' (by (with_reducible repeat (first | apply Kd.R_alloc | apply Kd.R_drewN | apply Kd.R_drew)); exact (Kd.R_mono (Kd.R_far (p := ⟨gb337, 1, none⟩) (Kd.R_far (p := ⟨gb337, 0, none⟩) (Kd.R_types HO328.out BK337.out (by decide)) (fun _ hk => hk.2) (.slice Ao55 t332.length co55)) (fun _ hk => hk.2) (.int .i64 t335)) (fun _ h_ => h_.1))) (Kd.Q_base ho0) hb); have n3_ := Aside0.mk (Kd.R_elder' (by (with_reducible repeat (first | apply Kd.R_alloc | apply Kd.R_drewN | apply Kd.R_drew)); exact (Kd.R_mono (Kd.R_far (p := ⟨gb337, 1, none⟩) (Kd.R_far (p := ⟨gb337, 0, none⟩) (Kd.R_types HO334.out BK337.out (by decide)) (fun _ hk => hk.2) (.slice Ao55 t332.length co55)) (fun _ hk => hk.2) (.int .i64 t335)) (fun _ h_ => h_.1))) (Kd.Q_base ho0) hb); have n4_ := Aside0.mk (Kd.Q_lower (Kd.Q_new' (Kd.Q_new' (Kd.Q_new' (Kd.Q_new' ho0 (Kd.R_lt (by (with_reducible repeat (first | apply Kd.R_alloc | apply Kd.R_drewN | apply Kd.R_drew)); exact (Kd.R_mono (Kd.R_far (p := ⟨gb337, 1, none⟩) (Kd.R_far (p := ⟨gb337, 0, none⟩) (Kd.R_types HO318.out BK337.out (by decide)) (fun _ hk => hk.2) (.slice Ao55 t332.length co55)) (fun _ hk => hk.2) (.int .i64 t335)) (fun _ h_ => h_.1))))) (Kd.R_lt (by (with_reducible repeat (first | apply Kd.R_alloc | apply Kd.R_drewN | apply Kd.R_drew)); exact (Kd.R_mono (Kd.R_far (p := ⟨gb337, 1, none⟩) (Kd.R_far (p := ⟨gb337, 0, none⟩) (Kd.R_types HO325.out BK337.out (by decide)) (fun _ hk => hk.2) (.slice Ao55 t332.length co55)) (fun _ hk => hk.2) (.int .i64 t335)) (fun _ h_ => h_.1))))) (Kd.R_lt (by (with_reducible repeat (first | apply Kd.R_alloc | apply Kd.R_drewN | apply Kd.R_drew)); exact (Kd.R_mono (Kd.R_far (p := ⟨gb337, 1, none⟩) (Kd.R_far (p := ⟨gb337, 0, none⟩) (Kd.R_types HO328.out BK337.out (by decide)) (fun _ hk => hk.2) (.slice Ao55 t332.length co55)) (fun _ hk => hk.2) (.int .i64 t335)) (fun _ h_ => h_.1))))) (Kd.R_lt (by (with_reducible repeat (first | apply Kd.R_alloc | apply Kd.R_drewN | apply Kd.R_drew)); exact (Kd.R_mono (Kd.R_far (p := ⟨gb337, 1, none⟩) (Kd.R_far (p := ⟨gb337, 0, none⟩) (Kd.R_types HO334.out BK337.out (by decide)) (fun _ hk => hk.2) (.slice Ao55 t332.length co55)) (fun _ hk => hk.2) (.int .i64 t335)) (fun _ h_ => h_.1))))) (below_size (by repeat (first | (with_reducible first | exact HB.out | apply below_alloc | apply pw_below_drewN | apply below_drew1 | refine below_set ?_ GE309.out | refine below_set ?_ GE319.out | refine below_set ?_ GE331.out | refine below_set ?_ GE337.out) | exact HB.out)))); have n5_ := Aside0.mk (blk_below (g := gb309) (o := .cells #[.slice A0_0 l0_0.length c0_0, .int .i64 a0_1] 24 (0, 0)) (by (with_reducible repeat (first | refine blk_drewN ?_ _ | refine blk_drew ?_ | refine blk_alloc ?_ _)); refine blk_far ?_ NB309_337.out _; (with_reducible repeat (first | refine blk_drewN ?_ _ | refine blk_drew ?_ | refine blk_alloc ?_ _)); refine blk_far ?_ NB309_337.out _; (with_reducible repeat (first | refine blk_drewN ?_ _ | refine blk_drew ?_ | refine blk_alloc ?_ _)); exact BK309.out) hb); have n6_ := Aside0.mk (blk_below (g := gb319) (o := .cells #[.slice Ao35 y316.length co35, .int .i64 a0_1] 24 (0, 0)) (by (with_reducible repeat (first | refine blk_drewN ?_ _ | refine blk_drew ?_ | refine blk_alloc ?_ _)); refine blk_far ?_ NB319_337.out _; (with_reducible repeat (first | refine blk_drewN ?_ _ | refine blk_drew ?_ | refine blk_alloc ?_ _)); refine blk_far ?_ NB319_337.out _; (with_reducible repeat (first | refine blk_drewN ?_ _ | refine blk_drew ?_ | refine blk_alloc ?_ _)); exact BK319.out) hb); have n7_ := Aside0.mk (blk_below (g := gb331) (o := .cells #[.slice Ao48 t326.length co48, .int .i64 t329] 24 (0, 0)) (by (with_reducible repeat (first | refine blk_drewN ?_ _ | refine blk_drew ?_ | refine blk_alloc ?_ _)); refine blk_far ?_ NB331_337.out _; (with_reducible repeat (first | refine blk_drewN ?_ _ | refine blk_drew ?_ | refine blk_alloc ?_ _)); refine blk_far ?_ NB331_337.out _; (with_reducible repeat (first | refine blk_drewN ?_ _ | refine blk_drew ?_ | refine blk_alloc ?_ _)); exact BK331.out) hb); have n8_ := Aside0.mk (blk_below (g := gb337) (o := .cells #[.slice Ao55 t332.length co55, .int .i64 t335] 24 (0, 0)) (by (with_reducible repeat (first | refine blk_drewN ?_ _ | refine blk_drew ?_ | refine blk_alloc ?_ _)); refine blk_put (cs := #[.slice Ao55 t332.length co55, .int .i64 0]) ?_ 1 _ rfl; (with_reducible repeat (first | refine blk_drewN ?_ _ | refine blk_drew ?_ | refine blk_alloc ?_ _)); refine blk_put (cs := #[.slice none 0 0, .int .i64 0]) ?_ 0 _ rfl; (with_reducible repeat (first | refine blk_drewN ?_ _ | refine blk_drew ?_ | refine blk_alloc ?_ _)); exact BK337.out) hb); have n9_ := Aside0.mk (below_step (by repeat (first | (with_reducible first | exact HB.out | apply below_alloc | apply pw_below_drewN | apply below_drew1 | refine below_set ?_ GE309.out | refine below_set ?_ GE319.out | refine below_set ?_ GE331.out | refine below_set ?_ GE337.out) | exact HB.out)) hb); clear HO318; clear HO325; clear HO328; clear HO334; clear BK309; clear BK319; clear BK331; clear BK337; clear HB; have HO318 := n0_; have HO325 := n1_; have HO328 := n2_; have HO334 := n3_; have HO340 := n4_; have BK309 := n5_; have BK319 := n6_; have BK331 := n7_; have BK337 := n8_; have HB := n9_; clear n0_ n1_ n2_ n3_ n4_ n5_ n6_ n7_ n8_ n9_; (try clear hb); (try clear hb2); (try clear hk); (try clear hi); (try clear ho0)) | ((with_reducible refine gate_dst (N := 13) rfl ?_); refine box_event ?hg (N := 13) ?hd (cs := #[.slice none 0 0, .int .i64 0]) (t := 24) ?hr ?_; (case hd => rfl); (case hg => rfl); (case hr => first | (go_simp; done) | (go_simp; rfl)); intro gb344 hg w62 hbox hb; have n0_ := Aside0.mk (Kd.R_below (by (with_reducible repeat (first | apply Kd.R_alloc | apply Kd.R_drewN | apply Kd.R_drew)); exact HO318.out) hb); have n1_ := Aside0.mk (Kd.R_below (by (with_reducible repeat (first | apply Kd.R_alloc | apply Kd.R_drewN | apply Kd.R_drew)); exact HO325.out) hb); have n2_ := Aside0.mk (Kd.R_below (by (with_reducible repeat (first | apply Kd.R_alloc | apply Kd.R_drewN | apply Kd.R_drew)); exact HO328.out) hb); have n3_ := Aside0.mk (Kd.R_below (by (with_reducible repeat (first | apply Kd.R_alloc | apply Kd.R_drewN | apply Kd.R_drew)); exact HO334.out) hb); have n4_ := Aside0.mk (Kd.Q_below (by (with_reducible repeat (first | apply Kd.Q_alloc | apply Kd.Q_drewN | apply Kd.Q_drew)); exact HO340.out) hb); have n5_ := Aside0.mk (blk_below (g := gb309) (o := .cells #[.slice A0_0 l0_0.length c0_0, .int .i64 a0_1] 24 (0, 0)) (by (with_reducible repeat (first | refine blk_drewN ?_ _ | refine blk_drew ?_ | refine blk_alloc ?_ _)); exact BK309.out) hb); have n6_ := Aside0.mk (blk_below (g := gb319) (o := .cells #[.slice Ao35 y316.length co35, .int .i64 a0_1] 24 (0, 0)) (by (with_reducible repeat (first | refine blk_drewN ?_ _ | refine blk_drew ?_ | refine blk_alloc ?_ _)); exact BK319.out) hb); have n7_ := Aside0.mk (blk_below (g := gb331) (o := .cells #[.slice Ao48 t326.length co48, .int .i64 t329] 24 (0, 0)) (by (with_reducible repeat (first | refine blk_drewN ?_ _ | refine blk_drew ?_ | refine blk_alloc ?_ _)); exact BK331.out) hb); have n8_ := Aside0.mk (blk_below (g := gb337) (o := .cells #[.slice Ao55 t332.length co55, .int .i64 t335] 24 (0, 0)) (by (with_reducible repeat (first | refine blk_drewN ?_ _ | refine blk_drew ?_ | refine blk_alloc ?_ _)); exact BK337.out) hb); have n9_ := Aside0.mk (below_step (by repeat (first | (with_reducible first | exact HB.out | apply below_alloc | apply pw_below_drewN | apply below_drew1 | refine below_set ?_ GE309.out | refine below_set ?_ GE319.out | refine below_set ?_ GE331.out | refine below_set ?_ GE337.out) | exact HB.out)) hb); have n10_ := Aside0.mk (hbox); have n11_ := Aside0.mk ((by rw [hg]; exact (below_size (by repeat (first | (with_reducible first | exact HB.out | apply below_alloc | apply pw_below_drewN | apply below_drew1 | refine below_set ?_ GE309.out | refine below_set ?_ GE319.out | refine below_set ?_ GE331.out | refine below_set ?_ GE337.out) | exact HB.out))) : w.heap.size ≤ gb344)); have n12_ := Aside0.mk ((by rw [hg]; exact (below_size (by repeat (first | (with_reducible first | exact HB.out | apply below_alloc | apply pw_below_drewN | apply below_drew1 | refine below_set ?_ GE309.out | refine below_set ?_ GE319.out | refine below_set ?_ GE331.out | refine below_set ?_ GE337.out) | exact HB.out))) : w.heap.size ≤ gb344)); have n13_ := Aside0.mk ((by rw [hg]; exact Nat.ne_of_lt (blk_lt (g := gb309) (o := .cells #[.slice A0_0 l0_0.length c0_0, .int .i64 a0_1] 24 (0, 0)) (by (with_reducible repeat (first | refine blk_drewN ?_ _ | refine blk_drew ?_ | refine blk_alloc ?_ _)); exact BK309.out)) : gb309 ≠ gb344)); have n14_ := Aside0.mk ((by rw [hg]; exact Nat.ne_of_gt (blk_lt (g := gb309) (o := .cells #[.slice A0_0 l0_0.length c0_0, .int .i64 a0_1] 24 (0, 0)) (by (with_reducible repeat (first | refine blk_drewN ?_ _ | refine blk_drew ?_ | refine blk_alloc ?_ _)); exact BK309.out)) : gb344 ≠ gb309)); have n15_ := Aside0.mk ((by rw [hg]; exact Nat.ne_of_lt (blk_lt (g := gb319) (o := .cells #[.slice Ao35 y316.length co35, .int .i64 a0_1] 24 (0, 0)) (by (with_reducible repeat (first | refine blk_drewN ?_ _ | refine blk_drew ?_ | refine blk_alloc ?_ _)); exact BK319.out)) : gb319 ≠ gb344)); have n16_ := Aside0.mk ((by rw [hg]; exact Nat.ne_of_gt (blk_lt (g := gb319) (o := .cells #[.slice Ao35 y316.length co35, .int .i64 a0_1] 24 (0, 0)) (by (with_reducible repeat (first | refine blk_drewN ?_ _ | refine blk_drew ?_ | refine blk_alloc ?_ _)); exact BK319.out)) : gb344 ≠ gb319)); have n17_ := Aside0.mk ((by rw [hg]; exact Nat.ne_of_lt (blk_lt (g := gb331) (o := .cells #[.slice Ao48 t326.length co48, .int .i64 t329] 24 (0, 0)) (by (with_reducible repeat (first | refine blk_drewN ?_ _ | refine blk_drew ?_ | refine blk_alloc ?_ _)); exact BK331.out)) : gb331 ≠ gb344)); have n18_ := Aside0.mk ((by rw [hg]; exact Nat.ne_of_gt (blk_lt (g := gb331) (o := .cells #[.slice Ao48 t326.length co48, .int .i64 t329] 24 (0, 0)) (by (with_reducible repeat (first | refine blk_drewN ?_ _ | refine blk_drew ?_ | refine blk_alloc ?_ _)); exact BK331.out)) : gb344 ≠ gb331)); have n19_ := Aside0.mk ((by rw [hg]; exact Nat.ne_of_lt (blk_lt (g := gb337) (o := .cells #[.slice Ao55 t332.length co55, .int .i64 t335] 24 (0, 0)) (by (with_reducible repeat (first | refine blk_drewN ?_ _ | refine blk_drew ?_ | refine blk_alloc ?_ _)); exact BK337.out)) : gb337 ≠ gb344)); have n20_ := Aside0.mk ((by rw [hg]; exact Nat.ne_of_gt (blk_lt (g := gb337) (o := .cells #[.slice Ao55 t332.length co55, .int .i64 t335] 24 (0, 0)) (by (with_reducible repeat (first | refine blk_drewN ?_ _ | refine blk_drew ?_ | refine blk_alloc ?_ _)); exact BK337.out)) : gb344 ≠ gb337)); clear HO318; clear HO325; clear HO328; clear HO334; clear HO340; clear BK309; clear BK319; clear BK331; clear BK337; clear HB; have HO318 := n0_; have HO325 := n1_; have HO328 := n2_; have HO334 := n3_; have HO340 := n4_; have BK309 := n5_; have BK319 := n6_; have BK331 := n7_; have BK337 := n8_; have HB := n9_; have BK344 := n10_; have GW344 := n11_; have GE344 := n12_; have NB309_344 := n13_; have NB344_309 := n14_; have NB319_344 := n15_; have NB344_319 := n16_; have NB331_344 := n17_; have NB344_331 := n18_; have NB337_344 := n19_; have NB344_337 := n20_; clear n0_ n1_ n2_ n3_ n4_ n5_ n6_ n7_ n8_ n9_ n10_ n11_ n12_ n13_ n14_ n15_ n16_ n17_ n18_ n19_ n20_; clear hb hbox hg; obtain ⟨Ao63, co63, eo63, _⟩ := Kd.Q_slice HO340.out; subst eo63; have hnb64 := NB344_309.out; have hnc64 := NB309_344.out; have hnb65 := NB344_319.out; have hnc65 := NB319_344.out; have hnb66 := NB344_331.out; have hnc66 := NB331_344.out; have hnb67 := NB344_337.out; have hnc67 := NB337_344.out; have hcz68_0 : w62.cell? ⟨gb344, 0, none⟩ = some (.slice none 0 0) := (blk_cell BK344.out 0).trans rfl; have hcz68_1 : w62.cell? ⟨gb344, 1, none⟩ = some (.int .i64 0) := (blk_cell BK344.out 1).trans rfl; have hfz68_0 := blk_frozen BK344.out 0; have hfz68_1 := blk_frozen BK344.out 1))
                  (try simp only [Act.put, List.setIfInBounds_toArray, List.set_cons_zero, List.set_cons_succ])
                  go_cut [] (fun wc => ∃ (kq : Nat) (x320000_26 : List Int) (x332000_26 : List Int) (x338000_26 : List Int) (x345000_26 : List Int) (u320000 : Value) (u332000 : Value) (u338000 : Value) (u345000 : Value), Aside0 (skiarealaw18_QueueKeeps.j1 kq a1 l0_0 a0_1 x320000_26 a0_1 x332000_26 t329 x338000_26 t335 = some r) ∧ Aside0 (kq ≤ kj5) ∧ Aside0 (Kd.Q (Kd.int .i64) 3 wc w.heap.size (fun k_ => some k_ ≠ (u332000 : Value).ownBlock ∧ some k_ ≠ (u338000 : Value).ownBlock ∧ some k_ ≠ (u345000 : Value).ownBlock) u320000 x320000_26) ∧ Aside0 (Kd.Q (Kd.int .i64) 3 wc w.heap.size (fun k_ => some k_ ≠ (u320000 : Value).ownBlock ∧ some k_ ≠ (u338000 : Value).ownBlock ∧ some k_ ≠ (u345000 : Value).ownBlock) u332000 x332000_26) ∧ Aside0 (Kd.Q (Kd.int .i64) 3 wc w.heap.size (fun k_ => some k_ ≠ (u320000 : Value).ownBlock ∧ some k_ ≠ (u332000 : Value).ownBlock ∧ some k_ ≠ (u345000 : Value).ownBlock) u338000 x338000_26) ∧ Aside0 (Kd.Q (Kd.int .i64) 3 wc w.heap.size (fun k_ => some k_ ≠ (u320000 : Value).ownBlock ∧ some k_ ≠ (u332000 : Value).ownBlock ∧ some k_ ≠ (u338000 : Value).ownBlock) u345000 x345000_26) ∧ Aside0 (wc.heap[gb309]? = some (.cells #[(.slice A0_0 l0_0.length c0_0), .int .i64 a0_1] 24 (0, 0))) ∧ Aside0 (wc.heap[gb319]? = some (.cells #[u320000, .int .i64 a0_1] 24 (0, 0))) ∧ Aside0 (wc.heap[gb331]? = some (.cells #[u332000, .int .i64 t329] 24 (0, 0))) ∧ Aside0 (wc.heap[gb337]? = some (.cells #[u338000, .int .i64 t335] 24 (0, 0))) ∧ Aside0 (wc.heap[gb344]? = some (.cells #[u345000, .int .i64 t341] 24 (0, 0))) ∧ Aside0 (Below w.heap.size w wc))
                  case first =>
                    have H := HC27.out
                    clear HC27
                    by_cases c69 : (t338.length : Int) > 0
                    · rw [if_pos c69] at H
                      have c69b0 : decide (0 < (t338.length : Int)) = true := decide_eq_true c69
                      have c69b1 : decide (0 < t338.length) = true := decide_eq_true (by omega)
                      clear c69
                      (first | rw [c69b0] | (simp only [i64_w, i32_w]; rw [c69b0]) | rw [c69b1] | skip)
                      by_cases c70 : 0 < (t338.length : Int)
                      · rw [if_pos c70] at H
                        have c70b0 : decide (0 < (t338.length : Int)) = true := decide_eq_true c70
                        have c70b1 : decide (0 < t338.length) = true := decide_eq_true (by omega)
                        clear c70
                        obtain ⟨y346, hy346⟩ : ∃ y_ : List Int, y_ = (t338.set (0 : Int).toNat (wrap64 ((rd t338 0) + 1))) := ⟨_, rfl⟩
                        replace H : (skiarealaw18_QueueKeeps.j1 kj5 a1 l0_0 a0_1 y316 a0_1 t326 t329 t332 t335) = some r := by first | (rw [hy346]; with_reducible exact H) | (have H2_ := (Option.bind_some _ _).symm.trans H; rw [hy346]; with_reducible exact H2_) | (have H2_ := (Option.bind_some _ _).symm.trans H; with_reducible exact H2_) | with_reducible exact H | (rw [hy346]; exact H) | exact H
                        have Ny346 := Aside0.mk hy346
                        clear hy346
                        have H' := Aside0.mk H
                        clear H
                        try go_wp2
                        have n0_ : Aside0 (Kd.R (Kd.int .i64) 3 ((w62.setCell ⟨gb344, 0, none⟩ (.slice Ao63 t338.length co63)).setCell ⟨gb344, 1, none⟩ (.int .i64 t341)) w.heap.size (fun k_ => some k_ ≠ (.slice Ao45 y323.length co45 : Value).ownBlock ∧ some k_ ≠ (.slice Ao48 t326.length co48 : Value).ownBlock ∧ some k_ ≠ (.slice Ao55 t332.length co55 : Value).ownBlock ∧ some k_ ≠ (.slice Ao63 t338.length co63 : Value).ownBlock) (.slice Ao35 y316.length co35) y316) := ⟨by (with_reducible repeat (first | apply Kd.R_alloc | apply Kd.R_drewN | apply Kd.R_drew)); exact Kd.R_mono (Kd.R_far (p := ⟨gb344, 1, none⟩) (Kd.R_far (p := ⟨gb344, 0, none⟩) (Kd.R_types HO318.out BK344.out (by decide)) (fun _ hk => hk.2) (.slice Ao63 t338.length co63)) (fun _ hk => hk.2) (.int .i64 t341)) (fun _ hk => ⟨hk.1.1.1.1.2, ⟨hk.1.1.1.2, ⟨hk.1.1.2, hk.1.2⟩⟩⟩)⟩
                        have n1_ : Aside0 (Kd.R (Kd.int .i64) 3 ((w62.setCell ⟨gb344, 0, none⟩ (.slice Ao63 t338.length co63)).setCell ⟨gb344, 1, none⟩ (.int .i64 t341)) w.heap.size (fun k_ => some k_ ≠ (.slice Ao35 y316.length co35 : Value).ownBlock ∧ some k_ ≠ (.slice Ao48 t326.length co48 : Value).ownBlock ∧ some k_ ≠ (.slice Ao55 t332.length co55 : Value).ownBlock ∧ some k_ ≠ (.slice Ao63 t338.length co63 : Value).ownBlock) (.slice Ao45 y323.length co45) y323) := ⟨by (with_reducible repeat (first | apply Kd.R_alloc | apply Kd.R_drewN | apply Kd.R_drew)); exact Kd.R_mono (Kd.R_far (p := ⟨gb344, 1, none⟩) (Kd.R_far (p := ⟨gb344, 0, none⟩) (Kd.R_types HO325.out BK344.out (by decide)) (fun _ hk => hk.2) (.slice Ao63 t338.length co63)) (fun _ hk => hk.2) (.int .i64 t341)) (fun _ hk => ⟨hk.1.1.1.1, ⟨hk.1.1.1.2, ⟨hk.1.1.2, hk.1.2⟩⟩⟩)⟩
                        have n2_ : Aside0 (Kd.R (Kd.int .i64) 3 ((w62.setCell ⟨gb344, 0, none⟩ (.slice Ao63 t338.length co63)).setCell ⟨gb344, 1, none⟩ (.int .i64 t341)) w.heap.size (fun k_ => some k_ ≠ (.slice Ao35 y316.length co35 : Value).ownBlock ∧ some k_ ≠ (.slice Ao45 y323.length co45 : Value).ownBlock ∧ some k_ ≠ (.slice Ao55 t332.length co55 : Value).ownBlock ∧ some k_ ≠ (.slice Ao63 t338.length co63 : Value).ownBlock) (.slice Ao48 t326.length co48) t326) := ⟨by (with_reducible repeat (first | apply Kd.R_alloc | apply Kd.R_drewN | apply Kd.R_drew)); exact Kd.R_mono (Kd.R_far (p := ⟨gb344, 1, none⟩) (Kd.R_far (p := ⟨gb344, 0, none⟩) (Kd.R_types HO328.out BK344.out (by decide)) (fun _ hk => hk.2) (.slice Ao63 t338.length co63)) (fun _ hk => hk.2) (.int .i64 t341)) (fun _ hk => ⟨hk.1.1.1.1.2, ⟨hk.1.1.1.2, ⟨hk.1.1.2, hk.1.2⟩⟩⟩)⟩
                        have n3_ : Aside0 (Kd.R (Kd.int .i64) 3 ((w62.setCell ⟨gb344, 0, none⟩ (.slice Ao63 t338.length co63)).setCell ⟨gb344, 1, none⟩ (.int .i64 t341)) w.heap.size (fun k_ => some k_ ≠ (.slice Ao35 y316.length co35 : Value).ownBlock ∧ some k_ ≠ (.slice Ao45 y323.length co45 : Value).ownBlock ∧ some k_ ≠ (.slice Ao48 t326.length co48 : Value).ownBlock ∧ some k_ ≠ (.slice Ao63 t338.length co63 : Value).ownBlock) (.slice Ao55 t332.length co55) t332) := ⟨by (with_reducible repeat (first | apply Kd.R_alloc | apply Kd.R_drewN | apply Kd.R_drew)); exact Kd.R_mono (Kd.R_far (p := ⟨gb344, 1, none⟩) (Kd.R_far (p := ⟨gb344, 0, none⟩) (Kd.R_types HO334.out BK344.out (by decide)) (fun _ hk => hk.2) (.slice Ao63 t338.length co63)) (fun _ hk => hk.2) (.int .i64 t341)) (fun _ hk => ⟨hk.1.1.1.1.2, ⟨hk.1.1.1.2, ⟨hk.1.1.2, hk.1.2⟩⟩⟩)⟩
                        have n4_ : Aside0 (Kd.Q (Kd.int .i64) 3 ((w62.setCell ⟨gb344, 0, none⟩ (.slice Ao63 t338.length co63)).setCell ⟨gb344, 1, none⟩ (.int .i64 t341)) w.heap.size (fun k_ => some k_ ≠ (.slice Ao35 y316.length co35 : Value).ownBlock ∧ some k_ ≠ (.slice Ao45 y323.length co45 : Value).ownBlock ∧ some k_ ≠ (.slice Ao48 t326.length co48 : Value).ownBlock ∧ some k_ ≠ (.slice Ao55 t332.length co55 : Value).ownBlock) (.slice Ao63 t338.length co63) t338) := ⟨by (with_reducible repeat (first | apply Kd.Q_alloc | apply Kd.Q_drewN | apply Kd.Q_drew)); exact Kd.Q_mono (Kd.Q_far (p := ⟨gb344, 1, none⟩) (Kd.Q_far (p := ⟨gb344, 0, none⟩) (Kd.Q_types HO340.out BK344.out (by decide)) (fun _ hk => hk.2) (.slice Ao63 t338.length co63)) (fun _ hk => hk.2) (.int .i64 t341)) (fun _ hk => ⟨hk.1.1.1.1.2, ⟨hk.1.1.1.2, ⟨hk.1.1.2, hk.1.2⟩⟩⟩)⟩
                        have n5_ : Aside0 (((w62.setCell ⟨gb344, 0, none⟩ (.slice Ao63 t338.length co63)).setCell ⟨gb344, 1, none⟩ (.int .i64 t341)).heap[gb309]? = some (.cells #[.slice A0_0 l0_0.length c0_0, .int .i64 a0_1] 24 (0, 0))) := ⟨by (with_reducible repeat (first | refine blk_drewN ?_ _ | refine blk_drew ?_ | refine blk_alloc ?_ _)); refine blk_far ?_ NB309_344.out _; (with_reducible repeat (first | refine blk_drewN ?_ _ | refine blk_drew ?_ | refine blk_alloc ?_ _)); refine blk_far ?_ NB309_344.out _; (with_reducible repeat (first | refine blk_drewN ?_ _ | refine blk_drew ?_ | refine blk_alloc ?_ _)); exact BK309.out⟩
                        have n6_ : Aside0 (((w62.setCell ⟨gb344, 0, none⟩ (.slice Ao63 t338.length co63)).setCell ⟨gb344, 1, none⟩ (.int .i64 t341)).heap[gb319]? = some (.cells #[.slice Ao35 y316.length co35, .int .i64 a0_1] 24 (0, 0))) := ⟨by (with_reducible repeat (first | refine blk_drewN ?_ _ | refine blk_drew ?_ | refine blk_alloc ?_ _)); refine blk_far ?_ NB319_344.out _; (with_reducible repeat (first | refine blk_drewN ?_ _ | refine blk_drew ?_ | refine blk_alloc ?_ _)); refine blk_far ?_ NB319_344.out _; (with_reducible repeat (first | refine blk_drewN ?_ _ | refine blk_drew ?_ | refine blk_alloc ?_ _)); exact BK319.out⟩
                        have n7_ : Aside0 (((w62.setCell ⟨gb344, 0, none⟩ (.slice Ao63 t338.length co63)).setCell ⟨gb344, 1, none⟩ (.int .i64 t341)).heap[gb331]? = some (.cells #[.slice Ao48 t326.length co48, .int .i64 t329] 24 (0, 0))) := ⟨by (with_reducible repeat (first | refine blk_drewN ?_ _ | refine blk_drew ?_ | refine blk_alloc ?_ _)); refine blk_far ?_ NB331_344.out _; (with_reducible repeat (first | refine blk_drewN ?_ _ | refine blk_drew ?_ | refine blk_alloc ?_ _)); refine blk_far ?_ NB331_344.out _; (with_reducible repeat (first | refine blk_drewN ?_ _ | refine blk_drew ?_ | refine blk_alloc ?_ _)); exact BK331.out⟩
                        have n8_ : Aside0 (((w62.setCell ⟨gb344, 0, none⟩ (.slice Ao63 t338.length co63)).setCell ⟨gb344, 1, none⟩ (.int .i64 t341)).heap[gb337]? = some (.cells #[.slice Ao55 t332.length co55, .int .i64 t335] 24 (0, 0))) := ⟨by (with_reducible repeat (first | refine blk_drewN ?_ _ | refine blk_drew ?_ | refine blk_alloc ?_ _)); refine blk_far ?_ NB337_344.out _; (with_reducible repeat (first | refine blk_drewN ?_ _ | refine blk_drew ?_ | refine blk_alloc ?_ _)); refine blk_far ?_ NB337_344.out _; (with_reducible repeat (first | refine blk_drewN ?_ _ | refine blk_drew ?_ | refine blk_alloc ?_ _)); exact BK337.out⟩
                        have n9_ : Aside0 (((w62.setCell ⟨gb344, 0, none⟩ (.slice Ao63 t338.length co63)).setCell ⟨gb344, 1, none⟩ (.int .i64 t341)).heap[gb344]? = some (.cells #[.slice Ao63 t338.length co63, .int .i64 t341] 24 (0, 0))) := ⟨by (with_reducible repeat (first | refine blk_drewN ?_ _ | refine blk_drew ?_ | refine blk_alloc ?_ _)); refine blk_put (cs := #[.slice Ao63 t338.length co63, .int .i64 0]) ?_ 1 _ rfl; (with_reducible repeat (first | refine blk_drewN ?_ _ | refine blk_drew ?_ | refine blk_alloc ?_ _)); refine blk_put (cs := #[.slice none 0 0, .int .i64 0]) ?_ 0 _ rfl; (with_reducible repeat (first | refine blk_drewN ?_ _ | refine blk_drew ?_ | refine blk_alloc ?_ _)); exact BK344.out⟩
                        have n10_ : Aside0 (Below w.heap.size w ((w62.setCell ⟨gb344, 0, none⟩ (.slice Ao63 t338.length co63)).setCell ⟨gb344, 1, none⟩ (.int .i64 t341))) := ⟨by repeat (first | (with_reducible first | exact HB.out | apply below_alloc | apply pw_below_drewN | apply below_drew1 | refine below_set ?_ GE309.out | refine below_set ?_ GE319.out | refine below_set ?_ GE331.out | refine below_set ?_ GE337.out | refine below_set ?_ GE344.out) | exact HB.out)⟩
                        (try clear HO318)
                        (try clear HO325)
                        (try clear HO328)
                        (try clear HO334)
                        (try clear HO340)
                        (try clear BK309)
                        (try clear BK319)
                        (try clear BK331)
                        (try clear BK337)
                        (try clear BK344)
                        (try clear HB)
                        generalize ((w62.setCell ⟨gb344, 0, none⟩ (.slice Ao63 t338.length co63)).setCell ⟨gb344, 1, none⟩ (.int .i64 t341)) = w72 at n0_ n1_ n2_ n3_ n4_ n5_ n6_ n7_ n8_ n9_ n10_ ⊢
                        have HO318 := n0_
                        have HO325 := n1_
                        have HO328 := n2_
                        have HO334 := n3_
                        have HO340 := n4_
                        have BK309 := n5_
                        have BK319 := n6_
                        have BK331 := n7_
                        have BK337 := n8_
                        have BK344 := n9_
                        have HB := n10_
                        clear n0_ n1_ n2_ n3_ n4_ n5_ n6_ n7_ n8_ n9_ n10_
                        have n0_ := Aside0.mk (Kd.R_drew HO318.out)
                        have n1_ := Aside0.mk (Kd.R_drew HO325.out)
                        have n2_ := Aside0.mk (Kd.R_drew HO328.out)
                        have n3_ := Aside0.mk (Kd.R_drew HO334.out)
                        have n4_ := Aside0.mk (Kd.Q_drew HO340.out)
                        have n5_ := Aside0.mk (blk_drew BK309.out)
                        have n6_ := Aside0.mk (blk_drew BK319.out)
                        have n7_ := Aside0.mk (blk_drew BK331.out)
                        have n8_ := Aside0.mk (blk_drew BK337.out)
                        have n9_ := Aside0.mk (blk_drew BK344.out)
                        have n10_ := Aside0.mk (below_drew1 HB.out)
                        clear HO318
                        clear HO325
                        clear HO328
                        clear HO334
                        clear HO340
                        clear BK309
                        clear BK319
                        clear BK331
                        clear BK337
                        clear BK344
                        clear HB
                        have HO318 := n0_
                        have HO325 := n1_
                        have HO328 := n2_
                        have HO334 := n3_
                        have HO340 := n4_
                        have BK309 := n5_
                        have BK319 := n6_
                        have BK331 := n7_
                        have BK337 := n8_
                        have BK344 := n9_
                        have HB := n10_
                        clear n0_ n1_ n2_ n3_ n4_ n5_ n6_ n7_ n8_ n9_ n10_
                        have p345 : 0 ≤ (0 : Int) := (by omega)
                        have q345 : 0 < (t338.length : Int) := of_decide_eq_true (by first | (with_reducible assumption) | assumption)
                        obtain ⟨ad345, e345, hx345_0⟩ := Kd.at_int (Kd.Q_reads' HO340.out).2.2 0 p345 q345
                        cases e345
                        have qi345 : (0 < t338.length) = True := eq_true (by omega)
                        (try rw [show ((0 : Int)).toNat = 0 from rfl] at hx345_0)
                        (try rw [Addr.add_zero'] at hx345_0)
                        replace p345 := eq_true p345
                        replace q345 := eq_true q345
                        have p71 : 0 ≤ (0 : Int) := (by omega)
                        have q71 : (0 : Int) < ((t338.length : Int) : Int) := of_decide_eq_true (by first | (with_reducible assumption) | assumption)
                        have qi71 : (0 < t338.length) = True := eq_true (by omega)
                        obtain ⟨go71, oo71, co71, eo71, gb71, gl71, cl71, HG71⟩ := Kd.Q_form HO340.out (by omega)
                        (first | cases eo71 | (injection eo71 with ea_ en_ ec_; (first | subst ea_ | (injection ea_ with ea_; subst ea_)); subst ec_; clear en_))
                        have GB71 := Aside0.mk gb71
                        have GG71 := Aside0.mk HG71
                        clear gb71 gl71 HG71
                        (first | simp only [add_at] at hx345_0 | skip)
                        obtain ⟨hx71_0, hf71_0⟩ := Kd.Q_cell 0 HO340.out (0 : Int) p71 q71
                        (try rw [show ((0 : Int)).toNat = 0 from rfl] at hx71_0)
                        (try simp only [Nat.reduceMul, Nat.zero_mul, Nat.zero_add, Nat.add_zero, Nat.reduceAdd] at hx71_0)
                        (try rw [show ((0 : Int)).toNat = 0 from rfl] at hf71_0)
                        (try simp only [Nat.reduceMul, Nat.zero_mul, Nat.zero_add, Nat.add_zero, Nat.reduceAdd] at hf71_0)
                        replace p71 := eq_true p71
                        replace q71 := eq_true q71
                        have HP74 := (Kd.Q_putg HO340.out (0 : Int) (by omega) (by have h_ : (0 : Int) < ((t338.length : Int) : Int) := of_decide_eq_true (by first | (with_reducible assumption) | assumption); first | exact h_ | (have e_ := (Kd.Q_reads' HO340.out).1; omega) | simpa using h_) (wrap64 ((rd t338 0) + 1))).1
                        rw [← Ny346.out] at HP74
                        have HQ74 := Aside0.mk HP74
                        clear HP74
                        refine start_ (n := 9) (S := fun w' => w'.cell? ⟨gb344, 0, none⟩ = some (.slice (some ⟨go71, oo71, none⟩) t338.length co63) ∧ w'.cell? ⟨gb344, 1, none⟩ = some (.int .i64 t341) ∧ w'.cell? ⟨go71, oo71, none⟩ = some (.int .i64 (rd t338 0))) (ds := [8]) #[false, false, false, false, false, false, false, false, false] (by kernel_rfl) rfl rfl ⟨(blk_cell BK344.out 0).trans rfl, (blk_cell BK344.out 1).trans rfl, hx345_0⟩ (fun hHeld => ?_); refine with_tabW skiarealaw18_QueueKeeps.tab12 skiarealaw18_QueueKeeps.bits12 (fun HT_ HW_ => ?_)
                        generalize w72.drew = w73 at HO318 HO325 HO328 HO334 HO340 BK309 BK319 BK331 BK337 BK344 HB GG71 HQ74 hf71_0 hx345_0 hx71_0 hHeld ⊢
                        refine pure_ (i := 0) (N := some 72) (v := ?_) (a' := ?_) #[true, false, false, false, false, false, false, false, false] rfl rfl (any_of HT_.out (by kernel_rfl)) (fun _ _ _ h => h) (Or.inl ⟨by rfl, ?_⟩) ?_ ?_
                        rotate_left
                        · intro w'
                          go_simp
                          with_reducible rfl
                        rotate_left
                        · simp only [Act.put, List.setIfInBounds_toArray, List.set_cons_zero, List.set_cons_succ, i64_w, i32_w]
                          rfl
                        refine pure_ (i := 2) (N := some 74) (v := ?_) (a' := ?_) #[true, false, true, false, false, false, false, false, false] rfl rfl (any_of HT_.out (by kernel_rfl)) (fun _ _ _ h => h) (Or.inl ⟨by rfl, ?_⟩) ?_ ?_
                        rotate_left
                        · intro w'
                          go_simp
                          with_reducible rfl
                        rotate_left
                        · simp only [Act.put, List.setIfInBounds_toArray, List.set_cons_zero, List.set_cons_succ, i64_w, i32_w]
                          rfl
                        refine take_ (i := 1) (N := some 73) (v := ?_) (a' := ?_) #[true, true, true, false, false, false, false, false, false] rfl rfl (take_ofW HT_.out HW_.out (by kernel_rfl)) (fun _ _ _ h => h) (Or.inl ⟨by rfl, ?_⟩) hHeld ?_ ?_
                        rotate_left
                        · rintro w' ⟨s0, s1, s2⟩
                          go_simp
                          with_reducible rfl
                        rotate_left
                        · simp only [Act.put, List.setIfInBounds_toArray, List.set_cons_zero, List.set_cons_succ, i64_w, i32_w]
                          rfl
                        refine take_ (i := 3) (N := some 75) (v := ?_) (a' := ?_) #[true, true, true, true, false, false, false, false, false] rfl rfl (take_ofW HT_.out HW_.out (by kernel_rfl)) (fun _ _ _ h => h) (Or.inl ⟨by rfl, ?_⟩) hHeld ?_ ?_
                        rotate_left
                        · rintro w' ⟨s0, s1, s2⟩
                          go_simp
                          with_reducible rfl
                        rotate_left
                        · simp only [Act.put, List.setIfInBounds_toArray, List.set_cons_zero, List.set_cons_succ, i64_w, i32_w]
                          rfl
                        refine pure_ (i := 4) (N := some 76) (v := ?_) (a' := ?_) #[true, true, true, true, true, false, false, false, false] rfl rfl (any_of HT_.out (by kernel_rfl)) (fun _ _ _ h => h) (Or.inl ⟨by rfl, ?_⟩) ?_ ?_
                        rotate_left
                        · intro w'
                          go_simp
                          with_reducible rfl
                        rotate_left
                        · simp only [Act.put, List.setIfInBounds_toArray, List.set_cons_zero, List.set_cons_succ, i64_w, i32_w]
                          rfl
                        refine take_ (i := 5) (N := some 77) (v := ?_) (a' := ?_) #[true, true, true, true, true, true, false, false, false] rfl rfl (take_ofW HT_.out HW_.out (by kernel_rfl)) (fun _ _ _ h => h) (Or.inl ⟨by rfl, ?_⟩) hHeld ?_ ?_
                        rotate_left
                        · rintro w' ⟨s0, s1, s2⟩
                          go_simp
                          with_reducible rfl
                        rotate_left
                        · simp only [Act.put, List.setIfInBounds_toArray, List.set_cons_zero, List.set_cons_succ, i64_w, i32_w]
                          rfl
                        refine pure_ (i := 6) (N := some 78) (v := ?_) (a' := ?_) #[true, true, true, true, true, true, true, false, false] rfl rfl (any_of HT_.out (by kernel_rfl)) (fun _ _ _ h => h) (Or.inl ⟨by rfl, ?_⟩) ?_ ?_
                        rotate_left
                        · intro w'
                          go_simp
                          with_reducible rfl
                        rotate_left
                        · simp only [Act.put, List.setIfInBounds_toArray, List.set_cons_zero, List.set_cons_succ, i64_w, i32_w]
                          rfl
                        refine pure_ (i := 7) (N := some 79) (v := ?_) (a' := ?_) #[true, true, true, true, true, true, true, true, false] rfl rfl (any_of HT_.out (by kernel_rfl)) (fun _ _ _ h => h) (Or.inl ⟨by rfl, ?_⟩) ?_ ?_
                        rotate_left
                        · intro w'
                          go_simp
                          with_reducible rfl
                        rotate_left
                        · simp only [Act.put, List.setIfInBounds_toArray, List.set_cons_zero, List.set_cons_succ, i64_w, i32_w]
                          rfl
                        refine last_ (i := 8) (N := none) #[true, true, true, true, true, true, true, true, true] rfl rfl (one_of HT_.out (by kernel_rfl)) (by decide) (fun K hK => ?_)
                        refine skip_ (w1 := ?_) (by rfl) rfl ?_ ?_
                        rotate_left
                        · go_simp
                          rfl
                        refine hK.out _ _ ?_
                        clear hK K
                        refine done_ (done_of HT_.out (by kernel_rfl)) ?_
                        try go_wp2
                        go_meet
                        case rel => exact ⟨_, (y316), (t326), (t332), (y346), (.slice Ao35 y316.length co35), (.slice Ao48 t326.length co48), (.slice Ao55 t332.length co55), (.slice (some ⟨go71, oo71, none⟩) t338.length co63), H', ⟨by have := HJ5.out; first | omega | exact Nat.le_refl _⟩, ⟨Kd.Q_of_R (by (with_reducible repeat (first | apply Kd.R_alloc | apply Kd.R_drewN | apply Kd.R_drew)); exact Kd.R_mono (Kd.R_far (p := ⟨go71, oo71, none⟩) (Kd.R_mono HO318.out (fun k_ hk => (⟨hk, fun e_ => hk.2.2.2 (by rw [e_]; rfl)⟩ : _ ∧ k_ ≠ go71))) (fun _ hk => hk.2) (.int .i64 (wrap64 ((rd t338 0) + 1)))) (fun _ hk => ⟨hk.1.2.1, ⟨hk.1.2.2.1, hk.1.2.2.2⟩⟩))⟩, ⟨Kd.Q_of_R (by (with_reducible repeat (first | apply Kd.R_alloc | apply Kd.R_drewN | apply Kd.R_drew)); exact Kd.R_mono (Kd.R_far (p := ⟨go71, oo71, none⟩) (Kd.R_mono HO328.out (fun k_ hk => (⟨hk, fun e_ => hk.2.2.2 (by rw [e_]; rfl)⟩ : _ ∧ k_ ≠ go71))) (fun _ hk => hk.2) (.int .i64 (wrap64 ((rd t338 0) + 1)))) (fun _ hk => ⟨hk.1.1, ⟨hk.1.2.2.1, hk.1.2.2.2⟩⟩))⟩, ⟨Kd.Q_of_R (by (with_reducible repeat (first | apply Kd.R_alloc | apply Kd.R_drewN | apply Kd.R_drew)); exact Kd.R_mono (Kd.R_far (p := ⟨go71, oo71, none⟩) (Kd.R_mono HO334.out (fun k_ hk => (⟨hk, fun e_ => hk.2.2.2 (by rw [e_]; rfl)⟩ : _ ∧ k_ ≠ go71))) (fun _ hk => hk.2) (.int .i64 (wrap64 ((rd t338 0) + 1)))) (fun _ hk => ⟨hk.1.1, ⟨hk.1.2.2.1, hk.1.2.2.2⟩⟩))⟩, ⟨by (with_reducible repeat (first | apply Kd.Q_alloc | apply Kd.Q_drewN | apply Kd.Q_drew)); exact Kd.Q_mono HQ74.out (fun _ hk => ⟨hk.1, ⟨hk.2.2.1, hk.2.2.2⟩⟩)⟩, ⟨by (with_reducible repeat (first | refine blk_drewN ?_ _ | refine blk_drew ?_ | refine blk_alloc ?_ _)); refine blk_far ?_ (by have h_ := Kd.Q_ne HO340.out BK309.out (by decide); intro e_; exact h_ (by rw [e_]; rfl)) _; (with_reducible repeat (first | refine blk_drewN ?_ _ | refine blk_drew ?_ | refine blk_alloc ?_ _)); exact BK309.out⟩, ⟨by (with_reducible repeat (first | refine blk_drewN ?_ _ | refine blk_drew ?_ | refine blk_alloc ?_ _)); refine blk_far ?_ (by have h_ := Kd.Q_ne HO340.out BK319.out (by decide); intro e_; exact h_ (by rw [e_]; rfl)) _; (with_reducible repeat (first | refine blk_drewN ?_ _ | refine blk_drew ?_ | refine blk_alloc ?_ _)); exact BK319.out⟩, ⟨by (with_reducible repeat (first | refine blk_drewN ?_ _ | refine blk_drew ?_ | refine blk_alloc ?_ _)); refine blk_far ?_ (by have h_ := Kd.Q_ne HO340.out BK331.out (by decide); intro e_; exact h_ (by rw [e_]; rfl)) _; (with_reducible repeat (first | refine blk_drewN ?_ _ | refine blk_drew ?_ | refine blk_alloc ?_ _)); exact BK331.out⟩, ⟨by (with_reducible repeat (first | refine blk_drewN ?_ _ | refine blk_drew ?_ | refine blk_alloc ?_ _)); refine blk_far ?_ (by have h_ := Kd.Q_ne HO340.out BK337.out (by decide); intro e_; exact h_ (by rw [e_]; rfl)) _; (with_reducible repeat (first | refine blk_drewN ?_ _ | refine blk_drew ?_ | refine blk_alloc ?_ _)); exact BK337.out⟩, ⟨by (with_reducible repeat (first | refine blk_drewN ?_ _ | refine blk_drew ?_ | refine blk_alloc ?_ _)); refine blk_far ?_ (by have h_ := Kd.Q_ne HO340.out BK344.out (by decide); intro e_; exact h_ (by rw [e_]; rfl)) _; (with_reducible repeat (first | refine blk_drewN ?_ _ | refine blk_drew ?_ | refine blk_alloc ?_ _)); exact BK344.out⟩, ⟨by repeat (first | (with_reducible first | exact HB.out | apply below_alloc | apply pw_below_drewN | apply below_drew1 | refine below_set ?_ GB71.out | refine below_set ?_ GE309.out | refine below_set ?_ GE319.out | refine below_set ?_ GE331.out | refine below_set ?_ GE337.out | refine below_set ?_ GE344.out) | exact HB.out)⟩⟩
                      · rw [if_neg c70] at H
                        exact absurd H (by simp)
                    · rw [if_neg c69] at H
                      have c69b0 : decide (0 < (t338.length : Int)) = false := decide_eq_false c69
                      have c69b1 : decide (0 < t338.length) = false := decide_eq_false (by omega)
                      clear c69
                      (first | rw [c69b0] | (simp only [i64_w, i32_w]; rw [c69b0]) | rw [c69b1] | skip)
                      have H' := Aside0.mk H
                      clear H
                      go_wp2
                      go_meet
                      case rel => exact ⟨_, (y316), (t326), (t332), (t338), (.slice Ao35 y316.length co35), (.slice Ao48 t326.length co48), (.slice Ao55 t332.length co55), (.slice Ao63 t338.length co63), H', ⟨by have := HJ5.out; first | omega | exact Nat.le_refl _⟩, ⟨Kd.Q_of_R (by (with_reducible repeat (first | apply Kd.R_alloc | apply Kd.R_drewN | apply Kd.R_drew)); exact Kd.R_mono (Kd.R_far (p := ⟨gb344, 1, none⟩) (Kd.R_far (p := ⟨gb344, 0, none⟩) (Kd.R_types HO318.out BK344.out (by decide)) (fun _ hk => hk.2) (.slice Ao63 t338.length co63)) (fun _ hk => hk.2) (.int .i64 t341)) (fun _ hk => ⟨hk.1.1.1.2, ⟨hk.1.1.2, hk.1.2⟩⟩))⟩, ⟨Kd.Q_of_R (by (with_reducible repeat (first | apply Kd.R_alloc | apply Kd.R_drewN | apply Kd.R_drew)); exact Kd.R_mono (Kd.R_far (p := ⟨gb344, 1, none⟩) (Kd.R_far (p := ⟨gb344, 0, none⟩) (Kd.R_types HO328.out BK344.out (by decide)) (fun _ hk => hk.2) (.slice Ao63 t338.length co63)) (fun _ hk => hk.2) (.int .i64 t341)) (fun _ hk => ⟨hk.1.1.1.1.2, ⟨hk.1.1.2, hk.1.2⟩⟩))⟩, ⟨Kd.Q_of_R (by (with_reducible repeat (first | apply Kd.R_alloc | apply Kd.R_drewN | apply Kd.R_drew)); exact Kd.R_mono (Kd.R_far (p := ⟨gb344, 1, none⟩) (Kd.R_far (p := ⟨gb344, 0, none⟩) (Kd.R_types HO334.out BK344.out (by decide)) (fun _ hk => hk.2) (.slice Ao63 t338.length co63)) (fun _ hk => hk.2) (.int .i64 t341)) (fun _ hk => ⟨hk.1.1.1.1.2, ⟨hk.1.1.2, hk.1.2⟩⟩))⟩, ⟨by (with_reducible repeat (first | apply Kd.Q_alloc | apply Kd.Q_drewN | apply Kd.Q_drew)); exact Kd.Q_mono (Kd.Q_far (p := ⟨gb344, 1, none⟩) (Kd.Q_far (p := ⟨gb344, 0, none⟩) (Kd.Q_types HO340.out BK344.out (by decide)) (fun _ hk => hk.2) (.slice Ao63 t338.length co63)) (fun _ hk => hk.2) (.int .i64 t341)) (fun _ hk => ⟨hk.1.1.1.1.2, ⟨hk.1.1.2, hk.1.2⟩⟩)⟩, ⟨by (with_reducible repeat (first | refine blk_drewN ?_ _ | refine blk_drew ?_ | refine blk_alloc ?_ _)); refine blk_far ?_ NB309_344.out _; (with_reducible repeat (first | refine blk_drewN ?_ _ | refine blk_drew ?_ | refine blk_alloc ?_ _)); refine blk_far ?_ NB309_344.out _; (with_reducible repeat (first | refine blk_drewN ?_ _ | refine blk_drew ?_ | refine blk_alloc ?_ _)); exact BK309.out⟩, ⟨by (with_reducible repeat (first | refine blk_drewN ?_ _ | refine blk_drew ?_ | refine blk_alloc ?_ _)); refine blk_far ?_ NB319_344.out _; (with_reducible repeat (first | refine blk_drewN ?_ _ | refine blk_drew ?_ | refine blk_alloc ?_ _)); refine blk_far ?_ NB319_344.out _; (with_reducible repeat (first | refine blk_drewN ?_ _ | refine blk_drew ?_ | refine blk_alloc ?_ _)); exact BK319.out⟩, ⟨by (with_reducible repeat (first | refine blk_drewN ?_ _ | refine blk_drew ?_ | refine blk_alloc ?_ _)); refine blk_far ?_ NB331_344.out _; (with_reducible repeat (first | refine blk_drewN ?_ _ | refine blk_drew ?_ | refine blk_alloc ?_ _)); refine blk_far ?_ NB331_344.out _; (with_reducible repeat (first | refine blk_drewN ?_ _ | refine blk_drew ?_ | refine blk_alloc ?_ _)); exact BK331.out⟩, ⟨by (with_reducible repeat (first | refine blk_drewN ?_ _ | refine blk_drew ?_ | refine blk_alloc ?_ _)); refine blk_far ?_ NB337_344.out _; (with_reducible repeat (first | refine blk_drewN ?_ _ | refine blk_drew ?_ | refine blk_alloc ?_ _)); refine blk_far ?_ NB337_344.out _; (with_reducible repeat (first | refine blk_drewN ?_ _ | refine blk_drew ?_ | refine blk_alloc ?_ _)); exact BK337.out⟩, ⟨by (with_reducible repeat (first | refine blk_drewN ?_ _ | refine blk_drew ?_ | refine blk_alloc ?_ _)); refine blk_put (cs := #[.slice Ao63 t338.length co63, .int .i64 0]) ?_ 1 _ rfl; (with_reducible repeat (first | refine blk_drewN ?_ _ | refine blk_drew ?_ | refine blk_alloc ?_ _)); refine blk_put (cs := #[.slice none 0 0, .int .i64 0]) ?_ 0 _ rfl; (with_reducible repeat (first | refine blk_drewN ?_ _ | refine blk_drew ?_ | refine blk_alloc ?_ _)); exact BK344.out⟩, ⟨by repeat (first | (with_reducible first | exact HB.out | apply below_alloc | apply pw_below_drewN | apply below_drew1 | refine below_set ?_ GE309.out | refine below_set ?_ GE319.out | refine below_set ?_ GE331.out | refine below_set ?_ GE337.out | refine below_set ?_ GE344.out) | exact HB.out)⟩⟩
                  case rest =>
                    clear HC27
                    try clear c1
                    try clear c2
                    try clear p2
                    try clear c3
                    try clear p3
                    try clear q3
                    try clear hx3
                    try clear qi3
                    try clear c4
                    try clear c5
                    try clear c6
                    try clear p6
                    try clear c7
                    try clear p7
                    try clear q7
                    try clear hx7
                    try clear qi7
                    try clear hf7
                    try clear c14
                    try clear c19
                    try clear c21
                    try clear c22
                    try clear c23
                    try clear p34
                    try clear q34
                    try clear hx34
                    try clear qi34
                    try clear c38
                    try clear c49
                    try clear c50
                    try clear c56
                    try clear c57
                    try clear c58
                    try clear c64
                    try clear p64
                    try clear c65
                    try clear c66
                    try clear c67
                    try clear c69
                    try clear c69b0
                    try clear c69b1
                    try clear c70
                    try clear c70b0
                    try clear c70b1
                    try clear p71
                    try clear q71
                    try clear hx71
                    try clear qi71
                    try clear hf71
                    try clear hcz39_0
                    try clear hcz39_1
                    try clear hcz42_0
                    try clear hcz42_1
                    try clear hcz44_0
                    try clear hcz44_1
                    try clear hcz51_0
                    try clear hcz51_1
                    try clear hcz52_0
                    try clear hcz52_1
                    try clear hcz59_0
                    try clear hcz59_1
                    try clear hcz60_0
                    try clear hcz60_1
                    try clear hcz68_0
                    try clear hcz68_1
                    try clear hfz39_0
                    try clear hfz39_1
                    try clear hfz42_0
                    try clear hfz42_1
                    try clear hfz44_0
                    try clear hfz44_1
                    try clear hfz51_0
                    try clear hfz51_1
                    try clear hfz52_0
                    try clear hfz52_1
                    try clear hfz59_0
                    try clear hfz59_1
                    try clear hfz60_0
                    try clear hfz60_1
                    try clear hfz68_0
                    try clear hfz68_1
                    try clear hx345_0
                    try clear hx71_0
                    try clear p345
                    try clear p71
                    try clear q345
                    try clear q71
                    obtain ⟨kq, x320000_26, x332000_26, x338000_26, x345000_26, u320000, u332000, u338000, u345000, HA, HJ26, HO_320000, HO_332000, HO_338000, HO_345000, BK309, BK319, BK331, BK337, BK344, HB⟩ := hcut
                    cases kq with
                    | zero => exact absurd HA.out (by simp [skiarealaw18_QueueKeeps.j1])
                    | succ kj26 =>
                      have H := HA.out
                      clear HA
                      simp only [skiarealaw18_QueueKeeps.j1] at H
                      by_cases c75 : (x338000_26.length : Int) > 0
                      · rw [if_pos c75] at H
                        have c75b0 : decide (0 < (x338000_26.length : Int)) = true := decide_eq_true c75
                        have c75b1 : decide (0 < x338000_26.length) = true := decide_eq_true (by omega)
                        clear c75
                        by_cases c76 : 0 < (x338000_26.length : Int)
                        · rw [if_pos c76] at H
                          have c76b0 : decide (0 < (x338000_26.length : Int)) = true := decide_eq_true c76
                          have c76b1 : decide (0 < x338000_26.length) = true := decide_eq_true (by omega)
                          clear c76
                          obtain ⟨y348, hy348⟩ : ∃ y_ : List Int, y_ = (x338000_26.set (0 : Int).toNat (wrap64 ((rd x338000_26 0) + 1))) := ⟨_, rfl⟩
                          replace H : ((skiarearef18_Join.f kj26 x320000_26 a0_1 a1).bind fun bt349 => ((skiarearef18_Same.f kj26 l0_0 a0_1 x320000_26 a0_1).bind fun t355 => (if t355 = true then ((skiarearef18_Same.f kj26 x332000_26 t329 bt349.1 bt349.2.1).bind fun t356 => (some t356)) else (none)))) = some r := by first | (rw [hy348]; with_reducible exact H) | (have H2_ := (Option.bind_some _ _).symm.trans H; rw [hy348]; with_reducible exact H2_) | (have H2_ := (Option.bind_some _ _).symm.trans H; with_reducible exact H2_) | with_reducible exact H | (rw [hy348]; exact H) | exact H
                          have Ny348 := Aside0.mk hy348
                          clear hy348
                          replace H := Option.bind_eq_some_iff.mp H
                          obtain ⟨⟨t349, t352, t353⟩, A780, H⟩ := H
                          replace H : ((skiarearef18_Same.f kj26 l0_0 a0_1 x320000_26 a0_1).bind fun t355 => (if t355 = true then ((skiarearef18_Same.f kj26 x332000_26 t329 t349 t352).bind fun t356 => (some t356)) else (none))) = some r := H
                          have A78 := Aside0.mk A780
                          clear A780
                          replace H := Option.bind_eq_some_iff.mp H
                          obtain ⟨t355, A790, H⟩ := H
                          replace H : (if t355 = true then ((skiarearef18_Same.f kj26 x332000_26 t329 t349 t352).bind fun t356 => (some t356)) else (none)) = some r := H
                          have A79 := Aside0.mk A790
                          clear A790
                          by_cases c80 : t355 = true
                          · subst c80
                            have H1 : ((skiarearef18_Same.f kj26 x332000_26 t329 t349 t352).bind fun t356 => (some t356)) = some r := by rw [if_pos rfl] at H; exact H
                            clear H
                            have H := H1
                            clear H1
                            replace H := Option.bind_eq_some_iff.mp H
                            obtain ⟨t356, A810, H⟩ := H
                            replace H : (some t356) = some r := H
                            have A81 := Aside0.mk A810
                            clear A810
                            obtain rfl := Option.some.inj H
                            have hnb82 := NB337_309.out
                            have hnc82 := NB309_337.out
                            have hnb83 := NB337_319.out
                            have hnc83 := NB319_337.out
                            have hnb84 := NB337_331.out
                            have hnc84 := NB331_337.out
                            have hnb85 := NB337_344.out
                            have hnc85 := NB344_337.out
                            have hcz86_0 : wc.cell? ⟨gb337, 0, none⟩ = some (u338000) := (blk_cell BK337.out 0).trans rfl
                            have hcz86_1 : wc.cell? ⟨gb337, 1, none⟩ = some (.int .i64 t335) := (blk_cell BK337.out 1).trans rfl
                            have hfz86_0 := blk_frozen BK337.out 0
                            have hfz86_1 := blk_frozen BK337.out 1
                            obtain ⟨Ao87, co87, eo87, _⟩ := Kd.Q_slice HO_338000.out
                            subst eo87
                            try go_wp2
                            have n0_ := Aside0.mk (Kd.Q_drew HO_320000.out)
                            have n1_ := Aside0.mk (Kd.Q_drew HO_332000.out)
                            have n2_ := Aside0.mk (Kd.Q_drew HO_338000.out)
                            have n3_ := Aside0.mk (Kd.Q_drew HO_345000.out)
                            have n4_ := Aside0.mk (blk_drew BK309.out)
                            have n5_ := Aside0.mk (blk_drew BK319.out)
                            have n6_ := Aside0.mk (blk_drew BK331.out)
                            have n7_ := Aside0.mk (blk_drew BK337.out)
                            have n8_ := Aside0.mk (blk_drew BK344.out)
                            have n9_ := Aside0.mk (below_drew1 HB.out)
                            clear HO_320000
                            clear HO_332000
                            clear HO_338000
                            clear HO_345000
                            clear BK309
                            clear BK319
                            clear BK331
                            clear BK337
                            clear BK344
                            clear HB
                            have HO_320000 := n0_
                            have HO_332000 := n1_
                            have HO_338000 := n2_
                            have HO_345000 := n3_
                            have BK309 := n4_
                            have BK319 := n5_
                            have BK331 := n6_
                            have BK337 := n7_
                            have BK344 := n8_
                            have HB := n9_
                            clear n0_ n1_ n2_ n3_ n4_ n5_ n6_ n7_ n8_ n9_
                            have p347 : 0 ≤ (0 : Int) := (by omega)
                            have q347 : 0 < (x338000_26.length : Int) := of_decide_eq_true (by first | (with_reducible assumption) | assumption)
                            obtain ⟨ad347, e347, hx347_0⟩ := Kd.at_int (Kd.Q_reads' HO_338000.out).2.2 0 p347 q347
                            cases e347
                            have qi347 : (0 < x338000_26.length) = True := eq_true (by omega)
                            (try rw [show ((0 : Int)).toNat = 0 from rfl] at hx347_0)
                            (try rw [Addr.add_zero'] at hx347_0)
                            replace p347 := eq_true p347
                            replace q347 := eq_true q347
                            have p77 : 0 ≤ (0 : Int) := (by omega)
                            have q77 : (0 : Int) < ((x338000_26.length : Int) : Int) := of_decide_eq_true (by first | (with_reducible assumption) | assumption)
                            have qi77 : (0 < x338000_26.length) = True := eq_true (by omega)
                            obtain ⟨go77, oo77, co77, eo77, gb77, gl77, cl77, HG77⟩ := Kd.Q_form HO_338000.out (by omega)
                            (first | cases eo77 | (injection eo77 with ea_ en_ ec_; (first | subst ea_ | (injection ea_ with ea_; subst ea_)); subst ec_; clear en_))
                            have GB77 := Aside0.mk gb77
                            have GG77 := Aside0.mk HG77
                            clear gb77 gl77 HG77
                            (first | simp only [add_at] at hx347_0 | skip)
                            obtain ⟨hx77_0, hf77_0⟩ := Kd.Q_cell 0 HO_338000.out (0 : Int) p77 q77
                            (try rw [show ((0 : Int)).toNat = 0 from rfl] at hx77_0)
                            (try simp only [Nat.reduceMul, Nat.zero_mul, Nat.zero_add, Nat.add_zero, Nat.reduceAdd] at hx77_0)
                            (try rw [show ((0 : Int)).toNat = 0 from rfl] at hf77_0)
                            (try simp only [Nat.reduceMul, Nat.zero_mul, Nat.zero_add, Nat.add_zero, Nat.reduceAdd] at hf77_0)
                            replace p77 := eq_true p77
                            replace q77 := eq_true q77
                            have HP89 := (Kd.Q_putg HO_338000.out (0 : Int) (by omega) (by have h_ : (0 : Int) < ((x338000_26.length : Int) : Int) := of_decide_eq_true (by first | (with_reducible assumption) | assumption); first | exact h_ | (have e_ := (Kd.Q_reads' HO_338000.out).1; omega) | simpa using h_) (wrap64 ((rd x338000_26 0) + 1))).1
                            rw [← Ny348.out] at HP89
                            have HQ89 := Aside0.mk HP89
                            clear HP89
                            refine start_ (n := 9) (S := fun w' => w'.cell? ⟨gb337, 0, none⟩ = some (.slice (some ⟨go77, oo77, none⟩) x338000_26.length co87) ∧ w'.cell? ⟨gb337, 1, none⟩ = some (.int .i64 t335) ∧ w'.cell? ⟨go77, oo77, none⟩ = some (.int .i64 (rd x338000_26 0))) (ds := [8]) #[false, false, false, false, false, false, false, false, false] (by kernel_rfl) rfl rfl ⟨(blk_cell BK337.out 0).trans rfl, (blk_cell BK337.out 1).trans rfl, hx347_0⟩ (fun hHeld => ?_); refine with_tabW skiarealaw18_QueueKeeps.tab14 skiarealaw18_QueueKeeps.bits14 (fun HT_ HW_ => ?_)
                            generalize wc.drew = w88 at HO_320000 HO_332000 HO_338000 HO_345000 BK309 BK319 BK331 BK337 BK344 HB GG77 HQ89 hf77_0 hx347_0 hx77_0 hHeld ⊢
                            refine pure_ (i := 0) (N := some 84) (v := ?_) (a' := ?_) #[true, false, false, false, false, false, false, false, false] rfl rfl (any_of HT_.out (by kernel_rfl)) (fun _ _ _ h => h) (Or.inl ⟨by rfl, ?_⟩) ?_ ?_
                            rotate_left
                            · intro w'
                              go_simp
                              with_reducible rfl
                            rotate_left
                            · simp only [Act.put, List.setIfInBounds_toArray, List.set_cons_zero, List.set_cons_succ, i64_w, i32_w]
                              rfl
                            refine pure_ (i := 2) (N := some 86) (v := ?_) (a' := ?_) #[true, false, true, false, false, false, false, false, false] rfl rfl (any_of HT_.out (by kernel_rfl)) (fun _ _ _ h => h) (Or.inl ⟨by rfl, ?_⟩) ?_ ?_
                            rotate_left
                            · intro w'
                              go_simp
                              with_reducible rfl
                            rotate_left
                            · simp only [Act.put, List.setIfInBounds_toArray, List.set_cons_zero, List.set_cons_succ, i64_w, i32_w]
                              rfl
                            refine take_ (i := 1) (N := some 85) (v := ?_) (a' := ?_) #[true, true, true, false, false, false, false, false, false] rfl rfl (take_ofW HT_.out HW_.out (by kernel_rfl)) (fun _ _ _ h => h) (Or.inl ⟨by rfl, ?_⟩) hHeld ?_ ?_
                            rotate_left
                            · rintro w' ⟨s0, s1, s2⟩
                              go_simp
                              with_reducible rfl
                            rotate_left
                            · simp only [Act.put, List.setIfInBounds_toArray, List.set_cons_zero, List.set_cons_succ, i64_w, i32_w]
                              rfl
                            refine take_ (i := 3) (N := some 87) (v := ?_) (a' := ?_) #[true, true, true, true, false, false, false, false, false] rfl rfl (take_ofW HT_.out HW_.out (by kernel_rfl)) (fun _ _ _ h => h) (Or.inl ⟨by rfl, ?_⟩) hHeld ?_ ?_
                            rotate_left
                            · rintro w' ⟨s0, s1, s2⟩
                              go_simp
                              with_reducible rfl
                            rotate_left
                            · simp only [Act.put, List.setIfInBounds_toArray, List.set_cons_zero, List.set_cons_succ, i64_w, i32_w]
                              rfl
                            refine pure_ (i := 4) (N := some 88) (v := ?_) (a' := ?_) #[true, true, true, true, true, false, false, false, false] rfl rfl (any_of HT_.out (by kernel_rfl)) (fun _ _ _ h => h) (Or.inl ⟨by rfl, ?_⟩) ?_ ?_
                            rotate_left
                            · intro w'
                              go_simp
                              with_reducible rfl
                            rotate_left
                            · simp only [Act.put, List.setIfInBounds_toArray, List.set_cons_zero, List.set_cons_succ, i64_w, i32_w]
                              rfl
                            refine take_ (i := 5) (N := some 89) (v := ?_) (a' := ?_) #[true, true, true, true, true, true, false, false, false] rfl rfl (take_ofW HT_.out HW_.out (by kernel_rfl)) (fun _ _ _ h => h) (Or.inl ⟨by rfl, ?_⟩) hHeld ?_ ?_
                            rotate_left
                            · rintro w' ⟨s0, s1, s2⟩
                              go_simp
                              with_reducible rfl
                            rotate_left
                            · simp only [Act.put, List.setIfInBounds_toArray, List.set_cons_zero, List.set_cons_succ, i64_w, i32_w]
                              rfl
                            refine pure_ (i := 6) (N := some 90) (v := ?_) (a' := ?_) #[true, true, true, true, true, true, true, false, false] rfl rfl (any_of HT_.out (by kernel_rfl)) (fun _ _ _ h => h) (Or.inl ⟨by rfl, ?_⟩) ?_ ?_
                            rotate_left
                            · intro w'
                              go_simp
                              with_reducible rfl
                            rotate_left
                            · simp only [Act.put, List.setIfInBounds_toArray, List.set_cons_zero, List.set_cons_succ, i64_w, i32_w]
                              rfl
                            refine pure_ (i := 7) (N := some 91) (v := ?_) (a' := ?_) #[true, true, true, true, true, true, true, true, false] rfl rfl (any_of HT_.out (by kernel_rfl)) (fun _ _ _ h => h) (Or.inl ⟨by rfl, ?_⟩) ?_ ?_
                            rotate_left
                            · intro w'
                              go_simp
                              with_reducible rfl
                            rotate_left
                            · simp only [Act.put, List.setIfInBounds_toArray, List.set_cons_zero, List.set_cons_succ, i64_w, i32_w]
                              rfl
                            refine last_ (i := 8) (N := none) #[true, true, true, true, true, true, true, true, true] rfl rfl (one_of HT_.out (by kernel_rfl)) (by decide) (fun K hK => ?_)
                            refine skip_ (w1 := ?_) (by rfl) rfl ?_ ?_
                            rotate_left
                            · go_simp
                              rfl
                            refine hK.out _ _ ?_
                            clear hK K
                            refine done_ (done_of HT_.out (by kernel_rfl)) ?_
                            have n0_ : Aside0 (Kd.Q (Kd.int .i64) 3 (w88.setCell ⟨go77, oo77, none⟩ (.int .i64 (wrap64 ((rd x338000_26 0) + 1)))) w.heap.size (fun k_ => some k_ ≠ (u332000 : Value).ownBlock ∧ some k_ ≠ (.slice (some ⟨go77, oo77, none⟩) x338000_26.length co87 : Value).ownBlock ∧ some k_ ≠ (u345000 : Value).ownBlock) u320000 x320000_26) := ⟨by (with_reducible repeat (first | apply Kd.Q_alloc | apply Kd.Q_drewN | apply Kd.Q_drew)); exact Kd.Q_mono (Kd.Q_far (p := ⟨go77, oo77, none⟩) (Kd.Q_mono HO_320000.out (fun k_ hk => (⟨hk, fun e_ => hk.2.1 (by rw [e_]; rfl)⟩ : _ ∧ k_ ≠ go77))) (fun _ hk => hk.2) (.int .i64 (wrap64 ((rd x338000_26 0) + 1)))) (fun _ hk => ⟨hk.1.1, ⟨hk.1.2.1, hk.1.2.2⟩⟩)⟩
                            have n1_ : Aside0 (Kd.Q (Kd.int .i64) 3 (w88.setCell ⟨go77, oo77, none⟩ (.int .i64 (wrap64 ((rd x338000_26 0) + 1)))) w.heap.size (fun k_ => some k_ ≠ (u320000 : Value).ownBlock ∧ some k_ ≠ (.slice (some ⟨go77, oo77, none⟩) x338000_26.length co87 : Value).ownBlock ∧ some k_ ≠ (u345000 : Value).ownBlock) u332000 x332000_26) := ⟨by (with_reducible repeat (first | apply Kd.Q_alloc | apply Kd.Q_drewN | apply Kd.Q_drew)); exact Kd.Q_mono (Kd.Q_far (p := ⟨go77, oo77, none⟩) (Kd.Q_mono HO_332000.out (fun k_ hk => (⟨hk, fun e_ => hk.2.1 (by rw [e_]; rfl)⟩ : _ ∧ k_ ≠ go77))) (fun _ hk => hk.2) (.int .i64 (wrap64 ((rd x338000_26 0) + 1)))) (fun _ hk => ⟨hk.1.1, ⟨hk.1.2.1, hk.1.2.2⟩⟩)⟩
                            have n2_ : Aside0 (Kd.Q (Kd.int .i64) 3 (w88.setCell ⟨go77, oo77, none⟩ (.int .i64 (wrap64 ((rd x338000_26 0) + 1)))) w.heap.size (fun k_ => some k_ ≠ (u320000 : Value).ownBlock ∧ some k_ ≠ (u332000 : Value).ownBlock ∧ some k_ ≠ (u345000 : Value).ownBlock) (.slice (some ⟨go77, oo77, none⟩) x338000_26.length co87) y348) := ⟨by (with_reducible repeat (first | apply Kd.Q_alloc | apply Kd.Q_drewN | apply Kd.Q_drew)); exact HQ89.out⟩
                            have n3_ : Aside0 (Kd.Q (Kd.int .i64) 3 (w88.setCell ⟨go77, oo77, none⟩ (.int .i64 (wrap64 ((rd x338000_26 0) + 1)))) w.heap.size (fun k_ => some k_ ≠ (u320000 : Value).ownBlock ∧ some k_ ≠ (u332000 : Value).ownBlock ∧ some k_ ≠ (.slice (some ⟨go77, oo77, none⟩) x338000_26.length co87 : Value).ownBlock) u345000 x345000_26) := ⟨by (with_reducible repeat (first | apply Kd.Q_alloc | apply Kd.Q_drewN | apply Kd.Q_drew)); exact Kd.Q_mono (Kd.Q_far (p := ⟨go77, oo77, none⟩) (Kd.Q_mono HO_345000.out (fun k_ hk => (⟨hk, fun e_ => hk.2.2 (by rw [e_]; rfl)⟩ : _ ∧ k_ ≠ go77))) (fun _ hk => hk.2) (.int .i64 (wrap64 ((rd x338000_26 0) + 1)))) (fun _ hk => ⟨hk.1.1, ⟨hk.1.2.1, hk.1.2.2⟩⟩)⟩
                            have n4_ : Aside0 ((w88.setCell ⟨go77, oo77, none⟩ (.int .i64 (wrap64 ((rd x338000_26 0) + 1)))).heap[gb309]? = some (.cells #[.slice A0_0 l0_0.length c0_0, .int .i64 a0_1] 24 (0, 0))) := ⟨by (with_reducible repeat (first | refine blk_drewN ?_ _ | refine blk_drew ?_ | refine blk_alloc ?_ _)); refine blk_far ?_ (by have h_ := Kd.Q_ne HO_338000.out BK309.out (by decide); intro e_; exact h_ (by rw [e_]; rfl)) _; (with_reducible repeat (first | refine blk_drewN ?_ _ | refine blk_drew ?_ | refine blk_alloc ?_ _)); exact BK309.out⟩
                            have n5_ : Aside0 ((w88.setCell ⟨go77, oo77, none⟩ (.int .i64 (wrap64 ((rd x338000_26 0) + 1)))).heap[gb319]? = some (.cells #[u320000, .int .i64 a0_1] 24 (0, 0))) := ⟨by (with_reducible repeat (first | refine blk_drewN ?_ _ | refine blk_drew ?_ | refine blk_alloc ?_ _)); refine blk_far ?_ (by have h_ := Kd.Q_ne HO_338000.out BK319.out (by decide); intro e_; exact h_ (by rw [e_]; rfl)) _; (with_reducible repeat (first | refine blk_drewN ?_ _ | refine blk_drew ?_ | refine blk_alloc ?_ _)); exact BK319.out⟩
                            have n6_ : Aside0 ((w88.setCell ⟨go77, oo77, none⟩ (.int .i64 (wrap64 ((rd x338000_26 0) + 1)))).heap[gb331]? = some (.cells #[u332000, .int .i64 t329] 24 (0, 0))) := ⟨by (with_reducible repeat (first | refine blk_drewN ?_ _ | refine blk_drew ?_ | refine blk_alloc ?_ _)); refine blk_far ?_ (by have h_ := Kd.Q_ne HO_338000.out BK331.out (by decide); intro e_; exact h_ (by rw [e_]; rfl)) _; (with_reducible repeat (first | refine blk_drewN ?_ _ | refine blk_drew ?_ | refine blk_alloc ?_ _)); exact BK331.out⟩
                            have n7_ : Aside0 ((w88.setCell ⟨go77, oo77, none⟩ (.int .i64 (wrap64 ((rd x338000_26 0) + 1)))).heap[gb337]? = some (.cells #[.slice (some ⟨go77, oo77, none⟩) x338000_26.length co87, .int .i64 t335] 24 (0, 0))) := ⟨by (with_reducible repeat (first | refine blk_drewN ?_ _ | refine blk_drew ?_ | refine blk_alloc ?_ _)); refine blk_far ?_ (by have h_ := Kd.Q_ne HO_338000.out BK337.out (by decide); intro e_; exact h_ (by rw [e_]; rfl)) _; (with_reducible repeat (first | refine blk_drewN ?_ _ | refine blk_drew ?_ | refine blk_alloc ?_ _)); exact BK337.out⟩
                            have n8_ : Aside0 ((w88.setCell ⟨go77, oo77, none⟩ (.int .i64 (wrap64 ((rd x338000_26 0) + 1)))).heap[gb344]? = some (.cells #[u345000, .int .i64 t341] 24 (0, 0))) := ⟨by (with_reducible repeat (first | refine blk_drewN ?_ _ | refine blk_drew ?_ | refine blk_alloc ?_ _)); refine blk_far ?_ (by have h_ := Kd.Q_ne HO_338000.out BK344.out (by decide); intro e_; exact h_ (by rw [e_]; rfl)) _; (with_reducible repeat (first | refine blk_drewN ?_ _ | refine blk_drew ?_ | refine blk_alloc ?_ _)); exact BK344.out⟩
                            have n9_ : Aside0 (Below w.heap.size w (w88.setCell ⟨go77, oo77, none⟩ (.int .i64 (wrap64 ((rd x338000_26 0) + 1))))) := ⟨by repeat (first | (with_reducible first | exact HB.out | apply below_alloc | apply pw_below_drewN | apply below_drew1 | refine below_set ?_ GB77.out | refine below_set ?_ GE309.out | refine below_set ?_ GE319.out | refine below_set ?_ GE331.out | refine below_set ?_ GE337.out | refine below_set ?_ GE344.out) | exact HB.out)⟩
                            (try clear HO_320000)
                            (try clear HO_332000)
                            (try clear HO_338000)
                            (try clear HO_345000)
                            (try clear BK309)
                            (try clear BK319)
                            (try clear BK331)
                            (try clear BK337)
                            (try clear BK344)
                            (try clear HB)
                            generalize (w88.setCell ⟨go77, oo77, none⟩ (.int .i64 (wrap64 ((rd x338000_26 0) + 1)))) = w90 at n0_ n1_ n2_ n3_ n4_ n5_ n6_ n7_ n8_ n9_ ⊢
                            have HO_320000 := n0_
                            have HO_332000 := n1_
                            have HO_338000 := n2_
                            have HO_345000 := n3_
                            have BK309 := n4_
                            have BK319 := n5_
                            have BK331 := n6_
                            have BK337 := n7_
                            have BK344 := n8_
                            have HB := n9_
                            clear n0_ n1_ n2_ n3_ n4_ n5_ n6_ n7_ n8_ n9_
                            have hnb91 := NB319_309.out
                            have hnc91 := NB309_319.out
                            have hnb92 := NB319_331.out
                            have hnc92 := NB331_319.out
                            have hnb93 := NB319_344.out
                            have hnc93 := NB344_319.out
                            have hcz94_0 : w90.cell? ⟨gb319, 0, none⟩ = some (u320000) := (blk_cell BK319.out 0).trans rfl
                            have hcz94_1 : w90.cell? ⟨gb319, 1, none⟩ = some (.int .i64 a0_1) := (blk_cell BK319.out 1).trans rfl
                            have hfz94_0 := blk_frozen BK319.out 0
                            have hfz94_1 := blk_frozen BK319.out 1
                            obtain ⟨Ao95, co95, eo95, _⟩ := Kd.Q_slice HO_320000.out
                            subst eo95
                            try go_wp2_with (first | ((with_reducible refine gate_callee (f := 22) rfl ?_); refine goesL_ (some 95) rfl rfl Try.func22 (by kernel_rfl) rfl #[.agg #[.slice Ao95 x320000_26.length co95, .int .i64 a0_1], .int .i64 a1] rfl (by (try simp only [List.map_toArray, List.map_cons, List.map_nil]); first | done | rfl | (simp only [List.length_drop, List.length_take]; rfl)) ?_; (with_reducible refine (skiarearef18_Join.calls kj26 _ _ x320000_26 a0_1 a1 t349 t352 t353 _ ?side1 ?side2 A78.out).mono ?_); (case side1 => repeat (first | exact (Kd.Q_reads' HO_320000.out).2.2 | (with_reducible refine Kd.C_alloc ?_ _) | (with_reducible refine Kd.C_drewN ?_ _) | (with_reducible refine Kd.C_drew ?_))); (case side2 => exact (Kd.Q_reads' HO_320000.out).2.1); rintro e w96 ⟨v350, rfl, ho0, hb⟩; refine ⟨_, rfl, ?_⟩; have n0_ := Aside0.mk (Kd.Q_elder' (by (with_reducible repeat (first | apply Kd.Q_alloc | apply Kd.Q_drewN | apply Kd.Q_drew)); exact HO_320000.out) (Kd.R_base ho0) hb); have n1_ := Aside0.mk (Kd.Q_elder' (by (with_reducible repeat (first | apply Kd.Q_alloc | apply Kd.Q_drewN | apply Kd.Q_drew)); exact HO_332000.out) (Kd.R_base ho0) hb); have n2_ := Aside0.mk (Kd.Q_elder' (by (with_reducible repeat (first | apply Kd.Q_alloc | apply Kd.Q_drewN | apply Kd.Q_drew)); exact HO_338000.out) (Kd.R_base ho0) hb); have n3_ := Aside0.mk (Kd.Q_elder' (by (with_reducible repeat (first | apply Kd.Q_alloc | apply Kd.Q_drewN | apply Kd.Q_drew)); exact HO_345000.out) (Kd.R_base ho0) hb); have n4_ := Aside0.mk (Kd.R_lower (Kd.R_new' (Kd.R_new' (Kd.R_new' (Kd.R_new' ho0 (Kd.Q_lt (by (with_reducible repeat (first | apply Kd.Q_alloc | apply Kd.Q_drewN | apply Kd.Q_drew)); exact HO_320000.out))) (Kd.Q_lt (by (with_reducible repeat (first | apply Kd.Q_alloc | apply Kd.Q_drewN | apply Kd.Q_drew)); exact HO_332000.out))) (Kd.Q_lt (by (with_reducible repeat (first | apply Kd.Q_alloc | apply Kd.Q_drewN | apply Kd.Q_drew)); exact HO_338000.out))) (Kd.Q_lt (by (with_reducible repeat (first | apply Kd.Q_alloc | apply Kd.Q_drewN | apply Kd.Q_drew)); exact HO_345000.out))) (below_size (by repeat (first | (with_reducible first | exact HB.out | apply below_alloc | apply pw_below_drewN | apply below_drew1 | refine below_set ?_ GE309.out | refine below_set ?_ GE319.out | refine below_set ?_ GE331.out | refine below_set ?_ GE337.out | refine below_set ?_ GE344.out) | exact HB.out)))); have n5_ := Aside0.mk (blk_below (g := gb309) (o := .cells #[.slice A0_0 l0_0.length c0_0, .int .i64 a0_1] 24 (0, 0)) (by (with_reducible repeat (first | refine blk_drewN ?_ _ | refine blk_drew ?_ | refine blk_alloc ?_ _)); exact BK309.out) hb); have n6_ := Aside0.mk (blk_below (g := gb319) (o := .cells #[.slice Ao95 x320000_26.length co95, .int .i64 a0_1] 24 (0, 0)) (by (with_reducible repeat (first | refine blk_drewN ?_ _ | refine blk_drew ?_ | refine blk_alloc ?_ _)); exact BK319.out) hb); have n7_ := Aside0.mk (blk_below (g := gb331) (o := .cells #[u332000, .int .i64 t329] 24 (0, 0)) (by (with_reducible repeat (first | refine blk_drewN ?_ _ | refine blk_drew ?_ | refine blk_alloc ?_ _)); exact BK331.out) hb); have n8_ := Aside0.mk (blk_below (g := gb337) (o := .cells #[.slice (some ⟨go77, oo77, none⟩) x338000_26.length co87, .int .i64 t335] 24 (0, 0)) (by (with_reducible repeat (first | refine blk_drewN ?_ _ | refine blk_drew ?_ | refine blk_alloc ?_ _)); exact BK337.out) hb); have n9_ := Aside0.mk (blk_below (g := gb344) (o := .cells #[u345000, .int .i64 t341] 24 (0, 0)) (by (with_reducible repeat (first | refine blk_drewN ?_ _ | refine blk_drew ?_ | refine blk_alloc ?_ _)); exact BK344.out) hb); have n10_ := Aside0.mk (below_step (by repeat (first | (with_reducible first | exact HB.out | apply below_alloc | apply pw_below_drewN | apply below_drew1 | refine below_set ?_ GE309.out | refine below_set ?_ GE319.out | refine below_set ?_ GE331.out | refine below_set ?_ GE337.out | refine below_set ?_ GE344.out) | exact HB.out)) hb); clear HO_320000; clear HO_332000; clear HO_338000; clear HO_345000; clear BK309; clear BK319; clear BK331; clear BK337; clear BK344; clear HB; have HO_320000 := n0_; have HO_332000 := n1_; have HO_338000 := n2_; have HO_345000 := n3_; have HO351 := n4_; have BK309 := n5_; have BK319 := n6_; have BK331 := n7_; have BK337 := n8_; have BK344 := n9_; have HB := n10_; clear n0_ n1_ n2_ n3_ n4_ n5_ n6_ n7_ n8_ n9_ n10_; (try clear hb); (try clear hb2); (try clear hk); (try clear hi); (try clear ho0)) | ((with_reducible refine gate_dst (N := 16) rfl ?_); refine box_event ?hg (N := 16) ?hd (cs := #[.slice none 0 0, .int .i64 0]) (t := 24) ?hr ?_; (case hd => rfl); (case hg => rfl); (case hr => first | (go_simp; done) | (go_simp; rfl)); intro gb354 hg w97 hbox hb; have n0_ := Aside0.mk (Kd.Q_below (by (with_reducible repeat (first | apply Kd.Q_alloc | apply Kd.Q_drewN | apply Kd.Q_drew)); exact HO_320000.out) hb); have n1_ := Aside0.mk (Kd.Q_below (by (with_reducible repeat (first | apply Kd.Q_alloc | apply Kd.Q_drewN | apply Kd.Q_drew)); exact HO_332000.out) hb); have n2_ := Aside0.mk (Kd.Q_below (by (with_reducible repeat (first | apply Kd.Q_alloc | apply Kd.Q_drewN | apply Kd.Q_drew)); exact HO_338000.out) hb); have n3_ := Aside0.mk (Kd.Q_below (by (with_reducible repeat (first | apply Kd.Q_alloc | apply Kd.Q_drewN | apply Kd.Q_drew)); exact HO_345000.out) hb); have n4_ := Aside0.mk (Kd.R_below (by (with_reducible repeat (first | apply Kd.R_alloc | apply Kd.R_drewN | apply Kd.R_drew)); exact HO351.out) hb); have n5_ := Aside0.mk (blk_below (g := gb309) (o := .cells #[.slice A0_0 l0_0.length c0_0, .int .i64 a0_1] 24 (0, 0)) (by (with_reducible repeat (first | refine blk_drewN ?_ _ | refine blk_drew ?_ | refine blk_alloc ?_ _)); exact BK309.out) hb); have n6_ := Aside0.mk (blk_below (g := gb319) (o := .cells #[.slice Ao95 x320000_26.length co95, .int .i64 a0_1] 24 (0, 0)) (by (with_reducible repeat (first | refine blk_drewN ?_ _ | refine blk_drew ?_ | refine blk_alloc ?_ _)); exact BK319.out) hb); have n7_ := Aside0.mk (blk_below (g := gb331) (o := .cells #[u332000, .int .i64 t329] 24 (0, 0)) (by (with_reducible repeat (first | refine blk_drewN ?_ _ | refine blk_drew ?_ | refine blk_alloc ?_ _)); exact BK331.out) hb); have n8_ := Aside0.mk (blk_below (g := gb337) (o := .cells #[.slice (some ⟨go77, oo77, none⟩) x338000_26.length co87, .int .i64 t335] 24 (0, 0)) (by (with_reducible repeat (first | refine blk_drewN ?_ _ | refine blk_drew ?_ | refine blk_alloc ?_ _)); exact BK337.out) hb); have n9_ := Aside0.mk (blk_below (g := gb344) (o := .cells #[u345000, .int .i64 t341] 24 (0, 0)) (by (with_reducible repeat (first | refine blk_drewN ?_ _ | refine blk_drew ?_ | refine blk_alloc ?_ _)); exact BK344.out) hb); have n10_ := Aside0.mk (below_step (by repeat (first | (with_reducible first | exact HB.out | apply below_alloc | apply pw_below_drewN | apply below_drew1 | refine below_set ?_ GE309.out | refine below_set ?_ GE319.out | refine below_set ?_ GE331.out | refine below_set ?_ GE337.out | refine below_set ?_ GE344.out) | exact HB.out)) hb); have n11_ := Aside0.mk (hbox); have n12_ := Aside0.mk ((by rw [hg]; exact (below_size (by repeat (first | (with_reducible first | exact HB.out | apply below_alloc | apply pw_below_drewN | apply below_drew1 | refine below_set ?_ GE309.out | refine below_set ?_ GE319.out | refine below_set ?_ GE331.out | refine below_set ?_ GE337.out | refine below_set ?_ GE344.out) | exact HB.out))) : w.heap.size ≤ gb354)); have n13_ := Aside0.mk ((by rw [hg]; exact (below_size (by repeat (first | (with_reducible first | exact HB.out | apply below_alloc | apply pw_below_drewN | apply below_drew1 | refine below_set ?_ GE309.out | refine below_set ?_ GE319.out | refine below_set ?_ GE331.out | refine below_set ?_ GE337.out | refine below_set ?_ GE344.out) | exact HB.out))) : w.heap.size ≤ gb354)); have n14_ := Aside0.mk ((by rw [hg]; exact Nat.ne_of_lt (blk_lt (g := gb309) (o := .cells #[.slice A0_0 l0_0.length c0_0, .int .i64 a0_1] 24 (0, 0)) (by (with_reducible repeat (first | refine blk_drewN ?_ _ | refine blk_drew ?_ | refine blk_alloc ?_ _)); exact BK309.out)) : gb309 ≠ gb354)); have n15_ := Aside0.mk ((by rw [hg]; exact Nat.ne_of_gt (blk_lt (g := gb309) (o := .cells #[.slice A0_0 l0_0.length c0_0, .int .i64 a0_1] 24 (0, 0)) (by (with_reducible repeat (first | refine blk_drewN ?_ _ | refine blk_drew ?_ | refine blk_alloc ?_ _)); exact BK309.out)) : gb354 ≠ gb309)); have n16_ := Aside0.mk ((by rw [hg]; exact Nat.ne_of_lt (blk_lt (g := gb319) (o := .cells #[.slice Ao95 x320000_26.length co95, .int .i64 a0_1] 24 (0, 0)) (by (with_reducible repeat (first | refine blk_drewN ?_ _ | refine blk_drew ?_ | refine blk_alloc ?_ _)); exact BK319.out)) : gb319 ≠ gb354)); have n17_ := Aside0.mk ((by rw [hg]; exact Nat.ne_of_gt (blk_lt (g := gb319) (o := .cells #[.slice Ao95 x320000_26.length co95, .int .i64 a0_1] 24 (0, 0)) (by (with_reducible repeat (first | refine blk_drewN ?_ _ | refine blk_drew ?_ | refine blk_alloc ?_ _)); exact BK319.out)) : gb354 ≠ gb319)); have n18_ := Aside0.mk ((by rw [hg]; exact Nat.ne_of_lt (blk_lt (g := gb331) (o := .cells #[u332000, .int .i64 t329] 24 (0, 0)) (by (with_reducible repeat (first | refine blk_drewN ?_ _ | refine blk_drew ?_ | refine blk_alloc ?_ _)); exact BK331.out)) : gb331 ≠ gb354)); have n19_ := Aside0.mk ((by rw [hg]; exact Nat.ne_of_gt (blk_lt (g := gb331) (o := .cells #[u332000, .int .i64 t329] 24 (0, 0)) (by (with_reducible repeat (first | refine blk_drewN ?_ _ | refine blk_drew ?_ | refine blk_alloc ?_ _)); exact BK331.out)) : gb354 ≠ gb331)); have n20_ := Aside0.mk ((by rw [hg]; exact Nat.ne_of_lt (blk_lt (g := gb337) (o := .cells #[.slice (some ⟨go77, oo77, none⟩) x338000_26.length co87, .int .i64 t335] 24 (0, 0)) (by (with_reducible repeat (first | refine blk_drewN ?_ _ | refine blk_drew ?_ | refine blk_alloc ?_ _)); exact BK337.out)) : gb337 ≠ gb354)); have n21_ := Aside0.mk ((by rw [hg]; exact Nat.ne_of_gt (blk_lt (g := gb337) (o := .cells #[.slice (some ⟨go77, oo77, none⟩) x338000_26.length co87, .int .i64 t335] 24 (0, 0)) (by (with_reducible repeat (first | refine blk_drewN ?_ _ | refine blk_drew ?_ | refine blk_alloc ?_ _)); exact BK337.out)) : gb354 ≠ gb337)); have n22_ := Aside0.mk ((by rw [hg]; exact Nat.ne_of_lt (blk_lt (g := gb344) (o := .cells #[u345000, .int .i64 t341] 24 (0, 0)) (by (with_reducible repeat (first | refine blk_drewN ?_ _ | refine blk_drew ?_ | refine blk_alloc ?_ _)); exact BK344.out)) : gb344 ≠ gb354)); have n23_ := Aside0.mk ((by rw [hg]; exact Nat.ne_of_gt (blk_lt (g := gb344) (o := .cells #[u345000, .int .i64 t341] 24 (0, 0)) (by (with_reducible repeat (first | refine blk_drewN ?_ _ | refine blk_drew ?_ | refine blk_alloc ?_ _)); exact BK344.out)) : gb354 ≠ gb344)); clear HO_320000; clear HO_332000; clear HO_338000; clear HO_345000; clear HO351; clear BK309; clear BK319; clear BK331; clear BK337; clear BK344; clear HB; have HO_320000 := n0_; have HO_332000 := n1_; have HO_338000 := n2_; have HO_345000 := n3_; have HO351 := n4_; have BK309 := n5_; have BK319 := n6_; have BK331 := n7_; have BK337 := n8_; have BK344 := n9_; have HB := n10_; have BK354 := n11_; have GW354 := n12_; have GE354 := n13_; have NB309_354 := n14_; have NB354_309 := n15_; have NB319_354 := n16_; have NB354_319 := n17_; have NB331_354 := n18_; have NB354_331 := n19_; have NB337_354 := n20_; have NB354_337 := n21_; have NB344_354 := n22_; have NB354_344 := n23_; clear n0_ n1_ n2_ n3_ n4_ n5_ n6_ n7_ n8_ n9_ n10_ n11_ n12_ n13_ n14_ n15_ n16_ n17_ n18_ n19_ n20_ n21_ n22_ n23_; clear hb hbox hg; obtain ⟨Ao98, co98, eo98⟩ := Kd.R_slice HO351.out; subst eo98; have hnb99 := NB354_309.out; have hnc99 := NB309_354.out; have hnb100 := NB354_319.out; have hnc100 := NB319_354.out; have hnb101 := NB354_331.out; have hnc101 := NB331_354.out; have hnb102 := NB354_337.out; have hnc102 := NB337_354.out; have hnb103 := NB354_344.out; have hnc103 := NB344_354.out; have hcz104_0 : w97.cell? ⟨gb354, 0, none⟩ = some (.slice none 0 0) := (blk_cell BK354.out 0).trans rfl; have hcz104_1 : w97.cell? ⟨gb354, 1, none⟩ = some (.int .i64 0) := (blk_cell BK354.out 1).trans rfl; have hfz104_0 := blk_frozen BK354.out 0; have hfz104_1 := blk_frozen BK354.out 1; have hnb105 := NB309_331.out; have hnc105 := NB331_309.out; have hnb106 := NB309_344.out; have hnc106 := NB344_309.out; have hcz107_0 : w97.cell? ⟨gb309, 0, none⟩ = some (.slice A0_0 l0_0.length c0_0) := (blk_cell BK309.out 0).trans rfl; have hcz107_1 : w97.cell? ⟨gb309, 1, none⟩ = some (.int .i64 a0_1) := (blk_cell BK309.out 1).trans rfl; have hfz107_0 := blk_frozen BK309.out 0; have hfz107_1 := blk_frozen BK309.out 1; have hcz108_0 : w97.cell? ⟨gb319, 0, none⟩ = some (.slice Ao95 x320000_26.length co95) := (blk_cell BK319.out 0).trans rfl; have hcz108_1 : w97.cell? ⟨gb319, 1, none⟩ = some (.int .i64 a0_1) := (blk_cell BK319.out 1).trans rfl; have hfz108_0 := blk_frozen BK319.out 0; have hfz108_1 := blk_frozen BK319.out 1) | ((with_reducible refine gate_callee (f := 16) rfl ?_); refine goesL_ (some 100) rfl rfl Try.func16 (by kernel_rfl) rfl #[.agg #[.slice A0_0 l0_0.length c0_0, .int .i64 a0_1], .agg #[.slice Ao95 x320000_26.length co95, .int .i64 a0_1]] rfl (by (try simp only [List.map_toArray, List.map_cons, List.map_nil]); first | done | rfl | (simp only [List.length_drop, List.length_take]; rfl)) ?_; (with_reducible refine (skiarearef18_Same.calls kj26 _ _ l0_0 a0_1 _ _ x320000_26 a0_1 true _ ?side1 ?side2 ?side3 ?side4 A79.out).mono ?_); (case side1 => exact Kd.C_below HR0_0.out (by repeat (first | (with_reducible first | exact HB.out | apply below_alloc | apply pw_below_drewN | apply below_drew1 | refine below_set ?_ GE309.out | refine below_set ?_ GE319.out | refine below_set ?_ GE331.out | refine below_set ?_ GE337.out | refine below_set ?_ GE344.out | refine below_set ?_ GE354.out) | exact HB.out))); (case side2 => exact HC0_0.out); (case side3 => refine (Kd.Q_reads' (e := 3) (base := w.heap.size) (ok := fun k_ => ((some k_ ≠ (u332000 : Value).ownBlock ∧ (some k_ ≠ (.slice (some ⟨go77, oo77, none⟩) x338000_26.length co87 : Value).ownBlock ∧ some k_ ≠ (u345000 : Value).ownBlock)) ∧ some k_ ≠ (.slice Ao98 t349.length co98 : Value).ownBlock)) (n := x320000_26.length) (c := co95) ?_).2.2; exact (by (with_reducible repeat (first | apply Kd.Q_alloc | apply Kd.Q_drewN | apply Kd.Q_drew)); exact (Kd.Q_mono (Kd.Q_far (p := ⟨gb354, 1, none⟩) (Kd.Q_far (p := ⟨gb354, 0, none⟩) (Kd.Q_types HO_320000.out BK354.out (by decide)) (fun _ hk => hk.2) (.slice Ao98 t349.length co98)) (fun _ hk => hk.2) (.int .i64 t352)) (fun _ h_ => h_.1)))); (case side4 => exact (Kd.Q_reads' HO_320000.out).2.1); rintro e w109 ⟨rfl, hb⟩; refine ⟨_, rfl, ?_⟩; have n0_ := Aside0.mk (Kd.Q_below (by (with_reducible repeat (first | apply Kd.Q_alloc | apply Kd.Q_drewN | apply Kd.Q_drew)); exact (Kd.Q_mono (Kd.Q_far (p := ⟨gb354, 1, none⟩) (Kd.Q_far (p := ⟨gb354, 0, none⟩) (Kd.Q_types HO_320000.out BK354.out (by decide)) (fun _ hk => hk.2) (.slice Ao98 t349.length co98)) (fun _ hk => hk.2) (.int .i64 t352)) (fun _ h_ => h_.1))) hb); have n1_ := Aside0.mk (Kd.Q_below (by (with_reducible repeat (first | apply Kd.Q_alloc | apply Kd.Q_drewN | apply Kd.Q_drew)); exact (Kd.Q_mono (Kd.Q_far (p := ⟨gb354, 1, none⟩) (Kd.Q_far (p := ⟨gb354, 0, none⟩) (Kd.Q_types HO_332000.out BK354.out (by decide)) (fun _ hk => hk.2) (.slice Ao98 t349.length co98)) (fun _ hk => hk.2) (.int .i64 t352)) (fun _ h_ => h_.1))) hb); have n2_ := Aside0.mk (Kd.Q_below (by (with_reducible repeat (first | apply Kd.Q_alloc | apply Kd.Q_drewN | apply Kd.Q_drew)); exact (Kd.Q_mono (Kd.Q_far (p := ⟨gb354, 1, none⟩) (Kd.Q_far (p := ⟨gb354, 0, none⟩) (Kd.Q_types HO_338000.out BK354.out (by decide)) (fun _ hk => hk.2) (.slice Ao98 t349.length co98)) (fun _ hk => hk.2) (.int .i64 t352)) (fun _ h_ => h_.1))) hb); have n3_ := Aside0.mk (Kd.Q_below (by (with_reducible repeat (first | apply Kd.Q_alloc | apply Kd.Q_drewN | apply Kd.Q_drew)); exact (Kd.Q_mono (Kd.Q_far (p := ⟨gb354, 1, none⟩) (Kd.Q_far (p := ⟨gb354, 0, none⟩) (Kd.Q_types HO_345000.out BK354.out (by decide)) (fun _ hk => hk.2) (.slice Ao98 t349.length co98)) (fun _ hk => hk.2) (.int .i64 t352)) (fun _ h_ => h_.1))) hb); have n4_ := Aside0.mk (Kd.R_below (by (with_reducible repeat (first | apply Kd.R_alloc | apply Kd.R_drewN | apply Kd.R_drew)); exact (Kd.R_mono (Kd.R_far (p := ⟨gb354, 1, none⟩) (Kd.R_far (p := ⟨gb354, 0, none⟩) (Kd.R_types HO351.out BK354.out (by decide)) (fun _ hk => hk.2) (.slice Ao98 t349.length co98)) (fun _ hk => hk.2) (.int .i64 t352)) (fun _ h_ => h_.1))) hb); have n5_ := Aside0.mk (blk_below (g := gb309) (o := .cells #[.slice A0_0 l0_0.length c0_0, .int .i64 a0_1] 24 (0, 0)) (by (with_reducible repeat (first | refine blk_drewN ?_ _ | refine blk_drew ?_ | refine blk_alloc ?_ _)); refine blk_far ?_ NB309_354.out _; (with_reducible repeat (first | refine blk_drewN ?_ _ | refine blk_drew ?_ | refine blk_alloc ?_ _)); refine blk_far ?_ NB309_354.out _; (with_reducible repeat (first | refine blk_drewN ?_ _ | refine blk_drew ?_ | refine blk_alloc ?_ _)); exact BK309.out) hb); have n6_ := Aside0.mk (blk_below (g := gb319) (o := .cells #[.slice Ao95 x320000_26.length co95, .int .i64 a0_1] 24 (0, 0)) (by (with_reducible repeat (first | refine blk_drewN ?_ _ | refine blk_drew ?_ | refine blk_alloc ?_ _)); refine blk_far ?_ NB319_354.out _; (with_reducible repeat (first | refine blk_drewN ?_ _ | refine blk_drew ?_ | refine blk_alloc ?_ _)); refine blk_far ?_ NB319_354.out _; (with_reducible repeat (first | refine blk_drewN ?_ _ | refine blk_drew ?_ | refine blk_alloc ?_ _)); exact BK319.out) hb); have n7_ := Aside0.mk (blk_below (g := gb331) (o := .cells #[u332000, .int .i64 t329] 24 (0, 0)) (by (with_reducible repeat (first | refine blk_drewN ?_ _ | refine blk_drew ?_ | refine blk_alloc ?_ _)); refine blk_far ?_ NB331_354.out _; (with_reducible repeat (first | refine blk_drewN ?_ _ | refine blk_drew ?_ | refine blk_alloc ?_ _)); refine blk_far ?_ NB331_354.out _; (with_reducible repeat (first | refine blk_drewN ?_ _ | refine blk_drew ?_ | refine blk_alloc ?_ _)); exact BK331.out) hb); have n8_ := Aside0.mk (blk_below (g := gb337) (o := .cells #[.slice (some ⟨go77, oo77, none⟩) x338000_26.length co87, .int .i64 t335] 24 (0, 0)) (by (with_reducible repeat (first | refine blk_drewN ?_ _ | refine blk_drew ?_ | refine blk_alloc ?_ _)); refine blk_far ?_ NB337_354.out _; (with_reducible repeat (first | refine blk_drewN ?_ _ | refine blk_drew ?_ | refine blk_alloc ?_ _)); refine blk_far ?_ NB337_354.out _; (with_reducible repeat (first | refine blk_drewN ?_ _ | refine blk_drew ?_ | refine blk_alloc ?_ _)); exact BK337.out) hb); have n9_ := Aside0.mk (blk_below (g := gb344) (o := .cells #[u345000, .int .i64 t341] 24 (0, 0)) (by (with_reducible repeat (first | refine blk_drewN ?_ _ | refine blk_drew ?_ | refine blk_alloc ?_ _)); refine blk_far ?_ NB344_354.out _; (with_reducible repeat (first | refine blk_drewN ?_ _ | refine blk_drew ?_ | refine blk_alloc ?_ _)); refine blk_far ?_ NB344_354.out _; (with_reducible repeat (first | refine blk_drewN ?_ _ | refine blk_drew ?_ | refine blk_alloc ?_ _)); exact BK344.out) hb); have n10_ := Aside0.mk (blk_below (g := gb354) (o := .cells #[.slice Ao98 t349.length co98, .int .i64 t352] 24 (0, 0)) (by (with_reducible repeat (first | refine blk_drewN ?_ _ | refine blk_drew ?_ | refine blk_alloc ?_ _)); refine blk_put (cs := #[.slice Ao98 t349.length co98, .int .i64 0]) ?_ 1 _ rfl; (with_reducible repeat (first | refine blk_drewN ?_ _ | refine blk_drew ?_ | refine blk_alloc ?_ _)); refine blk_put (cs := #[.slice none 0 0, .int .i64 0]) ?_ 0 _ rfl; (with_reducible repeat (first | refine blk_drewN ?_ _ | refine blk_drew ?_ | refine blk_alloc ?_ _)); exact BK354.out) hb); have n11_ := Aside0.mk (below_step (by repeat (first | (with_reducible first | exact HB.out | apply below_alloc | apply pw_below_drewN | apply below_drew1 | refine below_set ?_ GE309.out | refine below_set ?_ GE319.out | refine below_set ?_ GE331.out | refine below_set ?_ GE337.out | refine below_set ?_ GE344.out | refine below_set ?_ GE354.out) | exact HB.out)) hb); clear HO_320000; clear HO_332000; clear HO_338000; clear HO_345000; clear HO351; clear BK309; clear BK319; clear BK331; clear BK337; clear BK344; clear BK354; clear HB; have HO_320000 := n0_; have HO_332000 := n1_; have HO_338000 := n2_; have HO_345000 := n3_; have HO351 := n4_; have BK309 := n5_; have BK319 := n6_; have BK331 := n7_; have BK337 := n8_; have BK344 := n9_; have BK354 := n10_; have HB := n11_; clear n0_ n1_ n2_ n3_ n4_ n5_ n6_ n7_ n8_ n9_ n10_ n11_; (try clear hb); (try clear hb2); (try clear hk); (try clear hi); have hnb110 := NB331_344.out; have hnc110 := NB344_331.out; have hcz111_0 : w109.cell? ⟨gb331, 0, none⟩ = some (u332000) := (blk_cell BK331.out 0).trans rfl; have hcz111_1 : w109.cell? ⟨gb331, 1, none⟩ = some (.int .i64 t329) := (blk_cell BK331.out 1).trans rfl; have hfz111_0 := blk_frozen BK331.out 0; have hfz111_1 := blk_frozen BK331.out 1; have hcz112_0 : w109.cell? ⟨gb354, 0, none⟩ = some (.slice Ao98 t349.length co98) := (blk_cell BK354.out 0).trans rfl; have hcz112_1 : w109.cell? ⟨gb354, 1, none⟩ = some (.int .i64 t352) := (blk_cell BK354.out 1).trans rfl; have hfz112_0 := blk_frozen BK354.out 0; have hfz112_1 := blk_frozen BK354.out 1; obtain ⟨Ao113, co113, eo113, _⟩ := Kd.Q_slice HO_332000.out; subst eo113) | (go_at_call 16; (with_reducible refine (skiarearef18_Same.calls kj26 _ _ x332000_26 t329 _ _ t349 t352 t356 _ ?side1 ?side2 ?side3 ?side4 A81.out).mono ?_); (case side1 => repeat (first | exact (Kd.Q_reads' HO_332000.out).2.2 | (with_reducible refine Kd.C_alloc ?_ _) | (with_reducible refine Kd.C_drewN ?_ _) | (with_reducible refine Kd.C_drew ?_))); (case side2 => exact (Kd.Q_reads' HO_332000.out).2.1); (case side3 => repeat (first | exact (Kd.R_reads' HO351.out).2.2 | (with_reducible refine Kd.C_alloc ?_ _) | (with_reducible refine Kd.C_drewN ?_ _) | (with_reducible refine Kd.C_drew ?_))); (case side4 => exact (Kd.R_reads' HO351.out).2.1); rintro e w114 ⟨rfl, hb⟩; have n0_ := Aside0.mk (Kd.Q_below (by (with_reducible repeat (first | apply Kd.Q_alloc | apply Kd.Q_drewN | apply Kd.Q_drew)); exact HO_320000.out) hb); have n1_ := Aside0.mk (Kd.Q_below (by (with_reducible repeat (first | apply Kd.Q_alloc | apply Kd.Q_drewN | apply Kd.Q_drew)); exact HO_332000.out) hb); have n2_ := Aside0.mk (Kd.Q_below (by (with_reducible repeat (first | apply Kd.Q_alloc | apply Kd.Q_drewN | apply Kd.Q_drew)); exact HO_338000.out) hb); have n3_ := Aside0.mk (Kd.Q_below (by (with_reducible repeat (first | apply Kd.Q_alloc | apply Kd.Q_drewN | apply Kd.Q_drew)); exact HO_345000.out) hb); have n4_ := Aside0.mk (Kd.R_below (by (with_reducible repeat (first | apply Kd.R_alloc | apply Kd.R_drewN | apply Kd.R_drew)); exact HO351.out) hb); have n5_ := Aside0.mk (blk_below (g := gb309) (o := .cells #[.slice A0_0 l0_0.length c0_0, .int .i64 a0_1] 24 (0, 0)) (by (with_reducible repeat (first | refine blk_drewN ?_ _ | refine blk_drew ?_ | refine blk_alloc ?_ _)); exact BK309.out) hb); have n6_ := Aside0.mk (blk_below (g := gb319) (o := .cells #[.slice Ao95 x320000_26.length co95, .int .i64 a0_1] 24 (0, 0)) (by (with_reducible repeat (first | refine blk_drewN ?_ _ | refine blk_drew ?_ | refine blk_alloc ?_ _)); exact BK319.out) hb); have n7_ := Aside0.mk (blk_below (g := gb331) (o := .cells #[.slice Ao113 x332000_26.length co113, .int .i64 t329] 24 (0, 0)) (by (with_reducible repeat (first | refine blk_drewN ?_ _ | refine blk_drew ?_ | refine blk_alloc ?_ _)); exact BK331.out) hb); have n8_ := Aside0.mk (blk_below (g := gb337) (o := .cells #[.slice (some ⟨go77, oo77, none⟩) x338000_26.length co87, .int .i64 t335] 24 (0, 0)) (by (with_reducible repeat (first | refine blk_drewN ?_ _ | refine blk_drew ?_ | refine blk_alloc ?_ _)); exact BK337.out) hb); have n9_ := Aside0.mk (blk_below (g := gb344) (o := .cells #[u345000, .int .i64 t341] 24 (0, 0)) (by (with_reducible repeat (first | refine blk_drewN ?_ _ | refine blk_drew ?_ | refine blk_alloc ?_ _)); exact BK344.out) hb); have n10_ := Aside0.mk (blk_below (g := gb354) (o := .cells #[.slice Ao98 t349.length co98, .int .i64 t352] 24 (0, 0)) (by (with_reducible repeat (first | refine blk_drewN ?_ _ | refine blk_drew ?_ | refine blk_alloc ?_ _)); exact BK354.out) hb); have n11_ := Aside0.mk (below_step (by repeat (first | (with_reducible first | exact HB.out | apply below_alloc | apply pw_below_drewN | apply below_drew1 | refine below_set ?_ GE309.out | refine below_set ?_ GE319.out | refine below_set ?_ GE331.out | refine below_set ?_ GE337.out | refine below_set ?_ GE344.out | refine below_set ?_ GE354.out) | exact HB.out)) hb); clear HO_320000; clear HO_332000; clear HO_338000; clear HO_345000; clear HO351; clear BK309; clear BK319; clear BK331; clear BK337; clear BK344; clear BK354; clear HB; have HO_320000 := n0_; have HO_332000 := n1_; have HO_338000 := n2_; have HO_345000 := n3_; have HO351 := n4_; have BK309 := n5_; have BK319 := n6_; have BK331 := n7_; have BK337 := n8_; have BK344 := n9_; have BK354 := n10_; have HB := n11_; clear n0_ n1_ n2_ n3_ n4_ n5_ n6_ n7_ n8_ n9_ n10_ n11_; (try clear hb); (try clear hb2); (try clear hk); (try clear hi)))
                            go_ret
                            exact ⟨by first | rfl | (simp [errW_none, errW_some] <;> rfl) | (simp only [← hji20]; first | rfl | (simp [errW_none, errW_some] <;> rfl)) | (simp [*, errW_none, errW_some] <;> rfl), by repeat (first | (with_reducible first | exact HB.out | apply below_alloc | apply pw_below_drewN | apply below_drew1 | refine below_set ?_ GE309.out | refine below_set ?_ GE319.out | refine below_set ?_ GE331.out | refine below_set ?_ GE337.out | refine below_set ?_ GE344.out | refine below_set ?_ GE354.out) | exact HB.out)⟩
                          · replace c80 := Bool.eq_false_iff.mpr c80
                            subst c80
                            have H1 : (none) = some r := by rw [if_neg (show ¬ (false = true) by decide)] at H; exact H
                            clear H
                            have H := H1
                            clear H1
                            exact absurd H (by simp)
                        · rw [if_neg c76] at H
                          exact absurd H (by simp)
                      · rw [if_neg c75] at H
                        have c75b0 : decide (0 < (x338000_26.length : Int)) = false := decide_eq_false c75
                        have c75b1 : decide (0 < x338000_26.length) = false := decide_eq_false (by omega)
                        clear c75
                        replace H := Option.bind_eq_some_iff.mp H
                        obtain ⟨⟨t357, t360, t361⟩, A1150, H⟩ := H
                        replace H : ((skiarearef18_Same.f kj26 l0_0 a0_1 x320000_26 a0_1).bind fun t363 => (if t363 = true then ((skiarearef18_Same.f kj26 x332000_26 t329 t357 t360).bind fun t364 => (some t364)) else (none))) = some r := H
                        have A115 := Aside0.mk A1150
                        clear A1150
                        replace H := Option.bind_eq_some_iff.mp H
                        obtain ⟨t363, A1160, H⟩ := H
                        replace H : (if t363 = true then ((skiarearef18_Same.f kj26 x332000_26 t329 t357 t360).bind fun t364 => (some t364)) else (none)) = some r := H
                        have A116 := Aside0.mk A1160
                        clear A1160
                        by_cases c117 : t363 = true
                        · subst c117
                          have H1 : ((skiarearef18_Same.f kj26 x332000_26 t329 t357 t360).bind fun t364 => (some t364)) = some r := by rw [if_pos rfl] at H; exact H
                          clear H
                          have H := H1
                          clear H1
                          replace H := Option.bind_eq_some_iff.mp H
                          obtain ⟨t364, A1180, H⟩ := H
                          replace H : (some t364) = some r := H
                          have A118 := Aside0.mk A1180
                          clear A1180
                          obtain rfl := Option.some.inj H
                          have hnb119 := NB337_309.out
                          have hnc119 := NB309_337.out
                          have hnb120 := NB337_319.out
                          have hnc120 := NB319_337.out
                          have hnb121 := NB337_331.out
                          have hnc121 := NB331_337.out
                          have hnb122 := NB337_344.out
                          have hnc122 := NB344_337.out
                          have hcz123_0 : wc.cell? ⟨gb337, 0, none⟩ = some (u338000) := (blk_cell BK337.out 0).trans rfl
                          have hcz123_1 : wc.cell? ⟨gb337, 1, none⟩ = some (.int .i64 t335) := (blk_cell BK337.out 1).trans rfl
                          have hfz123_0 := blk_frozen BK337.out 0
                          have hfz123_1 := blk_frozen BK337.out 1
                          obtain ⟨Ao124, co124, eo124, _⟩ := Kd.Q_slice HO_338000.out
                          subst eo124
                          have hnb125 := NB319_309.out
                          have hnc125 := NB309_319.out
                          have hnb126 := NB319_331.out
                          have hnc126 := NB331_319.out
                          have hnb127 := NB319_344.out
                          have hnc127 := NB344_319.out
                          have hcz128_0 : wc.cell? ⟨gb319, 0, none⟩ = some (u320000) := (blk_cell BK319.out 0).trans rfl
                          have hcz128_1 : wc.cell? ⟨gb319, 1, none⟩ = some (.int .i64 a0_1) := (blk_cell BK319.out 1).trans rfl
                          have hfz128_0 := blk_frozen BK319.out 0
                          have hfz128_1 := blk_frozen BK319.out 1
                          obtain ⟨Ao129, co129, eo129, _⟩ := Kd.Q_slice HO_320000.out
                          subst eo129
                          go_wp2_with (first | ((with_reducible refine gate_callee (f := 22) rfl ?_); refine goesL_ (some 95) rfl rfl Try.func22 (by kernel_rfl) rfl #[.agg #[.slice Ao129 x320000_26.length co129, .int .i64 a0_1], .int .i64 a1] rfl (by (try simp only [List.map_toArray, List.map_cons, List.map_nil]); first | done | rfl | (simp only [List.length_drop, List.length_take]; rfl)) ?_; (with_reducible refine (skiarearef18_Join.calls kj26 _ _ x320000_26 a0_1 a1 t357 t360 t361 _ ?side1 ?side2 A115.out).mono ?_); (case side1 => repeat (first | exact (Kd.Q_reads' HO_320000.out).2.2 | (with_reducible refine Kd.C_alloc ?_ _) | (with_reducible refine Kd.C_drewN ?_ _) | (with_reducible refine Kd.C_drew ?_))); (case side2 => exact (Kd.Q_reads' HO_320000.out).2.1); rintro e w130 ⟨v358, rfl, ho0, hb⟩; refine ⟨_, rfl, ?_⟩; have n0_ := Aside0.mk (Kd.Q_elder' (by (with_reducible repeat (first | apply Kd.Q_alloc | apply Kd.Q_drewN | apply Kd.Q_drew)); exact HO_320000.out) (Kd.R_base ho0) hb); have n1_ := Aside0.mk (Kd.Q_elder' (by (with_reducible repeat (first | apply Kd.Q_alloc | apply Kd.Q_drewN | apply Kd.Q_drew)); exact HO_332000.out) (Kd.R_base ho0) hb); have n2_ := Aside0.mk (Kd.Q_elder' (by (with_reducible repeat (first | apply Kd.Q_alloc | apply Kd.Q_drewN | apply Kd.Q_drew)); exact HO_338000.out) (Kd.R_base ho0) hb); have n3_ := Aside0.mk (Kd.Q_elder' (by (with_reducible repeat (first | apply Kd.Q_alloc | apply Kd.Q_drewN | apply Kd.Q_drew)); exact HO_345000.out) (Kd.R_base ho0) hb); have n4_ := Aside0.mk (Kd.R_lower (Kd.R_new' (Kd.R_new' (Kd.R_new' (Kd.R_new' ho0 (Kd.Q_lt (by (with_reducible repeat (first | apply Kd.Q_alloc | apply Kd.Q_drewN | apply Kd.Q_drew)); exact HO_320000.out))) (Kd.Q_lt (by (with_reducible repeat (first | apply Kd.Q_alloc | apply Kd.Q_drewN | apply Kd.Q_drew)); exact HO_332000.out))) (Kd.Q_lt (by (with_reducible repeat (first | apply Kd.Q_alloc | apply Kd.Q_drewN | apply Kd.Q_drew)); exact HO_338000.out))) (Kd.Q_lt (by (with_reducible repeat (first | apply Kd.Q_alloc | apply Kd.Q_drewN | apply Kd.Q_drew)); exact HO_345000.out))) (below_size (by repeat (first | (with_reducible first | exact HB.out | apply below_alloc | apply pw_below_drewN | apply below_drew1 | refine below_set ?_ GE309.out | refine below_set ?_ GE319.out | refine below_set ?_ GE331.out | refine below_set ?_ GE337.out | refine below_set ?_ GE344.out) | exact HB.out)))); have n5_ := Aside0.mk (blk_below (g := gb309) (o := .cells #[.slice A0_0 l0_0.length c0_0, .int .i64 a0_1] 24 (0, 0)) (by (with_reducible repeat (first | refine blk_drewN ?_ _ | refine blk_drew ?_ | refine blk_alloc ?_ _)); exact BK309.out) hb); have n6_ := Aside0.mk (blk_below (g := gb319) (o := .cells #[.slice Ao129 x320000_26.length co129, .int .i64 a0_1] 24 (0, 0)) (by (with_reducible repeat (first | refine blk_drewN ?_ _ | refine blk_drew ?_ | refine blk_alloc ?_ _)); exact BK319.out) hb); have n7_ := Aside0.mk (blk_below (g := gb331) (o := .cells #[u332000, .int .i64 t329] 24 (0, 0)) (by (with_reducible repeat (first | refine blk_drewN ?_ _ | refine blk_drew ?_ | refine blk_alloc ?_ _)); exact BK331.out) hb); have n8_ := Aside0.mk (blk_below (g := gb337) (o := .cells #[.slice Ao124 x338000_26.length co124, .int .i64 t335] 24 (0, 0)) (by (with_reducible repeat (first | refine blk_drewN ?_ _ | refine blk_drew ?_ | refine blk_alloc ?_ _)); exact BK337.out) hb); have n9_ := Aside0.mk (blk_below (g := gb344) (o := .cells #[u345000, .int .i64 t341] 24 (0, 0)) (by (with_reducible repeat (first | refine blk_drewN ?_ _ | refine blk_drew ?_ | refine blk_alloc ?_ _)); exact BK344.out) hb); have n10_ := Aside0.mk (below_step (by repeat (first | (with_reducible first | exact HB.out | apply below_alloc | apply pw_below_drewN | apply below_drew1 | refine below_set ?_ GE309.out | refine below_set ?_ GE319.out | refine below_set ?_ GE331.out | refine below_set ?_ GE337.out | refine below_set ?_ GE344.out) | exact HB.out)) hb); clear HO_320000; clear HO_332000; clear HO_338000; clear HO_345000; clear BK309; clear BK319; clear BK331; clear BK337; clear BK344; clear HB; have HO_320000 := n0_; have HO_332000 := n1_; have HO_338000 := n2_; have HO_345000 := n3_; have HO359 := n4_; have BK309 := n5_; have BK319 := n6_; have BK331 := n7_; have BK337 := n8_; have BK344 := n9_; have HB := n10_; clear n0_ n1_ n2_ n3_ n4_ n5_ n6_ n7_ n8_ n9_ n10_; (try clear hb); (try clear hb2); (try clear hk); (try clear hi); (try clear ho0)) | ((with_reducible refine gate_dst (N := 16) rfl ?_); refine box_event ?hg (N := 16) ?hd (cs := #[.slice none 0 0, .int .i64 0]) (t := 24) ?hr ?_; (case hd => rfl); (case hg => rfl); (case hr => first | (go_simp; done) | (go_simp; rfl)); intro gb362 hg w131 hbox hb; have n0_ := Aside0.mk (Kd.Q_below (by (with_reducible repeat (first | apply Kd.Q_alloc | apply Kd.Q_drewN | apply Kd.Q_drew)); exact HO_320000.out) hb); have n1_ := Aside0.mk (Kd.Q_below (by (with_reducible repeat (first | apply Kd.Q_alloc | apply Kd.Q_drewN | apply Kd.Q_drew)); exact HO_332000.out) hb); have n2_ := Aside0.mk (Kd.Q_below (by (with_reducible repeat (first | apply Kd.Q_alloc | apply Kd.Q_drewN | apply Kd.Q_drew)); exact HO_338000.out) hb); have n3_ := Aside0.mk (Kd.Q_below (by (with_reducible repeat (first | apply Kd.Q_alloc | apply Kd.Q_drewN | apply Kd.Q_drew)); exact HO_345000.out) hb); have n4_ := Aside0.mk (Kd.R_below (by (with_reducible repeat (first | apply Kd.R_alloc | apply Kd.R_drewN | apply Kd.R_drew)); exact HO359.out) hb); have n5_ := Aside0.mk (blk_below (g := gb309) (o := .cells #[.slice A0_0 l0_0.length c0_0, .int .i64 a0_1] 24 (0, 0)) (by (with_reducible repeat (first | refine blk_drewN ?_ _ | refine blk_drew ?_ | refine blk_alloc ?_ _)); exact BK309.out) hb); have n6_ := Aside0.mk (blk_below (g := gb319) (o := .cells #[.slice Ao129 x320000_26.length co129, .int .i64 a0_1] 24 (0, 0)) (by (with_reducible repeat (first | refine blk_drewN ?_ _ | refine blk_drew ?_ | refine blk_alloc ?_ _)); exact BK319.out) hb); have n7_ := Aside0.mk (blk_below (g := gb331) (o := .cells #[u332000, .int .i64 t329] 24 (0, 0)) (by (with_reducible repeat (first | refine blk_drewN ?_ _ | refine blk_drew ?_ | refine blk_alloc ?_ _)); exact BK331.out) hb); have n8_ := Aside0.mk (blk_below (g := gb337) (o := .cells #[.slice Ao124 x338000_26.length co124, .int .i64 t335] 24 (0, 0)) (by (with_reducible repeat (first | refine blk_drewN ?_ _ | refine blk_drew ?_ | refine blk_alloc ?_ _)); exact BK337.out) hb); have n9_ := Aside0.mk (blk_below (g := gb344) (o := .cells #[u345000, .int .i64 t341] 24 (0, 0)) (by (with_reducible repeat (first | refine blk_drewN ?_ _ | refine blk_drew ?_ | refine blk_alloc ?_ _)); exact BK344.out) hb); have n10_ := Aside0.mk (below_step (by repeat (first | (with_reducible first | exact HB.out | apply below_alloc | apply pw_below_drewN | apply below_drew1 | refine below_set ?_ GE309.out | refine below_set ?_ GE319.out | refine below_set ?_ GE331.out | refine below_set ?_ GE337.out | refine below_set ?_ GE344.out) | exact HB.out)) hb); have n11_ := Aside0.mk (hbox); have n12_ := Aside0.mk ((by rw [hg]; exact (below_size (by repeat (first | (with_reducible first | exact HB.out | apply below_alloc | apply pw_below_drewN | apply below_drew1 | refine below_set ?_ GE309.out | refine below_set ?_ GE319.out | refine below_set ?_ GE331.out | refine below_set ?_ GE337.out | refine below_set ?_ GE344.out) | exact HB.out))) : w.heap.size ≤ gb362)); have n13_ := Aside0.mk ((by rw [hg]; exact (below_size (by repeat (first | (with_reducible first | exact HB.out | apply below_alloc | apply pw_below_drewN | apply below_drew1 | refine below_set ?_ GE309.out | refine below_set ?_ GE319.out | refine below_set ?_ GE331.out | refine below_set ?_ GE337.out | refine below_set ?_ GE344.out) | exact HB.out))) : w.heap.size ≤ gb362)); have n14_ := Aside0.mk ((by rw [hg]; exact Nat.ne_of_lt (blk_lt (g := gb309) (o := .cells #[.slice A0_0 l0_0.length c0_0, .int .i64 a0_1] 24 (0, 0)) (by (with_reducible repeat (first | refine blk_drewN ?_ _ | refine blk_drew ?_ | refine blk_alloc ?_ _)); exact BK309.out)) : gb309 ≠ gb362)); have n15_ := Aside0.mk ((by rw [hg]; exact Nat.ne_of_gt (blk_lt (g := gb309) (o := .cells #[.slice A0_0 l0_0.length c0_0, .int .i64 a0_1] 24 (0, 0)) (by (with_reducible repeat (first | refine blk_drewN ?_ _ | refine blk_drew ?_ | refine blk_alloc ?_ _)); exact BK309.out)) : gb362 ≠ gb309)); have n16_ := Aside0.mk ((by rw [hg]; exact Nat.ne_of_lt (blk_lt (g := gb319) (o := .cells #[.slice Ao129 x320000_26.length co129, .int .i64 a0_1] 24 (0, 0)) (by (with_reducible repeat (first | refine blk_drewN ?_ _ | refine blk_drew ?_ | refine blk_alloc ?_ _)); exact BK319.out)) : gb319 ≠ gb362)); have n17_ := Aside0.mk ((by rw [hg]; exact Nat.ne_of_gt (blk_lt (g := gb319) (o := .cells #[.slice Ao129 x320000_26.length co129, .int .i64 a0_1] 24 (0, 0)) (by (with_reducible repeat (first | refine blk_drewN ?_ _ | refine blk_drew ?_ | refine blk_alloc ?_ _)); exact BK319.out)) : gb362 ≠ gb319)); have n18_ := Aside0.mk ((by rw [hg]; exact Nat.ne_of_lt (blk_lt (g := gb331) (o := .cells #[u332000, .int .i64 t329] 24 (0, 0)) (by (with_reducible repeat (first | refine blk_drewN ?_ _ | refine blk_drew ?_ | refine blk_alloc ?_ _)); exact BK331.out)) : gb331 ≠ gb362)); have n19_ := Aside0.mk ((by rw [hg]; exact Nat.ne_of_gt (blk_lt (g := gb331) (o := .cells #[u332000, .int .i64 t329] 24 (0, 0)) (by (with_reducible repeat (first | refine blk_drewN ?_ _ | refine blk_drew ?_ | refine blk_alloc ?_ _)); exact BK331.out)) : gb362 ≠ gb331)); have n20_ := Aside0.mk ((by rw [hg]; exact Nat.ne_of_lt (blk_lt (g := gb337) (o := .cells #[.slice Ao124 x338000_26.length co124, .int .i64 t335] 24 (0, 0)) (by (with_reducible repeat (first | refine blk_drewN ?_ _ | refine blk_drew ?_ | refine blk_alloc ?_ _)); exact BK337.out)) : gb337 ≠ gb362)); have n21_ := Aside0.mk ((by rw [hg]; exact Nat.ne_of_gt (blk_lt (g := gb337) (o := .cells #[.slice Ao124 x338000_26.length co124, .int .i64 t335] 24 (0, 0)) (by (with_reducible repeat (first | refine blk_drewN ?_ _ | refine blk_drew ?_ | refine blk_alloc ?_ _)); exact BK337.out)) : gb362 ≠ gb337)); have n22_ := Aside0.mk ((by rw [hg]; exact Nat.ne_of_lt (blk_lt (g := gb344) (o := .cells #[u345000, .int .i64 t341] 24 (0, 0)) (by (with_reducible repeat (first | refine blk_drewN ?_ _ | refine blk_drew ?_ | refine blk_alloc ?_ _)); exact BK344.out)) : gb344 ≠ gb362)); have n23_ := Aside0.mk ((by rw [hg]; exact Nat.ne_of_gt (blk_lt (g := gb344) (o := .cells #[u345000, .int .i64 t341] 24 (0, 0)) (by (with_reducible repeat (first | refine blk_drewN ?_ _ | refine blk_drew ?_ | refine blk_alloc ?_ _)); exact BK344.out)) : gb362 ≠ gb344)); clear HO_320000; clear HO_332000; clear HO_338000; clear HO_345000; clear HO359; clear BK309; clear BK319; clear BK331; clear BK337; clear BK344; clear HB; have HO_320000 := n0_; have HO_332000 := n1_; have HO_338000 := n2_; have HO_345000 := n3_; have HO359 := n4_; have BK309 := n5_; have BK319 := n6_; have BK331 := n7_; have BK337 := n8_; have BK344 := n9_; have HB := n10_; have BK362 := n11_; have GW362 := n12_; have GE362 := n13_; have NB309_362 := n14_; have NB362_309 := n15_; have NB319_362 := n16_; have NB362_319 := n17_; have NB331_362 := n18_; have NB362_331 := n19_; have NB337_362 := n20_; have NB362_337 := n21_; have NB344_362 := n22_; have NB362_344 := n23_; clear n0_ n1_ n2_ n3_ n4_ n5_ n6_ n7_ n8_ n9_ n10_ n11_ n12_ n13_ n14_ n15_ n16_ n17_ n18_ n19_ n20_ n21_ n22_ n23_; clear hb hbox hg; obtain ⟨Ao132, co132, eo132⟩ := Kd.R_slice HO359.out; subst eo132; have hnb133 := NB362_309.out; have hnc133 := NB309_362.out; have hnb134 := NB362_319.out; have hnc134 := NB319_362.out; have hnb135 := NB362_331.out; have hnc135 := NB331_362.out; have hnb136 := NB362_337.out; have hnc136 := NB337_362.out; have hnb137 := NB362_344.out; have hnc137 := NB344_362.out; have hcz138_0 : w131.cell? ⟨gb362, 0, none⟩ = some (.slice none 0 0) := (blk_cell BK362.out 0).trans rfl; have hcz138_1 : w131.cell? ⟨gb362, 1, none⟩ = some (.int .i64 0) := (blk_cell BK362.out 1).trans rfl; have hfz138_0 := blk_frozen BK362.out 0; have hfz138_1 := blk_frozen BK362.out 1; have hnb139 := NB309_331.out; have hnc139 := NB331_309.out; have hnb140 := NB309_344.out; have hnc140 := NB344_309.out; have hcz141_0 : w131.cell? ⟨gb309, 0, none⟩ = some (.slice A0_0 l0_0.length c0_0) := (blk_cell BK309.out 0).trans rfl; have hcz141_1 : w131.cell? ⟨gb309, 1, none⟩ = some (.int .i64 a0_1) := (blk_cell BK309.out 1).trans rfl; have hfz141_0 := blk_frozen BK309.out 0; have hfz141_1 := blk_frozen BK309.out 1; have hcz142_0 : w131.cell? ⟨gb319, 0, none⟩ = some (.slice Ao129 x320000_26.length co129) := (blk_cell BK319.out 0).trans rfl; have hcz142_1 : w131.cell? ⟨gb319, 1, none⟩ = some (.int .i64 a0_1) := (blk_cell BK319.out 1).trans rfl; have hfz142_0 := blk_frozen BK319.out 0; have hfz142_1 := blk_frozen BK319.out 1) | ((with_reducible refine gate_callee (f := 16) rfl ?_); refine goesL_ (some 100) rfl rfl Try.func16 (by kernel_rfl) rfl #[.agg #[.slice A0_0 l0_0.length c0_0, .int .i64 a0_1], .agg #[.slice Ao129 x320000_26.length co129, .int .i64 a0_1]] rfl (by (try simp only [List.map_toArray, List.map_cons, List.map_nil]); first | done | rfl | (simp only [List.length_drop, List.length_take]; rfl)) ?_; (with_reducible refine (skiarearef18_Same.calls kj26 _ _ l0_0 a0_1 _ _ x320000_26 a0_1 true _ ?side1 ?side2 ?side3 ?side4 A116.out).mono ?_); (case side1 => exact Kd.C_below HR0_0.out (by repeat (first | (with_reducible first | exact HB.out | apply below_alloc | apply pw_below_drewN | apply below_drew1 | refine below_set ?_ GE309.out | refine below_set ?_ GE319.out | refine below_set ?_ GE331.out | refine below_set ?_ GE337.out | refine below_set ?_ GE344.out | refine below_set ?_ GE362.out) | exact HB.out))); (case side2 => exact HC0_0.out); (case side3 => refine (Kd.Q_reads' (e := 3) (base := w.heap.size) (ok := fun k_ => ((some k_ ≠ (u332000 : Value).ownBlock ∧ (some k_ ≠ (.slice Ao124 x338000_26.length co124 : Value).ownBlock ∧ some k_ ≠ (u345000 : Value).ownBlock)) ∧ some k_ ≠ (.slice Ao132 t357.length co132 : Value).ownBlock)) (n := x320000_26.length) (c := co129) ?_).2.2; exact (by (with_reducible repeat (first | apply Kd.Q_alloc | apply Kd.Q_drewN | apply Kd.Q_drew)); exact (Kd.Q_mono (Kd.Q_far (p := ⟨gb362, 1, none⟩) (Kd.Q_far (p := ⟨gb362, 0, none⟩) (Kd.Q_types HO_320000.out BK362.out (by decide)) (fun _ hk => hk.2) (.slice Ao132 t357.length co132)) (fun _ hk => hk.2) (.int .i64 t360)) (fun _ h_ => h_.1)))); (case side4 => exact (Kd.Q_reads' HO_320000.out).2.1); rintro e w143 ⟨rfl, hb⟩; refine ⟨_, rfl, ?_⟩; have n0_ := Aside0.mk (Kd.Q_below (by (with_reducible repeat (first | apply Kd.Q_alloc | apply Kd.Q_drewN | apply Kd.Q_drew)); exact (Kd.Q_mono (Kd.Q_far (p := ⟨gb362, 1, none⟩) (Kd.Q_far (p := ⟨gb362, 0, none⟩) (Kd.Q_types HO_320000.out BK362.out (by decide)) (fun _ hk => hk.2) (.slice Ao132 t357.length co132)) (fun _ hk => hk.2) (.int .i64 t360)) (fun _ h_ => h_.1))) hb); have n1_ := Aside0.mk (Kd.Q_below (by (with_reducible repeat (first | apply Kd.Q_alloc | apply Kd.Q_drewN | apply Kd.Q_drew)); exact (Kd.Q_mono (Kd.Q_far (p := ⟨gb362, 1, none⟩) (Kd.Q_far (p := ⟨gb362, 0, none⟩) (Kd.Q_types HO_332000.out BK362.out (by decide)) (fun _ hk => hk.2) (.slice Ao132 t357.length co132)) (fun _ hk => hk.2) (.int .i64 t360)) (fun _ h_ => h_.1))) hb); have n2_ := Aside0.mk (Kd.Q_below (by (with_reducible repeat (first | apply Kd.Q_alloc | apply Kd.Q_drewN | apply Kd.Q_drew)); exact (Kd.Q_mono (Kd.Q_far (p := ⟨gb362, 1, none⟩) (Kd.Q_far (p := ⟨gb362, 0, none⟩) (Kd.Q_types HO_338000.out BK362.out (by decide)) (fun _ hk => hk.2) (.slice Ao132 t357.length co132)) (fun _ hk => hk.2) (.int .i64 t360)) (fun _ h_ => h_.1))) hb); have n3_ := Aside0.mk (Kd.Q_below (by (with_reducible repeat (first | apply Kd.Q_alloc | apply Kd.Q_drewN | apply Kd.Q_drew)); exact (Kd.Q_mono (Kd.Q_far (p := ⟨gb362, 1, none⟩) (Kd.Q_far (p := ⟨gb362, 0, none⟩) (Kd.Q_types HO_345000.out BK362.out (by decide)) (fun _ hk => hk.2) (.slice Ao132 t357.length co132)) (fun _ hk => hk.2) (.int .i64 t360)) (fun _ h_ => h_.1))) hb); have n4_ := Aside0.mk (Kd.R_below (by (with_reducible repeat (first | apply Kd.R_alloc | apply Kd.R_drewN | apply Kd.R_drew)); exact (Kd.R_mono (Kd.R_far (p := ⟨gb362, 1, none⟩) (Kd.R_far (p := ⟨gb362, 0, none⟩) (Kd.R_types HO359.out BK362.out (by decide)) (fun _ hk => hk.2) (.slice Ao132 t357.length co132)) (fun _ hk => hk.2) (.int .i64 t360)) (fun _ h_ => h_.1))) hb); have n5_ := Aside0.mk (blk_below (g := gb309) (o := .cells #[.slice A0_0 l0_0.length c0_0, .int .i64 a0_1] 24 (0, 0)) (by (with_reducible repeat (first | refine blk_drewN ?_ _ | refine blk_drew ?_ | refine blk_alloc ?_ _)); refine blk_far ?_ NB309_362.out _; (with_reducible repeat (first | refine blk_drewN ?_ _ | refine blk_drew ?_ | refine blk_alloc ?_ _)); refine blk_far ?_ NB309_362.out _; (with_reducible repeat (first | refine blk_drewN ?_ _ | refine blk_drew ?_ | refine blk_alloc ?_ _)); exact BK309.out) hb); have n6_ := Aside0.mk (blk_below (g := gb319) (o := .cells #[.slice Ao129 x320000_26.length co129, .int .i64 a0_1] 24 (0, 0)) (by (with_reducible repeat (first | refine blk_drewN ?_ _ | refine blk_drew ?_ | refine blk_alloc ?_ _)); refine blk_far ?_ NB319_362.out _; (with_reducible repeat (first | refine blk_drewN ?_ _ | refine blk_drew ?_ | refine blk_alloc ?_ _)); refine blk_far ?_ NB319_362.out _; (with_reducible repeat (first | refine blk_drewN ?_ _ | refine blk_drew ?_ | refine blk_alloc ?_ _)); exact BK319.out) hb); have n7_ := Aside0.mk (blk_below (g := gb331) (o := .cells #[u332000, .int .i64 t329] 24 (0, 0)) (by (with_reducible repeat (first | refine blk_drewN ?_ _ | refine blk_drew ?_ | refine blk_alloc ?_ _)); refine blk_far ?_ NB331_362.out _; (with_reducible repeat (first | refine blk_drewN ?_ _ | refine blk_drew ?_ | refine blk_alloc ?_ _)); refine blk_far ?_ NB331_362.out _; (with_reducible repeat (first | refine blk_drewN ?_ _ | refine blk_drew ?_ | refine blk_alloc ?_ _)); exact BK331.out) hb); have n8_ := Aside0.mk (blk_below (g := gb337) (o := .cells #[.slice Ao124 x338000_26.length co124, .int .i64 t335] 24 (0, 0)) (by (with_reducible repeat (first | refine blk_drewN ?_ _ | refine blk_drew ?_ | refine blk_alloc ?_ _)); refine blk_far ?_ NB337_362.out _; (with_reducible repeat (first | refine blk_drewN ?_ _ | refine blk_drew ?_ | refine blk_alloc ?_ _)); refine blk_far ?_ NB337_362.out _; (with_reducible repeat (first | refine blk_drewN ?_ _ | refine blk_drew ?_ | refine blk_alloc ?_ _)); exact BK337.out) hb); have n9_ := Aside0.mk (blk_below (g := gb344) (o := .cells #[u345000, .int .i64 t341] 24 (0, 0)) (by (with_reducible repeat (first | refine blk_drewN ?_ _ | refine blk_drew ?_ | refine blk_alloc ?_ _)); refine blk_far ?_ NB344_362.out _; (with_reducible repeat (first | refine blk_drewN ?_ _ | refine blk_drew ?_ | refine blk_alloc ?_ _)); refine blk_far ?_ NB344_362.out _; (with_reducible repeat (first | refine blk_drewN ?_ _ | refine blk_drew ?_ | refine blk_alloc ?_ _)); exact BK344.out) hb); have n10_ := Aside0.mk (blk_below (g := gb362) (o := .cells #[.slice Ao132 t357.length co132, .int .i64 t360] 24 (0, 0)) (by (with_reducible repeat (first | refine blk_drewN ?_ _ | refine blk_drew ?_ | refine blk_alloc ?_ _)); refine blk_put (cs := #[.slice Ao132 t357.length co132, .int .i64 0]) ?_ 1 _ rfl; (with_reducible repeat (first | refine blk_drewN ?_ _ | refine blk_drew ?_ | refine blk_alloc ?_ _)); refine blk_put (cs := #[.slice none 0 0, .int .i64 0]) ?_ 0 _ rfl; (with_reducible repeat (first | refine blk_drewN ?_ _ | refine blk_drew ?_ | refine blk_alloc ?_ _)); exact BK362.out) hb); have n11_ := Aside0.mk (below_step (by repeat (first | (with_reducible first | exact HB.out | apply below_alloc | apply pw_below_drewN | apply below_drew1 | refine below_set ?_ GE309.out | refine below_set ?_ GE319.out | refine below_set ?_ GE331.out | refine below_set ?_ GE337.out | refine below_set ?_ GE344.out | refine below_set ?_ GE362.out) | exact HB.out)) hb); clear HO_320000; clear HO_332000; clear HO_338000; clear HO_345000; clear HO359; clear BK309; clear BK319; clear BK331; clear BK337; clear BK344; clear BK362; clear HB; have HO_320000 := n0_; have HO_332000 := n1_; have HO_338000 := n2_; have HO_345000 := n3_; have HO359 := n4_; have BK309 := n5_; have BK319 := n6_; have BK331 := n7_; have BK337 := n8_; have BK344 := n9_; have BK362 := n10_; have HB := n11_; clear n0_ n1_ n2_ n3_ n4_ n5_ n6_ n7_ n8_ n9_ n10_ n11_; (try clear hb); (try clear hb2); (try clear hk); (try clear hi); have hnb144 := NB331_344.out; have hnc144 := NB344_331.out; have hcz145_0 : w143.cell? ⟨gb331, 0, none⟩ = some (u332000) := (blk_cell BK331.out 0).trans rfl; have hcz145_1 : w143.cell? ⟨gb331, 1, none⟩ = some (.int .i64 t329) := (blk_cell BK331.out 1).trans rfl; have hfz145_0 := blk_frozen BK331.out 0; have hfz145_1 := blk_frozen BK331.out 1; have hcz146_0 : w143.cell? ⟨gb362, 0, none⟩ = some (.slice Ao132 t357.length co132) := (blk_cell BK362.out 0).trans rfl; have hcz146_1 : w143.cell? ⟨gb362, 1, none⟩ = some (.int .i64 t360) := (blk_cell BK362.out 1).trans rfl; have hfz146_0 := blk_frozen BK362.out 0; have hfz146_1 := blk_frozen BK362.out 1; obtain ⟨Ao147, co147, eo147, _⟩ := Kd.Q_slice HO_332000.out; subst eo147) | (go_at_call 16; (with_reducible refine (skiarearef18_Same.calls kj26 _ _ x332000_26 t329 _ _ t357 t360 t364 _ ?side1 ?side2 ?side3 ?side4 A118.out).mono ?_); (case side1 => repeat (first | exact (Kd.Q_reads' HO_332000.out).2.2 | (with_reducible refine Kd.C_alloc ?_ _) | (with_reducible refine Kd.C_drewN ?_ _) | (with_reducible refine Kd.C_drew ?_))); (case side2 => exact (Kd.Q_reads' HO_332000.out).2.1); (case side3 => repeat (first | exact (Kd.R_reads' HO359.out).2.2 | (with_reducible refine Kd.C_alloc ?_ _) | (with_reducible refine Kd.C_drewN ?_ _) | (with_reducible refine Kd.C_drew ?_))); (case side4 => exact (Kd.R_reads' HO359.out).2.1); rintro e w148 ⟨rfl, hb⟩; have n0_ := Aside0.mk (Kd.Q_below (by (with_reducible repeat (first | apply Kd.Q_alloc | apply Kd.Q_drewN | apply Kd.Q_drew)); exact HO_320000.out) hb); have n1_ := Aside0.mk (Kd.Q_below (by (with_reducible repeat (first | apply Kd.Q_alloc | apply Kd.Q_drewN | apply Kd.Q_drew)); exact HO_332000.out) hb); have n2_ := Aside0.mk (Kd.Q_below (by (with_reducible repeat (first | apply Kd.Q_alloc | apply Kd.Q_drewN | apply Kd.Q_drew)); exact HO_338000.out) hb); have n3_ := Aside0.mk (Kd.Q_below (by (with_reducible repeat (first | apply Kd.Q_alloc | apply Kd.Q_drewN | apply Kd.Q_drew)); exact HO_345000.out) hb); have n4_ := Aside0.mk (Kd.R_below (by (with_reducible repeat (first | apply Kd.R_alloc | apply Kd.R_drewN | apply Kd.R_drew)); exact HO359.out) hb); have n5_ := Aside0.mk (blk_below (g := gb309) (o := .cells #[.slice A0_0 l0_0.length c0_0, .int .i64 a0_1] 24 (0, 0)) (by (with_reducible repeat (first | refine blk_drewN ?_ _ | refine blk_drew ?_ | refine blk_alloc ?_ _)); exact BK309.out) hb); have n6_ := Aside0.mk (blk_below (g := gb319) (o := .cells #[.slice Ao129 x320000_26.length co129, .int .i64 a0_1] 24 (0, 0)) (by (with_reducible repeat (first | refine blk_drewN ?_ _ | refine blk_drew ?_ | refine blk_alloc ?_ _)); exact BK319.out) hb); have n7_ := Aside0.mk (blk_below (g := gb331) (o := .cells #[.slice Ao147 x332000_26.length co147, .int .i64 t329] 24 (0, 0)) (by (with_reducible repeat (first | refine blk_drewN ?_ _ | refine blk_drew ?_ | refine blk_alloc ?_ _)); exact BK331.out) hb); have n8_ := Aside0.mk (blk_below (g := gb337) (o := .cells #[.slice Ao124 x338000_26.length co124, .int .i64 t335] 24 (0, 0)) (by (with_reducible repeat (first | refine blk_drewN ?_ _ | refine blk_drew ?_ | refine blk_alloc ?_ _)); exact BK337.out) hb); have n9_ := Aside0.mk (blk_below (g := gb344) (o := .cells #[u345000, .int .i64 t341] 24 (0, 0)) (by (with_reducible repeat (first | refine blk_drewN ?_ _ | refine blk_drew ?_ | refine blk_alloc ?_ _)); exact BK344.out) hb); have n10_ := Aside0.mk (blk_below (g := gb362) (o := .cells #[.slice Ao132 t357.length co132, .int .i64 t360] 24 (0, 0)) (by (with_reducible repeat (first | refine blk_drewN ?_ _ | refine blk_drew ?_ | refine blk_alloc ?_ _)); exact BK362.out) hb); have n11_ := Aside0.mk (below_step (by repeat (first | (with_reducible first | exact HB.out | apply below_alloc | apply pw_below_drewN | apply below_drew1 | refine below_set ?_ GE309.out | refine below_set ?_ GE319.out | refine below_set ?_ GE331.out | refine below_set ?_ GE337.out | refine below_set ?_ GE344.out | refine below_set ?_ GE362.out) | exact HB.out)) hb); clear HO_320000; clear HO_332000; clear HO_338000; clear HO_345000; clear HO359; clear BK309; clear BK319; clear BK331; clear BK337; clear BK344; clear BK362; clear HB; have HO_320000 := n0_; have HO_332000 := n1_; have HO_338000 := n2_; have HO_345000 := n3_; have HO359 := n4_; have BK309 := n5_; have BK319 := n6_; have BK331 := n7_; have BK337 := n8_; have BK344 := n9_; have BK362 := n10_; have HB := n11_; clear n0_ n1_ n2_ n3_ n4_ n5_ n6_ n7_ n8_ n9_ n10_ n11_; (try clear hb); (try clear hb2); (try clear hk); (try clear hi)))
                          go_ret
                          exact ⟨by first | rfl | (simp [errW_none, errW_some] <;> rfl) | (simp only [← hji20]; first | rfl | (simp [errW_none, errW_some] <;> rfl)) | (simp [*, errW_none, errW_some] <;> rfl), by repeat (first | (with_reducible first | exact HB.out | apply below_alloc | apply pw_below_drewN | apply below_drew1 | refine below_set ?_ GE309.out | refine below_set ?_ GE319.out | refine below_set ?_ GE331.out | refine below_set ?_ GE337.out | refine below_set ?_ GE344.out | refine below_set ?_ GE362.out) | exact HB.out)⟩
                        · replace c117 := Bool.eq_false_iff.mpr c117
                          subst c117
                          have H1 : (none) = some r := by rw [if_neg (show ¬ (false = true) by decide)] at H; exact H
                          clear H
                          have H := H1
                          clear H1
                          exact absurd H (by simp)
                · rw [if_neg c23] at H
                  exact absurd H (by simp)
              · rw [if_neg c22] at H
                exact absurd H (by simp)
            · rw [if_neg c21] at H
              exact absurd H (by simp)
          · rw [if_neg c19] at H
            exact absurd H (by simp)
  · replace c5 := Bool.eq_false_iff.mpr c5
    subst c5
    have H1 : (none) = some r := by rw [if_neg (show ¬ (false = true) by decide)] at H; exact H
    clear H
    have H := H1
    clear H1
    exact absurd H (by simp)

end Go.Proofs.Ytkpljfckfljddaa.PQ
