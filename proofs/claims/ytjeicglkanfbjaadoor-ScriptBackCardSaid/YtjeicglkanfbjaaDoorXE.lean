/- A parameter of type []api.Event, laid open: for each event a number and a list of numbers. -/
import Derived.Test.YtjeicglkanfbjaaDoorRows
import Derived.Test.YtjeicglkanfbjaaDoorPUx0
import Derived.Deep.SlicePairs
import Derived.Lib.SmallJoins
import Derived.ProofKit
import Derived.OpenShut
namespace Go.Proofs.YtjeicglkanfbjaaDoor.R
open Go.RowKit Go.Proofs.YtjeicglkanfbjaaDoorW.PrintWords Go.ChangeShapes Go.WideShapes Go.ChangeAt Go.Deep
open Go.Proofs.YtjeicglkanfbjaaDoor.PU (S39 k39 k39_mk)
theorem cells39 : Tryd.prog.cellsOf 39 = 2 := by kernel_rfl
theorem cells3e : Tryd.prog.cellsOf 3 = 1 := by kernel_rfl
theorem cells29 : Tryd.prog.cellsOf 29 = 1 := by kernel_rfl
set_option maxRecDepth 100000 in
theorem open_events {H : Type} {enc : TypeId × Value → H} {W : World} {r : Reach} {b0 : Nat} {v : Value} {d : DataW H} {p : List MemPlace}
    (hv : Value.okWide Tryd.prog W r b0 23 v) (h : DataW.Trod enc Tryd.prog W 0 (fun _ => true) true 23 v d p) :
    ∃ (A : Option Addr) (c : Nat) (l : List S39), v = .slice A l.length c ∧ Kd.C k39 W A l.length l ∧ l.length ≤ c := by
  obtain ⟨a, len, cap, rfl⟩ := okWide_slice Tryd.underlying23 hv
  obtain ⟨fuel, hf⟩ := h
  rcases open_slice_pairs Tryd.underlying23 Tryd.underlying39 cells39 rfl rfl cells3e cells29 hf with ⟨hc, _⟩ | ⟨x, len', cap', m, k, V0, V1, D0, D1, P0, P1, hc, _, hl, hm, hmm, _, hall⟩
  · have hc : [Value.slice a len cap] = [.slice none 0 0] := hc
    simp only [List.cons.injEq, Value.slice.injEq, and_true] at hc
    obtain ⟨rfl, rfl, rfl⟩ := hc
    exact ⟨none, 0, [], rfl, Kd.C_nil _ _, Nat.le_refl _⟩
  · have hc : [Value.slice a len cap] = [.slice (some x) len' cap'] := hc
    simp only [List.cons.injEq, Value.slice.injEq, and_true] at hc
    obtain ⟨rfl, rfl, rfl⟩ := hc
    have hm' : len ≤ m := by rw [hmm]; simpa using hl
    have each : ∀ i, i < len → ∃ e : S39, ∃ A1 c1, V0 i = .int .i64 e.f0 ∧ V1 i = .slice A1 e.f1.length c1 ∧ e.f1.length ≤ c1 ∧ Kd.C (Kd.int .i64) W A1 e.f1.length e.f1 := by
      intro i hi
      obtain ⟨_, _, t0, t1⟩ := hall i (by omega)
      obtain ⟨n, e0, _, _⟩ := DataW.trod_int Tryd.underlying3 t0
      simp only [List.cons.injEq, and_true] at e0
      rcases open_ints Tryd.underlying29 Tryd.underlying3 cells3e t1 with ⟨e2, _⟩ | ⟨y, ln, cp, zs, e2, _, hl2, hm2, hz, _, hcell, hwz⟩
      · simp only [List.cons.injEq, and_true] at e2
        exact ⟨⟨n, []⟩, none, 0, e0, e2, Nat.le_refl _, Kd.C_nil _ _⟩
      · simp only [List.cons.injEq, and_true] at e2
        obtain ⟨l, el, h1, h2, h3, h4⟩ := ReadsInt.ofRowC (k := .i64) (w := W) (a := some y) (len := ln) (cap := cp) (zs := zs) (.inr ⟨y, rfl, hl2, hm2, by simpa using hz, hcell, hwz⟩)
        subst el
        exact ⟨⟨n, l⟩, some y, cp, e0, e2, h4, Kd.C_of_reads (d := (0 : Int)) (h1 := fun _ => rfl) h1⟩
    obtain ⟨q, hq⟩ : ∃ q : Nat → S39, ∀ i, i < len → ∃ A1 c1, V0 i = .int .i64 (q i).f0 ∧ V1 i = .slice A1 (q i).f1.length c1 ∧ (q i).f1.length ≤ c1 ∧ Kd.C (Kd.int .i64) W A1 (q i).f1.length (q i).f1 :=
      ⟨fun i => if h : i < len then (each i h).choose else ⟨0, []⟩, fun i hi => by simp only [dif_pos hi]; exact (each i hi).choose_spec⟩
    refine ⟨some x, cap, (List.range len).map q, by simp, ⟨by simp, ?_, fun _ => ⟨x, rfl, fun j e hj => ?_⟩⟩, by simpa using hl⟩
    · have : cap ≤ 9223372036854775807 := hm
      simp; omega
    · rw [List.getElem?_map] at hj
      obtain ⟨j', hj', rfl⟩ := Option.map_eq_some_iff.1 hj
      obtain ⟨hlt, hjj⟩ := List.getElem?_eq_some_iff.1 hj'
      simp only [List.length_range] at hlt
      simp only [List.getElem_range] at hjj
      subst hjj
      obtain ⟨A1, c1, e0, e1, h4, h5⟩ := hq j hlt
      obtain ⟨g0, g1, _, _⟩ := hall j (by omega)
      refine ⟨[.int .i64 (q j).f0, .slice A1 (q j).f1.length c1], rfl, k39_mk W (q j) h4 h5, ?_⟩
      intro i u hu
      match i, hu with
      | 0, hu =>
        simp only [List.getElem?_cons_zero, Option.some.injEq] at hu
        subst hu
        rw [e0] at g0; exact g0
      | 1, hu =>
        simp only [List.getElem?_cons_succ, List.getElem?_cons_zero, Option.some.injEq] at hu
        subst hu
        rw [e1] at g1; exact g1
end Go.Proofs.YtjeicglkanfbjaaDoor.R
