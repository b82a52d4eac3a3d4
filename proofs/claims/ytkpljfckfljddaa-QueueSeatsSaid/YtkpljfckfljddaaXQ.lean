/- A parameter of type api.Queue, laid open: its groups read as a list, its singles are a number. -/
import Derived.Test.YtkpljfckfljddaaRows
import Derived.Test.YtkpljfckfljddaaWWords
import Derived.Lib.SmallJoins
import Derived.ProofKit
import Derived.OpenShut
namespace Go.Proofs.Ytkpljfckfljddaa.YtkpljfckfljddaaXQ
open Go.RowKit Go.Proofs.YtkpljfckfljddaaW.PrintWords Go.ChangeShapes Go.WideShapes Go.ChangeAt
theorem cells24 : Try.prog.cellsOf 24 = 2 := by kernel_rfl
theorem cells3 : Try.prog.cellsOf 3 = 1 := by kernel_rfl
theorem open_queue {H : Type} {enc : TypeId × Value → H} {W : World} {r : Reach} {b0 : Nat} {v : Value} {d : DataW H} {p : List MemPlace}
    (hv : Value.okWide Try.prog W r b0 24 v) (h : DataW.Trod enc Try.prog W 0 (fun _ => true) true 24 v d p) :
    ∃ (A : Option Addr) (c : Nat) (l : List Int) (a : Int), v = .agg #[.slice A l.length c, .int .i64 a] ∧ Kd.C (Kd.int .i64) W A l.length l ∧ l.length ≤ c ∧ l.length ≤ maxLen ∧ (∀ x ∈ l, (Lit.int .i64 x).wf = true) ∧ (Lit.int .i64 a).wf = true := by
  obtain ⟨c0, c1, y0, y1, m, rfl, _, _, h0, h1⟩ := Joins.open_agg2 Try.underlying24 (by kernel_rfl) cells24 hv h
  obtain ⟨a, e1, _, wa⟩ := DataW.trod_int Try.underlying3 h1
  simp only [List.cons.injEq, and_true] at e1
  subst e1
  rcases open_ints Try.underlying22 Try.underlying3 cells3 h0 with ⟨e0, _⟩ | ⟨x, len, cap, zs, e0, _, hl, hm, hz, _, hcell, hwz⟩
  · simp only [List.cons.injEq, and_true] at e0
    subst e0
    exact ⟨none, 0, [], a, rfl, Kd.C_nil _ _, Nat.le_refl _, Nat.zero_le _, by simp, wa⟩
  · simp only [List.cons.injEq, and_true] at e0
    subst e0
    obtain ⟨l, e, h1, h2, h3, h4⟩ := ReadsInt.ofRowC (k := .i64) (w := W) (a := some x) (len := len) (cap := cap) (zs := zs) (.inr ⟨x, rfl, hl, hm, by simpa using hz, hcell, hwz⟩)
    subst e
    exact ⟨some x, cap, l, a, rfl, Kd.C_of_reads (d := (0 : Int)) (h1 := fun _ => rfl) h1, h4, h2, h3, wa⟩
end Go.Proofs.Ytkpljfckfljddaa.YtkpljfckfljddaaXQ
