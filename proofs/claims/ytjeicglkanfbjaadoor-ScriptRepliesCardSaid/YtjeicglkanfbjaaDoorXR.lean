/- A parameter of type api.Reply, laid open: two numbers and a list of numbers. -/
import Derived.Test.YtjeicglkanfbjaaDoorRows
import Derived.Test.YtjeicglkanfbjaaDoorWWords
import Derived.Lib.SmallJoins
import Derived.ProofKit
import Derived.OpenShut
namespace Go.Proofs.YtjeicglkanfbjaaDoor.R
open Go.RowKit Go.Proofs.YtjeicglkanfbjaaDoorW.PrintWords Go.ChangeShapes Go.WideShapes Go.ChangeAt
theorem cells31 : Tryd.prog.cellsOf 31 = 3 := by kernel_rfl
theorem cells3 : Tryd.prog.cellsOf 3 = 1 := by kernel_rfl
set_option maxRecDepth 100000 in
theorem open_reply {H : Type} {enc : TypeId × Value → H} {W : World} {r : Reach} {b0 : Nat} {v : Value} {d : DataW H} {p : List MemPlace}
    (hv : Value.okWide Tryd.prog W r b0 31 v) (h : DataW.Trod enc Tryd.prog W 0 (fun _ => true) true 31 v d p) :
    ∃ (e n : Int) (A : Option Addr) (c : Nat) (l : List Int), v = .agg #[.int .i64 e, .int .i64 n, .slice A l.length c] ∧ Kd.C (Kd.int .i64) W A l.length l ∧ l.length ≤ c ∧ (∀ x ∈ l, (Lit.int .i64 x).wf = true) ∧ (Lit.int .i64 e).wf = true ∧ (Lit.int .i64 n).wf = true := by
  obtain ⟨c0, c1, c2, y0, y1, y2, m, rfl, _, _, h0, h1, h2⟩ := Joins.open_agg3 Tryd.underlying31 (by kernel_rfl) cells31 hv h
  obtain ⟨e, e0, _, we⟩ := DataW.trod_int Tryd.underlying24 h0
  obtain ⟨n, e1, _, wn⟩ := DataW.trod_int Tryd.underlying3 h1
  simp only [List.cons.injEq, and_true] at e0 e1
  subst e0
  subst e1
  rcases open_ints Tryd.underlying29 Tryd.underlying3 cells3 h2 with ⟨e2, _⟩ | ⟨x, len, cap, zs, e2, _, hl, hm, hz, _, hcell, hwz⟩
  · simp only [List.cons.injEq, and_true] at e2
    subst e2
    exact ⟨e, n, none, 0, [], rfl, Kd.C_nil _ _, Nat.le_refl _, by simp, we, wn⟩
  · simp only [List.cons.injEq, and_true] at e2
    subst e2
    obtain ⟨l, el, h1, h2, h3, h4⟩ := ReadsInt.ofRowC (k := .i64) (w := W) (a := some x) (len := len) (cap := cap) (zs := zs) (.inr ⟨x, rfl, hl, hm, by simpa using hz, hcell, hwz⟩)
    subst el
    exact ⟨e, n, some x, cap, l, rfl, Kd.C_of_reads (d := (0 : Int)) (h1 := fun _ => rfl) h1, h4, h3, we, wn⟩
end Go.Proofs.YtjeicglkanfbjaaDoor.R
