/- Small words beside the print's: a cell behind stores to it, told without a premise; make with a length and a capacity. -/
import Derived.WalkKit
import Derived.Laws.CopyOwn
import Derived.Test.YtjeicglkanfbjaaDoorWWords
import Derived.Test.YtjeicglkanfbjaaDoorWMore
namespace Go.Proofs.YtjeicglkanfbjaaDoorX
open Go.RowKit Go.Proofs.YtjeicglkanfbjaaDoorW.PrintWords
/-- Short names for the tables of what has run. -/
abbrev Y : Bool := true
abbrev Z : Bool := false
theorem cell_set (w : World) (a : Addr) (v : Value) : (w.setCell a v).cell? a = (w.cell? a).map fun _ => v := by
  cases h : w.cell? a with
  | some u => rw [World.cell?_setCell_same w a v h]; rfl
  | none =>
    unfold World.cell? at h ⊢
    simp only [World.setCell, Array.getElem?_modify, ↓reduceIte]
    split at h
    · rename_i c e f hb
      rw [hb]
      cases hs : a.spot.isSome with
      | true => simp
      | false =>
        simp [hs] at h ⊢
        exact h
    · rename_i hn
      cases hb : w.heap[a.block]? with
      | none => rfl
      | some o =>
        cases o with
        | cells c e f => exact absurd hb (hn c e f)
        | map es c => simp
        | _ => simp
theorem take_made (z : Array Value) (a b : Nat) (h : a ≤ b) : (madeCells z b).toList.take a = (madeCells z a).toList := by
  apply List.ext_getElem
  · simp [size_madeCells]; omega
  · intro i h1 h2
    simp [madeCells]
section
variable {α : Type} {P : Program} {ops : Array Oper} {rest : List Oper} {o : Oper} {a : Act} {Q : Exit → Act → World → Prop}
theorem run_make2 {W : World} (t e : TypeId) (x y : Operand) (ho : o.op = .makeSlice t x y) (n m : Nat) (hx : a.eval x = .int .i64 (n : Int)) (hy : a.eval y = .int .i64 (m : Int))
    (ht : P.underlying t = some (.slice e)) (z : Value) (sz bytes : Nat) (hinfo : (P.info? e).map (fun i => (i.zero, i.size, i.bytes)) = some (some z, sz, bytes)) (hb0 : 0 < bytes) (hnm : n ≤ m) (hl : m * bytes ≤ 281474976710656) :
    (execOp a.eval o).run P W = .ok (.value (.slice (some ⟨W.heap.size, 0, none⟩) n m)) (W.alloc (.cells (madeCells z.cells (m * sz)) e)) := by
  obtain ⟨i0, hi, hzz⟩ := Option.map_eq_some_iff.1 hinfo
  simp only [Prod.mk.injEq] at hzz
  obtain ⟨hz0, hz1, hz2⟩ := hzz
  have hm : m ≤ 281474976710656 := Nat.le_trans (Nat.le_mul_of_pos_right _ hb0) hl
  have hr := run_make (P := P) W t e i0 z ht hi hz0 .i64 .i64 (n : Int) (m : Int) (by omega) (by omega)
    (by
      have h3 : ((i0.bytes * m : Nat) : Int) ≤ 281474976710656 := by rw [hz2, Nat.mul_comm]; omega
      rwa [Int.natCast_mul] at h3) (by omega)
  simp only [Int.toNat_natCast] at hr
  rw [hz1] at hr
  simp [execOp, ho, hx, hy, hr]
/-- What a make with a capacity leaves. -/
theorem R_made2 (d : Kd α) {W : World} (base e n m : Nat) (z : Value) (hz : z.cells.size = d.sz) (hs0 : 0 < d.sz)
    (z0 : α) {ok okp : Nat → Prop} (hzero : d.M W base okp z0 z.cells.toList) (hok : ∀ k, okp k → ok k) (hfresh : ok W.heap.size) (hnm : n ≤ m) (hm : m ≤ 281474976710656) (hbase : base ≤ W.heap.size) :
    d.R e (W.alloc (.cells (madeCells z.cells (m * d.sz)) e)) base ok (.slice (some ⟨W.heap.size, 0, none⟩) n m) (List.replicate n z0) := by
  refine ⟨fun k hk => ?_, (madeCells z.cells (n * d.sz)).toList, ⟨by simp [size_madeCells], .inr ⟨W.heap.size, m, madeCells z.cells (m * d.sz), by simp, hbase, (MapKept.heap_alloc W _).1, by simpa using hnm, by unfold maxLen; omega, by simp [size_madeCells], ?_⟩⟩, ?_⟩
  · have : W.heap.size = k := by simpa [Value.ownBlock] using hk
    subst this
    exact hfresh
  · rw [List.length_replicate]
    exact take_made _ _ _ (Nat.mul_le_mul_right _ hnm)
  · refine (reps_made_ d hz hs0 hzero n).imp_ (fun p c hp => d.M_mono (fun k hk => ⟨hok k hk.1, fun he => ?_⟩) (Kd.M_below (d.M_bound hp) (below_alloc (Below.refl _ _) _)))
    have h3 : k = W.heap.size := by simpa [Value.ownBlock] using he
    have := hk.2.2.1
    omega
where reps_made_ (d : Kd α) {W : World} {base : Nat} {okp : Nat → Prop} {z : Value} {z0 : α} (hz : z.cells.size = d.sz) (hs : 0 < d.sz) (h0 : d.M W base okp z0 z.cells.toList) (n : Nat) : Reps (d.M W base okp) d.sz (List.replicate n z0) (madeCells z.cells (n * d.sz)).toList := Kd.reps_made hz hs h0 n
theorem R_make2 (d : Kd α) {w0 W : World} (base e : Nat) (hgd : o.guard = none) {N : Tmp} (_hd : o.dst = some N) (t : TypeId) (x y : Operand) (ho : o.op = .makeSlice t x y) (n m : Int) (hx : a.eval x = .int .i64 n) (hy : a.eval y = .int .i64 m)
    (ht : P.underlying t = some (.slice e)) (z : Value) (bytes : Nat) (hinfo : (P.info? e).map (fun i => (i.zero, i.size, i.bytes)) = some (some z, d.sz, bytes)) (hz : z.cells.size = d.sz) (hs0 : 0 < d.sz) (hb0 : 0 < bytes)
    (z0 : α) {ok okp : Nat → Prop} (hzero : d.M W base okp z0 z.cells.toList) (hok : ∀ k, okp k → ok k) (hfresh : ok W.heap.size) (h0 : 0 ≤ n) (hnm : n ≤ m) (hl : m.toNat * bytes ≤ 281474976710656) (HB : Below base w0 W) (hbase : base ≤ W.heap.size)
    (h : ∀ v1 w1, d.R e w1 base ok v1 (List.replicate n.toNat z0) → Below base w0 w1 → W.grownBy w1 none → (∃ b, v1.ownBlock = some b ∧ W.heap.size ≤ b) → wpList P ops Q rest (a.put o.dst v1) w1) : wpList P ops Q (o :: rest) a W := by
  obtain ⟨n, rfl⟩ := Int.eq_ofNat_of_zero_le h0
  obtain ⟨m, rfl⟩ := Int.eq_ofNat_of_zero_le (Int.le_trans h0 hnm)
  simp only [Int.toNat_natCast] at hl h
  have hnm' : n ≤ m := by omega
  have hm : m ≤ 281474976710656 := Nat.le_trans (Nat.le_mul_of_pos_right _ hb0) hl
  exact Kd.event_run hgd (run_make2 t e x y ho n m hx hy ht z d.sz bytes hinfo hb0 hnm' hl) (h _ _ (R_made2 d base e n m z hz hs0 z0 hzero hok hfresh hnm' hm hbase) (HB.alloc hbase _) (World.grownBy_alloc W _ none) ⟨W.heap.size, by simp [Value.ownBlock], Nat.le_refl _⟩)
end
end Go.Proofs.YtjeicglkanfbjaaDoorX
