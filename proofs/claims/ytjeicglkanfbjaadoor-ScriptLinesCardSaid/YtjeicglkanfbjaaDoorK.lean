/- script.Parse's deferred closure: its two contracts (of a frame that panics with a fault; of a frame that returns). -/
import Derived.Test.YtjeicglkanfbjaaDoorProg
import Derived.Test.YtjeicglkanfbjaaDoorWWords
import Derived.Test.YtjeicglkanfbjaaDoorWMore
import Derived.Test.YtjeicglkanfbjaaDoorWLast
import Derived.Defers
import Derived.Recover
import Derived.Laws.Pointers
import Derived.WalkLawsBesides
namespace Go.Proofs.YtjeicglkanfbjaaDoor
open Go.RowKit Go.Proofs.YtjeicglkanfbjaaDoorW.PrintWords Go.Proofs.YtjeicglkanfbjaaDoorW.PrintLast Go.Proofs.YtjeicglkanfbjaaDoorW.PrintMore
theorem catch_idle (p0 p1 p2 : Value) (w : World) :
    CallsD Tryd.prog 18 #[p0, p1, p2] .returning w fun e u' w' => e = .returned (.tuple #[]) ∧ u' = .returning ∧ w' = w := by
  refine callsD_of_wpS Tryd.func18 rfl fun c₀ cs hu => ?_
  apply wpS_seq
  apply wpS_region
  simp [wpOpsS, go_sem, recoverD, hu, Tryd.ntmps18, Exit.thenS]
  apply wpS_seq
  apply wpS_seq
  apply wpS_region
  simp [wpOpsS, go_sem, Exit.thenS]
  refine wpS_cond (t := true) (by simp [Act.eval, Array.replicate]) ?_
  simp only [if_true]
  refine wpS_of_wp (wp_ret ?_)
  cases c₀
  simp_all [bodyPostS, results, Tryd.results18, Exit.thenS]
theorem goesP_ {P : Program} {ops : Array Oper} {Q : Exit → Act → World → Prop} {oi : Oper} {N : Option Tmp} {a : Act} {w : World} {K : Act → World → Prop} {f : FuncId} {fn : Func} {as_ : Array Operand} {ts : Array TypeId} (hf : P.funcs[f]? = some fn) (hname : (fn.name == "runtime.NumGoroutine") = false) (hb : fn.body.isSome = true) (args : Array Value)
    (hw : Region.wanted oi (yielded ops a.tmps) = true) (hop : oi.op = .call { callee := .value (.func f), args := as_, argTypes := ts }) (hargs : as_.map a.eval = args)
    (h : Calls P f args w fun e w' => ∃ ps, e = .panicked ps ∧ Q (.panic ps) a w') : if Region.wanted oi (yielded ops a.tmps) = true then Oper.wp P oi a w K Q else K (a.put N undef) w := by
  have he := enters_ hf hname hb args w
  have hrun : (execOp a.eval oi).run P w = .ok (.enter f args) w := by
    unfold execOp
    simp [hop, resolve, Deferred.ofValue, invoke, Act.eval, hargs, he]
  rw [if_pos hw]
  unfold Oper.wp
  rw [hrun, Oper.upon_enter]
  refine h.mono fun e w'' hh => ?_
  obtain ⟨v, rfl, hk⟩ := hh
  exact hk
theorem wp_with {P : Program} {c : Code} {Q : Exit → Act → World → Prop} {a a1 : Act} {w : World} (ha : a = a1) (F : World → Prop) (h : ∀ Q' : Exit → Act → World → Prop, Aside0 (∀ a' w', a'.defers = [] → F w' → Q' .normal a' w') → Aside0 (∀ c a' d v w', Q' (.panic c) (Act.put a' d v) w' → Q' (.panic c) a' w') → Code.wp P c Q' a1 w) (hq : ∀ a' w', a'.defers = [] → F w' → Q .normal a' w') (hp : ∀ c a' d v w', Q (.panic c) (Act.put a' d v) w' → Q (.panic c) a' w') : Code.wp P c Q a w := ha ▸ h Q ⟨hq⟩ ⟨hp⟩
set_option maxHeartbeats 2000000 in
set_option maxRecDepth 100000 in
theorem catch_fault (b0 b1 b2 : Nat) (v0 : Value) (v1 v2 l er : Int) (older : List PanicEntry) (w : World) (h0 : w.heap[b0]? = some (.cells #[v0] 23 (0, 0))) (h1 : w.heap[b1]? = some (.cells #[.int .i64 v1] 3 (0, 0))) (h2 : w.heap[b2]? = some (.cells #[.int .i64 v2] 24 (0, 0))) :
    CallsD Tryd.prog 18 #[.pointer (some ⟨b0, 0, none⟩), .pointer (some ⟨b1, 0, none⟩), .pointer (some ⟨b2, 0, none⟩)] (.panicking ({ v := .iface 41 (.agg #[.int .i64 l, .int .i64 er]), recovered := false } :: older)) w fun e u' w' =>
      e = .returned (.tuple #[]) ∧ u' = .panicking ({ v := .iface 41 (.agg #[.int .i64 l, .int .i64 er]), recovered := true } :: older) ∧ ∃ w1, Below w.heap.size w w1 ∧ w' = ((w1.setCell ⟨b0, 0, none⟩ (.slice none 0 0)).setCell ⟨b1, 0, none⟩ (.int .i64 l)).setCell ⟨b2, 0, none⟩ (.int .i64 er) := by
  refine callsD_of_wpS Tryd.func18 rfl fun c₀ cs hu => ?_
  apply wpS_seq
  apply wpS_region
  simp [wpOpsS, go_sem, recoverD, hu, Tryd.ntmps18, Exit.thenS]
  refine wpS_of_wp ?_
  refine wp_with (a1 := { tmps := #[.pointer (some ⟨b0, 0, none⟩), .pointer (some ⟨b1, 0, none⟩), .pointer (some ⟨b2, 0, none⟩), .iface 41 (.agg #[.int .i64 l, .int .i64 er]), undef, undef, .iface 41 (.agg #[.int .i64 l, .int .i64 er]), undef, undef, undef, undef, undef, undef, undef, undef, undef, undef, undef, undef, undef, undef], defers := [] }) ?ha (fun w' => ∃ w1, Below w.heap.size w w1 ∧ w' = ((w1.setCell ⟨b0, 0, none⟩ (.slice none 0 0)).setCell ⟨b1, 0, none⟩ (.int .i64 l)).setCell ⟨b2, 0, none⟩ (.int .i64 er)) ?_ ?_ ?_
  case ha =>
    simp only [Act.mk.injEq, and_true]
    apply Array.ext'
    simp [Array.replicate, List.replicate]
  · intro Q' hQ' hP'
    have c0 : w.cell? ⟨b0, 0, none⟩ = some v0 := (blk_cell h0 0).trans rfl
    have c1 : w.cell? ⟨b1, 0, none⟩ = some (.int .i64 v1) := (blk_cell h1 0).trans rfl
    have c2 : w.cell? ⟨b2, 0, none⟩ = some (.int .i64 v2) := (blk_cell h2 0).trans rfl
    have z0 := blk_frozen h0 0
    have z1 := blk_frozen h1 0
    have z2 := blk_frozen h2 0
    have g0 := Aside0.mk h0
    have g1 := Aside0.mk h1
    have g2 := Aside0.mk h2
    have m01 : b0 ≠ b1 := blk_ne h0 h1 (by decide)
    have m02 : b0 ≠ b2 := blk_ne h0 h2 (by decide)
    have m12 : b1 ≠ b2 := blk_ne h1 h2 (by decide)
    clear hu h0 h1 h2
    have hta : ∀ (v : Value) (w : World), (Instr.typeAssert (.iface 41 v) 20 41 true).run Tryd.prog w = .ok (.tuple #[v, .bool true]) w := by
      intro v w
      simp [Instr.typeAssert, run_underlying Tryd.underlying41, go_sem, Result.andThen]
    go_wp2
    have hx0 : (w.alloc (.cells #[.int .i64 l, .int .i64 er] 41)).drew.cell? ⟨w.heap.size, 0, none⟩ = some (.int .i64 l) := by simp [go_sem]
    have hx1 : (w.alloc (.cells #[.int .i64 l, .int .i64 er] 41)).drew.cell? ⟨w.heap.size, 1, none⟩ = some (.int .i64 er) := by simp [go_sem]
    have d0 : (w.alloc (.cells #[.int .i64 l, .int .i64 er] 41)).drew.heap[b0]? = some (.cells #[v0] 23 (0, 0)) := blk_drew (blk_alloc g0.out _)
    have d1 : (w.alloc (.cells #[.int .i64 l, .int .i64 er] 41)).drew.heap[b1]? = some (.cells #[.int .i64 v1] 3 (0, 0)) := blk_drew (blk_alloc g1.out _)
    have d2 : (w.alloc (.cells #[.int .i64 l, .int .i64 er] 41)).drew.heap[b2]? = some (.cells #[.int .i64 v2] 24 (0, 0)) := blk_drew (blk_alloc g2.out _)
    have hbW : Below w.heap.size w (w.alloc (.cells #[.int .i64 l, .int .i64 er] 41)).drew := below_drew1 (below_alloc (Below.refl _ w) _)
    refine start_ (n := 7) (S := fun w' => w'.cell? ⟨w.heap.size, 0, none⟩ = some (.int .i64 l) ∧ w'.cell? ⟨w.heap.size, 1, none⟩ = some (.int .i64 er)) (ds := []) #[false, false, false, false, false, false, false] (by kernel_rfl) rfl rfl ⟨hx0, hx1⟩ (fun hHeld => ?_)
    generalize (w.alloc (.cells #[.int .i64 l, .int .i64 er] 41)).drew = W at hx0 hx1 d0 d1 d2 hbW hHeld ⊢
    have n0 : w.heap.size ≠ b0 := fun h => by have := blk_lt g0.out; omega
    have n1 : w.heap.size ≠ b1 := fun h => by have := blk_lt g1.out; omega
    have n2 : w.heap.size ≠ b2 := fun h => by have := blk_lt g2.out; omega
    refine pure_ (i := 0) (N := some 17) (v := ?_) (a' := ?_) #[true, false, false, false, false, false, false] rfl rfl (by kernel_rfl) (fun _ _ _ h => hP'.out _ _ _ _ _ h) (Or.inl ⟨by rfl, ?_⟩) ?_ ?_
    rotate_left
    · intro w'
      go_simp
      with_reducible rfl
    rotate_left
    · simp only [Act.put, List.setIfInBounds_toArray, List.set_cons_zero, List.set_cons_succ]
      rfl
    refine take_ (i := 1) (N := some 18) (v := ?_) (a' := ?_) #[true, true, false, false, false, false, false] rfl rfl (by kernel_rfl) (fun _ _ _ h => hP'.out _ _ _ _ _ h) (Or.inl ⟨by rfl, ?_⟩) hHeld ?_ ?_
    rotate_left
    · rintro w' ⟨s0, s1⟩
      go_simp
      with_reducible rfl
    rotate_left
    · simp only [Act.put, List.setIfInBounds_toArray, List.set_cons_zero, List.set_cons_succ]
      rfl
    refine pure_ (i := 2) (N := some 19) (v := ?_) (a' := ?_) #[true, true, true, false, false, false, false] rfl rfl (by kernel_rfl) (fun _ _ _ h => hP'.out _ _ _ _ _ h) (Or.inl ⟨by rfl, ?_⟩) ?_ ?_
    rotate_left
    · intro w'
      go_simp
      with_reducible rfl
    rotate_left
    · simp only [Act.put, List.setIfInBounds_toArray, List.set_cons_zero, List.set_cons_succ]
      rfl
    refine take_ (i := 3) (N := some 20) (v := ?_) (a' := ?_) #[true, true, true, true, false, false, false] rfl rfl (by kernel_rfl) (fun _ _ _ h => hP'.out _ _ _ _ _ h) (Or.inl ⟨by rfl, ?_⟩) hHeld ?_ ?_
    rotate_left
    · rintro w' ⟨s0, s1⟩
      go_simp
      with_reducible rfl
    rotate_left
    · simp only [Act.put, List.setIfInBounds_toArray, List.set_cons_zero, List.set_cons_succ]
      rfl
    refine one_ (i := 4) (N := none) #[true, true, true, true, true, false, false] rfl rfl (by kernel_rfl) (by decide) (fun K hK => ?_)
    refine skip_ (w1 := (W.setCell ⟨b0, 0, none⟩ (.slice none 0 0))) (by rfl) rfl ?_ ?_
    · have c_ : W.cell? ⟨b0, 0, none⟩ = some (v0) := (blk_cell d0 0).trans rfl
      have z_ := blk_frozen d0 0
      go_simp
    refine hK.out _ _ ⟨?_, ?_⟩ (fun hHeld => ?_)
    · exact (World.cell?_setCell_other _ _ _ _ (fun h => n0 (congrArg Addr.block h).symm)).trans hHeld.1
    · exact (World.cell?_setCell_other _ _ _ _ (fun h => n0 (congrArg Addr.block h).symm)).trans hHeld.2
    clear hK K
    replace d1 := blk_far d1 (p := ⟨b0, 0, none⟩) (fun h => m01 h.symm) (.slice none 0 0)
    replace d2 := blk_far d2 (p := ⟨b0, 0, none⟩) (fun h => m02 h.symm) (.slice none 0 0)
    refine one_ (i := 5) (N := none) #[true, true, true, true, true, true, false] rfl rfl (by kernel_rfl) (by decide) (fun K hK => ?_)
    refine skip_ (w1 := ((W.setCell ⟨b0, 0, none⟩ (.slice none 0 0)).setCell ⟨b1, 0, none⟩ (.int .i64 l))) (by rfl) rfl ?_ ?_
    · have c_ : (W.setCell ⟨b0, 0, none⟩ (.slice none 0 0)).cell? ⟨b1, 0, none⟩ = some (.int .i64 v1) := (blk_cell d1 0).trans rfl
      have z_ := blk_frozen d1 0
      go_simp
    refine hK.out _ _ ⟨?_, ?_⟩ (fun hHeld => ?_)
    · exact (World.cell?_setCell_other _ _ _ _ (fun h => n1 (congrArg Addr.block h).symm)).trans hHeld.1
    · exact (World.cell?_setCell_other _ _ _ _ (fun h => n1 (congrArg Addr.block h).symm)).trans hHeld.2
    clear hK K
    replace d2 := blk_far d2 (p := ⟨b1, 0, none⟩) (fun h => m12 h.symm) (.int .i64 l)
    refine one_ (i := 6) (N := none) #[true, true, true, true, true, true, true] rfl rfl (by kernel_rfl) (by decide) (fun K hK => ?_)
    refine skip_ (w1 := (((W.setCell ⟨b0, 0, none⟩ (.slice none 0 0)).setCell ⟨b1, 0, none⟩ (.int .i64 l)).setCell ⟨b2, 0, none⟩ (.int .i64 er))) (by rfl) rfl ?_ ?_
    · have c_ : ((W.setCell ⟨b0, 0, none⟩ (.slice none 0 0)).setCell ⟨b1, 0, none⟩ (.int .i64 l)).cell? ⟨b2, 0, none⟩ = some (.int .i64 v2) := (blk_cell d2 0).trans rfl
      have z_ := blk_frozen d2 0
      go_simp
    refine hK.out _ _ ⟨?_, ?_⟩ (fun hHeld => ?_)
    · exact (World.cell?_setCell_other _ _ _ _ (fun h => n2 (congrArg Addr.block h).symm)).trans hHeld.1
    · exact (World.cell?_setCell_other _ _ _ _ (fun h => n2 (congrArg Addr.block h).symm)).trans hHeld.2
    clear hK K
    refine done_ (by kernel_rfl) ?_
    exact hQ'.out _ _ rfl ⟨W, hbW, rfl⟩
  · rintro a' w' hd ⟨w1, hw1, rfl⟩
    cases c₀
    simp_all [bodyPostS, results, Tryd.results18]
    exact ⟨w1, hw1, rfl⟩
  · intro c a' d v w' h
    cases d <;> simp [bodyPostS, Act.put] at h
theorem parse_results (tm : Array Value) (b0 b1 b2 : Nat) (v0 : Value) (v1 v2 : Int) (w : World) (h0 : w.heap[b0]? = some (.cells #[v0] 23 (0, 0))) (h1 : w.heap[b1]? = some (.cells #[.int .i64 v1] 3 (0, 0))) (h2 : w.heap[b2]? = some (.cells #[.int .i64 v2] 24 (0, 0)))
    (t2 : tm.getD 2 undef = .pointer (some ⟨b0, 0, none⟩)) (t3 : tm.getD 3 undef = .pointer (some ⟨b1, 0, none⟩)) (t4 : tm.getD 4 undef = .pointer (some ⟨b2, 0, none⟩)) : (results Tryd.f10 tm).run Tryd.prog w = .ok (.tuple #[v0, .int .i64 v1, .int .i64 v2]) w := by
  have c0 : w.cell? ⟨b0, 0, none⟩ = some v0 := (blk_cell h0 0).trans rfl
  have c1 : w.cell? ⟨b1, 0, none⟩ = some (.int .i64 v1) := (blk_cell h1 0).trans rfl
  have c2 : w.cell? ⟨b2, 0, none⟩ = some (.int .i64 v2) := (blk_cell h2 0).trans rfl
  have t2' : tm[2]?.getD undef = .pointer (some ⟨b0, 0, none⟩) := by simpa using t2
  have t3' : tm[3]?.getD undef = .pointer (some ⟨b1, 0, none⟩) := by simpa using t3
  have t4' : tm[4]?.getD undef = .pointer (some ⟨b2, 0, none⟩) := by simpa using t4
  simp [results, Tryd.results10, go_sem, t2', t3', t4', c0, c1, c2]
theorem leaves_congr {P : Program} {fn : Func} {t1 t2 : Array Value} {R : Ending → World → Prop} (h : ∀ w, (results fn t1).run P w = (results fn t2).run P w) : ∀ (ds : List Deferred) (u : FrameMode) (w : World), Leaves P fn t1 R ds u w → Leaves P fn t2 R ds u w := by
  intro ds
  induction ds with
  | nil =>
    intro u w hl
    cases u with
    | run => exact hl
    | returning => obtain ⟨v, hr, hR⟩ := hl; exact ⟨v, (h w).symm.trans hr, hR⟩
    | panicking c => exact hl
  | cons d ds ih =>
    intro u w hl
    obtain ⟨h1, fv, cap, f, args, h2, h3, h4⟩ := hl
    refine ⟨h1, fv, cap, f, args, h2, h3, h4.mono ?_⟩
    intro e u' w' he
    cases e with
    | returned v => exact ih _ _ he
    | panicked c => exact ih _ _ he
    | outgrown => exact he
theorem parse_same (tm : Array Value) (N : Nat) (v : Value) (hN : (N == 2 || N == 3 || N == 4) = false) (w : World) : (results Tryd.f10 (tm.setIfInBounds N v)).run Tryd.prog w = (results Tryd.f10 tm).run Tryd.prog w := by
  simp only [Bool.or_eq_false_iff, beq_eq_false_iff_ne] at hN
  obtain ⟨⟨n2, n3⟩, n4⟩ := hN
  have g : ∀ i, N ≠ i → (tm.setIfInBounds N v)[i]? = tm[i]? := by
    intro i hi
    rw [Array.getElem?_setIfInBounds, if_neg hi]
  simp only [results, Tryd.results10]
  simp [go_sem, g 2 n2, g 3 n3, g 4 n4]
theorem parse_hQ {R : Ending → World → Prop} {c : List PanicEntry} {a : Act} {v : Value} {w : World} (N : Nat) (hN : (N == 2 || N == 3 || N == 4) = false) (h : bodyPostD Tryd.prog Tryd.f10 R (.panic c) (a.put (some N) v) w) : bodyPostD Tryd.prog Tryd.f10 R (.panic c) a w :=
  leaves_congr (fun w => parse_same a.tmps N v hN w) _ _ _ h
theorem door_ret0 (R : Ending → World → Prop) (tm : Array Value) (b0 b1 b2 : Nat) (v0 : Value) (v1 v2 : Int) (w : World) (h0 : w.heap[b0]? = some (.cells #[v0] 23 (0, 0))) (h1 : w.heap[b1]? = some (.cells #[.int .i64 v1] 3 (0, 0))) (h2 : w.heap[b2]? = some (.cells #[.int .i64 v2] 24 (0, 0)))
    (t2 : tm.getD 2 undef = .pointer (some ⟨b0, 0, none⟩)) (t3 : tm.getD 3 undef = .pointer (some ⟨b1, 0, none⟩)) (t4 : tm.getD 4 undef = .pointer (some ⟨b2, 0, none⟩)) (hR : R (.returned (.tuple #[v0, .int .i64 v1, .int .i64 v2])) w) : bodyPostD Tryd.prog Tryd.f10 R .ret { tmps := tm, defers := [] } w :=
  ⟨_, parse_results tm b0 b1 b2 v0 v1 v2 w h0 h1 h2 t2 t3 t4, hR⟩
theorem door_ret (R : Ending → World → Prop) (tm : Array Value) (b0 b1 b2 : Nat) (v0 : Value) (v1 v2 : Int) (w : World) (h0 : w.heap[b0]? = some (.cells #[v0] 23 (0, 0))) (h1 : w.heap[b1]? = some (.cells #[.int .i64 v1] 3 (0, 0))) (h2 : w.heap[b2]? = some (.cells #[.int .i64 v2] 24 (0, 0)))
    (t2 : tm.getD 2 undef = .pointer (some ⟨b0, 0, none⟩)) (t3 : tm.getD 3 undef = .pointer (some ⟨b1, 0, none⟩)) (t4 : tm.getD 4 undef = .pointer (some ⟨b2, 0, none⟩)) (hR : R (.returned (.tuple #[v0, .int .i64 v1, .int .i64 v2])) w) : bodyPostD Tryd.prog Tryd.f10 R .ret { tmps := tm, defers := [{ target := .fn (.func 18) #[.pointer (some ⟨b0, 0, none⟩), .pointer (some ⟨b1, 0, none⟩), .pointer (some ⟨b2, 0, none⟩)], args := #[] }] } w := by
  refine leaves_cons (f := 18) (args := #[.pointer (some ⟨b0, 0, none⟩), .pointer (some ⟨b1, 0, none⟩), .pointer (some ⟨b2, 0, none⟩)]) (by simp) (by simp [go_sem]) ?_
  refine (catch_idle _ _ _ w).mono ?_
  rintro e u' w' ⟨rfl, rfl, rfl⟩
  exact ⟨_, parse_results tm b0 b1 b2 v0 v1 v2 _ h0 h1 h2 t2 t3 t4, hR⟩
theorem door_panic (R : Ending → World → Prop) (tm : Array Value) (b0 b1 b2 : Nat) (v0 : Value) (v1 v2 l er : Int) (w : World) (h0 : w.heap[b0]? = some (.cells #[v0] 23 (0, 0))) (h1 : w.heap[b1]? = some (.cells #[.int .i64 v1] 3 (0, 0))) (h2 : w.heap[b2]? = some (.cells #[.int .i64 v2] 24 (0, 0)))
    (t2 : tm.getD 2 undef = .pointer (some ⟨b0, 0, none⟩)) (t3 : tm.getD 3 undef = .pointer (some ⟨b1, 0, none⟩)) (t4 : tm.getD 4 undef = .pointer (some ⟨b2, 0, none⟩)) (hR : ∀ w1, Below w.heap.size w w1 → R (.returned (.tuple #[.slice none 0 0, .int .i64 l, .int .i64 er])) (((w1.setCell ⟨b0, 0, none⟩ (.slice none 0 0)).setCell ⟨b1, 0, none⟩ (.int .i64 l)).setCell ⟨b2, 0, none⟩ (.int .i64 er))) :
    bodyPostD Tryd.prog Tryd.f10 R (.panic [{ v := .iface 41 (.agg #[.int .i64 l, .int .i64 er]), recovered := false }]) { tmps := tm, defers := [{ target := .fn (.func 18) #[.pointer (some ⟨b0, 0, none⟩), .pointer (some ⟨b1, 0, none⟩), .pointer (some ⟨b2, 0, none⟩)], args := #[] }] } w := by
  have m01 : b0 ≠ b1 := blk_ne h0 h1 (by decide)
  have m02 : b0 ≠ b2 := blk_ne h0 h2 (by decide)
  have m12 : b1 ≠ b2 := blk_ne h1 h2 (by decide)
  refine leaves_cons (f := 18) (args := #[.pointer (some ⟨b0, 0, none⟩), .pointer (some ⟨b1, 0, none⟩), .pointer (some ⟨b2, 0, none⟩)]) (by simp) (by simp [go_sem]) ?_
  refine (catch_fault b0 b1 b2 v0 v1 v2 l er [] w h0 h1 h2).mono ?_
  rintro e u' w' ⟨rfl, rfl, w1, hb, rfl⟩
  refine ⟨_, parse_results tm b0 b1 b2 (.slice none 0 0) l er _ ?_ ?_ ?_ t2 t3 t4, hR w1 hb⟩
  · exact blk_far (blk_far (blk_put (blk_below h0 hb) 0 _ rfl) (p := ⟨b1, 0, none⟩) m01 _) (p := ⟨b2, 0, none⟩) m02 _
  · exact blk_far (blk_put (blk_far (blk_below h1 hb) (p := ⟨b0, 0, none⟩) m01.symm _) 0 _ rfl) (p := ⟨b2, 0, none⟩) m12 _
  · exact blk_put (blk_far (blk_far (blk_below h2 hb) (p := ⟨b0, 0, none⟩) m02.symm _) (p := ⟨b1, 0, none⟩) m12.symm _) 0 _ rfl
end Go.Proofs.YtjeicglkanfbjaaDoor
