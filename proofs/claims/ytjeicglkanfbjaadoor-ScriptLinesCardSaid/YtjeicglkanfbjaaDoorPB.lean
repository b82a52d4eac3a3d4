/- (*strings.Builder).WriteString and String at this program, over a builder that the call has made; what stands beside it. -/
import Derived.Test.YtjeicglkanfbjaaDoorE
import Derived.Shelf.Strings.BuilderK
import Derived.Lib.ItoaLen
namespace Go.Proofs
open Go.Shelf
def Tryd.lays166_ren : Go.Shelf.Ren := ⟨fun | 166 => 26 | 240 => 40 | 276 => 50 | n => n, fun | 0 => 0 | 3 => 3 | 4 => 4 | 5 => 5 | 9 => 9 | 20 => 20 | 37 => 50 | 70 => 49 | 72 => 52 | 75 => 59 | 80 => 62 | 164 => 80 | 76 => 60 | n => n, fun | n => n⟩
theorem Tryd.lays166 : Go.Proofs.Lays.n166 Tryd.prog Tryd.lays166_ren := {
  mixed := by kernel_rfl
  f166 := Tryd.func26.trans (congrArg some (by kernel_rfl))
  f240 := Tryd.func40.trans (congrArg some (by kernel_rfl))
  f276 := Tryd.func50.trans (congrArg some (by kernel_rfl))
  t0 := Tryd.underlying0
  a0 := Tryd.isAgg0
  z0 := Tryd.sizeOf0
  v0 := Tryd.zeroValue0
  t3 := Tryd.underlying3
  a3 := Tryd.isAgg3
  z3 := Tryd.sizeOf3
  v3 := Tryd.zeroValue3
  t4 := Tryd.underlying4
  a4 := Tryd.isAgg4
  z4 := Tryd.sizeOf4
  v4 := Tryd.zeroValue4
  t9 := Tryd.underlying9
  a9 := Tryd.isAgg9
  z9 := Tryd.sizeOf9
  v9 := Tryd.zeroValue9
  t20 := Tryd.underlying20
  a20 := Tryd.isAgg20
  z20 := Tryd.sizeOf20
  v20 := Tryd.zeroValue20
  t37 := Tryd.underlying50
  a37 := Tryd.isAgg50
  z37 := Tryd.sizeOf50
  v37 := Tryd.zeroValue50
  t70 := Tryd.underlying49
  a70 := Tryd.isAgg49
  z70 := Tryd.sizeOf49
  v70 := Tryd.zeroValue49
  t72 := Tryd.underlying52
  a72 := Tryd.isAgg52
  z72 := Tryd.sizeOf52
  v72 := Tryd.zeroValue52
  t75 := Tryd.underlying59
  a75 := Tryd.isAgg59
  z75 := Tryd.sizeOf59
  v75 := Tryd.zeroValue59
  t164 := Tryd.underlying80
  a164 := Tryd.isAgg80
  z164 := Tryd.sizeOf80
  v164 := Tryd.zeroValue80 }
theorem Tryd.Builder_Extra_166 : Builder.Extra Tryd.prog Tryd.lays166_ren := {
  t5 := Tryd.underlying5
  a5 := Tryd.isAgg5
  z5 := Tryd.sizeOf5
  v5 := Tryd.zeroValue5
  sizeBuilder := by kernel_rfl
  liesBuilder := by kernel_rfl
  infoByte := by kernel_rfl
  cellsByte := by kernel_rfl
  sizeByte := by kernel_rfl
  neB5 := by decide }
end Go.Proofs
namespace Go.Proofs.YtjeicglkanfbjaaDoor
open Go.RowKit Go.Proofs.YtjeicglkanfbjaaDoorW.PrintWords
/-- A builder of the call's own in block b, that holds these bytes. -/
def Bd (B b : Nat) (l : List UInt8) (w : World) : Prop := Lib.IsBuilderF 52 5 B b (Lib.byteCells l) w
theorem bdAt_below {B b : Nat} {p : Value} {bs : List Value} {w w1 : World} (h : Lib.BuilderAtF 52 5 B b p bs w) (hb : Below w.heap.size w w1) : Lib.BuilderAtF 52 5 B b p bs w1 := by
  have hlt := h.lt
  obtain ⟨hB, v, hk, hown, hne⟩ := h
  exact ⟨hB, v, blk_below hk hb, hown.kept (row := none) (grown_of_below hb none) (by cases hv : v.ownBlock <;> simp), hne⟩
theorem Bd.below {B b : Nat} {l : List UInt8} {w w1 : World} (h : Bd B b l w) (hb : Below w.heap.size w w1) : Bd B b l w1 := h.imp (fun h => bdAt_below h hb) (fun h => bdAt_below h hb)
theorem bdAt_far {B b : Nat} {p : Value} {bs : List Value} {w : World} (h : Lib.BuilderAtF 52 5 B b p bs w) (a : Addr) (u : Value) (hne : b ≠ a.block) (hc : ∃ cs t, t ≠ 5 ∧ w.heap[a.block]? = some (.cells cs t (0, 0))) : Lib.BuilderAtF 52 5 B b p bs (w.setCell a u) := by
  obtain ⟨hB, v, hk, hown, hnv⟩ := h
  obtain ⟨cs, t, ht, hc⟩ := hc
  refine ⟨hB, v, ?_, ?_, hnv⟩
  · rw [Below.heap_setCell _ _ _ _ hne]; exact hk
  · refine hown.kept (row := some a.block) ⟨rfl, rfl, rfl, by simp [World.setCell], fun k _ hk => Below.heap_setCell _ _ _ _ (fun e => hk (by simp [e]))⟩ (.inr fun e => ?_)
    obtain ⟨c, fz, hg⟩ := Lib.ownsRowF_kind hown _ e
    rw [hc] at hg
    simp only [Option.some.injEq, Obj.cells.injEq] at hg
    exact ht hg.2.1
theorem Bd.far {B b : Nat} {l : List UInt8} {w : World} (h : Bd B b l w) (a : Addr) (u : Value) (hne : b ≠ a.block) (hc : ∃ cs t, t ≠ 5 ∧ w.heap[a.block]? = some (.cells cs t (0, 0))) : Bd B b l (w.setCell a u) := h.imp (fun h => bdAt_far h a u hne hc) (fun h => bdAt_far h a u hne hc)
theorem Bd.lt {B b : Nat} {l : List UInt8} {w : World} (h : Bd B b l w) : b < w.heap.size := h.elim (fun h => h.lt) (fun h => h.lt)
theorem Bd.new (w w1 : World) (h : w1.heap[w.heap.size]? = some (.cells #[.pointer none, .slice none 0 0] 52 (0, 0))) : Bd w.heap.size w.heap.size [] w1 :=
  .inl ⟨Nat.le_refl _, _, h, World.ownsRowF_nil _ _ _ _, by simp [Value.ownBlock]⟩
theorem strCells_eq (s : ByteArray) : Lib.strCells s = Lib.byteCells s.data.toList := rfl
theorem write_calls (B b : Nat) (l : List UInt8) (s : ByteArray) (w : World) (h : Bd B b l w) (hl : l.length + s.size ≤ 140737488355328) (hB : B ≤ w.heap.size) :
    Calls Tryd.prog 26 #[.pointer (some ⟨b, 0, none⟩), .string s] w fun e w' => e = .returned (.tuple #[.int .i64 s.size, .nilIface]) ∧ Bd B b (l ++ s.data.toList) w' ∧ Below B w w' ∧ Lib.OthersKept 5 (some b) w w' := by
  refine (Any.Builder_WriteString_k Tryd.lays166 Tryd.Builder_Extra_166 B b (Lib.byteCells l) s w h (by rw [Lib.byteCells_length]; exact hl) hB).mono ?_
  rintro e w' ⟨rfl, h1, h2, h3⟩
  refine ⟨rfl, .inr ?_, h2, h3⟩
  have e1 : Lib.byteCells (l ++ s.data.toList) = Lib.byteCells l ++ Lib.strCells s := by simp [Lib.byteCells, Lib.strCells]
  rw [e1]; exact h1
theorem string_calls (B b : Nat) (l : List UInt8) (w : World) (h : Bd B b l w) (hB : B ≤ w.heap.size) :
    Calls Tryd.prog 27 #[.pointer (some ⟨b, 0, none⟩)] w fun e w' => e = .returned (.string ⟨l.toArray⟩) ∧ Below B w w' := by
  refine (Any.Builder_String_any_k Tryd.lays169 Tryd.Builder_Extra_169 B b l w h hB).mono ?_
  rintro e w' ⟨rfl, _, h2, _⟩
  exact ⟨rfl, h2⟩
theorem kept_blk {b g : Nat} {w w1 : World} {cs : Array Value} {t : TypeId} (hk : Lib.OthersKept 5 (some b) w w1) (h : w.heap[g]? = some (.cells cs t (0, 0))) (hg : g ≠ b) (ht : t ≠ 5) : w1.heap[g]? = some (.cells cs t (0, 0)) :=
  hk g _ h (by simpa using hg) (by intro c fz e; injection e with _ e2 _; exact ht e2)
/-! ### what is printed -/
def inN (n : Int) : Bool := decide (-1125899906842624 ≤ n) && decide (n ≤ 1125899906842624)
def argsGo : List Int → List UInt8 → Option (List UInt8)
  | [], acc => some acc
  | n :: r, acc => if inN n = true then argsGo r (acc ++ 32 :: Lib.itoa n) else none
def wordAt (k : Int) : List UInt8 := ((formsS[(k - 1).toNat]?).map (·.1)).getD []
def printGo : List (Int × List Int) → List UInt8 → Except Int (List UInt8)
  | [], acc => .ok acc
  | e :: r, acc => if e.1 < 1 ∨ 44 < e.1 then .error 18 else if fitsS e.1 e.2.length = true then (match argsGo e.2 (acc ++ wordAt e.1) with
    | some a => printGo r (a ++ [10])
    | none => .error 2) else .error 3
def smallS (l : List (Int × List Int)) : Bool := decide (l.length ≤ 420) && l.all fun e => decide (e.2.length ≤ 60)
def endP : Except Int (List UInt8) → ByteArray × Int
  | .ok s => (⟨s.toArray⟩, 0)
  | .error c => (⟨#[]⟩, c)
def printF (l : List (Int × List Int)) : Option (ByteArray × Int) := if smallS l = true then some (endP (printGo l [])) else none
theorem word_len (k : Int) : (wordAt k).length ≤ 7 := by
  unfold wordAt
  generalize (k - 1).toNat = i
  by_cases h : i < formsS.length
  · have : ∀ f ∈ formsS, f.1.length ≤ 7 := by decide
    rw [List.getElem?_eq_getElem h]
    exact this _ (List.getElem_mem h)
  · rw [List.getElem?_eq_none (by omega)]; simp
end Go.Proofs.YtjeicglkanfbjaaDoor
