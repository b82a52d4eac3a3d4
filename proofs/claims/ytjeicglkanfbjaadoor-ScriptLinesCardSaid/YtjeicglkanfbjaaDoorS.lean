/- The script's law in plain Lean: what a line means. -/
import Derived.Test.YtjeicglkanfbjaaDoorG
import Derived.Test.YtjeicglkanfbjaaDoorL
namespace Go.Proofs.YtjeicglkanfbjaaDoor
/-- The words of the kinds, how many arguments each has, and whether more may follow. -/
def formsS : List (List UInt8 × Int × Bool) := [
  ([116, 105, 99, 107], 1, false),
  ([111, 98, 115, 101, 114, 118, 101], 5, false),
  ([108, 105, 102, 116], 5, false),
  ([115, 101, 108, 108], 5, false),
  ([112, 97, 115, 115], 2, false),
  ([111, 117, 116], 2, false),
  ([114, 101, 118, 111, 107, 101], 2, false),
  ([117, 112, 108, 111, 97, 100], 1, false),
  ([104, 101, 97, 114], 1, false),
  ([100, 101, 108, 105, 118, 101, 114], 1, false),
  ([108, 111, 115, 101], 1, false),
  ([99, 111, 112, 121], 1, false),
  ([115, 112, 108, 105, 116], 0, true),
  ([99, 108, 111, 115, 101], 3, false),
  ([114, 101, 108, 101, 97, 115, 101], 3, false),
  ([115, 105, 103, 110], 3, false),
  ([104, 97, 122, 97, 114, 100], 2, false),
  ([114, 101, 109, 111, 118, 101], 1, false),
  ([111, 112, 101, 110], 1, false),
  ([115, 104, 117, 116], 1, false),
  ([115, 101, 110, 100], 2, false),
  ([103, 114, 111, 111, 109], 3, false),
  ([119, 105, 110, 99, 104], 2, true),
  ([105, 115, 115, 117, 101], 6, true),
  ([112, 108, 97, 110], 5, false),
  ([99, 108, 101, 97, 114], 1, false),
  ([97, 114, 109], 2, false),
  ([102, 105, 114, 101], 3, false),
  ([101, 110, 100], 1, false),
  ([97, 98, 111, 114, 116], 1, false),
  ([103, 117, 110], 2, false),
  ([115, 110, 111, 119], 1, false),
  ([115, 119, 101, 101, 112], 0, true),
  ([115, 119, 101, 112, 116], 3, false),
  ([114, 101, 112, 111, 114, 116], 2, false),
  ([106, 117, 100, 103, 101], 2, false),
  ([103, 111], 2, false),
  ([97, 114, 114, 105, 118, 101], 1, false),
  ([108, 101, 97, 118, 101], 1, false),
  ([100, 111, 110, 101], 2, false),
  ([112, 101, 114, 105, 111, 100], 1, false),
  ([99, 111, 117, 110, 116], 0, false),
  ([115, 101, 116, 116, 108, 101], 0, false),
  ([114, 101, 102, 117, 110, 100], 2, false)]
def kindFrom (w : List UInt8) : List (List UInt8 × Int × Bool) → Int → Int
  | [], _ => 0
  | f :: r, i => if f.1 = w then i + 1 else kindFrom w r (i + 1)
/-- A word's kind; 0 if it is none. -/
def kindS (w : List UInt8) : Int := kindFrom w formsS 0
/-- Can the kind k have n arguments? -/
def fitsS (k n : Int) : Bool := match formsS[(k - 1).toNat]? with
  | some f => decide (n = f.2.1) || f.2.2 && decide (f.2.1 < n) && decide (n ≤ f.2.1 + 40)
  | none => false
def valS (l : List UInt8) : Int := (Lib.atoi l).getD 0
def inR (l : List UInt8) : Bool := decide (-1125899906842624 ≤ valS l) && decide (valS l ≤ 1125899906842624)
/-- What a line means: its event, or the error. -/
def evS (l : List UInt8) : Except Int (Int × List Int) :=
  match splitOn 32 l with
  | [] => .error 18
  | w :: ps =>
    if kindS w = 0 then .error 18
    else if ps.all okNum && fitsS (kindS w) ps.length then (if ps.all inR then .ok (kindS w, ps.map valS) else .error 2)
    else .error 3
def evA (a : ByteArray) : Option (Int × List Int) := if a.size ≤ 30000 then (match evS a.data.toList with | .ok r => some r | .error _ => none) else none
def evErr (a : ByteArray) : Int := match evS a.data.toList with | .ok _ => 0 | .error e => e
def evOk (a : ByteArray) : Bool := (evA a).isSome
def evBad (a : ByteArray) : Bool := decide (a.size ≤ 30000) && (evA a).isNone
theorem evBad_err {a : ByteArray} (h : evBad a = true) : a.size ≤ 30000 ∧ evS a.data.toList = .error (evErr a) := by
  unfold evBad evA at h
  simp only [Bool.and_eq_true, decide_eq_true_eq] at h
  obtain ⟨h1, h2⟩ := h
  rw [if_pos h1] at h2
  refine ⟨h1, ?_⟩
  unfold evErr
  cases he : evS a.data.toList with
  | ok r => rw [he] at h2; exact absurd h2 (by simp)
  | error e => rfl
theorem evA_ok {a : ByteArray} {r : Int × List Int} (h : evA a = some r) : a.size ≤ 30000 ∧ evS a.data.toList = .ok r := by
  unfold evA at h
  by_cases hs : a.size ≤ 30000
  · rw [if_pos hs] at h
    refine ⟨hs, ?_⟩
    cases he : evS a.data.toList with
    | ok q => rw [he] at h; simp only [Option.some.injEq] at h; rw [h]
    | error e => rw [he] at h; exact absurd h (by simp)
  · rw [if_neg hs] at h; exact absurd h (by simp)
end Go.Proofs.YtjeicglkanfbjaaDoor
