/- script.Parse, as it is printed, gives what a script means. -/
import Derived.Test.YtjeicglkanfbjaaDoorPUx1
import Derived.Test.YtjeicglkanfbjaaDoorS2
import Derived.Test.YtjeicglkanfbjaaDoorE
namespace Go.Proofs.YtjeicglkanfbjaaDoor.Pure
open Go.RowKit Go.Proofs.YtjeicglkanfbjaaDoorW.PrintWords Go.Proofs.YtjeicglkanfbjaaDoorW.PrintMore Go.Proofs.YtjeicglkanfbjaaDoor.PU
def mk39 (e : Int × List Int) : S39 := ⟨e.1, e.2⟩
def resS : Except (Int × Int) (List (Int × List Int)) → List S39 × Int × Int
  | .ok l => (l.map mk39, 0, 0)
  | .error (n, c) => ([], n, c)
theorem bt_zero (t : ByteArray) (x : UInt8) (r : List UInt8) (h : t.data.toList = x :: r) : 0 < t.size ∧ bt t 0 = (x.toNat : Int) := by
  have hs : 0 < t.size := by rw [← data_size, h]; simp
  refine ⟨hs, ?_⟩
  unfold bt
  rw [dif_pos (by simpa using hs)]
  have : t[((0 : Int)).toNat]'(by simpa using hs) = x := by
    have h1 : t.data.toList[0]? = some x := by rw [h]; rfl
    have h2 : t.data[0]? = some x := by simpa using h1
    have h3 := Array.getElem?_eq_some_iff.1 h2
    exact h3.2
  rw [this]
theorem u8_eq (x : UInt8) (n : Nat) (hn : n < 256) : ((x.toNat : Int) == (n : Int)) = (x == UInt8.ofNat n) := by
  rw [Bool.eq_iff_iff]
  simp only [beq_iff_eq]
  constructor
  · intro h
    apply UInt8.toNat_inj.1
    rw [UInt8.toNat_ofNat']
    omega
  · intro h
    rw [h, UInt8.toNat_ofNat']
    omega
theorem parse_loop : ∀ (rest pre : List ByteArray) (acc : List (Int × List Int)) (k : Nat), (∀ p ∈ rest, p.size ≤ 30000) → pre.length + rest.length ≤ 40000 → acc.length ≤ pre.length →
    script_Parse.l0 (2 * rest.length + (k + 1)) (pre ++ rest) ((pre ++ rest).length : Int) (pre.length : Int) (acc.map mk39) = some (resS (goS (rest.map (·.data.toList)) (pre.length : Int) acc))
  | [], pre, acc, k, _, _, _ => by
    rw [show 2 * ([] : List ByteArray).length + (k + 1) = k + 1 by simp]
    rw [script_Parse.l0, if_neg (by simp)]
    simp [goS, resS]
  | t :: rest, pre, acc, k, h, hl, ha => by
    have hs := h t (by simp)
    simp only [List.length_cons] at hl
    have ih := fun a ha' => parse_loop rest (pre ++ [t]) a k (fun q hq => h q (by simp [hq])) (by simp; omega) ha'
    simp only [List.append_assoc, List.singleton_append, List.length_append, List.length_cons, List.length_nil, Int.natCast_add] at ih
    rw [show 2 * (t :: rest).length + (k + 1) = (2 * rest.length + (k + 1)) + 1 + 1 by simp; omega]
    rw [script_Parse.l0, if_pos (by simp; omega), if_pos (by omega), if_pos (by simp; omega), rdOf_at, ByteArray.toList_eq]
    have hj : ∀ b, b = skipS t.data.toList → script_Parse.j1 (2 * rest.length + (k + 1) + 1) (pre.length : Int) t (pre ++ t :: rest) ((pre ++ t :: rest).length : Int) (pre.length : Int) b (acc.map mk39) = some (resS (goS ((t :: rest).map (·.data.toList)) (pre.length : Int) acc)) := by
      intro b hb
      rw [List.map_cons, goS, ← hb, script_Parse.j1]
      cases b with
      | true =>
        rw [if_pos rfl, if_pos rfl, w64 (by omega) (by omega)]
        simp only [List.length_append, List.length_cons, Int.natCast_add] at ih ⊢
        exact ih acc (by omega)
      | false =>
        simp only [Bool.false_eq_true, if_false]
        rw [w64 (by omega) (by omega)]
        have hlen : ((acc.map mk39).length : Int) = (acc.length : Int) := by simp
        by_cases h4 : acc.length = 400
        · rw [if_pos (show ((acc.map mk39).length : Int) = 400 by omega), if_pos h4]; rfl
        · rw [if_neg (show ¬ ((acc.map mk39).length : Int) = 400 by omega), if_neg h4]
          cases he : evS t.data.toList with
          | ok r =>
            have hA : evA t = some r := by unfold evA; rw [if_pos hs, he]
            rw [if_pos (by unfold evOk; rw [hA]; rfl)]
            unfold script_event.f
            rw [hA, some_bind, if_pos (by simp; omega)]
            have := ih (acc ++ [r]) (by simp; omega)
            simp only [List.map_append, List.map_cons, List.map_nil, List.length_append, List.length_cons, Int.natCast_add] at this ⊢
            exact this
          | error c =>
            have hA : evA t = none := by unfold evA; rw [if_pos hs, he]
            rw [if_neg (by unfold evOk; rw [hA]; simp), if_pos (by unfold evBad; rw [hA]; simp [hs])]
            have hE : evErr t = c := by unfold evErr; rw [he]
            rw [hE]; rfl
    cases ht : t.data.toList with
    | nil =>
      rw [if_pos rfl]
      exact hj true (by rw [ht]; rfl)
    | cons x r =>
      obtain ⟨h1, h2⟩ := bt_zero t x r ht
      rw [if_neg (by simp), if_pos (by omega), h2]
      refine hj _ ?_
      rw [ht]
      exact (u8_eq x 35 (by decide)).trans (by simp [skipS])
theorem parse_law (a : ByteArray) : ∃ K, ∀ k, K ≤ k → script_Parse.f k a = some (resS (parseS a.data.toList)) := by
  have hup : ∀ K v, script_Parse.f K a = some v → ∀ k, K ≤ k → script_Parse.f k a = some v := by
    intro K v h k hk
    obtain ⟨d, rfl⟩ : ∃ d, k = K + d := ⟨k - K, by omega⟩
    induction d with
    | zero => exact h
    | succ d ih => exact script_Parse.mono a (K + d) _ (ih (by omega))
  unfold parseS
  rw [data_size]
  by_cases hs : 20000 < a.size
  · refine ⟨0, fun k _ => ?_⟩
    unfold script_Parse.f
    rw [if_pos (by omega), if_pos hs]; rfl
  · have hsp : splitF a ⟨#[10]⟩ = some (Lib.splitB ⟨#[10]⟩ 0 (Lib.countB a ⟨#[10]⟩) a) := by
      unfold splitF; rw [if_pos ⟨by omega, by decide⟩]
    have hw := split_words 10 a
    generalize Lib.splitB ⟨#[10]⟩ 0 (Lib.countB a ⟨#[10]⟩) a = ts at hsp hw
    have hl := splitOn_len 10 a.data.toList
    rw [← hw, data_size] at hl
    have hn : ts.length ≤ 30001 := by have := hl.1; simp at this; omega
    have hg : ∀ p ∈ ts, p.size ≤ 30000 := fun p hp => by
      have := hl.2 _ (List.mem_map_of_mem (f := fun x : ByteArray => x.data.toList) hp); rw [data_size] at this; omega
    refine ⟨_, hup (2 * ts.length + (0 + 1)) _ ?_⟩
    unfold script_Parse.f strings_Split.f
    rw [if_neg (by omega), if_neg hs, hsp, some_bind, ← hw]
    have := parse_loop ts [] [] 0 hg (by simp; omega) (by simp)
    simpa using this
end Go.Proofs.YtjeicglkanfbjaaDoor.Pure
