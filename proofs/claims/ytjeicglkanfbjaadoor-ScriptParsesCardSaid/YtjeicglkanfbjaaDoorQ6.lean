/- The reference's Parse gives what a script means. -/
import Derived.Test.YtjeicglkanfbjaaDoorQ5
import Derived.Test.YtjeicglkanfbjaaDoorS3
namespace Go.Proofs.YtjeicglkanfbjaaDoor.Pure
open Go.RowKit Go.Proofs.YtjeicglkanfbjaaDoorW.PrintWords Go.Proofs.YtjeicglkanfbjaaDoorW.PrintMore Go.Proofs.YtjeicglkanfbjaaDoor.PT
/-- The bytes up to the next new line. -/
def upTo (l : List UInt8) : List UInt8 := l.takeWhile (fun c => !(c == 10))
theorem upTo_cons (c : UInt8) (l : List UInt8) : upTo (c :: l) = if c = 10 then [] else c :: upTo l := by
  unfold upTo
  by_cases h : c = 10 <;> simp [h]
theorem upTo_split : ∀ l : List UInt8, (upTo l).length ≤ l.length ∧ (∀ c ∈ upTo l, c ≠ 10) ∧ ((l = upTo l ∧ splitOn 10 l = [upTo l]) ∨ ∃ q, l = upTo l ++ 10 :: q ∧ splitOn 10 l = upTo l :: splitOn 10 q)
  | [] => ⟨Nat.le_refl _, by simp [upTo], .inl ⟨rfl, rfl⟩⟩
  | c :: l => by
    obtain ⟨h1, h2, h3⟩ := upTo_split l
    rw [upTo_cons]
    by_cases hc : c = 10
    · subst hc
      rw [if_pos rfl]
      exact ⟨Nat.zero_le _, by simp, .inr ⟨l, rfl, by rw [splitOn, if_pos rfl]⟩⟩
    · rw [if_neg hc]
      refine ⟨by simpa using h1, ?_, ?_⟩
      · intro x hx
        rcases List.mem_cons.1 hx with rfl | hx
        · exact hc
        · exact h2 x hx
      · rcases h3 with ⟨h4, h5⟩ | ⟨q, h4, h5⟩
        · refine .inl ⟨congrArg _ h4, ?_⟩
          rw [splitOn, if_neg hc, h5]
        · refine .inr ⟨q, ?_, ?_⟩
          · rw [List.cons_append, ← h4]
          · rw [splitOn, if_neg hc, h5]
/-- Scanning to the end of a line. -/
theorem scan (a : ByteArray) (hs : a.size ≤ 20000) (out : List S39) (n frm : Int) (X : List S39 × Int × Int) : ∀ (d tt : Nat), a.size - tt = d → tt ≤ a.size →
    Ev (fun k => skiarearef60_Parse.j2 k a out n frm ((tt + (upTo (a.data.toList.drop tt)).length : Nat) : Int)) X → Ev (fun k => skiarearef60_Parse.l1 k a out n frm (tt : Int)) X
  | 0, tt, hd, ht, hX => by
    rw [List.drop_eq_nil_of_le (by rw [data_size]; omega)] at hX
    refine hX.step fun k => ?_
    show skiarearef60_Parse.l1 (k + 1) a out n frm (tt : Int) = _
    rw [skiarearef60_Parse.l1, if_neg (by omega)]
    rfl
  | d + 1, tt, hd, ht, hX => by
    obtain ⟨c, h1, h2⟩ := bt_at a tt (by omega)
    rw [drop_at h1, upTo_cons] at hX
    by_cases hc : c = 10
    · rw [if_pos hc] at hX
      refine hX.step fun k => ?_
      show skiarearef60_Parse.l1 (k + 1) a out n frm (tt : Int) = _
      rw [skiarearef60_Parse.l1, if_pos (by omega), if_pos (by omega), h2, if_pos (by rw [hc]; rfl)]
      rfl
    · rw [if_neg hc] at hX
      have ih := scan a hs out n frm X d (tt + 1) (by omega) (by omega) (by
        have e : tt + (c :: upTo (a.data.toList.drop (tt + 1))).length = tt + 1 + (upTo (a.data.toList.drop (tt + 1))).length := by simp; omega
        rw [e] at hX; exact hX)
      refine ih.step fun k => ?_
      show skiarearef60_Parse.l1 (k + 1) a out n frm (tt : Int) = _
      rw [skiarearef60_Parse.l1, if_pos (by omega), if_pos (by omega), h2, if_neg (fun e => hc (UInt8.toNat_inj.1 (by simpa using (by omega : c.toNat = 10)))), w64 (by omega) (by omega)]
      rfl
theorem extract_data (a : ByteArray) (i j : Nat) : (a.extract i j).data.toList = (a.data.toList.drop i).take (j - i) := by
  simp [ByteArray.data_extract, Array.toList_extract]
/-- What is left behind a line. -/
theorem parse_from (a : ByteArray) (hs : a.size ≤ 20000) : ∀ (d frm n : Nat) (acc : List (Int × List Int)), a.size - frm = d → frm ≤ a.size → n ≤ frm → acc.length ≤ 400 →
    Ev (fun k => skiarearef60_Parse.l0 k a (acc.map mk39) (n : Int) (frm : Int)) (resS (goS (splitOn 10 (a.data.toList.drop frm)) (n : Int) acc)) := by
  intro d
  induction d using Nat.strongRecOn with
  | _ d ih =>
  intro frm n acc hd hf hn ha
  by_cases hlt : frm < a.size
  · obtain ⟨h1, h2, h3⟩ := upTo_split (a.data.toList.drop frm)
    have hlen : (a.data.toList.drop frm).length = a.size - frm := by rw [List.length_drop, data_size]
    generalize hp : upTo (a.data.toList.drop frm) = p at h1 h2 h3
    -- behind the line
    have hrest : ∃ R : List (List UInt8), splitOn 10 (a.data.toList.drop frm) = p :: R ∧ ∀ acc' : List (Int × List Int), acc'.length ≤ 400 → Ev (fun k => skiarearef60_Parse.l0 k a (acc'.map mk39) ((n : Int) + 1) (((frm + p.length : Nat) : Int) + 1)) (resS (goS R ((n : Int) + 1) acc')) := by
      rcases h3 with ⟨h4, h5⟩ | ⟨q, h4, h5⟩
      · refine ⟨[], h5, fun acc' ha' => Ev.one fun k => ?_⟩
        show skiarearef60_Parse.l0 (k + 1) a (acc'.map mk39) ((n : Int) + 1) (((frm + p.length : Nat) : Int) + 1) = _
        have : p.length = a.size - frm := by rw [← hlen, h4]
        rw [skiarearef60_Parse.l0, if_neg (by omega)]
        rfl
      · refine ⟨splitOn 10 q, h5, fun acc' ha' => ?_⟩
        have hq : a.data.toList.drop (frm + p.length + 1) = q := by
          have e : a.data.toList.drop (frm + p.length + 1) = (a.data.toList.drop frm).drop (p.length + 1) := by rw [List.drop_drop]; congr 1
          rw [e, h4]; simp
        have hl2 : p.length + 1 ≤ a.size - frm := by rw [← hlen, h4]; simp
        have := ih (a.size - (frm + p.length + 1)) (by omega) (frm + p.length + 1) (n + 1) acc' rfl (by omega) (by omega) ha'
        rw [hq] at this
        simpa using this
    obtain ⟨R, e1, e2⟩ := hrest
    rw [e1, goS]
    have hto : frm + p.length ≤ a.size := by omega
    -- the line's text
    have hx : (a.extract (frm : Int).toNat ((frm + p.length : Nat) : Int).toNat).data.toList = p := by
      have t1 : (frm : Int).toNat = frm := rfl
      have t2 : ((frm + p.length : Nat) : Int).toNat = frm + p.length := rfl
      rw [t1, t2, extract_data, show frm + p.length - frm = p.length by omega]
      rcases h3 with ⟨h4, h5⟩ | ⟨q, h4, h5⟩
      · rw [← h4, List.take_of_length_le (by omega)]
      · rw [h4]; simp
    have hxs : (a.extract (frm : Int).toNat ((frm + p.length : Nat) : Int).toNat).size ≤ 30000 := by rw [← data_size, hx]; omega
    -- j3, not skipped
    have hj3 : Ev (fun k => skiarearef60_Parse.j3 k a (acc.map mk39) ((n : Int) + 1) (frm : Int) ((frm + p.length : Nat) : Int) true) (resS (if acc.length = 400 then .error ((n : Int) + 1, 4) else match evS p with | .ok e => goS R ((n : Int) + 1) (acc ++ [e]) | .error c => .error ((n : Int) + 1, c))) := by
      by_cases h4 : acc.length = 400
      · rw [if_pos h4]
        refine Ev.one fun k => ?_
        show skiarearef60_Parse.j3 (k + 1) _ _ _ _ _ true = _
        rw [skiarearef60_Parse.j3, if_pos rfl, if_pos (by rw [List.length_map]; omega)]
        rfl
      · rw [if_neg h4]
        have hl := line_law _ hxs
        rw [hx] at hl
        have hu : ∀ k r, skiarearef60_line.f k (a.extract (frm : Int).toNat ((frm + p.length : Nat) : Int).toNat) = some r → skiarearef60_Parse.j3 (k + 1) a (acc.map mk39) ((n : Int) + 1) (frm : Int) ((frm + p.length : Nat) : Int) true = if r.2.2 = 0 then skiarearef60_Parse.l0 k a (acc.map mk39 ++ [⟨r.1, r.2.1⟩]) ((n : Int) + 1) (((frm + p.length : Nat) : Int) + 1) else some ([], (n : Int) + 1, r.2.2) := fun k r hr => by
          rw [skiarearef60_Parse.j3, if_pos rfl, if_neg (by rw [List.length_map]; omega), if_pos (by omega), if_pos (by omega), if_pos (by omega), hr, some_bind]
          by_cases hz : r.2.2 = 0
          · rw [if_pos hz, if_pos hz, if_pos (by rw [List.length_map]; omega), w64 (by omega) (by omega)]
          · rw [if_neg hz, if_neg hz]
        cases he : evS p with
        | ok e =>
          rw [he] at hl
          have h5 := e2 (acc ++ [e]) (by simp; omega)
          refine Ev.step2 h5 hl fun k hk => ?_
          show skiarearef60_Parse.j3 (k + 1) _ _ _ _ _ true = _
          rw [hu k _ hk]
          show (if (0 : Int) = 0 then _ else _) = _
          rw [if_pos rfl, List.map_append]
          rfl
        | error c =>
          rw [he] at hl
          have hc : c ≠ 0 := by have := evS_err he; omega
          refine Ev.last hl fun k hk => ?_
          show skiarearef60_Parse.j3 (k + 1) _ _ _ _ _ true = _
          rw [hu k _ hk]
          show (if c = 0 then _ else _) = _
          rw [if_neg hc]
          rfl
    have hj3f : Ev (fun k => skiarearef60_Parse.j3 k a (acc.map mk39) ((n : Int) + 1) (frm : Int) ((frm + p.length : Nat) : Int) false) (resS (goS R ((n : Int) + 1) acc)) := (e2 acc ha).step fun k => by
      show skiarearef60_Parse.j3 (k + 1) _ _ _ _ _ false = _
      rw [skiarearef60_Parse.j3, if_neg (by simp), w64 (by omega) (by omega)]
    have hj : Ev (fun k => skiarearef60_Parse.j3 k a (acc.map mk39) ((n : Int) + 1) (frm : Int) ((frm + p.length : Nat) : Int) (!skipS p)) (resS (if skipS p = true then goS R ((n : Int) + 1) acc else if acc.length = 400 then .error ((n : Int) + 1, 4) else match evS p with | .ok e => goS R ((n : Int) + 1) (acc ++ [e]) | .error c => .error ((n : Int) + 1, c))) := by
      by_cases hsk : skipS p = true
      · rw [hsk, if_pos rfl]; exact hj3f
      · have hsk' : skipS p = false := by simpa using hsk
        rw [hsk', if_neg (by simp)]; exact hj3
    have hj2 : Ev (fun k => skiarearef60_Parse.j2 k a (acc.map mk39) (n : Int) (frm : Int) ((frm + p.length : Nat) : Int)) _ := hj.step fun k => by
      show skiarearef60_Parse.j2 (k + 1) a (acc.map mk39) (n : Int) (frm : Int) ((frm + p.length : Nat) : Int) = _
      cases hpp : p with
      | nil =>
        rw [skiarearef60_Parse.j2, if_neg (by simp), w64 (by omega) (by omega)]
        rfl
      | cons x t =>
        obtain ⟨c, b1, b2⟩ := bt_at a frm hlt
        have hcx : c = x := by
          have h6 := drop_at b1
          rw [← hp, h6, upTo_cons] at hpp
          split at hpp
          · exact absurd hpp (by simp)
          · exact (List.cons.inj hpp).1
        rw [skiarearef60_Parse.j2, if_pos (by simp; omega), if_pos (by omega), if_pos (by omega), w64 (by omega) (by omega), b2, hcx]
        have : ((x.toNat : Int) != 35) = !skipS (x :: t) := by
          have := u8_eq x 35 (by decide)
          unfold bne
          rw [show (((x.toNat : Int) == 35) = (x == UInt8.ofNat 35)) from this]
          simp [skipS]
        rw [this]
    have hl1 := scan a hs (acc.map mk39) (n : Int) (frm : Int) _ _ frm rfl hf (by rw [hp]; exact hj2)
    refine hl1.step fun k => ?_
    show skiarearef60_Parse.l0 (k + 1) a (acc.map mk39) (n : Int) (frm : Int) = _
    rw [skiarearef60_Parse.l0, if_pos (by omega)]
  · refine Ev.one fun k => ?_
    show skiarearef60_Parse.l0 (k + 1) a (acc.map mk39) (n : Int) (frm : Int) = _
    rw [skiarearef60_Parse.l0, if_neg (by omega), List.drop_eq_nil_of_le (by rw [data_size]; omega)]
    rfl
theorem refParse_law (a : ByteArray) : Ev (fun k => skiarearef60_Parse.f k a) (resS (parseS a.data.toList)) := by
  unfold parseS
  rw [data_size]
  by_cases hs : 20000 < a.size
  · rw [if_pos hs]
    refine ⟨0, fun k _ => ?_⟩
    show skiarearef60_Parse.f k a = _
    unfold skiarearef60_Parse.f
    rw [if_pos (by omega)]; rfl
  · rw [if_neg hs]
    obtain ⟨K, h⟩ := parse_from a (by omega) _ 0 0 [] rfl (Nat.zero_le _) (Nat.le_refl _) (by simp)
    refine ⟨K, fun k hk => ?_⟩
    show skiarearef60_Parse.f k a = _
    unfold skiarearef60_Parse.f
    rw [if_neg (by omega)]
    exact h k hk
end Go.Proofs.YtjeicglkanfbjaaDoor.Pure
