/- What the library's functions that the script calls leave: contracts in one form, the facts on the library's variables under one name. -/
import Derived.Test.YtjeicglkanfbjaaDoorShelf
import Derived.Test.YtjeicglkanfbjaaDoorWWords
import Derived.Test.YtjeicglkanfbjaaDoorWMore
import Derived.Laws.RangeString
import Derived.Laws.RangeAny
import Derived.LoopTactic
import Derived.Lib.SplitLaws
import Derived.Lib.AppendIntMem
import Derived.WalkLawsBesides
import Derived.WalkSpells
namespace Go.Proofs.YtjeicglkanfbjaaDoor
open Go.RowKit Go.Proofs.YtjeicglkanfbjaaDoorW.PrintWords
/-- What is asked of the library's variables: MaxLen holds a number, the table of the powers of ten is as its text lays it. -/
def GW (w : World) : Prop := (∃ m, w.cell? ⟨0, 0, none⟩ = some (.int .i64 m)) ∧ Lib.TabIs Tryd.prog w "internal/strconv.uint64pow10" .u64 Lib.pow10Tab
theorem glob_pow10 : (Tryd.prog.globalNamed "internal/strconv.uint64pow10").isSome = true := by kernel_rfl
theorem var?_lt {P : Program} {W : World} {n : String} {g : Nat} {cs : Array Value} (hg : P.globalNamed n = some g) (hv : W.var? P n = some cs) : g < W.heap.size := by
  unfold World.var? at hv
  rw [hg] at hv
  simp only [Option.bind_some] at hv
  cases h : W.heap[g]? with
  | none => rw [h] at hv; simp at hv
  | some o => exact (Array.getElem?_eq_some_iff.1 h).1
theorem GW_below {w w' : World} (h : GW w) (hb : Below w.heap.size w w') : GW w' := by
  obtain ⟨⟨m, hm⟩, ht⟩ := h
  obtain ⟨g, hg⟩ := Option.isSome_iff_exists.1 glob_pow10
  exact ⟨⟨m, pw_cell_below hb hm⟩, var?_below hb hg (var?_lt hg ht) ht⟩

/-! ### strings.Cut, strings.Split, strconv.Itoa, strconv.Atoi -/
def cutF (a0 a1 : ByteArray) : Option (ByteArray × ByteArray × Bool) :=
  if a0.size < 4294967281 then some (⟨(Lib.cut a0.data.toList a1.data.toList).1.toArray⟩, ⟨(Lib.cut a0.data.toList a1.data.toList).2.1.toArray⟩, (Lib.cut a0.data.toList a1.data.toList).2.2) else none
theorem cut_calls (a0 a1 r1 r2 : ByteArray) (r3 : Bool) (w : World) (hG : GW w) (h : cutF a0 a1 = some (r1, r2, r3)) :
    Calls Tryd.prog 31 #[.string a0, .string a1] w fun e w' => e = .returned (.tuple #[.string r1, .string r2, .bool r3]) ∧ Drawn0 w w' := by
  unfold cutF at h
  by_cases hs : a0.size < 4294967281
  · rw [if_pos hs] at h
    simp only [Option.some.injEq, Prod.mk.injEq] at h
    obtain ⟨rfl, rfl, rfl⟩ := h
    obtain ⟨⟨m, hm⟩, _⟩ := hG
    refine (Tryd.strings_Cut a0 a1 m w hs hm).mono ?_
    rintro e w' ⟨rfl, n, rfl⟩
    exact ⟨rfl, ⟨n, rfl⟩⟩
  · rw [if_neg hs] at h; exact absurd h (by simp)
def splitF (a0 a1 : ByteArray) : Option (List ByteArray) :=
  if a0.size < 4294967281 ∧ 1 ≤ a1.size then some (Lib.splitB a1 0 (Lib.countB a0 a1) a0) else none
theorem split_calls (a0 a1 : ByteArray) (r : List ByteArray) (w : World) (hG : GW w) (h : splitF a0 a1 = some r) :
    Calls Tryd.prog 19 #[.string a0, .string a1] w fun e w' => ∃ v0_ : Value, e = .returned (v0_) ∧ Kd.R Kd.string 9 w' w.heap.size (fun _ => True) v0_ r ∧ Below w.heap.size w w' := by
  unfold splitF at h
  by_cases hs : a0.size < 4294967281 ∧ 1 ≤ a1.size
  · rw [if_pos hs] at h
    obtain rfl := Option.some.inj h
    obtain ⟨⟨m, hm⟩, _⟩ := hG
    refine (Tryd.strings_Split a0 a1 m w hs.1 hm hs.2).mono ?_
    rintro e w' ⟨rfl, rfl⟩
    have hl := Lib.splitB_all a1 hs.2 0 _ a0 rfl
    have hlen : Lib.countB a0 a1 + 1 ≤ maxLen := by
      have := Lib.countB_le a1 hs.2 a0.size a0 (Nat.le_refl _)
      unfold maxLen; omega
    generalize Lib.splitB a1 0 (Lib.countB a0 a1) a0 = l at *
    generalize Lib.countB a0 a1 + 1 = n at *
    subst hl
    refine ⟨_, rfl, ⟨fun _ _ => trivial, l.map Value.string, ⟨by simp [Kd.string, Kd.scalar], .inr ⟨w.heap.size, l.length, _, rfl, Nat.le_refl _, (MapKept.heap_alloc w _).1, Nat.le_refl _, hlen, by simp [Kd.string, Kd.scalar], ?_⟩⟩, by simp [Kd.string, Kd.scalar], ?_⟩, (Below.refl _ w).alloc (Nat.le_refl _) _⟩
    · simp only [Kd.string, Kd.scalar, Nat.mul_one]
      rw [List.take_of_length_le (by simp)]
    · intro j p hp
      obtain ⟨hj, rfl⟩ := List.getElem?_eq_some_iff.1 hp
      simp only [Kd.string, Kd.scalar, Nat.mul_one]
      rw [List.drop_eq_getElem_cons (by simpa using hj)]
      simp
  · rw [if_neg hs] at h; exact absurd h (by simp)
def itoaF (n : Int) : Option ByteArray := if -9223372036854775808 ≤ n ∧ n ≤ 9223372036854775807 then some ⟨(Lib.itoa n).toArray⟩ else none
theorem itoa_calls (n : Int) (r : ByteArray) (w : World) (hG : GW w) (h : itoaF n = some r) :
    Calls Tryd.prog 22 #[.int .i64 n] w fun e w' => e = .returned (.string r) ∧ Below w.heap.size w w' := by
  unfold itoaF at h
  by_cases hs : -9223372036854775808 ≤ n ∧ n ≤ 9223372036854775807
  · rw [if_pos hs] at h
    obtain rfl := Option.some.inj h
    refine (Tryd.strconv_Itoa n hs.1 hs.2 w hG.2).mono ?_
    rintro e w' ⟨rfl, k, os, rfl⟩
    exact ⟨rfl, Lib.below_grow w.heap.size w (Nat.le_refl _) k os⟩
  · rw [if_neg hs] at h; exact absurd h (by simp)
def atoiF (s : ByteArray) : Option (Int × Option Int) := if s.size ≤ 18 then (Lib.atoi s.data.toList).map fun n => (n, none) else none
theorem atoi_calls (s : ByteArray) (r1 : Int) (r2 : Option Int) (w : World) (h : atoiF s = some (r1, r2)) :
    Calls Tryd.prog 48 #[.string s] w fun e w' => e = .returned (.tuple #[.int .i64 r1, .nilIface]) ∧ r2 = none ∧ Below w.heap.size w w' := by
  unfold atoiF at h
  by_cases hs : s.size ≤ 18
  · rw [if_pos hs] at h
    obtain ⟨n, hn, e⟩ := Option.map_eq_some_iff.1 h
    simp only [Prod.mk.injEq] at e
    obtain ⟨rfl, rfl⟩ := e
    refine (Tryd.strconv_Atoi s n hs hn w).mono ?_
    rintro e w' ⟨rfl, t, rfl⟩
    refine ⟨rfl, rfl, ?_⟩
    exact bytes_below (Below.refl _ w) (Nat.le_refl _) 5 t
  · rw [if_neg hs] at h; exact absurd h (by simp)

/-! ### script.digits -/
def dig (c : UInt8) : Bool := decide (48 ≤ c.toNat) && decide (c.toNat ≤ 57)
/-- Is it a decimal number, as the script has them? -/
def okNum (l : List UInt8) : Bool :=
  let d := Lib.trimPrefix l [45]
  !d.isEmpty && !(d.head? == some 48 && (decide (1 < d.length) || decide (1 < l.length))) && d.all dig
def digitsF (s : ByteArray) : Option (ByteArray × Bool) :=
  if maxLen < s.size then none else some (if okNum s.data.toList then (⟨(Lib.trimPrefix s.data.toList [45]).toArray⟩, true) else (⟨#[]⟩, false))
theorem digits_trim (s d : ByteArray) (hd : d = ⟨(Lib.trimPrefix s.data.toList [45]).toArray⟩) (w : World) :
    Calls Tryd.prog 47 #[.string s, .string ⟨#[45]⟩] w fun e w' => e = .returned (.string d) ∧ w = w' := by
  refine (Tryd.strings_TrimPrefix s ⟨#[45]⟩ w).mono ?_
  rintro e w' ⟨rfl, rfl⟩
  exact ⟨by rw [hd], rfl⟩
set_option maxHeartbeats 1000000 in
theorem digits_empty (s d : ByteArray) (w : World) (hd : d = ⟨(Lib.trimPrefix s.data.toList [45]).toArray⟩) (he : d.toList.isEmpty = true) :
    Calls Tryd.prog 32 #[.string s] w fun e w' => e = .returned (.tuple #[.string ⟨#[]⟩, .bool false]) ∧ Below w.heap.size w w' := by
  have HC := Aside0.mk (digits_trim s d hd w)
  clear hd
  go_enter Tryd.func32, Tryd.ntmps32
  go_wp2_with (go_at_call 47; (with_reducible refine HC.out.mono ?_); rintro e w' ⟨rfl, rfl⟩)
  go_ret2
  exact ⟨rfl, Below.refl _ _⟩
set_option maxHeartbeats 1000000 in
theorem digits_zero (s d : ByteArray) (w : World) (hd : d = ⟨(Lib.trimPrefix s.data.toList [45]).toArray⟩) (he : d.toList.isEmpty = false) (hp : 0 < d.size) (hz : (((d[0]'hp).toNat : Int) == 48) = true) (b1 b2 : Bool) (hb1 : decide (1 < (d.size : Int)) = b1) (hb2 : decide (1 < (s.size : Int)) = b2) (hb : (b1 || b2) = true) :
    Calls Tryd.prog 32 #[.string s] w fun e w' => e = .returned (.tuple #[.string ⟨#[]⟩, .bool false]) ∧ Below w.heap.size w w' := by
  have HC := Aside0.mk (digits_trim s d hd w)
  clear hd
  cases b1 <;> cases b2
  · simp at hb
  all_goals
    clear hb
    go_enter Tryd.func32, Tryd.ntmps32
    go_wp2_with (go_at_call 47; (with_reducible refine HC.out.mono ?_); rintro e w' ⟨rfl, rfl⟩)
    go_ret2
    exact ⟨rfl, Below.refl _ _⟩
theorem dig_take (d : ByteArray) (k : Nat) (h : k < d.size) (ha : (d.data.toList.take k).all dig = true) (hk : dig d[k] = true) : (d.data.toList.take (k + 1)).all dig = true := by
  rw [List.take_succ_eq_append_getElem (by simpa using h), List.all_append, ha]
  simp only [List.all_cons, List.all_nil, Bool.and_true, Bool.true_and]
  exact hk
theorem dig_all_false (d : ByteArray) (k : Nat) (h : k < d.size) (hk : dig d[k] = false) : d.data.toList.all dig = false := by
  rw [List.all_eq_false]
  exact ⟨d[k], List.getElem_mem (by simpa using h), by simpa using hk⟩
set_option maxHeartbeats 2000000 in
theorem digits_loop (s d : ByteArray) (w : World) (r1 : ByteArray) (r2 : Bool) (HR : Aside0 ((r1, r2) = if d.data.toList.all dig then (d, true) else (⟨#[]⟩, false))) (hd : d = ⟨(Lib.trimPrefix s.data.toList [45]).toArray⟩) (he : d.toList.isEmpty = false) (hp : 0 < d.size) (zb : Bool) (hz : (((d[0]'hp).toNat : Int) == 48) = zb) (hb1 : zb = true → decide (1 < (d.size : Int)) = false) (hb2 : zb = true → decide (1 < (s.size : Int)) = false) (hm : d.size ≤ maxLen) :
    Calls Tryd.prog 32 #[.string s] w fun e w' => e = .returned (.tuple #[.string r1, .bool r2]) ∧ Below w.heap.size w w' := by
  have HC := Aside0.mk (digits_trim s d hd w)
  unfold maxLen at hm
  clear hd
  cases zb
  case' true => replace hb1 := hb1 rfl; replace hb2 := hb2 rfl
  case' false => clear hb1 hb2
  all_goals
    go_enter Tryd.func32, Tryd.ntmps32
    go_wp2_with (go_at_call 47; (with_reducible refine HC.out.mono ?_); rintro e w' ⟨rfl, rfl⟩)
    go_loopw [6] (fun _ wr => ∃ pos : Nat, pos ≤ d.size ∧ wr = w.iter d pos ∧ Aside0 ((d.data.toList.take pos).all dig = true)) (fun _ wr => d.size - wr.iterPos w.heap.size)
    case atStart => exact ⟨0, Nat.zero_le _, rfl, ⟨by simp⟩⟩
    case round =>
      obtain ⟨pos, hpos, rfl, HA⟩ := hrel
      clear HC hz
      by_cases hlt : pos < d.size
      · by_cases hd : dig d[pos] = true
        · have HN := Aside0.mk (dig_take d pos hlt HA.out hd)
          have hd2 : 48 ≤ d[pos].toNat ∧ d[pos].toNat ≤ 57 := by simpa [dig] using hd
          have t1 : decide ((d[pos].toNat : Int) < 48) = false := by simp; omega
          have t2 : decide (57 < (d[pos].toNat : Int)) = false := by simp; omega
          have hnx : ∀ ty, (Instr.next (.pointer (some ⟨w.heap.size, 0, none⟩)) true ty).run Tryd.prog (w.iter d pos) = _ := fun ty => run_next_ascii w d pos ty hlt (by omega)
          clear hd hd2
          go_wp2
          go_roundw
          case rel => exact ⟨pos + 1, by omega, rfl, HN⟩
          case measure => simp; omega
        · have hd' : dig d[pos] = false := by simpa using hd
          have HF := Aside0.mk (dig_all_false d pos hlt hd')
          by_cases ha : d[pos].toNat < 128
          · have hnx : ∀ ty, (Instr.next (.pointer (some ⟨w.heap.size, 0, none⟩)) true ty).run Tryd.prog (w.iter d pos) = _ := fun ty => run_next_ascii w d pos ty hlt ha
            by_cases t : d[pos].toNat < 48
            · have t1 : decide ((d[pos].toNat : Int) < 48) = true := by simp; omega
              clear hd hd' t
              go_wp2
              go_ret2
              have HE := HR.out.trans (if_neg (by rw [HF.out]; decide))
              obtain ⟨rfl, rfl⟩ := Prod.mk.inj HE
              exact ⟨rfl, (Below.refl _ _).alloc (Nat.le_refl _) _⟩
            · have hd2 : 57 < d[pos].toNat := by
                simp [dig] at hd'; omega
              have t1 : decide ((d[pos].toNat : Int) < 48) = false := by simp; omega
              have t2 : decide (57 < (d[pos].toNat : Int)) = true := by simp; omega
              clear hd hd' t
              go_wp2
              go_ret2
              have HE := HR.out.trans (if_neg (by rw [HF.out]; decide))
              obtain ⟨rfl, rfl⟩ := Prod.mk.inj HE
              exact ⟨rfl, (Below.refl _ _).alloc (Nat.le_refl _) _⟩
          · have hnx : ∀ ty, (Instr.next (.pointer (some ⟨w.heap.size, 0, none⟩)) true ty).run Tryd.prog (w.iter d pos) = _ := fun ty => run_next_any w d pos ty hlt
            have hh := (decode_high d pos hlt (by omega)).1
            have t1 : decide (((Utf8.decode d pos).1 : Int) < 48) = false := by simp; omega
            have t2 : decide (57 < ((Utf8.decode d pos).1 : Int)) = true := by simp; omega
            clear hd hd' hh
            go_wp2
            go_ret2
            have HE := HR.out.trans (if_neg (by rw [HF.out]; decide))
            obtain ⟨rfl, rfl⟩ := Prod.mk.inj HE
            exact ⟨rfl, (Below.refl _ _).alloc (Nat.le_refl _) _⟩
      · have hnx : ∀ ty, (Instr.next (.pointer (some ⟨w.heap.size, 0, none⟩)) true ty).run Tryd.prog (w.iter d pos) = _ := fun ty => run_next_end w d pos ty hlt
        have HT := HA.out
        rw [List.take_of_length_le (by simp; omega)] at HT
        have HT' := Aside0.mk HT
        clear HT
        go_wp2
        go_ret2
        have HE := HR.out.trans (if_pos HT'.out)
        obtain ⟨rfl, rfl⟩ := Prod.mk.inj HE
        exact ⟨rfl, (Below.refl _ _).alloc (Nat.le_refl _) _⟩
theorem dec1 (n : Nat) : decide (1 < (n : Int)) = decide (1 < n) := by
  by_cases h : 1 < n
  · rw [decide_eq_true h, decide_eq_true (by omega : (1 : Int) < (n : Int))]
  · rw [decide_eq_false h, decide_eq_false (by omega : ¬ (1 : Int) < (n : Int))]
theorem digits_calls (s r1 : ByteArray) (r2 : Bool) (w : World) (h : digitsF s = some (r1, r2)) :
    Calls Tryd.prog 32 #[.string s] w fun e w' => e = .returned (.tuple #[.string r1, .bool r2]) ∧ Below w.heap.size w w' := by
  unfold digitsF at h
  by_cases hm : maxLen < s.size
  · rw [if_pos hm] at h; exact absurd h (by simp)
  rw [if_neg hm] at h
  have h := Option.some.inj h
  generalize hd : (⟨(Lib.trimPrefix s.data.toList [45]).toArray⟩ : ByteArray) = d at h
  have hdl : Lib.trimPrefix s.data.toList [45] = d.data.toList := by rw [← hd]
  have hle : d.size ≤ s.size := by
    have : (Lib.trimPrefix s.data.toList [45]).length ≤ s.data.toList.length := by
      unfold Lib.trimPrefix; split <;> simp
    rw [hdl] at this
    simpa using this
  have hsz : d.data.toList.length = d.size := by simp
  have hss : s.data.toList.length = s.size := by simp
  unfold okNum at h
  simp only [hdl, hsz, hss] at h
  by_cases he : d.data.toList.isEmpty = true
  · rw [if_neg (by simp [he])] at h
    obtain ⟨rfl, rfl⟩ := Prod.mk.inj h
    exact digits_empty s d w hd.symm (by rw [ByteArray.toList_eq]; exact he)
  · have he' : d.data.toList.isEmpty = false := by simpa using he
    have hp : 0 < d.size := by
      rw [← hsz]; exact List.length_pos_iff.2 (by intro h0; rw [h0] at he; exact he rfl)
    have hhd : d.data.toList.head? = some d[0] := by
      rw [List.head?_eq_getElem?, List.getElem?_eq_getElem (by rw [hsz]; exact hp)]
      rfl
    have hz8 : (((d[0]'hp).toNat : Int) == 48) = (d[0] == 48) := by
      rw [Bool.eq_iff_iff]
      simp only [beq_iff_eq]
      constructor
      · intro h; apply UInt8.toNat_inj.1; simpa using (by omega : d[0].toNat = 48)
      · intro h; rw [h]; rfl
    by_cases hb : (d[0] == 48 && (decide (1 < d.size) || decide (1 < s.size))) = true
    · simp only [Bool.and_eq_true] at hb
      obtain ⟨h0, hb⟩ := hb
      have h00 : d.data.toList.head? == some 48 := by rw [hhd]; simpa using h0
      rw [if_neg (by rw [h00, hb]; simp)] at h
      obtain ⟨rfl, rfl⟩ := Prod.mk.inj h
      exact digits_zero s d w hd.symm (by rw [ByteArray.toList_eq]; exact he') hp (by rw [hz8]; exact h0) (decide (1 < d.size)) (decide (1 < s.size)) (dec1 _) (dec1 _) hb
    · refine digits_loop s d w r1 r2 ⟨?_⟩ hd.symm (by rw [ByteArray.toList_eq]; exact he') hp _ rfl ?_ ?_ (by omega)
      · have h1 : (d.data.toList.head? == some 48) = (d[0] == 48) := by rw [hhd]; rfl
        rw [Bool.not_eq_true] at hb
        rw [h1, hb, he', Bool.not_false, Bool.true_and, Bool.true_and] at h
        exact h.symm
      · intro hz; rw [hz8] at hz; rw [hz, Bool.true_and, Bool.or_eq_true, not_or] at hb; rw [dec1]; simpa using hb.1
      · intro hz; rw [hz8] at hz; rw [hz, Bool.true_and, Bool.or_eq_true, not_or] at hb; rw [dec1]; simpa using hb.2
end Go.Proofs.YtjeicglkanfbjaaDoor
