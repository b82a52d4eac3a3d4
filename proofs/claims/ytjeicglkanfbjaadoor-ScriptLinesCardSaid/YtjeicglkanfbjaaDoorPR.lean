/- script.Print, walked: what it returns is 'printF'. -/
import Derived.Test.YtjeicglkanfbjaaDoorPB
namespace Go.Proofs.YtjeicglkanfbjaaDoor
open Go.Proofs.YtjeicglkanfbjaaDoorX
open Go.RowKit Go.Proofs.YtjeicglkanfbjaaDoorW.PrintWords Go.Proofs.YtjeicglkanfbjaaDoorW.PrintLast Go.Proofs.YtjeicglkanfbjaaDoorW.PrintMore
open Go.Proofs.YtjeicglkanfbjaaDoor.PE
attribute [local go_sem] Go.Proofs.YtjeicglkanfbjaaDoorX.cell_set
set_option linter.unusedVariables false
set_option linter.unusedSimpArgs false
/-- A list of events that came in. -/
def EvsAt (w : World) (A : Option Addr) (l : List (Int × List Int)) : Prop := ∀ i : Int, 0 ≤ i → i < l.length → ∃ ad A1 c1, A = some ad ∧ w.cell? (ad.add (i.toNat * 2)) = some (.int .i64 (l.getD i.toNat (0, [])).1) ∧
  w.cell? ⟨(ad.add (i.toNat * 2)).block, (ad.add (i.toNat * 2)).off + 1, none⟩ = some (.slice A1 (l.getD i.toNat (0, [])).2.length c1) ∧ (l.getD i.toNat (0, [])).2.length ≤ c1 ∧ Kd.C (Kd.int .i64) w A1 (l.getD i.toNat (0, [])).2.length (l.getD i.toNat (0, [])).2
theorem add0 (g k : Nat) : (⟨g, 0, none⟩ : Addr).add k = ⟨g, k, none⟩ := by
  unfold Addr.add
  split <;> simp_all
/-- The row of forms, in its block. -/
def FormsAt (g : Nat) (cur : Array Value) (w : World) : Prop := w.heap[g]? = some (.cells cur 56 (0, 0)) ∧ ∀ i : Int, 0 ≤ i → i < 44 → cur[i.toNat * 3]? = some (.string (rd_T56 formsE i).f0) ∧ cur[i.toNat * 3 + 1]? = some (.int .i64 (rd_T56 formsE i).f1) ∧ cur[i.toNat * 3 + 2]? = some (.bool (rd_T56 formsE i).f2)
theorem forms_at {w : World} {B : Nat} {ok : Nat → Prop} {v : Value} (h : Kd.R k56 56 w B ok v formsE) : ∃ g cap cur, v = .slice (some ⟨g, 0, none⟩) 44 cap ∧ B ≤ g ∧ 44 ≤ cap ∧ FormsAt g cur w := by
  obtain ⟨_, inner, ⟨hn, ho⟩, _⟩ := id h
  rcases ho with ⟨_, h0⟩ | ⟨g, cap, cur, rfl, hB, hg, _⟩
  · exact absurd h0 (by rw [forms_len]; decide)
  · obtain ⟨_, h2, hC⟩ := Kd.R_reads' h
    refine ⟨g, cap, cur, rfl, hB, h2, hg, fun i h0 h1 => ?_⟩
    obtain ⟨ad, e, c0, c1, c2⟩ := at_T56 hC i h0 (by rw [forms_len]; exact h1)
    obtain rfl := Option.some.inj e
    rw [add0] at c0 c1 c2
    rw [Lib.cell_of_heap hg] at c0 c1 c2
    exact ⟨c0, c1, c2⟩
/-- What a walk of script.Print carries: its world, the builder's bytes, the row of forms. -/
structure Held (w : World) (gf : Nat) (cur : Array Value) (acc : List UInt8) (W : World) : Prop where
  below : Below w.heap.size w W
  bd : Bd w.heap.size w.heap.size acc W
  forms : FormsAt gf cur W
theorem Held.step {w W W1 : World} {gf : Nat} {cur : Array Value} {acc : List UInt8} (h : Held w gf cur acc W) (hb : Below W.heap.size W W1) : Held w gf cur acc W1 :=
  ⟨below_step h.below hb, h.bd.below hb, blk_below h.forms.1 hb, h.forms.2⟩
theorem Held.set {w W : World} {gf : Nat} {cur : Array Value} {acc : List UInt8} (h : Held w gf cur acc W) {g : Nat} {cs : Array Value} {t : TypeId} (hc : W.heap[g]? = some (.cells cs t (0, 0))) (ht : t ≠ 5) (h1 : w.heap.size ≤ g) (h2 : w.heap.size ≠ g) (h3 : gf ≠ g) (i : Nat) (u : Value) : Held w gf cur acc (W.setCell ⟨g, i, none⟩ u) :=
  ⟨below_set h.below h1, h.bd.far _ _ h2 ⟨cs, t, ht, hc⟩, blk_far h.forms.1 h3 _, h.forms.2⟩
theorem forms_word (K : Int) (h1 : 1 ≤ K) (h2 : K ≤ 44) : (rd_T56 formsE (K - 1)).f0.data.toList = wordAt K := by
  obtain ⟨n, hn⟩ : ∃ n : Nat, (K - 1).toNat = n := ⟨_, rfl⟩
  have hlt : n < formsS.length := by rw [formsS_len]; omega
  unfold rd_T56 wordAt formsE
  rw [hn, List.getD_eq_getElem?_getD, List.getElem?_map, List.getElem?_eq_getElem hlt]
  rfl
theorem Held.write {w W W1 : World} {gf : Nat} {cur : Array Value} {acc acc1 : List UInt8} (h : Held w gf cur acc W) (hf : gf ≠ w.heap.size) (hb : Below w.heap.size W W1) (hd : Bd w.heap.size w.heap.size acc1 W1) (hk : Lib.OthersKept 5 (some w.heap.size) W W1) : Held w gf cur acc1 W1 :=
  ⟨h.below.trans hb, hd, kept_blk hk h.forms.1 hf (by decide), h.forms.2⟩

set_option maxHeartbeats 2000000 in
set_option maxRecDepth 100000 in
theorem print_walk (A0 : Option Addr) (c0 : Nat) (l0 : List (Int × List Int)) (res : Except Int (List UInt8)) (w : World) (hG : GW w) (hr0 : EvsAt w A0 l0) (hc0 : l0.length ≤ c0) (hs : smallS l0 = true) (hp : printGo l0 [] = res) :
    Calls Tryd.prog 16 #[.slice A0 l0.length c0] w fun e w' => e = .returned (.tuple #[.string (endP res).1, .int .i64 (endP res).2]) ∧ Below w.heap.size w w' := by
  have HG := Aside0.mk hG
  have HR0 := Aside0.mk hr0
  have HC0 := Aside0.mk hc0
  have HS := Aside0.mk hs
  have HP := Aside0.mk hp
  have HS1 : Aside0 (l0.length ≤ 420) := ⟨by
    simp only [smallS, Bool.and_eq_true, decide_eq_true_eq] at hs
    exact hs.1⟩
  clear hG hr0 hc0 hs hp
  have HB := Aside0.mk (Below.refl w.heap.size w)
  go_enter Tryd.func16, Tryd.ntmps16
  go_wp2_with (first | ((with_reducible refine gate_dst (N := 4) rfl ?_); refine box_event ?hg (N := 4) ?hd (cs := #[.pointer none, .slice none 0 0]) (t := 52) ?hr ?_; (case hd => rfl); (case hg => rfl); (case hr => first | (go_simp; done) | (go_simp; rfl)); intro gb hg w1 hbox hb; subst hg; have n0_ := Aside0.mk (below_step HB.out hb); have HBd := Aside0.mk (Bd.new w w1 hbox); have HSZ := Aside0.mk (blk_lt hbox); clear HB; have HB := n0_; clear n0_; clear hb hbox) | ((with_reducible refine gate_callee (f := 24) rfl ?_); refine goesL_ (some 11) rfl rfl Tryd.func24 (by kernel_rfl) rfl #[] rfl (by (try simp only [List.map_toArray, List.map_cons, List.map_nil]); first | done | rfl) ?_; (with_reducible refine (script_forms.calls formsE _ forms_eq).mono ?_); rintro e w2 ⟨v2, rfl, ho0, hb⟩; refine ⟨_, rfl, ?_⟩; obtain ⟨gf, cf, cur, rfl, hgf, hcf, hfa⟩ := forms_at ho0; have HE := Aside0.mk (show Held w gf cur [] w2 from ⟨below_step HB.out hb, HBd.out.below hb, hfa⟩); have HGF := Aside0.mk (by have := HSZ.out; omega : gf ≠ w.heap.size); have HCF := Aside0.mk hcf; clear HB HBd HSZ hb hfa hgf hcf ho0))
  go_loopg [14] l0.length (fun kq v14 w' => ∃ (x : Int) (acc : List UInt8), v14 = .int .i64 x ∧ Aside0 (0 ≤ x ∧ x + kq = l0.length) ∧ Aside0 (printGo (l0.drop x.toNat) acc = res) ∧ Aside0 (acc.length ≤ 1400 * x.toNat) ∧ Aside0 (Held w gf cur acc w'))
  case atStart => exact ⟨0, [], by first | rfl | simp, ⟨by omega, by omega⟩, HP, ⟨by simp⟩, HE⟩
  case round =>
    clear HP HE
    obtain ⟨x, acc, rfl, HX, HP, HL, HE⟩ := hrel
    have hx0' := HX.out.1
    by_cases cx : x < (l0.length : Int)
    · have cxb : decide (x < (l0.length : Int)) = true := decide_eq_true cx
      obtain ⟨k1, rfl⟩ : ∃ k1, gk = k1 + 1 := ⟨gk - 1, by have := HX.out.2; omega⟩
      obtain ⟨ad, A1, c1, hA, hx0, hx1, hl1, hr1⟩ := HR0.out x hx0' cx
      have HD : l0.drop x.toNat = l0.getD x.toNat (0, []) :: l0.drop (x.toNat + 1) := by
        rw [List.drop_eq_getElem_cons (by omega), List.getD_eq_getElem?_getD, List.getElem?_eq_getElem (by omega)]; rfl
      have HSm : (l0.getD x.toNat (0, [])).2.length ≤ 60 := by
        have := HS.out
        simp only [smallS, Bool.and_eq_true, List.all_eq_true, decide_eq_true_eq] at this
        refine this.2 _ ?_
        rw [List.getD_eq_getElem?_getD, List.getElem?_eq_getElem (by omega)]
        exact List.getElem_mem _
      have H := HP.out
      rw [HD, printGo] at H
      clear HD HP
      subst hA
      generalize (l0.getD x.toNat (0, [])).2 = ag at hx1 hl1 hr1 H HSm
      generalize (l0.getD x.toNat (0, [])).1 = K at hx0 H
      replace hx0 := (HE.out.below.cell (World.block_lt_of_cell? w _ hx0)).trans hx0
      replace hx1 := (HE.out.below.cell (World.block_lt_of_cell? w _ hx1)).trans hx1
      have HR1 := Aside0.mk hr1
      have HL1 := Aside0.mk hl1
      have HSM := Aside0.mk HSm
      have px := eq_true hx0'
      have qx := eq_true cx
      clear hr1 hl1 HSm hx0' cx
      by_cases k1 : K < 1
      · rw [if_pos (.inl k1)] at H
        have k1b : decide (K < 1) = true := decide_eq_true k1
        clear k1
        subst H
        go_wp2_with (first | ((with_reducible refine gate_dst (N := 7) rfl ?_); refine box_event ?hg (N := 7) ?hd (cs := #[.int .i64 0, .slice none 0 0]) (t := 39) ?hr ?_; (case hd => rfl); (case hg => rfl); (case hr => first | (go_simp; done) | (go_simp; rfl)); intro ge hg w3 hbox hb; have n0_ := Aside0.mk (HE.out.step hb); have HNB := Aside0.mk (by rw [hg]; exact Nat.ne_of_lt HE.out.bd.lt : w.heap.size ≠ ge); have HNF := Aside0.mk (by rw [hg]; exact Nat.ne_of_lt (blk_lt HE.out.forms.1) : gf ≠ ge); have HGE := Aside0.mk (by rw [hg]; exact below_size HE.out.below : w.heap.size ≤ ge); have BE := Aside0.mk hbox; clear HE; have HE := n0_; clear n0_ hb hg hbox; have e0_ : w3.cell? ⟨ge, 0, none⟩ = some (.int .i64 0) := (blk_cell BE.out 0).trans rfl; have e1_ : w3.cell? ⟨ge, 1, none⟩ = some (.slice none 0 0) := (blk_cell BE.out 1).trans rfl; have f0_ := blk_frozen BE.out 0; have f1_ := blk_frozen BE.out 1))
        go_ret2
        exact ⟨by first | rfl | simp [endP], by repeat (first | exact HE.out.below | refine below_set ?_ HGE.out | refine below_set ?_ HGQ.out)⟩
      · have k1b : decide (K < 1) = false := decide_eq_false k1
        by_cases k2 : 44 < K
        · rw [if_pos (.inr k2)] at H
          have k2b : decide (44 < K) = true := decide_eq_true k2
          clear k1 k2
          subst H
          go_wp2_with (first | ((with_reducible refine gate_dst (N := 7) rfl ?_); refine box_event ?hg (N := 7) ?hd (cs := #[.int .i64 0, .slice none 0 0]) (t := 39) ?hr ?_; (case hd => rfl); (case hg => rfl); (case hr => first | (go_simp; done) | (go_simp; rfl)); intro ge hg w3 hbox hb; have n0_ := Aside0.mk (HE.out.step hb); have HNB := Aside0.mk (by rw [hg]; exact Nat.ne_of_lt HE.out.bd.lt : w.heap.size ≠ ge); have HNF := Aside0.mk (by rw [hg]; exact Nat.ne_of_lt (blk_lt HE.out.forms.1) : gf ≠ ge); have HGE := Aside0.mk (by rw [hg]; exact below_size HE.out.below : w.heap.size ≤ ge); have BE := Aside0.mk hbox; clear HE; have HE := n0_; clear n0_ hb hg hbox; have e0_ : w3.cell? ⟨ge, 0, none⟩ = some (.int .i64 0) := (blk_cell BE.out 0).trans rfl; have e1_ : w3.cell? ⟨ge, 1, none⟩ = some (.slice none 0 0) := (blk_cell BE.out 1).trans rfl; have f0_ := blk_frozen BE.out 0; have f1_ := blk_frozen BE.out 1))
          go_ret2
          exact ⟨by first | rfl | simp [endP], by repeat (first | exact HE.out.below | refine below_set ?_ HGE.out | refine below_set ?_ HGQ.out)⟩
        · rw [if_neg (by omega)] at H
          have k2b : decide (44 < K) = false := decide_eq_false k2
          have HK := Aside0.mk (show 0 ≤ K - 1 ∧ K - 1 < 44 ∧ wrap64 (K - 1) = K - 1 from ⟨by omega, by omega, w64 (by omega) (by omega)⟩)
          obtain ⟨j, hj⟩ : ∃ j : Int, j = K - 1 := ⟨_, rfl⟩
          have HJ := Aside0.mk (show 0 ≤ j ∧ j < 44 ∧ wrap64 (K - 1) = j from ⟨by omega, by omega, by rw [hj]; exact HK.out.2.2⟩)
          have hw_ : wrap64 (K - 1) = j := HJ.out.2.2
          have HFIT0 := fits_law K (ag.length : Int) (by omega) (by omega)
          have HW0 : Aside0 ((rd_T56 formsE j).f0.data.toList = wordAt K) := ⟨by rw [hj]; exact forms_word K (by omega) (by omega)⟩
          rw [hw_] at HFIT0
          obtain ⟨z0, z1, z2⟩ := HE.out.forms.2 j HJ.out.1 HJ.out.2.1
          generalize (rd_T56 formsE j).f0 = W0 at HFIT0 HW0 z0
          generalize (rd_T56 formsE j).f1 = n0 at HFIT0 z1
          generalize (rd_T56 formsE j).f2 = b0 at HFIT0 z2
          have HFIT := Aside0.mk HFIT0
          have Z0 := Aside0.mk z0
          have Z1 := Aside0.mk z1
          have Z2 := Aside0.mk z2
          have pj : (0 ≤ j) = True := eq_true HJ.out.1
          have qj : (j < 44) = True := eq_true HJ.out.2.1
          clear k1 k2 HFIT0 z0 z1 z2 hj HK
          by_cases k3 : fitsS K (ag.length : Int) = true
          · rw [if_pos k3] at H
            rw [k3] at HFIT
            clear k3
            have HWL : Aside0 (W0.size ≤ 7) := ⟨by
              have := word_len K
              rw [← HW0.out] at this
              simpa using this⟩
            have HP2 := Aside0.mk H
            clear H
            go_wp2_with (first | ((with_reducible refine gate_dst (N := 7) rfl ?_); refine box_event ?hg (N := 7) ?hd (cs := #[.int .i64 0, .slice none 0 0]) (t := 39) ?hr ?_; (case hd => rfl); (case hg => rfl); (case hr => first | (go_simp; done) | (go_simp; rfl)); intro ge hg w3 hbox hb; have n0_ := Aside0.mk (HE.out.step hb); have HNB := Aside0.mk (by rw [hg]; exact Nat.ne_of_lt HE.out.bd.lt : w.heap.size ≠ ge); have HNF := Aside0.mk (by rw [hg]; exact Nat.ne_of_lt (blk_lt HE.out.forms.1) : gf ≠ ge); have HGE := Aside0.mk (by rw [hg]; exact below_size HE.out.below : w.heap.size ≤ ge); have BE := Aside0.mk hbox; clear HE; have HE := n0_; clear n0_ hb hg hbox; have e0_ : w3.cell? ⟨ge, 0, none⟩ = some (.int .i64 0) := (blk_cell BE.out 0).trans rfl; have e1_ : w3.cell? ⟨ge, 1, none⟩ = some (.slice none 0 0) := (blk_cell BE.out 1).trans rfl; have f0_ := blk_frozen BE.out 0; have f1_ := blk_frozen BE.out 1; have g0_ : w3.cell? ⟨gf, j.toNat * 3, none⟩ = some (.string W0) := (Lib.cell_of_heap HE.out.forms.1 _).trans Z0.out; have g1_ : w3.cell? ⟨gf, j.toNat * 3 + 1, none⟩ = some (.int .i64 n0) := (Lib.cell_of_heap HE.out.forms.1 _).trans Z1.out; have g2_ : w3.cell? ⟨gf, j.toNat * 3 + 2, none⟩ = some (.bool b0) := (Lib.cell_of_heap HE.out.forms.1 _).trans Z2.out; have hnf_ := HNF.out) | ((with_reducible refine gate_dst (N := 8) rfl ?_); refine box_event ?hg (N := 8) ?hd (cs := #[.string ⟨#[]⟩, .int .i64 0, .bool false]) (t := 56) ?hr ?_; (case hd => rfl); (case hg => rfl); (case hr => first | (go_simp; done) | (go_simp; rfl)); intro gq hg w4 hbox hb; have m0_ := ((HE.out.set BE.out (by decide) HGE.out HNB.out HNF.out 0 (.int .i64 K)).set (blk_put BE.out 0 (.int .i64 K) rfl) (by decide) HGE.out HNB.out HNF.out 1 (.slice A1 ag.length c1)); have m1_ := (blk_put (blk_put BE.out 0 (.int .i64 K) rfl) 1 (.slice A1 ag.length c1) rfl); have n0_ := Aside0.mk (m0_.step hb); have n1_ := Aside0.mk (blk_below m1_ hb); have HNQ := Aside0.mk (by rw [hg]; exact Nat.ne_of_lt m0_.bd.lt : w.heap.size ≠ gq); have HNG := Aside0.mk (by rw [hg]; exact Nat.ne_of_lt (blk_lt m0_.forms.1) : gf ≠ gq); have HGQ := Aside0.mk (by rw [hg]; exact below_size m0_.below : w.heap.size ≤ gq); have HNEQ := Aside0.mk (by rw [hg]; exact Nat.ne_of_lt (blk_lt m1_) : ge ≠ gq); have BQ := Aside0.mk hbox; clear HE BE m0_ m1_; have HE := n0_; have BE := n1_; clear n0_ n1_ hb hg hbox e0_ e1_ f0_ f1_ g0_ g1_ g2_ hnf_; have q0_ : w4.cell? ⟨gq, 0, none⟩ = some (.string ⟨#[]⟩) := (blk_cell BQ.out 0).trans rfl; have q1_ : w4.cell? ⟨gq, 1, none⟩ = some (.int .i64 0) := (blk_cell BQ.out 1).trans rfl; have q2_ : w4.cell? ⟨gq, 2, none⟩ = some (.bool false) := (blk_cell BQ.out 2).trans rfl; have f0_ := blk_frozen BQ.out 0; have f1_ := blk_frozen BQ.out 1; have f2_ := blk_frozen BQ.out 2; have e0_ : w4.cell? ⟨ge, 0, none⟩ = some (.int .i64 K) := (blk_cell BE.out 0).trans rfl; have e1_ : w4.cell? ⟨ge, 1, none⟩ = some (.slice A1 ag.length c1) := (blk_cell BE.out 1).trans rfl; have hneq_ := HNEQ.out) | ((with_reducible refine gate_callee (f := 25) rfl ?_); refine goesL_ (some 38) rfl rfl Tryd.func25 (by kernel_rfl) rfl #[.agg #[.string W0, .int .i64 n0, .bool b0], .int .i64 (ag.length : Int)] rfl (by (try simp only [List.map_toArray, List.map_cons, List.map_nil]); first | done | rfl) ?_; (with_reducible refine (script_form_fits.calls W0 n0 b0 (ag.length : Int) true _ HFIT.out).mono ?_); rintro e w5 ⟨rfl, hb⟩; refine ⟨_, rfl, ?_⟩; have m0_ := ((((HE.out).set (BQ.out) (by decide) HGQ.out HNQ.out HNG.out 0 (.string W0)).set (blk_put (BQ.out) 0 (.string W0) rfl) (by decide) HGQ.out HNQ.out HNG.out 1 (.int .i64 n0)).set (blk_put (blk_put (BQ.out) 0 (.string W0) rfl) 1 (.int .i64 n0) rfl) (by decide) HGQ.out HNQ.out HNG.out 2 (.bool b0)); have m1_ := (blk_put (blk_put (blk_put (BQ.out) 0 (.string W0) rfl) 1 (.int .i64 n0) rfl) 2 (.bool b0) rfl); have m2_ := (blk_far (p := ⟨gq, 2, none⟩) (blk_far (p := ⟨gq, 1, none⟩) (blk_far (p := ⟨gq, 0, none⟩) (BE.out) HNEQ.out (.string W0)) HNEQ.out (.int .i64 n0)) HNEQ.out (.bool b0)); have n0_ := Aside0.mk (m0_.step hb); have n1_ := Aside0.mk (blk_below m1_ hb); have n2_ := Aside0.mk (blk_below m2_ hb); clear HE BE BQ m0_ m1_ m2_ q0_ q1_ q2_ e0_ e1_ f0_ f1_ f2_; have HE := n0_; have BE := n2_; have BQ := n1_; clear n0_ n1_ n2_ hb; have q0_ : w5.cell? ⟨gq, 0, none⟩ = some (.string W0) := (blk_cell BQ.out 0).trans rfl; have e1_ : w5.cell? ⟨ge, 1, none⟩ = some (.slice A1 ag.length c1) := (blk_cell BE.out 1).trans rfl) | ((with_reducible refine gate_callee (f := 26) rfl ?_); refine goesL_ (some 42) rfl rfl Tryd.func26 (by kernel_rfl) rfl #[.pointer (some ⟨w.heap.size, 0, none⟩), .string W0] rfl (by (try simp only [List.map_toArray, List.map_cons, List.map_nil]); first | done | rfl) ?_; (with_reducible refine (write_calls w.heap.size w.heap.size acc W0 _ HE.out.bd (by have := HL.out; have := HWL.out; have := HS1.out; have := HX.out; omega) (below_size HE.out.below)).mono ?_); rintro e w6 ⟨rfl, hd, hb, hk⟩; refine ⟨_, rfl, ?_⟩; have n0_ := Aside0.mk (HE.out.write HGF.out hb hd hk); have n1_ := Aside0.mk (kept_blk hk BE.out (fun h => HNB.out h.symm) (by decide)); clear BE BQ q0_ e1_; have BE := n1_; clear n1_; have e1_ : w6.cell? ⟨ge, 1, none⟩ = some (.slice A1 ag.length c1) := (blk_cell BE.out 1).trans rfl; clear HE; have HE := n0_; clear n0_ hd hb hk))
            rw [HW0.out] at HE
            go_loopg [46] ag.length (fun kq v46 w' => ∃ (y : Int) (a2 : List UInt8), v46 = .int .i64 y ∧ Aside0 (0 ≤ y ∧ y + kq = ag.length) ∧ Aside0 ((match argsGo (ag.drop y.toNat) a2 with
              | some a => printGo (l0.drop (x.toNat + 1)) (a ++ [10])
              | none => .error 2) = res) ∧ Aside0 (a2.length ≤ 1400 * x.toNat + 7 + 22 * y.toNat) ∧ Aside0 (Held w gf cur a2 w'))
            case atStart => exact ⟨0, acc ++ wordAt K, by first | rfl | simp, ⟨by omega, by omega⟩, HP2, ⟨by have := word_len K; have := HL.out; simp; omega⟩, HE⟩
            case round =>
              clear HP2 HE HFIT HW0 HWL Z0 Z1 Z2 BE e1_ hx0 hx1 k1b k2b HJ hw_ pj qj hneq_
              obtain ⟨y, a2, rfl, HY, HP, HL2, HE⟩ := hrel
              have hy0 := HY.out.1
              by_cases cy : y < (ag.length : Int)
              · have cyb : decide (y < (ag.length : Int)) = true := decide_eq_true cy
                have HD2 : ag.drop y.toNat = rd ag y :: ag.drop (y.toNat + 1) := by
                  rw [List.drop_eq_getElem_cons (by omega), rd, List.getD_eq_getElem?_getD, List.getElem?_eq_getElem (by omega)]; rfl
                have H := HP.out
                rw [HD2, argsGo] at H
                clear HD2 HP
                obtain ⟨ad2, hA2, hn⟩ := Kd.at_int HR1.out y hy0 cy
                subst hA2
                generalize rd ag y = n at hn H
                replace hn := (HE.out.below.cell (World.block_lt_of_cell? w _ hn)).trans hn
                have py := eq_true hy0
                have qy := eq_true cy
                clear hy0 cy
                by_cases n1 : n < (-1125899906842624)
                · rw [if_neg (by simp [inN]; omega)] at H
                  have n1b : decide (n < (-1125899906842624)) = true := decide_eq_true n1
                  clear n1
                  subst H
                  go_wp2
                  go_ret2
                  exact ⟨by first | rfl | simp [endP], by repeat (first | exact HE.out.below | refine below_set ?_ HGE.out | refine below_set ?_ HGQ.out)⟩
                · have n1b : decide (n < (-1125899906842624)) = false := decide_eq_false n1
                  by_cases n2 : 1125899906842624 < n
                  · rw [if_neg (by simp [inN]; omega)] at H
                    have n2b : decide (1125899906842624 < n) = true := decide_eq_true n2
                    clear n1 n2
                    subst H
                    go_wp2
                    go_ret2
                    exact ⟨by first | rfl | simp [endP], by repeat (first | exact HE.out.below | refine below_set ?_ HGE.out | refine below_set ?_ HGQ.out)⟩
                  · rw [if_pos (by simp [inN]; omega)] at H
                    have n2b : decide (1125899906842624 < n) = false := decide_eq_false n2
                    obtain ⟨t, ht⟩ : ∃ t : ByteArray, t = ⟨(Lib.itoa n).toArray⟩ := ⟨_, rfl⟩
                    have HT : Aside0 (itoaF n = some t) := ⟨by unfold itoaF; rw [if_pos (by omega), ht]⟩
                    have HTD : Aside0 (Lib.itoa n = t.data.toList) := ⟨by rw [ht]⟩
                    have hts : t.size ≤ 21 := by
                      have := Lib.itoa_length_le n (by omega) (by omega)
                      rw [ht]; exact this
                    have HTS := Aside0.mk hts
                    have s1 : (1 + t.size ≤ 9223372036854775807) = True := eq_true (by omega)
                    have s2 : decide (1 + t.size ≤ 9223372036854775807) = true := decide_eq_true (by omega)
                    have s3 : (9223372036854775807 < 1 + t.size) = False := eq_false (by omega)
                    have hw1 : wrap64 (y + 1) = y + 1 := w64 (by have := HY.out; omega) (by have := HY.out; have := HSM.out; omega)
                    have HWB : Aside0 (a2.length + ((⟨#[32]⟩ : ByteArray) ++ t).size ≤ 140737488355328) := ⟨by have := HL2.out; have := HTS.out; have := HS1.out; have := HX.out; have := HY.out; have := HSM.out; rw [ByteArray.size_append]; show _ + (1 + _) ≤ _; omega⟩
                    have HP3 := Aside0.mk H
                    clear H n1 n2 hts ht
                    go_wp2_with (first | ((with_reducible refine gate_callee (f := 22) rfl ?_); refine goesL_ (some 57) rfl rfl Tryd.func22 (by kernel_rfl) rfl #[.int .i64 n] rfl (by (try simp only [List.map_toArray, List.map_cons, List.map_nil]); first | done | rfl) ?_; (with_reducible refine (itoa_calls n t _ (GW_below HG.out HE.out.below) HT.out).mono ?_); rintro e w7 ⟨rfl, hb⟩; refine ⟨_, rfl, ?_⟩; have n0_ := Aside0.mk (HE.out.step hb); clear HE; have HE := n0_; clear n0_ hb) | ((with_reducible refine gate_callee (f := 26) rfl ?_); refine goesL_ (some 59) rfl rfl Tryd.func26 (by kernel_rfl) rfl #[.pointer (some ⟨w.heap.size, 0, none⟩), .string ((⟨#[32]⟩ : ByteArray) ++ t)] rfl (by (try simp only [List.map_toArray, List.map_cons, List.map_nil]); first | done | rfl) ?_; (with_reducible refine (write_calls w.heap.size w.heap.size a2 ((⟨#[32]⟩ : ByteArray) ++ t) _ HE.out.bd (HWB.out) (below_size HE.out.below)).mono ?_); rintro e w8 ⟨rfl, hd, hb, hk⟩; refine ⟨_, rfl, ?_⟩; have n0_ := Aside0.mk (HE.out.write HGF.out hb hd hk);  clear HE; have HE := n0_; clear n0_ hd hb hk))
                    cases gk with
                    | zero => exact absurd HY.out.2 (by have := of_eq_true qy; omega)
                    | succ k2 =>
                      go_roundg k2
                      case measure => omega
                      case rel => exact ⟨y + 1, a2 ++ 32 :: Lib.itoa n, by first | rfl | simp [hw1], ⟨by have := HY.out; omega, by have := HY.out; omega⟩, ⟨by have := HP3.out; rw [show (y + 1).toNat = y.toNat + 1 by have := HY.out; omega]; exact this⟩, ⟨by have := HL2.out; have := HTS.out; have := HTD.out; have := HY.out; rw [HTD.out]; simp; omega⟩, ⟨by rw [HTD.out]; have := HE.out; simpa using this⟩⟩
              · have cyb : decide (y < (ag.length : Int)) = false := decide_eq_false cy
                have H := HP.out
                rw [List.drop_eq_nil_of_le (by omega), argsGo] at H
                have hw1 : wrap64 (x + 1) = x + 1 := w64 (by have := HX.out; omega) (by have := HX.out; have := HS1.out; omega)
                have HP3 := Aside0.mk H
                have HYL := Aside0.mk (show y.toNat ≤ 60 by have := HY.out; have := HSM.out; omega)
                have HWB : Aside0 (a2.length + (⟨#[10]⟩ : ByteArray).size ≤ 140737488355328) := ⟨by have := HL2.out; have := HYL.out; have := HS1.out; have := HX.out; show _ + 1 ≤ _; omega⟩
                clear H HP cy hy0
                go_wp2_with (first | ((with_reducible refine gate_callee (f := 26) rfl ?_); refine goesL_ (some 61) rfl rfl Tryd.func26 (by kernel_rfl) rfl #[.pointer (some ⟨w.heap.size, 0, none⟩), .string (⟨#[10]⟩ : ByteArray)] rfl (by (try simp only [List.map_toArray, List.map_cons, List.map_nil]); first | done | rfl) ?_; (with_reducible refine (write_calls w.heap.size w.heap.size a2 (⟨#[10]⟩ : ByteArray) _ HE.out.bd (HWB.out) (below_size HE.out.below)).mono ?_); rintro e w9 ⟨rfl, hd, hb, hk⟩; refine ⟨_, rfl, ?_⟩; have n0_ := Aside0.mk (HE.out.write HGF.out hb hd hk);  clear HE; have HE := n0_; clear n0_ hd hb hk))
                go_roundg k1
                case measure => omega
                case rel => exact ⟨x + 1, a2 ++ [10], by first | rfl | simp [hw1], ⟨by have := HX.out; omega, by have := HX.out; omega⟩, ⟨by have := HP3.out; rw [show (x + 1).toNat = x.toNat + 1 by have := HX.out; omega]; exact this⟩, ⟨by have := HL2.out; have := HYL.out; have := HX.out; simp; omega⟩, ⟨by have := HE.out; simpa using this⟩⟩
          · rw [if_neg k3] at H
            have k3' : fitsS K (ag.length : Int) = false := by simpa using k3
            rw [k3'] at HFIT
            clear k3 k3'
            subst H
            go_wp2_with (first | ((with_reducible refine gate_dst (N := 7) rfl ?_); refine box_event ?hg (N := 7) ?hd (cs := #[.int .i64 0, .slice none 0 0]) (t := 39) ?hr ?_; (case hd => rfl); (case hg => rfl); (case hr => first | (go_simp; done) | (go_simp; rfl)); intro ge hg w3 hbox hb; have n0_ := Aside0.mk (HE.out.step hb); have HNB := Aside0.mk (by rw [hg]; exact Nat.ne_of_lt HE.out.bd.lt : w.heap.size ≠ ge); have HNF := Aside0.mk (by rw [hg]; exact Nat.ne_of_lt (blk_lt HE.out.forms.1) : gf ≠ ge); have HGE := Aside0.mk (by rw [hg]; exact below_size HE.out.below : w.heap.size ≤ ge); have BE := Aside0.mk hbox; clear HE; have HE := n0_; clear n0_ hb hg hbox; have e0_ : w3.cell? ⟨ge, 0, none⟩ = some (.int .i64 0) := (blk_cell BE.out 0).trans rfl; have e1_ : w3.cell? ⟨ge, 1, none⟩ = some (.slice none 0 0) := (blk_cell BE.out 1).trans rfl; have f0_ := blk_frozen BE.out 0; have f1_ := blk_frozen BE.out 1; have g0_ : w3.cell? ⟨gf, j.toNat * 3, none⟩ = some (.string W0) := (Lib.cell_of_heap HE.out.forms.1 _).trans Z0.out; have g1_ : w3.cell? ⟨gf, j.toNat * 3 + 1, none⟩ = some (.int .i64 n0) := (Lib.cell_of_heap HE.out.forms.1 _).trans Z1.out; have g2_ : w3.cell? ⟨gf, j.toNat * 3 + 2, none⟩ = some (.bool b0) := (Lib.cell_of_heap HE.out.forms.1 _).trans Z2.out; have hnf_ := HNF.out) | ((with_reducible refine gate_dst (N := 8) rfl ?_); refine box_event ?hg (N := 8) ?hd (cs := #[.string ⟨#[]⟩, .int .i64 0, .bool false]) (t := 56) ?hr ?_; (case hd => rfl); (case hg => rfl); (case hr => first | (go_simp; done) | (go_simp; rfl)); intro gq hg w4 hbox hb; have m0_ := ((HE.out.set BE.out (by decide) HGE.out HNB.out HNF.out 0 (.int .i64 K)).set (blk_put BE.out 0 (.int .i64 K) rfl) (by decide) HGE.out HNB.out HNF.out 1 (.slice A1 ag.length c1)); have m1_ := (blk_put (blk_put BE.out 0 (.int .i64 K) rfl) 1 (.slice A1 ag.length c1) rfl); have n0_ := Aside0.mk (m0_.step hb); have n1_ := Aside0.mk (blk_below m1_ hb); have HNQ := Aside0.mk (by rw [hg]; exact Nat.ne_of_lt m0_.bd.lt : w.heap.size ≠ gq); have HNG := Aside0.mk (by rw [hg]; exact Nat.ne_of_lt (blk_lt m0_.forms.1) : gf ≠ gq); have HGQ := Aside0.mk (by rw [hg]; exact below_size m0_.below : w.heap.size ≤ gq); have HNEQ := Aside0.mk (by rw [hg]; exact Nat.ne_of_lt (blk_lt m1_) : ge ≠ gq); have BQ := Aside0.mk hbox; clear HE BE m0_ m1_; have HE := n0_; have BE := n1_; clear n0_ n1_ hb hg hbox e0_ e1_ f0_ f1_ g0_ g1_ g2_ hnf_; have q0_ : w4.cell? ⟨gq, 0, none⟩ = some (.string ⟨#[]⟩) := (blk_cell BQ.out 0).trans rfl; have q1_ : w4.cell? ⟨gq, 1, none⟩ = some (.int .i64 0) := (blk_cell BQ.out 1).trans rfl; have q2_ : w4.cell? ⟨gq, 2, none⟩ = some (.bool false) := (blk_cell BQ.out 2).trans rfl; have f0_ := blk_frozen BQ.out 0; have f1_ := blk_frozen BQ.out 1; have f2_ := blk_frozen BQ.out 2; have e0_ : w4.cell? ⟨ge, 0, none⟩ = some (.int .i64 K) := (blk_cell BE.out 0).trans rfl; have e1_ : w4.cell? ⟨ge, 1, none⟩ = some (.slice A1 ag.length c1) := (blk_cell BE.out 1).trans rfl; have hneq_ := HNEQ.out) | ((with_reducible refine gate_callee (f := 25) rfl ?_); refine goesL_ (some 38) rfl rfl Tryd.func25 (by kernel_rfl) rfl #[.agg #[.string W0, .int .i64 n0, .bool b0], .int .i64 (ag.length : Int)] rfl (by (try simp only [List.map_toArray, List.map_cons, List.map_nil]); first | done | rfl) ?_; (with_reducible refine (script_form_fits.calls W0 n0 b0 (ag.length : Int) false _ HFIT.out).mono ?_); rintro e w5 ⟨rfl, hb⟩; refine ⟨_, rfl, ?_⟩; have m0_ := ((((HE.out).set (BQ.out) (by decide) HGQ.out HNQ.out HNG.out 0 (.string W0)).set (blk_put (BQ.out) 0 (.string W0) rfl) (by decide) HGQ.out HNQ.out HNG.out 1 (.int .i64 n0)).set (blk_put (blk_put (BQ.out) 0 (.string W0) rfl) 1 (.int .i64 n0) rfl) (by decide) HGQ.out HNQ.out HNG.out 2 (.bool b0)); have m1_ := (blk_put (blk_put (blk_put (BQ.out) 0 (.string W0) rfl) 1 (.int .i64 n0) rfl) 2 (.bool b0) rfl); have m2_ := (blk_far (p := ⟨gq, 2, none⟩) (blk_far (p := ⟨gq, 1, none⟩) (blk_far (p := ⟨gq, 0, none⟩) (BE.out) HNEQ.out (.string W0)) HNEQ.out (.int .i64 n0)) HNEQ.out (.bool b0)); have n0_ := Aside0.mk (m0_.step hb); have n1_ := Aside0.mk (blk_below m1_ hb); have n2_ := Aside0.mk (blk_below m2_ hb); clear HE BE BQ m0_ m1_ m2_ q0_ q1_ q2_ e0_ e1_ f0_ f1_ f2_; have HE := n0_; have BE := n2_; have BQ := n1_; clear n0_ n1_ n2_ hb; have q0_ : w5.cell? ⟨gq, 0, none⟩ = some (.string W0) := (blk_cell BQ.out 0).trans rfl; have e1_ : w5.cell? ⟨ge, 1, none⟩ = some (.slice A1 ag.length c1) := (blk_cell BE.out 1).trans rfl))
            go_ret2
            exact ⟨by first | rfl | simp [endP], by repeat (first | exact HE.out.below | refine below_set ?_ HGE.out | refine below_set ?_ HGQ.out)⟩
    · have cxb : decide (x < (l0.length : Int)) = false := decide_eq_false cx
      have H := HP.out
      rw [List.drop_eq_nil_of_le (by omega), printGo] at H
      clear HP cx hx0'
      subst H
      go_wp2_with (first | ((with_reducible refine gate_callee (f := 27) rfl ?_); refine goesL_ (some 63) rfl rfl Tryd.func27 (by kernel_rfl) rfl #[.pointer (some ⟨w.heap.size, 0, none⟩)] rfl (by (try simp only [List.map_toArray, List.map_cons, List.map_nil]); first | done | rfl) ?_; (with_reducible refine (string_calls w.heap.size w.heap.size acc _ HE.out.bd (below_size HE.out.below)).mono ?_); rintro e w10 ⟨rfl, hb⟩; refine ⟨_, rfl, ?_⟩; have HSB := Aside0.mk hb; clear hb))
      go_ret2
      exact ⟨by first | rfl | simp [endP], HE.out.below.trans HSB.out⟩
end Go.Proofs.YtjeicglkanfbjaaDoor
