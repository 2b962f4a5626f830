import Derived.Test.YtdbmllbphbhfpaaPureD
namespace Go.Proofs.Ytdbmllbphbhfpaa.Pure
open Go.RowKit Go.Proofs.Ytdbmllbphbhfpaa.POrd Go.Proofs.YtdbmllbphbhfpaaW.PrintWords Go.Proofs.YtdbmllbphbhfpaaW.PrintLast
set_option linter.unusedVariables false
set_option linter.unusedSimpArgs false

/-- The order, backwards. -/
theorem ev_back (c : List Int) (l : List S40) (other o : List Int) (n cc nn : Int) (ho : o.length ≤ 1000) (r : Bool)
    (hj : Ev (fun k => (impl_OrderCost.f k l other).bind fun t551 => ((impl_OrderCost.f k l o.reverse).bind fun t552 => (if t552 = n then (if t551 ≥ 0 then (laws_FnOrdered.j2 k c (decide (t551 < n))) else (laws_FnOrdered.j2 k c false)) else (laws_FnOrdered.j2 k c true)))) r) :
    ∀ (d : Nat) (i : Int), 0 ≤ i → (o.length : Int) - i = d → Ev (fun k => laws_FnOrdered.l0 k c l other o n (o.take i.toNat).reverse i) r
  | 0, i, h0, hm => by
    refine Ev.step (fun k => by rw [laws_FnOrdered.l0]) ?_
    rw [List.take_of_length_le (by omega)]
    simp (disch := omega) only [if_neg]
    exact hj
  | d + 1, i, h0, hm => by
    refine Ev.step (fun k => by rw [laws_FnOrdered.l0]) ?_
    have e : [rd o i] ++ (o.take i.toNat).reverse = (o.take (i + 1).toNat).reverse := by
      have : i.toNat < o.length := by omega
      rw [show (i + 1).toNat = i.toNat + 1 by omega, List.take_succ_eq_append_getElem this, List.reverse_append, show rd o i = o[i.toNat] by simp [rd, this]]
      rfl
    simp (disch := omega) only [if_pos, Option.bind_some, e, w64]
    have e2 : [rd o i].length + (o.take i.toNat).reverse.length < 17592186044416 := by simp; omega
    simp only [e2, if_true]
    exact ev_back c l other o n cc nn ho r hj d (i + 1) (by omega) (by omega)
/-- What comes last. -/
theorem ev_rest (c : List Int) (hc : c.length ≤ 1152921504606846976) : Ev (fun k => laws_FnOrdered.j2 k c false) true := by
  obtain ⟨a, b, hm, ha, hb⟩ := ev_dmoves c hc
  obtain ⟨l, n, hl, hD⟩ := ev_dms c hc
  obtain ⟨r, hr, hr0⟩ := ev_ms l n hD.ok
  refine Ev.step (fun k => by rw [laws_FnOrdered.j2]) ?_
  simp only [Bool.false_eq_true, if_false]
  refine Ev.bind hm (Ev.bind hl ?_)
  refine Ev.bind (ev_imoves 5 6 a b (by omega) (by omega)) ?_
  refine Ev.bind (ev_imoves 6 5 b a (by omega) (by omega)) ?_
  simp only [mv_comm b a, if_true]
  refine Ev.bind (ev_imoves 5 5 a a (by omega) (by omega)) ?_
  simp only [mv_self, if_true]
  refine Ev.bind hr ?_
  simp only [hr0, decide_true]
  exact Ev.now _
theorem FnOrdered : laws_FnOrdered.Pure := by
  intro c hc0 hc1 hb
  refine Ev.rounds ?_
  have hc : c.length ≤ 1152921504606846976 := by omega
  by_cases hbig : (c.length : Int) > 1048576
  · refine Ev.congr (f := fun _ => some true) (fun k => ?_) (Ev.now _)
    unfold laws_FnOrdered.f laws_big.f
    simp [hbig]
  refine Ev.congr (f := fun k => (spec_DrawOrderCost.f k c).bind fun bt528 => ((impl_BestOrder.f k bt528.1).bind fun t534 => ((impl_OrderCost.f k bt528.1 t534).bind fun t537 => ((impl_AreWorks.f k bt528.1).bind fun t538 => ((spec_AreWorks.f k bt528.1).bind fun t539 => (if (t538 != t539) = true then (some false) else ((impl_AreWorks.f k bt528.1).bind fun t540 => (if t540 = true then (if (t534.length : Int) = (bt528.1.length : Int) then (laws_FnOrdered.j0 k c bt528.1 bt528.2 t534 t537 (decide (t537 < 0))) else (laws_FnOrdered.j0 k c bt528.1 bt528.2 t534 t537 true)) else (some ((t534.length : Int) == 0)))))))))) (fun k => ?_) ?_
  · unfold laws_FnOrdered.f laws_big.f
    simp only [hbig, decide_false, Option.bind_some, Bool.false_eq_true, if_false]
  obtain ⟨l, other, hd, hD, hoth⟩ := ev_docost c hc
  refine Ev.bind hd ?_
  dsimp only
  have hbest := ev_ibest l hD.ok hD.small
  obtain ⟨b1, hb1, hi1⟩ := ev_iworks l hD.ok
  obtain ⟨b2, hb2, hi2⟩ := ev_sworks l hD.ok
  have hl5 := hD.1
  by_cases hw : works l
  · simp only [hw, if_true] at hbest
    obtain ⟨q0, q1, q2⟩ := best_is l hw
    generalize (best l).1 = o at hbest q0 q1 q2
    obtain ⟨_, hlen, hgood⟩ := oc_is q0
    refine Ev.bind hbest ?_
    refine Ev.bind (ev_iocost l o hD.ok hD.small (by omega)) ?_
    refine Ev.bind hb1 (Ev.bind hb2 ?_)
    simp only [hi1.2 hw, hi2.2 hw, bne_self_eq_false, Bool.false_eq_true, if_false]
    refine Ev.bind hb1 ?_
    simp only [hi1.2 hw, if_true, hlen]
    refine Ev.step (fun k => by rw [laws_FnOrdered.j0]) ?_
    have e : decide (oc l o < 0) = false := by simp; omega
    simp only [e, Bool.false_eq_true, if_false]
    have := ev_back c l other o (oc l o) 0 0 (by omega) true ?_ o.length 0 (by omega) (by omega)
    · simpa using this
    · refine Ev.bind (ev_iocost l other hD.ok hD.small hoth) ?_
      refine Ev.bind (ev_iocost l o.reverse hD.ok hD.small (by simp; omega)) ?_
      rw [oc_reverse hw hlen hgood]
      simp only [if_true]
      by_cases h : oc l other ≥ 0
      · have h2 : ¬ oc l other < oc l o := by have := q2 other h; omega
        simp only [h, if_true, h2, decide_false]
        exact ev_rest c hc
      · simp only [h, if_false]
        exact ev_rest c hc
  · simp only [hw, if_false] at hbest
    have f1 : b1 = false := by
      cases b1
      · rfl
      · exact absurd (hi1.1 rfl) hw
    have f2 : b2 = false := by
      cases b2
      · rfl
      · exact absurd (hi2.1 rfl) hw
    subst f1 f2
    refine Ev.bind hbest ?_
    refine Ev.bind (ev_iocost l [] hD.ok hD.small (by simp)) ?_
    refine Ev.bind hb1 (Ev.bind hb2 ?_)
    simp only [bne_self_eq_false, Bool.false_eq_true, if_false]
    refine Ev.bind hb1 ?_
    simp only [Bool.false_eq_true, if_false]
    exact Ev.now _

end Go.Proofs.Ytdbmllbphbhfpaa.Pure
