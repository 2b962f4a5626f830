import Derived.Test.YtdbmllbphbhfpaaPureSpD
/-! Plain laws of the splice, fifth part: that the twin answers, and whether it is a choice. -/
namespace Go.Proofs.Ytdbmllbphbhfpaa.PureSp
open Go.RowKit Go.Proofs.Ytdbmllbphbhfpaa.PSp Go.Proofs.YtdbmllbphbhfpaaW.PrintWords Go.Proofs.YtdbmllbphbhfpaaW.PrintLast
set_option linter.unusedVariables false
set_option linter.unusedSimpArgs false
set_option linter.unusedSectionVars false

theorem ix {b m t n : Int} (b0 : 0 ≤ b) (b1 : b ≤ n) (n1 : n ≤ 60) (m0 : 1 ≤ m) (m1 : m ≤ 5) (t0 : 0 ≤ t) (t1 : t < m) : wrap64 (b * m) = b * m ∧ wrap64 (b * m + t) = b * m + t ∧ 0 ≤ b * m + t ∧ b * m + t < (n + 1) * m := by
  have h1 : 0 ≤ b * m := Int.mul_nonneg b0 (by omega)
  have h2 : b * m ≤ n * m := Int.mul_le_mul_of_nonneg_right b1 (by omega)
  have h3 : n * m ≤ 60 * 5 := Int.mul_le_mul n1 m1 (by omega) (by decide)
  have h4 : (n + 1) * m = n * m + m := by rw [Int.add_mul, Int.one_mul]
  exact ⟨w64 _ (by omega), w64 _ (by omega), by omega, by omega⟩
theorem min_some (a b : Int) : ∃ r, spec_Min.f a b = some r := by unfold spec_Min.f; split <;> exact ⟨_, rfl⟩
section
variable {l : List (List Int)} (hw : takes l) {cut : Int} {n : Nat} (hn : (rd_L2 l 0).length = n) (hn60 : n ≤ 60)
include hw hn hn60
/-- Its table's length. -/
def tl (l : List (List Int)) (n : Nat) (R : List Int) : Prop := (R.length : Int) = ((n : Int) + 1) * (l.length : Int)
theorem se_l2 (Q : List Int → Prop) (b t : Int) (b0 : 0 ≤ b) (b1 : b < n) (t0 : 0 ≤ t) (t1 : t < l.length) (R : List Int) (hR : tl l n R) (hE : ∀ R' : List Int, tl l n R' → EQ Q (fun k => spec_BestSplice.l1 k l cut [] (n : Int) R' b (t + 1))) :
    ∀ (d : Nat) (u x : Int), 0 ≤ u → (l.length : Int) - u = d → EQ Q (fun k => spec_BestSplice.l2 k l cut [] (n : Int) R b t x u)
  | 0, u, x, u0, hm => by
    have h5 := hw.1
    obtain ⟨_, _, v2⟩ := takes_v hw t0 t1 b0 (by omega)
    obtain ⟨i1, i2, i3, i4⟩ := ix (b := b) (m := (l.length : Int)) (t := t) (n := n) b0 (by omega) (by omega) h5.1 h5.2 t0 t1
    unfold tl at hR
    refine EQ.step (fun k => by rw [spec_BestSplice.l2]) ?_
    simp (disch := omega) only [if_neg]
    refine EQ.step (fun k => by rw [spec_BestSplice.j4]) ?_
    simp only [Bool.false_eq_true, if_false, i1, i2]
    rw [w64 (b + 1) (by omega), w64 (t + 1) (by omega)]
    by_cases e : b + 1 = n
    · simp (disch := omega) only [e, if_true, if_pos]
      exact hE _ (by unfold tl; simpa using hR)
    · simp (disch := omega) only [e, if_false, if_pos]
      exact hE _ (by unfold tl; simpa using hR)
  | d + 1, u, x, u0, hm => by
    have h5 := hw.1
    obtain ⟨_, _, v2⟩ := takes_v hw t0 t1 b0 (by omega)
    have hR' := hR
    unfold tl at hR
    refine EQ.step (fun k => by rw [spec_BestSplice.l2]) ?_
    simp (disch := omega) only [if_pos]
    refine EQ.step (fun k => by rw [spec_BestSplice.j4]) ?_
    rw [w64 (b + 1) (by omega)]
    by_cases e : b + 1 < n
    · obtain ⟨i1, i2, i3, i4⟩ := ix (b := b + 1) (m := (l.length : Int)) (t := u) (n := n) (by omega) (by omega) (by omega) h5.1 h5.2 u0 (by omega)
      simp only [e, decide_true, if_true, i1, i2]
      simp (disch := omega) only [if_pos, w64]
      by_cases e2 : u = t
      · obtain ⟨r, hr⟩ := min_some x (rd R ((b + 1) * (l.length : Int) + u))
        simp only [e2, if_true]
        rw [e2] at hr
        simp only [hr, Option.bind_some]
        have := se_l2 Q b t b0 b1 t0 t1 R hR' hE d (u + 1) r (by omega) (by omega)
        rw [e2] at this
        exact this
      · obtain ⟨r, hr⟩ := min_some x (wrap64 (rd R ((b + 1) * (l.length : Int) + u) + cut))
        simp only [e2, if_false, hr, Option.bind_some]
        exact se_l2 Q b t b0 b1 t0 t1 R hR' hE d (u + 1) r (by omega) (by omega)
    · obtain ⟨i1, i2, i3, i4⟩ := ix (b := b) (m := (l.length : Int)) (t := t) (n := n) b0 (by omega) (by omega) h5.1 h5.2 t0 t1
      have e3 : b + 1 = n := by omega
      simp only [e, decide_false, Bool.false_eq_true, if_false]
      simp only [i1, i2, e3, if_true]
      rw [w64 (t + 1) (by omega)]
      simp (disch := omega) only [if_pos]
      exact hE _ (by unfold tl; simpa using hR)
theorem se_l1 (Q : List Int → Prop) (b : Int) (b0 : 0 ≤ b) (b1 : b < n) (hE : ∀ R' : List Int, tl l n R' → EQ Q (fun k => spec_BestSplice.l0 k l cut [] (n : Int) R' (b - 1))) :
    ∀ (d : Nat) (t : Int) (R : List Int), 0 ≤ t → (l.length : Int) - t = d → tl l n R → EQ Q (fun k => spec_BestSplice.l1 k l cut [] (n : Int) R b t)
  | 0, t, R, t0, hm, hR => by
    refine EQ.step (fun k => by rw [spec_BestSplice.l1]) ?_
    simp (disch := omega) only [if_neg, w64]
    exact hE R hR
  | d + 1, t, R, t0, hm, hR => by
    refine EQ.step (fun k => by rw [spec_BestSplice.l1]) ?_
    simp (disch := omega) only [if_pos]
    exact se_l2 hw hn hn60 Q b t b0 b1 t0 (by omega) R hR (fun R' hR' => se_l1 Q b b0 b1 hE d (t + 1) R' (by omega) (by omega) hR') l.length 0 _ (by omega) (by omega)
theorem se_l0 (Q : List Int → Prop) (hE : ∀ R' : List Int, tl l n R' → EQ Q (fun k => spec_BestSplice.l3 k l cut [] (n : Int) R' 0)) : ∀ (d : Nat) (R : List Int), d ≤ n → tl l n R → EQ Q (fun k => spec_BestSplice.l0 k l cut [] (n : Int) R ((d : Int) - 1))
  | 0, R, hd, hR => by
    refine EQ.step (fun k => by rw [spec_BestSplice.l0]) ?_
    simp (disch := omega) only [if_neg]
    exact hE R hR
  | d + 1, R, hd, hR => by
    refine EQ.step (fun k => by rw [spec_BestSplice.l0]) ?_
    rw [show ((d + 1 : Nat) : Int) - 1 = (d : Int) by omega]
    simp (disch := omega) only [if_pos]
    exact se_l1 hw hn hn60 Q d (by omega) (by omega) (fun R' hR' => se_l0 Q hE d R' (by omega) hR') l.length 0 R (by omega) (by omega) hR
theorem se_l4 (Q : List Int → Prop) (R : List Int) (hR : tl l n R) (x : List Int) (j : Int) (hx : j = x.length) (h1 : j < n) (hE : ∀ b : Int, EQ Q (fun k => spec_BestSplice.l3 k l cut (x ++ [b]) (n : Int) R (j + 1))) :
    ∀ (d : Nat) (u p c : Int), 0 ≤ u → (l.length : Int) - u = d → EQ Q (fun k => spec_BestSplice.l4 k l cut x (n : Int) R j p c u)
  | 0, u, p, c, u0, hm => by
    refine EQ.step (fun k => by rw [spec_BestSplice.l4]) ?_
    simp (disch := omega) only [if_neg, if_pos, w64]
    exact hE p
  | d + 1, u, p, c, u0, hm => by
    have h5 := hw.1
    have hR' := hR
    unfold tl at hR
    obtain ⟨i1, i2, i3, i4⟩ := ix (b := j) (m := (l.length : Int)) (t := u) (n := n) (by omega) (by omega) (by omega) h5.1 h5.2 u0 (by omega)
    have ih : ∀ p c : Int, EQ Q (fun k => spec_BestSplice.l4 k l cut x (n : Int) R j p c (u + 1)) := fun p c => se_l4 Q R hR' x j hx h1 hE d (u + 1) p c (by omega) (by omega)
    have fin : ∀ (v : Int) (y : Bool), EQ Q (fun k => spec_BestSplice.j7 k l cut x (n : Int) R j p c u v y) := by
      intro v y
      refine EQ.step (fun k => by rw [spec_BestSplice.j7]) ?_
      rw [w64 (u + 1) (by omega)]
      split
      · split
        · exact ih _ _
        · split
          · exact ih _ _
          · exact ih _ _
      · split
        · exact ih _ _
        · split
          · exact ih _ _
          · exact ih _ _
    refine EQ.step (fun k => by rw [spec_BestSplice.l4]) ?_
    simp only [i1, i2]
    by_cases hj : j > 0
    · simp (disch := omega) only [if_pos, w64]
      exact fin _ _
    · simp (disch := omega) only [if_pos, if_neg]
      exact fin _ _
theorem se_l3 (R : List Int) (hR : tl l n R) : ∀ (d : Nat) (x : List Int) (j : Int), j = x.length → (n : Int) - j = d → EQ (fun o => o.length = n) (fun k => spec_BestSplice.l3 k l cut x (n : Int) R j)
  | 0, x, j, hx, hm => by
    refine EQ.step (fun k => by rw [spec_BestSplice.l3]) ?_
    simp (disch := omega) only [if_neg]
    exact ⟨x, Ev.now _, by omega⟩
  | d + 1, x, j, hx, hm => by
    refine EQ.step (fun k => by rw [spec_BestSplice.l3]) ?_
    simp (disch := omega) only [if_pos]
    exact se_l4 hw hn hn60 _ R hR x j hx (by omega) (fun b => se_l3 R hR d (x ++ [b]) (j + 1) (by simp; omega) (by omega)) l.length 0 _ _ (by omega) (by omega)
end
theorem ev_ssplice (l : List (List Int)) (hl : Small l) (cut : Int) : ∃ o b, Ev (fun k => spec_BestSplice.f k l cut) (o, b) ∧ (b = true ↔ takes l ∧ 0 ≤ cut ∧ cut ≤ 999) ∧ o.length ≤ 60 := by
  obtain ⟨a, ha, hai⟩ := ev_stakes l hl
  by_cases hw : takes l
  · by_cases hc : 0 ≤ cut ∧ cut ≤ 999
    · have h5 := hw.1
      obtain ⟨_, h60, _⟩ := hw.2 0 (by omega) (by omega)
      have main : EQ (fun o => o.length ≤ 60) (fun k => spec_BestSplice.j0 k l cut [] false) := by
        obtain ⟨n, hn⟩ : ∃ n, (rd_L2 l 0).length = n := ⟨_, rfl⟩
        rw [hn] at h60
        obtain ⟨i1, _, i3, i4⟩ := ix (b := (n : Int)) (m := (l.length : Int)) (t := 0) (n := (n : Int)) (by omega) (by omega) (by omega) h5.1 h5.2 (by omega) (by omega)
        have e : ((n : Int) + 1) * (l.length : Int) = (n : Int) * (l.length : Int) + (l.length : Int) := by rw [Int.add_mul, Int.one_mul]
        have h3 : (n : Int) * (l.length : Int) ≤ 60 * 5 := Int.mul_le_mul (by omega) h5.2 (by omega) (by decide)
        refine EQ.step (fun k => by rw [spec_BestSplice.j0]) ?_
        rw [hn, w64 ((n : Int) + 1) (by omega), w64 (((n : Int) + 1) * (l.length : Int)) (by omega), w64 ((n : Int) - 1) (by omega)]
        simp (disch := omega) only [Bool.false_eq_true, if_false, if_pos]
        refine se_l0 hw hn h60 _ (fun R' hR' => ?_) n _ (Nat.le_refl _) (by unfold tl; rw [List.length_replicate]; omega)
        obtain ⟨o, ho, hq⟩ := se_l3 hw hn h60 (cut := cut) R' hR' n [] 0 (by simp) (by omega)
        exact ⟨o, ho, by omega⟩
      obtain ⟨o, ho, hQ⟩ := main
      refine ⟨o, true, ?_, by simp [hw, hc.1, hc.2], hQ⟩
      refine Ev.congr (f := fun k => (spec_AreTakes.f k l).bind fun t112 => (if t112 = true then ((spec_l1In.f cut 0 999).bind fun t113 => (spec_BestSplice.j0 k l cut [] (!t113))) else (spec_BestSplice.j0 k l cut [] true))) (fun k => rfl) ?_
      refine Ev.bind ha ?_
      simp only [hai.2 hw, if_true, s_in, hc, and_self, decide_true, Option.bind_some, Bool.not_true]
      exact ho
    · refine ⟨[], false, ?_, by simp; intro _ h; omega, by simp⟩
      refine Ev.congr (f := fun k => (spec_AreTakes.f k l).bind fun t112 => (if t112 = true then ((spec_l1In.f cut 0 999).bind fun t113 => (spec_BestSplice.j0 k l cut [] (!t113))) else (spec_BestSplice.j0 k l cut [] true))) (fun k => rfl) ?_
      refine Ev.bind ha ?_
      simp only [hai.2 hw, if_true, s_in, hc, decide_false, Option.bind_some, Bool.not_false]
      refine Ev.step (fun k => by rw [spec_BestSplice.j0]) ?_
      simp only [if_true]
      exact Ev.now _
  · refine ⟨[], false, ?_, by simp [hw], by simp⟩
    have : a = false := by
      cases a
      · rfl
      · exact absurd (hai.1 rfl) hw
    refine Ev.congr (f := fun k => (spec_AreTakes.f k l).bind fun t112 => (if t112 = true then ((spec_l1In.f cut 0 999).bind fun t113 => (spec_BestSplice.j0 k l cut [] (!t113))) else (spec_BestSplice.j0 k l cut [] true))) (fun k => rfl) ?_
    refine Ev.bind ha ?_
    simp only [this, Bool.false_eq_true, if_false]
    refine Ev.step (fun k => by rw [spec_BestSplice.j0]) ?_
    simp only [if_true]
    exact Ev.now _
/-- What is drawn. -/
theorem ev_dsplice (c : List Int) (hc : c.length ≤ 1152921504606846976) : ∃ r, Ev (fun k => spec_DrawSpliceCost.f k c) r ∧ Small r.1 := by
  obtain ⟨s, hs⟩ := ev_new c hc
  obtain ⟨⟨l, p1, s1⟩, h, hD, hp⟩ := ev_any c hc 0 s ⟨by omega, by omega⟩
  obtain ⟨cut, p2, s2, e2, _, hp2⟩ := int_ c hc p1 s1 [0, 1, 3, 999, 1000] hp (by decide)
  obtain ⟨o, b, ho, _, hlen⟩ := ev_ssplice l hD cut
  by_cases h0 : (o.length : Int) > 0
  · obtain ⟨y, p3, s3, e3, hp3⟩ := once_ c hc p2 s2 2 hp2 (by omega)
    obtain ⟨i, p4, s4, e4, i0, i1, hp4⟩ := below_ c hc p3 s3 (o.length : Int) hp3 (by omega)
    obtain ⟨v, p5, s5, e5, v0, v1, hp5⟩ := below_ c hc p4 s4 6 hp4 (by omega)
    cases y with
    | true =>
      refine ⟨(l, cut, o.set (i : Int).toNat (wrap64 (v - 1))), Ev.bind hs (Ev.bind h ?_), hD⟩
      dsimp only at *
      simp only [e2, Option.bind_some]
      refine Ev.bind ho ?_
      dsimp only
      simp only [h0, if_true, e3, Option.bind_some]
      refine Ev.step (fun k => by rw [spec_DrawSpliceCost.j0]) ?_
      simp only [if_true, e4, e5, Option.bind_some]
      simp (disch := omega) only [if_pos]
      exact Ev.now _
    | false =>
      refine ⟨(l, cut, o), Ev.bind hs (Ev.bind h ?_), hD⟩
      dsimp only at *
      simp only [e2, Option.bind_some]
      refine Ev.bind ho ?_
      dsimp only
      simp only [h0, if_true, e3, Option.bind_some]
      refine Ev.step (fun k => by rw [spec_DrawSpliceCost.j0]) ?_
      simp only [Bool.false_eq_true, if_false]
      exact Ev.now _
  · refine ⟨(l, cut, o), Ev.bind hs (Ev.bind h ?_), hD⟩
    dsimp only at *
    simp only [e2, Option.bind_some]
    refine Ev.bind ho ?_
    dsimp only
    simp only [h0, if_false]
    refine Ev.step (fun k => by rw [spec_DrawSpliceCost.j0]) ?_
    simp only [Bool.false_eq_true, if_false]
    exact Ev.now _
end Go.Proofs.Ytdbmllbphbhfpaa.PureSp
