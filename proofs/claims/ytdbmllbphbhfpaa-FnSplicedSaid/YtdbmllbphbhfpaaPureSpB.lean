import Derived.Test.YtdbmllbphbhfpaaPureSpA
/-! Plain laws of the splice, second part: takes, the cost of a choice. -/
namespace Go.Proofs.Ytdbmllbphbhfpaa.PureSp
open Go.RowKit Go.Proofs.Ytdbmllbphbhfpaa.PSp Go.Proofs.YtdbmllbphbhfpaaW.PrintWords Go.Proofs.YtdbmllbphbhfpaaW.PrintLast
set_option linter.unusedSectionVars false
set_option linter.unusedVariables false
set_option linter.unusedSimpArgs false

/-- The bar i of the take t. -/
def V (l : List (List Int)) (t i : Int) : Int := rd (rd_L2 l t) i
def rowok (l : List (List Int)) (j : Int) : Prop := (rd_L2 l j).length = (rd_L2 l 0).length ∧ (rd_L2 l j).length ≤ 60 ∧ ∀ i : Int, 0 ≤ i → i < (rd_L2 l j).length → 0 ≤ V l j i ∧ V l j i ≤ 999
def takes (l : List (List Int)) : Prop := (1 ≤ (l.length : Int) ∧ (l.length : Int) ≤ 5) ∧ ∀ j : Int, 0 ≤ j → j < l.length → rowok l j
theorem ev_srow (l : List (List Int)) (hl : Small l) (j : Int) (h0 : 0 ≤ j) (h1 : j < l.length) (b : Bool) (hE : Ev (fun k => spec_AreTakes.l0 k l (j + 1)) b) : ∀ (d : Nat) (i : Int), 0 ≤ i → ((rd_L2 l j).length : Int) - i = d → ∃ c, Ev (fun k => spec_AreTakes.l1 k l j i) c ∧ (c = true ↔ (∀ i' : Int, i ≤ i' → i' < (rd_L2 l j).length → 0 ≤ V l j i' ∧ V l j i' ≤ 999) ∧ b = true)
  | 0, i, hi, hm => by
    have := hl.1
    refine ⟨b, Ev.step (fun k => by rw [spec_AreTakes.l1]) ?_, ⟨fun h => ⟨fun i' a b => by omega, h⟩, fun h => h.2⟩⟩
    simp (disch := omega) only [if_pos, if_neg, w64]
    exact hE
  | d + 1, i, hi, hm => by
    have := hl.1
    have := hl.row j
    by_cases hv : 0 ≤ rd (rd_L2 l j) i ∧ rd (rd_L2 l j) i ≤ 999
    · obtain ⟨c, hc, hci⟩ := ev_srow l hl j h0 h1 b hE d (i + 1) (by omega) (by omega)
      refine ⟨c, Ev.step (fun k => by rw [spec_AreTakes.l1]) ?_, ?_⟩
      · simp (disch := omega) only [if_pos, w64, s_in, Option.bind_some]
        simp only [hv, and_self, decide_true, if_true]
        exact hc
      · rw [hci]
        constructor
        · rintro ⟨h, hb⟩
          refine ⟨fun i' a1 a2 => ?_, hb⟩
          by_cases e : i' = i
          · subst e; exact hv
          · exact h i' (by omega) a2
        · rintro ⟨h, hb⟩
          exact ⟨fun i' a1 a2 => h i' (by omega) a2, hb⟩
    · refine ⟨false, Ev.step (fun k => by rw [spec_AreTakes.l1]) ?_, ?_⟩
      · simp (disch := omega) only [if_pos, w64, s_in, Option.bind_some]
        simp only [hv, decide_false, Bool.false_eq_true, if_false]
        exact Ev.now _
      · simp only [Bool.false_eq_true, false_iff]
        intro h
        exact hv (h.1 i (by omega) (by omega))
theorem ev_stakes_l (l : List (List Int)) (hl : Small l) : ∀ (d : Nat) (j : Int), 0 ≤ j → (l.length : Int) - j = d → ∃ b, Ev (fun k => spec_AreTakes.l0 k l j) b ∧ (b = true ↔ (1 ≤ (l.length : Int) ∧ (l.length : Int) ≤ 5) ∧ ∀ j' : Int, j ≤ j' → j' < l.length → rowok l j')
  | 0, j, h0, hm => by
    have := hl.1
    refine ⟨decide (1 ≤ (l.length : Int) ∧ (l.length : Int) ≤ 5), Ev.step (fun k => by rw [spec_AreTakes.l0]) ?_, ?_⟩
    · simp (disch := omega) only [if_neg, s_in, Option.bind_some]
      exact Ev.now _
    · rw [decide_eq_true_eq]
      exact ⟨fun h => ⟨h, fun j' a b => by omega⟩, fun h => h.1⟩
  | d + 1, j, h0, hm => by
    have := hl.1
    have hrow := hl.row j
    obtain ⟨b, hb, hbi⟩ := ev_stakes_l l hl d (j + 1) (by omega) (by omega)
    have no (h : ¬ ((rd_L2 l j).length = (rd_L2 l 0).length ∧ (rd_L2 l j).length ≤ 60)) : ¬ ((1 ≤ (l.length : Int) ∧ (l.length : Int) ≤ 5) ∧ ∀ j' : Int, j ≤ j' → j' < l.length → rowok l j') := fun h2 => h ⟨(h2.2 j (by omega) (by omega)).1, (h2.2 j (by omega) (by omega)).2.1⟩
    by_cases h1 : ((rd_L2 l j).length : Int) = ((rd_L2 l 0).length : Int)
    · by_cases h2 : ((rd_L2 l j).length : Int) > 60
      · refine ⟨false, Ev.step (fun k => by rw [spec_AreTakes.l0]) ?_, ?_⟩
        · simp (disch := omega) only [if_pos]
          simp only [h2, decide_true]
          refine Ev.step (fun k => by rw [spec_AreTakes.j1]) ?_
          simp only [if_true]
          exact Ev.now _
        · simp only [Bool.false_eq_true, false_iff]
          exact no (fun h => by omega)
      · obtain ⟨c, hc, hci⟩ := ev_srow l hl j h0 (by omega) b hb (rd_L2 l j).length 0 (by omega) (by omega)
        refine ⟨c, Ev.step (fun k => by rw [spec_AreTakes.l0]) ?_, ?_⟩
        · simp (disch := omega) only [if_pos]
          simp only [h2, decide_false]
          refine Ev.step (fun k => by rw [spec_AreTakes.j1]) ?_
          simp only [Bool.false_eq_true, if_false]
          exact hc
        · rw [hci, hbi]
          constructor
          · rintro ⟨a, a1, a2⟩
            refine ⟨a1, fun j' b1 b2 => ?_⟩
            by_cases e : j' = j
            · subst e; exact ⟨by omega, by omega, a⟩
            · exact a2 j' (by omega) b2
          · rintro ⟨a1, a2⟩
            exact ⟨(a2 j (by omega) (by omega)).2.2, a1, fun j' b1 b2 => a2 j' (by omega) b2⟩
    · refine ⟨false, Ev.step (fun k => by rw [spec_AreTakes.l0]) ?_, ?_⟩
      · simp (disch := omega) only [if_pos, if_neg]
        refine Ev.step (fun k => by rw [spec_AreTakes.j1]) ?_
        simp only [if_true]
        exact Ev.now _
      · simp only [Bool.false_eq_true, false_iff]
        exact no (fun h => h1 (by omega))
theorem ev_stakes (l : List (List Int)) (hl : Small l) : ∃ b, Ev (fun k => spec_AreTakes.f k l) b ∧ (b = true ↔ takes l) :=
  ev_stakes_l l hl l.length 0 (by omega) (by omega)
theorem ev_irow (l : List (List Int)) (hl : Small l) (j : Int) (h0 : 0 ≤ j) (h1 : j < l.length) (b : Bool) (hE : Ev (fun k => impl_AreTakes.l0 k l l (l.length : Int) (j + 1)) b) : ∀ (d : Nat) (i : Int), 0 ≤ i → ((rd_L2 l j).length : Int) - i = d → ∃ c, Ev (fun k => impl_AreTakes.l1 k l l (l.length : Int) j (rd_L2 l j) ((rd_L2 l j).length : Int) i) c ∧ (c = true ↔ (∀ i' : Int, i ≤ i' → i' < (rd_L2 l j).length → 0 ≤ V l j i' ∧ V l j i' ≤ 999) ∧ b = true)
  | 0, i, hi, hm => by
    have := hl.1
    refine ⟨b, Ev.step (fun k => by rw [impl_AreTakes.l1]) ?_, ⟨fun h => ⟨fun i' a b => by omega, h⟩, fun h => h.2⟩⟩
    simp (disch := omega) only [if_pos, if_neg, w64]
    exact hE
  | d + 1, i, hi, hm => by
    have := hl.1
    have := hl.row j
    by_cases hv : 0 ≤ rd (rd_L2 l j) i ∧ rd (rd_L2 l j) i ≤ 999
    · obtain ⟨c, hc, hci⟩ := ev_irow l hl j h0 h1 b hE d (i + 1) (by omega) (by omega)
      refine ⟨c, Ev.step (fun k => by rw [impl_AreTakes.l1]) ?_, ?_⟩
      · simp (disch := omega) only [if_pos, w64, i_in, Option.bind_some]
        simp only [hv, and_self, decide_true, if_true]
        exact hc
      · rw [hci]
        constructor
        · rintro ⟨h, hb⟩
          refine ⟨fun i' a1 a2 => ?_, hb⟩
          by_cases e : i' = i
          · subst e; exact hv
          · exact h i' (by omega) a2
        · rintro ⟨h, hb⟩
          exact ⟨fun i' a1 a2 => h i' (by omega) a2, hb⟩
    · refine ⟨false, Ev.step (fun k => by rw [impl_AreTakes.l1]) ?_, ?_⟩
      · simp (disch := omega) only [if_pos, w64, i_in, Option.bind_some]
        simp only [hv, decide_false, Bool.false_eq_true, if_false]
        exact Ev.now _
      · simp only [Bool.false_eq_true, false_iff]
        intro h
        exact hv (h.1 i (by omega) (by omega))
theorem ev_itakes_l (l : List (List Int)) (hl : Small l) : ∀ (d : Nat) (j : Int), 0 ≤ j → (l.length : Int) - j = d → ∃ b, Ev (fun k => impl_AreTakes.l0 k l l (l.length : Int) j) b ∧ (b = true ↔ (1 ≤ (l.length : Int) ∧ (l.length : Int) ≤ 5) ∧ ∀ j' : Int, j ≤ j' → j' < l.length → rowok l j')
  | 0, j, h0, hm => by
    have := hl.1
    refine ⟨decide (1 ≤ (l.length : Int) ∧ (l.length : Int) ≤ 5), Ev.step (fun k => by rw [impl_AreTakes.l0]) ?_, ?_⟩
    · simp (disch := omega) only [if_neg, i_in, Option.bind_some]
      exact Ev.now _
    · rw [decide_eq_true_eq]
      exact ⟨fun h => ⟨h, fun j' a b => by omega⟩, fun h => h.1⟩
  | d + 1, j, h0, hm => by
    have := hl.1
    have hrow := hl.row j
    obtain ⟨b, hb, hbi⟩ := ev_itakes_l l hl d (j + 1) (by omega) (by omega)
    have no (h : ¬ ((rd_L2 l j).length = (rd_L2 l 0).length ∧ (rd_L2 l j).length ≤ 60)) : ¬ ((1 ≤ (l.length : Int) ∧ (l.length : Int) ≤ 5) ∧ ∀ j' : Int, j ≤ j' → j' < l.length → rowok l j') := fun h2 => h ⟨(h2.2 j (by omega) (by omega)).1, (h2.2 j (by omega) (by omega)).2.1⟩
    by_cases h1 : ((rd_L2 l j).length : Int) = ((rd_L2 l 0).length : Int)
    · by_cases h2 : ((rd_L2 l j).length : Int) > 60
      · refine ⟨false, Ev.step (fun k => by rw [impl_AreTakes.l0]) ?_, ?_⟩
        · simp (disch := omega) only [if_pos]
          simp only [h2, decide_true]
          refine Ev.step (fun k => by rw [impl_AreTakes.j1]) ?_
          simp only [if_true]
          exact Ev.now _
        · simp only [Bool.false_eq_true, false_iff]
          exact no (fun h => by omega)
      · obtain ⟨c, hc, hci⟩ := ev_irow l hl j h0 (by omega) b hb (rd_L2 l j).length 0 (by omega) (by omega)
        refine ⟨c, Ev.step (fun k => by rw [impl_AreTakes.l0]) ?_, ?_⟩
        · simp (disch := omega) only [if_pos]
          simp only [h2, decide_false]
          refine Ev.step (fun k => by rw [impl_AreTakes.j1]) ?_
          simp only [Bool.false_eq_true, if_false]
          exact hc
        · rw [hci, hbi]
          constructor
          · rintro ⟨a, a1, a2⟩
            refine ⟨a1, fun j' b1 b2 => ?_⟩
            by_cases e : j' = j
            · subst e; exact ⟨by omega, by omega, a⟩
            · exact a2 j' (by omega) b2
          · rintro ⟨a1, a2⟩
            exact ⟨(a2 j (by omega) (by omega)).2.2, a1, fun j' b1 b2 => a2 j' (by omega) b2⟩
    · refine ⟨false, Ev.step (fun k => by rw [impl_AreTakes.l0]) ?_, ?_⟩
      · simp (disch := omega) only [if_pos, if_neg]
        refine Ev.step (fun k => by rw [impl_AreTakes.j1]) ?_
        simp only [if_true]
        exact Ev.now _
      · simp only [Bool.false_eq_true, false_iff]
        exact no (fun h => h1 (by omega))
theorem ev_itakes (l : List (List Int)) (hl : Small l) : ∃ b, Ev (fun k => impl_AreTakes.f k l) b ∧ (b = true ↔ takes l) :=
  ev_itakes_l l hl l.length 0 (by omega) (by omega)

/-! ### the cost of a choice -/
/-- What the bars from i on cost (d of them), the cut ahead of the bar i counted. -/
def cf (l : List (List Int)) (cut : Int) (o : List Int) : Nat → Int → Int
  | 0, _ => 0
  | d + 1, i => V l (rd o i) i + (if 0 < i ∧ rd o (i - 1) ≠ rd o i then cut else 0) + cf l cut o d (i + 1)
def valid (l : List (List Int)) (o : List Int) (i : Int) : Prop := ∀ j : Int, i ≤ j → j < o.length → 0 ≤ rd o j ∧ rd o j < l.length
theorem takes_v {l : List (List Int)} (h : takes l) {t i : Int} (h0 : 0 ≤ t) (h1 : t < l.length) (h2 : 0 ≤ i) (h3 : i < (rd_L2 l 0).length) : 0 ≤ V l t i ∧ V l t i ≤ 999 ∧ i < (rd_L2 l t).length := by
  obtain ⟨a, b, c⟩ := h.2 t h0 h1
  exact ⟨(c i h2 (by omega)).1, (c i h2 (by omega)).2, by omega⟩
open Classical in
theorem ev_cost_l (l : List (List Int)) (hw : takes l) (cut : Int) (hc0 : 0 ≤ cut) (hc1 : cut ≤ 999) (o : List Int) (ho : o.length = (rd_L2 l 0).length) : ∀ (d : Nat) (i s : Int), 0 ≤ i → (o.length : Int) - i = d → 0 ≤ s → s ≤ 2000 * i →
    Ev (fun k => impl_SpliceCost.l0 k l cut o s o (o.length : Int) i) (if valid l o i then s + cf l cut o d i else -1)
  | 0, i, s, h0, hm, hs, hs1 => by
    refine Ev.step (fun k => by rw [impl_SpliceCost.l0]) ?_
    simp (disch := omega) only [if_neg]
    rw [if_pos (show valid l o i from fun j h1 h2 => by omega), cf, Int.add_zero]
    exact Ev.now _
  | d + 1, i, s, h0, hm, hs, hs1 => by
    have h60 := (hw.2 0 (by omega) (by have := hw.1; omega)).2.1
    have h5 := hw.1
    by_cases hv : 0 ≤ rd o i ∧ rd o i < l.length
    · have e : valid l o i ↔ valid l o (i + 1) := by
        constructor
        · intro h j a b; exact h j (by omega) b
        · intro h j a b
          by_cases e : j = i
          · subst e; exact hv
          · exact h j (by omega) b
      simp only [e, cf]
      obtain ⟨v0, v1⟩ := hv
      obtain ⟨w0, w1, w2⟩ := takes_v hw v0 v1 h0 (by omega)
      have hin : (0 ≤ rd o i ∧ rd o i ≤ (l.length : Int) - 1) := ⟨v0, by omega⟩
      unfold V at w0 w1
      refine Ev.step (fun k => by rw [impl_SpliceCost.l0]) ?_
      simp (disch := omega) only [if_pos, w64, i_in, Option.bind_some]
      simp only [hin, and_self, decide_true, if_true]
      try simp (disch := omega) only [if_pos, w64]
      by_cases hi : i > 0
      · simp (disch := omega) only [if_pos, w64]
        by_cases he : rd o (i - 1) = rd o i
        · simp only [he, if_true, ne_eq, not_true, and_false, if_false, Int.add_zero]
          have := ev_cost_l l hw cut hc0 hc1 o ho d (i + 1) (s + rd (rd_L2 l (rd o i)) i) (by omega) (by omega) (by omega) (by omega)
          rw [← Int.add_assoc]
          exact this
        · simp only [he, if_false, ne_eq, not_false_eq_true, and_true, show 0 < i from hi, if_true]
          have := ev_cost_l l hw cut hc0 hc1 o ho d (i + 1) (s + rd (rd_L2 l (rd o i)) i + cut) (by omega) (by omega) (by omega) (by omega)
          rw [show s + (V l (rd o i) i + cut + cf l cut o d (i + 1)) = s + V l (rd o i) i + cut + cf l cut o d (i + 1) by omega]
          exact this
      · simp (disch := omega) only [if_neg]
        have := ev_cost_l l hw cut hc0 hc1 o ho d (i + 1) (s + rd (rd_L2 l (rd o i)) i) (by omega) (by omega) (by omega) (by omega)
        rw [Int.add_zero, ← Int.add_assoc]
        exact this
    · rw [if_neg (fun h => hv (h i (by omega) (by omega)))]
      have hin : ¬ (0 ≤ rd o i ∧ rd o i ≤ (l.length : Int) - 1) := fun h => hv ⟨h.1, by omega⟩
      refine Ev.step (fun k => by rw [impl_SpliceCost.l0]) ?_
      simp (disch := omega) only [if_pos, w64, i_in, Option.bind_some]
      simp only [hin, decide_false, Bool.false_eq_true, if_false]
      exact Ev.now _
open Classical in
noncomputable def sc (l : List (List Int)) (cut : Int) (o : List Int) : Int := if takes l ∧ (0 ≤ cut ∧ cut ≤ 999) ∧ o.length = (rd_L2 l 0).length ∧ valid l o 0 then cf l cut o o.length 0 else -1
theorem sc_no {l : List (List Int)} {cut : Int} {o : List Int} (h : ¬ (takes l ∧ (0 ≤ cut ∧ cut ≤ 999) ∧ o.length = (rd_L2 l 0).length)) : sc l cut o = -1 := by
  unfold sc; rw [if_neg (fun h2 => h ⟨h2.1, h2.2.1, h2.2.2.1⟩)]
open Classical in
theorem sc_yes {l : List (List Int)} {cut : Int} {o : List Int} (h : takes l ∧ (0 ≤ cut ∧ cut ≤ 999) ∧ o.length = (rd_L2 l 0).length) : sc l cut o = if valid l o 0 then cf l cut o o.length 0 else -1 := by
  unfold sc
  by_cases hv : valid l o 0
  · rw [if_pos ⟨h.1, h.2.1, h.2.2, hv⟩, if_pos hv]
  · rw [if_neg (fun h2 => hv h2.2.2.2), if_neg hv]
theorem ev_cost (l : List (List Int)) (hl : Small l) (cut : Int) (o : List Int) : Ev (fun k => impl_SpliceCost.f k l cut o) (sc l cut o) := by
  obtain ⟨b, hb, hi⟩ := ev_itakes l hl
  refine Ev.bind hb ?_
  by_cases hw : takes l
  · simp only [hi.2 hw, if_true]
    by_cases hc : 0 ≤ cut ∧ cut ≤ 999
    · have h5 := hw.1
      simp only [i_in, hc, and_self, decide_true, Option.bind_some, if_true]
      simp (disch := omega) only [if_pos]
      refine Ev.step (fun k => by rw [impl_SpliceCost.j0]) ?_
      by_cases hn : o.length = (rd_L2 l 0).length
      · have e : ((o.length : Int) != ((rd_L2 l 0).length : Int)) = false := by simp; omega
        simp only [e, Bool.false_eq_true, if_false]
        have := ev_cost_l l hw cut hc.1 hc.2 o hn o.length 0 0 (by omega) (by omega) (by omega) (by omega)
        rw [Int.zero_add] at this
        rw [sc_yes ⟨hw, hc, hn⟩]
        exact this
      · have e : ((o.length : Int) != ((rd_L2 l 0).length : Int)) = true := by simp; omega
        simp only [e, if_true]
        rw [sc_no (fun h => hn h.2.2)]
        exact Ev.now _
    · simp only [i_in, hc, decide_false, Option.bind_some, Bool.false_eq_true, if_false]
      refine Ev.step (fun k => by rw [impl_SpliceCost.j0]) ?_
      simp only [if_true]
      rw [sc_no (fun h => hc h.2.1)]
      exact Ev.now _
  · have : b = false := by
      cases b
      · rfl
      · exact absurd (hi.1 rfl) hw
    simp only [this, Bool.false_eq_true, if_false]
    refine Ev.step (fun k => by rw [impl_SpliceCost.j0]) ?_
    simp only [if_true]
    rw [sc_no (fun h => hw h.1)]
    exact Ev.now _
end Go.Proofs.Ytdbmllbphbhfpaa.PureSp
