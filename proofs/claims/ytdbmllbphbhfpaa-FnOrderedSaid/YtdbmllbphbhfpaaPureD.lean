import Derived.Test.YtdbmllbphbhfpaaPureC
/-! Plain laws, fourth part: what is drawn for an order's cost. -/
namespace Go.Proofs.Ytdbmllbphbhfpaa.Pure
open Go.RowKit Go.Proofs.Ytdbmllbphbhfpaa.POrd Go.Proofs.YtdbmllbphbhfpaaW.PrintWords Go.Proofs.YtdbmllbphbhfpaaW.PrintLast
set_option linter.unusedVariables false
set_option linter.unusedSimpArgs false

theorem Drawn.ok {l : List S40} (h : Drawn l) : Rows l := ⟨by have := h.1; omega, fun j => by have := h.rows j; omega⟩
theorem Drawn.small {l : List S40} (h : Drawn l) (j : Int) : (rd_T40 l j).f1.length ≤ 1000 := by have := h.rows j; omega
theorem ev_docost (c : List Int) (hc : c.length ≤ 1152921504606846976) : ∃ l o, Ev (fun k => spec_DrawOrderCost.f k c) (l, o) ∧ Drawn l ∧ o.length ≤ 1000 := by
  obtain ⟨s, hs⟩ := ev_new c hc
  obtain ⟨l, p', s', h, hD, hp⟩ := ev_any c hc 0 s ⟨by omega, by omega⟩
  have hb := ev_sbest l hD.ok hD.small
  have hlen : ∀ b : List Int, (open Classical in (if works l then (best l).1 else [])) = b → b.length ≤ 5 := by
    rintro b rfl
    by_cases hw : works l
    · simp only [hw, if_true]
      have := (oc_is (best_is l hw).1).2.1
      have := hD.1
      omega
    · simp [hw]
  generalize (open Classical in (if works l then (best l).1 else [])) = b at hb hlen
  have hb5 := hlen b rfl
  by_cases h1 : (b.length : Int) > 1
  · obtain ⟨x, p2, s2, e2, x0, x1, hp2⟩ := below_ c hc p' s' 4 hp (by omega)
    by_cases hx : x = 0
    · refine ⟨l, (b.set (0 : Int).toNat (rd b 1)), Ev.bind hs (Ev.bind h (Ev.bind hb ?_)), hD, by simp; omega⟩
      simp (disch := omega) only [if_pos, if_neg, e2, Option.bind_some]
      exact Ev.now _
    · by_cases hx1 : x = 1
      · refine ⟨l, [rd b (wrap64 ((b.length : Int) - 1))] ++ b.take (wrap64 ((b.length : Int) - 1)).toNat, Ev.bind hs (Ev.bind h (Ev.bind hb ?_)), hD, by simp; omega⟩
        have e : wrap64 ((b.length : Int) - 1) = (b.length : Int) - 1 := w64 _ (by omega)
        simp only [e2, Option.bind_some, e]
        simp (disch := omega) only [if_pos, if_neg, Option.bind_some]
        have e3 : [rd b ((b.length : Int) - 1)].length + (List.take ((b.length : Int) - 1).toNat b).length < 17592186044416 := by simp; omega
        simp only [e3, if_true]
        exact Ev.now _
      · refine ⟨l, b, Ev.bind hs (Ev.bind h (Ev.bind hb ?_)), hD, by omega⟩
        simp (disch := omega) only [if_pos, if_neg, e2, Option.bind_some]
        exact Ev.now _
  · refine ⟨l, b, Ev.bind hs (Ev.bind h (Ev.bind hb ?_)), hD, by omega⟩
    simp (disch := omega) only [if_neg]
    exact Ev.now _
end Go.Proofs.Ytdbmllbphbhfpaa.Pure
