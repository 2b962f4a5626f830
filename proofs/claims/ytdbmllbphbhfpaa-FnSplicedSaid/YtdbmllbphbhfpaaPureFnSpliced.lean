import Derived.Test.YtdbmllbphbhfpaaPureSpE
/-! Plain laws of the splice, last part: the statement itself. -/
namespace Go.Proofs.Ytdbmllbphbhfpaa.Pure
open Go.RowKit Go.Proofs.Ytdbmllbphbhfpaa.PSp Go.Proofs.Ytdbmllbphbhfpaa.PureSp Go.Proofs.YtdbmllbphbhfpaaW.PrintWords Go.Proofs.YtdbmllbphbhfpaaW.PrintLast
set_option linter.unusedVariables false
set_option linter.unusedSimpArgs false
set_option linter.unusedSectionVars false

/-- The numbers of a take from i on (d of them). -/
def rsum (l : List (List Int)) (t : Int) : Nat → Int → Int
  | 0, _ => 0
  | d + 1, i => V l t i + rsum l t d (i + 1)
section
variable {l : List (List Int)} (hw : takes l)
include hw
theorem rsum_range (t : Int) (t0 : 0 ≤ t) (t1 : t < l.length) : ∀ (d : Nat) (i : Int), 0 ≤ i → i + d = (rd_L2 l 0).length → 0 ≤ rsum l t d i ∧ rsum l t d i ≤ 1000 * d
  | 0, _, _, _ => by simp [rsum]
  | d + 1, i, h0, h => by
    have := rsum_range t t0 t1 d (i + 1) (by omega) (by omega)
    obtain ⟨a, b, _⟩ := takes_v hw t0 t1 h0 (by omega)
    simp only [rsum]; omega
theorem rd_rep (n : Nat) (t j : Int) (h0 : 0 ≤ j) (h1 : j < n) : rd (List.replicate n t) j = t := by
  unfold rd
  rw [List.getD_eq_getElem?_getD, List.getElem?_replicate, if_pos (by omega)]
  rfl
theorem cf_rep (cut t : Int) (n : Nat) : ∀ (d : Nat) (i : Int), 0 ≤ i → i + d = n → cf l cut (List.replicate n t) d i = rsum l t d i
  | 0, _, _, _ => by simp [cf, rsum]
  | d + 1, i, h0, h => by
    simp only [cf, rsum]
    rw [cf_rep cut t n d (i + 1) (by omega) (by omega), rd_rep hw n t i h0 (by omega)]
    by_cases hi : 0 < i
    · rw [rd_rep hw n t (i - 1) (by omega) (by omega), if_neg (by simp), Int.add_zero]
    · rw [if_neg (fun h => hi h.1), Int.add_zero]
/-! ### the program's best take -/
theorem ev_total (t : Int) (t0 : 0 ≤ t) (t1 : t < l.length) : ∃ r, Ev (fun k => impl_total.f k (rd_L2 l t)) r := by
  have : ∀ (d : Nat) (i s : Int), 0 ≤ i → ((rd_L2 l t).length : Int) - i = d → ∃ r, Ev (fun k => impl_total.l0 k s (rd_L2 l t) ((rd_L2 l t).length : Int) i) r := by
    intro d
    induction d with
    | zero =>
      intro i s h0 h
      refine ⟨s, Ev.step (fun k => by rw [impl_total.l0]) ?_⟩
      simp (disch := omega) only [if_neg]
      exact Ev.now _
    | succ d ih =>
      intro i s h0 h
      obtain ⟨_, hlen, _⟩ := hw.2 t t0 t1
      obtain ⟨r, hr⟩ := ih (i + 1) (wrap64 (s + rd (rd_L2 l t) i)) (by omega) (by omega)
      refine ⟨r, Ev.step (fun k => by rw [impl_total.l0]) ?_⟩
      simp (disch := omega) only [if_pos, w64 (i + 1)]
      exact hr
  exact this (rd_L2 l t).length 0 0 (by omega) (by omega)
theorem ev_best_l : ∀ (d : Nat) (b i : Int), 0 ≤ b → b < l.length → 0 ≤ i → (l.length : Int) - i = d → ∃ r, Ev (fun k => impl_BestTake.l0 k l b l (l.length : Int) i) r ∧ 0 ≤ r ∧ r < l.length
  | 0, b, i, b0, b1, h0, h => by
    refine ⟨b, Ev.step (fun k => by rw [impl_BestTake.l0]) ?_, b0, b1⟩
    simp (disch := omega) only [if_neg]
    exact Ev.now _
  | d + 1, b, i, b0, b1, h0, h => by
    have h5 := hw.1
    obtain ⟨r1, e1⟩ := ev_total hw i h0 (by omega)
    obtain ⟨r2, e2⟩ := ev_total hw b b0 b1
    by_cases hlt : r1 < r2
    · obtain ⟨r, hr, p⟩ := ev_best_l d i (i + 1) h0 (by omega) (by omega) (by omega)
      refine ⟨r, Ev.step (fun k => by rw [impl_BestTake.l0]) ?_, p⟩
      simp (disch := omega) only [if_pos, w64 (i + 1)]
      refine Ev.bind e1 (Ev.bind e2 ?_)
      simp only [hlt, if_true]
      exact hr
    · obtain ⟨r, hr, p⟩ := ev_best_l d b (i + 1) b0 b1 (by omega) (by omega)
      refine ⟨r, Ev.step (fun k => by rw [impl_BestTake.l0]) ?_, p⟩
      simp (disch := omega) only [if_pos, w64 (i + 1)]
      refine Ev.bind e1 (Ev.bind e2 ?_)
      simp only [hlt, if_false]
      exact hr
theorem ev_best (hl : Small l) : ∃ r, Ev (fun k => impl_BestTake.f k l) r ∧ 0 ≤ r ∧ r < l.length := by
  obtain ⟨a, ha, hai⟩ := ev_itakes l hl
  have h5 := hw.1
  obtain ⟨r, hr, p⟩ := ev_best_l hw l.length 0 0 (by omega) (by omega) (by omega) (by omega)
  refine ⟨r, Ev.bind ha ?_, p⟩
  simp only [hai.2 hw, if_true]
  exact hr
end
/-! ### cuts -/
theorem unlike_ (a b : Int) : impl_unlike.f a b = some (if a = b then 0 else 1) := by unfold impl_unlike.f; split <;> rfl
theorem ev_cuts_l (x : List Int) (hx : x.length ≤ 60) : ∀ (d : Nat) (i s : Int), 1 ≤ i → (x.length : Int) - i ≤ d → 0 ≤ s → s < i → ∃ r, Ev (fun k => impl_CountCuts.l0 k x s i) r ∧ 0 ≤ r ∧ (r < i ∨ r < x.length)
  | 0, i, s, h1, h, s0, s1 => by
    refine ⟨s, Ev.step (fun k => by rw [impl_CountCuts.l0]) ?_, s0, .inl s1⟩
    simp (disch := omega) only [if_neg]
    exact Ev.now _
  | d + 1, i, s, h1, h, s0, s1 => by
    by_cases hi : i < x.length
    · have hz : 0 ≤ (if rd x (i - 1) = rd x i then (0 : Int) else 1) ∧ (if rd x (i - 1) = rd x i then (0 : Int) else 1) ≤ 1 := by split <;> omega
      obtain ⟨z, ez⟩ : ∃ z, (if rd x (i - 1) = rd x i then (0 : Int) else 1) = z := ⟨_, rfl⟩
      rw [ez] at hz
      obtain ⟨r, hr, r0, r1⟩ := ev_cuts_l x hx d (i + 1) (s + z) (by omega) (by omega) (by omega) (by omega)
      refine ⟨r, Ev.step (fun k => by rw [impl_CountCuts.l0]) ?_, r0, .inr (by omega)⟩
      simp (disch := omega) only [if_pos, w64 (i - 1), w64 (i + 1), unlike_, Option.bind_some, ez, w64 (s + z)]
      exact hr
    · refine ⟨s, Ev.step (fun k => by rw [impl_CountCuts.l0]) ?_, s0, .inl s1⟩
      simp (disch := omega) only [if_neg]
      exact Ev.now _
theorem ev_cuts (x : List Int) (hx : x.length ≤ 60) : ∃ r, Ev (fun k => impl_CountCuts.f k x) r ∧ r < x.length + 1 := by
  obtain ⟨r, hr, r0, r1⟩ := ev_cuts_l x hx x.length 1 0 (by omega) (by omega) (by omega) (by omega)
  exact ⟨r, hr, by omega⟩
/-! ### the law's own loops -/
theorem ev_tail {l : List (List Int)} (hl : Small l) (hw : takes l) (x : List Int) (hx : x.length ≤ 60) : Ev (fun k => laws_FnSpliced.j3 k l x false) true := by
  obtain ⟨b, hb, b0, b1⟩ := ev_best hw hl
  obtain ⟨c, hc, c1⟩ := ev_cuts x hx
  refine Ev.step (fun k => by rw [laws_FnSpliced.j3]) ?_
  simp only [Bool.false_eq_true, if_false]
  refine Ev.bind hb ?_
  simp (disch := omega) only [if_pos]
  refine Ev.bind hc ?_
  rw [w64 _ (by omega), decide_eq_true c1]
  exact Ev.now _
theorem ev_l1 {l : List (List Int)} (hl : Small l) (hw : takes l) (cut : Int) (other x : List Int) (n t : Int) (t0 : 0 ≤ t) (t1 : t < l.length) (hn : n ≤ rsum l t (rd_L2 l 0).length 0)
    (hE : Ev (fun k => laws_FnSpliced.l0 k l cut other x n (t + 1)) true) : ∀ (d : Nat) (i s : Int), 0 ≤ i → i + d = (rd_L2 l 0).length → 0 ≤ s → s ≤ 1000 * i → s + rsum l t d i = rsum l t (rd_L2 l 0).length 0 → Ev (fun k => laws_FnSpliced.l1 k l cut other x n t s i) true
  | 0, i, s, h0, h, s0, s1, e => by
    obtain ⟨hlen, h60, _⟩ := hw.2 t t0 t1
    have h5 := hw.1
    simp only [rsum, Int.add_zero] at e
    refine Ev.step (fun k => by rw [laws_FnSpliced.l1]) ?_
    simp (disch := omega) only [if_pos, if_neg, w64 (t + 1)]
    exact hE
  | d + 1, i, s, h0, h, s0, s1, e => by
    obtain ⟨hlen, h60, _⟩ := hw.2 t t0 t1
    obtain ⟨v0, v1, _⟩ := takes_v hw t0 t1 h0 (by omega)
    unfold V at v0 v1
    have h5 := hw.1
    refine Ev.step (fun k => by rw [laws_FnSpliced.l1]) ?_
    simp (disch := omega) only [if_pos, w64 (i + 1), w64 (s + rd (rd_L2 l t) i)]
    refine ev_l1 hl hw cut other x n t t0 t1 hn hE d (i + 1) (s + rd (rd_L2 l t) i) (by omega) (by omega) (by omega) (by omega) ?_
    rw [← e]; simp only [rsum, V]; omega
theorem ev_l0 {l : List (List Int)} (hl : Small l) (hw : takes l) (cut : Int) (hc0 : 0 ≤ cut) (hc1 : cut ≤ 999) (other x : List Int) (hx : x.length ≤ 60) (n : Int)
    (hn : ∀ t : Int, 0 ≤ t → t < l.length → n ≤ rsum l t (rd_L2 l 0).length 0) (ho : 0 ≤ sc l cut other → n ≤ sc l cut other) : ∀ (d : Nat) (t : Int), 0 ≤ t → (l.length : Int) - t = d → Ev (fun k => laws_FnSpliced.l0 k l cut other x n t) true
  | 0, t, t0, h => by
    refine Ev.step (fun k => by rw [laws_FnSpliced.l0]) ?_
    simp (disch := omega) only [if_neg]
    refine Ev.bind (ev_cost l hl cut other) ?_
    by_cases h0 : sc l cut other ≥ 0
    · have := ho h0
      simp only [h0, if_true, decide_eq_false (show ¬ sc l cut other < n by omega)]
      exact ev_tail hl hw x hx
    · simp only [h0, if_false]
      exact ev_tail hl hw x hx
  | d + 1, t, t0, h => by
    have h5 := hw.1
    refine Ev.step (fun k => by rw [laws_FnSpliced.l0]) ?_
    simp (disch := omega) only [if_pos]
    exact ev_l1 hl hw cut other x n t t0 (by omega) (hn t t0 (by omega)) (ev_l0 hl hw cut hc0 hc1 other x hx n hn ho d (t + 1) (by omega) (by omega)) (rd_L2 l 0).length 0 0 (by omega) (by omega) (by omega) (by omega) (by omega)

theorem FnSpliced : laws_FnSpliced.Pure := by
  intro c hc1 hc2 hc3
  suffices h : Ev (fun k => laws_FnSpliced.f k c) true from h.rounds
  by_cases hb : (c.length : Int) > 1048576
  · refine Ev.congr (f := fun _ => some true) (fun k => ?_) (Ev.now _)
    unfold laws_FnSpliced.f laws_big.f
    simp only [decide_eq_true hb, Option.bind_some, if_true]
  · obtain ⟨⟨l, cut, other⟩, hd, hl⟩ := ev_dsplice c (by omega)
    dsimp only at hl
    obtain ⟨o, b, hi, hbi, hb0, hb1⟩ := ev_isplice l hl cut
    obtain ⟨o', b', hs, hbs, _⟩ := ev_ssplice l hl cut
    have hbb : b' = b := by
      cases b <;> cases b'
      · rfl
      · exact absurd (hbi.2 (hbs.1 rfl)) (by simp)
      · exact absurd (hbs.2 (hbi.1 rfl)) (by simp)
      · rfl
    subst hbb
    unfold laws_FnSpliced.f
    unfold laws_big.f
    simp only [decide_eq_false hb, Option.bind_some, Bool.false_eq_true, if_false]
    refine Ev.bind hd ?_
    dsimp only
    refine Ev.bind hi ?_
    refine Ev.bind hs ?_
    dsimp only
    simp only [bne_self_eq_false, Bool.false_eq_true, if_false]
    cases b' with
    | false =>
      simp only [Bool.false_eq_true, if_false, hb0 rfl]
      exact Ev.now _
    | true =>
      obtain ⟨hw, hc0, hc1⟩ := hbi.1 rfl
      obtain ⟨hlen, hg⟩ := hb1 rfl
      have hv := greedy_valid hg
      have h5 := hw.1
      obtain ⟨_, h60, _⟩ := hw.2 0 (by omega) (by omega)
      have hn : sc l cut o = cf l cut o o.length 0 := by rw [sc_yes ⟨hw, ⟨hc0, hc1⟩, hlen⟩, if_pos hv]
      have h0 := cf_nonneg hw hc0 hc1 o hlen hv o.length 0 (by omega) (by omega)
      simp only [if_true]
      refine Ev.bind (ev_cost l hl cut o) ?_
      rw [hn]
      have e : ((o.length : Int) != ((rd_L2 l 0).length : Int)) = false := by simp; omega
      simp (disch := omega) only [if_pos, if_neg, e]
      refine Ev.step (fun k => by rw [laws_FnSpliced.j0]) ?_
      simp only [Bool.false_eq_true, if_false]
      refine ev_l0 hl hw cut hc0 hc1 other o (by omega) _ (fun t t0 t1 => ?_) (fun h => ?_) l.length 0 (by omega) (by omega)
      · rw [← cf_rep hw cut t (rd_L2 l 0).length (rd_L2 l 0).length 0 (by omega) (by omega)]
        have := best_choice hw hc0 hc1 o (List.replicate (rd_L2 l 0).length t) hlen hg (by simp) (fun j a b => by
          rw [List.length_replicate] at b
          rw [rd_rep hw _ t j a (by omega)]; exact ⟨t0, t1⟩)
        rwa [List.length_replicate] at this
      · by_cases hx : other.length = (rd_L2 l 0).length ∧ valid l other 0
        · rw [sc_yes ⟨hw, ⟨hc0, hc1⟩, hx.1⟩, if_pos hx.2]
          exact best_choice hw hc0 hc1 o other hlen hg hx.1 hx.2
        · exfalso
          unfold sc at h
          rw [if_neg (fun h2 => hx ⟨h2.2.2.1, h2.2.2.2⟩)] at h
          omega
end Go.Proofs.Ytdbmllbphbhfpaa.Pure
