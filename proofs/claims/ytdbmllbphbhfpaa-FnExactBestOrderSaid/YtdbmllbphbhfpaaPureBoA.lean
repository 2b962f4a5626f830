import Derived.Test.YtdbmllbphbhfpaaPBo7
import Derived.Laws.BitsLemmas
/-! Plain laws, first part: membership, ascending rows, the two tellings of AreWorks, Moves and OrderCost. -/
namespace Go.Proofs.Ytdbmllbphbhfpaa.PureBo
open Go.RowKit Go.Proofs.Ytdbmllbphbhfpaa.PBo Go.Proofs.YtdbmllbphbhfpaaW.PrintWords Go.Proofs.YtdbmllbphbhfpaaW.PrintLast
set_option linter.unusedVariables false
set_option linter.unusedSimpArgs false

theorem w64 (n : Int) (h : -9223372036854775808 ≤ n ∧ n ≤ 9223372036854775807) : wrap64 n = n := by unfold wrap64; omega
theorem drop_rd (l : List Int) (i : Int) (h0 : 0 ≤ i) (h1 : i < l.length) : l.drop i.toNat = rd l i :: l.drop (i + 1).toNat := by
  have h : i.toNat < l.length := by omega
  rw [List.drop_eq_getElem_cons h, show (i + 1).toNat = i.toNat + 1 by omega]
  simp [rd, h]
theorem drop_end {α : Type} (l : List α) (i : Int) (h1 : (l.length : Int) ≤ i) : l.drop i.toNat = [] := List.drop_eq_nil_of_le (by omega)
theorem drop_zero {α : Type} (l : List α) : l.drop (0 : Int).toNat = l := by simp

/-! ### is it there -/
theorem ev_has_l (l : List Int) (x : Int) (hl : l.length < 1099511627776) : ∀ (m : Nat) (i : Int), 0 ≤ i → (l.length : Int) - i = m → Ev (fun k => spec_l27Has.l0 k l x i) (decide (x ∈ l.drop i.toNat))
  | 0, i, h0, hm => by
    refine Ev.step (fun k => by rw [spec_l27Has.l0]) ?_
    simp (disch := omega) only [if_neg]
    rw [drop_end l i (by omega)]
    exact Ev.now _
  | m + 1, i, h0, hm => by
    refine Ev.step (fun k => by rw [spec_l27Has.l0]) ?_
    simp (disch := omega) only [if_pos, w64]
    rw [drop_rd l i h0 (by omega)]
    by_cases h : rd l i = x
    · simp only [h, if_true]
      simpa using Ev.now true
    · simp only [h, if_false]
      have := ev_has_l l x hl m (i + 1) (by omega) (by omega)
      have e : decide (x ∈ rd l i :: l.drop (i + 1).toNat) = decide (x ∈ l.drop (i + 1).toNat) := by
        have h' : ¬ x = rd l i := fun e => h e.symm
        simp [h']
      rw [e]; exact this
theorem ev_has (l : List Int) (x : Int) (hl : l.length < 1099511627776) : Ev (fun k => spec_l27Has.f k l x) (decide (x ∈ l)) := by
  have := ev_has_l l x hl l.length 0 (by omega) (by omega)
  rw [drop_zero] at this
  exact this
theorem ev_index_l (l : List Int) (x : Int) (hl : l.length < 1099511627776) : ∀ (m : Nat) (i : Int), 0 ≤ i → (l.length : Int) - i = m → ∃ r, Ev (fun k => slices_Index_int_int.l0 k l x (l.length : Int) i) r ∧ (r ≥ 0 ↔ x ∈ l.drop i.toNat)
  | 0, i, h0, hm => by
    refine ⟨-1, Ev.step (fun k => by rw [slices_Index_int_int.l0]) ?_, ?_⟩
    · simp (disch := omega) only [if_neg]
      exact Ev.now _
    · rw [drop_end l i (by omega)]; simp
  | m + 1, i, h0, hm => by
    rw [drop_rd l i h0 (by omega)]
    by_cases h : x = rd l i
    · refine ⟨i, Ev.step (fun k => by rw [slices_Index_int_int.l0]) ?_, ?_⟩
      · simp (disch := omega) only [if_pos, w64]
        exact Ev.now _
      · simp [h]; omega
    · obtain ⟨r, hr, hi⟩ := ev_index_l l x hl m (i + 1) (by omega) (by omega)
      refine ⟨r, Ev.step (fun k => by rw [slices_Index_int_int.l0]) ?_, ?_⟩
      · simp (disch := omega) only [if_pos, w64]
        simp only [h, if_false]
        exact hr
      · rw [hi]; simp [h]
theorem ev_contains (l : List Int) (x : Int) (hl : l.length < 1099511627776) : Ev (fun k => slices_Contains_int_int.f k l x) (decide (x ∈ l)) := by
  obtain ⟨r, hr, hi⟩ := ev_index_l l x hl l.length 0 (by omega) (by omega)
  rw [drop_zero] at hi
  refine Ev.bind (g := fun k => slices_Index_int_int.f k l x) (f := fun _ t => some (decide (t ≥ 0))) (a := r) hr ?_
  simp only [hi]
  exact Ev.now _

/-! ### what is lacking, and moves -/
def lk (a b : List Int) : Int := ((a.filter (fun y => !decide (y ∈ b))).length : Int)
theorem lk_nil (b : List Int) : lk [] b = 0 := rfl
theorem lk_cons (x : Int) (a b : List Int) : lk (x :: a) b = (if x ∈ b then 0 else 1) + lk a b := by
  unfold lk; by_cases h : x ∈ b <;> simp [h, List.filter_cons] ; omega
theorem lk_nonneg (a b : List Int) : 0 ≤ lk a b := by unfold lk; omega
theorem lk_le (a b : List Int) : lk a b ≤ a.length := by unfold lk; have := List.length_filter_le (fun y => !decide (y ∈ b)) a; omega
theorem lk_self (a : List Int) : lk a a = 0 := by
  unfold lk
  have : a.filter (fun y => !decide (y ∈ a)) = [] := by
    rw [List.filter_eq_nil_iff]; intro y hy; simp [hy]
  rw [this]; rfl
def mv (a b : List Int) : Int := lk a b + lk b a
theorem mv_comm (a b : List Int) : mv a b = mv b a := by unfold mv; omega
theorem mv_self (a : List Int) : mv a a = 0 := by unfold mv; rw [lk_self]; rfl
theorem mv_nonneg (a b : List Int) : 0 ≤ mv a b := by have := lk_nonneg a b; have := lk_nonneg b a; unfold mv; omega
theorem mv_le (a b : List Int) : mv a b ≤ a.length + b.length := by have := lk_le a b; have := lk_le b a; unfold mv; omega

theorem ev_lacking_l (a b : List Int) (ha : a.length < 1099511627776) (hb : b.length < 1099511627776) : ∀ (m : Nat) (i s : Int), 0 ≤ i → (a.length : Int) - i = m → 0 ≤ s → s ≤ i → Ev (fun k => impl_lacking.l0 k b s a (a.length : Int) i) (s + lk (a.drop i.toNat) b)
  | 0, i, s, h0, hm, hs, hsi => by
    refine Ev.step (fun k => by rw [impl_lacking.l0]) ?_
    simp (disch := omega) only [if_neg]
    rw [drop_end a i (by omega), lk_nil, Int.add_zero]
    exact Ev.now _
  | m + 1, i, s, h0, hm, hs, hsi => by
    refine Ev.step (fun k => by rw [impl_lacking.l0]) ?_
    simp (disch := omega) only [if_pos, w64]
    rw [drop_rd a i h0 (by omega), lk_cons]
    refine Ev.bind (ev_contains b (rd a i) hb) ?_
    by_cases h : rd a i ∈ b
    · simp only [h, decide_true, if_true]
      have := ev_lacking_l a b ha hb m (i + 1) s (by omega) (by omega) hs (by omega)
      rw [Int.zero_add]; exact this
    · simp only [h, decide_false, Bool.false_eq_true, if_false]
      have := ev_lacking_l a b ha hb m (i + 1) (s + 1) (by omega) (by omega) (by omega) (by omega)
      rw [← Int.add_assoc]; exact this
theorem ev_lacking (a b : List Int) (ha : a.length < 1099511627776) (hb : b.length < 1099511627776) : Ev (fun k => impl_lacking.f k a b) (lk a b) := by
  have := ev_lacking_l a b ha hb a.length 0 0 (by omega) (by omega) (by omega) (by omega)
  rw [drop_zero, Int.zero_add] at this
  exact this
theorem ev_imoves (m n : Int) (a b : List Int) (ha : a.length < 1099511627776) (hb : b.length < 1099511627776) : Ev (fun k => impl_Moves.f k m a n b) (mv a b) := by
  refine Ev.bind (f := fun k t => (impl_lacking.f k b a).bind fun t463 => (some (wrap64 (t + t463)))) (ev_lacking a b ha hb) ?_
  refine Ev.bind (f := fun k t => some (wrap64 (lk a b + t))) (ev_lacking b a hb ha) ?_
  have h1 := lk_nonneg a b; have h2 := lk_nonneg b a; have h3 := lk_le a b; have h4 := lk_le b a
  simp (disch := omega) only [w64]
  exact Ev.now _
theorem ev_smoves1 (m n : Int) (a b : List Int) (ha : a.length < 1099511627776) (hb : b.length < 1099511627776) : ∀ (d : Nat) (i s : Int), 0 ≤ i → (b.length : Int) - i = d → 0 ≤ s → s ≤ a.length + i → Ev (fun k => spec_Moves.l1 k s i m a n b) (s + lk (b.drop i.toNat) a)
  | 0, i, s, h0, hm, hs, hsi => by
    refine Ev.step (fun k => by rw [spec_Moves.l1]) ?_
    simp (disch := omega) only [if_neg]
    rw [drop_end b i (by omega), lk_nil, Int.add_zero]
    exact Ev.now _
  | d + 1, i, s, h0, hm, hs, hsi => by
    refine Ev.step (fun k => by rw [spec_Moves.l1]) ?_
    simp (disch := omega) only [if_pos, w64]
    rw [drop_rd b i h0 (by omega), lk_cons]
    refine Ev.bind (ev_has a (rd b i) ha) ?_
    by_cases h : rd b i ∈ a
    · simp only [h, decide_true, if_true]
      have := ev_smoves1 m n a b ha hb d (i + 1) s (by omega) (by omega) hs (by omega)
      rw [Int.zero_add]; exact this
    · simp only [h, decide_false, Bool.false_eq_true, if_false]
      have := ev_smoves1 m n a b ha hb d (i + 1) (s + 1) (by omega) (by omega) (by omega) (by omega)
      rw [← Int.add_assoc]; exact this
theorem ev_smoves0 (m n : Int) (a b : List Int) (ha : a.length < 1099511627776) (hb : b.length < 1099511627776) : ∀ (d : Nat) (i s : Int), 0 ≤ i → (a.length : Int) - i = d → 0 ≤ s → s ≤ i → Ev (fun k => spec_Moves.l0 k s i m a n b) (s + lk (a.drop i.toNat) b + lk b a)
  | 0, i, s, h0, hm, hs, hsi => by
    refine Ev.step (fun k => by rw [spec_Moves.l0]) ?_
    simp (disch := omega) only [if_neg]
    rw [drop_end a i (by omega), lk_nil, Int.add_zero]
    have := ev_smoves1 m n a b ha hb b.length 0 s (by omega) (by omega) hs (by omega)
    rw [drop_zero] at this
    exact this
  | d + 1, i, s, h0, hm, hs, hsi => by
    refine Ev.step (fun k => by rw [spec_Moves.l0]) ?_
    simp (disch := omega) only [if_pos, w64]
    rw [drop_rd a i h0 (by omega), lk_cons]
    refine Ev.bind (ev_has b (rd a i) hb) ?_
    by_cases h : rd a i ∈ b
    · simp only [h, decide_true, if_true]
      have := ev_smoves0 m n a b ha hb d (i + 1) s (by omega) (by omega) hs (by omega)
      rw [Int.zero_add]; exact this
    · simp only [h, decide_false, Bool.false_eq_true, if_false]
      have := ev_smoves0 m n a b ha hb d (i + 1) (s + 1) (by omega) (by omega) (by omega) (by omega)
      rw [← Int.add_assoc]; exact this
theorem ev_smoves (m n : Int) (a b : List Int) (ha : a.length < 1099511627776) (hb : b.length < 1099511627776) : Ev (fun k => spec_Moves.f k m a n b) (mv a b) := by
  have := ev_smoves0 m n a b ha hb a.length 0 0 (by omega) (by omega) (by omega) (by omega)
  rw [drop_zero, Int.zero_add] at this
  exact this

/-! ### ascending rows of ids -/
def idAt (l : List Int) (j : Int) : Prop := 1 ≤ rd l j ∧ rd l j ≤ 99 ∧ (0 < j → rd l (j - 1) < rd l j)
def ids (l : List Int) : Prop := ∀ j : Int, 0 ≤ j → j < l.length → idAt l j
theorem ev_ids_l (l : List Int) (hl : l.length < 1099511627776) : ∀ (d : Nat) (i : Int), 0 ≤ i → (l.length : Int) - i = d → ∃ b, Ev (fun k => spec_l30Ids.l0 k l i) b ∧ (b = true ↔ ∀ j : Int, i ≤ j → j < l.length → idAt l j)
  | 0, i, h0, hm => by
    refine ⟨true, Ev.step (fun k => by rw [spec_l30Ids.l0]) ?_, by simp; intro j h1 h2; omega⟩
    simp (disch := omega) only [if_neg]
    exact Ev.now _
  | d + 1, i, h0, hm => by
    by_cases ha : 1 ≤ rd l i ∧ rd l i ≤ 99
    · by_cases hb : 0 < i → rd l (i - 1) < rd l i
      · obtain ⟨b, hE, hi⟩ := ev_ids_l l hl d (i + 1) (by omega) (by omega)
        refine ⟨b, Ev.step (fun k => by rw [spec_l30Ids.l0]) ?_, ?_⟩
        · simp (disch := omega) only [if_pos, w64, spec_l1In.f]
          simp (disch := omega) only [Option.bind_some, decide_eq_true, if_pos, ha.2]
          by_cases hp : 0 < i
          · have := hb hp
            simp (disch := omega) only [if_pos, if_neg, w64]
            exact hE
          · simp (disch := omega) only [if_neg]
            exact hE
        · rw [hi]
          constructor
          · intro h j h1 h2
            by_cases e : j = i
            · subst e; exact ⟨ha.1, ha.2, hb⟩
            · exact h j (by omega) h2
          · intro h j h1 h2
            exact h j (by omega) h2
      · refine ⟨false, Ev.step (fun k => by rw [spec_l30Ids.l0]) ?_, ?_⟩
        · have hp : 0 < i := Classical.byContradiction fun h => hb fun h' => absurd h' h
          have hn : ¬ rd l (i - 1) < rd l i := fun h => hb fun _ => h
          simp (disch := omega) only [if_pos, w64, spec_l1In.f]
          simp (disch := omega) only [Option.bind_some, decide_eq_true, if_pos, ha.2, w64]
          exact Ev.now _
        · simp only [Bool.false_eq_true, false_iff]
          intro h
          exact hb (h i (by omega) (by omega)).2.2
    · refine ⟨false, Ev.step (fun k => by rw [spec_l30Ids.l0]) ?_, ?_⟩
      · have : spec_l1In.f (rd l i) 1 99 = some false := by
          unfold spec_l1In.f
          by_cases h1 : rd l i ≥ 1
          · rw [if_pos h1]
            have : ¬ rd l i ≤ 99 := fun h => ha ⟨h1, h⟩
            simp [this]
          · rw [if_neg h1]
        simp (disch := omega) only [if_pos, this, Option.bind_some, Bool.false_eq_true, if_false]
        exact Ev.now _
      · simp only [Bool.false_eq_true, false_iff]
        intro h
        have := h i (by omega) (by omega)
        exact ha ⟨this.1, this.2.1⟩
theorem ev_ids (l : List Int) (hl : l.length < 1099511627776) : ∃ b, Ev (fun k => spec_l30Ids.f k l) b ∧ (b = true ↔ ids l) :=
  ev_ids_l l hl l.length 0 (by omega) (by omega)
theorem ev_asc_l (l : List Int) (hl : l.length < 1099511627776) : ∀ (d : Nat) (i : Int), 0 ≤ i → (l.length : Int) - i = d → ∃ b, Ev (fun k => impl_ascending.l0 k l 1 99 l (l.length : Int) i) b ∧ (b = true ↔ ∀ j : Int, i ≤ j → j < l.length → idAt l j)
  | 0, i, h0, hm => by
    refine ⟨true, Ev.step (fun k => by rw [impl_ascending.l0]) ?_, by simp; intro j h1 h2; omega⟩
    simp (disch := omega) only [if_neg]
    exact Ev.now _
  | d + 1, i, h0, hm => by
    by_cases ha : 1 ≤ rd l i ∧ rd l i ≤ 99
    · by_cases hb : 0 < i → rd l (i - 1) < rd l i
      · obtain ⟨b, hE, hi⟩ := ev_asc_l l hl d (i + 1) (by omega) (by omega)
        refine ⟨b, Ev.step (fun k => by rw [impl_ascending.l0]) ?_, ?_⟩
        · simp (disch := omega) only [if_pos, w64, impl_InRange.f]
          simp (disch := omega) only [Option.bind_some, decide_eq_true, if_pos, ha.2]
          by_cases hp : 0 < i
          · have := hb hp
            simp (disch := omega) only [if_pos, if_neg, w64]
            exact hE
          · simp (disch := omega) only [if_neg]
            exact hE
        · rw [hi]
          constructor
          · intro h j h1 h2
            by_cases e : j = i
            · subst e; exact ⟨ha.1, ha.2, hb⟩
            · exact h j (by omega) h2
          · intro h j h1 h2
            exact h j (by omega) h2
      · refine ⟨false, Ev.step (fun k => by rw [impl_ascending.l0]) ?_, ?_⟩
        · have hp : 0 < i := Classical.byContradiction fun h => hb fun h' => absurd h' h
          have hn : ¬ rd l (i - 1) < rd l i := fun h => hb fun _ => h
          simp (disch := omega) only [if_pos, w64, impl_InRange.f]
          simp (disch := omega) only [Option.bind_some, decide_eq_true, if_pos, ha.2, w64]
          exact Ev.now _
        · simp only [Bool.false_eq_true, false_iff]
          intro h
          exact hb (h i (by omega) (by omega)).2.2
    · refine ⟨false, Ev.step (fun k => by rw [impl_ascending.l0]) ?_, ?_⟩
      · have : impl_InRange.f (rd l i) 1 99 = some false := by
          unfold impl_InRange.f
          by_cases h1 : 1 ≤ rd l i
          · rw [if_pos h1]
            have : ¬ rd l i ≤ 99 := fun h => ha ⟨h1, h⟩
            simp [this]
          · rw [if_neg h1]
        simp (disch := omega) only [if_pos, this, Option.bind_some, Bool.false_eq_true, if_false]
        exact Ev.now _
      · simp only [Bool.false_eq_true, false_iff]
        intro h
        have := h i (by omega) (by omega)
        exact ha ⟨this.1, this.2.1⟩
theorem ev_asc (l : List Int) (hl : l.length < 1099511627776) : ∃ b, Ev (fun k => impl_ascending.f k l 1 99) b ∧ (b = true ↔ ids l) :=
  ev_asc_l l hl l.length 0 (by omega) (by omega)

/-! ### works -/
def wk (x : S40) : Prop := 1 ≤ x.f0 ∧ x.f0 ≤ 10000000 ∧ ids x.f1
def Rows (l : List S40) : Prop := l.length < 1099511627776 ∧ ∀ j : Int, (rd_T40 l j).f1.length < 1099511627776
def works (l : List S40) : Prop := l.length ≤ 6 ∧ ∀ j : Int, 0 ≤ j → j < l.length → wk (rd_T40 l j)
theorem s_in (x a b : Int) : spec_l1In.f x a b = some (decide (a ≤ x ∧ x ≤ b)) := by
  unfold spec_l1In.f
  by_cases h : x ≥ a
  · have : a ≤ x := h
    rw [if_pos h]; simp [this]
  · have : ¬ a ≤ x := h
    rw [if_neg h]; simp [this]
theorem i_in (x a b : Int) : impl_InRange.f x a b = some (decide (a ≤ x ∧ x ≤ b)) := by
  unfold impl_InRange.f
  by_cases h : a ≤ x
  · rw [if_pos h]; simp [h]
  · rw [if_neg h]; simp [h]
theorem ev_work (n : Int) (l : List Int) (hl : l.length < 1099511627776) : ∃ b, Ev (fun k => impl_AreWorks_1.f k n l) b ∧ (b = true ↔ ¬ wk ⟨n, l⟩) := by
  obtain ⟨b, hE, hb⟩ := ev_asc l hl
  by_cases h : 1 ≤ n ∧ n ≤ 10000000
  · refine ⟨!b, Ev.congr (f := fun k => (impl_ascending.f k l 1 99).bind fun t => some (!t)) (fun k => ?_) ?_, ?_⟩
    · unfold impl_AreWorks_1.f
      simp only [i_in, h, and_self, decide_true, Option.bind_some, if_true]
    · exact Ev.bind (f := fun _ t => some (!t)) hE (Ev.now _)
    · unfold wk
      simp only [Bool.not_eq_true', h.1, h.2, true_and]
      rw [← hb]; simp
  · refine ⟨true, Ev.congr (f := fun _ => some true) (fun k => ?_) (Ev.now _), ?_⟩
    · unfold impl_AreWorks_1.f
      simp [i_in, h]
    · simp only [true_iff]
      exact fun hw => h ⟨hw.1, hw.2.1⟩
theorem ev_sworks_l (l : List S40) (hl : Rows l) : ∀ (d : Nat) (i : Int), 0 ≤ i → (l.length : Int) - i = d → ∃ b, Ev (fun k => spec_AreWorks.l0 k l i) b ∧ (b = true ↔ l.length ≤ 6 ∧ ∀ j : Int, i ≤ j → j < l.length → wk (rd_T40 l j))
  | 0, i, h0, hm => by
    have := hl.1
    refine ⟨decide ((l.length : Int) ≤ 6), Ev.step (fun k => by rw [spec_AreWorks.l0]) ?_, ?_⟩
    · simp (disch := omega) only [if_neg]
      exact Ev.now _
    · simp only [decide_eq_true_eq]
      constructor
      · intro h; exact ⟨by omega, fun j h1 h2 => by omega⟩
      · intro h; omega
  | d + 1, i, h0, hm => by
    have := hl.1
    obtain ⟨c, hc, hci⟩ := ev_ids (rd_T40 l i).f1 (hl.2 i)
    by_cases h : wk (rd_T40 l i)
    · obtain ⟨b, hE, hi⟩ := ev_sworks_l l hl d (i + 1) (by omega) (by omega)
      refine ⟨b, Ev.step (fun k => by rw [spec_AreWorks.l0]) ?_, ?_⟩
      · simp (disch := omega) only [if_pos, w64]
        simp only [s_in, h.1, h.2.1, and_self, decide_true, Option.bind_some, if_true]
        refine Ev.bind hc ?_
        simp only [hci.2 h.2.2, if_true]
        exact hE
      · rw [hi]
        constructor
        · intro ⟨h1, h⟩
          refine ⟨h1, fun j h2 h3 => ?_⟩
          by_cases e : j = i
          · subst e; assumption
          · exact h j (by omega) h3
        · intro ⟨h1, h⟩
          exact ⟨h1, fun j h2 h3 => h j (by omega) h3⟩
    · refine ⟨false, Ev.step (fun k => by rw [spec_AreWorks.l0]) ?_, ?_⟩
      · simp (disch := omega) only [if_pos, w64, s_in, Option.bind_some]
        by_cases h1 : 1 ≤ (rd_T40 l i).f0 ∧ (rd_T40 l i).f0 ≤ 10000000
        · simp only [h1, and_self, decide_true, if_true]
          refine Ev.bind hc ?_
          have : c = false := by
            cases c
            · rfl
            · exact absurd ⟨h1.1, h1.2, hci.1 rfl⟩ h
          simp only [this, Bool.false_eq_true, if_false]
          exact Ev.now _
        · simp only [h1, decide_false, Bool.false_eq_true, if_false]
          exact Ev.now _
      · simp only [Bool.false_eq_true, false_iff]
        intro h2
        exact h (h2.2 i (by omega) (by omega))
theorem ev_sworks (l : List S40) (hl : Rows l) : ∃ b, Ev (fun k => spec_AreWorks.f k l) b ∧ (b = true ↔ works l) :=
  ev_sworks_l l hl l.length 0 (by omega) (by omega)
theorem ev_ixf_l (l : List S40) (hl : Rows l) : ∀ (d : Nat) (i : Int), 0 ≤ i → (l.length : Int) - i = d → ∃ r, Ev (fun k => slices_IndexFunc_60_48.l0 k l (l.length : Int) i) r ∧ (r ≥ 0 ↔ ¬ ∀ j : Int, i ≤ j → j < l.length → wk (rd_T40 l j))
  | 0, i, h0, hm => by
    have := hl.1
    refine ⟨-1, Ev.step (fun k => by rw [slices_IndexFunc_60_48.l0]) ?_, ?_⟩
    · simp (disch := omega) only [if_neg]
      exact Ev.now _
    · constructor
      · intro h; omega
      · intro h; exact absurd (fun j h1 h2 => by omega) h
  | d + 1, i, h0, hm => by
    have := hl.1
    obtain ⟨c, hc, hci⟩ := ev_work (rd_T40 l i).f0 (rd_T40 l i).f1 (hl.2 i)
    by_cases h : wk (rd_T40 l i)
    · obtain ⟨r, hE, hi⟩ := ev_ixf_l l hl d (i + 1) (by omega) (by omega)
      refine ⟨r, Ev.step (fun k => by rw [slices_IndexFunc_60_48.l0]) ?_, ?_⟩
      · simp (disch := omega) only [if_pos, w64]
        refine Ev.bind hc ?_
        have : c = false := by
          cases c
          · rfl
          · exact absurd h (hci.1 rfl)
        simp only [this, Bool.false_eq_true, if_false]
        exact hE
      · rw [hi]
        constructor
        · intro hn ha
          exact hn fun j h1 h2 => ha j (by omega) h2
        · intro hn ha
          refine hn fun j h1 h2 => ?_
          by_cases e : j = i
          · subst e; assumption
          · exact ha j (by omega) h2
    · refine ⟨i, Ev.step (fun k => by rw [slices_IndexFunc_60_48.l0]) ?_, ?_⟩
      · simp (disch := omega) only [if_pos, w64]
        refine Ev.bind hc ?_
        simp only [hci.2 h, if_true]
        exact Ev.now _
      · constructor
        · intro _ ha; exact h (ha i (by omega) (by omega))
        · intro _; omega
theorem ev_iworks (l : List S40) (hl : Rows l) : ∃ b, Ev (fun k => impl_AreWorks.f k l) b ∧ (b = true ↔ works l) := by
  by_cases h : (l.length : Int) ≤ 6
  · obtain ⟨r, hr, hi⟩ := ev_ixf_l l hl l.length 0 (by omega) (by omega)
    refine ⟨!decide (r ≥ 0), Ev.congr (f := fun k => (slices_ContainsFunc_47_48.f k l).bind fun t => some (!t)) (fun k => ?_) ?_, ?_⟩
    · unfold impl_AreWorks.f; rw [if_pos h]
    · refine Ev.bind (f := fun _ t => some (!t)) (a := decide (r ≥ 0)) ?_ (Ev.now _)
      exact Ev.bind (f := fun _ t => some (decide (t ≥ 0))) hr (Ev.now _)
    · simp only [Bool.not_eq_true', decide_eq_false_iff_not, hi, Classical.not_not]
      constructor
      · intro ha; exact ⟨by omega, ha⟩
      · intro ha; exact ha.2
  · refine ⟨false, Ev.congr (f := fun _ => some false) (fun k => ?_) (Ev.now _), ?_⟩
    · unfold impl_AreWorks.f; rw [if_neg h]
    · simp only [Bool.false_eq_true, false_iff]
      intro hw; have := hw.1; omega

/-! ### the cost of an order -/
def mvw (l : List S40) (i j : Int) : Int := mv (rd_T40 l i).f1 (rd_T40 l j).f1
def cst (l : List S40) : List Int → Int
  | a :: b :: t => mvw l a b + cst l (b :: t)
  | _ => 0
def goodAt (l : List S40) (o : List Int) (j : Int) : Prop := 0 ≤ rd o j ∧ rd o j < l.length ∧ rd o j ∉ o.take j.toNat
def good (l : List S40) (o : List Int) : Prop := ∀ j : Int, 0 ≤ j → j < o.length → goodAt l o j
open Classical in
noncomputable def oc (l : List S40) (o : List Int) : Int := if works l ∧ o.length = l.length ∧ good l o then cst l o else -1
theorem cst_step (l : List S40) (o : List Int) (i : Int) (h0 : 0 < i) (h1 : i < o.length) : cst l (o.drop (i - 1).toNat) = mvw l (rd o (i - 1)) (rd o i) + cst l (o.drop i.toNat) := by
  rw [drop_rd o (i - 1) (by omega) (by omega), show i - 1 + 1 = i by omega, drop_rd o i (by omega) (by omega)]
  rfl
theorem cst_last (l : List S40) (o : List Int) (i : Int) (h0 : 0 < i) (h1 : (o.length : Int) ≤ i) : cst l (o.drop (i - 1).toNat) = 0 := by
  by_cases h : (o.length : Int) ≤ i - 1
  · rw [drop_end o _ h]; rfl
  · rw [drop_rd o (i - 1) (by omega) (by omega), drop_end o _ (by omega)]; rfl
/-- The sum from place i on. -/
def from_ (l : List S40) (o : List Int) (i : Int) : Int := if 0 < i then cst l (o.drop (i - 1).toNat) else cst l o
theorem from_end (l : List S40) (o : List Int) (i : Int) (h0 : 0 ≤ i) (h1 : (o.length : Int) ≤ i) : from_ l o i = 0 := by
  unfold from_
  split
  · exact cst_last l o i (by assumption) h1
  · have : o = [] := List.length_eq_zero_iff.1 (by omega)
    subst this; rfl
theorem from_step (l : List S40) (o : List Int) (i : Int) (h0 : 0 < i) (h1 : i < o.length) : from_ l o i = mvw l (rd o (i - 1)) (rd o i) + from_ l o (i + 1) := by
  unfold from_
  rw [if_pos h0, if_pos (by omega), cst_step l o i h0 h1, show i + 1 - 1 = i by omega]
theorem from_zero (l : List S40) (o : List Int) : from_ l o 0 = from_ l o (0 + 1) := by
  unfold from_; simp
open Classical in
theorem ev_socost_l (l : List S40) (o : List Int) (hl : Rows l) (hs : ∀ j : Int, (rd_T40 l j).f1.length ≤ 1048576) (ho : o.length ≤ 1000) : ∀ (d : Nat) (i s : Int), 0 ≤ i → (o.length : Int) - i = d → 0 ≤ s → s ≤ 2097152 * i → (∀ j : Int, 0 ≤ j → j < i → goodAt l o j) →
    Ev (fun k => spec_OrderCost.l0 k l o s i) (if ∀ j : Int, i ≤ j → j < o.length → goodAt l o j then s + from_ l o i else -1)
  | 0, i, s, h0, hm, hs0, hsi, hgd => by
    have := hl.1
    refine Ev.step (fun k => by rw [spec_OrderCost.l0]) ?_
    simp (disch := omega) only [if_neg]
    rw [if_pos (fun j h1 h2 => by omega), from_end l o i h0 (by omega), Int.add_zero]
    exact Ev.now _
  | d + 1, i, s, h0, hm, hs0, hsi, hgd => by
    have hll := hl.1
    by_cases h : goodAt l o i
    · have e : (∀ j : Int, i ≤ j → j < o.length → goodAt l o j) ↔ ∀ j : Int, i + 1 ≤ j → j < o.length → goodAt l o j := by
        constructor
        · intro ha j h1 h2; exact ha j (by omega) h2
        · intro ha j h1 h2
          by_cases e : j = i
          · subst e; exact h
          · exact ha j (by omega) h2
      simp only [e]
      have hg := h
      obtain ⟨g0, g1, g2⟩ := h
      refine Ev.step (fun k => by rw [spec_OrderCost.l0]) ?_
      simp (disch := omega) only [if_pos, w64, s_in, Option.bind_some]
      have c1 : (0 ≤ rd o i ∧ rd o i ≤ (l.length : Int) - 1) := ⟨g0, by omega⟩
      simp (disch := omega) only [c1, and_self, decide_true, if_true, if_pos]
      refine Ev.bind (ev_has _ _ (by rw [List.length_take]; omega)) ?_
      simp only [g2, decide_false]
      refine Ev.step (fun k => by rw [spec_OrderCost.j2]) ?_
      simp only [Bool.false_eq_true, if_false]
      by_cases hp : 0 < i
      · have hprev := hgd (i - 1) (by omega) (by omega)
        have p0 := hprev.1
        have p1 := hprev.2.1
        simp (disch := omega) only [if_pos, w64]
        refine Ev.bind (ev_smoves _ _ _ _ (hl.2 _) (hl.2 _)) ?_
        have m0 := mv_nonneg (rd_T40 l (rd o (i - 1))).f1 (rd_T40 l (rd o i)).f1
        have m1 := mv_le (rd_T40 l (rd o (i - 1))).f1 (rd_T40 l (rd o i)).f1
        have m2 := hs (rd o (i - 1))
        have m3 := hs (rd o i)
        simp (disch := omega) only [w64]
        rw [from_step l o i hp (by omega), ← Int.add_assoc]
        exact ev_socost_l l o hl hs ho d (i + 1) _ (by omega) (by omega) (by omega) (by omega) (fun j h1 h2 => by
          by_cases e : j = i
          · subst e; exact hg
          · exact hgd j h1 (by omega))
      · have hi0 : i = 0 := by omega
        subst hi0
        simp (disch := omega) only [if_neg, w64]
        have := ev_socost_l l o hl hs ho d (0 + 1) s (by omega) (by omega) hs0 (by omega) (fun j h1 h2 => by
          have : j = 0 := by omega
          subst this; exact hg)
        rw [from_zero]
        exact this
    · rw [if_neg (fun ha => h (ha i (by omega) (by omega)))]
      refine Ev.step (fun k => by rw [spec_OrderCost.l0]) ?_
      simp (disch := omega) only [if_pos, w64, s_in, Option.bind_some]
      by_cases c1 : (0 ≤ rd o i ∧ rd o i ≤ (l.length : Int) - 1)
      · simp (disch := omega) only [c1, and_self, decide_true, if_true, if_pos]
        refine Ev.bind (ev_has _ _ (by rw [List.length_take]; omega)) ?_
        have : rd o i ∈ o.take i.toNat := Classical.byContradiction fun hn => h ⟨c1.1, by omega, hn⟩
        simp only [this, decide_true]
        refine Ev.step (fun k => by rw [spec_OrderCost.j2]) ?_
        simp only [if_true]
        exact Ev.now _
      · simp only [c1, decide_false, Bool.false_eq_true, if_false]
        refine Ev.step (fun k => by rw [spec_OrderCost.j2]) ?_
        simp only [if_true]
        exact Ev.now _
open Classical in
theorem ev_iocost_l (l : List S40) (o : List Int) (hl : Rows l) (hs : ∀ j : Int, (rd_T40 l j).f1.length ≤ 1048576) (ho : o.length ≤ 1000) : ∀ (d : Nat) (i s : Int), 0 ≤ i → (o.length : Int) - i = d → 0 ≤ s → s ≤ 2097152 * i → (∀ j : Int, 0 ≤ j → j < i → goodAt l o j) →
    Ev (fun k => impl_OrderCost.l0 k l o s o (o.length : Int) i) (if ∀ j : Int, i ≤ j → j < o.length → goodAt l o j then s + from_ l o i else -1)
  | 0, i, s, h0, hm, hs0, hsi, hgd => by
    have := hl.1
    refine Ev.step (fun k => by rw [impl_OrderCost.l0]) ?_
    simp (disch := omega) only [if_neg]
    rw [if_pos (fun j h1 h2 => by omega), from_end l o i h0 (by omega), Int.add_zero]
    exact Ev.now _
  | d + 1, i, s, h0, hm, hs0, hsi, hgd => by
    have hll := hl.1
    by_cases h : goodAt l o i
    · have e : (∀ j : Int, i ≤ j → j < o.length → goodAt l o j) ↔ ∀ j : Int, i + 1 ≤ j → j < o.length → goodAt l o j := by
        constructor
        · intro ha j h1 h2; exact ha j (by omega) h2
        · intro ha j h1 h2
          by_cases e : j = i
          · subst e; exact h
          · exact ha j (by omega) h2
      simp only [e]
      have hg := h
      obtain ⟨g0, g1, g2⟩ := h
      refine Ev.step (fun k => by rw [impl_OrderCost.l0]) ?_
      simp (disch := omega) only [if_pos, w64, i_in, Option.bind_some]
      have c1 : (0 ≤ rd o i ∧ rd o i ≤ (l.length : Int) - 1) := ⟨g0, by omega⟩
      simp (disch := omega) only [c1, and_self, decide_true, if_true, if_pos]
      refine Ev.bind (ev_contains _ _ (by rw [List.length_take]; omega)) ?_
      simp only [g2, decide_false]
      refine Ev.step (fun k => by rw [impl_OrderCost.j2]) ?_
      simp only [Bool.false_eq_true, if_false]
      by_cases hp : 0 < i
      · have hprev := hgd (i - 1) (by omega) (by omega)
        have p0 := hprev.1
        have p1 := hprev.2.1
        simp (disch := omega) only [if_pos, w64]
        refine Ev.bind (ev_imoves _ _ _ _ (hl.2 _) (hl.2 _)) ?_
        have m0 := mv_nonneg (rd_T40 l (rd o (i - 1))).f1 (rd_T40 l (rd o i)).f1
        have m1 := mv_le (rd_T40 l (rd o (i - 1))).f1 (rd_T40 l (rd o i)).f1
        have m2 := hs (rd o (i - 1))
        have m3 := hs (rd o i)
        simp (disch := omega) only [w64]
        rw [from_step l o i hp (by omega), ← Int.add_assoc]
        exact ev_iocost_l l o hl hs ho d (i + 1) _ (by omega) (by omega) (by omega) (by omega) (fun j h1 h2 => by
          by_cases e : j = i
          · subst e; exact hg
          · exact hgd j h1 (by omega))
      · have hi0 : i = 0 := by omega
        subst hi0
        simp (disch := omega) only [if_neg, w64]
        have := ev_iocost_l l o hl hs ho d (0 + 1) s (by omega) (by omega) hs0 (by omega) (fun j h1 h2 => by
          have : j = 0 := by omega
          subst this; exact hg)
        rw [from_zero]
        exact this
    · rw [if_neg (fun ha => h (ha i (by omega) (by omega)))]
      refine Ev.step (fun k => by rw [impl_OrderCost.l0]) ?_
      simp (disch := omega) only [if_pos, w64, i_in, Option.bind_some]
      by_cases c1 : (0 ≤ rd o i ∧ rd o i ≤ (l.length : Int) - 1)
      · simp (disch := omega) only [c1, and_self, decide_true, if_true, if_pos]
        refine Ev.bind (ev_contains _ _ (by rw [List.length_take]; omega)) ?_
        have : rd o i ∈ o.take i.toNat := Classical.byContradiction fun hn => h ⟨c1.1, by omega, hn⟩
        simp only [this, decide_true]
        refine Ev.step (fun k => by rw [impl_OrderCost.j2]) ?_
        simp only [if_true]
        exact Ev.now _
      · simp only [c1, decide_false, Bool.false_eq_true, if_false]
        refine Ev.step (fun k => by rw [impl_OrderCost.j2]) ?_
        simp only [if_true]
        exact Ev.now _

open Classical in
theorem ev_socost (l : List S40) (o : List Int) (hl : Rows l) (hs : ∀ j : Int, (rd_T40 l j).f1.length ≤ 1048576) (ho : o.length ≤ 1000) : Ev (fun k => spec_OrderCost.f k l o) (oc l o) := by
  obtain ⟨b, hb, hi⟩ := ev_sworks l hl
  refine Ev.bind hb ?_
  unfold oc
  by_cases hw : works l
  · simp only [hi.2 hw, if_true, hw, true_and]
    refine Ev.step (fun k => by rw [spec_OrderCost.j0]) ?_
    by_cases hn : o.length = l.length
    · have e : ((o.length : Int) != (l.length : Int)) = false := by simp [hn]
      simp only [e, Bool.false_eq_true, if_false]
      have := ev_socost_l l o hl hs ho o.length 0 0 (by omega) (by omega) (by omega) (by omega) (fun j h1 h2 => by omega)
      rw [Int.zero_add] at this
      simp only [show (o.length = l.length ∧ good l o) = good l o from propext ⟨fun h => h.2, fun h => ⟨hn, h⟩⟩]
      exact this
    · have e : ((o.length : Int) != (l.length : Int)) = true := by simp; omega
      simp only [e, if_true, hn, false_and, if_false]
      exact Ev.now _
  · have : b = false := by
      cases b
      · rfl
      · exact absurd (hi.1 rfl) hw
    simp only [this, Bool.false_eq_true, if_false, hw, false_and]
    refine Ev.step (fun k => by rw [spec_OrderCost.j0]) ?_
    simp only [if_true]
    exact Ev.now _

open Classical in
theorem ev_iocost (l : List S40) (o : List Int) (hl : Rows l) (hs : ∀ j : Int, (rd_T40 l j).f1.length ≤ 1048576) (ho : o.length ≤ 1000) : Ev (fun k => impl_OrderCost.f k l o) (oc l o) := by
  obtain ⟨b, hb, hi⟩ := ev_iworks l hl
  refine Ev.bind hb ?_
  unfold oc
  by_cases hw : works l
  · simp only [hi.2 hw, if_true, hw, true_and]
    refine Ev.step (fun k => by rw [impl_OrderCost.j0]) ?_
    by_cases hn : o.length = l.length
    · have e : ((o.length : Int) != (l.length : Int)) = false := by simp [hn]
      simp only [e, Bool.false_eq_true, if_false]
      have := ev_iocost_l l o hl hs ho o.length 0 0 (by omega) (by omega) (by omega) (by omega) (fun j h1 h2 => by omega)
      rw [Int.zero_add] at this
      simp only [show (o.length = l.length ∧ good l o) = good l o from propext ⟨fun h => h.2, fun h => ⟨hn, h⟩⟩]
      exact this
    · have e : ((o.length : Int) != (l.length : Int)) = true := by simp; omega
      simp only [e, if_true, hn, false_and, if_false]
      exact Ev.now _
  · have : b = false := by
      cases b
      · rfl
      · exact absurd (hi.1 rfl) hw
    simp only [this, Bool.false_eq_true, if_false, hw, false_and]
    refine Ev.step (fun k => by rw [impl_OrderCost.j0]) ?_
    simp only [if_true]
    exact Ev.now _
end Go.Proofs.Ytdbmllbphbhfpaa.PureBo
