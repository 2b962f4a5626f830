import Derived.Test.YtdbmllbphbhfpaaPureBoA
/-! Plain laws, third part: the search through all orders, on both sides. -/
namespace Go.Proofs.Ytdbmllbphbhfpaa.PureBo
open Go.RowKit Go.Proofs.Ytdbmllbphbhfpaa.PBo Go.Proofs.YtdbmllbphbhfpaaW.PrintWords Go.Proofs.YtdbmllbphbhfpaaW.PrintLast
set_option linter.unusedVariables false
set_option linter.unusedSimpArgs false

/-! ### orders -/
theorem rd_get (o : List Int) (j : Nat) (h : j < o.length) : rd o (j : Int) = o[j] := by simp [rd, h]
theorem good_iff (l : List S40) (o : List Int) : good l o ↔ o.Nodup ∧ ∀ x ∈ o, 0 ≤ x ∧ x < l.length := by
  unfold good goodAt
  constructor
  · intro h
    refine ⟨?_, fun x hx => ?_⟩
    · unfold List.Nodup
      rw [List.pairwise_iff_getElem]
      intro i j hi hj hij e
      have h2 := (h j (by omega) (by omega)).2.2
      rw [rd_get o j hj] at h2
      refine h2 ?_
      rw [List.mem_take_iff_getElem]
      exact ⟨i, by simp; omega, e⟩
    · obtain ⟨i, hi, rfl⟩ := List.mem_iff_getElem.1 hx
      have h2 := h i (by omega) (by omega)
      rw [rd_get o i hi] at h2
      exact ⟨h2.1, h2.2.1⟩
  · intro ⟨hn, hr⟩ j h0 h1
    have hj : j.toNat < o.length := by omega
    have e : rd o j = o[j.toNat] := by
      have := rd_get o j.toNat hj
      rwa [show ((j.toNat : Nat) : Int) = j by omega] at this
    rw [e]
    refine ⟨(hr _ (List.getElem_mem hj)).1, (hr _ (List.getElem_mem hj)).2, fun hm => ?_⟩
    rw [List.mem_take_iff_getElem] at hm
    obtain ⟨i, hi, e2⟩ := hm
    unfold List.Nodup at hn
    rw [List.pairwise_iff_getElem] at hn
    exact hn i j.toNat (by omega) hj (by omega) e2
theorem good_reverse (l : List S40) (o : List Int) (h : good l o) : good l o.reverse := by
  rw [good_iff] at h ⊢
  refine ⟨?_, fun x hx => h.2 x (List.mem_reverse.1 hx)⟩
  have := h.1
  unfold List.Nodup at this ⊢
  rw [List.pairwise_reverse]
  exact this.imp fun h e => h e.symm
theorem cst_snoc (l : List S40) (b a : Int) : ∀ xs : List Int, cst l (xs ++ [b] ++ [a]) = cst l (xs ++ [b]) + mvw l b a
  | [] => by simp [cst]
  | [x] => by simp [cst]
  | x :: y :: t => by
    have := cst_snoc l b a (y :: t)
    simp only [List.cons_append] at this ⊢
    simp only [cst]
    rw [this]; omega
theorem cst_reverse (l : List S40) : ∀ o : List Int, cst l o.reverse = cst l o
  | [] => rfl
  | [x] => rfl
  | a :: b :: t => by
    have := cst_reverse l (b :: t)
    simp only [List.reverse_cons] at this ⊢
    rw [cst_snoc, this]
    have : mvw l b a = mvw l a b := mv_comm _ _
    rw [this]; simp only [cst]; omega
theorem cst_nonneg (l : List S40) : ∀ o : List Int, 0 ≤ cst l o
  | [] => by simp [cst]
  | [x] => by simp [cst]
  | a :: b :: t => by
    have := cst_nonneg l (b :: t)
    have := mv_nonneg (rd_T40 l a).f1 (rd_T40 l b).f1
    simp only [cst, mvw]; omega
theorem oc_good {l : List S40} {o : List Int} (hw : works l) (hn : o.length = l.length) (hg : good l o) : oc l o = cst l o := by
  unfold oc; rw [if_pos ⟨hw, hn, hg⟩]
theorem oc_reverse {l : List S40} {o : List Int} (hw : works l) (hn : o.length = l.length) (hg : good l o) : oc l o.reverse = oc l o := by
  rw [oc_good hw hn hg, oc_good hw (by simpa using hn) (good_reverse l o hg), cst_reverse]
theorem oc_is {l : List S40} {o : List Int} (h : 0 ≤ oc l o) : works l ∧ o.length = l.length ∧ good l o := by
  unfold oc at h
  split at h
  · assumption
  · omega

/-! ### all orders, in their row -/
/-- What is not yet in the order, from place i on. -/
def free (o : List Int) (i d : Nat) : List Int := ((List.range' i d).map (fun (i : Nat) => (i : Int))).filter (fun x => !decide (x ∈ o))
def ords (n : Nat) : Nat → List Int → List (List Int)
  | 0, o => [o]
  | m + 1, o => (free o 0 n).flatMap fun i => ords n m (o ++ [i])
theorem mem_free {o : List Int} {i d : Nat} {x : Int} : x ∈ free o i d ↔ (i : Int) ≤ x ∧ x < (i : Int) + d ∧ x ∉ o := by
  unfold free
  simp only [List.mem_filter, List.mem_map, List.mem_range'_1, Bool.not_eq_true', decide_eq_false_iff_not]
  constructor
  · rintro ⟨⟨j, hj, rfl⟩, h⟩
    exact ⟨by omega, by omega, h⟩
  · rintro ⟨h1, h2, h3⟩
    exact ⟨⟨x.toNat, by omega, by omega⟩, h3⟩
theorem free_zero (o : List Int) (i : Nat) : free o i 0 = [] := by simp [free]
theorem free_in {o : List Int} {i d : Nat} (h : (i : Int) ∈ o) : free o i (d + 1) = free o (i + 1) d := by
  simp [free, List.range'_succ, List.filter_cons, h]
theorem free_out {o : List Int} {i d : Nat} (h : (i : Int) ∉ o) : free o i (d + 1) = (i : Int) :: free o (i + 1) d := by
  simp [free, List.range'_succ, List.filter_cons, h]
theorem ords_sound (n : Nat) : ∀ (m : Nat) (o p : List Int), p ∈ ords n m o → o.Nodup → (∀ x ∈ o, 0 ≤ x ∧ x < (n : Int)) → p.length = o.length + m ∧ p.Nodup ∧ ∀ x ∈ p, 0 ≤ x ∧ x < (n : Int)
  | 0, o, p, h, hn, hr => by
    simp [ords] at h; subst h; exact ⟨rfl, hn, hr⟩
  | m + 1, o, p, h, hn, hr => by
    simp only [ords, List.mem_flatMap] at h
    obtain ⟨i, hi, hp⟩ := h
    rw [mem_free] at hi
    have := ords_sound n m (o ++ [i]) p hp (by
      rw [List.nodup_append]
      refine ⟨hn, by simp, ?_⟩
      intro a ha b hb e
      simp at hb
      subst hb e
      exact hi.2.2 ha) (by
      intro x hx
      rcases List.mem_append.1 hx with h1 | h1
      · exact hr x h1
      · simp at h1; subst h1; omega)
    exact ⟨by rw [this.1]; simp; omega, this.2⟩
theorem ords_complete (n : Nat) : ∀ (m : Nat) (o q : List Int), q.length = m → (o ++ q).Nodup → (∀ x ∈ o ++ q, 0 ≤ x ∧ x < (n : Int)) → o ++ q ∈ ords n m o
  | 0, o, q, hq, hn, hr => by
    have : q = [] := List.length_eq_zero_iff.1 hq
    subst this; simp [ords]
  | m + 1, o, [], hq, hn, hr => by simp at hq
  | m + 1, o, i :: q, hq, hn, hr => by
    simp only [ords, List.mem_flatMap]
    refine ⟨i, ?_, ?_⟩
    · rw [mem_free]
      have := hr i (by simp)
      refine ⟨by omega, by omega, fun h => ?_⟩
      rw [List.nodup_append] at hn
      exact hn.2.2 i h i (by simp) rfl
    · have := ords_complete n m (o ++ [i]) q (by simpa using hq) (by simpa using hn) (by simpa using hr)
      simpa using this
theorem range_has (n : Nat) : ∀ (o : List Int), o.Nodup → (∀ x ∈ o, 0 ≤ x ∧ x < (n : Int)) → o.length ≤ n := by
  induction n with
  | zero =>
    intro o hn hr
    cases o with
    | nil => simp
    | cons x t => have := hr x (by simp); omega
  | succ n ih =>
    intro o hn hr
    have h1 := ih (o.filter (fun x => !decide (x = (n : Int)))) (List.Pairwise.filter _ hn) (by
      intro x hx
      simp only [List.mem_filter, Bool.not_eq_true', decide_eq_false_iff_not] at hx
      have := hr x hx.1
      omega)
    have h2 : o.length ≤ (o.filter (fun x => !decide (x = (n : Int)))).length + 1 := by
      clear h1 hr
      induction o with
      | nil => simp
      | cons x t ih2 =>
        have hn' : x ∉ t ∧ t.Nodup := by simpa using hn
        by_cases hx : x = (n : Int)
        · have : t.filter (fun x => !decide (x = (n : Int))) = t := by
            rw [List.filter_eq_self]
            intro y hy
            simp only [Bool.not_eq_true', decide_eq_false_iff_not]
            intro e
            exact hn'.1 (by rw [hx, ← e]; exact hy)
          rw [List.filter_cons]
          simp [hx, this]
        · have := ih2 hn'.2
          rw [List.filter_cons]
          simp [hx]
          omega
    omega
theorem ords_ne (n : Nat) : ∀ (m : Nat) (o : List Int), o.length + m = n → o.Nodup → (∀ x ∈ o, 0 ≤ x ∧ x < (n : Int)) → ords n m o ≠ []
  | 0, o, _, _, _ => by simp [ords]
  | m + 1, o, hl, hn, hr => by
    have hne : free o 0 n ≠ [] := by
      intro e
      -- every number below n is in o: then o has n of them
      have hall : ∀ i : Nat, i < n → (i : Int) ∈ o := fun i hi => Classical.byContradiction fun h => by
        have : (i : Int) ∈ free o 0 n := mem_free.2 ⟨by omega, by omega, h⟩
        rw [e] at this; simp at this
      have : ∀ k : Nat, k ≤ n → ∀ o' : List Int, (∀ i : Nat, i < k → (i : Int) ∈ o') → k ≤ o'.length := by
        intro k
        induction k with
        | zero => intro _ _ _; omega
        | succ k ih =>
          intro hk o' ho'
          have hm := ho' k (by omega)
          have h1 := ih (by omega) (o'.erase (k : Int)) (fun i hi => by
            refine (List.mem_erase_of_ne (by omega)).2 (ho' i (by omega)))
          rw [List.length_erase_of_mem hm] at h1
          have : 0 < o'.length := List.length_pos_of_mem hm
          omega
      have := this n (by omega) o hall
      omega
    cases hf : free o 0 n with
    | nil => exact absurd hf hne
    | cons i t =>
      have hi : i ∈ free o 0 n := by rw [hf]; simp
      rw [mem_free] at hi
      have := ords_ne n m (o ++ [i]) (by simp; omega) (by
        rw [List.nodup_append]
        refine ⟨hn, by simp, ?_⟩
        intro a ha b hb e
        simp at hb
        subst hb e
        exact hi.2.2 ha) (by
        intro x hx
        rcases List.mem_append.1 hx with h1 | h1
        · exact hr x h1
        · simp at h1; subst h1; omega)
      intro e
      simp only [ords, hf, List.flatMap_cons, List.append_eq_nil_iff] at e
      exact this e.1
/-- All orders of a whole row. -/
def allOrds (l : List S40) : List (List Int) := ords l.length l.length []
theorem mem_all {l : List S40} {o : List Int} : o ∈ allOrds l ↔ o.length = l.length ∧ good l o := by
  rw [good_iff]
  constructor
  · intro h
    have := ords_sound l.length l.length [] o h (by simp) (by simp)
    exact ⟨by simpa using this.1, this.2⟩
  · rintro ⟨h1, h2, h3⟩
    have := ords_complete l.length l.length [] o h1 (by simpa using h2) (by simpa using h3)
    rw [List.nil_append] at this
    exact this
theorem all_ne (l : List S40) : allOrds l ≠ [] := ords_ne _ _ _ (by simp) (by simp) (by simp)

/-! ### the code's search -/
noncomputable def upd (l : List S40) (b : List Int × Int) (o : List Int) : List Int × Int := if b.2 < 0 then (o, oc l o) else if oc l o < b.2 then (o, oc l o) else b
theorem clone_ (o : List Int) (h : o.length < 17592186044416) : impl_clone_int.f o = some o := by
  unfold impl_clone_int.f
  rw [Option.bind_some, if_pos (by simpa using h)]
  simp
theorem flat_step {α : Type} (f : α → List Int → α) (b : α) (n m : Nat) (order : List Int) (i : Int) (t : List Int) : ((i :: t).flatMap fun i => ords n m (order ++ [i])).foldl f b = (t.flatMap fun i => ords n m (order ++ [i])).foldl f ((ords n m (order ++ [i])).foldl f b) := by
  rw [List.flatMap_cons, List.foldl_append]
theorem ev_loop (l : List S40) (hl : l.length ≤ 1000) (m : Nat) (order : List Int) (ho : order.length + (m + 1) = l.length) (ih : ∀ (i : Int) (b : List Int × Int), Ev (fun k => impl_BestOrder_w.ext k l (order ++ [i]) b.1 b.2) ((ords l.length m (order ++ [i])).foldl (upd l) b)) :
    ∀ (d i : Nat) (b : List Int × Int), i + d = l.length → Ev (fun k => impl_BestOrder_w.loop k l order b.1 b.2 (i : Int)) (((free order i d).flatMap fun i => ords l.length m (order ++ [i])).foldl (upd l) b)
  | 0, i, b, hi => by
    refine Ev.step (fun k => by rw [impl_BestOrder_w.loop]) ?_
    rw [free_zero]
    simp (disch := omega) only [if_neg]
    exact Ev.now _
  | d + 1, i, b, hi => by
    refine Ev.step (fun k => by rw [impl_BestOrder_w.loop]) ?_
    simp (disch := omega) only [if_pos]
    refine Ev.bind (ev_contains order (i : Int) (by omega)) ?_
    by_cases h : (i : Int) ∈ order
    · simp only [h, decide_true, if_true]
      rw [free_in h]
      exact ev_loop l hl m order ho ih d (i + 1) b (by omega)
    · simp only [h, decide_false, Bool.false_eq_true, if_false]
      rw [free_out h, flat_step]
      refine Ev.bind (ih i b) ?_
      exact ev_loop l hl m order ho ih d (i + 1) _ (by omega)
theorem ev_ext (l : List S40) (hl : Rows l) (hs : ∀ j : Int, (rd_T40 l j).f1.length ≤ 1048576) (hn : l.length ≤ 1000) : ∀ (m : Nat) (order : List Int) (b : List Int × Int), order.length + m = l.length → Ev (fun k => impl_BestOrder_w.ext k l order b.1 b.2) ((ords l.length m order).foldl (upd l) b)
  | 0, order, b, ho => by
    refine Ev.step (fun k => by rw [impl_BestOrder_w.ext]) ?_
    simp (disch := omega) only [if_pos]
    refine Ev.bind (ev_iocost l order hl hs (by omega)) ?_
    simp only [clone_ order (by omega), Option.bind_some, ords, List.foldl_cons, List.foldl_nil, upd]
    split
    · exact Ev.now _
    · split
      · exact Ev.now _
      · exact Ev.now _
  | m + 1, order, b, ho => by
    refine Ev.step (fun k => by rw [impl_BestOrder_w.ext]) ?_
    simp (disch := omega) only [if_neg]
    exact ev_loop l hn m order ho (fun i b => ev_ext l hl hs hn m (order ++ [i]) b (by simp; omega)) l.length 0 b (by omega)
noncomputable def best (l : List S40) : List Int × Int := (allOrds l).foldl (upd l) ([], -1)
open Classical in
theorem ev_ibest (l : List S40) (hl : Rows l) (hs : ∀ j : Int, (rd_T40 l j).f1.length ≤ 1048576) : Ev (fun k => impl_BestOrder.f k l) (if works l then (best l).1 else []) := by
  obtain ⟨b, hb, hi⟩ := ev_iworks l hl
  refine Ev.bind hb ?_
  by_cases hw : works l
  · simp only [hi.2 hw, if_true, hw]
    have h6 := hw.1
    exact Ev.bind (ev_ext l hl hs (by omega) l.length [] ([], -1) (by simp)) (Ev.now _)
  · have : b = false := by
      cases b
      · rfl
      · exact absurd (hi.1 rfl) hw
    simp only [this, Bool.false_eq_true, if_false, hw]
    exact Ev.now _
theorem fold_least (l : List S40) (hw : works l) : ∀ (L : List (List Int)) (b : List Int × Int), (∀ o ∈ L, o.length = l.length ∧ good l o) → (0 ≤ b.2 → b.2 = oc l b.1) →
    (0 ≤ (L.foldl (upd l) b).2 → (L.foldl (upd l) b).2 = oc l (L.foldl (upd l) b).1) ∧ (∀ o ∈ L, 0 ≤ (L.foldl (upd l) b).2 ∧ (L.foldl (upd l) b).2 ≤ oc l o) ∧ (0 ≤ b.2 → 0 ≤ (L.foldl (upd l) b).2 ∧ (L.foldl (upd l) b).2 ≤ b.2)
  | [], b, hL, hb => ⟨hb, by simp, by simp⟩
  | o :: L, b, hL, hb => by
    have h0 : 0 ≤ oc l o := by
      have := hL o (by simp)
      rw [oc_good hw this.1 this.2]; exact cst_nonneg l o
    have hu : 0 ≤ (upd l b o).2 ∧ (upd l b o).2 = oc l (upd l b o).1 ∧ (upd l b o).2 ≤ oc l o ∧ (0 ≤ b.2 → (upd l b o).2 ≤ b.2) := by
      unfold upd
      split
      · exact ⟨h0, rfl, by simp, by omega⟩
      · split
        · exact ⟨h0, rfl, by simp, fun _ => by simp; omega⟩
        · exact ⟨by omega, hb (by omega), by omega, by simp⟩
    obtain ⟨a1, a2, a3⟩ := fold_least l hw L (upd l b o) (fun p hp => hL p (by simp [hp])) (fun _ => hu.2.1)
    simp only [List.foldl_cons]
    have a4 := a3 hu.1
    refine ⟨a1, fun p hp => ?_, fun h => ⟨a4.1, by have := hu.2.2.2 h; omega⟩⟩
    rcases List.mem_cons.1 hp with e | h
    · subst e; exact ⟨a4.1, by omega⟩
    · exact a2 p h
theorem best_is (l : List S40) (hw : works l) : 0 ≤ oc l (best l).1 ∧ (best l).2 = oc l (best l).1 ∧ ∀ o, 0 ≤ oc l o → oc l (best l).1 ≤ oc l o := by
  obtain ⟨a1, a2, a3⟩ := fold_least l hw (allOrds l) ([], -1) (fun o ho => mem_all.1 ho) (by simp)
  have hp : 0 ≤ (best l).2 := by
    cases h : allOrds l with
    | nil => exact absurd h (all_ne l)
    | cons o t => exact (a2 o (by rw [h]; simp)).1
  have e := a1 hp
  refine ⟨by rw [← show (best l).2 = oc l (best l).1 from e]; exact hp, e, fun o ho => ?_⟩
  obtain ⟨h1, h2, h3⟩ := oc_is ho
  have := (a2 o (mem_all.2 ⟨h2, h3⟩)).2
  rw [← show (best l).2 = oc l (best l).1 from e]; exact this

/-! ### the twin's search -/
noncomputable def upd2 (l : List S40) (b : List Int) (o : List Int) : List Int := if b.length < l.length then o else if oc l o < oc l b then o else b
theorem ev_loop2 (l : List S40) (hl : l.length ≤ 1000) (m : Nat) (order : List Int) (ho : order.length + (m + 1) = l.length) (P : List Int → Prop) (ih : ∀ (i : Int) (b : List Int), P b → Ev (fun k => spec_l38Try.f k l (order ++ [i]) b) ((ords l.length m (order ++ [i])).foldl (upd2 l) b)) (hP : ∀ (i : Int) (b : List Int), P b → P ((ords l.length m (order ++ [i])).foldl (upd2 l) b)) :
    ∀ (d i : Nat) (b : List Int), P b → i + d = l.length → Ev (fun k => spec_l38Try.l0 k l order b (i : Int)) (((free order i d).flatMap fun i => ords l.length m (order ++ [i])).foldl (upd2 l) b)
  | 0, i, b, hb, hi => by
    refine Ev.step (fun k => by rw [spec_l38Try.l0]) ?_
    rw [free_zero]
    simp (disch := omega) only [if_neg]
    exact Ev.now _
  | d + 1, i, b, hb, hi => by
    refine Ev.step (fun k => by rw [spec_l38Try.l0]) ?_
    simp (disch := omega) only [if_pos]
    refine Ev.bind (ev_has order (i : Int) (by omega)) ?_
    by_cases h : (i : Int) ∈ order
    · simp only [h, decide_true, if_true]
      rw [free_in h, w64 _ (by omega)]
      exact ev_loop2 l hl m order ho P ih hP d (i + 1) b hb (by omega)
    · simp only [h, decide_false, Bool.false_eq_true, if_false]
      simp only [Option.bind_some, List.length_nil, Nat.zero_add, List.nil_append]
      simp (disch := omega) only [if_pos, Option.bind_some]
      rw [free_out h, flat_step]
      refine Ev.bind (ih i b hb) ?_
      rw [w64 _ (by omega)]
      exact ev_loop2 l hl m order ho P ih hP d (i + 1) _ (hP i b hb) (by omega)
theorem fold2_len (l : List S40) : ∀ (L : List (List Int)) (b : List Int), (∀ o ∈ L, o.length ≤ 1000) → b.length ≤ 1000 → (L.foldl (upd2 l) b).length ≤ 1000
  | [], b, _, hb => hb
  | o :: L, b, hL, hb => by
    refine fold2_len l L _ (fun p hp => hL p (by simp [hp])) ?_
    unfold upd2
    split
    · exact hL o (by simp)
    · split
      · exact hL o (by simp)
      · exact hb
theorem ords_len (n : Nat) : ∀ (m : Nat) (o p : List Int), p ∈ ords n m o → p.length = o.length + m
  | 0, o, p, h => by simp [ords] at h; subst h; rfl
  | m + 1, o, p, h => by
    simp only [ords, List.mem_flatMap] at h
    obtain ⟨i, hi, hp⟩ := h
    rw [ords_len n m _ p hp]; simp; omega
theorem ev_try (l : List S40) (hl : Rows l) (hs : ∀ j : Int, (rd_T40 l j).f1.length ≤ 1048576) (hn : l.length ≤ 1000) : ∀ (m : Nat) (order : List Int) (b : List Int), b.length ≤ 1000 → order.length + m = l.length → Ev (fun k => spec_l38Try.f k l order b) ((ords l.length m order).foldl (upd2 l) b)
  | 0, order, b, hb, ho => by
    refine Ev.step (fun k => by rw [spec_l38Try.f]) ?_
    simp (disch := omega) only [if_pos]
    simp only [Option.bind_some, List.length_nil, Nat.zero_add, List.nil_append, ords, List.foldl_cons, List.foldl_nil, upd2]
    have e : ((b.length : Int) < (l.length : Int)) ↔ b.length < l.length := by omega
    simp only [e]
    by_cases h : b.length < l.length
    · simp (disch := omega) only [h, if_true, if_pos]
      exact Ev.now _
    · simp only [h, if_false]
      refine Ev.bind (ev_socost l order hl hs (by omega)) ?_
      refine Ev.bind (ev_socost l b hl hs hb) ?_
      simp (disch := omega) only [if_pos]
      split
      · exact Ev.now _
      · exact Ev.now _
  | m + 1, order, b, hb, ho => by
    refine Ev.step (fun k => by rw [spec_l38Try.f]) ?_
    simp (disch := omega) only [if_neg]
    exact ev_loop2 l hn m order ho (fun b => b.length ≤ 1000) (fun i b hb => ev_try l hl hs hn m (order ++ [i]) b hb (by simp; omega)) (fun i b hb => fold2_len l _ b (fun p hp => by rw [ords_len _ _ _ _ hp]; simp; omega) hb) l.length 0 b hb (by omega)
/-- Both searches keep the same order. -/
theorem fold_same (l : List S40) (h1 : 0 < l.length) (hw : works l) : ∀ (L : List (List Int)) (b : List Int × Int), (∀ o ∈ L, o.length = l.length ∧ good l o) → (b.2 < 0 ↔ b.1.length < l.length) → (0 ≤ b.2 → b.2 = oc l b.1) → L.foldl (upd2 l) b.1 = (L.foldl (upd l) b).1
  | [], b, _, _, _ => rfl
  | o :: L, b, hL, hn, hb => by
    have ho := hL o (by simp)
    have h0 : 0 ≤ oc l o := by rw [oc_good hw ho.1 ho.2]; exact cst_nonneg l o
    have e : upd2 l b.1 o = (upd l b o).1 := by
      unfold upd2 upd
      by_cases h : b.2 < 0
      · rw [if_pos h, if_pos (hn.1 h)]
      · rw [if_neg h, if_neg (fun h' => h (hn.2 h')), hb (by omega)]
        split
        · rfl
        · rfl
    simp only [List.foldl_cons]
    rw [e]
    refine fold_same l h1 hw L (upd l b o) (fun p hp => hL p (by simp [hp])) ?_ ?_
    · unfold upd
      split
      · exact ⟨fun h => by simp at h; omega, fun h => by simp at h; omega⟩
      · split
        · exact ⟨fun h => by simp at h; omega, fun h => by simp at h; omega⟩
        · exact hn
    · unfold upd
      split
      · exact fun _ => rfl
      · split
        · exact fun _ => rfl
        · exact hb
open Classical in
theorem ev_sbest (l : List S40) (hl : Rows l) (hs : ∀ j : Int, (rd_T40 l j).f1.length ≤ 1048576) : Ev (fun k => spec_BestOrder.f k l) (if works l then (best l).1 else []) := by
  obtain ⟨b, hb, hi⟩ := ev_sworks l hl
  refine Ev.bind hb ?_
  by_cases hw : works l
  · simp only [hi.2 hw, if_true, hw]
    have h6 := hw.1
    by_cases h : (l.length : Int) = 0
    · simp only [h, if_true]
      have e : (best l).1 = [] := by
        obtain ⟨a, _, _⟩ := best_is l hw
        have := (oc_is a).2.1
        exact List.length_eq_zero_iff.1 (by omega)
      rw [e]
      exact Ev.now _
    · simp only [h, if_false]
      have e := fold_same l (by omega) hw (allOrds l) ([], -1) (fun o ho => mem_all.1 ho) (by simp; omega) (by simp)
      have := ev_try l hl hs (by omega) l.length [] [] (by simp) (by simp)
      rw [show (ords l.length l.length []).foldl (upd2 l) [] = (best l).1 from e] at this
      exact Ev.bind this (Ev.now _)
  · have : b = false := by
      cases b
      · rfl
      · exact absurd (hi.1 rfl) hw
    simp only [this, Bool.false_eq_true, if_false, hw]
    exact Ev.now _
end Go.Proofs.Ytdbmllbphbhfpaa.PureBo
