import Derived.Test.YtdbmllbphbhfpaaPureSpC
/-! Plain laws of the splice, fourth part: what the code's table comes to. -/
namespace Go.Proofs.Ytdbmllbphbhfpaa.PureSp
open Go.RowKit Go.Proofs.Ytdbmllbphbhfpaa.PSp Go.Proofs.YtdbmllbphbhfpaaW.PrintWords Go.Proofs.YtdbmllbphbhfpaaW.PrintLast
open Go.Proofs.YtdbmllbphbhfpaaW.PrintMore
set_option linter.unusedVariables false
set_option linter.unusedSimpArgs false
set_option linter.unusedSectionVars false

/-- It comes to a choice of which Q holds. -/
def EQ (Q : List Int → Prop) (g : Nat → Option (List Int × Bool)) : Prop := ∃ o, Ev g (o, true) ∧ Q o
theorem EQ.step {Q : List Int → Prop} {g f : Nat → Option (List Int × Bool)} (h : ∀ k, g (k + 1) = f k) (k : EQ Q f) : EQ Q g := by
  obtain ⟨o, ho, hQ⟩ := k
  exact ⟨o, Ev.step h ho, hQ⟩
theorem rd2_set (M : List (List Int)) (i j : Int) (r : List Int) (h0 : 0 ≤ i) (h1 : i < M.length) (h2 : 0 ≤ j) : rd_L2 (M.set i.toNat r) j = if j = i then r else rd_L2 M j := by
  have b : i.toNat < M.length := by omega
  by_cases e : j = i
  · subst e; simp [rd_L2, b]
  · have : i.toNat ≠ j.toNat := by omega
    simp [rd_L2, e, List.getElem?_set_ne this]
theorem rd_set (x : List Int) (i j v : Int) (h0 : 0 ≤ i) (h1 : i < x.length) (h2 : 0 ≤ j) : rd (x.set i.toNat v) j = if j = i then v else rd x j := by
  have b : i.toNat < x.length := by omega
  by_cases e : j = i
  · subst e; simp [rd, b]
  · have : i.toNat ≠ j.toNat := by omega
    simp [rd, e, List.getElem?_set_ne this]
theorem rd_snoc_lt (x : List Int) (b j : Int) (h0 : 0 ≤ j) (h1 : j < x.length) : rd (x ++ [b]) j = rd x j := by
  have : j.toNat < x.length := by omega
  simp [rd, List.getElem?_append_left this]
theorem rd_snoc_eq (x : List Int) (b j : Int) (h : j = x.length) : rd (x ++ [b]) j = b := by
  subst h; simp [rd]
def rowgood (l : List (List Int)) (cut : Int) (n : Nat) (M : List (List Int)) (j : Int) : Prop := (rd_L2 M j).length = l.length ∧ ∀ t : Int, 0 ≤ t → t < l.length → rd (rd_L2 M j) t = lst l cut n l.length (n - j.toNat) t
section
variable {l : List (List Int)} (hw : takes l) {cut : Int} (hc0 : 0 ≤ cut) (hc1 : cut ≤ 999) {n : Nat} (hn : (rd_L2 l 0).length = n) (hn60 : n ≤ 60)
include hw hc0 hc1 hn hn60
theorem step_val (M : List (List Int)) (hM : M.length = n + 1) (i f u : Int) (h0 : 0 ≤ i) (h1 : i ≤ n) (u0 : 0 ≤ u) (u1 : u < l.length) (hr : rowgood l cut n M i) : impl_BestSplice_1.f i f u M (n : Int) cut = some (stp cut (lst l cut n l.length (n - i.toNat)) (decide (n - i.toNat = 0)) f u) := by
  obtain ⟨ra, rb⟩ := hr
  have rv := rb u u0 u1
  have hg := lst_range hw hc0 hc1 (n - i.toNat) u (by omega) u0 u1
  rw [hn] at hg
  unfold impl_BestSplice_1.f
  rw [if_pos h0, if_pos (by omega), if_pos u0, if_pos (by omega), rv]
  unfold stp
  by_cases e : f = u
  · simp [e]
  · rw [if_neg e]
    by_cases hi : i < n
    · rw [if_pos hi, w64 _ (by omega), if_pos ⟨e, by simp; omega⟩]
    · rw [if_neg hi, if_neg (fun h => by have := h.2; simp at this; omega), Int.add_zero]
theorem stp_range (d : Nat) (hd : d ≤ n) (last : Bool) (f u : Int) (u0 : 0 ≤ u) (u1 : u < l.length) : 0 ≤ stp cut (lst l cut n l.length d) last f u ∧ stp cut (lst l cut n l.length d) last f u ≤ 2000 * d + 999 := by
  have hg := lst_range hw hc0 hc1 d u (by omega) u0 u1
  rw [hn] at hg
  unfold stp
  split <;> omega
theorem ev_l2 (Q : List Int → Prop) (M : List (List Int)) (hM : M.length = n + 1) (i t : Int) (h0 : 0 ≤ i) (h1 : i < n) (t0 : 0 ≤ t) (t1 : t < l.length) (hr : rowgood l cut n M (i + 1)) (hlen : (rd_L2 M i).length = l.length)
    (hE : EQ Q (fun k => impl_BestSplice.l1 k l [] i (l.length : Int) (t + 1) cut (n : Int) (M.set i.toNat ((rd_L2 M i).set t.toNat (lst l cut n l.length (n - i.toNat) t))))) :
    ∀ (d : Nat) (u : Int), 0 ≤ u → (l.length : Int) - u = d → EQ Q (fun k => impl_BestSplice.l2 k l [] i t (bst (stp cut (lst l cut n l.length (n - (i + 1).toNat)) (decide (n - (i + 1).toNat = 0)) t) t u.toNat) (l.length : Int) t (l.length : Int) u cut (n : Int) M)
  | 0, u, u0, hm => by
    have h5 := hw.1
    obtain ⟨v0, v1, v2⟩ := takes_v hw t0 t1 h0 (by omega)
    refine EQ.step (fun k => by rw [impl_BestSplice.l2]) ?_
    have hb := bst_range (h := stp cut (lst l cut n l.length (n - (i + 1).toNat)) (decide (n - (i + 1).toNat = 0)) t) (m := l.length) t0 t1 (B := 2000 * (n - (i + 1).toNat : Nat) + 999) (fun u p q => stp_range hw hc0 hc1 hn hn60 _ (by omega) _ _ _ p q)
    have e : lst l cut n l.length (n - i.toNat) t = V l t i + bst (stp cut (lst l cut n l.length (n - (i + 1).toNat)) (decide (n - (i + 1).toNat = 0)) t) t l.length := by
      rw [show n - i.toNat = (n - (i + 1).toNat) + 1 by omega]
      exact lst_succ l cut n l.length _ t i (by omega)
    rw [e] at hE
    unfold V at hE v0 v1
    rw [show u.toNat = l.length by omega]
    simp (disch := omega) only [if_pos, if_neg]
    rw [w64 (t + 1) (by omega), w64 (_ + _) (by omega)]
    exact hE
  | d + 1, u, u0, hm => by
    have h5 := hw.1
    refine EQ.step (fun k => by rw [impl_BestSplice.l2]) ?_
    have ih := ev_l2 Q M hM i t h0 h1 t0 t1 hr hlen hE d (u + 1) (by omega) (by omega)
    rw [show (u + 1).toNat = u.toNat + 1 by omega] at ih
    simp (disch := omega) only [if_pos, w64]
    rw [step_val hw hc0 hc1 hn hn60 M hM (i + 1) t u (by omega) (by omega) u0 (by omega) hr]
    simp only [Option.bind_some]
    have eu : ((u.toNat : Nat) : Int) = u := by omega
    simp only [bst, eu] at ih
    exact ih
theorem ev_l1 (Q : List Int → Prop) (i : Int) (h0 : 0 ≤ i) (h1 : i < n)
    (hE : ∀ M : List (List Int), M.length = n + 1 → (∀ j : Int, i ≤ j → j ≤ n → rowgood l cut n M j) → EQ Q (fun k => impl_BestSplice.l0 k l [] (i - 1) cut (n : Int) M)) :
    ∀ (d : Nat) (t : Int) (M : List (List Int)), 0 ≤ t → (l.length : Int) - t = d → M.length = n + 1 → (∀ j : Int, i < j → j ≤ n → rowgood l cut n M j) → (rd_L2 M i).length = l.length → (∀ t' : Int, 0 ≤ t' → t' < t → rd (rd_L2 M i) t' = lst l cut n l.length (n - i.toNat) t') →
    EQ Q (fun k => impl_BestSplice.l1 k l [] i (l.length : Int) t cut (n : Int) M)
  | 0, t, M, t0, hm, hM, hrows, hlen, hent => by
    refine EQ.step (fun k => by rw [impl_BestSplice.l1]) ?_
    simp (disch := omega) only [if_neg, w64]
    refine hE M hM (fun j a b => ?_)
    by_cases e : j = i
    · subst e; exact ⟨hlen, fun t' p q => hent t' p (by omega)⟩
    · exact hrows j (by omega) b
  | d + 1, t, M, t0, hm, hM, hrows, hlen, hent => by
    have h5 := hw.1
    refine EQ.step (fun k => by rw [impl_BestSplice.l1]) ?_
    simp (disch := omega) only [if_pos, w64]
    rw [step_val hw hc0 hc1 hn hn60 M hM (i + 1) t t (by omega) (by omega) t0 (by omega) (hrows (i + 1) (by omega) (by omega))]
    simp only [Option.bind_some]
    refine ev_l2 hw hc0 hc1 hn hn60 Q M hM i t h0 h1 t0 (by omega) (hrows (i + 1) (by omega) (by omega)) hlen ?_ l.length 0 (by omega) (by omega)
    refine ev_l1 Q i h0 h1 hE d (t + 1) _ (by omega) (by omega) (by simpa using hM) (fun j a b => ?_) ?_ (fun t' p q => ?_)
    · have := hrows j a b
      unfold rowgood
      rw [rd2_set M i j _ h0 (by omega) (by omega), if_neg (by omega)]
      exact this
    · rw [rd2_set M i i _ h0 (by omega) h0, if_pos rfl, List.length_set]; exact hlen
    · rw [rd2_set M i i _ h0 (by omega) h0, if_pos rfl, rd_set _ t t' _ t0 (by omega) p]
      split
      · subst t'; rfl
      · exact hent t' p (by omega)
theorem ev_l0 (Q : List Int → Prop) (hE : ∀ M : List (List Int), M.length = n + 1 → (∀ j : Int, 0 ≤ j → j ≤ n → rowgood l cut n M j) → EQ Q (fun k => impl_BestSplice.l3 k l [] (n : Int) 0 cut (n : Int) M)) :
    ∀ (d : Nat) (M : List (List Int)), d ≤ n → M.length = n + 1 → (∀ j : Int, (d : Int) - 1 < j → j ≤ n → rowgood l cut n M j) → EQ Q (fun k => impl_BestSplice.l0 k l [] ((d : Int) - 1) cut (n : Int) M)
  | 0, M, hd, hM, hrows => by
    refine EQ.step (fun k => by rw [impl_BestSplice.l0]) ?_
    simp (disch := omega) only [if_neg]
    exact hE M hM (fun j a b => hrows j (by omega) b)
  | d + 1, M, hd, hM, hrows => by
    have h5 := hw.1
    refine EQ.step (fun k => by rw [impl_BestSplice.l0]) ?_
    rw [show ((d + 1 : Nat) : Int) - 1 = (d : Int) by omega]
    simp (disch := omega) only [if_pos]
    refine ev_l1 hw hc0 hc1 hn hn60 Q (d : Int) (by omega) (by omega) (fun M' hM' hr' => ?_) l.length 0 _ (by omega) (by omega) (by simpa using hM) (fun j a b => ?_) ?_ (fun t' p q => by omega)
    · exact ev_l0 Q hE d M' (by omega) hM' (fun j a b => hr' j (by omega) b)
    · have := hrows j (by omega) b
      unfold rowgood
      rw [rd2_set M d j _ (by omega) (by omega) (by omega), if_neg (by omega)]
      exact this
    · rw [rd2_set M d d _ (by omega) (by omega) (by omega), if_pos rfl]; simp
/-- What is weighed at the bar j. -/
def key (l : List (List Int)) (cut : Int) (n : Nat) (x : List Int) (j u : Int) : Int := if 0 < j then stp cut (lst l cut n l.length (n - j.toNat)) false (rd x (j - 1)) u else lst l cut n l.length n u
theorem ev_l4 (Q : List Int → Prop) (M : List (List Int)) (hM : M.length = n + 1) (hrows : ∀ j : Int, 0 ≤ j → j ≤ n → rowgood l cut n M j) (x : List Int) (j : Int) (hx : j = x.length) (h1 : j < n)
    (hE : ∀ b : Int, 0 ≤ b → b < l.length → (∀ u : Int, 0 ≤ u → u < l.length → key l cut n x j b ≤ key l cut n x j u) → ∃ o, Ev (fun k => impl_BestSplice.l3 k l (x ++ [b]) (n : Int) (j + 1) cut (n : Int) M) (o, true) ∧ Q o) :
    ∀ (d : Nat) (u b : Int), 0 ≤ u → (l.length : Int) - u = d → 0 ≤ b → b < l.length → (∀ u' : Int, 0 ≤ u' → u' < u → key l cut n x j b ≤ key l cut n x j u') → ∃ o, Ev (fun k => impl_BestSplice.l4 k l x j b (n : Int) j (l.length : Int) u cut (n : Int) M) (o, true) ∧ Q o
  | 0, u, b, u0, hm, b0, b1, hmin => by
    obtain ⟨o, ho, hQ⟩ := hE b b0 b1 (fun u' p q => hmin u' p (by omega))
    refine ⟨o, Ev.step (fun k => by rw [impl_BestSplice.l4]) ?_, hQ⟩
    simp (disch := omega) only [if_neg, if_pos, w64]
    exact ho
  | d + 1, u, b, u0, hm, b0, b1, hmin => by
    have h5 := hw.1
    obtain ⟨ra, rb⟩ := hrows j (by omega) (by omega)
    have nxt : ∀ b' : Int, 0 ≤ b' → b' < l.length → (∀ u' : Int, 0 ≤ u' → u' < u + 1 → key l cut n x j b' ≤ key l cut n x j u') → ∃ o, Ev (fun k => impl_BestSplice.l4 k l x j b' (n : Int) j (l.length : Int) (u + 1) cut (n : Int) M) (o, true) ∧ Q o :=
      fun b' p q hh => ev_l4 Q M hM hrows x j hx h1 hE d (u + 1) b' (by omega) (by omega) p q hh
    have mine : key l cut n x j u < key l cut n x j b → ∀ u' : Int, 0 ≤ u' → u' < u + 1 → key l cut n x j u ≤ key l cut n x j u' := fun h u' p q => by
      by_cases e : u' = u
      · subst e; omega
      · have := hmin u' p (by omega); omega
    have other : ¬ key l cut n x j u < key l cut n x j b → ∀ u' : Int, 0 ≤ u' → u' < u + 1 → key l cut n x j b ≤ key l cut n x j u' := fun h u' p q => by
      by_cases e : u' = u
      · subst e; omega
      · exact hmin u' p (by omega)
    by_cases hj : j > 0
    · have s1 := step_val hw hc0 hc1 hn hn60 M hM j (rd x (j - 1)) u (by omega) (by omega) u0 (by omega) (hrows j (by omega) (by omega))
      have s2 := step_val hw hc0 hc1 hn hn60 M hM j (rd x (j - 1)) b (by omega) (by omega) b0 (by omega) (hrows j (by omega) (by omega))
      have ek : ∀ v : Int, key l cut n x j v = stp cut (lst l cut n l.length (n - j.toNat)) (decide (n - j.toNat = 0)) (rd x (j - 1)) v := by
        intro v; unfold key; rw [if_pos hj, show decide (n - j.toNat = 0) = false by simp; omega]
      rw [← ek] at s1 s2
      by_cases h : key l cut n x j u < key l cut n x j b
      · obtain ⟨o, ho, hQ⟩ := nxt u u0 (by omega) (mine h)
        refine ⟨o, Ev.step (fun k => by rw [impl_BestSplice.l4]) ?_, hQ⟩
        simp (disch := omega) only [if_pos, w64]
        rw [s1, s2]
        simp only [Option.bind_some, h, if_true]
        exact ho
      · obtain ⟨o, ho, hQ⟩ := nxt b b0 b1 (other h)
        refine ⟨o, Ev.step (fun k => by rw [impl_BestSplice.l4]) ?_, hQ⟩
        simp (disch := omega) only [if_pos, w64]
        rw [s1, s2]
        simp only [Option.bind_some, h, if_false]
        exact ho
    · have ek : ∀ v : Int, 0 ≤ v → v < l.length → key l cut n x j v = rd (rd_L2 M j) v := by
        intro v p q; unfold key; rw [if_neg hj, rb v p q, show n - j.toNat = n by omega]
      have e1 := ek u u0 (by omega)
      have e2 := ek b b0 b1
      by_cases h : key l cut n x j u < key l cut n x j b
      · obtain ⟨o, ho, hQ⟩ := nxt u u0 (by omega) (mine h)
        refine ⟨o, Ev.step (fun k => by rw [impl_BestSplice.l4]) ?_, hQ⟩
        rw [e1, e2] at h
        simp (disch := omega) only [if_pos, if_neg, w64]
        exact ho
      · obtain ⟨o, ho, hQ⟩ := nxt b b0 b1 (other h)
        refine ⟨o, Ev.step (fun k => by rw [impl_BestSplice.l4]) ?_, hQ⟩
        rw [e1, e2] at h
        simp (disch := omega) only [if_pos, if_neg, w64]
        exact ho
theorem ev_l3 (M : List (List Int)) (hM : M.length = n + 1) (hrows : ∀ j : Int, 0 ≤ j → j ≤ n → rowgood l cut n M j) : ∀ (d : Nat) (x : List Int) (j : Int), j = x.length → (n : Int) - j = d → greedy l cut n l.length x → ∃ o, Ev (fun k => impl_BestSplice.l3 k l x (n : Int) j cut (n : Int) M) (o, true) ∧ (o.length = n ∧ greedy l cut n l.length o)
  | 0, x, j, hx, hm, hg => by
    refine ⟨x, Ev.step (fun k => by rw [impl_BestSplice.l3]) ?_, by omega, hg⟩
    simp (disch := omega) only [if_neg]
    exact Ev.now _
  | d + 1, x, j, hx, hm, hg => by
    have h5 := hw.1
    obtain ⟨o, ho, hQ⟩ := ev_l4 hw hc0 hc1 hn hn60 (fun o => o.length = n ∧ greedy l cut n l.length o) M hM hrows x j hx (by omega) (fun b b0 b1 hmin => by
      refine ev_l3 M hM hrows d (x ++ [b]) (j + 1) (by simp; omega) (by omega) (fun i i0 i1 => ?_)
      by_cases hi : i = j
      · subst hi
        rw [rd_snoc_eq x b i hx]
        refine ⟨⟨b0, b1⟩, fun u p q => ?_⟩
        have := hmin u p q
        unfold key at this
        split
        · rw [rd_snoc_lt x b (i - 1) (by omega) (by omega)]
          rw [if_pos (by assumption), if_pos (by assumption)] at this
          exact this
        · rw [if_neg (by assumption), if_neg (by assumption)] at this
          exact this
      · have hi2 : i < x.length := by simp at i1; omega
        have := hg i i0 hi2
        rw [rd_snoc_lt x b i i0 hi2]
        refine ⟨this.1, fun u p q => ?_⟩
        have h2 := this.2 u p q
        split
        · rw [rd_snoc_lt x b (i - 1) (by omega) (by omega)]
          rw [if_pos (by assumption)] at h2
          exact h2
        · rw [if_neg (by assumption)] at h2
          exact h2) l.length 0 0 (by omega) (by omega) (by omega) (by omega) (fun u' p q => by omega)
    refine ⟨o, Ev.step (fun k => by rw [impl_BestSplice.l3]) ?_, hQ⟩
    simp (disch := omega) only [if_pos]
    exact ho
end
theorem ev_isplice (l : List (List Int)) (hl : Small l) (cut : Int) : ∃ o b, Ev (fun k => impl_BestSplice.f k l cut) (o, b) ∧ (b = true ↔ takes l ∧ 0 ≤ cut ∧ cut ≤ 999) ∧ (b = false → o = []) ∧ (b = true → o.length = (rd_L2 l 0).length ∧ greedy l cut (rd_L2 l 0).length l.length o) := by
  obtain ⟨a, ha, hai⟩ := ev_itakes l hl
  by_cases hw : takes l
  · by_cases hc : 0 ≤ cut ∧ cut ≤ 999
    · obtain ⟨hc0, hc1⟩ := hc
      have h5 := hw.1
      obtain ⟨_, h60, _⟩ := hw.2 0 (by omega) (by omega)
      -- the walk through the table
      have main : ∃ o, Ev (fun k => impl_BestSplice.j0 k l [] false cut) (o, true) ∧ (o.length = (rd_L2 l 0).length ∧ greedy l cut (rd_L2 l 0).length l.length o) := by
        obtain ⟨n, hn⟩ : ∃ n, (rd_L2 l 0).length = n := ⟨_, rfl⟩
        rw [hn] at h60 ⊢
        obtain ⟨M0, hM0⟩ : ∃ M0 : List (List Int), M0 = (List.replicate (n + 1) ([] : List Int)).set n (List.replicate l.length 0) := ⟨_, rfl⟩
        have hlen0 : M0.length = n + 1 := by rw [hM0]; simp
        have hr0 : rowgood l cut n M0 n := by
          have e := rd2_set (List.replicate (n + 1) ([] : List Int)) n n (List.replicate l.length 0) (by omega) (by simp; omega) (by omega)
          rw [if_pos rfl, show ((n : Int)).toNat = n by omega, ← hM0] at e
          unfold rowgood
          rw [e]
          refine ⟨by simp, fun t p q => ?_⟩
          rw [show n - ((n : Int)).toNat = 0 by omega]
          have : t.toNat < l.length := by omega
          simp [rd, lst, this]
        -- whichever table comes out, the choice is greedy
        have h3 : ∀ M : List (List Int), M.length = n + 1 → (∀ j : Int, 0 ≤ j → j ≤ n → rowgood l cut n M j) → ∃ o, Ev (fun k => impl_BestSplice.l3 k l [] (n : Int) 0 cut (n : Int) M) (o, true) ∧ (o.length = n ∧ greedy l cut n l.length o) :=
          fun M hM hr => ev_l3 hw hc0 hc1 hn h60 M hM hr n [] 0 (by simp) (by omega) (fun j a b => by simp at b; omega)
        have h0 := ev_l0 hw hc0 hc1 hn h60 (fun o => o.length = n ∧ greedy l cut n l.length o) h3 n M0 (Nat.le_refl _) hlen0 (fun j a b => by
          have : j = n := by omega
          subst this
          exact hr0)
        refine EQ.step (fun k => by rw [impl_BestSplice.j0]) ?_
        rw [hn]
        simp (disch := omega) only [Bool.false_eq_true, if_false, if_pos, w64, Option.bind_some, List.length_replicate]
        rw [show ((n : Int) + 1).toNat = n + 1 by omega, show ((n : Int)).toNat = n by omega, show ((l.length : Int)).toNat = l.length by omega, ← hM0]
        exact h0
      obtain ⟨o, ho, hQ⟩ := main
      refine ⟨o, true, ?_, by simp [hw, hc0, hc1], by simp, fun _ => hQ⟩
      refine Ev.congr (f := fun k => (impl_AreTakes.f k l).bind fun t257 => (if t257 = true then ((impl_InRange.f cut 0 999).bind fun t258 => (impl_BestSplice.j0 k l [] (!t258) cut)) else (impl_BestSplice.j0 k l [] true cut))) (fun k => rfl) ?_
      refine Ev.bind ha ?_
      simp only [hai.2 hw, if_true, i_in, hc0, hc1, and_self, decide_true, Option.bind_some, Bool.not_true]
      exact ho
    · refine ⟨[], false, ?_, by simp; intro _ h; omega, by simp, by simp⟩
      refine Ev.congr (f := fun k => (impl_AreTakes.f k l).bind fun t257 => (if t257 = true then ((impl_InRange.f cut 0 999).bind fun t258 => (impl_BestSplice.j0 k l [] (!t258) cut)) else (impl_BestSplice.j0 k l [] true cut))) (fun k => rfl) ?_
      refine Ev.bind ha ?_
      simp only [hai.2 hw, if_true, i_in, hc, decide_false, Option.bind_some, Bool.not_false]
      refine Ev.step (fun k => by rw [impl_BestSplice.j0]) ?_
      simp only [if_true]
      exact Ev.now _
  · refine ⟨[], false, ?_, by simp [hw], by simp, by simp⟩
    have : a = false := by
      cases a
      · rfl
      · exact absurd (hai.1 rfl) hw
    refine Ev.congr (f := fun k => (impl_AreTakes.f k l).bind fun t257 => (if t257 = true then ((impl_InRange.f cut 0 999).bind fun t258 => (impl_BestSplice.j0 k l [] (!t258) cut)) else (impl_BestSplice.j0 k l [] true cut))) (fun k => rfl) ?_
    refine Ev.bind ha ?_
    simp only [this, Bool.false_eq_true, if_false]
    refine Ev.step (fun k => by rw [impl_BestSplice.j0]) ?_
    simp only [if_true]
    exact Ev.now _
end Go.Proofs.Ytdbmllbphbhfpaa.PureSp
