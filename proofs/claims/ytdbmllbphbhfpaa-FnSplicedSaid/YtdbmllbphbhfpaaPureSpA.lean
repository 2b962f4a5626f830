import Derived.Test.YtdbmllbphbhfpaaPSp7
import Derived.Laws.BitsLemmas
/-! Plain laws of the splice, first part: words, draws. -/
namespace Go.Proofs.Ytdbmllbphbhfpaa.PureSp
open Go.RowKit Go.Proofs.Ytdbmllbphbhfpaa.PSp Go.Proofs.YtdbmllbphbhfpaaW.PrintWords Go.Proofs.YtdbmllbphbhfpaaW.PrintLast
set_option linter.unusedSectionVars false
set_option linter.unusedVariables false
set_option linter.unusedSimpArgs false
theorem w64 (n : Int) (h : -9223372036854775808 ≤ n ∧ n ≤ 9223372036854775807) : wrap64 n = n := by unfold wrap64; omega
theorem s_in (x a b : Int) : spec_l1In.f x a b = some (decide (a ≤ x ∧ x ≤ b)) := by
  unfold spec_l1In.f
  by_cases h : x ≥ a
  · have : a ≤ x := h
    rw [if_pos h]; simp [this]
  · have : ¬ a ≤ x := h
    rw [if_neg h]; simp [this]
theorem i_in (x a b : Int) : impl_InRange.f x a b = some (decide (a ≤ x ∧ x ≤ b)) := by
  unfold impl_InRange.f
  by_cases h : a ≤ x
  · rw [if_pos h]; simp [h]
  · rw [if_neg h]; simp [h]
theorem and255 (n : Int) : bits .and .i64 n 255 = n % 256 := by
  have h255 : (BitVec.ofInt 64 255).toNat = 2 ^ 8 - 1 := by decide
  have key : (BitVec.ofInt 64 n &&& BitVec.ofInt 64 255).toNat = (n % ((2 ^ 64 : Nat) : Int)).toNat % 2 ^ 8 := by
    rw [BitVec.toNat_and, BitVec.toNat_ofInt, h255, Nat.and_two_pow_sub_one_eq_mod]
  show IntKind.i64.wrap ((BitVec.ofInt 64 n &&& BitVec.ofInt 64 255).toNat : Nat) = n % 256
  rw [key, IntKind.wrap_i64]
  omega
/-- A cursor's place. -/
def At (p : Int) : Prop := 0 ≤ p ∧ p ≤ 4611686018427387904
theorem byte_ (c : List Int) (hc : c.length ≤ 1152921504606846976) (p s : Int) (hp : At p) : ∃ b p' s', spec_l1Byte.f c p s = some (b, p', s') ∧ 0 ≤ b ∧ b ≤ 255 ∧ At p' := by
  unfold spec_l1Byte.f
  obtain ⟨h0, h1⟩ := hp
  by_cases h : p < (c.length : Int)
  · rw [if_pos h, if_pos h0]
    refine ⟨_, _, _, rfl, ?_, ?_, ?_⟩
    · rw [and255 (wrap64 _)]; omega
    · rw [and255 (wrap64 _)]; omega
    · rw [w64 _ (by omega)]; exact ⟨by omega, by omega⟩
  · rw [if_neg h]
    refine ⟨_, _, _, rfl, ?_, ?_, ⟨h0, h1⟩⟩
    · rw [and255]; omega
    · rw [and255]; omega
theorem below_ (c : List Int) (hc : c.length ≤ 1152921504606846976) (p s n : Int) (hp : At p) (hn : 0 < n) : ∃ b p' s', spec_l1Below.f c p s n = some (b, p', s') ∧ 0 ≤ b ∧ b < n ∧ At p' := by
  unfold spec_l1Below.f
  rw [if_neg (by omega)]
  by_cases h : n ≤ 256
  · rw [if_pos h]
    obtain ⟨b, p', s', e, b0, b1, hp'⟩ := byte_ c hc p s hp
    rw [e, Option.bind_some, if_neg (by omega)]
    exact ⟨_, _, _, rfl, Int.tmod_nonneg n b0, Int.tmod_lt_of_pos b hn, hp'⟩
  · rw [if_neg h]
    obtain ⟨b, p', s', e, b0, b1, hp'⟩ := byte_ c hc p s hp
    obtain ⟨b2, p2, s2, e2, b20, b21, hp2⟩ := byte_ c hc p' s' hp'
    obtain ⟨b3, p3, s3, e3, b30, b31, hp3⟩ := byte_ c hc p2 s2 hp2
    rw [e, Option.bind_some]; dsimp only
    rw [e2, Option.bind_some]; dsimp only
    rw [e3, Option.bind_some]; dsimp only
    rw [if_neg (by omega)]
    refine ⟨_, _, _, rfl, Int.tmod_nonneg n ?_, Int.tmod_lt_of_pos _ hn, hp3⟩
    rw [w64 (b * 65536) (by omega), w64 (b2 * 256) (by omega), w64 (b * 65536 + b2 * 256) (by omega), w64 _ (by omega)]
    omega
theorem int_ (c : List Int) (hc : c.length ≤ 1152921504606846976) (p s : Int) (l : List Int) (hp : At p) (hl : 0 < l.length) : ∃ b p' s', spec_l1Int.f c p s l = some (b, p', s') ∧ b ∈ l ∧ At p' := by
  unfold spec_l1Int.f
  obtain ⟨b, p', s', e, b0, b1, hp'⟩ := below_ c hc p s (l.length : Int) hp (by omega)
  rw [e, Option.bind_some]; dsimp only
  rw [if_pos b0, if_pos b1]
  refine ⟨_, _, _, rfl, ?_, hp'⟩
  have : b.toNat < l.length := by omega
  simp [rd, this]
theorem once_ (c : List Int) (hc : c.length ≤ 1152921504606846976) (p s n : Int) (hp : At p) (hn : 0 < n) : ∃ b p' s', spec_l1Once.f c p s n = some (b, p', s') ∧ At p' := by
  unfold spec_l1Once.f
  obtain ⟨b, p', s', e, b0, b1, hp'⟩ := below_ c hc p s n hp hn
  rw [e, Option.bind_some]
  exact ⟨_, _, _, rfl, hp'⟩
theorem ev_new_l (c : List Int) (hc : c.length ≤ 1152921504606846976) : ∀ (d : Nat) (i s : Int), 0 ≤ i → (c.length : Int) - i = d → ∃ s', Ev (fun k => spec_l1New.l0 k c s i) (c, 0, s')
  | 0, i, s, h0, hm => by
    refine ⟨s, Ev.step (fun k => by rw [spec_l1New.l0]) ?_⟩
    simp (disch := omega) only [if_neg]
    exact Ev.now _
  | d + 1, i, s, h0, hm => by
    by_cases h : i < 4000
    · obtain ⟨s', hE⟩ := ev_new_l c hc d (i + 1) (bits .and .i64 (wrap64 ((wrap64 ((wrap64 (s * 137)) + (wrap64 (rd c i)))) + 11)) 1073741823) (by omega) (by omega)
      refine ⟨s', Ev.step (fun k => by rw [spec_l1New.l0]) ?_⟩
      simp (disch := omega) only [if_pos]
      rw [w64 (i + 1) (by omega)]
      exact hE
    · refine ⟨s, Ev.step (fun k => by rw [spec_l1New.l0]) ?_⟩
      simp (disch := omega) only [if_pos, if_neg]
      exact Ev.now _
theorem ev_new (c : List Int) (hc : c.length ≤ 1152921504606846976) : ∃ s', Ev (fun k => spec_l1New.f k c) (c, 0, s') :=
  ev_new_l c hc c.length 0 _ (by omega) (by omega)

/-! ### the matrix that is drawn -/
def Small (l : List (List Int)) : Prop := l.length ≤ 100 ∧ ∀ x ∈ l, x.length ≤ 100
theorem Small.row {l : List (List Int)} (h : Small l) (j : Int) : (rd_L2 l j).length ≤ 100 := by
  unfold rd_L2
  by_cases hj : j.toNat < l.length
  · simp only [List.getD_eq_getElem?_getD, List.getElem?_eq_getElem hj, Option.getD_some]
    exact h.2 _ (List.getElem_mem hj)
  · simp [List.getD_eq_getElem?_getD, List.getElem?_eq_none (Nat.le_of_not_lt hj)]
theorem Small.set {l : List (List Int)} (h : Small l) (x : List Int) (hx : x.length ≤ 100) (n : Nat) : Small (l.set n x) := by
  refine ⟨by simpa using h.1, fun y hy => ?_⟩
  rcases List.mem_or_eq_of_mem_set hy with h1 | h1
  · exact h.2 y h1
  · rw [h1]; exact hx
theorem ev_any_row (c : List Int) (hc : c.length ≤ 1152921504606846976) (l : List (List Int)) (n x5 : Int) (hn : n ≤ 5) (hl : l.length ≤ 50) (Q : (List (List Int)) × Int × Int → Prop) (hk : ∀ (x : List Int) (p s : Int), x.length ≤ 5 → (0 < n → 0 < x.length) → At p → ∃ r, Ev (fun k => spec_l32Any.l0 k (l ++ [x]) n (wrap64 (x5 - 1)) c p s) r ∧ Q r) :
    ∀ (d : Nat) (i : Int) (x : List Int) (p s : Int), 0 ≤ i → 5 - i = d → x.length = i → At p → ∃ r, Ev (fun k => spec_l32Any.l1 k l n x5 x i c p s) r ∧ Q r
  | 0, i, x, p, s, h0, hm, hx, hp => by
    obtain ⟨r, hE, hQ⟩ := hk x p s (by omega) (by omega) hp
    refine ⟨r, Ev.step (fun k => by rw [spec_l32Any.l1]) ?_, hQ⟩
    simp (disch := omega) only [if_neg, if_pos]
    exact hE
  | d + 1, i, x, p, s, h0, hm, hx, hp => by
    by_cases h : i < n
    · obtain ⟨b, p1, s1, e, b0, b1, hp1⟩ := below_ c hc p s 9 hp (by omega)
      obtain ⟨r, hE, hQ⟩ := ev_any_row c hc l n x5 hn hl Q hk d (i + 1) (x ++ [b]) p1 s1 (by omega) (by omega) (by simp; omega) hp1
      refine ⟨r, Ev.step (fun k => by rw [spec_l32Any.l1]) ?_, hQ⟩
      simp (disch := omega) only [if_pos, e, Option.bind_some, w64]
      exact hE
    · obtain ⟨r, hE, hQ⟩ := hk x p s (by omega) (by omega) hp
      refine ⟨r, Ev.step (fun k => by rw [spec_l32Any.l1]) ?_, hQ⟩
      simp (disch := omega) only [if_neg, if_pos]
      exact hE
theorem ev_any_l (c : List Int) (hc : c.length ≤ 1152921504606846976) (n : Int) (hn : n ≤ 5) : ∀ (d : Nat) (l : List (List Int)) (p s : Int), l.length + d ≤ 10 → (0 < l.length ∨ 0 < d) → (∀ x ∈ l, x.length ≤ 5 ∧ (0 < n → 0 < x.length)) → At p → ∃ r, Ev (fun k => spec_l32Any.l0 k l n (d : Int) c p s) r ∧ (Small r.1 ∧ At r.2.1)
  | 0, l, p, s, hl, hne, hx, hp => by
    have hD : Small l := ⟨by omega, fun x hx' => by have := hx x hx'; omega⟩
    have hl0 : (0 : Int) < l.length := by rcases hne with h | h <;> omega
    have hmem : rd_L2 l 0 ∈ l := by
      have hj : (0 : Int).toNat < l.length := by omega
      unfold rd_L2
      simp only [List.getD_eq_getElem?_getD, List.getElem?_eq_getElem hj, Option.getD_some]
      exact List.getElem_mem hj
    obtain ⟨hr20, hrow⟩ := hx _ hmem
    obtain ⟨b, p1, s1, e, b0, b1, hp1⟩ := below_ c hc p s 10 hp (by omega)
    by_cases hb : b = 0
    · refine ⟨(l.set (0 : Int).toNat (rd_L2 l 0 ++ [1]), p1, s1), Ev.step (fun k => by rw [spec_l32Any.l0]) ?_, hD.set _ (by simp; omega) 0, hp1⟩
      simp (disch := omega) only [if_pos, if_neg, e, Option.bind_some]
      exact Ev.now _
    · by_cases hb1 : b = 1
      · by_cases hn0 : n > 0
        · have hr : (0 : Int) < ((rd_L2 l 0).length : Int) := by have := hrow hn0; omega
          obtain ⟨x, p2, s2, e2, _, hp2⟩ := int_ c hc p1 s1 [-1, 999, 1000] hp1 (by decide)
          refine ⟨(l.set (0 : Int).toNat ((rd_L2 l 0).set (0 : Int).toNat x), p2, s2), Ev.step (fun k => by rw [spec_l32Any.l0]) ?_, hD.set _ (by simp; omega) 0, hp2⟩
          simp (disch := omega) only [if_pos, if_neg, e, e2, Option.bind_some]
          exact Ev.now _
        · refine ⟨(l, p1, s1), Ev.step (fun k => by rw [spec_l32Any.l0]) ?_, hD, hp1⟩
          simp (disch := omega) only [if_pos, if_neg, e, Option.bind_some]
          exact Ev.now _
      · by_cases hb2 : b = 2
        · refine ⟨([], p1, s1), Ev.step (fun k => by rw [spec_l32Any.l0]) ?_, ⟨by simp, by simp⟩, hp1⟩
          simp (disch := omega) only [if_pos, if_neg, e, Option.bind_some]
          exact Ev.now _
        · refine ⟨(l, p1, s1), Ev.step (fun k => by rw [spec_l32Any.l0]) ?_, hD, hp1⟩
          simp (disch := omega) only [if_pos, if_neg, e, Option.bind_some]
          exact Ev.now _
  | d + 1, l, p, s, hl, hne, hx, hp => by
    obtain ⟨r, hE, hQ⟩ := ev_any_row c hc l n ((d + 1 : Nat) : Int) hn (by omega) (fun r => Small r.1 ∧ At r.2.1) (fun x p s hx1 hx2 hp => by
      rw [w64 (((d + 1 : Nat) : Int) - 1) (by omega), show ((d + 1 : Nat) : Int) - 1 = d by omega]
      refine ev_any_l c hc n hn d (l ++ [x]) p s (by simp; omega) (.inl (by simp)) (fun y hy => ?_) hp
      rcases List.mem_append.1 hy with h1 | h1
      · exact hx y h1
      · simp at h1; subst h1; exact ⟨hx1, hx2⟩) 5 0 [] p s (by omega) (by omega) (by simp) hp
    refine ⟨r, Ev.step (fun k => by rw [spec_l32Any.l0]) ?_, hQ⟩
    simp (disch := omega) only [if_pos]
    exact hE
theorem ev_any (c : List Int) (hc : c.length ≤ 1152921504606846976) (p s : Int) (hp : At p) : ∃ r, Ev (fun k => spec_l32Any.f k c p s) r ∧ (Small r.1 ∧ At r.2.1) := by
  obtain ⟨b, p1, s1, e, b0, b1, hp1⟩ := below_ c hc p s 6 hp (by omega)
  obtain ⟨b2, p2, s2, e2, b20, b21, hp2⟩ := below_ c hc p1 s1 4 hp1 (by omega)
  obtain ⟨r, hE, hQ⟩ := ev_any_l c hc b (by omega) (1 + b2).toNat [] p2 s2 (by simp; omega) (.inr (by omega)) (by simp) hp2
  refine ⟨r, ?_, hQ⟩
  unfold spec_l32Any.f
  simp only [e, e2, Option.bind_some]
  rw [w64 _ (by omega)]
  rw [show (((1 + b2).toNat : Nat) : Int) = 1 + b2 by omega] at hE
  exact hE
end Go.Proofs.Ytdbmllbphbhfpaa.PureSp
