import Derived.Test.YtdbmllbphbhfpaaPureA
/-! Plain laws, second part: what the draws give. -/
namespace Go.Proofs.Ytdbmllbphbhfpaa.Pure
open Go.RowKit Go.Proofs.Ytdbmllbphbhfpaa.POrd Go.Proofs.YtdbmllbphbhfpaaW.PrintWords Go.Proofs.YtdbmllbphbhfpaaW.PrintLast
set_option linter.unusedVariables false
set_option linter.unusedSimpArgs false

theorem and255 (n : Int) : bits .and .i64 n 255 = n % 256 := by
  have h255 : (BitVec.ofInt 64 255).toNat = 2 ^ 8 - 1 := by decide
  have key : (BitVec.ofInt 64 n &&& BitVec.ofInt 64 255).toNat = (n % ((2 ^ 64 : Nat) : Int)).toNat % 2 ^ 8 := by
    rw [BitVec.toNat_and, BitVec.toNat_ofInt, h255, Nat.and_two_pow_sub_one_eq_mod]
  show IntKind.i64.wrap ((BitVec.ofInt 64 n &&& BitVec.ofInt 64 255).toNat : Nat) = n % 256
  rw [key, IntKind.wrap_i64]
  omega
/-- A cursor's place. -/
def At (p : Int) : Prop := 0 ≤ p ∧ p ≤ 4611686018427387904
theorem byte_ (c : List Int) (hc : c.length ≤ 1152921504606846976) (p s : Int) (hp : At p) : ∃ b p' s', spec_l1Byte.f c p s = some (b, p', s') ∧ 0 ≤ b ∧ b ≤ 255 ∧ At p' := by
  unfold spec_l1Byte.f
  obtain ⟨h0, h1⟩ := hp
  by_cases h : p < (c.length : Int)
  · rw [if_pos h, if_pos h0]
    refine ⟨_, _, _, rfl, ?_, ?_, ?_⟩
    · rw [and255 (wrap64 _)]; omega
    · rw [and255 (wrap64 _)]; omega
    · rw [w64 _ (by omega)]; exact ⟨by omega, by omega⟩
  · rw [if_neg h]
    refine ⟨_, _, _, rfl, ?_, ?_, ⟨h0, h1⟩⟩
    · rw [and255]; omega
    · rw [and255]; omega
theorem below_ (c : List Int) (hc : c.length ≤ 1152921504606846976) (p s n : Int) (hp : At p) (hn : 0 < n) : ∃ b p' s', spec_l1Below.f c p s n = some (b, p', s') ∧ 0 ≤ b ∧ b < n ∧ At p' := by
  unfold spec_l1Below.f
  rw [if_neg (by omega)]
  by_cases h : n ≤ 256
  · rw [if_pos h]
    obtain ⟨b, p', s', e, b0, b1, hp'⟩ := byte_ c hc p s hp
    rw [e, Option.bind_some, if_neg (by omega)]
    exact ⟨_, _, _, rfl, Int.tmod_nonneg n b0, Int.tmod_lt_of_pos b hn, hp'⟩
  · rw [if_neg h]
    obtain ⟨b, p', s', e, b0, b1, hp'⟩ := byte_ c hc p s hp
    obtain ⟨b2, p2, s2, e2, b20, b21, hp2⟩ := byte_ c hc p' s' hp'
    obtain ⟨b3, p3, s3, e3, b30, b31, hp3⟩ := byte_ c hc p2 s2 hp2
    rw [e, Option.bind_some]; dsimp only
    rw [e2, Option.bind_some]; dsimp only
    rw [e3, Option.bind_some]; dsimp only
    rw [if_neg (by omega)]
    refine ⟨_, _, _, rfl, Int.tmod_nonneg n ?_, Int.tmod_lt_of_pos _ hn, hp3⟩
    rw [w64 (b * 65536) (by omega), w64 (b2 * 256) (by omega), w64 (b * 65536 + b2 * 256) (by omega), w64 _ (by omega)]
    omega
theorem below0_ (c : List Int) (p s n : Int) (hn : n ≤ 0) : spec_l1Below.f c p s n = some (0, p, s) := by
  unfold spec_l1Below.f; rw [if_pos hn]
theorem int_ (c : List Int) (hc : c.length ≤ 1152921504606846976) (p s : Int) (l : List Int) (hp : At p) (hl : 0 < l.length) : ∃ b p' s', spec_l1Int.f c p s l = some (b, p', s') ∧ b ∈ l ∧ At p' := by
  unfold spec_l1Int.f
  obtain ⟨b, p', s', e, b0, b1, hp'⟩ := below_ c hc p s (l.length : Int) hp (by omega)
  rw [e, Option.bind_some]; dsimp only
  rw [if_pos b0, if_pos b1]
  refine ⟨_, _, _, rfl, ?_, hp'⟩
  have : b.toNat < l.length := by omega
  simp [rd, this]
theorem once_ (c : List Int) (hc : c.length ≤ 1152921504606846976) (p s n : Int) (hp : At p) (hn : 0 < n) : ∃ b p' s', spec_l1Once.f c p s n = some (b, p', s') ∧ At p' := by
  unfold spec_l1Once.f
  obtain ⟨b, p', s', e, b0, b1, hp'⟩ := below_ c hc p s n hp hn
  rw [e, Option.bind_some]
  exact ⟨_, _, _, rfl, hp'⟩
theorem ev_new_l (c : List Int) (hc : c.length ≤ 1152921504606846976) : ∀ (d : Nat) (i s : Int), 0 ≤ i → (c.length : Int) - i = d → ∃ s', Ev (fun k => spec_l1New.l0 k c s i) (c, 0, s')
  | 0, i, s, h0, hm => by
    refine ⟨s, Ev.step (fun k => by rw [spec_l1New.l0]) ?_⟩
    simp (disch := omega) only [if_neg]
    exact Ev.now _
  | d + 1, i, s, h0, hm => by
    by_cases h : i < 4000
    · obtain ⟨s', hE⟩ := ev_new_l c hc d (i + 1) (bits .and .i64 (wrap64 ((wrap64 ((wrap64 (s * 137)) + (wrap64 (rd c i)))) + 11)) 1073741823) (by omega) (by omega)
      refine ⟨s', Ev.step (fun k => by rw [spec_l1New.l0]) ?_⟩
      simp (disch := omega) only [if_pos]
      rw [w64 (i + 1) (by omega)]
      exact hE
    · refine ⟨s, Ev.step (fun k => by rw [spec_l1New.l0]) ?_⟩
      simp (disch := omega) only [if_pos, if_neg]
      exact Ev.now _
theorem ev_new (c : List Int) (hc : c.length ≤ 1152921504606846976) : ∃ s', Ev (fun k => spec_l1New.f k c) (c, 0, s') :=
  ev_new_l c hc c.length 0 _ (by omega) (by omega)
theorem ev_some_l (c : List Int) (hc : c.length ≤ 1152921504606846976) : ∀ (d : Nat) (l : List Int) (i p s : Int), 0 ≤ i → 6 - i = d → l.length + d ≤ 10 → At p → ∃ l' p' s', Ev (fun k => spec_l30Some.l0 k 2 l i c p s) (l', p', s') ∧ l'.length ≤ l.length + d ∧ At p'
  | 0, l, i, p, s, h0, hm, hl, hp => by
    refine ⟨l, p, s, Ev.step (fun k => by rw [spec_l30Some.l0]) ?_, by omega, hp⟩
    simp (disch := omega) only [if_neg]
    exact Ev.now _
  | d + 1, l, i, p, s, h0, hm, hl, hp => by
    obtain ⟨b, p1, s1, e, hp1⟩ := once_ c hc p s 2 hp (by omega)
    cases b with
    | true =>
      obtain ⟨l', p', s', hE, hl', hp'⟩ := ev_some_l c hc d l (i + 1) p1 s1 (by omega) (by omega) (by omega) hp1
      refine ⟨l', p', s', Ev.step (fun k => by rw [spec_l30Some.l0]) ?_, by omega, hp'⟩
      simp (disch := omega) only [if_pos, e, Option.bind_some, w64]
      exact hE
    | false =>
      obtain ⟨l', p', s', hE, hl', hp'⟩ := ev_some_l c hc d (l ++ [i]) (i + 1) p1 s1 (by omega) (by omega) (by simp; omega) hp1
      refine ⟨l', p', s', Ev.step (fun k => by rw [spec_l30Some.l0]) ?_, by simp at hl'; omega, hp'⟩
      simp (disch := omega) only [if_pos, e, Option.bind_some, w64]
      simp (disch := omega) only [Bool.false_eq_true, if_false, if_pos]
      exact hE
theorem ev_some (c : List Int) (hc : c.length ≤ 1152921504606846976) (p s : Int) (hp : At p) : ∃ l' p' s', Ev (fun k => spec_l30Some.f k c p s 2) (l', p', s') ∧ l'.length ≤ 5 ∧ At p' := by
  obtain ⟨l', p', s', hE, hl', hp'⟩ := ev_some_l c hc 5 [] 1 p s (by omega) (by omega) (by simp) hp
  exact ⟨l', p', s', hE, by simpa using hl', hp'⟩
/-- A drawn row of works. -/
def Drawn (l : List S40) : Prop := l.length ≤ 5 ∧ ∀ x ∈ l, x.f1.length ≤ 5
theorem Drawn.rows {l : List S40} (h : Drawn l) (j : Int) : (rd_T40 l j).f1.length ≤ 5 := by
  unfold rd_T40
  by_cases hj : j.toNat < l.length
  · simp only [List.getD_eq_getElem?_getD, List.getElem?_eq_getElem hj, Option.getD_some]
    exact h.2 _ (List.getElem_mem hj)
  · simp [List.getD_eq_getElem?_getD, List.getElem?_eq_none (Nat.le_of_not_lt hj), z40]
theorem Drawn.set {l : List S40} (h : Drawn l) (x : S40) (hx : x.f1.length ≤ 5) (n : Nat) : Drawn (l.set n x) := by
  refine ⟨by simpa using h.1, fun y hy => ?_⟩
  rcases List.mem_or_eq_of_mem_set hy with h1 | h1
  · exact h.2 y h1
  · rw [h1]; exact hx
theorem ev_any_l (c : List Int) (hc : c.length ≤ 1152921504606846976) : ∀ (d : Nat) (l : List S40) (p s : Int), l.length + d ≤ 5 → Drawn l → At p → ∃ l' p' s', Ev (fun k => spec_l38Any.l0 k l (d : Int) c p s) (l', p', s') ∧ Drawn l' ∧ At p'
  | 0, l, p, s, hl, hD, hp => by
    by_cases h : (l.length : Int) > 0
    · obtain ⟨b, p1, s1, e, b0, b1, hp1⟩ := below_ c hc p s 9 hp (by omega)
      by_cases hb : b = 0
      · obtain ⟨x, p2, s2, e2, hx, hp2⟩ := int_ c hc p1 s1 [0, 10000000, 10000001] hp1 (by decide)
        refine ⟨_, p2, s2, Ev.step (fun k => by rw [spec_l38Any.l0]) ?_, hD.set ⟨x, (rd_T40 l 0).f1⟩ (hD.rows 0) 0, hp2⟩
        simp (disch := omega) only [if_pos, if_neg, e, e2, Option.bind_some]
        exact Ev.now _
      · by_cases hb1 : b = 1
        · obtain ⟨x, p2, s2, e2, hx, hp2⟩ := int_ c hc p1 s1 [5, 6, 100] hp1 (by decide)
          refine ⟨_, p2, s2, Ev.step (fun k => by rw [spec_l38Any.l0]) ?_, hD.set ⟨(rd_T40 l 0).f0, [5, x]⟩ (by simp) 0, hp2⟩
          simp (disch := omega) only [if_pos, if_neg, e, e2, Option.bind_some]
          exact Ev.now _
        · refine ⟨l, p1, s1, Ev.step (fun k => by rw [spec_l38Any.l0]) ?_, hD, hp1⟩
          simp (disch := omega) only [if_pos, if_neg, e, Option.bind_some]
          exact Ev.now _
    · refine ⟨l, p, s, Ev.step (fun k => by rw [spec_l38Any.l0]) ?_, hD, hp⟩
      simp (disch := omega) only [if_pos, if_neg]
      exact Ev.now _
  | d + 1, l, p, s, hl, hD, hp => by
    obtain ⟨b, p1, s1, e, b0, b1, hp1⟩ := below_ c hc p s 5000 hp (by omega)
    obtain ⟨q, p2, s2, hq, hq5, hp2⟩ := ev_some c hc p1 s1 hp1
    obtain ⟨l', p', s', hE, hD', hp'⟩ := ev_any_l c hc d (l ++ [⟨wrap64 (1 + b), q⟩]) p2 s2 (by simp; omega) ⟨by simp; omega, by
      intro x hx
      rcases List.mem_append.1 hx with h1 | h1
      · exact hD.2 x h1
      · simp at h1; rw [h1]; exact hq5⟩ hp2
    refine ⟨l', p', s', Ev.step (fun k => by rw [spec_l38Any.l0]) ?_, hD', hp'⟩
    simp (disch := omega) only [if_pos, e, Option.bind_some]
    refine Ev.bind hq ?_
    simp (disch := omega) only [if_pos]
    rw [w64 ((d + 1 : Nat) - 1 : Int) (by omega), show ((d + 1 : Nat) - 1 : Int) = d by omega]
    exact hE
theorem ev_any (c : List Int) (hc : c.length ≤ 1152921504606846976) (p s : Int) (hp : At p) : ∃ l' p' s', Ev (fun k => spec_l38Any.f k c p s) (l', p', s') ∧ Drawn l' ∧ At p' := by
  obtain ⟨b, p1, s1, e, b0, b1, hp1⟩ := below_ c hc p s 6 hp (by omega)
  obtain ⟨l', p', s', hE, hD', hp'⟩ := ev_any_l c hc b.toNat [] p1 s1 (by simp; omega) ⟨by simp, by simp⟩ hp1
  refine ⟨l', p', s', ?_, hD', hp'⟩
  unfold spec_l38Any.f
  simp only [e, Option.bind_some]
  rw [show ((b.toNat : Nat) : Int) = b by omega] at hE
  exact hE
theorem ev_two (c : List Int) (hc : c.length ≤ 1152921504606846976) (p s : Int) (hp : At p) : ∃ a b p' s', Ev (fun k => spec_l38Two.f k c p s) (5, a, 6, b, p', s') ∧ a.length ≤ 5 ∧ b.length ≤ 5 := by
  obtain ⟨a, p1, s1, h1, ha, hp1⟩ := ev_some c hc p s hp
  obtain ⟨b, p2, s2, h2, hb, hp2⟩ := ev_some c hc p1 s1 hp1
  refine ⟨a, b, p2, s2, ?_, ha, hb⟩
  exact Ev.bind h1 (Ev.bind h2 (Ev.now _))
theorem ev_dmoves (c : List Int) (hc : c.length ≤ 1152921504606846976) : ∃ a b, Ev (fun k => spec_DrawMoves.f k c) (5, a, 6, b) ∧ a.length ≤ 5 ∧ b.length ≤ 5 := by
  obtain ⟨s, hs⟩ := ev_new c hc
  obtain ⟨a, b, p', s', h, ha, hb⟩ := ev_two c hc 0 s ⟨by omega, by omega⟩
  exact ⟨a, b, Ev.bind hs (Ev.bind h (Ev.now _)), ha, hb⟩
theorem ev_dms (c : List Int) (hc : c.length ≤ 1152921504606846976) : ∃ l n, Ev (fun k => spec_DrawProgramMs.f k c) (l, n) ∧ Drawn l := by
  obtain ⟨s, hs⟩ := ev_new c hc
  obtain ⟨l, p', s', h, hD, hp⟩ := ev_any c hc 0 s ⟨by omega, by omega⟩
  obtain ⟨x, p2, s2, e2, hx, hp2⟩ := int_ c hc p' s' [0, 100, 10000000, 10000001, -1] hp (by decide)
  refine ⟨l, x, Ev.bind hs (Ev.bind h ?_), hD⟩
  dsimp only
  rw [e2]
  exact Ev.now _

/-! ### what a programme lasts -/
theorem ev_ms_l (l : List S40) (hw : works l) : ∀ (d : Nat) (i s : Int), 0 ≤ i → (l.length : Int) - i = d → 0 ≤ s → s ≤ 60000000 + 10000000 * i → ∃ r, Ev (fun k => impl_ProgramMs.l0 k s l (l.length : Int) i) r ∧ r ≥ 0
  | 0, i, s, h0, hm, hs, hsi => by
    refine ⟨s, Ev.step (fun k => by rw [impl_ProgramMs.l0]) ?_, hs⟩
    simp (disch := omega) only [if_neg]
    exact Ev.now _
  | d + 1, i, s, h0, hm, hs, hsi => by
    have hn := hw.1
    obtain ⟨w1, w2, _⟩ := hw.2 i h0 (by omega)
    obtain ⟨r, hE, hr⟩ := ev_ms_l l hw d (i + 1) (s + (rd_T40 l i).f0) (by omega) (by omega) (by omega) (by omega)
    refine ⟨r, Ev.step (fun k => by rw [impl_ProgramMs.l0]) ?_, hr⟩
    simp (disch := omega) only [if_pos, w64]
    exact hE
theorem ev_ms (l : List S40) (n : Int) (hl : Rows l) : ∃ r, Ev (fun k => impl_ProgramMs.f k l n) r ∧ r ≥ 0 := by
  obtain ⟨b, hb, hi⟩ := ev_iworks l hl
  by_cases hw : works l
  · by_cases hn : 0 ≤ n ∧ n ≤ 10000000
    · have h6 := hw.1
      have m0 : 0 ≤ mx (wrap64 ((l.length : Int) - 1)) 0 ∧ mx (wrap64 ((l.length : Int) - 1)) 0 ≤ 5 := by
        unfold mx; rw [w64 _ (by omega)]; split <;> omega
      have m1 : 0 ≤ n * mx (wrap64 ((l.length : Int) - 1)) 0 := Int.mul_nonneg hn.1 m0.1
      have m2 : n * mx (wrap64 ((l.length : Int) - 1)) 0 ≤ 10000000 * 5 := Int.mul_le_mul hn.2 m0.2 m0.1 (by decide)
      obtain ⟨r, hE, hr⟩ := ev_ms_l l hw l.length 0 (n * mx (wrap64 ((l.length : Int) - 1)) 0) (by omega) (by omega) m1 (by omega)
      refine ⟨r, Ev.bind hb ?_, hr⟩
      simp only [hi.2 hw, if_true, i_in, hn, and_self, decide_true, Option.bind_some, Bool.not_true]
      refine Ev.step (fun k => by rw [impl_ProgramMs.j0]) ?_
      simp only [Bool.false_eq_true, if_false]
      rw [w64 (n * _) (by omega)]
      exact hE
    · refine ⟨0, Ev.bind hb ?_, by omega⟩
      simp only [hi.2 hw, if_true, i_in, hn, decide_false, Option.bind_some, Bool.not_false]
      refine Ev.step (fun k => by rw [impl_ProgramMs.j0]) ?_
      simp only [if_true]
      exact Ev.now _
  · refine ⟨0, Ev.bind hb ?_, by omega⟩
    have : b = false := by
      cases b
      · rfl
      · exact absurd (hi.1 rfl) hw
    simp only [this, Bool.false_eq_true, if_false]
    refine Ev.step (fun k => by rw [impl_ProgramMs.j0]) ?_
    simp only [if_true]
    exact Ev.now _
end Go.Proofs.Ytdbmllbphbhfpaa.Pure
