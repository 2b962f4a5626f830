import Derived.Test.YtdbmllbphbhfpaaPureBoC
import Derived.Test.YtdbmllbphbhfpaaPBo7
/-! Plain laws, fifth part: the comparisons, the copies and the marks of the exact law. -/
namespace Go.Proofs.Ytdbmllbphbhfpaa.PureBo
open Go.RowKit Go.Proofs.Ytdbmllbphbhfpaa.PBo Go.Proofs.YtdbmllbphbhfpaaW.PrintWords Go.Proofs.YtdbmllbphbhfpaaW.PrintLast
set_option linter.unusedVariables false
set_option linter.unusedSimpArgs false

theorem sz_work (a : Int) (l : List Int) (x : Int) (hl : l.length ≤ 9223372036854775807) (h0 : 0 ≤ x) (h1 : x ≤ 1048576) : laws_szWork.f a l x = some (if x - (l.length : Int) < 0 then -1 else x - (l.length : Int)) := by
  unfold laws_szWork.f laws_szIntS.f
  rw [w64 _ (by omega)]
  by_cases h : x - (l.length : Int) < 0
  · simp [h]
  · simp only [h, if_false, Option.bind_some]
theorem ev_sz_l (l : List S75) (hB : ∀ j : Int, 0 ≤ j → j < l.length → (rd_T75 l j).f1.length ≤ 9223372036854775807) (hn : l.length ≤ 1048576) : ∀ (d : Nat) (i x : Int), 0 ≤ i → (l.length : Int) - i = d → 0 ≤ x → x ≤ 1048576 → ∃ r, Ev (fun k => laws_szWorkS.l0 k l x i) r ∧ (¬ r < 0 → ∀ j : Int, i ≤ j → j < l.length → (rd_T75 l j).f1.length ≤ 1048576)
  | 0, i, x, h0, hm, hx0, hx1 => by
    refine ⟨x, Ev.step (fun k => by rw [laws_szWorkS.l0]) ?_, fun _ j h1 h2 => by omega⟩
    simp (disch := omega) only [if_neg]
    exact Ev.now _
  | d + 1, i, x, h0, hm, hx0, hx1 => by
    have hb := hB i h0 (by omega)
    by_cases h : x - ((rd_T75 l i).f1.length : Int) < 0
    · refine ⟨-1, Ev.step (fun k => by rw [laws_szWorkS.l0]) ?_, fun h => absurd (by omega) h⟩
      simp (disch := omega) only [if_pos, sz_work, Option.bind_some]
      exact Ev.now _
    · obtain ⟨r, hE, hr⟩ := ev_sz_l l hB hn d (i + 1) (x - ((rd_T75 l i).f1.length : Int)) (by omega) (by omega) (by omega) (by omega)
      refine ⟨r, Ev.step (fun k => by rw [laws_szWorkS.l0]) ?_, fun hnr j h1 h2 => ?_⟩
      · simp (disch := omega) only [if_pos, if_neg, sz_work, Option.bind_some, w64]
        exact hE
      · by_cases e : j = i
        · subst e; omega
        · exact hr hnr j (by omega) h2
theorem ev_sz (l : List S75) (hl : l.length ≤ 9223372036854775807) (hB : ∀ j : Int, 0 ≤ j → j < l.length → (rd_T75 l j).f1.length ≤ 9223372036854775807) : ∃ r, Ev (fun k => laws_szWorkS.f k l 1048576) r ∧ (¬ r < 0 → l.length ≤ 1048576 ∧ ∀ j : Int, 0 ≤ j → j < l.length → (rd_T75 l j).f1.length ≤ 1048576) := by
  by_cases h : (1048576 : Int) - (l.length : Int) < 0
  · refine ⟨-1, Ev.congr (f := fun _ => some (-1)) (fun k => ?_) (Ev.now _), fun h => absurd (by omega) h⟩
    unfold laws_szWorkS.f
    rw [w64 _ (by omega), if_pos h]
  · obtain ⟨r, hE, hr⟩ := ev_sz_l l hB (by omega) l.length 0 (1048576 - (l.length : Int)) (by omega) (by omega) (by omega) (by omega)
    refine ⟨r, Ev.congr (fun k => ?_) hE, fun hn => ⟨by omega, hr hn⟩⟩
    unfold laws_szWorkS.f
    rw [w64 _ (by omega), if_neg h]
theorem take_set_next {α : Type} (x l : List α) (i : Nat) (v : α) (hx : x.length = l.length) (hi : i < l.length) (ht : x.take i = l.take i) (hv : l[i] = v) : (x.set i v).take (i + 1) = l.take (i + 1) := by
  rw [List.take_succ_eq_append_getElem (by simp; omega), List.take_succ_eq_append_getElem hi, List.take_set_of_le (Nat.le_refl _), ht]
  simp [hv]
theorem ev_toint_l (l : List Int) (hl : l.length ≤ 1048576) : ∀ (d : Nat) (i : Int) (x : List Int), 0 ≤ i → (l.length : Int) - i = d → x.length = l.length → x.take i.toNat = l.take i.toNat → Ev (fun k => laws_toIntS.l0 k l x i) l
  | 0, i, x, h0, hm, hx, ht => by
    refine Ev.step (fun k => by rw [laws_toIntS.l0]) ?_
    simp (disch := omega) only [if_neg]
    rw [List.take_of_length_le (by omega), List.take_of_length_le (by omega)] at ht
    subst ht
    exact Ev.now _
  | d + 1, i, x, h0, hm, hx, ht => by
    refine Ev.step (fun k => by rw [laws_toIntS.l0]) ?_
    simp (disch := omega) only [if_pos, w64]
    have hi : i.toNat < l.length := by omega
    refine ev_toint_l l hl d (i + 1) _ (by omega) (by omega) (by simpa using hx) ?_
    rw [show (i + 1).toNat = i.toNat + 1 by omega]
    exact take_set_next x l i.toNat _ hx hi ht (by simp [rd, hi])
theorem ev_toint (l : List Int) (hl : l.length ≤ 1048576) : Ev (fun k => laws_toIntS.f k l) l := by
  refine Ev.congr (f := fun k => laws_toIntS.l0 k l (List.replicate l.length 0) 0) (fun k => ?_) (ev_toint_l l hl l.length 0 _ (by omega) (by omega) (by simp) (by simp))
  unfold laws_toIntS.f
  rw [if_pos (by omega), if_pos (by omega)]
  simp
def cv (x : S75) : S40 := ⟨x.f0, x.f1⟩
theorem rd75 (l : List S75) (i : Int) (h0 : 0 ≤ i) (h1 : i < l.length) : rd_T75 l i = l[i.toNat]'(by omega) := by
  have : i.toNat < l.length := by omega
  simp [rd_T75, this]
theorem rd40_map (l : List S75) (i : Int) (h0 : 0 ≤ i) (h1 : i < l.length) : rd_T40 (l.map cv) i = cv (rd_T75 l i) := by
  have : i.toNat < l.length := by omega
  simp [rd_T40, rd_T75, this]
theorem ev_towork_l (l : List S75) (hl : l.length ≤ 1048576) (hB : ∀ j : Int, 0 ≤ j → j < l.length → (rd_T75 l j).f1.length ≤ 1048576) : ∀ (d : Nat) (i : Int) (x : List S40), 0 ≤ i → (l.length : Int) - i = d → x.length = l.length → x.take i.toNat = (l.map cv).take i.toNat → Ev (fun k => laws_toWorkS.l0 k l x i) (l.map cv)
  | 0, i, x, h0, hm, hx, ht => by
    refine Ev.step (fun k => by rw [laws_toWorkS.l0]) ?_
    simp (disch := omega) only [if_neg]
    rw [List.take_of_length_le (by omega), List.take_of_length_le (by simp; omega)] at ht
    subst ht
    exact Ev.now _
  | d + 1, i, x, h0, hm, hx, ht => by
    refine Ev.step (fun k => by rw [laws_toWorkS.l0]) ?_
    simp (disch := omega) only [if_pos, w64]
    have hi : i.toNat < l.length := by omega
    refine Ev.bind (a := ((rd_T75 l i).f0, (rd_T75 l i).f1)) (Ev.bind (f := fun _ t => some ((rd_T75 l i).f0, t)) (ev_toint _ (hB i h0 (by omega))) (Ev.now _)) ?_
    simp (disch := omega) only [if_pos]
    refine ev_towork_l l hl hB d (i + 1) _ (by omega) (by omega) (by simpa using hx) ?_
    rw [show (i + 1).toNat = i.toNat + 1 by omega]
    exact take_set_next x (l.map cv) i.toNat _ (by simpa using hx) (by simpa using hi) ht (by rw [List.getElem_map, rd75 l i h0 (by omega)]; rfl)
theorem ev_towork (l : List S75) (hl : l.length ≤ 1048576) (hB : ∀ j : Int, 0 ≤ j → j < l.length → (rd_T75 l j).f1.length ≤ 1048576) : Ev (fun k => laws_toWorkS.f k l) (l.map cv) := by
  refine Ev.congr (f := fun k => laws_toWorkS.l0 k l (List.replicate l.length z40) 0) (fun k => ?_) (ev_towork_l l hl hB l.length 0 _ (by omega) (by omega) (by simp) (by simp))
  unfold laws_toWorkS.f
  rw [if_pos (by omega), if_pos (by omega)]
  simp
theorem ev_eqint_l (l : List Int) (hl : l.length ≤ 1048576) : ∀ (d : Nat) (i : Int), 0 ≤ i → (l.length : Int) - i = d → Ev (fun k => laws_eqIntS.l0 k l l i) true
  | 0, i, h0, hm => by
    refine Ev.step (fun k => by rw [laws_eqIntS.l0]) ?_
    simp (disch := omega) only [if_neg]
    exact Ev.now _
  | d + 1, i, h0, hm => by
    refine Ev.step (fun k => by rw [laws_eqIntS.l0]) ?_
    simp (disch := omega) only [if_pos, w64]
    exact ev_eqint_l l hl d (i + 1) (by omega) (by omega)
theorem ev_eqint (l : List Int) (hl : l.length ≤ 1048576) : Ev (fun k => laws_eqIntS.f k l l) true := by
  refine Ev.congr (fun k => ?_) (ev_eqint_l l hl l.length 0 (by omega) (by omega))
  unfold laws_eqIntS.f
  rw [if_pos rfl]
theorem ev_eqwork_l (l : List S40) (hl : l.length ≤ 1048576) (hB : ∀ j : Int, 0 ≤ j → j < l.length → (rd_T40 l j).f1.length ≤ 1048576) : ∀ (d : Nat) (i : Int), 0 ≤ i → (l.length : Int) - i = d → Ev (fun k => laws_eqWorkS.l0 k l l i) true
  | 0, i, h0, hm => by
    refine Ev.step (fun k => by rw [laws_eqWorkS.l0]) ?_
    simp (disch := omega) only [if_neg]
    exact Ev.now _
  | d + 1, i, h0, hm => by
    refine Ev.step (fun k => by rw [laws_eqWorkS.l0]) ?_
    simp (disch := omega) only [if_pos, w64]
    refine Ev.bind (a := true) ?_ ?_
    · unfold laws_eqWork.f
      simp only [if_true]
      exact Ev.bind (f := fun _ t => if t = true then some true else some false) (ev_eqint _ (hB i h0 (by omega))) (Ev.now _)
    · simp only [if_true]
      exact ev_eqwork_l l hl hB d (i + 1) (by omega) (by omega)
theorem ev_eqwork (l : List S40) (hl : l.length ≤ 1048576) (hB : ∀ j : Int, 0 ≤ j → j < l.length → (rd_T40 l j).f1.length ≤ 1048576) : Ev (fun k => laws_eqWorkS.f k l l) true := by
  refine Ev.congr (fun k => ?_) (ev_eqwork_l l hl hB l.length 0 (by omega) (by omega))
  unfold laws_eqWorkS.f
  rw [if_pos rfl]
theorem rd_set (x : List Int) (i j v : Int) (h0 : 0 ≤ i) (h1 : i < x.length) (h2 : 0 ≤ j) (h3 : j < x.length) : rd (x.set i.toNat v) j = if j = i then v else rd x j := by
  have a : j.toNat < x.length := by omega
  have b : i.toNat < x.length := by omega
  by_cases e : j = i
  · subst e; simp [rd, b]
  · have : i.toNat ≠ j.toNat := by omega
    simp [rd, e, List.getElem?_set_ne this]
theorem ev_mark_l (a : Int) (ha : 0 ≤ a) (n : Nat) (hn : n ≤ 1048576) (ha2 : a ≤ 4611686018427387904) : ∀ (d : Nat) (i : Int) (x : List Int), 0 ≤ i → (n : Int) - i = d → x.length = n → (∀ j : Int, 0 ≤ j → j < i → rd x j = a + j) → ∃ o, Ev (fun k => laws_markIntS.l0 k x (a + i) i) (a + n, o) ∧ o.length = n ∧ ∀ j : Int, 0 ≤ j → j < n → rd o j = a + j
  | 0, i, x, h0, hm, hx, ht => by
    refine ⟨x, Ev.step (fun k => by rw [laws_markIntS.l0]) ?_, hx, fun j h1 h2 => ht j h1 (by omega)⟩
    simp (disch := omega) only [if_neg]
    rw [show a + i = a + n by omega]
    exact Ev.now _
  | d + 1, i, x, h0, hm, hx, ht => by
    obtain ⟨o, hE, ho⟩ := ev_mark_l a ha n hn ha2 d (i + 1) (x.set i.toNat (a + i)) (by omega) (by omega) (by simpa using hx) (fun j h1 h2 => by
      rw [rd_set x i j _ h0 (by omega) h1 (by omega)]
      split
      · omega
      · exact ht j h1 (by omega))
    refine ⟨o, Ev.step (fun k => by rw [laws_markIntS.l0]) ?_, ho⟩
    simp (disch := omega) only [if_pos, w64]
    rw [Int.add_assoc]
    exact hE
theorem ev_mark (l : List Int) (a : Int) (ha : 0 ≤ a) (ha2 : a ≤ 4611686018427387904) (hl : l.length ≤ 1048576) : ∃ o, Ev (fun k => laws_markIntS.f k l a) (a + l.length, o) ∧ o.length = l.length ∧ ∀ j : Int, 0 ≤ j → j < l.length → rd o j = a + j := by
  have := ev_mark_l a ha l.length hl ha2 l.length 0 l (by omega) (by omega) rfl (fun j h1 h2 => by omega)
  rw [Int.add_zero] at this
  exact this
theorem ev_held_l (o : List Int) (a : Int) (ha : 0 ≤ a) (ha2 : a ≤ 4611686018427387904) (hl : o.length ≤ 1048576) (ho : ∀ j : Int, 0 ≤ j → j < o.length → rd o j = a + j) : ∀ (d : Nat) (i : Int), 0 ≤ i → (o.length : Int) - i = d → Ev (fun k => laws_heldIntS.l0 k o (a + i) i) (a + o.length)
  | 0, i, h0, hm => by
    refine Ev.step (fun k => by rw [laws_heldIntS.l0]) ?_
    simp (disch := omega) only [if_neg]
    rw [show a + i = a + o.length by omega]
    exact Ev.now _
  | d + 1, i, h0, hm => by
    refine Ev.step (fun k => by rw [laws_heldIntS.l0]) ?_
    have := ho i h0 (by omega)
    simp (disch := omega) only [if_pos, w64]
    rw [Int.add_assoc]
    exact ev_held_l o a ha ha2 hl ho d (i + 1) (by omega) (by omega)
theorem ev_held (o : List Int) (a : Int) (ha : 0 ≤ a) (ha2 : a ≤ 4611686018427387904) (hl : o.length ≤ 1048576) (ho : ∀ j : Int, 0 ≤ j → j < o.length → rd o j = a + j) : Ev (fun k => laws_heldIntS.f k o a) (a + o.length) := by
  have := ev_held_l o a ha ha2 hl ho o.length 0 (by omega) (by omega)
  rw [Int.add_zero] at this
  exact this
theorem ev_markwork_l (n : Nat) (hn : n ≤ 1048576) : ∀ (d : Nat) (i x1 : Int) (x : List S40), 0 ≤ i → (n : Int) - i = d → x.length = n → (∀ j : Int, 0 ≤ j → j < n → (rd_T40 x j).f1.length ≤ 1048576) → 0 ≤ x1 → x1 ≤ 1 + 1048577 * i → ∃ k1 l', Ev (fun k => laws_markWorkS.l0 k x x1 i) (k1, l') ∧ 0 ≤ k1
  | 0, i, x1, x, h0, hm, hx, hB, hx0, hx1 => by
    refine ⟨x1, x, Ev.step (fun k => by rw [laws_markWorkS.l0]) ?_, hx0⟩
    simp (disch := omega) only [if_neg]
    exact Ev.now _
  | d + 1, i, x1, x, h0, hm, hx, hB, hx0, hx1 => by
    have hb := hB i h0 (by omega)
    obtain ⟨o, hE, ho, _⟩ := ev_mark (rd_T40 x i).f1 (x1 + 1) (by omega) (by omega) hb
    obtain ⟨k1, l', hE2, hk1⟩ := ev_markwork_l n hn d (i + 1) (x1 + 1 + (rd_T40 x i).f1.length) (x.set i.toNat ⟨x1, o⟩) (by omega) (by omega) (by simpa using hx) (fun j h1 h2 => by
      have a : i.toNat < x.length := by omega
      by_cases e : j = i
      · subst e
        have : rd_T40 (x.set j.toNat ⟨x1, o⟩) j = ⟨x1, o⟩ := by simp [rd_T40, a]
        rw [this]
        show o.length ≤ 1048576
        omega
      · have : i.toNat ≠ j.toNat := by omega
        have e2 : rd_T40 (x.set i.toNat ⟨x1, o⟩) j = rd_T40 x j := by simp [rd_T40, List.getElem?_set_ne this]
        rw [e2]
        exact hB j h1 h2) (by omega) (by omega)
    refine ⟨k1, l', Ev.step (fun k => by rw [laws_markWorkS.l0]) ?_, hk1⟩
    simp (disch := omega) only [if_pos, w64]
    exact Ev.bind hE hE2
theorem ev_markwork (l : List S40) (hl : l.length ≤ 1048576) (hB : ∀ j : Int, 0 ≤ j → j < l.length → (rd_T40 l j).f1.length ≤ 1048576) : ∃ k1 l', Ev (fun k => laws_markWorkS.g k l 1) (k1, l') ∧ 0 ≤ k1 :=
  ev_markwork_l l.length hl l.length 0 1 l (by omega) (by omega) rfl hB (by omega) (by omega)
open Classical in
/-- What the exact law comes to: too big, or all answers as they must be. -/
theorem exact_order (l0 : List S75) (hl0 : l0.length ≤ 9223372036854775807) (hB0 : ∀ j : Int, 0 ≤ j → j < l0.length → (rd_T75 l0 j).f1.length ≤ 9223372036854775807) :
    ∃ k left, laws_szWorkS.f k l0 1048576 = some left ∧ (left < 0 ∨ (¬ left < 0 ∧ ∃ (k1 m : Int) (l l' : List S40) (o o' : List Int),
      laws_toWorkS.f k l0 = some l ∧ spec_BestOrder.f k l = some o ∧ impl_BestOrder.f k l = some o ∧ laws_eqIntS.f k o o = some true ∧ laws_eqWorkS.f k l l = some true ∧ laws_markWorkS.g k l 1 = some (k1, l') ∧ ¬ k1 < 0 ∧ laws_markIntS.f k o 1 = some (m, o') ∧ laws_heldIntS.f k o' 1 = some m ∧ ¬ m < 0)) := by
  obtain ⟨left, hE, hsz⟩ := ev_sz l0 hl0 hB0
  by_cases h : left < 0
  · obtain ⟨K, hK⟩ := hE
    exact ⟨K, left, hK K (Nat.le_refl _), .inl h⟩
  obtain ⟨hn, hB⟩ := hsz h
  have e1 := ev_towork l0 hn hB
  have hll : (l0.map cv).length ≤ 1048576 := by simpa using hn
  have hBl : ∀ j : Int, 0 ≤ j → j < (l0.map cv).length → (rd_T40 (l0.map cv) j).f1.length ≤ 1048576 := fun j h1 h2 => by
    rw [rd40_map l0 j h1 (by simpa using h2)]
    exact hB j h1 (by simpa using h2)
  generalize l0.map cv = l at e1 hll hBl
  have hs : ∀ j : Int, (rd_T40 l j).f1.length ≤ 1048576 := by
    intro j
    by_cases hj : j.toNat < l.length
    · by_cases h0 : 0 ≤ j
      · exact hBl j h0 (by omega)
      · have : rd_T40 l j = rd_T40 l 0 := by unfold rd_T40; rw [show j.toNat = (0 : Int).toNat by omega]
        rw [this]
        exact hBl 0 (by omega) (by omega)
    · have : rd_T40 l j = z40 := by simp [rd_T40, List.getElem?_eq_none (Nat.le_of_not_lt hj)]
      rw [this]; simp [z40]
  have hrows : Rows l := ⟨by omega, fun j => by have := hs j; omega⟩
  have e2 := ev_sbest l hrows hs
  have e3 := ev_ibest l hrows hs
  have ho : (if works l then (best l).1 else []).length ≤ 1048576 := by
    by_cases hw : works l
    · simp only [hw, if_true]
      have := (oc_is (best_is l hw).1).2.1
      omega
    · simp [hw]
  generalize (if works l then (best l).1 else []) = o at e2 e3 ho
  have e4 := ev_eqint o ho
  have e5 := ev_eqwork l hll hBl
  obtain ⟨k1, l', e6, hk1⟩ := ev_markwork l hll hBl
  obtain ⟨o', e7, ho', hro⟩ := ev_mark o 1 (by omega) (by omega) ho
  have e8 := ev_held o' 1 (by omega) (by omega) (by omega) (fun j h1 h2 => hro j h1 (by omega))
  rw [ho'] at e8
  obtain ⟨K0, hK0⟩ := hE
  obtain ⟨K1, hK1⟩ := e1
  obtain ⟨K2, hK2⟩ := e2
  obtain ⟨K3, hK3⟩ := e3
  obtain ⟨K4, hK4⟩ := e4
  obtain ⟨K5, hK5⟩ := e5
  obtain ⟨K6, hK6⟩ := e6
  obtain ⟨K7, hK7⟩ := e7
  obtain ⟨K8, hK8⟩ := e8
  refine ⟨K0 + K1 + K2 + K3 + K4 + K5 + K6 + K7 + K8, left, hK0 _ (by omega), .inr ⟨h, k1, 1 + o.length, l, l', o, o', hK1 _ (by omega), hK2 _ (by omega), hK3 _ (by omega), hK4 _ (by omega), hK5 _ (by omega), hK6 _ (by omega), by omega, hK7 _ (by omega), hK8 _ (by omega), by omega⟩⟩
end Go.Proofs.Ytdbmllbphbhfpaa.PureBo
