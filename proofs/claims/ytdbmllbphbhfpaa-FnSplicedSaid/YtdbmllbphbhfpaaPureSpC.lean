import Derived.Test.YtdbmllbphbhfpaaPureSpB
/-! Plain laws of the splice, third part: the table of least costs, and why its choice is best. -/
namespace Go.Proofs.Ytdbmllbphbhfpaa.PureSp
open Go.RowKit Go.Proofs.Ytdbmllbphbhfpaa.PSp Go.Proofs.YtdbmllbphbhfpaaW.PrintWords Go.Proofs.YtdbmllbphbhfpaaW.PrintLast
open Go.Proofs.YtdbmllbphbhfpaaW.PrintMore
set_option linter.unusedSectionVars false
set_option linter.unusedVariables false
set_option linter.unusedSimpArgs false

/-- A step from the take f to the take u, where the rest behind it costs g u (last: no cut is counted). -/
def stp (cut : Int) (g : Int → Int) (last : Bool) (f u : Int) : Int := g u + (if f ≠ u ∧ last = false then cut else 0)
def bst (h : Int → Int) (t : Int) : Nat → Int
  | 0 => h t
  | u + 1 => mn (bst h t u) (h u)
/-- The least cost of the last d bars, the first of them of the take t. -/
def lst (l : List (List Int)) (cut : Int) (n m : Nat) : Nat → Int → Int
  | 0, _ => 0
  | d + 1, t => V l t ((n : Int) - (d + 1)) + bst (stp cut (lst l cut n m d) (decide (d = 0)) t) t m
theorem mn_le (a b : Int) : mn a b ≤ a ∧ mn a b ≤ b ∧ (mn a b = a ∨ mn a b = b) := by unfold mn; split <;> omega
theorem bst_le (h : Int → Int) (t : Int) : ∀ m : Nat, bst h t m ≤ h t ∧ ∀ u : Int, 0 ≤ u → u < m → bst h t m ≤ h u
  | 0 => ⟨Int.le_refl _, fun u a b => by omega⟩
  | m + 1 => by
    obtain ⟨a, b⟩ := bst_le h t m
    have := mn_le (bst h t m) (h m)
    refine ⟨by simp only [bst]; omega, fun u c d => ?_⟩
    simp only [bst]
    by_cases e : u = m
    · subst e; omega
    · have := b u c (by omega); omega
theorem bst_at (h : Int → Int) (t : Int) : ∀ m : Nat, bst h t m = h t ∨ ∃ u : Int, 0 ≤ u ∧ u < m ∧ bst h t m = h u
  | 0 => .inl rfl
  | m + 1 => by
    have := mn_le (bst h t m) (h m)
    simp only [bst]
    rcases this.2.2 with e | e
    · rw [e]
      rcases bst_at h t m with e2 | ⟨u, a, b, e2⟩
      · exact .inl e2
      · exact .inr ⟨u, a, by omega, e2⟩
    · exact .inr ⟨m, by omega, by omega, e⟩
theorem bst_range {h : Int → Int} {t : Int} {m : Nat} (ht : 0 ≤ t) (hm : t < m) {B : Int} (hB : ∀ u : Int, 0 ≤ u → u < m → 0 ≤ h u ∧ h u ≤ B) : 0 ≤ bst h t m ∧ bst h t m ≤ B := by
  rcases bst_at h t m with e | ⟨u, a, b, e⟩
  · rw [e]; exact hB t ht hm
  · rw [e]; exact hB u a b
section
variable {l : List (List Int)} (hw : takes l) {cut : Int} (hc0 : 0 ≤ cut) (hc1 : cut ≤ 999)
include hw hc0 hc1
theorem lst_range : ∀ (d : Nat) (t : Int), d ≤ (rd_L2 l 0).length → 0 ≤ t → t < l.length → 0 ≤ lst l cut (rd_L2 l 0).length l.length d t ∧ lst l cut (rd_L2 l 0).length l.length d t ≤ 2000 * d
  | 0, t, hd, h0, h1 => by simp [lst]
  | d + 1, t, hd, h0, h1 => by
    obtain ⟨a, b, _⟩ := takes_v hw h0 h1 (i := ((rd_L2 l 0).length : Int) - (d + 1)) (by omega) (by omega)
    have := bst_range (h := stp cut (lst l cut (rd_L2 l 0).length l.length d) (decide (d = 0)) t) h0 h1 (B := 2000 * d + 999) (fun u p q => by
      have := lst_range d u (by omega) p q
      unfold stp
      split <;> omega)
    simp only [lst]
    omega
/-- No choice costs less. -/
theorem lower (o : List Int) (ho : o.length = (rd_L2 l 0).length) (hv : valid l o 0) : ∀ (d : Nat), d + 1 ≤ o.length → lst l cut (rd_L2 l 0).length l.length (d + 1) (rd o ((o.length : Int) - (d + 1))) ≤ V l (rd o ((o.length : Int) - (d + 1))) ((o.length : Int) - (d + 1)) + cf l cut o d ((o.length : Int) - d)
  | 0, hd => by
    obtain ⟨v0, v1⟩ := hv ((o.length : Int) - 1) (by omega) (by omega)
    have := (bst_le (stp cut (lst l cut (rd_L2 l 0).length l.length 0) (decide (0 = 0)) (rd o ((o.length : Int) - 1))) (rd o ((o.length : Int) - 1)) l.length).1
    have e : stp cut (lst l cut (rd_L2 l 0).length l.length 0) (decide (0 = 0)) (rd o ((o.length : Int) - 1)) (rd o ((o.length : Int) - 1)) = 0 := by simp [stp, lst]
    rw [e] at this
    have e1 : (o.length : Int) - (((0 : Nat) : Int) + 1) = (o.length : Int) - 1 := by omega
    have e0 : lst l cut (rd_L2 l 0).length l.length (0 + 1) (rd o ((o.length : Int) - 1)) = V l (rd o ((o.length : Int) - 1)) ((o.length : Int) - 1) + bst (stp cut (lst l cut (rd_L2 l 0).length l.length 0) (decide (0 = 0)) (rd o ((o.length : Int) - 1))) (rd o ((o.length : Int) - 1)) l.length := by
      rw [lst, ho]; simp
    rw [e1, e0, show cf l cut o 0 ((o.length : Int) - ((0 : Nat) : Int)) = 0 from rfl]
    omega
  | d + 1, hd => by
    obtain ⟨v0, v1⟩ := hv ((o.length : Int) - (d + 1)) (by omega) (by omega)
    have ih := lower o ho hv d (by omega)
    have hb := (bst_le (stp cut (lst l cut (rd_L2 l 0).length l.length (d + 1)) (decide (d + 1 = 0)) (rd o ((o.length : Int) - (d + 1 + 1)))) (rd o ((o.length : Int) - (d + 1 + 1))) l.length).2 _ v0 v1
    rw [show cf l cut o (d + 1) ((o.length : Int) - (d + 1 : Nat)) = V l (rd o ((o.length : Int) - (d + 1))) ((o.length : Int) - (d + 1)) + (if rd o ((o.length : Int) - (d + 1 + 1)) ≠ rd o ((o.length : Int) - (d + 1)) then cut else 0) + cf l cut o d ((o.length : Int) - d) by
      simp only [cf]
      rw [show ((o.length : Int) - ((d + 1 : Nat) : Int)) = (o.length : Int) - (d + 1) by omega, show (o.length : Int) - (d + 1) - 1 = (o.length : Int) - (d + 1 + 1) by omega, show (o.length : Int) - (d + 1) + 1 = (o.length : Int) - d by omega]
      simp only [show (0 : Int) < (o.length : Int) - (d + 1) by omega, true_and]]
    rw [show lst l cut (rd_L2 l 0).length l.length (d + 1 + 1) (rd o ((o.length : Int) - ((d + 1 : Nat) + 1))) = V l (rd o ((o.length : Int) - (d + 1 + 1))) ((o.length : Int) - (d + 1 + 1)) + bst (stp cut (lst l cut (rd_L2 l 0).length l.length (d + 1)) (decide (d + 1 = 0)) (rd o ((o.length : Int) - (d + 1 + 1)))) (rd o ((o.length : Int) - (d + 1 + 1))) l.length by
      rw [lst, ho]; simp]
    have e : stp cut (lst l cut (rd_L2 l 0).length l.length (d + 1)) (decide (d + 1 = 0)) (rd o ((o.length : Int) - (d + 1 + 1))) (rd o ((o.length : Int) - (d + 1))) = lst l cut (rd_L2 l 0).length l.length (d + 1) (rd o ((o.length : Int) - (d + 1))) + (if rd o ((o.length : Int) - (d + 1 + 1)) ≠ rd o ((o.length : Int) - (d + 1)) then cut else 0) := by
      unfold stp; simp
    rw [e] at hb
    rw [show ((o.length : Int) - ((d + 1 : Nat) + 1)) = (o.length : Int) - (d + 1 + 1) by omega]
    omega
end
/-- Each bar's take is the best to go on with. -/
def greedy (l : List (List Int)) (cut : Int) (n m : Nat) (o : List Int) : Prop := ∀ j : Int, 0 ≤ j → j < o.length → (0 ≤ rd o j ∧ rd o j < m) ∧ ∀ u : Int, 0 ≤ u → u < m →
  (if 0 < j then stp cut (lst l cut n m (n - j.toNat)) false (rd o (j - 1)) (rd o j) ≤ stp cut (lst l cut n m (n - j.toNat)) false (rd o (j - 1)) u else lst l cut n m n (rd o j) ≤ lst l cut n m n u)
theorem greedy_valid {l : List (List Int)} {cut : Int} {n : Nat} {o : List Int} (h : greedy l cut n l.length o) : valid l o 0 := fun j a b => (h j a b).1
theorem lst_succ (l : List (List Int)) (cut : Int) (n m d : Nat) (t i : Int) (hi : i = (n : Int) - (d + 1)) : lst l cut n m (d + 1) t = V l t i + bst (stp cut (lst l cut n m d) (decide (d = 0)) t) t m := by subst hi; rfl
section
variable {l : List (List Int)} (hw : takes l) {cut : Int} (hc0 : 0 ≤ cut) (hc1 : cut ≤ 999)
include hw hc0 hc1
theorem upper (o : List Int) (ho : o.length = (rd_L2 l 0).length) (hg : greedy l cut (rd_L2 l 0).length l.length o) : ∀ (d : Nat), d + 1 ≤ o.length → V l (rd o ((o.length : Int) - (d + 1))) ((o.length : Int) - (d + 1)) + cf l cut o d ((o.length : Int) - d) ≤ lst l cut (rd_L2 l 0).length l.length (d + 1) (rd o ((o.length : Int) - (d + 1)))
  | 0, hd => by
    have h5 := hw.1
    obtain ⟨v0, v1⟩ := greedy_valid hg ((o.length : Int) - 1) (by omega) (by omega)
    have e1 : (o.length : Int) - (((0 : Nat) : Int) + 1) = (o.length : Int) - 1 := by omega
    have hb := bst_range (h := stp cut (lst l cut (rd_L2 l 0).length l.length 0) (decide (0 = 0)) (rd o ((o.length : Int) - 1))) v0 v1 (B := 0) (fun u p q => by simp [stp, lst])
    rw [e1, lst_succ l cut (rd_L2 l 0).length l.length 0 _ ((o.length : Int) - 1) (by rw [ho]; omega), show cf l cut o 0 ((o.length : Int) - ((0 : Nat) : Int)) = 0 from rfl]
    omega
  | d + 1, hd => by
    have ih := upper o ho hg d (by omega)
    obtain ⟨⟨v0, v1⟩, _⟩ := hg ((o.length : Int) - (d + 1 + 1)) (by omega) (by omega)
    obtain ⟨⟨u0, u1⟩, hmin⟩ := hg ((o.length : Int) - (d + 1)) (by omega) (by omega)
    have key : ∀ u : Int, 0 ≤ u → u < l.length → stp cut (lst l cut (rd_L2 l 0).length l.length (d + 1)) false (rd o ((o.length : Int) - (d + 1 + 1))) (rd o ((o.length : Int) - (d + 1))) ≤ stp cut (lst l cut (rd_L2 l 0).length l.length (d + 1)) false (rd o ((o.length : Int) - (d + 1 + 1))) u := by
      intro u p q
      have := hmin u p q
      rw [if_pos (by omega), show (rd_L2 l 0).length - ((o.length : Int) - (d + 1)).toNat = d + 1 by omega, show (o.length : Int) - (d + 1) - 1 = (o.length : Int) - (d + 1 + 1) by omega] at this
      exact this
    have hb : stp cut (lst l cut (rd_L2 l 0).length l.length (d + 1)) false (rd o ((o.length : Int) - (d + 1 + 1))) (rd o ((o.length : Int) - (d + 1))) ≤ bst (stp cut (lst l cut (rd_L2 l 0).length l.length (d + 1)) (decide (d + 1 = 0)) (rd o ((o.length : Int) - (d + 1 + 1)))) (rd o ((o.length : Int) - (d + 1 + 1))) l.length := by
      rw [show decide (d + 1 = 0) = false by simp]
      rcases bst_at (stp cut (lst l cut (rd_L2 l 0).length l.length (d + 1)) false (rd o ((o.length : Int) - (d + 1 + 1)))) (rd o ((o.length : Int) - (d + 1 + 1))) l.length with e | ⟨u, a, b, e⟩
      · rw [e]; exact key _ v0 v1
      · rw [e]; exact key u a b
    rw [show cf l cut o (d + 1) ((o.length : Int) - (d + 1 : Nat)) = V l (rd o ((o.length : Int) - (d + 1))) ((o.length : Int) - (d + 1)) + (if rd o ((o.length : Int) - (d + 1 + 1)) ≠ rd o ((o.length : Int) - (d + 1)) then cut else 0) + cf l cut o d ((o.length : Int) - d) by
      simp only [cf]
      rw [show ((o.length : Int) - ((d + 1 : Nat) : Int)) = (o.length : Int) - (d + 1) by omega, show (o.length : Int) - (d + 1) - 1 = (o.length : Int) - (d + 1 + 1) by omega, show (o.length : Int) - (d + 1) + 1 = (o.length : Int) - d by omega]
      simp only [show (0 : Int) < (o.length : Int) - (d + 1) by omega, true_and]]
    rw [show ((o.length : Int) - ((d + 1 : Nat) + 1)) = (o.length : Int) - (d + 1 + 1) by omega, lst_succ l cut (rd_L2 l 0).length l.length (d + 1) _ ((o.length : Int) - (d + 1 + 1)) (by rw [ho]; omega)]
    have e : stp cut (lst l cut (rd_L2 l 0).length l.length (d + 1)) false (rd o ((o.length : Int) - (d + 1 + 1))) (rd o ((o.length : Int) - (d + 1))) = lst l cut (rd_L2 l 0).length l.length (d + 1) (rd o ((o.length : Int) - (d + 1))) + (if rd o ((o.length : Int) - (d + 1 + 1)) ≠ rd o ((o.length : Int) - (d + 1)) then cut else 0) := by
      unfold stp; simp
    rw [e] at hb
    omega
/-- What is chosen so costs no more than any other choice. -/
theorem best_choice (o x : List Int) (ho : o.length = (rd_L2 l 0).length) (hg : greedy l cut (rd_L2 l 0).length l.length o) (hx : x.length = (rd_L2 l 0).length) (hv : valid l x 0) : cf l cut o o.length 0 ≤ cf l cut x x.length 0 := by
  by_cases h : (rd_L2 l 0).length = 0
  · rw [ho, hx, h]; simp [cf]
  · obtain ⟨n, hn⟩ : ∃ n, (rd_L2 l 0).length = n + 1 := ⟨(rd_L2 l 0).length - 1, by omega⟩
    have hon : o.length = n + 1 := by omega
    have hxn : x.length = n + 1 := by omega
    have up := upper hw hc0 hc1 o ho hg n (by omega)
    have lo := lower hw hc0 hc1 x hx hv n (by omega)
    obtain ⟨x0, x1⟩ := hv 0 (by omega) (by omega)
    have hm := (hg 0 (by omega) (by omega)).2 (rd x 0) x0 x1
    rw [if_neg (by omega)] at hm
    rw [hn] at up lo hm
    rw [show (o.length : Int) - (n + 1) = 0 by omega, show (o.length : Int) - n = 1 by omega] at up
    rw [show (x.length : Int) - (n + 1) = 0 by omega, show (x.length : Int) - n = 1 by omega] at lo
    have e1 : cf l cut o (n + 1) 0 = V l (rd o 0) 0 + cf l cut o n 1 := by simp [cf]
    have e2 : cf l cut x (n + 1) 0 = V l (rd x 0) 0 + cf l cut x n 1 := by simp [cf]
    rw [hon, hxn, e1, e2]
    omega
theorem cf_nonneg (o : List Int) (ho : o.length = (rd_L2 l 0).length) (hv : valid l o 0) : ∀ (d : Nat) (i : Int), 0 ≤ i → (o.length : Int) - i = d → 0 ≤ cf l cut o d i
  | 0, i, h0, hm => by simp [cf]
  | d + 1, i, h0, hm => by
    have := cf_nonneg o ho hv d (i + 1) (by omega) (by omega)
    obtain ⟨v0, v1⟩ := hv i (by omega) (by omega)
    obtain ⟨a, b, _⟩ := takes_v hw v0 v1 h0 (by omega)
    simp only [cf]
    split <;> omega
end
end Go.Proofs.Ytdbmllbphbhfpaa.PureSp
