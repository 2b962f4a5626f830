-- By this session's own program over the kit's print; every row is checked by Lean.
import Derived.Test.YtdbmllbphbhfpaaPSp0
import Derived.Test.YtdbmllbphbhfpaaPSp1
namespace Go.Proofs.Ytdbmllbphbhfpaa.PSp
open Go.RowKit Go.Proofs.YtdbmllbphbhfpaaW.PrintWords Go.Proofs.YtdbmllbphbhfpaaW.PrintLast Go.Proofs.YtdbmllbphbhfpaaW.PrintMore
attribute [local go_sem] max2_int min2_int max_two min_two max_three min_three max_four min_four   -- for this text's walks alone
set_option linter.unusedVariables false
set_option linter.unusedSimpArgs false

/-! ### spec_BestSplice: function 9 -/
mutual
def spec_BestSplice.j0 : Nat → List (List Int) → Int → List Int → Bool → Option (List Int × Bool)
  | 0, _, _, _, _ => none
  | k + 1, x0, x1, x6, x27 => if x27 = true then (some (x6, false)) else (if 0 < (x0.length : Int) then (if 0 ≤ (wrap64 ((wrap64 (((rd_L2 x0 0).length : Int) + 1)) * (x0.length : Int))) then (if (wrap64 ((wrap64 (((rd_L2 x0 0).length : Int) + 1)) * (x0.length : Int)) : Int).toNat ≤ 35184372088832 then (spec_BestSplice.l0 k x0 x1 x6 ((rd_L2 x0 0).length : Int) (List.replicate (wrap64 ((wrap64 (((rd_L2 x0 0).length : Int) + 1)) * (x0.length : Int)) : Int).toNat 0) (wrap64 (((rd_L2 x0 0).length : Int) - 1))) else (none)) else (none)) else (none))
def spec_BestSplice.l0 : Nat → List (List Int) → Int → List Int → Int → List Int → Int → Option (List Int × Bool)
  | 0, _, _, _, _, _, _ => none
  | k + 1, x0, x1, x6, x7, x8, x9 => if x9 ≥ 0 then (spec_BestSplice.l1 k x0 x1 x6 x7 x8 x9 0) else (spec_BestSplice.l3 k x0 x1 x6 x7 x8 0)
def spec_BestSplice.l1 : Nat → List (List Int) → Int → List Int → Int → List Int → Int → Int → Option (List Int × Bool)
  | 0, _, _, _, _, _, _, _ => none
  | k + 1, x0, x1, x6, x7, x8, x9, x10 => if x10 < (x0.length : Int) then (spec_BestSplice.l2 k x0 x1 x6 x7 x8 x9 x10 1000000000 0) else (spec_BestSplice.l0 k x0 x1 x6 x7 x8 (wrap64 (x9 - 1)))
def spec_BestSplice.l2 : Nat → List (List Int) → Int → List Int → Int → List Int → Int → Int → Int → Int → Option (List Int × Bool)
  | 0, _, _, _, _, _, _, _, _, _ => none
  | k + 1, x0, x1, x6, x7, x8, x9, x10, x11, x12 => if x12 < (x0.length : Int) then (spec_BestSplice.j4 k x0 x1 x6 x7 x8 x9 x10 x11 x12 (decide ((wrap64 (x9 + 1)) < x7))) else (spec_BestSplice.j4 k x0 x1 x6 x7 x8 x9 x10 x11 x12 false)
def spec_BestSplice.j4 : Nat → List (List Int) → Int → List Int → Int → List Int → Int → Int → Int → Int → Bool → Option (List Int × Bool)
  | 0, _, _, _, _, _, _, _, _, _, _ => none
  | k + 1, x0, x1, x6, x7, x8, x9, x10, x11, x12, x60 => if x60 = true then (if 0 ≤ (wrap64 ((wrap64 ((wrap64 (x9 + 1)) * (x0.length : Int))) + x12)) then (if (wrap64 ((wrap64 ((wrap64 (x9 + 1)) * (x0.length : Int))) + x12)) < (x8.length : Int) then (if x12 = x10 then ((spec_Min.f x11 (rd x8 (wrap64 ((wrap64 ((wrap64 (x9 + 1)) * (x0.length : Int))) + x12)))).bind fun t119 => (spec_BestSplice.l2 k x0 x1 x6 x7 x8 x9 x10 t119 (wrap64 (x12 + 1)))) else ((spec_Min.f x11 (wrap64 ((rd x8 (wrap64 ((wrap64 ((wrap64 (x9 + 1)) * (x0.length : Int))) + x12))) + x1))).bind fun t120 => (spec_BestSplice.l2 k x0 x1 x6 x7 x8 x9 x10 t120 (wrap64 (x12 + 1))))) else (none)) else (none)) else (if (wrap64 (x9 + 1)) = x7 then (if 0 ≤ x10 then (if x10 < (x0.length : Int) then (if 0 ≤ x9 then (if x9 < ((rd_L2 x0 x10).length : Int) then (if 0 ≤ (wrap64 ((wrap64 (x9 * (x0.length : Int))) + x10)) then (if (wrap64 ((wrap64 (x9 * (x0.length : Int))) + x10)) < (x8.length : Int) then (spec_BestSplice.l1 k x0 x1 x6 x7 (x8.set ((wrap64 ((wrap64 (x9 * (x0.length : Int))) + x10)) : Int).toNat (wrap64 ((rd (rd_L2 x0 x10) x9) + 0))) x9 (wrap64 (x10 + 1))) else (none)) else (none)) else (none)) else (none)) else (none)) else (none)) else (if 0 ≤ x10 then (if x10 < (x0.length : Int) then (if 0 ≤ x9 then (if x9 < ((rd_L2 x0 x10).length : Int) then (if 0 ≤ (wrap64 ((wrap64 (x9 * (x0.length : Int))) + x10)) then (if (wrap64 ((wrap64 (x9 * (x0.length : Int))) + x10)) < (x8.length : Int) then (spec_BestSplice.l1 k x0 x1 x6 x7 (x8.set ((wrap64 ((wrap64 (x9 * (x0.length : Int))) + x10)) : Int).toNat (wrap64 ((rd (rd_L2 x0 x10) x9) + x11))) x9 (wrap64 (x10 + 1))) else (none)) else (none)) else (none)) else (none)) else (none)) else (none)))
def spec_BestSplice.l3 : Nat → List (List Int) → Int → List Int → Int → List Int → Int → Option (List Int × Bool)
  | 0, _, _, _, _, _, _ => none
  | k + 1, x0, x1, x6, x7, x8, x14 => if x14 < x7 then (spec_BestSplice.l4 k x0 x1 x6 x7 x8 x14 (-1) 0 0) else (some (x6, true))
def spec_BestSplice.l4 : Nat → List (List Int) → Int → List Int → Int → List Int → Int → Int → Int → Int → Option (List Int × Bool)
  | 0, _, _, _, _, _, _, _, _, _ => none
  | k + 1, x0, x1, x6, x7, x8, x14, x15, x16, x17 => if x17 < (x0.length : Int) then (if 0 ≤ (wrap64 ((wrap64 (x14 * (x0.length : Int))) + x17)) then (if (wrap64 ((wrap64 (x14 * (x0.length : Int))) + x17)) < (x8.length : Int) then (if x14 > 0 then (if 0 ≤ (wrap64 (x14 - 1)) then (if (wrap64 (x14 - 1)) < (x6.length : Int) then (spec_BestSplice.j7 k x0 x1 x6 x7 x8 x14 x15 x16 x17 (rd x8 (wrap64 ((wrap64 (x14 * (x0.length : Int))) + x17))) (x17 != (rd x6 (wrap64 (x14 - 1))))) else (none)) else (none)) else (spec_BestSplice.j7 k x0 x1 x6 x7 x8 x14 x15 x16 x17 (rd x8 (wrap64 ((wrap64 (x14 * (x0.length : Int))) + x17))) false)) else (none)) else (none)) else (if x6.length < 17592186044416 then (spec_BestSplice.l3 k x0 x1 (x6 ++ [x15]) x7 x8 (wrap64 (x14 + 1))) else (none))
def spec_BestSplice.j7 : Nat → List (List Int) → Int → List Int → Int → List Int → Int → Int → Int → Int → Int → Bool → Option (List Int × Bool)
  | 0, _, _, _, _, _, _, _, _, _, _, _ => none
  | k + 1, x0, x1, x6, x7, x8, x14, x15, x16, x17, x18, x133 => if x133 = true then (if x15 < 0 then (spec_BestSplice.l4 k x0 x1 x6 x7 x8 x14 x17 (wrap64 (x18 + x1)) (wrap64 (x17 + 1))) else (if (wrap64 (x18 + x1)) < x16 then (spec_BestSplice.l4 k x0 x1 x6 x7 x8 x14 x17 (wrap64 (x18 + x1)) (wrap64 (x17 + 1))) else (spec_BestSplice.l4 k x0 x1 x6 x7 x8 x14 x15 x16 (wrap64 (x17 + 1))))) else (if x15 < 0 then (spec_BestSplice.l4 k x0 x1 x6 x7 x8 x14 x17 x18 (wrap64 (x17 + 1))) else (if x18 < x16 then (spec_BestSplice.l4 k x0 x1 x6 x7 x8 x14 x17 x18 (wrap64 (x17 + 1))) else (spec_BestSplice.l4 k x0 x1 x6 x7 x8 x14 x15 x16 (wrap64 (x17 + 1)))))
end
def spec_BestSplice.f (k : Nat) (l0 : List (List Int)) (a1 : Int) : Option (List Int × Bool) := (some (([] : List Int) : List Int)).bind fun y109 => ((spec_AreTakes.f k l0).bind fun t112 => (if t112 = true then ((spec_l1In.f a1 0 999).bind fun t113 => (spec_BestSplice.j0 k l0 a1 y109 (!t113))) else (spec_BestSplice.j0 k l0 a1 y109 true)))
theorem spec_BestSplice.mono_l : ∀ k, (∀ y0 y1 y2 y3, LeO (spec_BestSplice.j0 k y0 y1 y2 y3) (spec_BestSplice.j0 (k + 1) y0 y1 y2 y3)) ∧ (∀ y0 y1 y2 y3 y4 y5, LeO (spec_BestSplice.l0 k y0 y1 y2 y3 y4 y5) (spec_BestSplice.l0 (k + 1) y0 y1 y2 y3 y4 y5)) ∧ (∀ y0 y1 y2 y3 y4 y5 y6, LeO (spec_BestSplice.l1 k y0 y1 y2 y3 y4 y5 y6) (spec_BestSplice.l1 (k + 1) y0 y1 y2 y3 y4 y5 y6)) ∧ (∀ y0 y1 y2 y3 y4 y5 y6 y7 y8, LeO (spec_BestSplice.l2 k y0 y1 y2 y3 y4 y5 y6 y7 y8) (spec_BestSplice.l2 (k + 1) y0 y1 y2 y3 y4 y5 y6 y7 y8)) ∧ (∀ y0 y1 y2 y3 y4 y5 y6 y7 y8 y9, LeO (spec_BestSplice.j4 k y0 y1 y2 y3 y4 y5 y6 y7 y8 y9) (spec_BestSplice.j4 (k + 1) y0 y1 y2 y3 y4 y5 y6 y7 y8 y9)) ∧ (∀ y0 y1 y2 y3 y4 y5, LeO (spec_BestSplice.l3 k y0 y1 y2 y3 y4 y5) (spec_BestSplice.l3 (k + 1) y0 y1 y2 y3 y4 y5)) ∧ (∀ y0 y1 y2 y3 y4 y5 y6 y7 y8, LeO (spec_BestSplice.l4 k y0 y1 y2 y3 y4 y5 y6 y7 y8) (spec_BestSplice.l4 (k + 1) y0 y1 y2 y3 y4 y5 y6 y7 y8)) ∧ (∀ y0 y1 y2 y3 y4 y5 y6 y7 y8 y9 y10, LeO (spec_BestSplice.j7 k y0 y1 y2 y3 y4 y5 y6 y7 y8 y9 y10) (spec_BestSplice.j7 (k + 1) y0 y1 y2 y3 y4 y5 y6 y7 y8 y9 y10))
  | 0 => ⟨fun _ _ _ _ r h => by simp [spec_BestSplice.j0] at h, fun _ _ _ _ _ _ r h => by simp [spec_BestSplice.l0] at h, fun _ _ _ _ _ _ _ r h => by simp [spec_BestSplice.l1] at h, fun _ _ _ _ _ _ _ _ _ r h => by simp [spec_BestSplice.l2] at h, fun _ _ _ _ _ _ _ _ _ _ r h => by simp [spec_BestSplice.j4] at h, fun _ _ _ _ _ _ r h => by simp [spec_BestSplice.l3] at h, fun _ _ _ _ _ _ _ _ _ r h => by simp [spec_BestSplice.l4] at h, fun _ _ _ _ _ _ _ _ _ _ _ r h => by simp [spec_BestSplice.j7] at h⟩
  | k + 1 => by
    obtain ⟨ih0, ih1, ih2, ih3, ih4, ih5, ih6, ih7⟩ := spec_BestSplice.mono_l k
    refine ⟨?_, ?_, ?_, ?_, ?_, ?_, ?_, ?_⟩
    · intro y0 y1 y2 y3
      unfold spec_BestSplice.j0
      repeat' first
      | (with_reducible exact ih0 _ _ _ _)
      | (with_reducible exact ih1 _ _ _ _ _ _)
      | (with_reducible exact ih2 _ _ _ _ _ _ _)
      | (with_reducible exact ih3 _ _ _ _ _ _ _ _ _)
      | (with_reducible exact ih4 _ _ _ _ _ _ _ _ _ _)
      | (with_reducible exact ih5 _ _ _ _ _ _)
      | (with_reducible exact ih6 _ _ _ _ _ _ _ _ _)
      | (with_reducible exact ih7 _ _ _ _ _ _ _ _ _ _ _)
      | (with_reducible exact spec_AreTakes.mono _ _)
      | (with_reducible exact LeO.refl _)
      | (with_reducible exact LeO.none _)
      | (with_reducible refine LeO.ite ?_ ?_)
      | (with_reducible refine LeO.bind ?_ (fun _ => ?_))
      | exact ih0 _ _ _ _
      | exact ih1 _ _ _ _ _ _
      | exact ih2 _ _ _ _ _ _ _
      | exact ih3 _ _ _ _ _ _ _ _ _
      | exact ih4 _ _ _ _ _ _ _ _ _ _
      | exact ih5 _ _ _ _ _ _
      | exact ih6 _ _ _ _ _ _ _ _ _
      | exact ih7 _ _ _ _ _ _ _ _ _ _ _
      | exact spec_AreTakes.mono _ _
      | exact LeO.none _
      | refine LeO.ite ?_ ?_
      | refine LeO.bind ?_ (fun _ => ?_)
    · intro y0 y1 y2 y3 y4 y5
      unfold spec_BestSplice.l0
      repeat' first
      | (with_reducible exact ih0 _ _ _ _)
      | (with_reducible exact ih1 _ _ _ _ _ _)
      | (with_reducible exact ih2 _ _ _ _ _ _ _)
      | (with_reducible exact ih3 _ _ _ _ _ _ _ _ _)
      | (with_reducible exact ih4 _ _ _ _ _ _ _ _ _ _)
      | (with_reducible exact ih5 _ _ _ _ _ _)
      | (with_reducible exact ih6 _ _ _ _ _ _ _ _ _)
      | (with_reducible exact ih7 _ _ _ _ _ _ _ _ _ _ _)
      | (with_reducible exact spec_AreTakes.mono _ _)
      | (with_reducible exact LeO.refl _)
      | (with_reducible exact LeO.none _)
      | (with_reducible refine LeO.ite ?_ ?_)
      | (with_reducible refine LeO.bind ?_ (fun _ => ?_))
      | exact ih0 _ _ _ _
      | exact ih1 _ _ _ _ _ _
      | exact ih2 _ _ _ _ _ _ _
      | exact ih3 _ _ _ _ _ _ _ _ _
      | exact ih4 _ _ _ _ _ _ _ _ _ _
      | exact ih5 _ _ _ _ _ _
      | exact ih6 _ _ _ _ _ _ _ _ _
      | exact ih7 _ _ _ _ _ _ _ _ _ _ _
      | exact spec_AreTakes.mono _ _
      | exact LeO.none _
      | refine LeO.ite ?_ ?_
      | refine LeO.bind ?_ (fun _ => ?_)
    · intro y0 y1 y2 y3 y4 y5 y6
      unfold spec_BestSplice.l1
      repeat' first
      | (with_reducible exact ih0 _ _ _ _)
      | (with_reducible exact ih1 _ _ _ _ _ _)
      | (with_reducible exact ih2 _ _ _ _ _ _ _)
      | (with_reducible exact ih3 _ _ _ _ _ _ _ _ _)
      | (with_reducible exact ih4 _ _ _ _ _ _ _ _ _ _)
      | (with_reducible exact ih5 _ _ _ _ _ _)
      | (with_reducible exact ih6 _ _ _ _ _ _ _ _ _)
      | (with_reducible exact ih7 _ _ _ _ _ _ _ _ _ _ _)
      | (with_reducible exact spec_AreTakes.mono _ _)
      | (with_reducible exact LeO.refl _)
      | (with_reducible exact LeO.none _)
      | (with_reducible refine LeO.ite ?_ ?_)
      | (with_reducible refine LeO.bind ?_ (fun _ => ?_))
      | exact ih0 _ _ _ _
      | exact ih1 _ _ _ _ _ _
      | exact ih2 _ _ _ _ _ _ _
      | exact ih3 _ _ _ _ _ _ _ _ _
      | exact ih4 _ _ _ _ _ _ _ _ _ _
      | exact ih5 _ _ _ _ _ _
      | exact ih6 _ _ _ _ _ _ _ _ _
      | exact ih7 _ _ _ _ _ _ _ _ _ _ _
      | exact spec_AreTakes.mono _ _
      | exact LeO.none _
      | refine LeO.ite ?_ ?_
      | refine LeO.bind ?_ (fun _ => ?_)
    · intro y0 y1 y2 y3 y4 y5 y6 y7 y8
      unfold spec_BestSplice.l2
      repeat' first
      | (with_reducible exact ih0 _ _ _ _)
      | (with_reducible exact ih1 _ _ _ _ _ _)
      | (with_reducible exact ih2 _ _ _ _ _ _ _)
      | (with_reducible exact ih3 _ _ _ _ _ _ _ _ _)
      | (with_reducible exact ih4 _ _ _ _ _ _ _ _ _ _)
      | (with_reducible exact ih5 _ _ _ _ _ _)
      | (with_reducible exact ih6 _ _ _ _ _ _ _ _ _)
      | (with_reducible exact ih7 _ _ _ _ _ _ _ _ _ _ _)
      | (with_reducible exact spec_AreTakes.mono _ _)
      | (with_reducible exact LeO.refl _)
      | (with_reducible exact LeO.none _)
      | (with_reducible refine LeO.ite ?_ ?_)
      | (with_reducible refine LeO.bind ?_ (fun _ => ?_))
      | exact ih0 _ _ _ _
      | exact ih1 _ _ _ _ _ _
      | exact ih2 _ _ _ _ _ _ _
      | exact ih3 _ _ _ _ _ _ _ _ _
      | exact ih4 _ _ _ _ _ _ _ _ _ _
      | exact ih5 _ _ _ _ _ _
      | exact ih6 _ _ _ _ _ _ _ _ _
      | exact ih7 _ _ _ _ _ _ _ _ _ _ _
      | exact spec_AreTakes.mono _ _
      | exact LeO.none _
      | refine LeO.ite ?_ ?_
      | refine LeO.bind ?_ (fun _ => ?_)
    · intro y0 y1 y2 y3 y4 y5 y6 y7 y8 y9
      unfold spec_BestSplice.j4
      repeat' first
      | (with_reducible exact ih0 _ _ _ _)
      | (with_reducible exact ih1 _ _ _ _ _ _)
      | (with_reducible exact ih2 _ _ _ _ _ _ _)
      | (with_reducible exact ih3 _ _ _ _ _ _ _ _ _)
      | (with_reducible exact ih4 _ _ _ _ _ _ _ _ _ _)
      | (with_reducible exact ih5 _ _ _ _ _ _)
      | (with_reducible exact ih6 _ _ _ _ _ _ _ _ _)
      | (with_reducible exact ih7 _ _ _ _ _ _ _ _ _ _ _)
      | (with_reducible exact spec_AreTakes.mono _ _)
      | (with_reducible exact LeO.refl _)
      | (with_reducible exact LeO.none _)
      | (with_reducible refine LeO.ite ?_ ?_)
      | (with_reducible refine LeO.bind ?_ (fun _ => ?_))
      | exact ih0 _ _ _ _
      | exact ih1 _ _ _ _ _ _
      | exact ih2 _ _ _ _ _ _ _
      | exact ih3 _ _ _ _ _ _ _ _ _
      | exact ih4 _ _ _ _ _ _ _ _ _ _
      | exact ih5 _ _ _ _ _ _
      | exact ih6 _ _ _ _ _ _ _ _ _
      | exact ih7 _ _ _ _ _ _ _ _ _ _ _
      | exact spec_AreTakes.mono _ _
      | exact LeO.none _
      | refine LeO.ite ?_ ?_
      | refine LeO.bind ?_ (fun _ => ?_)
    · intro y0 y1 y2 y3 y4 y5
      unfold spec_BestSplice.l3
      repeat' first
      | (with_reducible exact ih0 _ _ _ _)
      | (with_reducible exact ih1 _ _ _ _ _ _)
      | (with_reducible exact ih2 _ _ _ _ _ _ _)
      | (with_reducible exact ih3 _ _ _ _ _ _ _ _ _)
      | (with_reducible exact ih4 _ _ _ _ _ _ _ _ _ _)
      | (with_reducible exact ih5 _ _ _ _ _ _)
      | (with_reducible exact ih6 _ _ _ _ _ _ _ _ _)
      | (with_reducible exact ih7 _ _ _ _ _ _ _ _ _ _ _)
      | (with_reducible exact spec_AreTakes.mono _ _)
      | (with_reducible exact LeO.refl _)
      | (with_reducible exact LeO.none _)
      | (with_reducible refine LeO.ite ?_ ?_)
      | (with_reducible refine LeO.bind ?_ (fun _ => ?_))
      | exact ih0 _ _ _ _
      | exact ih1 _ _ _ _ _ _
      | exact ih2 _ _ _ _ _ _ _
      | exact ih3 _ _ _ _ _ _ _ _ _
      | exact ih4 _ _ _ _ _ _ _ _ _ _
      | exact ih5 _ _ _ _ _ _
      | exact ih6 _ _ _ _ _ _ _ _ _
      | exact ih7 _ _ _ _ _ _ _ _ _ _ _
      | exact spec_AreTakes.mono _ _
      | exact LeO.none _
      | refine LeO.ite ?_ ?_
      | refine LeO.bind ?_ (fun _ => ?_)
    · intro y0 y1 y2 y3 y4 y5 y6 y7 y8
      unfold spec_BestSplice.l4
      repeat' first
      | (with_reducible exact ih0 _ _ _ _)
      | (with_reducible exact ih1 _ _ _ _ _ _)
      | (with_reducible exact ih2 _ _ _ _ _ _ _)
      | (with_reducible exact ih3 _ _ _ _ _ _ _ _ _)
      | (with_reducible exact ih4 _ _ _ _ _ _ _ _ _ _)
      | (with_reducible exact ih5 _ _ _ _ _ _)
      | (with_reducible exact ih6 _ _ _ _ _ _ _ _ _)
      | (with_reducible exact ih7 _ _ _ _ _ _ _ _ _ _ _)
      | (with_reducible exact spec_AreTakes.mono _ _)
      | (with_reducible exact LeO.refl _)
      | (with_reducible exact LeO.none _)
      | (with_reducible refine LeO.ite ?_ ?_)
      | (with_reducible refine LeO.bind ?_ (fun _ => ?_))
      | exact ih0 _ _ _ _
      | exact ih1 _ _ _ _ _ _
      | exact ih2 _ _ _ _ _ _ _
      | exact ih3 _ _ _ _ _ _ _ _ _
      | exact ih4 _ _ _ _ _ _ _ _ _ _
      | exact ih5 _ _ _ _ _ _
      | exact ih6 _ _ _ _ _ _ _ _ _
      | exact ih7 _ _ _ _ _ _ _ _ _ _ _
      | exact spec_AreTakes.mono _ _
      | exact LeO.none _
      | refine LeO.ite ?_ ?_
      | refine LeO.bind ?_ (fun _ => ?_)
    · intro y0 y1 y2 y3 y4 y5 y6 y7 y8 y9 y10
      unfold spec_BestSplice.j7
      repeat' first
      | (with_reducible exact ih0 _ _ _ _)
      | (with_reducible exact ih1 _ _ _ _ _ _)
      | (with_reducible exact ih2 _ _ _ _ _ _ _)
      | (with_reducible exact ih3 _ _ _ _ _ _ _ _ _)
      | (with_reducible exact ih4 _ _ _ _ _ _ _ _ _ _)
      | (with_reducible exact ih5 _ _ _ _ _ _)
      | (with_reducible exact ih6 _ _ _ _ _ _ _ _ _)
      | (with_reducible exact ih7 _ _ _ _ _ _ _ _ _ _ _)
      | (with_reducible exact spec_AreTakes.mono _ _)
      | (with_reducible exact LeO.refl _)
      | (with_reducible exact LeO.none _)
      | (with_reducible refine LeO.ite ?_ ?_)
      | (with_reducible refine LeO.bind ?_ (fun _ => ?_))
      | exact ih0 _ _ _ _
      | exact ih1 _ _ _ _ _ _
      | exact ih2 _ _ _ _ _ _ _
      | exact ih3 _ _ _ _ _ _ _ _ _
      | exact ih4 _ _ _ _ _ _ _ _ _ _
      | exact ih5 _ _ _ _ _ _
      | exact ih6 _ _ _ _ _ _ _ _ _
      | exact ih7 _ _ _ _ _ _ _ _ _ _ _
      | exact spec_AreTakes.mono _ _
      | exact LeO.none _
      | refine LeO.ite ?_ ?_
      | refine LeO.bind ?_ (fun _ => ?_)
theorem spec_BestSplice.mono : ∀ a0 a1 k, LeO (spec_BestSplice.f k a0 a1) (spec_BestSplice.f (k + 1) a0 a1) := by
  intro a0 a1 k
  obtain ⟨ih0, ih1, ih2, ih3, ih4, ih5, ih6, ih7⟩ := spec_BestSplice.mono_l k
  unfold spec_BestSplice.f
  repeat' first
      | (with_reducible exact ih0 _ _ _ _)
      | (with_reducible exact ih1 _ _ _ _ _ _)
      | (with_reducible exact ih2 _ _ _ _ _ _ _)
      | (with_reducible exact ih3 _ _ _ _ _ _ _ _ _)
      | (with_reducible exact ih4 _ _ _ _ _ _ _ _ _ _)
      | (with_reducible exact ih5 _ _ _ _ _ _)
      | (with_reducible exact ih6 _ _ _ _ _ _ _ _ _)
      | (with_reducible exact ih7 _ _ _ _ _ _ _ _ _ _ _)
      | (with_reducible exact spec_AreTakes.mono _ _)
      | (with_reducible exact LeO.refl _)
      | (with_reducible exact LeO.none _)
      | (with_reducible refine LeO.ite ?_ ?_)
      | (with_reducible refine LeO.bind ?_ (fun _ => ?_))
      | exact ih0 _ _ _ _
      | exact ih1 _ _ _ _ _ _
      | exact ih2 _ _ _ _ _ _ _
      | exact ih3 _ _ _ _ _ _ _ _ _
      | exact ih4 _ _ _ _ _ _ _ _ _ _
      | exact ih5 _ _ _ _ _ _
      | exact ih6 _ _ _ _ _ _ _ _ _
      | exact ih7 _ _ _ _ _ _ _ _ _ _ _
      | exact spec_AreTakes.mono _ _
      | exact LeO.none _
      | refine LeO.ite ?_ ?_
      | refine LeO.bind ?_ (fun _ => ?_)
set_option maxHeartbeats 8000000 in
set_option maxRecDepth 100000 in
theorem spec_BestSplice.calls (k : Nat) (A0 : Option Addr) (c0 : Nat) (l0 : List (List Int)) (a1 : Int) (r1 : List Int) (r2 : Bool) (w : World) (hr0 : Kd.C (Kd.slice 3 (Kd.int .i64)) w A0 l0.length l0) (hc0 : l0.length ≤ c0) (h : spec_BestSplice.f k l0 a1 = some (r1, r2)) :
    Calls Try.prog 9 #[.slice A0 l0.length c0, .int .i64 a1] w fun e w' => ∃ v0_ : Value, e = .returned (.tuple #[v0_, .bool r2]) ∧ Kd.R (Kd.int .i64) 3 w' w.heap.size (fun _ => True) v0_ r1 ∧ Below w.heap.size w w' := by
  have HR0 := Aside0.mk hr0
  have HC0 := Aside0.mk hc0
  clear hr0 hc0
  have HB := Aside0.mk (Below.refl w.heap.size w)
  have H : ((some (([] : List Int) : List Int)).bind fun y109 => ((spec_AreTakes.f k l0).bind fun t112 => (if t112 = true then ((spec_l1In.f a1 0 999).bind fun t113 => (spec_BestSplice.j0 k l0 a1 y109 (!t113))) else (spec_BestSplice.j0 k l0 a1 y109 true)))) = some (r1, r2) := h
  clear h
  obtain ⟨y109, hy109⟩ : ∃ y_ : List Int, y_ = (([] : List Int)) := ⟨_, rfl⟩
  replace H : ((spec_AreTakes.f k l0).bind fun t112 => (if t112 = true then ((spec_l1In.f a1 0 999).bind fun t113 => (spec_BestSplice.j0 k l0 a1 y109 (!t113))) else (spec_BestSplice.j0 k l0 a1 y109 true))) = some (r1, r2) := by first | (rw [hy109]; with_reducible exact H) | (have H2_ := (Option.bind_some _ _).symm.trans H; rw [hy109]; with_reducible exact H2_) | (have H2_ := (Option.bind_some _ _).symm.trans H; with_reducible exact H2_) | with_reducible exact H | (rw [hy109]; exact H) | exact H
  have Ny109 := Aside0.mk hy109
  clear hy109
  have HC3 := Aside0.mk H
  clear H
  go_enter Try.func9, Try.ntmps9
  go_upto_region 2 with (first | ((with_reducible refine gate_dst (N := 19) rfl ?_); refine Kd.R_lit (Kd.int .i64) _ 3 ?hg (N := 19) ?hd (xs := ([] : List Int)) (inner := []) (ok := fun _ => True) (okp := fun _ => True) ?hr ?hp (fun _ hk => hk) trivial (Below.refl _ _) (Nat.le_refl _) (by simp) ?_; (case hd => rfl); (case hg => rfl); (case hr => first | (go_simp; done) | (go_simp; rfl)); (case hp => exact (Reps.none _ _)); intro v110 w4 ho5 hb hg_ hnew_; clear hg_ hnew_; (first | rw [← Ny109.out] at ho5 | (simp only [Int.reduceToNat] at ho5; rw [← Ny109.out] at ho5)); have n0_ := Aside0.mk (Kd.R_lower ho5 (below_size (by repeat (first | (with_reducible first | exact HB.out | apply below_alloc | apply pw_below_drewN | apply below_drew1) | exact HB.out)))); have n1_ := Aside0.mk (below_step (by repeat (first | (with_reducible first | exact HB.out | apply below_alloc | apply pw_below_drewN | apply below_drew1) | exact HB.out)) hb); clear HB; have HO111 := n0_; have HB := n1_; clear n0_ n1_; clear hb ho5))
  (try simp only [Act.put, List.setIfInBounds_toArray, List.set_cons_zero, List.set_cons_succ])
  go_cut [27] (fun v27 wc => ∃ (kq : Nat) (x27_2 : Bool), v27 = .bool x27_2 ∧ Aside0 (spec_BestSplice.j0 kq l0 a1 y109 x27_2 = some (r1, r2)) ∧ Aside0 (kq ≤ k) ∧ Aside0 (Kd.R (Kd.int .i64) 3 wc w.heap.size (fun _ => True) v110 y109) ∧ Aside0 (Below w.heap.size w wc))
  case first =>
    have H := HC3.out
    clear HC3
    replace H := Option.bind_eq_some_iff.mp H
    obtain ⟨t112, A60, H⟩ := H
    replace H : (if t112 = true then ((spec_l1In.f a1 0 999).bind fun t113 => (spec_BestSplice.j0 k l0 a1 y109 (!t113))) else (spec_BestSplice.j0 k l0 a1 y109 true)) = some (r1, r2) := H
    have A6 := Aside0.mk A60
    clear A60
    by_cases c7 : t112 = true
    · subst c7
      have H1 : ((spec_l1In.f a1 0 999).bind fun t113 => (spec_BestSplice.j0 k l0 a1 y109 (!t113))) = some (r1, r2) := by rw [if_pos rfl] at H; exact H
      clear H
      have H := H1
      clear H1
      replace H := Option.bind_eq_some_iff.mp H
      obtain ⟨t113, A80, H⟩ := H
      replace H : (spec_BestSplice.j0 k l0 a1 y109 (!t113)) = some (r1, r2) := H
      have A8 := Aside0.mk A80
      clear A80
      have H' := Aside0.mk H
      clear H
      go_wp2_with (first | ((with_reducible refine gate_callee (f := 38) rfl ?_); refine goesL_ (some 21) rfl rfl Try.func38 (by kernel_rfl) rfl #[.slice A0 l0.length c0] rfl (by (try simp only [List.map_toArray, List.map_cons, List.map_nil]); first | done | rfl | (simp only [List.length_drop, List.length_take]; rfl)) ?_; (with_reducible refine (spec_AreTakes.calls k _ _ l0 true _ ?side1 ?side2 A6.out).mono ?_); (case side1 => repeat (first | exact (Kd.C_below HR0.out HB.out) | (with_reducible refine Kd.C_alloc ?_ _) | (with_reducible refine Kd.C_drewN ?_ _) | (with_reducible refine Kd.C_drew ?_))); (case side2 => exact HC0.out); rintro e w' ⟨rfl, ⟨nd, rfl⟩⟩; refine ⟨_, rfl, ?_⟩) | (go_at_call 39; (with_reducible refine (spec_l1In.calls a1 0 999 t113 _ A8.out).mono ?_); rintro e w' ⟨rfl, ⟨nd, rfl⟩⟩))
      go_meet
      case rel => exact ⟨_, (!t113), (by first | rfl | (simp; done) | (simp [*]; done)), H', ⟨by first | omega | exact Nat.le_refl _⟩, ⟨by (with_reducible repeat (first | apply Kd.R_alloc | apply Kd.R_drewN | apply Kd.R_drew)); exact HO111.out⟩, ⟨by repeat (first | (with_reducible first | exact HB.out | apply below_alloc | apply pw_below_drewN | apply below_drew1) | exact HB.out)⟩⟩
    · replace c7 := Bool.eq_false_iff.mpr c7
      subst c7
      have H1 : (spec_BestSplice.j0 k l0 a1 y109 true) = some (r1, r2) := by rw [if_neg (show ¬ (false = true) by decide)] at H; exact H
      clear H
      have H := H1
      clear H1
      have H' := Aside0.mk H
      clear H
      go_wp2_with (first | ((with_reducible refine gate_callee (f := 38) rfl ?_); refine goesL_ (some 21) rfl rfl Try.func38 (by kernel_rfl) rfl #[.slice A0 l0.length c0] rfl (by (try simp only [List.map_toArray, List.map_cons, List.map_nil]); first | done | rfl | (simp only [List.length_drop, List.length_take]; rfl)) ?_; (with_reducible refine (spec_AreTakes.calls k _ _ l0 false _ ?side1 ?side2 A6.out).mono ?_); (case side1 => repeat (first | exact (Kd.C_below HR0.out HB.out) | (with_reducible refine Kd.C_alloc ?_ _) | (with_reducible refine Kd.C_drewN ?_ _) | (with_reducible refine Kd.C_drew ?_))); (case side2 => exact HC0.out); rintro e w' ⟨rfl, ⟨nd, rfl⟩⟩; refine ⟨_, rfl, ?_⟩))
      go_meet
      case rel => exact ⟨_, (true), (by first | rfl | (simp; done) | (simp [*]; done)), H', ⟨by first | omega | exact Nat.le_refl _⟩, ⟨by (with_reducible repeat (first | apply Kd.R_alloc | apply Kd.R_drewN | apply Kd.R_drew)); exact HO111.out⟩, ⟨by repeat (first | (with_reducible first | exact HB.out | apply below_alloc | apply pw_below_drewN | apply below_drew1) | exact HB.out)⟩⟩
  case rest =>
    clear HC3
    try clear p2
    try clear c3
    try clear c7
    obtain ⟨kq, x27_2, rfl, HA, HJ2, HO_6, HB⟩ := hcut
    cases kq with
    | zero => exact absurd HA.out (by simp [spec_BestSplice.j0])
    | succ kj2 =>
      have H := HA.out
      clear HA
      simp only [spec_BestSplice.j0] at H
      by_cases c9 : x27_2 = true
      · subst c9
        have H1 : (some (y109, false)) = some (r1, r2) := by rw [if_pos rfl] at H; exact H
        clear H
        have H := H1
        clear H1
        simp only [Option.some.injEq, Prod.mk.injEq] at H
        obtain ⟨rfl, rfl⟩ := H
        go_wp2
        go_ret2
        exact ⟨_, by first | rfl | (simp [errW_none, errW_some] <;> rfl) | (simp [*, errW_none, errW_some] <;> rfl), by (with_reducible repeat (first | apply Kd.R_alloc | apply Kd.R_drewN | apply Kd.R_drew)); exact HO_6.out, by repeat (first | (with_reducible first | exact HB.out | apply below_alloc | apply pw_below_drewN | apply below_drew1) | exact HB.out)⟩
      · replace c9 := Bool.eq_false_iff.mpr c9
        subst c9
        have H1 : (if 0 < (l0.length : Int) then (if 0 ≤ (wrap64 ((wrap64 (((rd_L2 l0 0).length : Int) + 1)) * (l0.length : Int))) then (if (wrap64 ((wrap64 (((rd_L2 l0 0).length : Int) + 1)) * (l0.length : Int)) : Int).toNat ≤ 35184372088832 then (spec_BestSplice.l0 kj2 l0 a1 y109 ((rd_L2 l0 0).length : Int) (List.replicate (wrap64 ((wrap64 (((rd_L2 l0 0).length : Int) + 1)) * (l0.length : Int)) : Int).toNat 0) (wrap64 (((rd_L2 l0 0).length : Int) - 1))) else (none)) else (none)) else (none)) = some (r1, r2) := by rw [if_neg (show ¬ (false = true) by decide)] at H; exact H
        clear H
        have H := H1
        clear H1
        by_cases c10 : 0 < (l0.length : Int)
        · rw [if_pos c10] at H
          have c10b0 : decide (0 < (l0.length : Int)) = true := decide_eq_true c10
          have c10b1 : decide (0 < l0.length) = true := decide_eq_true (by omega)
          clear c10
          obtain ⟨ji11, hji11⟩ : ∃ j_ : Int, (wrap64 ((wrap64 (((rd_L2 l0 0).length : Int) + 1)) * (l0.length : Int))) = j_ := ⟨_, rfl⟩
          replace H : (if 0 ≤ (ji11) then (if (ji11 : Int).toNat ≤ 35184372088832 then (spec_BestSplice.l0 kj2 l0 a1 y109 ((rd_L2 l0 0).length : Int) (List.replicate (ji11 : Int).toNat 0) (wrap64 (((rd_L2 l0 0).length : Int) - 1))) else (none)) else (none)) = some (r1, r2) := by first | (rw [hji11] at H; exact H) | (simp only [hji11] at H ⊢; exact H)
          have hji11w : (IntKind.i64.wrap ((wrap64 (((rd_L2 l0 0).length : Int) + 1)) * (l0.length : Int))) = ji11 := (i64_w _).trans hji11
          by_cases c12 : 0 ≤ (ji11)
          · rw [if_pos c12] at H
            have c12b0 := eq_true c12
            have c12b1 : decide (0 ≤ (ji11)) = true := decide_eq_true c12
            clear c12
            by_cases c13 : (ji11 : Int).toNat ≤ 35184372088832
            · rw [if_pos c13] at H
              have c13b0 := eq_true c13
              have c13b1 : decide ((ji11 : Int).toNat ≤ 35184372088832) = true := decide_eq_true c13
              clear c13
              obtain ⟨y115, hy115⟩ : ∃ y_ : List Int, y_ = (List.replicate (ji11 : Int).toNat 0) := ⟨_, rfl⟩
              replace H : (spec_BestSplice.l0 kj2 l0 a1 y109 ((rd_L2 l0 0).length : Int) y115 (wrap64 (((rd_L2 l0 0).length : Int) - 1))) = some (r1, r2) := by first | (rw [hy115]; with_reducible exact H) | (have H2_ := (Option.bind_some _ _).symm.trans H; rw [hy115]; with_reducible exact H2_) | (have H2_ := (Option.bind_some _ _).symm.trans H; with_reducible exact H2_) | with_reducible exact H | (rw [hy115]; exact H) | exact H
              have Ny115 := Aside0.mk hy115
              clear hy115
              have H' := Aside0.mk H
              clear H
              have p114 : 0 ≤ (0 : Int) := (by omega)
              have q114 : 0 < (l0.length : Int) := of_decide_eq_true (by first | (with_reducible assumption) | assumption)
              obtain ⟨ad114, A114_0, c114_0, e114, hx114_0, hl114_0, hi114_0⟩ := at_L2 HR0.out 0 p114 q114
              cases e114
              have qi114 : (0 < l0.length) = True := eq_true (by omega)
              (try rw [show ((0 : Int)).toNat = 0 from rfl] at hx114_0)
              (try rw [Addr.add_zero'] at hx114_0)
              replace hx114_0 := (HB.out.cell (World.block_lt_of_cell? w _ hx114_0)).trans hx114_0
              have HR114_0 := Aside0.mk hi114_0
              have HC114_0 := Aside0.mk hl114_0
              clear hi114_0 hl114_0
              replace p114 := eq_true p114
              replace q114 := eq_true q114
              go_wp2_with (first | ((with_reducible refine gate_dst (N := 38) rfl ?_); refine Kd.R_make (Kd.int .i64) _ 3 rfl (N := 38) rfl 25 _ _ rfl ji11 rfl rfl Try.underlying25 (.int .i64 0) 8 info3 rfl (by decide) (by omega) 0 (ok := fun _ => True) (okp := fun _ => True) rfl (fun _ hk => hk) trivial (of_decide_eq_true (by first | (with_reducible assumption) | assumption)) (Nat.le_trans (Nat.mul_le_mul_right _ (of_decide_eq_true (by first | (with_reducible assumption) | assumption) : ji11.toNat ≤ 35184372088832)) (by omega)) (Below.refl _ _) (Nat.le_refl _) ?_; intro v116 w14 ho15 hb hg_ hnew_; clear hg_ hnew_; (first | rw [← Ny115.out] at ho15 | (simp only [Int.reduceToNat] at ho15; rw [← Ny115.out] at ho15)); have n0_ := Aside0.mk (Kd.R_elder' (by (with_reducible repeat (first | apply Kd.R_alloc | apply Kd.R_drewN | apply Kd.R_drew)); exact HO_6.out) (Kd.R_base ho15) hb); have n1_ := Aside0.mk (Kd.R_lower (Kd.R_new' ho15 (Kd.R_lt (by (with_reducible repeat (first | apply Kd.R_alloc | apply Kd.R_drewN | apply Kd.R_drew)); exact HO_6.out))) (below_size (by repeat (first | (with_reducible first | exact HB.out | apply below_alloc | apply pw_below_drewN | apply below_drew1) | exact HB.out)))); have n2_ := Aside0.mk (below_step (by repeat (first | (with_reducible first | exact HB.out | apply below_alloc | apply pw_below_drewN | apply below_drew1) | exact HB.out)) hb); clear HO_6; clear HB; have HO_6 := n0_; have HO117 := n1_; have HB := n2_; clear n0_ n1_ n2_; clear hb ho15))
              go_loopg [9] kj2 (fun kq v9 w' => ∃ (x8_2 : List Int) (x9_2 : Int), v9 = .int .i64 x9_2 ∧ Aside0 (spec_BestSplice.l0 kq l0 a1 y109 ((rd_L2 l0 0).length : Int) x8_2 x9_2 = some (r1, r2)) ∧ Aside0 (kq ≤ kj2) ∧ Aside0 (Kd.R (Kd.int .i64) 3 w' w.heap.size (fun k_ => some k_ ≠ (v116 : Value).ownBlock) v110 y109) ∧ Aside0 (Kd.R (Kd.int .i64) 3 w' w.heap.size (fun k_ => some k_ ≠ (v110 : Value).ownBlock) v116 x8_2) ∧ Aside0 (Below w.heap.size w w'))
              case atStart => exact ⟨(y115), (wrap64 (((rd_L2 l0 0).length : Int) - 1)), (by first | rfl | (simp; done) | (simp [*]; done)), H', ⟨Nat.le_refl _⟩, ⟨by (with_reducible repeat (first | apply Kd.R_alloc | apply Kd.R_drewN | apply Kd.R_drew)); exact Kd.R_mono HO_6.out (fun _ hk => hk.2)⟩, ⟨by (with_reducible repeat (first | apply Kd.R_alloc | apply Kd.R_drewN | apply Kd.R_drew)); exact Kd.R_mono HO117.out (fun _ hk => hk.2)⟩, ⟨by repeat (first | (with_reducible first | exact HB.out | apply below_alloc | apply pw_below_drewN | apply below_drew1) | exact HB.out)⟩⟩
              case round =>
                clear H'
                try clear c1
                try clear p1
                try clear q1
                try clear hx1
                try clear qi1
                try clear p2
                try clear c3
                try clear p6
                try clear c7
                try clear c9
                try clear c10
                try clear c10b0
                try clear c10b1
                try clear c11
                try clear p11
                try clear q11
                try clear hx11
                try clear qi11
                try clear c12
                try clear c12b0
                try clear c12b1
                try clear c13
                try clear c13b0
                try clear c13b1
                try clear hx114_0
                try clear p114
                try clear p2
                try clear q114
                obtain ⟨x8_2, x9_2, rfl, HA, HK2, HO_6, HO_8, HB⟩ := hrel
                cases gk with
                | zero => exact absurd HA.out (by simp [spec_BestSplice.l0])
                | succ k2 =>
                  have H := HA.out
                  clear HA
                  simp only [spec_BestSplice.l0] at H
                  by_cases c16 : x9_2 ≥ 0
                  · rw [if_pos c16] at H
                    have c16b0 : decide (0 ≤ x9_2) = true := decide_eq_true c16
                    clear c16
                    have H' := Aside0.mk H
                    clear H
                    go_wp2
                    go_loopg [10] k2 (fun kq v10 w' => ∃ (x8_3 : List Int) (x10_3 : Int), v10 = .int .i64 x10_3 ∧ Aside0 (spec_BestSplice.l1 kq l0 a1 y109 ((rd_L2 l0 0).length : Int) x8_3 x9_2 x10_3 = some (r1, r2)) ∧ Aside0 (kq ≤ k2) ∧ Aside0 (Kd.R (Kd.int .i64) 3 w' w.heap.size (fun k_ => some k_ ≠ (v116 : Value).ownBlock) v110 y109) ∧ Aside0 (Kd.R (Kd.int .i64) 3 w' w.heap.size (fun k_ => some k_ ≠ (v110 : Value).ownBlock) v116 x8_3) ∧ Aside0 (Below w.heap.size w w'))
                    case atStart => exact ⟨(x8_2), (0), (by first | rfl | (simp; done) | (simp [*]; done)), H', ⟨Nat.le_refl _⟩, ⟨by (with_reducible repeat (first | apply Kd.R_alloc | apply Kd.R_drewN | apply Kd.R_drew)); exact HO_6.out⟩, ⟨by (with_reducible repeat (first | apply Kd.R_alloc | apply Kd.R_drewN | apply Kd.R_drew)); exact HO_8.out⟩, ⟨by repeat (first | (with_reducible first | exact HB.out | apply below_alloc | apply pw_below_drewN | apply below_drew1) | exact HB.out)⟩⟩
                    case round =>
                      clear H'
                      try clear c1
                      try clear p1
                      try clear q1
                      try clear hx1
                      try clear qi1
                      try clear p2
                      try clear c3
                      try clear p6
                      try clear c7
                      try clear c9
                      try clear c10
                      try clear c10b0
                      try clear c10b1
                      try clear c11
                      try clear p11
                      try clear q11
                      try clear hx11
                      try clear qi11
                      try clear c12
                      try clear c12b0
                      try clear c12b1
                      try clear c13
                      try clear c13b0
                      try clear c13b1
                      try clear c16
                      try clear c16b0
                      try clear hx114_0
                      try clear p1
                      try clear p11
                      try clear p114
                      try clear p2
                      try clear p6
                      try clear q1
                      try clear q11
                      try clear q114
                      obtain ⟨x8_3, x10_3, rfl, HA, HK3, HO_6, HO_8, HB⟩ := hrel
                      cases gk with
                      | zero => exact absurd HA.out (by simp [spec_BestSplice.l1])
                      | succ k3 =>
                        have H := HA.out
                        clear HA
                        simp only [spec_BestSplice.l1] at H
                        by_cases c17 : x10_3 < (l0.length : Int)
                        · rw [if_pos c17] at H
                          have c17b0 : decide (x10_3 < (l0.length : Int)) = true := decide_eq_true c17
                          clear c17
                          have H' := Aside0.mk H
                          clear H
                          go_wp2
                          go_loopg [11, 12] k3 (fun kq v11 v12 w' => ∃ (x11_4 : Int) (x12_4 : Int), v11 = .int .i64 x11_4 ∧ v12 = .int .i64 x12_4 ∧ Aside0 (spec_BestSplice.l2 kq l0 a1 y109 ((rd_L2 l0 0).length : Int) x8_3 x9_2 x10_3 x11_4 x12_4 = some (r1, r2)) ∧ Aside0 (kq ≤ k3) ∧ Aside0 (Kd.R (Kd.int .i64) 3 w' w.heap.size (fun k_ => some k_ ≠ (v116 : Value).ownBlock) v110 y109) ∧ Aside0 (Kd.R (Kd.int .i64) 3 w' w.heap.size (fun k_ => some k_ ≠ (v110 : Value).ownBlock) v116 x8_3) ∧ Aside0 (Below w.heap.size w w'))
                          case atStart => exact ⟨(1000000000), (0), (by first | rfl | (simp; done) | (simp [*]; done)), (by first | rfl | (simp; done) | (simp [*]; done)), H', ⟨Nat.le_refl _⟩, ⟨by (with_reducible repeat (first | apply Kd.R_alloc | apply Kd.R_drewN | apply Kd.R_drew)); exact HO_6.out⟩, ⟨by (with_reducible repeat (first | apply Kd.R_alloc | apply Kd.R_drewN | apply Kd.R_drew)); exact HO_8.out⟩, ⟨by repeat (first | (with_reducible first | exact HB.out | apply below_alloc | apply pw_below_drewN | apply below_drew1) | exact HB.out)⟩⟩
                          case round =>
                            clear H'
                            try clear c1
                            try clear p1
                            try clear q1
                            try clear hx1
                            try clear qi1
                            try clear p2
                            try clear c3
                            try clear p6
                            try clear c7
                            try clear c9
                            try clear c10
                            try clear c10b0
                            try clear c10b1
                            try clear c11
                            try clear p11
                            try clear q11
                            try clear hx11
                            try clear qi11
                            try clear c12
                            try clear c12b0
                            try clear c12b1
                            try clear c13
                            try clear c13b0
                            try clear c13b1
                            try clear c16
                            try clear c16b0
                            try clear c17
                            try clear c17b0
                            try clear hx114_0
                            try clear p1
                            try clear p11
                            try clear p114
                            try clear p2
                            try clear p6
                            try clear q1
                            try clear q11
                            try clear q114
                            obtain ⟨x11_4, x12_4, rfl, rfl, HA, HK4, HO_6, HO_8, HB⟩ := hrel
                            cases gk with
                            | zero => exact absurd HA.out (by simp [spec_BestSplice.l2])
                            | succ k4 =>
                              have H := HA.out
                              clear HA
                              simp only [spec_BestSplice.l2] at H
                              have HC18 := Aside0.mk H
                              clear H
                              go_upto_region 14 with (fail)
                              go_cut [60] (fun v60 wc => ∃ (kq : Nat) (x60_17 : Bool), v60 = .bool x60_17 ∧ Aside0 (spec_BestSplice.j4 kq l0 a1 y109 ((rd_L2 l0 0).length : Int) x8_3 x9_2 x10_3 x11_4 x12_4 x60_17 = some (r1, r2)) ∧ Aside0 (kq ≤ k4) ∧ Aside0 (Kd.R (Kd.int .i64) 3 wc w.heap.size (fun k_ => some k_ ≠ (v116 : Value).ownBlock) v110 y109) ∧ Aside0 (Kd.R (Kd.int .i64) 3 wc w.heap.size (fun k_ => some k_ ≠ (v110 : Value).ownBlock) v116 x8_3) ∧ Aside0 (Below w.heap.size w wc))
                              case first =>
                                have H := HC18.out
                                clear HC18
                                by_cases c19 : x12_4 < (l0.length : Int)
                                · rw [if_pos c19] at H
                                  have c19b0 : decide (x12_4 < (l0.length : Int)) = true := decide_eq_true c19
                                  clear c19
                                  (first | rw [c19b0] | (simp only [i64_w, i32_w]; rw [c19b0]) | skip)
                                  have H' := Aside0.mk H
                                  clear H
                                  go_wp2
                                  go_meet
                                  case rel => exact ⟨_, (decide ((wrap64 (x9_2 + 1)) < ((rd_L2 l0 0).length : Int))), (by first | rfl | (simp; done) | (simp [*]; done)), H', ⟨by have := HJ2.out; have := HK2.out; have := HK3.out; have := HK4.out; first | omega | exact Nat.le_refl _⟩, ⟨by (with_reducible repeat (first | apply Kd.R_alloc | apply Kd.R_drewN | apply Kd.R_drew)); exact HO_6.out⟩, ⟨by (with_reducible repeat (first | apply Kd.R_alloc | apply Kd.R_drewN | apply Kd.R_drew)); exact HO_8.out⟩, ⟨by repeat (first | (with_reducible first | exact HB.out | apply below_alloc | apply pw_below_drewN | apply below_drew1) | exact HB.out)⟩⟩
                                · rw [if_neg c19] at H
                                  have c19b0 : decide (x12_4 < (l0.length : Int)) = false := decide_eq_false c19
                                  clear c19
                                  (first | rw [c19b0] | (simp only [i64_w, i32_w]; rw [c19b0]) | skip)
                                  have H' := Aside0.mk H
                                  clear H
                                  go_wp2
                                  go_meet
                                  case rel => exact ⟨_, (false), (by first | rfl | (simp; done) | (simp [*]; done)), H', ⟨by have := HJ2.out; have := HK2.out; have := HK3.out; have := HK4.out; first | omega | exact Nat.le_refl _⟩, ⟨by (with_reducible repeat (first | apply Kd.R_alloc | apply Kd.R_drewN | apply Kd.R_drew)); exact HO_6.out⟩, ⟨by (with_reducible repeat (first | apply Kd.R_alloc | apply Kd.R_drewN | apply Kd.R_drew)); exact HO_8.out⟩, ⟨by repeat (first | (with_reducible first | exact HB.out | apply below_alloc | apply pw_below_drewN | apply below_drew1) | exact HB.out)⟩⟩
                              case rest =>
                                clear HC18
                                try clear c1
                                try clear p1
                                try clear q1
                                try clear hx1
                                try clear qi1
                                try clear p2
                                try clear c3
                                try clear p6
                                try clear c7
                                try clear c9
                                try clear c10
                                try clear c10b0
                                try clear c10b1
                                try clear c11
                                try clear p11
                                try clear q11
                                try clear hx11
                                try clear qi11
                                try clear c12
                                try clear c12b0
                                try clear c12b1
                                try clear c13
                                try clear c13b0
                                try clear c13b1
                                try clear c16
                                try clear c16b0
                                try clear c17
                                try clear c17b0
                                try clear c19
                                try clear c19b0
                                try clear hx114_0
                                try clear p1
                                try clear p11
                                try clear p114
                                try clear p2
                                try clear p6
                                try clear q1
                                try clear q11
                                try clear q114
                                obtain ⟨kq, x60_17, rfl, HA, HJ17, HO_6, HO_8, HB⟩ := hcut
                                cases kq with
                                | zero => exact absurd HA.out (by simp [spec_BestSplice.j4])
                                | succ kj17 =>
                                  have H := HA.out
                                  clear HA
                                  simp only [spec_BestSplice.j4] at H
                                  by_cases c20 : x60_17 = true
                                  · subst c20
                                    have H1 : (if 0 ≤ (wrap64 ((wrap64 ((wrap64 (x9_2 + 1)) * (l0.length : Int))) + x12_4)) then (if (wrap64 ((wrap64 ((wrap64 (x9_2 + 1)) * (l0.length : Int))) + x12_4)) < (x8_3.length : Int) then (if x12_4 = x10_3 then ((spec_Min.f x11_4 (rd x8_3 (wrap64 ((wrap64 ((wrap64 (x9_2 + 1)) * (l0.length : Int))) + x12_4)))).bind fun t119 => (spec_BestSplice.l2 kj17 l0 a1 y109 ((rd_L2 l0 0).length : Int) x8_3 x9_2 x10_3 t119 (wrap64 (x12_4 + 1)))) else ((spec_Min.f x11_4 (wrap64 ((rd x8_3 (wrap64 ((wrap64 ((wrap64 (x9_2 + 1)) * (l0.length : Int))) + x12_4))) + a1))).bind fun t120 => (spec_BestSplice.l2 kj17 l0 a1 y109 ((rd_L2 l0 0).length : Int) x8_3 x9_2 x10_3 t120 (wrap64 (x12_4 + 1))))) else (none)) else (none)) = some (r1, r2) := by rw [if_pos rfl] at H; exact H
                                    clear H
                                    have H := H1
                                    clear H1
                                    obtain ⟨ji21, hji21⟩ : ∃ j_ : Int, (wrap64 ((wrap64 ((wrap64 (x9_2 + 1)) * (l0.length : Int))) + x12_4)) = j_ := ⟨_, rfl⟩
                                    replace H : (if 0 ≤ (ji21) then (if (ji21) < (x8_3.length : Int) then (if x12_4 = x10_3 then ((spec_Min.f x11_4 (rd x8_3 (ji21))).bind fun t119 => (spec_BestSplice.l2 kj17 l0 a1 y109 ((rd_L2 l0 0).length : Int) x8_3 x9_2 x10_3 t119 (wrap64 (x12_4 + 1)))) else ((spec_Min.f x11_4 (wrap64 ((rd x8_3 (ji21)) + a1))).bind fun t120 => (spec_BestSplice.l2 kj17 l0 a1 y109 ((rd_L2 l0 0).length : Int) x8_3 x9_2 x10_3 t120 (wrap64 (x12_4 + 1))))) else (none)) else (none)) = some (r1, r2) := by first | (rw [hji21] at H; exact H) | (simp only [hji21] at H ⊢; exact H)
                                    have hji21w : (IntKind.i64.wrap ((wrap64 ((wrap64 (x9_2 + 1)) * (l0.length : Int))) + x12_4)) = ji21 := (i64_w _).trans hji21
                                    by_cases c22 : 0 ≤ (ji21)
                                    · rw [if_pos c22] at H
                                      have c22b0 : decide (0 ≤ (ji21)) = true := decide_eq_true c22
                                      clear c22
                                      by_cases c23 : (ji21) < (x8_3.length : Int)
                                      · rw [if_pos c23] at H
                                        have c23b0 : decide ((ji21) < (x8_3.length : Int)) = true := decide_eq_true c23
                                        clear c23
                                        by_cases c24 : x12_4 = x10_3
                                        · rw [if_pos c24] at H
                                          have c24b0 : (x12_4 == x10_3) = true := beq_iff_eq.mpr c24
                                          have c24b1 : (x12_4 != x10_3) = false := bne_eq_false_iff_eq.mpr c24
                                          clear c24
                                          replace H := Option.bind_eq_some_iff.mp H
                                          obtain ⟨t119, A250, H⟩ := H
                                          replace H : (spec_BestSplice.l2 kj17 l0 a1 y109 ((rd_L2 l0 0).length : Int) x8_3 x9_2 x10_3 t119 (wrap64 (x12_4 + 1))) = some (r1, r2) := H
                                          have A25 := Aside0.mk A250
                                          clear A250
                                          have H' := Aside0.mk H
                                          clear H
                                          obtain ⟨Ao26, co26, eo26⟩ := Kd.R_slice HO_8.out
                                          subst eo26
                                          have p118 : 0 ≤ ((ji21) : Int) := of_decide_eq_true (by first | (with_reducible assumption) | assumption)
                                          have q118 : (ji21) < (x8_3.length : Int) := of_decide_eq_true (by first | (with_reducible assumption) | assumption)
                                          obtain ⟨ad118, e118, hx118_0⟩ := Kd.at_int (Kd.R_reads' HO_8.out).2.2 (ji21) p118 q118
                                          cases e118
                                          replace p118 := eq_true p118
                                          replace q118 := eq_true q118
                                          go_wp2_with (first | ((with_reducible refine gate_callee (f := 40) rfl ?_); refine goesL_ (some 81) rfl rfl Try.func40 (by kernel_rfl) rfl #[.int .i64 x11_4, .int .i64 (rd x8_3 (ji21))] rfl (by (try simp only [List.map_toArray, List.map_cons, List.map_nil]); first | done | (simp only [hji21]; rfl) | rfl | (simp only [List.length_drop, List.length_take]; rfl)) ?_; (with_reducible refine (spec_Min.calls x11_4 (rd x8_3 (ji21)) t119 _ A25.out).mono ?_); rintro e w' ⟨rfl, ⟨nd, rfl⟩⟩; refine ⟨_, rfl, ?_⟩))
                                          go_roundg kj17
                                          case measure => have := HJ2.out; have := HK2.out; have := HK3.out; have := HK4.out; have := HJ17.out; omega
                                          case rel => exact ⟨(t119), (wrap64 (x12_4 + 1)), (by first | rfl | (simp; done) | (simp [*]; done)), (by first | rfl | (simp; done) | (simp [*]; done)), H', ⟨by have := HJ2.out; have := HK2.out; have := HK3.out; have := HK4.out; have := HJ17.out; omega⟩, ⟨by (with_reducible repeat (first | apply Kd.R_alloc | apply Kd.R_drewN | apply Kd.R_drew)); exact HO_6.out⟩, ⟨by (with_reducible repeat (first | apply Kd.R_alloc | apply Kd.R_drewN | apply Kd.R_drew)); exact HO_8.out⟩, ⟨by repeat (first | (with_reducible first | exact HB.out | apply below_alloc | apply pw_below_drewN | apply below_drew1) | exact HB.out)⟩⟩
                                        · rw [if_neg c24] at H
                                          have c24b0 : (x12_4 == x10_3) = false := beq_eq_false_iff_ne.mpr c24
                                          have c24b1 : (x12_4 != x10_3) = true := bne_iff_ne.mpr c24
                                          replace H := Option.bind_eq_some_iff.mp H
                                          obtain ⟨t120, A270, H⟩ := H
                                          replace H : (spec_BestSplice.l2 kj17 l0 a1 y109 ((rd_L2 l0 0).length : Int) x8_3 x9_2 x10_3 t120 (wrap64 (x12_4 + 1))) = some (r1, r2) := H
                                          have A27 := Aside0.mk A270
                                          clear A270
                                          have H' := Aside0.mk H
                                          clear H
                                          obtain ⟨Ao28, co28, eo28⟩ := Kd.R_slice HO_8.out
                                          subst eo28
                                          have p118 : 0 ≤ ((ji21) : Int) := of_decide_eq_true (by first | (with_reducible assumption) | assumption)
                                          have q118 : (ji21) < (x8_3.length : Int) := of_decide_eq_true (by first | (with_reducible assumption) | assumption)
                                          obtain ⟨ad118, e118, hx118_0⟩ := Kd.at_int (Kd.R_reads' HO_8.out).2.2 (ji21) p118 q118
                                          cases e118
                                          replace p118 := eq_true p118
                                          replace q118 := eq_true q118
                                          go_wp2_with (first | ((with_reducible refine gate_callee (f := 40) rfl ?_); refine goesL_ (some 81) rfl rfl Try.func40 (by kernel_rfl) rfl #[.int .i64 x11_4, .int .i64 (wrap64 ((rd x8_3 (ji21)) + a1))] rfl (by (try simp only [List.map_toArray, List.map_cons, List.map_nil]); first | done | (simp only [hji21]; rfl) | rfl | (simp only [List.length_drop, List.length_take]; rfl)) ?_; (with_reducible refine (spec_Min.calls x11_4 (wrap64 ((rd x8_3 (ji21)) + a1)) t120 _ A27.out).mono ?_); rintro e w' ⟨rfl, ⟨nd, rfl⟩⟩; refine ⟨_, rfl, ?_⟩))
                                          go_roundg kj17
                                          case measure => have := HJ2.out; have := HK2.out; have := HK3.out; have := HK4.out; have := HJ17.out; omega
                                          case rel => exact ⟨(t120), (wrap64 (x12_4 + 1)), (by first | rfl | (simp; done) | (simp [*]; done)), (by first | rfl | (simp; done) | (simp [*]; done)), H', ⟨by have := HJ2.out; have := HK2.out; have := HK3.out; have := HK4.out; have := HJ17.out; omega⟩, ⟨by (with_reducible repeat (first | apply Kd.R_alloc | apply Kd.R_drewN | apply Kd.R_drew)); exact HO_6.out⟩, ⟨by (with_reducible repeat (first | apply Kd.R_alloc | apply Kd.R_drewN | apply Kd.R_drew)); exact HO_8.out⟩, ⟨by repeat (first | (with_reducible first | exact HB.out | apply below_alloc | apply pw_below_drewN | apply below_drew1) | exact HB.out)⟩⟩
                                      · rw [if_neg c23] at H
                                        exact absurd H (by simp)
                                    · rw [if_neg c22] at H
                                      exact absurd H (by simp)
                                  · replace c20 := Bool.eq_false_iff.mpr c20
                                    subst c20
                                    have H1 : (if (wrap64 (x9_2 + 1)) = ((rd_L2 l0 0).length : Int) then (if 0 ≤ x10_3 then (if x10_3 < (l0.length : Int) then (if 0 ≤ x9_2 then (if x9_2 < ((rd_L2 l0 x10_3).length : Int) then (if 0 ≤ (wrap64 ((wrap64 (x9_2 * (l0.length : Int))) + x10_3)) then (if (wrap64 ((wrap64 (x9_2 * (l0.length : Int))) + x10_3)) < (x8_3.length : Int) then (spec_BestSplice.l1 kj17 l0 a1 y109 ((rd_L2 l0 0).length : Int) (x8_3.set ((wrap64 ((wrap64 (x9_2 * (l0.length : Int))) + x10_3)) : Int).toNat (wrap64 ((rd (rd_L2 l0 x10_3) x9_2) + 0))) x9_2 (wrap64 (x10_3 + 1))) else (none)) else (none)) else (none)) else (none)) else (none)) else (none)) else (if 0 ≤ x10_3 then (if x10_3 < (l0.length : Int) then (if 0 ≤ x9_2 then (if x9_2 < ((rd_L2 l0 x10_3).length : Int) then (if 0 ≤ (wrap64 ((wrap64 (x9_2 * (l0.length : Int))) + x10_3)) then (if (wrap64 ((wrap64 (x9_2 * (l0.length : Int))) + x10_3)) < (x8_3.length : Int) then (spec_BestSplice.l1 kj17 l0 a1 y109 ((rd_L2 l0 0).length : Int) (x8_3.set ((wrap64 ((wrap64 (x9_2 * (l0.length : Int))) + x10_3)) : Int).toNat (wrap64 ((rd (rd_L2 l0 x10_3) x9_2) + x11_4))) x9_2 (wrap64 (x10_3 + 1))) else (none)) else (none)) else (none)) else (none)) else (none)) else (none))) = some (r1, r2) := by rw [if_neg (show ¬ (false = true) by decide)] at H; exact H
                                    clear H
                                    have H := H1
                                    clear H1
                                    by_cases c29 : (wrap64 (x9_2 + 1)) = ((rd_L2 l0 0).length : Int)
                                    · rw [if_pos c29] at H
                                      have c29b0 : ((wrap64 (x9_2 + 1)) == ((rd_L2 l0 0).length : Int)) = true := beq_iff_eq.mpr c29
                                      have c29b1 : ((wrap64 (x9_2 + 1)) != ((rd_L2 l0 0).length : Int)) = false := bne_eq_false_iff_eq.mpr c29
                                      clear c29
                                      by_cases c30 : 0 ≤ x10_3
                                      · rw [if_pos c30] at H
                                        have c30b0 : decide (0 ≤ x10_3) = true := decide_eq_true c30
                                        clear c30
                                        by_cases c31 : x10_3 < (l0.length : Int)
                                        · rw [if_pos c31] at H
                                          have c31b0 : decide (x10_3 < (l0.length : Int)) = true := decide_eq_true c31
                                          clear c31
                                          by_cases c32 : 0 ≤ x9_2
                                          · rw [if_pos c32] at H
                                            have c32b0 : decide (0 ≤ x9_2) = true := decide_eq_true c32
                                            clear c32
                                            by_cases c33 : x9_2 < ((rd_L2 l0 x10_3).length : Int)
                                            · rw [if_pos c33] at H
                                              have c33b0 : decide (x9_2 < ((rd_L2 l0 x10_3).length : Int)) = true := decide_eq_true c33
                                              clear c33
                                              obtain ⟨ji34, hji34⟩ : ∃ j_ : Int, (wrap64 ((wrap64 (x9_2 * (l0.length : Int))) + x10_3)) = j_ := ⟨_, rfl⟩
                                              replace H : (if 0 ≤ (ji34) then (if (ji34) < (x8_3.length : Int) then (spec_BestSplice.l1 kj17 l0 a1 y109 ((rd_L2 l0 0).length : Int) (x8_3.set ((ji34) : Int).toNat (wrap64 ((rd (rd_L2 l0 x10_3) x9_2) + 0))) x9_2 (wrap64 (x10_3 + 1))) else (none)) else (none)) = some (r1, r2) := by first | (rw [hji34] at H; exact H) | (simp only [hji34] at H ⊢; exact H)
                                              have hji34w : (IntKind.i64.wrap ((wrap64 (x9_2 * (l0.length : Int))) + x10_3)) = ji34 := (i64_w _).trans hji34
                                              by_cases c35 : 0 ≤ (ji34)
                                              · rw [if_pos c35] at H
                                                have c35b0 : decide (0 ≤ (ji34)) = true := decide_eq_true c35
                                                clear c35
                                                by_cases c36 : (ji34) < (x8_3.length : Int)
                                                · rw [if_pos c36] at H
                                                  have c36b0 : decide ((ji34) < (x8_3.length : Int)) = true := decide_eq_true c36
                                                  clear c36
                                                  obtain ⟨y123, hy123⟩ : ∃ y_ : List Int, y_ = (x8_3.set ((ji34) : Int).toNat (wrap64 ((rd (rd_L2 l0 x10_3) x9_2) + 0))) := ⟨_, rfl⟩
                                                  replace H : (spec_BestSplice.l1 kj17 l0 a1 y109 ((rd_L2 l0 0).length : Int) y123 x9_2 (wrap64 (x10_3 + 1))) = some (r1, r2) := by first | (rw [hy123]; with_reducible exact H) | (have H2_ := (Option.bind_some _ _).symm.trans H; rw [hy123]; with_reducible exact H2_) | (have H2_ := (Option.bind_some _ _).symm.trans H; with_reducible exact H2_) | with_reducible exact H | (rw [hy123]; exact H) | exact H
                                                  have Ny123 := Aside0.mk hy123
                                                  clear hy123
                                                  have H' := Aside0.mk H
                                                  clear H
                                                  have p121 : 0 ≤ (x10_3 : Int) := of_decide_eq_true (by first | (with_reducible assumption) | assumption)
                                                  have q121 : x10_3 < (l0.length : Int) := of_decide_eq_true (by first | (with_reducible assumption) | assumption)
                                                  obtain ⟨ad121, A121_0, c121_0, e121, hx121_0, hl121_0, hi121_0⟩ := at_L2 HR0.out x10_3 p121 q121
                                                  obtain rfl : ad114 = ad121 := (by injection e121)
                                                  replace hx121_0 := (HB.out.cell (World.block_lt_of_cell? w _ hx121_0)).trans hx121_0
                                                  have HR121_0 := Aside0.mk hi121_0
                                                  have HC121_0 := Aside0.mk hl121_0
                                                  clear hi121_0 hl121_0
                                                  replace p121 := eq_true p121
                                                  replace q121 := eq_true q121
                                                  have p122 : 0 ≤ (x9_2 : Int) := of_decide_eq_true (by first | (with_reducible assumption) | assumption)
                                                  have q122 : x9_2 < ((rd_L2 l0 x10_3).length : Int) := of_decide_eq_true (by first | (with_reducible assumption) | assumption)
                                                  obtain ⟨ad122, e122, hx122_0⟩ := Kd.at_int HR121_0.out x9_2 p122 q122
                                                  cases e122
                                                  replace hx122_0 := (HB.out.cell (World.block_lt_of_cell? w _ hx122_0)).trans hx122_0
                                                  replace p122 := eq_true p122
                                                  replace q122 := eq_true q122
                                                  have p37 : 0 ≤ ((ji34) : Int) := of_decide_eq_true (by first | (with_reducible assumption) | assumption)
                                                  have q37 : ((ji34) : Int) < ((x8_3.length : Int) : Int) := of_decide_eq_true (by first | (with_reducible assumption) | assumption)
                                                  obtain ⟨go37, co37, eo37, gb37, gl37, cl37, HG37⟩ := Kd.R_form HO_8.out (by omega)
                                                  (first | cases eo37 | (injection eo37 with ea_ en_ ec_; (first | subst ea_ | (injection ea_ with ea_; subst ea_)); subst ec_; clear en_))
                                                  have GB37 := Aside0.mk gb37
                                                  have GG37 := Aside0.mk HG37
                                                  clear gb37 gl37 HG37
                                                  obtain ⟨hx37_0, hf37_0⟩ := Kd.R_celln 0 HO_8.out ((ji34) : Int) p37 q37
                                                  replace p37 := eq_true p37
                                                  replace q37 := eq_true q37
                                                  have HP38 := Kd.R_putg HO_8.out ((ji34) : Int) (wrap64 ((rd (rd_L2 l0 x10_3) x9_2) + 0))
                                                  go_wp2_with (first | ((with_reducible refine gate_store (t := 3) (p := 102) rfl ?_); refine store_event (t := 3) (p := 102) (v := ?vo_w39) (w1 := (wc.setCell ⟨go37, ((ji34) : Int).toNat, none⟩ (.int .i64 (wrap64 ((rd (rd_L2 l0 x10_3) x9_2) + 0))))) ?hg ?ho ?hn ?hr ?_; (case ho => rfl); (case hg => rfl); (case hn => rfl); (case hr => first | (go_simp; done) | (go_simp; rfl)); intro w39 hw; have hg : wc.grownBy w39 (some go37) := (by rw [hw]; exact HP38.2); have hp_ : Kd.R (Kd.int .i64) 3 w39 w.heap.size (fun k_ => some k_ ≠ (v110 : Value).ownBlock) (.slice (some ⟨go37, 0, none⟩) x8_3.length co37) y123 := (by rw [hw, Ny123.out]; exact HP38.1); clear HP38; have n0_ := Aside0.mk (Kd.R_after (v := (.slice (some ⟨go37, 0, none⟩) x8_3.length co37)) (v1 := (.slice (some ⟨go37, 0, none⟩) x8_3.length co37)) (ok := (fun _ => True)) (by (with_reducible repeat (first | apply Kd.R_alloc | apply Kd.R_drewN | apply Kd.R_drew)); exact Kd.R_mono HO_6.out (fun _ hk => ⟨trivial, hk⟩)) hg (.inl rfl)); have n1_ := Aside0.mk (hp_); have n2_ := Aside0.mk ((by rw [hw]; exact below_set (HB.out) GB37.out : Below w.heap.size w w39)); clear HO_6; clear HO_8; clear HB; have HO_6 := n0_; have HO_8 := n1_; have HB := n2_; clear n0_ n1_ n2_; clear hg hw hp_))
                                                  go_roundg kj17
                                                  case measure => have := HJ2.out; have := HK2.out; have := HK3.out; have := HK4.out; have := HJ17.out; omega
                                                  case rel => exact ⟨(y123), (wrap64 (x10_3 + 1)), (by first | rfl | (simp; done) | (simp [*]; done)), H', ⟨by have := HJ2.out; have := HK2.out; have := HK3.out; have := HK4.out; have := HJ17.out; omega⟩, ⟨by (with_reducible repeat (first | apply Kd.R_alloc | apply Kd.R_drewN | apply Kd.R_drew)); exact Kd.R_mono HO_6.out (fun _ hk => hk.2)⟩, ⟨by (with_reducible repeat (first | apply Kd.R_alloc | apply Kd.R_drewN | apply Kd.R_drew)); exact HO_8.out⟩, ⟨by repeat (first | (with_reducible first | exact HB.out | apply below_alloc | apply pw_below_drewN | apply below_drew1) | exact HB.out)⟩⟩
                                                · rw [if_neg c36] at H
                                                  exact absurd H (by simp)
                                              · rw [if_neg c35] at H
                                                exact absurd H (by simp)
                                            · rw [if_neg c33] at H
                                              exact absurd H (by simp)
                                          · rw [if_neg c32] at H
                                            exact absurd H (by simp)
                                        · rw [if_neg c31] at H
                                          exact absurd H (by simp)
                                      · rw [if_neg c30] at H
                                        exact absurd H (by simp)
                                    · rw [if_neg c29] at H
                                      have c29b0 : ((wrap64 (x9_2 + 1)) == ((rd_L2 l0 0).length : Int)) = false := beq_eq_false_iff_ne.mpr c29
                                      have c29b1 : ((wrap64 (x9_2 + 1)) != ((rd_L2 l0 0).length : Int)) = true := bne_iff_ne.mpr c29
                                      by_cases c40 : 0 ≤ x10_3
                                      · rw [if_pos c40] at H
                                        have c40b0 : decide (0 ≤ x10_3) = true := decide_eq_true c40
                                        clear c40
                                        by_cases c41 : x10_3 < (l0.length : Int)
                                        · rw [if_pos c41] at H
                                          have c41b0 : decide (x10_3 < (l0.length : Int)) = true := decide_eq_true c41
                                          clear c41
                                          by_cases c42 : 0 ≤ x9_2
                                          · rw [if_pos c42] at H
                                            have c42b0 : decide (0 ≤ x9_2) = true := decide_eq_true c42
                                            clear c42
                                            by_cases c43 : x9_2 < ((rd_L2 l0 x10_3).length : Int)
                                            · rw [if_pos c43] at H
                                              have c43b0 : decide (x9_2 < ((rd_L2 l0 x10_3).length : Int)) = true := decide_eq_true c43
                                              clear c43
                                              obtain ⟨ji44, hji44⟩ : ∃ j_ : Int, (wrap64 ((wrap64 (x9_2 * (l0.length : Int))) + x10_3)) = j_ := ⟨_, rfl⟩
                                              replace H : (if 0 ≤ (ji44) then (if (ji44) < (x8_3.length : Int) then (spec_BestSplice.l1 kj17 l0 a1 y109 ((rd_L2 l0 0).length : Int) (x8_3.set ((ji44) : Int).toNat (wrap64 ((rd (rd_L2 l0 x10_3) x9_2) + x11_4))) x9_2 (wrap64 (x10_3 + 1))) else (none)) else (none)) = some (r1, r2) := by first | (rw [hji44] at H; exact H) | (simp only [hji44] at H ⊢; exact H)
                                              have hji44w : (IntKind.i64.wrap ((wrap64 (x9_2 * (l0.length : Int))) + x10_3)) = ji44 := (i64_w _).trans hji44
                                              by_cases c45 : 0 ≤ (ji44)
                                              · rw [if_pos c45] at H
                                                have c45b0 : decide (0 ≤ (ji44)) = true := decide_eq_true c45
                                                clear c45
                                                by_cases c46 : (ji44) < (x8_3.length : Int)
                                                · rw [if_pos c46] at H
                                                  have c46b0 : decide ((ji44) < (x8_3.length : Int)) = true := decide_eq_true c46
                                                  clear c46
                                                  obtain ⟨y126, hy126⟩ : ∃ y_ : List Int, y_ = (x8_3.set ((ji44) : Int).toNat (wrap64 ((rd (rd_L2 l0 x10_3) x9_2) + x11_4))) := ⟨_, rfl⟩
                                                  replace H : (spec_BestSplice.l1 kj17 l0 a1 y109 ((rd_L2 l0 0).length : Int) y126 x9_2 (wrap64 (x10_3 + 1))) = some (r1, r2) := by first | (rw [hy126]; with_reducible exact H) | (have H2_ := (Option.bind_some _ _).symm.trans H; rw [hy126]; with_reducible exact H2_) | (have H2_ := (Option.bind_some _ _).symm.trans H; with_reducible exact H2_) | with_reducible exact H | (rw [hy126]; exact H) | exact H
                                                  have Ny126 := Aside0.mk hy126
                                                  clear hy126
                                                  have H' := Aside0.mk H
                                                  clear H
                                                  have p124 : 0 ≤ (x10_3 : Int) := of_decide_eq_true (by first | (with_reducible assumption) | assumption)
                                                  have q124 : x10_3 < (l0.length : Int) := of_decide_eq_true (by first | (with_reducible assumption) | assumption)
                                                  obtain ⟨ad124, A124_0, c124_0, e124, hx124_0, hl124_0, hi124_0⟩ := at_L2 HR0.out x10_3 p124 q124
                                                  obtain rfl : ad114 = ad124 := (by injection e124)
                                                  replace hx124_0 := (HB.out.cell (World.block_lt_of_cell? w _ hx124_0)).trans hx124_0
                                                  have HR124_0 := Aside0.mk hi124_0
                                                  have HC124_0 := Aside0.mk hl124_0
                                                  clear hi124_0 hl124_0
                                                  replace p124 := eq_true p124
                                                  replace q124 := eq_true q124
                                                  have p125 : 0 ≤ (x9_2 : Int) := of_decide_eq_true (by first | (with_reducible assumption) | assumption)
                                                  have q125 : x9_2 < ((rd_L2 l0 x10_3).length : Int) := of_decide_eq_true (by first | (with_reducible assumption) | assumption)
                                                  obtain ⟨ad125, e125, hx125_0⟩ := Kd.at_int HR124_0.out x9_2 p125 q125
                                                  cases e125
                                                  replace hx125_0 := (HB.out.cell (World.block_lt_of_cell? w _ hx125_0)).trans hx125_0
                                                  replace p125 := eq_true p125
                                                  replace q125 := eq_true q125
                                                  have p47 : 0 ≤ ((ji44) : Int) := of_decide_eq_true (by first | (with_reducible assumption) | assumption)
                                                  have q47 : ((ji44) : Int) < ((x8_3.length : Int) : Int) := of_decide_eq_true (by first | (with_reducible assumption) | assumption)
                                                  obtain ⟨go47, co47, eo47, gb47, gl47, cl47, HG47⟩ := Kd.R_form HO_8.out (by omega)
                                                  (first | cases eo47 | (injection eo47 with ea_ en_ ec_; (first | subst ea_ | (injection ea_ with ea_; subst ea_)); subst ec_; clear en_))
                                                  have GB47 := Aside0.mk gb47
                                                  have GG47 := Aside0.mk HG47
                                                  clear gb47 gl47 HG47
                                                  obtain ⟨hx47_0, hf47_0⟩ := Kd.R_celln 0 HO_8.out ((ji44) : Int) p47 q47
                                                  replace p47 := eq_true p47
                                                  replace q47 := eq_true q47
                                                  have HP48 := Kd.R_putg HO_8.out ((ji44) : Int) (wrap64 ((rd (rd_L2 l0 x10_3) x9_2) + x11_4))
                                                  go_wp2_with (first | ((with_reducible refine gate_store (t := 3) (p := 102) rfl ?_); refine store_event (t := 3) (p := 102) (v := ?vo_w49) (w1 := (wc.setCell ⟨go47, ((ji44) : Int).toNat, none⟩ (.int .i64 (wrap64 ((rd (rd_L2 l0 x10_3) x9_2) + x11_4))))) ?hg ?ho ?hn ?hr ?_; (case ho => rfl); (case hg => rfl); (case hn => rfl); (case hr => first | (go_simp; done) | (go_simp; rfl)); intro w49 hw; have hg : wc.grownBy w49 (some go47) := (by rw [hw]; exact HP48.2); have hp_ : Kd.R (Kd.int .i64) 3 w49 w.heap.size (fun k_ => some k_ ≠ (v110 : Value).ownBlock) (.slice (some ⟨go47, 0, none⟩) x8_3.length co47) y126 := (by rw [hw, Ny126.out]; exact HP48.1); clear HP48; have n0_ := Aside0.mk (Kd.R_after (v := (.slice (some ⟨go47, 0, none⟩) x8_3.length co47)) (v1 := (.slice (some ⟨go47, 0, none⟩) x8_3.length co47)) (ok := (fun _ => True)) (by (with_reducible repeat (first | apply Kd.R_alloc | apply Kd.R_drewN | apply Kd.R_drew)); exact Kd.R_mono HO_6.out (fun _ hk => ⟨trivial, hk⟩)) hg (.inl rfl)); have n1_ := Aside0.mk (hp_); have n2_ := Aside0.mk ((by rw [hw]; exact below_set (HB.out) GB47.out : Below w.heap.size w w49)); clear HO_6; clear HO_8; clear HB; have HO_6 := n0_; have HO_8 := n1_; have HB := n2_; clear n0_ n1_ n2_; clear hg hw hp_))
                                                  go_roundg kj17
                                                  case measure => have := HJ2.out; have := HK2.out; have := HK3.out; have := HK4.out; have := HJ17.out; omega
                                                  case rel => exact ⟨(y126), (wrap64 (x10_3 + 1)), (by first | rfl | (simp; done) | (simp [*]; done)), H', ⟨by have := HJ2.out; have := HK2.out; have := HK3.out; have := HK4.out; have := HJ17.out; omega⟩, ⟨by (with_reducible repeat (first | apply Kd.R_alloc | apply Kd.R_drewN | apply Kd.R_drew)); exact Kd.R_mono HO_6.out (fun _ hk => hk.2)⟩, ⟨by (with_reducible repeat (first | apply Kd.R_alloc | apply Kd.R_drewN | apply Kd.R_drew)); exact HO_8.out⟩, ⟨by repeat (first | (with_reducible first | exact HB.out | apply below_alloc | apply pw_below_drewN | apply below_drew1) | exact HB.out)⟩⟩
                                                · rw [if_neg c46] at H
                                                  exact absurd H (by simp)
                                              · rw [if_neg c45] at H
                                                exact absurd H (by simp)
                                            · rw [if_neg c43] at H
                                              exact absurd H (by simp)
                                          · rw [if_neg c42] at H
                                            exact absurd H (by simp)
                                        · rw [if_neg c41] at H
                                          exact absurd H (by simp)
                                      · rw [if_neg c40] at H
                                        exact absurd H (by simp)
                        · rw [if_neg c17] at H
                          have c17b0 : decide (x10_3 < (l0.length : Int)) = false := decide_eq_false c17
                          clear c17
                          have H' := Aside0.mk H
                          clear H
                          go_wp2
                          go_roundg k3
                          case measure => have := HJ2.out; have := HK2.out; have := HK3.out; omega
                          case rel => exact ⟨(x8_3), (wrap64 (x9_2 - 1)), (by first | rfl | (simp; done) | (simp [*]; done)), H', ⟨by have := HJ2.out; have := HK2.out; have := HK3.out; omega⟩, ⟨by (with_reducible repeat (first | apply Kd.R_alloc | apply Kd.R_drewN | apply Kd.R_drew)); exact HO_6.out⟩, ⟨by (with_reducible repeat (first | apply Kd.R_alloc | apply Kd.R_drewN | apply Kd.R_drew)); exact HO_8.out⟩, ⟨by repeat (first | (with_reducible first | exact HB.out | apply below_alloc | apply pw_below_drewN | apply below_drew1) | exact HB.out)⟩⟩
                  · rw [if_neg c16] at H
                    have c16b0 : decide (0 ≤ x9_2) = false := decide_eq_false c16
                    clear c16
                    have H' := Aside0.mk H
                    clear H
                    go_wp2
                    go_loopg [6, 14] k2 (fun kq v6 v14 w' => ∃ (x6_3 : List Int) (x14_3 : Int), v14 = .int .i64 x14_3 ∧ Aside0 (spec_BestSplice.l3 kq l0 a1 x6_3 ((rd_L2 l0 0).length : Int) x8_2 x14_3 = some (r1, r2)) ∧ Aside0 (kq ≤ k2) ∧ Aside0 (Kd.R (Kd.int .i64) 3 w' w.heap.size (fun k_ => some k_ ≠ (v116 : Value).ownBlock) v6 x6_3) ∧ Aside0 (Kd.R (Kd.int .i64) 3 w' w.heap.size (fun k_ => some k_ ≠ (v6 : Value).ownBlock) v116 x8_2) ∧ Aside0 (Below w.heap.size w w'))
                    case atStart => exact ⟨(y109), (0), (by first | rfl | (simp; done) | (simp [*]; done)), H', ⟨Nat.le_refl _⟩, ⟨by (with_reducible repeat (first | apply Kd.R_alloc | apply Kd.R_drewN | apply Kd.R_drew)); exact HO_6.out⟩, ⟨by (with_reducible repeat (first | apply Kd.R_alloc | apply Kd.R_drewN | apply Kd.R_drew)); exact HO_8.out⟩, ⟨by repeat (first | (with_reducible first | exact HB.out | apply below_alloc | apply pw_below_drewN | apply below_drew1) | exact HB.out)⟩⟩
                    case round =>
                      clear H'
                      try clear c1
                      try clear p1
                      try clear q1
                      try clear hx1
                      try clear qi1
                      try clear c2
                      try clear p2
                      try clear c3
                      try clear p3
                      try clear q3
                      try clear hx3
                      try clear hf3
                      try clear c4
                      try clear p4
                      try clear q4
                      try clear hx4
                      try clear hf4
                      try clear p6
                      try clear c7
                      try clear c9
                      try clear c10
                      try clear c10b0
                      try clear c10b1
                      try clear c11
                      try clear p11
                      try clear q11
                      try clear hx11
                      try clear qi11
                      try clear c12
                      try clear c12b0
                      try clear c12b1
                      try clear p12
                      try clear q12
                      try clear hx12
                      try clear c13
                      try clear c13b0
                      try clear c13b1
                      try clear c16
                      try clear c16b0
                      try clear c17
                      try clear c17b0
                      try clear c19
                      try clear c19b0
                      try clear c20
                      try clear c22
                      try clear c22b0
                      try clear c23
                      try clear c23b0
                      try clear c24
                      try clear c24b0
                      try clear c24b1
                      try clear c29
                      try clear c29b0
                      try clear c29b1
                      try clear c30
                      try clear c30b0
                      try clear c31
                      try clear c31b0
                      try clear c32
                      try clear c32b0
                      try clear c33
                      try clear c33b0
                      try clear c35
                      try clear c35b0
                      try clear c36
                      try clear c36b0
                      try clear p37
                      try clear q37
                      try clear hx37
                      try clear hf37
                      try clear c38
                      try clear c40
                      try clear c40b0
                      try clear c41
                      try clear c41b0
                      try clear c42
                      try clear c42b0
                      try clear c43
                      try clear c43b0
                      try clear c45
                      try clear c45b0
                      try clear c46
                      try clear c46b0
                      try clear p47
                      try clear q47
                      try clear hx47
                      try clear hf47
                      try clear hx114_0
                      try clear hx118_0
                      try clear hx121_0
                      try clear hx122_0
                      try clear hx124_0
                      try clear hx125_0
                      try clear hx37_0
                      try clear hx47_0
                      try clear p1
                      try clear p11
                      try clear p114
                      try clear p118
                      try clear p121
                      try clear p122
                      try clear p124
                      try clear p125
                      try clear p2
                      try clear p37
                      try clear p47
                      try clear p6
                      try clear q1
                      try clear q11
                      try clear q114
                      try clear q118
                      try clear q121
                      try clear q122
                      try clear q124
                      try clear q125
                      try clear q37
                      try clear q47
                      obtain ⟨x6_3, x14_3, rfl, HA, HK3, HO_6, HO_8, HB⟩ := hrel
                      cases gk with
                      | zero => exact absurd HA.out (by simp [spec_BestSplice.l3])
                      | succ k3 =>
                        have H := HA.out
                        clear HA
                        simp only [spec_BestSplice.l3] at H
                        by_cases c50 : x14_3 < ((rd_L2 l0 0).length : Int)
                        · rw [if_pos c50] at H
                          have c50b0 : decide (x14_3 < ((rd_L2 l0 0).length : Int)) = true := decide_eq_true c50
                          clear c50
                          have H' := Aside0.mk H
                          clear H
                          go_wp2
                          go_loopg [15, 16, 17] k3 (fun kq v15 v16 v17 w' => ∃ (x15_4 : Int) (x16_4 : Int) (x17_4 : Int), v15 = .int .i64 x15_4 ∧ v16 = .int .i64 x16_4 ∧ v17 = .int .i64 x17_4 ∧ Aside0 (spec_BestSplice.l4 kq l0 a1 x6_3 ((rd_L2 l0 0).length : Int) x8_2 x14_3 x15_4 x16_4 x17_4 = some (r1, r2)) ∧ Aside0 (kq ≤ k3) ∧ Aside0 (Kd.R (Kd.int .i64) 3 w' w.heap.size (fun k_ => some k_ ≠ (v116 : Value).ownBlock) u6 x6_3) ∧ Aside0 (Kd.R (Kd.int .i64) 3 w' w.heap.size (fun k_ => some k_ ≠ (u6 : Value).ownBlock) v116 x8_2) ∧ Aside0 (Below w.heap.size w w'))
                          case atStart => exact ⟨((-1)), (0), (0), (by first | rfl | (simp; done) | (simp [*]; done)), (by first | rfl | (simp; done) | (simp [*]; done)), (by first | rfl | (simp; done) | (simp [*]; done)), H', ⟨Nat.le_refl _⟩, ⟨by (with_reducible repeat (first | apply Kd.R_alloc | apply Kd.R_drewN | apply Kd.R_drew)); exact HO_6.out⟩, ⟨by (with_reducible repeat (first | apply Kd.R_alloc | apply Kd.R_drewN | apply Kd.R_drew)); exact HO_8.out⟩, ⟨by repeat (first | (with_reducible first | exact HB.out | apply below_alloc | apply pw_below_drewN | apply below_drew1) | exact HB.out)⟩⟩
                          case round =>
                            clear H'
                            try clear c1
                            try clear p1
                            try clear q1
                            try clear hx1
                            try clear qi1
                            try clear c2
                            try clear p2
                            try clear c3
                            try clear p3
                            try clear q3
                            try clear hx3
                            try clear hf3
                            try clear c4
                            try clear p4
                            try clear q4
                            try clear hx4
                            try clear hf4
                            try clear c5
                            try clear p6
                            try clear c7
                            try clear c9
                            try clear c10
                            try clear c10b0
                            try clear c10b1
                            try clear c11
                            try clear p11
                            try clear q11
                            try clear hx11
                            try clear qi11
                            try clear c12
                            try clear c12b0
                            try clear c12b1
                            try clear p12
                            try clear q12
                            try clear hx12
                            try clear c13
                            try clear c13b0
                            try clear c13b1
                            try clear c16
                            try clear c16b0
                            try clear c17
                            try clear c17b0
                            try clear c19
                            try clear c19b0
                            try clear c20
                            try clear c22
                            try clear c22b0
                            try clear c23
                            try clear c23b0
                            try clear c24
                            try clear c24b0
                            try clear c24b1
                            try clear c29
                            try clear c29b0
                            try clear c29b1
                            try clear c30
                            try clear c30b0
                            try clear c31
                            try clear c31b0
                            try clear c32
                            try clear c32b0
                            try clear c33
                            try clear c33b0
                            try clear c35
                            try clear c35b0
                            try clear c36
                            try clear c36b0
                            try clear p37
                            try clear q37
                            try clear hx37
                            try clear hf37
                            try clear c38
                            try clear c40
                            try clear c40b0
                            try clear c41
                            try clear c41b0
                            try clear c42
                            try clear c42b0
                            try clear c43
                            try clear c43b0
                            try clear c45
                            try clear c45b0
                            try clear c46
                            try clear c46b0
                            try clear p47
                            try clear q47
                            try clear hx47
                            try clear hf47
                            try clear c50
                            try clear c50b0
                            try clear hx114_0
                            try clear hx118_0
                            try clear hx121_0
                            try clear hx122_0
                            try clear hx124_0
                            try clear hx125_0
                            try clear hx37_0
                            try clear hx47_0
                            try clear p1
                            try clear p11
                            try clear p114
                            try clear p118
                            try clear p12
                            try clear p121
                            try clear p122
                            try clear p124
                            try clear p125
                            try clear p2
                            try clear p3
                            try clear p37
                            try clear p4
                            try clear p47
                            try clear p6
                            try clear q1
                            try clear q11
                            try clear q114
                            try clear q118
                            try clear q12
                            try clear q121
                            try clear q122
                            try clear q124
                            try clear q125
                            try clear q3
                            try clear q37
                            try clear q4
                            try clear q47
                            obtain ⟨x15_4, x16_4, x17_4, rfl, rfl, rfl, HA, HK4, HO_6, HO_8, HB⟩ := hrel
                            cases gk with
                            | zero => exact absurd HA.out (by simp [spec_BestSplice.l4])
                            | succ k4 =>
                              have H := HA.out
                              clear HA
                              simp only [spec_BestSplice.l4] at H
                              by_cases c51 : x17_4 < (l0.length : Int)
                              · rw [if_pos c51] at H
                                have c51b0 : decide (x17_4 < (l0.length : Int)) = true := decide_eq_true c51
                                clear c51
                                obtain ⟨ji52, hji52⟩ : ∃ j_ : Int, (wrap64 ((wrap64 (x14_3 * (l0.length : Int))) + x17_4)) = j_ := ⟨_, rfl⟩
                                replace H : (if 0 ≤ (ji52) then (if (ji52) < (x8_2.length : Int) then (if x14_3 > 0 then (if 0 ≤ (wrap64 (x14_3 - 1)) then (if (wrap64 (x14_3 - 1)) < (x6_3.length : Int) then (spec_BestSplice.j7 k4 l0 a1 x6_3 ((rd_L2 l0 0).length : Int) x8_2 x14_3 x15_4 x16_4 x17_4 (rd x8_2 (ji52)) (x17_4 != (rd x6_3 (wrap64 (x14_3 - 1))))) else (none)) else (none)) else (spec_BestSplice.j7 k4 l0 a1 x6_3 ((rd_L2 l0 0).length : Int) x8_2 x14_3 x15_4 x16_4 x17_4 (rd x8_2 (ji52)) false)) else (none)) else (none)) = some (r1, r2) := by first | (rw [hji52] at H; exact H) | (simp only [hji52] at H ⊢; exact H)
                                have hji52w : (IntKind.i64.wrap ((wrap64 (x14_3 * (l0.length : Int))) + x17_4)) = ji52 := (i64_w _).trans hji52
                                by_cases c53 : 0 ≤ (ji52)
                                · rw [if_pos c53] at H
                                  have c53b0 : decide (0 ≤ (ji52)) = true := decide_eq_true c53
                                  clear c53
                                  by_cases c54 : (ji52) < (x8_2.length : Int)
                                  · rw [if_pos c54] at H
                                    have c54b0 : decide ((ji52) < (x8_2.length : Int)) = true := decide_eq_true c54
                                    clear c54
                                    have HC55 := Aside0.mk H
                                    clear H
                                    obtain ⟨Ao56, co56, eo56⟩ := Kd.R_slice HO_8.out
                                    subst eo56
                                    have p130 : 0 ≤ ((ji52) : Int) := of_decide_eq_true (by first | (with_reducible assumption) | assumption)
                                    have q130 : (ji52) < (x8_2.length : Int) := of_decide_eq_true (by first | (with_reducible assumption) | assumption)
                                    obtain ⟨ad130, e130, hx130_0⟩ := Kd.at_int (Kd.R_reads' HO_8.out).2.2 (ji52) p130 q130
                                    cases e130
                                    replace p130 := eq_true p130
                                    replace q130 := eq_true q130
                                    go_upto_region 32 with (fail)
                                    go_cut [133] (fun v133 wc => ∃ (kq : Nat) (x133_54 : Bool), v133 = .bool x133_54 ∧ Aside0 (spec_BestSplice.j7 kq l0 a1 x6_3 ((rd_L2 l0 0).length : Int) x8_2 x14_3 x15_4 x16_4 x17_4 (rd x8_2 (ji52)) x133_54 = some (r1, r2)) ∧ Aside0 (kq ≤ k4) ∧ Aside0 (Kd.R (Kd.int .i64) 3 wc w.heap.size (fun k_ => some k_ ≠ ((.slice (some ad130) x8_2.length co56) : Value).ownBlock) u6 x6_3) ∧ Aside0 (Kd.R (Kd.int .i64) 3 wc w.heap.size (fun k_ => some k_ ≠ (u6 : Value).ownBlock) (.slice (some ad130) x8_2.length co56) x8_2) ∧ Aside0 (Below w.heap.size w wc))
                                    case first =>
                                      have H := HC55.out
                                      clear HC55
                                      by_cases c57 : x14_3 > 0
                                      · rw [if_pos c57] at H
                                        have c57b0 : decide (0 < x14_3) = true := decide_eq_true c57
                                        clear c57
                                        (first | rw [c57b0] | (simp only [i64_w, i32_w]; rw [c57b0]) | skip)
                                        obtain ⟨ji58, hji58⟩ : ∃ j_ : Int, (wrap64 (x14_3 - 1)) = j_ := ⟨_, rfl⟩
                                        replace H : (if 0 ≤ (ji58) then (if (ji58) < (x6_3.length : Int) then (spec_BestSplice.j7 k4 l0 a1 x6_3 ((rd_L2 l0 0).length : Int) x8_2 x14_3 x15_4 x16_4 x17_4 (rd x8_2 (ji52)) (x17_4 != (rd x6_3 (ji58)))) else (none)) else (none)) = some (r1, r2) := by first | (rw [hji58] at H; exact H) | (simp only [hji58] at H ⊢; exact H)
                                        have hji58w : (IntKind.i64.wrap (x14_3 - 1)) = ji58 := (i64_w _).trans hji58
                                        by_cases c59 : 0 ≤ (ji58)
                                        · rw [if_pos c59] at H
                                          have c59b0 : decide (0 ≤ (ji58)) = true := decide_eq_true c59
                                          clear c59
                                          by_cases c60 : (ji58) < (x6_3.length : Int)
                                          · rw [if_pos c60] at H
                                            have c60b0 : decide ((ji58) < (x6_3.length : Int)) = true := decide_eq_true c60
                                            clear c60
                                            have H' := Aside0.mk H
                                            clear H
                                            obtain ⟨Ao61, co61, eo61⟩ := Kd.R_slice HO_6.out
                                            subst eo61
                                            have p131 : 0 ≤ ((ji58) : Int) := of_decide_eq_true (by first | (with_reducible assumption) | assumption)
                                            have q131 : (ji58) < (x6_3.length : Int) := of_decide_eq_true (by first | (with_reducible assumption) | assumption)
                                            obtain ⟨ad131, e131, hx131_0⟩ := Kd.at_int (Kd.R_reads' HO_6.out).2.2 (ji58) p131 q131
                                            cases e131
                                            replace p131 := eq_true p131
                                            replace q131 := eq_true q131
                                            go_wp2
                                            go_meet
                                            case rel => exact ⟨_, ((x17_4 != (rd x6_3 (ji58)))), (by first | rfl | (simp; done) | (simp only [← hji58] <;> (first | rfl | simp)) | (simp [*]; done)), H', ⟨by have := HJ2.out; have := HK2.out; have := HK3.out; have := HK4.out; first | omega | exact Nat.le_refl _⟩, ⟨by (with_reducible repeat (first | apply Kd.R_alloc | apply Kd.R_drewN | apply Kd.R_drew)); exact HO_6.out⟩, ⟨by (with_reducible repeat (first | apply Kd.R_alloc | apply Kd.R_drewN | apply Kd.R_drew)); exact HO_8.out⟩, ⟨by repeat (first | (with_reducible first | exact HB.out | apply below_alloc | apply pw_below_drewN | apply below_drew1) | exact HB.out)⟩⟩
                                          · rw [if_neg c60] at H
                                            exact absurd H (by simp)
                                        · rw [if_neg c59] at H
                                          exact absurd H (by simp)
                                      · rw [if_neg c57] at H
                                        have c57b0 : decide (0 < x14_3) = false := decide_eq_false c57
                                        clear c57
                                        (first | rw [c57b0] | (simp only [i64_w, i32_w]; rw [c57b0]) | skip)
                                        have H' := Aside0.mk H
                                        clear H
                                        go_wp2
                                        go_meet
                                        case rel => exact ⟨_, (false), (by first | rfl | (simp; done) | (simp [*]; done)), H', ⟨by have := HJ2.out; have := HK2.out; have := HK3.out; have := HK4.out; first | omega | exact Nat.le_refl _⟩, ⟨by (with_reducible repeat (first | apply Kd.R_alloc | apply Kd.R_drewN | apply Kd.R_drew)); exact HO_6.out⟩, ⟨by (with_reducible repeat (first | apply Kd.R_alloc | apply Kd.R_drewN | apply Kd.R_drew)); exact HO_8.out⟩, ⟨by repeat (first | (with_reducible first | exact HB.out | apply below_alloc | apply pw_below_drewN | apply below_drew1) | exact HB.out)⟩⟩
                                    case rest =>
                                      clear HC55
                                      try clear c1
                                      try clear p1
                                      try clear q1
                                      try clear hx1
                                      try clear qi1
                                      try clear c2
                                      try clear p2
                                      try clear c3
                                      try clear p3
                                      try clear q3
                                      try clear hx3
                                      try clear hf3
                                      try clear c4
                                      try clear p4
                                      try clear q4
                                      try clear hx4
                                      try clear hf4
                                      try clear c5
                                      try clear c6
                                      try clear p6
                                      try clear c7
                                      try clear c9
                                      try clear c10
                                      try clear c10b0
                                      try clear c10b1
                                      try clear c11
                                      try clear p11
                                      try clear q11
                                      try clear hx11
                                      try clear qi11
                                      try clear c12
                                      try clear c12b0
                                      try clear c12b1
                                      try clear p12
                                      try clear q12
                                      try clear hx12
                                      try clear c13
                                      try clear c13b0
                                      try clear c13b1
                                      try clear p13
                                      try clear q13
                                      try clear hx13
                                      try clear c16
                                      try clear c16b0
                                      try clear c17
                                      try clear c17b0
                                      try clear c19
                                      try clear c19b0
                                      try clear c20
                                      try clear c22
                                      try clear c22b0
                                      try clear c23
                                      try clear c23b0
                                      try clear c24
                                      try clear c24b0
                                      try clear c24b1
                                      try clear c29
                                      try clear c29b0
                                      try clear c29b1
                                      try clear c30
                                      try clear c30b0
                                      try clear c31
                                      try clear c31b0
                                      try clear c32
                                      try clear c32b0
                                      try clear c33
                                      try clear c33b0
                                      try clear c35
                                      try clear c35b0
                                      try clear c36
                                      try clear c36b0
                                      try clear p37
                                      try clear q37
                                      try clear hx37
                                      try clear hf37
                                      try clear c38
                                      try clear c40
                                      try clear c40b0
                                      try clear c41
                                      try clear c41b0
                                      try clear c42
                                      try clear c42b0
                                      try clear c43
                                      try clear c43b0
                                      try clear c45
                                      try clear c45b0
                                      try clear c46
                                      try clear c46b0
                                      try clear p47
                                      try clear q47
                                      try clear hx47
                                      try clear hf47
                                      try clear c50
                                      try clear c50b0
                                      try clear c51
                                      try clear c51b0
                                      try clear c53
                                      try clear c53b0
                                      try clear c54
                                      try clear c54b0
                                      try clear c57
                                      try clear c57b0
                                      try clear c59
                                      try clear c59b0
                                      try clear c60
                                      try clear c60b0
                                      try clear hx114_0
                                      try clear hx118_0
                                      try clear hx121_0
                                      try clear hx122_0
                                      try clear hx124_0
                                      try clear hx125_0
                                      try clear hx130_0
                                      try clear hx131_0
                                      try clear hx37_0
                                      try clear hx47_0
                                      try clear p1
                                      try clear p11
                                      try clear p114
                                      try clear p118
                                      try clear p12
                                      try clear p121
                                      try clear p122
                                      try clear p124
                                      try clear p125
                                      try clear p130
                                      try clear p131
                                      try clear p2
                                      try clear p3
                                      try clear p37
                                      try clear p4
                                      try clear p47
                                      try clear p6
                                      try clear q1
                                      try clear q11
                                      try clear q114
                                      try clear q118
                                      try clear q12
                                      try clear q121
                                      try clear q122
                                      try clear q124
                                      try clear q125
                                      try clear q130
                                      try clear q131
                                      try clear q3
                                      try clear q37
                                      try clear q4
                                      try clear q47
                                      obtain ⟨kq, x133_54, rfl, HA, HJ54, HO_6, HO_8, HB⟩ := hcut
                                      cases kq with
                                      | zero => exact absurd HA.out (by simp [spec_BestSplice.j7])
                                      | succ kj54 =>
                                        have H := HA.out
                                        clear HA
                                        simp only [spec_BestSplice.j7] at H
                                        by_cases c62 : x133_54 = true
                                        · subst c62
                                          have H1 : (if x15_4 < 0 then (spec_BestSplice.l4 kj54 l0 a1 x6_3 ((rd_L2 l0 0).length : Int) x8_2 x14_3 x17_4 (wrap64 ((rd x8_2 (ji52)) + a1)) (wrap64 (x17_4 + 1))) else (if (wrap64 ((rd x8_2 (ji52)) + a1)) < x16_4 then (spec_BestSplice.l4 kj54 l0 a1 x6_3 ((rd_L2 l0 0).length : Int) x8_2 x14_3 x17_4 (wrap64 ((rd x8_2 (ji52)) + a1)) (wrap64 (x17_4 + 1))) else (spec_BestSplice.l4 kj54 l0 a1 x6_3 ((rd_L2 l0 0).length : Int) x8_2 x14_3 x15_4 x16_4 (wrap64 (x17_4 + 1))))) = some (r1, r2) := by rw [if_pos rfl] at H; exact H
                                          clear H
                                          have H := H1
                                          clear H1
                                          by_cases c63 : x15_4 < 0
                                          · rw [if_pos c63] at H
                                            have c63b0 : decide (x15_4 < 0) = true := decide_eq_true c63
                                            clear c63
                                            have H' := Aside0.mk H
                                            clear H
                                            go_wp2
                                            go_roundg kj54
                                            case measure => have := HJ2.out; have := HK2.out; have := HK3.out; have := HK4.out; have := HJ54.out; omega
                                            case rel => exact ⟨(x17_4), (wrap64 ((rd x8_2 (ji52)) + a1)), (wrap64 (x17_4 + 1)), (by first | rfl | (simp; done) | (simp [*]; done)), (by first | rfl | (simp; done) | (simp only [← hji52] <;> (first | rfl | simp)) | (simp [*]; done)), (by first | rfl | (simp; done) | (simp [*]; done)), H', ⟨by have := HJ2.out; have := HK2.out; have := HK3.out; have := HK4.out; have := HJ54.out; omega⟩, ⟨by (with_reducible repeat (first | apply Kd.R_alloc | apply Kd.R_drewN | apply Kd.R_drew)); exact HO_6.out⟩, ⟨by (with_reducible repeat (first | apply Kd.R_alloc | apply Kd.R_drewN | apply Kd.R_drew)); exact HO_8.out⟩, ⟨by repeat (first | (with_reducible first | exact HB.out | apply below_alloc | apply pw_below_drewN | apply below_drew1) | exact HB.out)⟩⟩
                                          · rw [if_neg c63] at H
                                            have c63b0 : decide (x15_4 < 0) = false := decide_eq_false c63
                                            clear c63
                                            by_cases c64 : (wrap64 ((rd x8_2 (ji52)) + a1)) < x16_4
                                            · rw [if_pos c64] at H
                                              have c64b0 : decide ((wrap64 ((rd x8_2 (ji52)) + a1)) < x16_4) = true := decide_eq_true c64
                                              clear c64
                                              have H' := Aside0.mk H
                                              clear H
                                              go_wp2
                                              go_roundg kj54
                                              case measure => have := HJ2.out; have := HK2.out; have := HK3.out; have := HK4.out; have := HJ54.out; omega
                                              case rel => exact ⟨(x17_4), (wrap64 ((rd x8_2 (ji52)) + a1)), (wrap64 (x17_4 + 1)), (by first | rfl | (simp; done) | (simp [*]; done)), (by first | rfl | (simp; done) | (simp only [← hji52] <;> (first | rfl | simp)) | (simp [*]; done)), (by first | rfl | (simp; done) | (simp [*]; done)), H', ⟨by have := HJ2.out; have := HK2.out; have := HK3.out; have := HK4.out; have := HJ54.out; omega⟩, ⟨by (with_reducible repeat (first | apply Kd.R_alloc | apply Kd.R_drewN | apply Kd.R_drew)); exact HO_6.out⟩, ⟨by (with_reducible repeat (first | apply Kd.R_alloc | apply Kd.R_drewN | apply Kd.R_drew)); exact HO_8.out⟩, ⟨by repeat (first | (with_reducible first | exact HB.out | apply below_alloc | apply pw_below_drewN | apply below_drew1) | exact HB.out)⟩⟩
                                            · rw [if_neg c64] at H
                                              have c64b0 : decide ((wrap64 ((rd x8_2 (ji52)) + a1)) < x16_4) = false := decide_eq_false c64
                                              clear c64
                                              have H' := Aside0.mk H
                                              clear H
                                              go_wp2
                                              go_roundg kj54
                                              case measure => have := HJ2.out; have := HK2.out; have := HK3.out; have := HK4.out; have := HJ54.out; omega
                                              case rel => exact ⟨(x15_4), (x16_4), (wrap64 (x17_4 + 1)), (by first | rfl | (simp; done) | (simp [*]; done)), (by first | rfl | (simp; done) | (simp [*]; done)), (by first | rfl | (simp; done) | (simp [*]; done)), H', ⟨by have := HJ2.out; have := HK2.out; have := HK3.out; have := HK4.out; have := HJ54.out; omega⟩, ⟨by (with_reducible repeat (first | apply Kd.R_alloc | apply Kd.R_drewN | apply Kd.R_drew)); exact HO_6.out⟩, ⟨by (with_reducible repeat (first | apply Kd.R_alloc | apply Kd.R_drewN | apply Kd.R_drew)); exact HO_8.out⟩, ⟨by repeat (first | (with_reducible first | exact HB.out | apply below_alloc | apply pw_below_drewN | apply below_drew1) | exact HB.out)⟩⟩
                                        · replace c62 := Bool.eq_false_iff.mpr c62
                                          subst c62
                                          have H1 : (if x15_4 < 0 then (spec_BestSplice.l4 kj54 l0 a1 x6_3 ((rd_L2 l0 0).length : Int) x8_2 x14_3 x17_4 (rd x8_2 (ji52)) (wrap64 (x17_4 + 1))) else (if (rd x8_2 (ji52)) < x16_4 then (spec_BestSplice.l4 kj54 l0 a1 x6_3 ((rd_L2 l0 0).length : Int) x8_2 x14_3 x17_4 (rd x8_2 (ji52)) (wrap64 (x17_4 + 1))) else (spec_BestSplice.l4 kj54 l0 a1 x6_3 ((rd_L2 l0 0).length : Int) x8_2 x14_3 x15_4 x16_4 (wrap64 (x17_4 + 1))))) = some (r1, r2) := by rw [if_neg (show ¬ (false = true) by decide)] at H; exact H
                                          clear H
                                          have H := H1
                                          clear H1
                                          by_cases c65 : x15_4 < 0
                                          · rw [if_pos c65] at H
                                            have c65b0 : decide (x15_4 < 0) = true := decide_eq_true c65
                                            clear c65
                                            have H' := Aside0.mk H
                                            clear H
                                            go_wp2
                                            go_roundg kj54
                                            case measure => have := HJ2.out; have := HK2.out; have := HK3.out; have := HK4.out; have := HJ54.out; omega
                                            case rel => exact ⟨(x17_4), ((rd x8_2 (ji52))), (wrap64 (x17_4 + 1)), (by first | rfl | (simp; done) | (simp [*]; done)), (by first | rfl | (simp; done) | (simp only [← hji52] <;> (first | rfl | simp)) | (simp [*]; done)), (by first | rfl | (simp; done) | (simp [*]; done)), H', ⟨by have := HJ2.out; have := HK2.out; have := HK3.out; have := HK4.out; have := HJ54.out; omega⟩, ⟨by (with_reducible repeat (first | apply Kd.R_alloc | apply Kd.R_drewN | apply Kd.R_drew)); exact HO_6.out⟩, ⟨by (with_reducible repeat (first | apply Kd.R_alloc | apply Kd.R_drewN | apply Kd.R_drew)); exact HO_8.out⟩, ⟨by repeat (first | (with_reducible first | exact HB.out | apply below_alloc | apply pw_below_drewN | apply below_drew1) | exact HB.out)⟩⟩
                                          · rw [if_neg c65] at H
                                            have c65b0 : decide (x15_4 < 0) = false := decide_eq_false c65
                                            clear c65
                                            by_cases c66 : (rd x8_2 (ji52)) < x16_4
                                            · rw [if_pos c66] at H
                                              have c66b0 : decide ((rd x8_2 (ji52)) < x16_4) = true := decide_eq_true c66
                                              clear c66
                                              have H' := Aside0.mk H
                                              clear H
                                              go_wp2
                                              go_roundg kj54
                                              case measure => have := HJ2.out; have := HK2.out; have := HK3.out; have := HK4.out; have := HJ54.out; omega
                                              case rel => exact ⟨(x17_4), ((rd x8_2 (ji52))), (wrap64 (x17_4 + 1)), (by first | rfl | (simp; done) | (simp [*]; done)), (by first | rfl | (simp; done) | (simp only [← hji52] <;> (first | rfl | simp)) | (simp [*]; done)), (by first | rfl | (simp; done) | (simp [*]; done)), H', ⟨by have := HJ2.out; have := HK2.out; have := HK3.out; have := HK4.out; have := HJ54.out; omega⟩, ⟨by (with_reducible repeat (first | apply Kd.R_alloc | apply Kd.R_drewN | apply Kd.R_drew)); exact HO_6.out⟩, ⟨by (with_reducible repeat (first | apply Kd.R_alloc | apply Kd.R_drewN | apply Kd.R_drew)); exact HO_8.out⟩, ⟨by repeat (first | (with_reducible first | exact HB.out | apply below_alloc | apply pw_below_drewN | apply below_drew1) | exact HB.out)⟩⟩
                                            · rw [if_neg c66] at H
                                              have c66b0 : decide ((rd x8_2 (ji52)) < x16_4) = false := decide_eq_false c66
                                              clear c66
                                              have H' := Aside0.mk H
                                              clear H
                                              go_wp2
                                              go_roundg kj54
                                              case measure => have := HJ2.out; have := HK2.out; have := HK3.out; have := HK4.out; have := HJ54.out; omega
                                              case rel => exact ⟨(x15_4), (x16_4), (wrap64 (x17_4 + 1)), (by first | rfl | (simp; done) | (simp [*]; done)), (by first | rfl | (simp; done) | (simp [*]; done)), (by first | rfl | (simp; done) | (simp [*]; done)), H', ⟨by have := HJ2.out; have := HK2.out; have := HK3.out; have := HK4.out; have := HJ54.out; omega⟩, ⟨by (with_reducible repeat (first | apply Kd.R_alloc | apply Kd.R_drewN | apply Kd.R_drew)); exact HO_6.out⟩, ⟨by (with_reducible repeat (first | apply Kd.R_alloc | apply Kd.R_drewN | apply Kd.R_drew)); exact HO_8.out⟩, ⟨by repeat (first | (with_reducible first | exact HB.out | apply below_alloc | apply pw_below_drewN | apply below_drew1) | exact HB.out)⟩⟩
                                  · rw [if_neg c54] at H
                                    exact absurd H (by simp)
                                · rw [if_neg c53] at H
                                  exact absurd H (by simp)
                              · rw [if_neg c51] at H
                                have c51b0 : decide (x17_4 < (l0.length : Int)) = false := decide_eq_false c51
                                clear c51
                                by_cases c67 : x6_3.length < 17592186044416
                                · rw [if_pos c67] at H
                                  have LMc67 := Aside0.mk c67
                                  clear c67
                                  obtain ⟨y127, hy127⟩ : ∃ y_ : List Int, y_ = (x6_3 ++ [x15_4]) := ⟨_, rfl⟩
                                  replace H : (spec_BestSplice.l3 k4 l0 a1 y127 ((rd_L2 l0 0).length : Int) x8_2 (wrap64 (x14_3 + 1))) = some (r1, r2) := by first | (rw [hy127]; with_reducible exact H) | (have H2_ := (Option.bind_some _ _).symm.trans H; rw [hy127]; with_reducible exact H2_) | (have H2_ := (Option.bind_some _ _).symm.trans H; with_reducible exact H2_) | with_reducible exact H | (rw [hy127]; exact H) | exact H
                                  have Ny127 := Aside0.mk hy127
                                  clear hy127
                                  have H' := Aside0.mk H
                                  clear H
                                  go_wp2_with (first | ((with_reducible refine gate_builtin (b := .append) (xs := #[.tmp 146, .tmp 148]) rfl ?_); at_builtin; refine Kd.R_append (Kd.int .i64) (w0 := w) w.heap.size rfl (.tmp 146) (.tmp 148) 25 3 (.int .i64 0) 8 rfl Try.underlying25 info3 rfl (by decide) (by omega) u6 x6_3 x15_4 [.int .i64 x15_4] (fun k_ => some k_ ≠ (v116 : Value).ownBlock) (fun _ => False) rfl rfl ?aP (fun _ hk => hk.elim) ?aF ?aO ?aB ?aS ?aL ?_; (case aP => exact rfl); (case aB => exact (by repeat (first | (with_reducible first | exact HB.out | apply below_alloc | apply pw_below_drewN | apply below_drew1) | exact HB.out))); (case aF => exact (fun k_ hk => Kd.fresh' (Kd.R_lt (by (with_reducible repeat (first | apply Kd.R_alloc | apply Kd.R_drewN | apply Kd.R_drew)); exact HO_8.out)) k_ hk)); (case aO => exact (by (with_reducible repeat (first | apply Kd.R_alloc | apply Kd.R_drewN | apply Kd.R_drew)); exact HO_6.out)); (case aS => exact (below_size (by repeat (first | (with_reducible first | exact HB.out | apply below_alloc | apply pw_below_drewN | apply below_drew1) | exact HB.out)))); (case aL => have := LMc67.out; omega); intro v128 w68 ho hb hg hat; rw [← Ny127.out] at ho; have n0_ := Aside0.mk (Kd.R_after (ok := (fun _ => True)) (by (with_reducible repeat (first | apply Kd.R_alloc | apply Kd.R_drewN | apply Kd.R_drew)); exact Kd.R_mono HO_8.out (fun _ hk => ⟨trivial, hk⟩)) hg hat); have n1_ := Aside0.mk (hb); have n2_ := Aside0.mk (ho); clear HO_8; clear HB; clear HO_6; have HO_8 := n0_; have HB := n1_; have HO129 := n2_; clear n0_ n1_ n2_; clear ho hb hg hat))
                                  go_roundg k4
                                  case measure => have := HJ2.out; have := HK2.out; have := HK3.out; have := HK4.out; omega
                                  case rel => exact ⟨(y127), (wrap64 (x14_3 + 1)), (by first | rfl | (simp; done) | (simp [*]; done)), H', ⟨by have := HJ2.out; have := HK2.out; have := HK3.out; have := HK4.out; omega⟩, ⟨by (with_reducible repeat (first | apply Kd.R_alloc | apply Kd.R_drewN | apply Kd.R_drew)); exact HO129.out⟩, ⟨by (with_reducible repeat (first | apply Kd.R_alloc | apply Kd.R_drewN | apply Kd.R_drew)); exact Kd.R_mono HO_8.out (fun _ hk => hk.2)⟩, ⟨by repeat (first | (with_reducible first | exact HB.out | apply below_alloc | apply pw_below_drewN | apply below_drew1) | exact HB.out)⟩⟩
                                · rw [if_neg c67] at H
                                  exact absurd H (by simp)
                        · rw [if_neg c50] at H
                          have c50b0 : decide (x14_3 < ((rd_L2 l0 0).length : Int)) = false := decide_eq_false c50
                          clear c50
                          simp only [Option.some.injEq, Prod.mk.injEq] at H
                          obtain ⟨rfl, rfl⟩ := H
                          go_wp2
                          go_ret2
                          exact ⟨_, by first | rfl | (simp [errW_none, errW_some] <;> rfl) | (simp only [← hji11]; first | rfl | (simp [errW_none, errW_some] <;> rfl)) | (simp [*, errW_none, errW_some] <;> rfl), by (with_reducible repeat (first | apply Kd.R_alloc | apply Kd.R_drewN | apply Kd.R_drew)); exact Kd.R_mono HO_6.out (fun _ hk => trivial), by repeat (first | (with_reducible first | exact HB.out | apply below_alloc | apply pw_below_drewN | apply below_drew1) | exact HB.out)⟩
            · rw [if_neg c13] at H
              exact absurd H (by simp)
          · rw [if_neg c12] at H
            exact absurd H (by simp)
        · rw [if_neg c10] at H
          exact absurd H (by simp)

end Go.Proofs.Ytdbmllbphbhfpaa.PSp
