-- By this session's own program over the kit's print; every row is checked by Lean.
import Derived.Test.YtdbmllbphbhfpaaPSp0
import Derived.Test.YtdbmllbphbhfpaaPSp2
import Derived.Test.YtdbmllbphbhfpaaPSp3
namespace Go.Proofs.Ytdbmllbphbhfpaa.PSp
open Go.RowKit Go.Proofs.YtdbmllbphbhfpaaW.PrintWords Go.Proofs.YtdbmllbphbhfpaaW.PrintLast Go.Proofs.YtdbmllbphbhfpaaW.PrintMore
attribute [local go_sem] max2_int min2_int max_two min_two max_three min_three max_four min_four   -- for this text's walks alone
set_option linter.unusedVariables false
set_option linter.unusedSimpArgs false

/-! ### spec_DrawSpliceCost: function 7 -/
def spec_DrawSpliceCost.j0 : Nat → List (List Int) → Int → List Int → Bool → List Int → Int → Int → Option ((List (List Int)) × Int × List Int)
  | 0, _, _, _, _, _, _, _ => none
  | k + 1, x6, x7, x8, x29, x201000, x201001, x201002 => if x29 = true then ((spec_l1Below.f x201000 x201001 x201002 (x8.length : Int)).bind fun bt219 => ((spec_l1Below.f x201000 bt219.2.1 bt219.2.2 6).bind fun bt222 => (if 0 ≤ bt219.1 then (if bt219.1 < (x8.length : Int) then (some (x6, x7, (x8.set (bt219.1 : Int).toNat (wrap64 (bt222.1 - 1))))) else (none)) else (none)))) else (some (x6, x7, x8))
def spec_DrawSpliceCost.f (k : Nat) (l0 : List Int) : Option ((List (List Int)) × Int × List Int) := (spec_l1New.f k l0).bind fun bt197 => ((spec_l32Any.f k bt197.1 bt197.2.1 bt197.2.2).bind fun bt201 => ((spec_l1Int.f bt197.1 bt201.2.1 bt201.2.2 (([0, 1, 3, 999, 1000] : List Int))).bind fun bt209 => ((spec_BestSplice.f k bt201.1 bt209.1).bind fun bt212 => (if (bt212.1.length : Int) > 0 then ((spec_l1Once.f bt197.1 bt209.2.1 bt209.2.2 2).bind fun bt216 => (spec_DrawSpliceCost.j0 k bt201.1 bt209.1 bt212.1 bt216.1 bt197.1 bt216.2.1 bt216.2.2)) else (spec_DrawSpliceCost.j0 k bt201.1 bt209.1 bt212.1 false bt197.1 bt209.2.1 bt209.2.2)))))
theorem spec_DrawSpliceCost.mono_l : ∀ k, (∀ y0 y1 y2 y3 y4 y5 y6, LeO (spec_DrawSpliceCost.j0 k y0 y1 y2 y3 y4 y5 y6) (spec_DrawSpliceCost.j0 (k + 1) y0 y1 y2 y3 y4 y5 y6))
  | 0 => fun _ _ _ _ _ _ _ r h => by simp [spec_DrawSpliceCost.j0] at h
  | k + 1 => by
    have ih0 := spec_DrawSpliceCost.mono_l k
    · intro y0 y1 y2 y3 y4 y5 y6
      unfold spec_DrawSpliceCost.j0
      repeat' first
      | (with_reducible exact ih0 _ _ _ _ _ _ _)
      | (with_reducible exact spec_BestSplice.mono _ _ _)
      | (with_reducible exact spec_l1New.mono _ _)
      | (with_reducible exact spec_l32Any.mono _ _ _ _)
      | (with_reducible exact LeO.refl _)
      | (with_reducible exact LeO.none _)
      | (with_reducible refine LeO.ite ?_ ?_)
      | (with_reducible refine LeO.bind ?_ (fun _ => ?_))
      | exact ih0 _ _ _ _ _ _ _
      | exact spec_BestSplice.mono _ _ _
      | exact spec_l1New.mono _ _
      | exact spec_l32Any.mono _ _ _ _
      | exact LeO.none _
      | refine LeO.ite ?_ ?_
      | refine LeO.bind ?_ (fun _ => ?_)
theorem spec_DrawSpliceCost.mono : ∀ a0 k, LeO (spec_DrawSpliceCost.f k a0) (spec_DrawSpliceCost.f (k + 1) a0) := by
  intro a0 k
  have ih0 := spec_DrawSpliceCost.mono_l k
  unfold spec_DrawSpliceCost.f
  repeat' first
      | (with_reducible exact ih0 _ _ _ _ _ _ _)
      | (with_reducible exact spec_BestSplice.mono _ _ _)
      | (with_reducible exact spec_l1New.mono _ _)
      | (with_reducible exact spec_l32Any.mono _ _ _ _)
      | (with_reducible exact LeO.refl _)
      | (with_reducible exact LeO.none _)
      | (with_reducible refine LeO.ite ?_ ?_)
      | (with_reducible refine LeO.bind ?_ (fun _ => ?_))
      | exact ih0 _ _ _ _ _ _ _
      | exact spec_BestSplice.mono _ _ _
      | exact spec_l1New.mono _ _
      | exact spec_l32Any.mono _ _ _ _
      | exact LeO.none _
      | refine LeO.ite ?_ ?_
      | refine LeO.bind ?_ (fun _ => ?_)
set_option maxHeartbeats 8000000 in
set_option maxRecDepth 100000 in
theorem spec_DrawSpliceCost.calls (k : Nat) (A0 : Option Addr) (c0 : Nat) (l0 : List Int) (r1 : List (List Int)) (r2 : Int) (r3 : List Int) (w : World) (hr0 : Kd.C (Kd.int .u8) w A0 l0.length l0) (hc0 : l0.length ≤ c0) (h : spec_DrawSpliceCost.f k l0 = some (r1, r2, r3)) :
    Calls Try.prog 7 #[.slice A0 l0.length c0] w fun e w' => ∃ v0_ v2_ : Value, e = .returned (.tuple #[v0_, .int .i64 r2, v2_]) ∧ Kd.S (Kd.slice 3 (Kd.int .i64)) 25 w' w.heap.size (fun k_ => some k_ ≠ (v2_ : Value).ownBlock) v0_ r1 ∧ Kd.R (Kd.int .i64) 3 w' w.heap.size (fun _ => True) v2_ r3 ∧ Below w.heap.size w w' := by
  have HR0 := Aside0.mk hr0
  have HC0 := Aside0.mk hc0
  clear hr0 hc0
  have HB := Aside0.mk (Below.refl w.heap.size w)
  have H : ((spec_l1New.f k l0).bind fun bt197 => ((spec_l32Any.f k bt197.1 bt197.2.1 bt197.2.2).bind fun bt201 => ((spec_l1Int.f bt197.1 bt201.2.1 bt201.2.2 (([0, 1, 3, 999, 1000] : List Int))).bind fun bt209 => ((spec_BestSplice.f k bt201.1 bt209.1).bind fun bt212 => (if (bt212.1.length : Int) > 0 then ((spec_l1Once.f bt197.1 bt209.2.1 bt209.2.2 2).bind fun bt216 => (spec_DrawSpliceCost.j0 k bt201.1 bt209.1 bt212.1 bt216.1 bt197.1 bt216.2.1 bt216.2.2)) else (spec_DrawSpliceCost.j0 k bt201.1 bt209.1 bt212.1 false bt197.1 bt209.2.1 bt209.2.2)))))) = some (r1, r2, r3) := h
  clear h
  replace H := Option.bind_eq_some_iff.mp H
  obtain ⟨⟨t197, t198, t199⟩, A20, H⟩ := H
  replace H : ((spec_l32Any.f k t197 t198 t199).bind fun bt201 => ((spec_l1Int.f t197 bt201.2.1 bt201.2.2 (([0, 1, 3, 999, 1000] : List Int))).bind fun bt209 => ((spec_BestSplice.f k bt201.1 bt209.1).bind fun bt212 => (if (bt212.1.length : Int) > 0 then ((spec_l1Once.f t197 bt209.2.1 bt209.2.2 2).bind fun bt216 => (spec_DrawSpliceCost.j0 k bt201.1 bt209.1 bt212.1 bt216.1 t197 bt216.2.1 bt216.2.2)) else (spec_DrawSpliceCost.j0 k bt201.1 bt209.1 bt212.1 false t197 bt209.2.1 bt209.2.2))))) = some (r1, r2, r3) := H
  have A2 := Aside0.mk A20
  clear A20
  replace H := Option.bind_eq_some_iff.mp H
  obtain ⟨⟨t201, t204, t205⟩, A30, H⟩ := H
  replace H : ((spec_l1Int.f t197 t204 t205 (([0, 1, 3, 999, 1000] : List Int))).bind fun bt209 => ((spec_BestSplice.f k t201 bt209.1).bind fun bt212 => (if (bt212.1.length : Int) > 0 then ((spec_l1Once.f t197 bt209.2.1 bt209.2.2 2).bind fun bt216 => (spec_DrawSpliceCost.j0 k t201 bt209.1 bt212.1 bt216.1 t197 bt216.2.1 bt216.2.2)) else (spec_DrawSpliceCost.j0 k t201 bt209.1 bt212.1 false t197 bt209.2.1 bt209.2.2)))) = some (r1, r2, r3) := H
  have A3 := Aside0.mk A30
  clear A30
  obtain ⟨y206, hy206⟩ : ∃ y_ : List Int, y_ = (([0, 1, 3, 999, 1000] : List Int)) := ⟨_, rfl⟩
  replace H : ((spec_l1Int.f t197 t204 t205 y206).bind fun bt209 => ((spec_BestSplice.f k t201 bt209.1).bind fun bt212 => (if (bt212.1.length : Int) > 0 then ((spec_l1Once.f t197 bt209.2.1 bt209.2.2 2).bind fun bt216 => (spec_DrawSpliceCost.j0 k t201 bt209.1 bt212.1 bt216.1 t197 bt216.2.1 bt216.2.2)) else (spec_DrawSpliceCost.j0 k t201 bt209.1 bt212.1 false t197 bt209.2.1 bt209.2.2)))) = some (r1, r2, r3) := by first | (rw [hy206]; with_reducible exact H) | (have H2_ := (Option.bind_some _ _).symm.trans H; rw [hy206]; with_reducible exact H2_) | (have H2_ := (Option.bind_some _ _).symm.trans H; with_reducible exact H2_) | with_reducible exact H | (rw [hy206]; exact H) | exact H
  have Ny206 := Aside0.mk hy206
  clear hy206
  replace H := Option.bind_eq_some_iff.mp H
  obtain ⟨⟨t209, t210, t211⟩, A40, H⟩ := H
  replace H : ((spec_BestSplice.f k t201 t209).bind fun bt212 => (if (bt212.1.length : Int) > 0 then ((spec_l1Once.f t197 t210 t211 2).bind fun bt216 => (spec_DrawSpliceCost.j0 k t201 t209 bt212.1 bt216.1 t197 bt216.2.1 bt216.2.2)) else (spec_DrawSpliceCost.j0 k t201 t209 bt212.1 false t197 t210 t211))) = some (r1, r2, r3) := H
  have A4 := Aside0.mk A40
  clear A40
  replace H := Option.bind_eq_some_iff.mp H
  obtain ⟨⟨t212, t213⟩, A50, H⟩ := H
  replace H : (if (t212.length : Int) > 0 then ((spec_l1Once.f t197 t210 t211 2).bind fun bt216 => (spec_DrawSpliceCost.j0 k t201 t209 t212 bt216.1 t197 bt216.2.1 bt216.2.2)) else (spec_DrawSpliceCost.j0 k t201 t209 t212 false t197 t210 t211)) = some (r1, r2, r3) := H
  have A5 := Aside0.mk A50
  clear A50
  have HC6 := Aside0.mk H
  clear H
  go_enter Try.func7, Try.ntmps7
  go_upto_region 5 with (first | ((with_reducible refine gate_callee (f := 30) rfl ?_); refine goesL_ (some 11) rfl rfl Try.func30 (by kernel_rfl) rfl #[.slice A0 l0.length c0] rfl (by (try simp only [List.map_toArray, List.map_cons, List.map_nil]); first | done | rfl | (simp only [List.length_drop, List.length_take]; rfl)) ?_; (with_reducible refine (spec_l1New.calls k _ _ l0 t197 t198 t199 w _ ?side1 ?side2 ?side3 A2.out).mono ?_); (case side1 => repeat (first | (with_reducible first | exact HB.out | apply below_alloc | apply pw_below_drewN | apply below_drew1) | exact HB.out)); (case side2 => exact HR0.out); (case side3 => exact HC0.out); rintro e w7 ⟨g200, rfl, hi, hb, hb2⟩; refine ⟨_, rfl, ?_⟩; have n0_ := Aside0.mk (hb); have n1_ := Aside0.mk (hi); clear HB; have HB := n0_; have HI200 := n1_; clear n0_ n1_; (try clear hb); (try clear hb2); (try clear hk); (try clear hi)) | ((with_reducible refine gate_callee (f := 31) rfl ?_); refine goesL_ (some 13) rfl rfl Try.func31 (by kernel_rfl) rfl #[.pointer (some ⟨g200, 0, none⟩)] rfl (by (try simp only [List.map_toArray, List.map_cons, List.map_nil]); first | done | rfl | (simp only [List.length_drop, List.length_take]; rfl)) ?_; (with_reducible refine (spec_l32Any.calls k g200 t197 t198 t199 t201 t204 t205 w _ ?side1 ?side2 A3.out).mono ?_); (case side1 => repeat (first | (with_reducible first | exact HI200.out | apply IsS80.alloc | apply IsS80.drewN | apply IsS80.drew | apply IsS80.set_1 | apply IsS80.set_2) | exact HI200.out)); (case side2 => repeat (first | (with_reducible first | exact HB.out | apply below_alloc | apply pw_below_drewN | apply below_drew1 | refine below_set ?_ (IsS80.ge HI200.out)) | exact HB.out)); rintro e w8 ⟨v202, rfl, ho0, hi, hb, hk⟩; refine ⟨_, rfl, ?_⟩; have n0_ := Aside0.mk (Kd.S_lower ho0 (below_size (by repeat (first | (with_reducible first | exact HB.out | apply below_alloc | apply pw_below_drewN | apply below_drew1 | refine below_set ?_ (IsS80.ge HI200.out)) | exact HB.out)))); have n1_ := Aside0.mk (hb); have n2_ := Aside0.mk (hi); clear HB; clear HI200; have HO203 := n0_; have HB := n1_; have HI200 := n2_; clear n0_ n1_ n2_; (try clear hb); (try clear hb2); (try clear hk); (try clear hi); (try clear ho0)) | ((with_reducible refine gate_dst (N := 15) rfl ?_); refine Kd.R_lit (Kd.int .i64) _ 3 ?hg (N := 15) ?hd (xs := ([0, 1, 3, 999, 1000] : List Int)) (inner := [.int .i64 0, .int .i64 1, .int .i64 3, .int .i64 999, .int .i64 1000]) (ok := fun _ => True) (okp := fun _ => True) ?hr ?hp (fun _ hk => hk) trivial (Below.refl _ _) (Nat.le_refl _) (by simp) ?_; (case hd => rfl); (case hg => rfl); (case hr => first | (go_simp; done) | (go_simp; rfl)); (case hp => exact (Reps.one (show Kd.M (Kd.int .i64) _ _ _ 0 [.int .i64 0] from rfl) (Reps.one (show Kd.M (Kd.int .i64) _ _ _ 1 [.int .i64 1] from rfl) (Reps.one (show Kd.M (Kd.int .i64) _ _ _ 3 [.int .i64 3] from rfl) (Reps.one (show Kd.M (Kd.int .i64) _ _ _ 999 [.int .i64 999] from rfl) (Reps.one (show Kd.M (Kd.int .i64) _ _ _ 1000 [.int .i64 1000] from rfl) (Reps.none _ _))))))); intro v207 w9 ho10 hb hg_ hnew_; clear hg_ hnew_; (first | rw [← Ny206.out] at ho10 | (simp only [Int.reduceToNat] at ho10; rw [← Ny206.out] at ho10)); have n0_ := Aside0.mk (Kd.S_elder' (by (with_reducible repeat (first | apply Kd.S_alloc | apply Kd.S_drewN | apply Kd.S_drew)); exact HO203.out) (Kd.R_base ho10) hb); have n1_ := Aside0.mk (Kd.R_lower ho10 (below_size (by repeat (first | (with_reducible first | exact HB.out | apply below_alloc | apply pw_below_drewN | apply below_drew1 | refine below_set ?_ (IsS80.ge HI200.out)) | exact HB.out)))); have n2_ := Aside0.mk (IsS80.below (by repeat (first | (with_reducible first | exact HI200.out | apply IsS80.alloc | apply IsS80.drewN | apply IsS80.drew | apply IsS80.set_1 | apply IsS80.set_2) | exact HI200.out)) hb); have n3_ := Aside0.mk (below_step (by repeat (first | (with_reducible first | exact HB.out | apply below_alloc | apply pw_below_drewN | apply below_drew1 | refine below_set ?_ (IsS80.ge HI200.out)) | exact HB.out)) hb); clear HO203; clear HI200; clear HB; have HO203 := n0_; have HO208 := n1_; have HI200 := n2_; have HB := n3_; clear n0_ n1_ n2_ n3_; clear hb ho10; obtain ⟨Ao11, co11, eo11⟩ := Kd.R_slice HO208.out; subst eo11) | ((with_reducible refine gate_callee (f := 32) rfl ?_); refine goesL_ (some 16) rfl rfl Try.func32 (by kernel_rfl) rfl #[.pointer (some ⟨g200, 0, none⟩), .slice Ao11 y206.length co11] rfl (by (try simp only [List.map_toArray, List.map_cons, List.map_nil]); first | done | rfl | (simp only [List.length_drop, List.length_take]; rfl)) ?_; (with_reducible refine (spec_l1Int.calls g200 t197 t204 t205 _ _ y206 t209 t210 t211 w _ ?side1 ?side2 ?side3 ?side4 ?side5 A4.out).mono ?_); (case side1 => repeat (first | (with_reducible first | exact HI200.out | apply IsS80.alloc | apply IsS80.drewN | apply IsS80.drew | apply IsS80.set_1 | apply IsS80.set_2) | exact HI200.out)); (case side2 => repeat (first | (with_reducible first | exact HB.out | apply below_alloc | apply pw_below_drewN | apply below_drew1 | refine below_set ?_ (IsS80.ge HI200.out)) | exact HB.out)); (case side3 => repeat (first | exact (Kd.R_reads' HO208.out).2.2 | (with_reducible refine Kd.C_alloc ?_ _) | (with_reducible refine Kd.C_drewN ?_ _) | (with_reducible refine Kd.C_drew ?_))); (case side4 => exact (Kd.R_reads' HO208.out).2.1); (case side5 => exact far_slice (IsS80.own_ne HI200.out HO208.out (by decide))); rintro e w12 ⟨rfl, hi, hb, hk⟩; refine ⟨_, rfl, ?_⟩; have n0_ := Aside0.mk (Kd.S_mono (Kd.S_keep (IsS80.apartS (show IsS80 w _ g200 t197 t204 t205 from by repeat (first | (with_reducible first | exact HI200.out | apply IsS80.alloc | apply IsS80.drewN | apply IsS80.drew | apply IsS80.set_1 | apply IsS80.set_2) | exact HI200.out)) (by (with_reducible repeat (first | apply Kd.S_alloc | apply Kd.S_drewN | apply Kd.S_drew)); exact HO203.out) (by decide)) hk (fun _ h => h.2)) (fun _ h => h.1)); have n1_ := Aside0.mk (Kd.R_mono (Kd.R_keep (IsS80.apart (show IsS80 w _ g200 t197 t204 t205 from by repeat (first | (with_reducible first | exact HI200.out | apply IsS80.alloc | apply IsS80.drewN | apply IsS80.drew | apply IsS80.set_1 | apply IsS80.set_2) | exact HI200.out)) (by (with_reducible repeat (first | apply Kd.R_alloc | apply Kd.R_drewN | apply Kd.R_drew)); exact HO208.out) (by decide)) hk (fun _ h => h.2)) (fun _ h => h.1)); have n2_ := Aside0.mk (hb); have n3_ := Aside0.mk (hi); clear HO203; clear HO208; clear HB; clear HI200; have HO203 := n0_; have HO208 := n1_; have HB := n2_; have HI200 := n3_; clear n0_ n1_ n2_ n3_; (try clear hb); (try clear hb2); (try clear hk); (try clear hi); obtain ⟨Ao13, co13, eo13⟩ := Kd.S_slice HO203.out; subst eo13) | ((with_reducible refine gate_callee (f := 9) rfl ?_); refine goesL_ (some 20) rfl rfl Try.func9 (by kernel_rfl) rfl #[.slice Ao13 t201.length co13, .int .i64 t209] rfl (by (try simp only [List.map_toArray, List.map_cons, List.map_nil]); first | done | rfl | (simp only [List.length_drop, List.length_take]; rfl)) ?_; (with_reducible refine (spec_BestSplice.calls k _ _ t201 t209 t212 t213 _ ?side1 ?side2 A5.out).mono ?_); (case side1 => repeat (first | exact (Kd.S_reads' HO203.out).2.2 | (with_reducible refine Kd.C_alloc ?_ _) | (with_reducible refine Kd.C_drewN ?_ _) | (with_reducible refine Kd.C_drew ?_))); (case side2 => exact (Kd.S_reads' HO203.out).2.1); rintro e w14 ⟨v214, rfl, ho0, hb⟩; refine ⟨_, rfl, ?_⟩; have n0_ := Aside0.mk (Kd.S_elder' (by (with_reducible repeat (first | apply Kd.S_alloc | apply Kd.S_drewN | apply Kd.S_drew)); exact HO203.out) (Kd.R_base ho0) hb); have n1_ := Aside0.mk (Kd.R_elder' (by (with_reducible repeat (first | apply Kd.R_alloc | apply Kd.R_drewN | apply Kd.R_drew)); exact HO208.out) (Kd.R_base ho0) hb); have n2_ := Aside0.mk (Kd.R_lower (Kd.R_new' ho0 (Kd.R_lt (by (with_reducible repeat (first | apply Kd.R_alloc | apply Kd.R_drewN | apply Kd.R_drew)); exact HO208.out))) (below_size (by repeat (first | (with_reducible first | exact HB.out | apply below_alloc | apply pw_below_drewN | apply below_drew1 | refine below_set ?_ (IsS80.ge HI200.out)) | exact HB.out)))); have n3_ := Aside0.mk (IsS80.below (by repeat (first | (with_reducible first | exact HI200.out | apply IsS80.alloc | apply IsS80.drewN | apply IsS80.drew | apply IsS80.set_1 | apply IsS80.set_2) | exact HI200.out)) hb); have n4_ := Aside0.mk (below_step (by repeat (first | (with_reducible first | exact HB.out | apply below_alloc | apply pw_below_drewN | apply below_drew1 | refine below_set ?_ (IsS80.ge HI200.out)) | exact HB.out)) hb); clear HO203; clear HO208; clear HI200; clear HB; have HO203 := n0_; have HO208 := n1_; have HO215 := n2_; have HI200 := n3_; have HB := n4_; clear n0_ n1_ n2_ n3_ n4_; (try clear hb); (try clear hb2); (try clear hk); (try clear hi); (try clear ho0)))
  (try simp only [Act.put, List.setIfInBounds_toArray, List.set_cons_zero, List.set_cons_succ])
  go_cut [29] (fun v29 wc => ∃ (kq : Nat) (x29_5 : Bool) (x201001_5 : Int) (x201002_5 : Int), v29 = .bool x29_5 ∧ Aside0 (spec_DrawSpliceCost.j0 kq t201 t209 t212 x29_5 t197 x201001_5 x201002_5 = some (r1, r2, r3)) ∧ Aside0 (kq ≤ k) ∧ Aside0 (Kd.S (Kd.slice 3 (Kd.int .i64)) 25 wc w.heap.size (fun k_ => some k_ ≠ (v214 : Value).ownBlock) (.slice Ao13 t201.length co13) t201) ∧ Aside0 (Kd.R (Kd.int .i64) 3 wc w.heap.size (fun _ => True) v214 t212) ∧ Aside0 (IsS80 w wc g200 t197 x201001_5 x201002_5) ∧ Aside0 (Below w.heap.size w wc))
  case first =>
    have H := HC6.out
    clear HC6
    by_cases c15 : (t212.length : Int) > 0
    · rw [if_pos c15] at H
      have c15b0 : decide (0 < (t212.length : Int)) = true := decide_eq_true c15
      have c15b1 : decide (0 < t212.length) = true := decide_eq_true (by omega)
      clear c15
      (first | rw [c15b0] | (simp only [i64_w, i32_w]; rw [c15b0]) | skip)
      replace H := Option.bind_eq_some_iff.mp H
      obtain ⟨⟨t216, t217, t218⟩, A160, H⟩ := H
      replace H : (spec_DrawSpliceCost.j0 k t201 t209 t212 t216 t197 t217 t218) = some (r1, r2, r3) := H
      have A16 := Aside0.mk A160
      clear A160
      have H' := Aside0.mk H
      clear H
      obtain ⟨Ao17, co17, eo17⟩ := Kd.R_slice HO215.out
      subst eo17
      go_wp2_with (first | (go_at_call 33; (with_reducible refine (spec_l1Once.calls g200 t197 t210 t211 2 t216 t217 t218 w _ ?side1 ?side2 A16.out).mono ?_); (case side1 => repeat (first | (with_reducible first | exact HI200.out | apply IsS80.alloc | apply IsS80.drewN | apply IsS80.drew | apply IsS80.set_1 | apply IsS80.set_2) | exact HI200.out)); (case side2 => repeat (first | (with_reducible first | exact HB.out | apply below_alloc | apply pw_below_drewN | apply below_drew1 | refine below_set ?_ (IsS80.ge HI200.out)) | exact HB.out)); rintro e w18 ⟨rfl, hi, hb, hk⟩; have n0_ := Aside0.mk (Kd.S_mono (Kd.S_keep (IsS80.apartS (show IsS80 w _ g200 t197 t210 t211 from by repeat (first | (with_reducible first | exact HI200.out | apply IsS80.alloc | apply IsS80.drewN | apply IsS80.drew | apply IsS80.set_1 | apply IsS80.set_2) | exact HI200.out)) (by (with_reducible repeat (first | apply Kd.S_alloc | apply Kd.S_drewN | apply Kd.S_drew)); exact HO203.out) (by decide)) hk (fun _ h => h.2)) (fun _ h => h.1)); have n1_ := Aside0.mk (Kd.R_mono (Kd.R_keep (IsS80.apart (show IsS80 w _ g200 t197 t210 t211 from by repeat (first | (with_reducible first | exact HI200.out | apply IsS80.alloc | apply IsS80.drewN | apply IsS80.drew | apply IsS80.set_1 | apply IsS80.set_2) | exact HI200.out)) (by (with_reducible repeat (first | apply Kd.R_alloc | apply Kd.R_drewN | apply Kd.R_drew)); exact HO208.out) (by decide)) hk (fun _ h => h.2)) (fun _ h => h.1)); have n2_ := Aside0.mk (Kd.R_mono (Kd.R_keep (IsS80.apart (show IsS80 w _ g200 t197 t210 t211 from by repeat (first | (with_reducible first | exact HI200.out | apply IsS80.alloc | apply IsS80.drewN | apply IsS80.drew | apply IsS80.set_1 | apply IsS80.set_2) | exact HI200.out)) (by (with_reducible repeat (first | apply Kd.R_alloc | apply Kd.R_drewN | apply Kd.R_drew)); exact HO215.out) (by decide)) hk (fun _ h => h.2)) (fun _ h => h.1)); have n3_ := Aside0.mk (hb); have n4_ := Aside0.mk (hi); clear HO203; clear HO208; clear HO215; clear HB; clear HI200; have HO203 := n0_; have HO208 := n1_; have HO215 := n2_; have HB := n3_; have HI200 := n4_; clear n0_ n1_ n2_ n3_ n4_; (try clear hb); (try clear hb2); (try clear hk); (try clear hi)))
      go_meet
      case rel => exact ⟨_, (t216), (t217), (t218), (by first | rfl | (simp; done) | (simp [*]; done)), H', ⟨by first | omega | exact Nat.le_refl _⟩, ⟨by (with_reducible repeat (first | apply Kd.S_alloc | apply Kd.S_drewN | apply Kd.S_drew)); exact Kd.S_mono HO203.out (fun _ hk => hk.2)⟩, ⟨by (with_reducible repeat (first | apply Kd.R_alloc | apply Kd.R_drewN | apply Kd.R_drew)); exact Kd.R_mono HO215.out (fun _ hk => trivial)⟩, ⟨by repeat (first | (with_reducible first | exact HI200.out | apply IsS80.alloc | apply IsS80.drewN | apply IsS80.drew | apply IsS80.set_1 | apply IsS80.set_2) | exact HI200.out)⟩, ⟨by repeat (first | (with_reducible first | exact HB.out | apply below_alloc | apply pw_below_drewN | apply below_drew1 | refine below_set ?_ (IsS80.ge HI200.out)) | exact HB.out)⟩⟩
    · rw [if_neg c15] at H
      have c15b0 : decide (0 < (t212.length : Int)) = false := decide_eq_false c15
      have c15b1 : decide (0 < t212.length) = false := decide_eq_false (by omega)
      clear c15
      (first | rw [c15b0] | (simp only [i64_w, i32_w]; rw [c15b0]) | skip)
      have H' := Aside0.mk H
      clear H
      obtain ⟨Ao19, co19, eo19⟩ := Kd.R_slice HO215.out
      subst eo19
      go_wp2
      go_meet
      case rel => exact ⟨_, (false), (t210), (t211), (by first | rfl | (simp; done) | (simp [*]; done)), H', ⟨by first | omega | exact Nat.le_refl _⟩, ⟨by (with_reducible repeat (first | apply Kd.S_alloc | apply Kd.S_drewN | apply Kd.S_drew)); exact Kd.S_mono HO203.out (fun _ hk => hk.2)⟩, ⟨by (with_reducible repeat (first | apply Kd.R_alloc | apply Kd.R_drewN | apply Kd.R_drew)); exact Kd.R_mono HO215.out (fun _ hk => trivial)⟩, ⟨by repeat (first | (with_reducible first | exact HI200.out | apply IsS80.alloc | apply IsS80.drewN | apply IsS80.drew | apply IsS80.set_1 | apply IsS80.set_2) | exact HI200.out)⟩, ⟨by repeat (first | (with_reducible first | exact HB.out | apply below_alloc | apply pw_below_drewN | apply below_drew1 | refine below_set ?_ (IsS80.ge HI200.out)) | exact HB.out)⟩⟩
  case rest =>
    clear HC6
    try clear c1
    try clear p2
    try clear c3
    try clear c7
    try clear c9
    try clear c15
    try clear c15b0
    try clear c15b1
    obtain ⟨kq, x29_5, x201001_5, x201002_5, rfl, HA, HJ5, HO_6, HO_8, HI200, HB⟩ := hcut
    cases kq with
    | zero => exact absurd HA.out (by simp [spec_DrawSpliceCost.j0])
    | succ kj5 =>
      have H := HA.out
      clear HA
      simp only [spec_DrawSpliceCost.j0] at H
      by_cases c20 : x29_5 = true
      · subst c20
        have H1 : ((spec_l1Below.f t197 x201001_5 x201002_5 (t212.length : Int)).bind fun bt219 => ((spec_l1Below.f t197 bt219.2.1 bt219.2.2 6).bind fun bt222 => (if 0 ≤ bt219.1 then (if bt219.1 < (t212.length : Int) then (some (t201, t209, (t212.set (bt219.1 : Int).toNat (wrap64 (bt222.1 - 1))))) else (none)) else (none)))) = some (r1, r2, r3) := by rw [if_pos rfl] at H; exact H
        clear H
        have H := H1
        clear H1
        replace H := Option.bind_eq_some_iff.mp H
        obtain ⟨⟨t219, t220, t221⟩, A210, H⟩ := H
        replace H : ((spec_l1Below.f t197 t220 t221 6).bind fun bt222 => (if 0 ≤ t219 then (if t219 < (t212.length : Int) then (some (t201, t209, (t212.set (t219 : Int).toNat (wrap64 (bt222.1 - 1))))) else (none)) else (none))) = some (r1, r2, r3) := H
        have A21 := Aside0.mk A210
        clear A210
        replace H := Option.bind_eq_some_iff.mp H
        obtain ⟨⟨t222, t223, t224⟩, A220, H⟩ := H
        replace H : (if 0 ≤ t219 then (if t219 < (t212.length : Int) then (some (t201, t209, (t212.set (t219 : Int).toNat (wrap64 (t222 - 1))))) else (none)) else (none)) = some (r1, r2, r3) := H
        have A22 := Aside0.mk A220
        clear A220
        by_cases c23 : 0 ≤ t219
        · rw [if_pos c23] at H
          have c23b0 : decide (0 ≤ t219) = true := decide_eq_true c23
          clear c23
          by_cases c24 : t219 < (t212.length : Int)
          · rw [if_pos c24] at H
            have c24b0 : decide (t219 < (t212.length : Int)) = true := decide_eq_true c24
            clear c24
            obtain ⟨y225, hy225⟩ : ∃ y_ : List Int, y_ = (t212.set (t219 : Int).toNat (wrap64 (t222 - 1))) := ⟨_, rfl⟩
            replace H : (some (t201, t209, y225)) = some (r1, r2, r3) := by first | (rw [hy225]; with_reducible exact H) | (have H2_ := (Option.bind_some _ _).symm.trans H; rw [hy225]; with_reducible exact H2_) | (have H2_ := (Option.bind_some _ _).symm.trans H; with_reducible exact H2_) | with_reducible exact H | (rw [hy225]; exact H) | exact H
            have Ny225 := Aside0.mk hy225
            clear hy225
            simp only [Option.some.injEq, Prod.mk.injEq] at H
            obtain ⟨rfl, rfl, rfl⟩ := H
            obtain ⟨Ao26, co26, eo26⟩ := Kd.R_slice HO_8.out
            subst eo26
            go_wp2_with (first | ((with_reducible refine gate_callee (f := 34) rfl ?_); refine goesL_ (some 34) rfl rfl Try.func34 (by kernel_rfl) rfl #[.pointer (some ⟨g200, 0, none⟩), .int .i64 (t212.length : Int)] rfl (by (try simp only [List.map_toArray, List.map_cons, List.map_nil]); first | done | rfl | (simp only [List.length_drop, List.length_take]; rfl)) ?_; (with_reducible refine (spec_l1Below.calls g200 t197 x201001_5 x201002_5 (t212.length : Int) t219 t220 t221 w _ ?side1 ?side2 A21.out).mono ?_); (case side1 => repeat (first | (with_reducible first | exact HI200.out | apply IsS80.alloc | apply IsS80.drewN | apply IsS80.drew | apply IsS80.set_1 | apply IsS80.set_2) | exact HI200.out)); (case side2 => repeat (first | (with_reducible first | exact HB.out | apply below_alloc | apply pw_below_drewN | apply below_drew1 | refine below_set ?_ (IsS80.ge HI200.out)) | exact HB.out)); rintro e w27 ⟨rfl, hi, hb, hk⟩; refine ⟨_, rfl, ?_⟩; have n0_ := Aside0.mk (Kd.S_mono (Kd.S_keep (IsS80.apartS (show IsS80 w _ g200 t197 x201001_5 x201002_5 from by repeat (first | (with_reducible first | exact HI200.out | apply IsS80.alloc | apply IsS80.drewN | apply IsS80.drew | apply IsS80.set_1 | apply IsS80.set_2) | exact HI200.out)) (by (with_reducible repeat (first | apply Kd.S_alloc | apply Kd.S_drewN | apply Kd.S_drew)); exact HO_6.out) (by decide)) hk (fun _ h => h.2)) (fun _ h => h.1)); have n1_ := Aside0.mk (Kd.R_mono (Kd.R_keep (IsS80.apart (show IsS80 w _ g200 t197 x201001_5 x201002_5 from by repeat (first | (with_reducible first | exact HI200.out | apply IsS80.alloc | apply IsS80.drewN | apply IsS80.drew | apply IsS80.set_1 | apply IsS80.set_2) | exact HI200.out)) (by (with_reducible repeat (first | apply Kd.R_alloc | apply Kd.R_drewN | apply Kd.R_drew)); exact HO_8.out) (by decide)) hk (fun _ h => h.2)) (fun _ h => h.1)); have n2_ := Aside0.mk (hb); have n3_ := Aside0.mk (hi); clear HO_6; clear HO_8; clear HB; clear HI200; have HO_6 := n0_; have HO_8 := n1_; have HB := n2_; have HI200 := n3_; clear n0_ n1_ n2_ n3_; (try clear hb); (try clear hb2); (try clear hk); (try clear hi)) | ((with_reducible refine gate_callee (f := 34) rfl ?_); refine goesL_ (some 36) rfl rfl Try.func34 (by kernel_rfl) rfl #[.pointer (some ⟨g200, 0, none⟩), .int .i64 6] rfl (by (try simp only [List.map_toArray, List.map_cons, List.map_nil]); first | done | rfl | (simp only [List.length_drop, List.length_take]; rfl)) ?_; (with_reducible refine (spec_l1Below.calls g200 t197 t220 t221 6 t222 t223 t224 w _ ?side1 ?side2 A22.out).mono ?_); (case side1 => repeat (first | (with_reducible first | exact HI200.out | apply IsS80.alloc | apply IsS80.drewN | apply IsS80.drew | apply IsS80.set_1 | apply IsS80.set_2) | exact HI200.out)); (case side2 => repeat (first | (with_reducible first | exact HB.out | apply below_alloc | apply pw_below_drewN | apply below_drew1 | refine below_set ?_ (IsS80.ge HI200.out)) | exact HB.out)); rintro e w28 ⟨rfl, hi, hb, hk⟩; refine ⟨_, rfl, ?_⟩; have n0_ := Aside0.mk (Kd.S_mono (Kd.S_keep (IsS80.apartS (show IsS80 w _ g200 t197 t220 t221 from by repeat (first | (with_reducible first | exact HI200.out | apply IsS80.alloc | apply IsS80.drewN | apply IsS80.drew | apply IsS80.set_1 | apply IsS80.set_2) | exact HI200.out)) (by (with_reducible repeat (first | apply Kd.S_alloc | apply Kd.S_drewN | apply Kd.S_drew)); exact HO_6.out) (by decide)) hk (fun _ h => h.2)) (fun _ h => h.1)); have n1_ := Aside0.mk (Kd.R_mono (Kd.R_keep (IsS80.apart (show IsS80 w _ g200 t197 t220 t221 from by repeat (first | (with_reducible first | exact HI200.out | apply IsS80.alloc | apply IsS80.drewN | apply IsS80.drew | apply IsS80.set_1 | apply IsS80.set_2) | exact HI200.out)) (by (with_reducible repeat (first | apply Kd.R_alloc | apply Kd.R_drewN | apply Kd.R_drew)); exact HO_8.out) (by decide)) hk (fun _ h => h.2)) (fun _ h => h.1)); have n2_ := Aside0.mk (hb); have n3_ := Aside0.mk (hi); clear HO_6; clear HO_8; clear HB; clear HI200; have HO_6 := n0_; have HO_8 := n1_; have HB := n2_; have HI200 := n3_; clear n0_ n1_ n2_ n3_; (try clear hb); (try clear hb2); (try clear hk); (try clear hi); have p25 : 0 ≤ (t219 : Int) := of_decide_eq_true (by first | (with_reducible assumption) | assumption); have q25 : (t219 : Int) < ((t212.length : Int) : Int) := of_decide_eq_true (by first | (with_reducible assumption) | assumption); obtain ⟨go25, co25, eo25, gb25, gl25, cl25, HG25⟩ := Kd.R_form HO_8.out (by omega); (first | cases eo25 | (injection eo25 with ea_ en_ ec_; (first | subst ea_ | (injection ea_ with ea_; subst ea_)); subst ec_; clear en_)); have GB25 := Aside0.mk gb25; have GG25 := Aside0.mk HG25; clear gb25 gl25 HG25; obtain ⟨hx25_0, hf25_0⟩ := Kd.R_celln 0 HO_8.out (t219 : Int) p25 q25; replace p25 := eq_true p25; replace q25 := eq_true q25; obtain ⟨hy29_, hz29_⟩ := Kd.R_celln 0 HO_8.out (t219 : Int) (of_decide_eq_true (by first | (with_reducible assumption) | assumption)) (of_decide_eq_true (by first | (with_reducible assumption) | assumption)); have HP29 := Kd.R_putg HO_8.out (t219 : Int) (wrap64 (t222 - 1))) | ((with_reducible refine gate_store (t := 3) (p := 38) rfl ?_); refine store_event (t := 3) (p := 38) (v := ?vo_w30) (w1 := (w28.setCell ⟨go25, (t219 : Int).toNat, none⟩ (.int .i64 (wrap64 (t222 - 1))))) ?hg ?ho ?hn ?hr ?_; (case ho => rfl); (case hg => rfl); (case hn => rfl); (case hr => first | (go_simp; done) | (go_simp; rfl)); intro w30 hw; have hg : w28.grownBy w30 (some go25) := (by rw [hw]; exact HP29.2); have hp_ : Kd.R (Kd.int .i64) 3 w30 w.heap.size (fun _ => True) (.slice (some ⟨go25, 0, none⟩) t212.length co26) y225 := (by rw [hw, Ny225.out]; exact HP29.1); clear HP29; have n0_ := Aside0.mk (Kd.S_after (v := (.slice (some ⟨go25, 0, none⟩) t212.length co26)) (v1 := (.slice (some ⟨go25, 0, none⟩) t212.length co26)) (ok := (fun _ => True)) (by (with_reducible repeat (first | apply Kd.S_alloc | apply Kd.S_drewN | apply Kd.S_drew)); exact Kd.S_mono HO_6.out (fun _ hk => ⟨trivial, hk⟩)) hg (.inl rfl)); have n1_ := Aside0.mk (hp_); have n2_ := Aside0.mk (IsS80.grown (by repeat (first | (with_reducible first | exact HI200.out | apply IsS80.alloc | apply IsS80.drewN | apply IsS80.drew | apply IsS80.set_1 | apply IsS80.set_2) | exact HI200.out)) hg (IsS80.own_ne HI200.out HO_8.out (by decide))); have n3_ := Aside0.mk ((by rw [hw]; exact below_set (HB.out) GB25.out : Below w.heap.size w w30)); clear HO_6; clear HO_8; clear HI200; clear HB; have HO_6 := n0_; have HO_8 := n1_; have HI200 := n2_; have HB := n3_; clear n0_ n1_ n2_ n3_; clear hg hw hp_))
            go_ret3
            exact ⟨_, _, by first | rfl | (simp [errW_none, errW_some] <;> rfl) | (simp [*, errW_none, errW_some] <;> rfl), by (with_reducible repeat (first | apply Kd.S_alloc | apply Kd.S_drewN | apply Kd.S_drew)); exact Kd.S_mono HO_6.out (fun _ hk => hk.2), by (with_reducible repeat (first | apply Kd.R_alloc | apply Kd.R_drewN | apply Kd.R_drew)); exact HO_8.out, by repeat (first | (with_reducible first | exact HB.out | apply below_alloc | apply pw_below_drewN | apply below_drew1 | refine below_set ?_ (IsS80.ge HI200.out)) | exact HB.out)⟩
          · rw [if_neg c24] at H
            exact absurd H (by simp)
        · rw [if_neg c23] at H
          exact absurd H (by simp)
      · replace c20 := Bool.eq_false_iff.mpr c20
        subst c20
        have H1 : (some (t201, t209, t212)) = some (r1, r2, r3) := by rw [if_neg (show ¬ (false = true) by decide)] at H; exact H
        clear H
        have H := H1
        clear H1
        simp only [Option.some.injEq, Prod.mk.injEq] at H
        obtain ⟨rfl, rfl, rfl⟩ := H
        go_wp2
        go_ret3
        exact ⟨_, _, by first | rfl | (simp [errW_none, errW_some] <;> rfl) | (simp [*, errW_none, errW_some] <;> rfl), by (with_reducible repeat (first | apply Kd.S_alloc | apply Kd.S_drewN | apply Kd.S_drew)); exact HO_6.out, by (with_reducible repeat (first | apply Kd.R_alloc | apply Kd.R_drewN | apply Kd.R_drew)); exact HO_8.out, by repeat (first | (with_reducible first | exact HB.out | apply below_alloc | apply pw_below_drewN | apply below_drew1 | refine below_set ?_ (IsS80.ge HI200.out)) | exact HB.out)⟩

/-! ### impl_InRange: function 36 -/
def impl_InRange.f (a0 : Int) (a1 : Int) (a2 : Int) : Option (Bool) := if a1 ≤ a0 then (some (decide (a0 ≤ a2))) else (some false)
set_option maxHeartbeats 8000000 in
set_option maxRecDepth 100000 in
theorem impl_InRange.calls (a0 : Int) (a1 : Int) (a2 : Int) (r : Bool) (w : World) (h : impl_InRange.f a0 a1 a2 = some r) :
    Calls Try.prog 36 #[.int .i64 a0, .int .i64 a1, .int .i64 a2] w fun e w' => e = .returned (.bool r) ∧ Drawn0 w w' := by
  have H : (if a1 ≤ a0 then (some (decide (a0 ≤ a2))) else (some false)) = some r := h
  clear h
  by_cases c4 : a1 ≤ a0
  · rw [if_pos c4] at H
    have c4b0 : decide (a1 ≤ a0) = true := decide_eq_true c4
    clear c4
    obtain rfl := Option.some.inj H
    go_enter Try.func36, Try.ntmps36
    go_wp2
    go_ret
    exact ⟨by first | rfl | (simp; done) | (simp [*]; done), by repeat (first | exact Drawn0.refl _ | apply Drawn0.step)⟩
  · rw [if_neg c4] at H
    have c4b0 : decide (a1 ≤ a0) = false := decide_eq_false c4
    clear c4
    obtain rfl := Option.some.inj H
    go_enter Try.func36, Try.ntmps36
    go_wp2
    go_ret
    exact ⟨by first | rfl | (simp; done) | (simp [*]; done), by repeat (first | exact Drawn0.refl _ | apply Drawn0.step)⟩

/-! ### impl_AreTakes: function 35 -/
mutual
def impl_AreTakes.l0 : Nat → List (List Int) → List (List Int) → Int → Int → Option (Bool)
  | 0, _, _, _, _ => none
  | k + 1, x0, x7, x8, x9 => if x9 < x8 then (if 0 ≤ x9 then (if x9 < (x7.length : Int) then (if 0 < (x0.length : Int) then (if ((rd_L2 x7 x9).length : Int) = ((rd_L2 x0 0).length : Int) then (impl_AreTakes.j1 k x0 (rd_L2 x7 x9) x7 x8 x9 (decide (((rd_L2 x7 x9).length : Int) > 60))) else (impl_AreTakes.j1 k x0 (rd_L2 x7 x9) x7 x8 x9 true)) else (none)) else (none)) else (none)) else ((impl_InRange.f (x0.length : Int) 1 5).bind fun t226 => (some t226))
def impl_AreTakes.j1 : Nat → List (List Int) → List Int → List (List Int) → Int → Int → Bool → Option (Bool)
  | 0, _, _, _, _, _, _ => none
  | k + 1, x0, x4, x7, x8, x9, x24 => if x24 = true then (some false) else (impl_AreTakes.l1 k x0 x7 x8 x9 x4 (x4.length : Int) 0)
def impl_AreTakes.l1 : Nat → List (List Int) → List (List Int) → Int → Int → List Int → Int → Int → Option (Bool)
  | 0, _, _, _, _, _, _, _ => none
  | k + 1, x0, x7, x8, x9, x25, x26, x27 => if x27 < x26 then (if 0 ≤ x27 then (if x27 < (x25.length : Int) then ((impl_InRange.f (rd x25 x27) 0 999).bind fun t230 => (if t230 = true then (impl_AreTakes.l1 k x0 x7 x8 x9 x25 x26 (wrap64 (x27 + 1))) else (some false))) else (none)) else (none)) else (impl_AreTakes.l0 k x0 x7 x8 (wrap64 (x9 + 1)))
end
def impl_AreTakes.f (k : Nat) (l0 : List (List Int)) : Option (Bool) := impl_AreTakes.l0 k l0 l0 (l0.length : Int) 0
theorem impl_AreTakes.mono_l : ∀ k, (∀ y0 y1 y2 y3, LeO (impl_AreTakes.l0 k y0 y1 y2 y3) (impl_AreTakes.l0 (k + 1) y0 y1 y2 y3)) ∧ (∀ y0 y1 y2 y3 y4 y5, LeO (impl_AreTakes.j1 k y0 y1 y2 y3 y4 y5) (impl_AreTakes.j1 (k + 1) y0 y1 y2 y3 y4 y5)) ∧ (∀ y0 y1 y2 y3 y4 y5 y6, LeO (impl_AreTakes.l1 k y0 y1 y2 y3 y4 y5 y6) (impl_AreTakes.l1 (k + 1) y0 y1 y2 y3 y4 y5 y6))
  | 0 => ⟨fun _ _ _ _ r h => by simp [impl_AreTakes.l0] at h, fun _ _ _ _ _ _ r h => by simp [impl_AreTakes.j1] at h, fun _ _ _ _ _ _ _ r h => by simp [impl_AreTakes.l1] at h⟩
  | k + 1 => by
    obtain ⟨ih0, ih1, ih2⟩ := impl_AreTakes.mono_l k
    refine ⟨?_, ?_, ?_⟩
    · intro y0 y1 y2 y3
      unfold impl_AreTakes.l0
      repeat' first
      | (with_reducible exact ih0 _ _ _ _)
      | (with_reducible exact ih1 _ _ _ _ _ _)
      | (with_reducible exact ih2 _ _ _ _ _ _ _)
      | (with_reducible exact LeO.refl _)
      | (with_reducible exact LeO.none _)
      | (with_reducible refine LeO.ite ?_ ?_)
      | (with_reducible refine LeO.bind ?_ (fun _ => ?_))
      | exact ih0 _ _ _ _
      | exact ih1 _ _ _ _ _ _
      | exact ih2 _ _ _ _ _ _ _
      | exact LeO.none _
      | refine LeO.ite ?_ ?_
      | refine LeO.bind ?_ (fun _ => ?_)
    · intro y0 y1 y2 y3 y4 y5
      unfold impl_AreTakes.j1
      repeat' first
      | (with_reducible exact ih0 _ _ _ _)
      | (with_reducible exact ih1 _ _ _ _ _ _)
      | (with_reducible exact ih2 _ _ _ _ _ _ _)
      | (with_reducible exact LeO.refl _)
      | (with_reducible exact LeO.none _)
      | (with_reducible refine LeO.ite ?_ ?_)
      | (with_reducible refine LeO.bind ?_ (fun _ => ?_))
      | exact ih0 _ _ _ _
      | exact ih1 _ _ _ _ _ _
      | exact ih2 _ _ _ _ _ _ _
      | exact LeO.none _
      | refine LeO.ite ?_ ?_
      | refine LeO.bind ?_ (fun _ => ?_)
    · intro y0 y1 y2 y3 y4 y5 y6
      unfold impl_AreTakes.l1
      repeat' first
      | (with_reducible exact ih0 _ _ _ _)
      | (with_reducible exact ih1 _ _ _ _ _ _)
      | (with_reducible exact ih2 _ _ _ _ _ _ _)
      | (with_reducible exact LeO.refl _)
      | (with_reducible exact LeO.none _)
      | (with_reducible refine LeO.ite ?_ ?_)
      | (with_reducible refine LeO.bind ?_ (fun _ => ?_))
      | exact ih0 _ _ _ _
      | exact ih1 _ _ _ _ _ _
      | exact ih2 _ _ _ _ _ _ _
      | exact LeO.none _
      | refine LeO.ite ?_ ?_
      | refine LeO.bind ?_ (fun _ => ?_)
theorem impl_AreTakes.mono : ∀ a0 k, LeO (impl_AreTakes.f k a0) (impl_AreTakes.f (k + 1) a0) := by
  intro a0 k
  obtain ⟨ih0, ih1, ih2⟩ := impl_AreTakes.mono_l k
  unfold impl_AreTakes.f
  repeat' first
      | (with_reducible exact ih0 _ _ _ _)
      | (with_reducible exact ih1 _ _ _ _ _ _)
      | (with_reducible exact ih2 _ _ _ _ _ _ _)
      | (with_reducible exact LeO.refl _)
      | (with_reducible exact LeO.none _)
      | (with_reducible refine LeO.ite ?_ ?_)
      | (with_reducible refine LeO.bind ?_ (fun _ => ?_))
      | exact ih0 _ _ _ _
      | exact ih1 _ _ _ _ _ _
      | exact ih2 _ _ _ _ _ _ _
      | exact LeO.none _
      | refine LeO.ite ?_ ?_
      | refine LeO.bind ?_ (fun _ => ?_)
set_option maxHeartbeats 8000000 in
set_option maxRecDepth 100000 in
theorem impl_AreTakes.calls (k : Nat) (A0 : Option Addr) (c0 : Nat) (l0 : List (List Int)) (r : Bool) (w : World) (hr0 : Kd.C (Kd.slice 3 (Kd.int .i64)) w A0 l0.length l0) (hc0 : l0.length ≤ c0) (h : impl_AreTakes.f k l0 = some r) :
    Calls Try.prog 35 #[.slice A0 l0.length c0] w fun e w' => e = .returned (.bool r) ∧ Drawn0 w w' := by
  have HR0 := Aside0.mk hr0
  have HC0 := Aside0.mk hc0
  clear hr0 hc0
  have H : (impl_AreTakes.l0 k l0 l0 (l0.length : Int) 0) = some r := h
  clear h
  have H' := Aside0.mk H
  clear H
  go_enter Try.func35, Try.ntmps35
  go_wp2
  go_loopg [9] k (fun kq v9 w' => ∃ (x9_1 : Int), v9 = .int .i64 x9_1 ∧ Aside0 (impl_AreTakes.l0 kq l0 l0 (l0.length : Int) x9_1 = some r) ∧ Aside0 (kq ≤ k) ∧ Drawn0 w w')
  case atStart => exact ⟨(0), (by first | rfl | (simp; done) | (simp [*]; done)), H', ⟨Nat.le_refl _⟩, by repeat (first | exact Drawn0.refl _ | apply Drawn0.step)⟩
  case round =>
    clear H'
    obtain ⟨x9_1, rfl, HA, HK1, ⟨m1, rfl⟩⟩ := hrel
    cases gk with
    | zero => exact absurd HA.out (by simp [impl_AreTakes.l0])
    | succ k1 =>
      have H := HA.out
      clear HA
      simp only [impl_AreTakes.l0] at H
      by_cases c2 : x9_1 < (l0.length : Int)
      · rw [if_pos c2] at H
        have c2b0 : decide (x9_1 < (l0.length : Int)) = true := decide_eq_true c2
        clear c2
        by_cases c3 : 0 ≤ x9_1
        · rw [if_pos c3] at H
          have c3b0 : decide (0 ≤ x9_1) = true := decide_eq_true c3
          clear c3
          by_cases c4 : x9_1 < (l0.length : Int)
          · rw [if_pos c4] at H
            have c4b0 : decide (x9_1 < (l0.length : Int)) = true := decide_eq_true c4
            clear c4
            have HC5 := Aside0.mk H
            clear H
            have p227 : 0 ≤ (x9_1 : Int) := of_decide_eq_true (by first | (with_reducible assumption) | assumption)
            have q227 : x9_1 < (l0.length : Int) := of_decide_eq_true (by first | (with_reducible assumption) | assumption)
            obtain ⟨ad227, A227_0, c227_0, e227, hx227_0, hl227_0, hi227_0⟩ := at_L2 HR0.out x9_1 p227 q227
            cases e227
            have HR227_0 := Aside0.mk hi227_0
            have HC227_0 := Aside0.mk hl227_0
            clear hi227_0 hl227_0
            replace p227 := eq_true p227
            replace q227 := eq_true q227
            go_upto_region 4 with (fail)
            go_cut [24] (fun v24 wc => ∃ (kq : Nat) (x24_4 : Bool), v24 = .bool x24_4 ∧ Aside0 (impl_AreTakes.j1 kq l0 (rd_L2 l0 x9_1) l0 (l0.length : Int) x9_1 x24_4 = some r) ∧ Aside0 (kq ≤ k1) ∧ Drawn0 w wc)
            case first =>
              have H := HC5.out
              clear HC5
              by_cases c6 : 0 < (l0.length : Int)
              · rw [if_pos c6] at H
                have c6b0 : decide (0 < (l0.length : Int)) = true := decide_eq_true c6
                have c6b1 : decide (0 < l0.length) = true := decide_eq_true (by omega)
                clear c6
                (first | rw [c6b0] | (simp only [i64_w, i32_w]; rw [c6b0]) | skip)
                by_cases c7 : ((rd_L2 l0 x9_1).length : Int) = ((rd_L2 l0 0).length : Int)
                · rw [if_pos c7] at H
                  have c7b0 : (((rd_L2 l0 x9_1).length : Int) == ((rd_L2 l0 0).length : Int)) = true := beq_iff_eq.mpr c7
                  have c7b1 : (((rd_L2 l0 x9_1).length : Int) != ((rd_L2 l0 0).length : Int)) = false := bne_eq_false_iff_eq.mpr c7
                  have c7b2 : ((rd_L2 l0 x9_1).length == (rd_L2 l0 0).length) = true := by first | simpa using c7 | (simp at c7 ⊢; omega)
                  clear c7
                  have H' := Aside0.mk H
                  clear H
                  have p228 : 0 ≤ (0 : Int) := (by omega)
                  have q228 : 0 < (l0.length : Int) := of_decide_eq_true (by first | (with_reducible assumption) | assumption)
                  obtain ⟨ad228, A228_0, c228_0, e228, hx228_0, hl228_0, hi228_0⟩ := at_L2 HR0.out 0 p228 q228
                  obtain rfl : ad227 = ad228 := (by injection e228)
                  have qi228 : (0 < l0.length) = True := eq_true (by omega)
                  (try rw [show ((0 : Int)).toNat = 0 from rfl] at hx228_0)
                  (try rw [Addr.add_zero'] at hx228_0)
                  have HR228_0 := Aside0.mk hi228_0
                  have HC228_0 := Aside0.mk hl228_0
                  clear hi228_0 hl228_0
                  replace p228 := eq_true p228
                  replace q228 := eq_true q228
                  go_wp2
                  go_meet
                  case rel => exact ⟨_, (decide (((rd_L2 l0 x9_1).length : Int) > 60)), (by first | rfl | (simp; done) | (simp [*]; done)), H', ⟨by have := HK1.out; first | omega | exact Nat.le_refl _⟩, by repeat (first | exact Drawn0.refl _ | apply Drawn0.step)⟩
                · rw [if_neg c7] at H
                  have c7b0 : (((rd_L2 l0 x9_1).length : Int) == ((rd_L2 l0 0).length : Int)) = false := beq_eq_false_iff_ne.mpr c7
                  have c7b1 : (((rd_L2 l0 x9_1).length : Int) != ((rd_L2 l0 0).length : Int)) = true := bne_iff_ne.mpr c7
                  have c7b2 : ((rd_L2 l0 x9_1).length == (rd_L2 l0 0).length) = false := by first | simpa using c7 | (simp at c7 ⊢; omega)
                  have H' := Aside0.mk H
                  clear H
                  have p228 : 0 ≤ (0 : Int) := (by omega)
                  have q228 : 0 < (l0.length : Int) := of_decide_eq_true (by first | (with_reducible assumption) | assumption)
                  obtain ⟨ad228, A228_0, c228_0, e228, hx228_0, hl228_0, hi228_0⟩ := at_L2 HR0.out 0 p228 q228
                  obtain rfl : ad227 = ad228 := (by injection e228)
                  have qi228 : (0 < l0.length) = True := eq_true (by omega)
                  (try rw [show ((0 : Int)).toNat = 0 from rfl] at hx228_0)
                  (try rw [Addr.add_zero'] at hx228_0)
                  have HR228_0 := Aside0.mk hi228_0
                  have HC228_0 := Aside0.mk hl228_0
                  clear hi228_0 hl228_0
                  replace p228 := eq_true p228
                  replace q228 := eq_true q228
                  go_wp2
                  go_meet
                  case rel => exact ⟨_, (true), (by first | rfl | (simp; done) | (simp [*]; done)), H', ⟨by have := HK1.out; first | omega | exact Nat.le_refl _⟩, by repeat (first | exact Drawn0.refl _ | apply Drawn0.step)⟩
              · rw [if_neg c6] at H
                exact absurd H (by simp)
            case rest =>
              clear HC5
              try clear c2
              try clear c2b0
              try clear p2
              try clear q2
              try clear hx2
              try clear qi2
              try clear c3
              try clear c3b0
              try clear c4
              try clear c4b0
              try clear c6
              try clear c6b0
              try clear c6b1
              try clear c7
              try clear c7b0
              try clear c7b1
              try clear c7b2
              try clear hx227_0
              try clear hx228_0
              try clear p227
              try clear p228
              try clear q227
              try clear q228
              obtain ⟨kq, x24_4, rfl, HA, HJ4, ⟨mc4, rfl⟩⟩ := hcut
              cases kq with
              | zero => exact absurd HA.out (by simp [impl_AreTakes.j1])
              | succ kj4 =>
                have H := HA.out
                clear HA
                simp only [impl_AreTakes.j1] at H
                by_cases c8 : x24_4 = true
                · subst c8
                  have H1 : (some false) = some r := by rw [if_pos rfl] at H; exact H
                  clear H
                  have H := H1
                  clear H1
                  obtain rfl := Option.some.inj H
                  go_wp2
                  go_ret
                  exact ⟨by first | rfl | (simp; done) | (simp [*]; done), by repeat (first | exact Drawn0.refl _ | apply Drawn0.step)⟩
                · replace c8 := Bool.eq_false_iff.mpr c8
                  subst c8
                  have H1 : (impl_AreTakes.l1 kj4 l0 l0 (l0.length : Int) x9_1 (rd_L2 l0 x9_1) ((rd_L2 l0 x9_1).length : Int) 0) = some r := by rw [if_neg (show ¬ (false = true) by decide)] at H; exact H
                  clear H
                  have H := H1
                  clear H1
                  have H' := Aside0.mk H
                  clear H
                  go_wp2
                  go_loopg [27] kj4 (fun kq v27 w' => ∃ (x27_3 : Int), v27 = .int .i64 x27_3 ∧ Aside0 (impl_AreTakes.l1 kq l0 l0 (l0.length : Int) x9_1 (rd_L2 l0 x9_1) ((rd_L2 l0 x9_1).length : Int) x27_3 = some r) ∧ Aside0 (kq ≤ kj4) ∧ Drawn0 w w')
                  case atStart => exact ⟨(0), (by first | rfl | (simp; done) | (simp [*]; done)), H', ⟨Nat.le_refl _⟩, by repeat (first | exact Drawn0.refl _ | apply Drawn0.step)⟩
                  case round =>
                    clear H'
                    try clear c2
                    try clear c2b0
                    try clear p2
                    try clear q2
                    try clear hx2
                    try clear qi2
                    try clear c3
                    try clear c3b0
                    try clear c4
                    try clear c4b0
                    try clear c6
                    try clear c6b0
                    try clear c6b1
                    try clear c7
                    try clear c7b0
                    try clear c7b1
                    try clear c7b2
                    try clear c8
                    try clear hx227_0
                    try clear hx228_0
                    try clear p2
                    try clear p227
                    try clear p228
                    try clear q2
                    try clear q227
                    try clear q228
                    obtain ⟨x27_3, rfl, HA, HK3, ⟨m3, rfl⟩⟩ := hrel
                    cases gk with
                    | zero => exact absurd HA.out (by simp [impl_AreTakes.l1])
                    | succ k3 =>
                      have H := HA.out
                      clear HA
                      simp only [impl_AreTakes.l1] at H
                      by_cases c9 : x27_3 < ((rd_L2 l0 x9_1).length : Int)
                      · rw [if_pos c9] at H
                        have c9b0 : decide (x27_3 < ((rd_L2 l0 x9_1).length : Int)) = true := decide_eq_true c9
                        clear c9
                        by_cases c10 : 0 ≤ x27_3
                        · rw [if_pos c10] at H
                          have c10b0 : decide (0 ≤ x27_3) = true := decide_eq_true c10
                          clear c10
                          by_cases c11 : x27_3 < ((rd_L2 l0 x9_1).length : Int)
                          · rw [if_pos c11] at H
                            have c11b0 : decide (x27_3 < ((rd_L2 l0 x9_1).length : Int)) = true := decide_eq_true c11
                            clear c11
                            replace H := Option.bind_eq_some_iff.mp H
                            obtain ⟨t230, A120, H⟩ := H
                            replace H : (if t230 = true then (impl_AreTakes.l1 k3 l0 l0 (l0.length : Int) x9_1 (rd_L2 l0 x9_1) ((rd_L2 l0 x9_1).length : Int) (wrap64 (x27_3 + 1))) else (some false)) = some r := H
                            have A12 := Aside0.mk A120
                            clear A120
                            by_cases c13 : t230 = true
                            · subst c13
                              have H1 : (impl_AreTakes.l1 k3 l0 l0 (l0.length : Int) x9_1 (rd_L2 l0 x9_1) ((rd_L2 l0 x9_1).length : Int) (wrap64 (x27_3 + 1))) = some r := by rw [if_pos rfl] at H; exact H
                              clear H
                              have H := H1
                              clear H1
                              have H' := Aside0.mk H
                              clear H
                              have p229 : 0 ≤ (x27_3 : Int) := of_decide_eq_true (by first | (with_reducible assumption) | assumption)
                              have q229 : x27_3 < ((rd_L2 l0 x9_1).length : Int) := of_decide_eq_true (by first | (with_reducible assumption) | assumption)
                              obtain ⟨ad229, e229, hx229_0⟩ := Kd.at_int HR227_0.out x27_3 p229 q229
                              cases e229
                              replace p229 := eq_true p229
                              replace q229 := eq_true q229
                              go_wp2_with (first | ((with_reducible refine gate_callee (f := 36) rfl ?_); refine goesL_ (some 32) rfl rfl Try.func36 (by kernel_rfl) rfl #[.int .i64 (rd (rd_L2 l0 x9_1) x27_3), .int .i64 0, .int .i64 999] rfl (by (try simp only [List.map_toArray, List.map_cons, List.map_nil]); first | done | rfl | (simp only [List.length_drop, List.length_take]; rfl)) ?_; (with_reducible refine (impl_InRange.calls (rd (rd_L2 l0 x9_1) x27_3) 0 999 true _ A12.out).mono ?_); rintro e w' ⟨rfl, ⟨nd, rfl⟩⟩; refine ⟨_, rfl, ?_⟩))
                              go_roundg k3
                              case measure => have := HK1.out; have := HJ4.out; have := HK3.out; omega
                              case rel => exact ⟨(wrap64 (x27_3 + 1)), (by first | rfl | (simp; done) | (simp [*]; done)), H', ⟨by have := HK1.out; have := HJ4.out; have := HK3.out; omega⟩, by repeat (first | exact Drawn0.refl _ | apply Drawn0.step)⟩
                            · replace c13 := Bool.eq_false_iff.mpr c13
                              subst c13
                              have H1 : (some false) = some r := by rw [if_neg (show ¬ (false = true) by decide)] at H; exact H
                              clear H
                              have H := H1
                              clear H1
                              obtain rfl := Option.some.inj H
                              have p229 : 0 ≤ (x27_3 : Int) := of_decide_eq_true (by first | (with_reducible assumption) | assumption)
                              have q229 : x27_3 < ((rd_L2 l0 x9_1).length : Int) := of_decide_eq_true (by first | (with_reducible assumption) | assumption)
                              obtain ⟨ad229, e229, hx229_0⟩ := Kd.at_int HR227_0.out x27_3 p229 q229
                              cases e229
                              replace p229 := eq_true p229
                              replace q229 := eq_true q229
                              go_wp2_with (first | ((with_reducible refine gate_callee (f := 36) rfl ?_); refine goesL_ (some 32) rfl rfl Try.func36 (by kernel_rfl) rfl #[.int .i64 (rd (rd_L2 l0 x9_1) x27_3), .int .i64 0, .int .i64 999] rfl (by (try simp only [List.map_toArray, List.map_cons, List.map_nil]); first | done | rfl | (simp only [List.length_drop, List.length_take]; rfl)) ?_; (with_reducible refine (impl_InRange.calls (rd (rd_L2 l0 x9_1) x27_3) 0 999 false _ A12.out).mono ?_); rintro e w' ⟨rfl, ⟨nd, rfl⟩⟩; refine ⟨_, rfl, ?_⟩))
                              go_ret
                              exact ⟨by first | rfl | (simp; done) | (simp [*]; done), by repeat (first | exact Drawn0.refl _ | apply Drawn0.step)⟩
                          · rw [if_neg c11] at H
                            exact absurd H (by simp)
                        · rw [if_neg c10] at H
                          exact absurd H (by simp)
                      · rw [if_neg c9] at H
                        have c9b0 : decide (x27_3 < ((rd_L2 l0 x9_1).length : Int)) = false := decide_eq_false c9
                        clear c9
                        have H' := Aside0.mk H
                        clear H
                        go_wp2
                        go_roundg k3
                        case measure => have := HK1.out; have := HJ4.out; have := HK3.out; omega
                        case rel => exact ⟨(wrap64 (x9_1 + 1)), (by first | rfl | (simp; done) | (simp [*]; done)), H', ⟨by have := HK1.out; have := HJ4.out; have := HK3.out; omega⟩, by repeat (first | exact Drawn0.refl _ | apply Drawn0.step)⟩
          · rw [if_neg c4] at H
            exact absurd H (by simp)
        · rw [if_neg c3] at H
          exact absurd H (by simp)
      · rw [if_neg c2] at H
        have c2b0 : decide (x9_1 < (l0.length : Int)) = false := decide_eq_false c2
        clear c2
        replace H := Option.bind_eq_some_iff.mp H
        obtain ⟨t226, A140, H⟩ := H
        replace H : (some t226) = some r := H
        have A14 := Aside0.mk A140
        clear A140
        obtain rfl := Option.some.inj H
        go_wp2_with (first | ((with_reducible refine gate_callee (f := 36) rfl ?_); refine goesL_ (some 38) rfl rfl Try.func36 (by kernel_rfl) rfl #[.int .i64 (l0.length : Int), .int .i64 1, .int .i64 5] rfl (by (try simp only [List.map_toArray, List.map_cons, List.map_nil]); first | done | rfl | (simp only [List.length_drop, List.length_take]; rfl)) ?_; (with_reducible refine (impl_InRange.calls (l0.length : Int) 1 5 t226 _ A14.out).mono ?_); rintro e w' ⟨rfl, ⟨nd, rfl⟩⟩; refine ⟨_, rfl, ?_⟩))
        go_ret
        exact ⟨by first | rfl | (simp; done) | (simp [*]; done), by repeat (first | exact Drawn0.refl _ | apply Drawn0.step)⟩

-- NOT PRINTED: function 37 (impl_BestSplice_1)

/-! ### impl_BestSplice_1: function 37 -/
def impl_BestSplice_1.f (a0 : Int) (a1 : Int) (a2 : Int) (l3_0 : List (List Int)) (a4_0 : Int) (a5_0 : Int) : Option (Int) := if 0 ≤ a0 then (if a0 < (l3_0.length : Int) then (if 0 ≤ a2 then (if a2 < ((rd_L2 l3_0 a0).length : Int) then (if a1 = a2 then (some (rd (rd_L2 l3_0 a0) a2)) else (if a0 < a4_0 then (some (wrap64 ((rd (rd_L2 l3_0 a0) a2) + a5_0))) else (some (rd (rd_L2 l3_0 a0) a2)))) else (none)) else (none)) else (none)) else (none)
set_option maxHeartbeats 8000000 in
set_option maxRecDepth 100000 in
theorem impl_BestSplice_1.calls (a0 : Int) (a1 : Int) (a2 : Int) (g3_0 : Nat) (A3_0 : Option Addr) (c3_0 : Nat) (l3_0 : List (List Int)) (g4_0 : Nat) (a4_0 : Int) (g5_0 : Nat) (a5_0 : Int) (r : Int) (w : World) (hr3_0 : Kd.C (Kd.slice 3 (Kd.int .i64)) w A3_0 l3_0.length l3_0) (hc3_0 : l3_0.length ≤ c3_0) (hx3_0 : w.heap[g3_0]? = some (.cells #[.slice A3_0 l3_0.length c3_0] 24 (0, 0))) (hx4_0 : w.heap[g4_0]? = some (.cells #[.int .i64 a4_0] 3 (0, 0))) (hx5_0 : w.heap[g5_0]? = some (.cells #[.int .i64 a5_0] 3 (0, 0))) (h : impl_BestSplice_1.f a0 a1 a2 l3_0 a4_0 a5_0 = some r) :
    Calls Try.prog 37 #[.int .i64 a0, .int .i64 a1, .int .i64 a2, .pointer (some ⟨g3_0, 0, none⟩), .pointer (some ⟨g4_0, 0, none⟩), .pointer (some ⟨g5_0, 0, none⟩)] w fun e w' => e = .returned (.int .i64 r) ∧ Drawn0 w w' := by
  have HR3_0 := Aside0.mk hr3_0
  have HC3_0 := Aside0.mk hc3_0
  clear hr3_0 hc3_0
  have HX3_0 := Aside0.mk hx3_0
  clear hx3_0
  have HX4_0 := Aside0.mk hx4_0
  clear hx4_0
  have HX5_0 := Aside0.mk hx5_0
  clear hx5_0
  have H : (if 0 ≤ a0 then (if a0 < (l3_0.length : Int) then (if 0 ≤ a2 then (if a2 < ((rd_L2 l3_0 a0).length : Int) then (if a1 = a2 then (some (rd (rd_L2 l3_0 a0) a2)) else (if a0 < a4_0 then (some (wrap64 ((rd (rd_L2 l3_0 a0) a2) + a5_0))) else (some (rd (rd_L2 l3_0 a0) a2)))) else (none)) else (none)) else (none)) else (none)) = some r := h
  clear h
  by_cases c7 : 0 ≤ a0
  · rw [if_pos c7] at H
    have c7b0 : decide (0 ≤ a0) = true := decide_eq_true c7
    clear c7
    by_cases c8 : a0 < (l3_0.length : Int)
    · rw [if_pos c8] at H
      have c8b0 : decide (a0 < (l3_0.length : Int)) = true := decide_eq_true c8
      clear c8
      by_cases c9 : 0 ≤ a2
      · rw [if_pos c9] at H
        have c9b0 : decide (0 ≤ a2) = true := decide_eq_true c9
        clear c9
        by_cases c10 : a2 < ((rd_L2 l3_0 a0).length : Int)
        · rw [if_pos c10] at H
          have c10b0 : decide (a2 < ((rd_L2 l3_0 a0).length : Int)) = true := decide_eq_true c10
          clear c10
          by_cases c11 : a1 = a2
          · rw [if_pos c11] at H
            have c11b0 : (a1 == a2) = true := beq_iff_eq.mpr c11
            have c11b1 : (a1 != a2) = false := bne_eq_false_iff_eq.mpr c11
            clear c11
            obtain rfl := Option.some.inj H
            have hcz12_0 : w.cell? ⟨g3_0, 0, none⟩ = some (.slice A3_0 l3_0.length c3_0) := (blk_cell HX3_0.out 0).trans rfl
            have hfz12_0 := blk_frozen HX3_0.out 0
            have p251 : 0 ≤ (a0 : Int) := of_decide_eq_true (by first | (with_reducible assumption) | assumption)
            have q251 : a0 < (l3_0.length : Int) := of_decide_eq_true (by first | (with_reducible assumption) | assumption)
            obtain ⟨ad251, A251_0, c251_0, e251, hx251_0, hl251_0, hi251_0⟩ := at_L2 HR3_0.out a0 p251 q251
            cases e251
            have HR251_0 := Aside0.mk hi251_0
            have HC251_0 := Aside0.mk hl251_0
            clear hi251_0 hl251_0
            replace p251 := eq_true p251
            replace q251 := eq_true q251
            have p252 : 0 ≤ (a2 : Int) := of_decide_eq_true (by first | (with_reducible assumption) | assumption)
            have q252 : a2 < ((rd_L2 l3_0 a0).length : Int) := of_decide_eq_true (by first | (with_reducible assumption) | assumption)
            obtain ⟨ad252, e252, hx252_0⟩ := Kd.at_int HR251_0.out a2 p252 q252
            cases e252
            replace p252 := eq_true p252
            replace q252 := eq_true q252
            go_enter Try.func37, Try.ntmps37
            go_wp2
            go_ret
            exact ⟨by first | rfl | (simp; done) | (simp [*]; done), by repeat (first | exact Drawn0.refl _ | apply Drawn0.step)⟩
          · rw [if_neg c11] at H
            have c11b0 : (a1 == a2) = false := beq_eq_false_iff_ne.mpr c11
            have c11b1 : (a1 != a2) = true := bne_iff_ne.mpr c11
            by_cases c13 : a0 < a4_0
            · rw [if_pos c13] at H
              have c13b0 : decide (a0 < a4_0) = true := decide_eq_true c13
              clear c13
              obtain rfl := Option.some.inj H
              have hcz14_0 : w.cell? ⟨g3_0, 0, none⟩ = some (.slice A3_0 l3_0.length c3_0) := (blk_cell HX3_0.out 0).trans rfl
              have hfz14_0 := blk_frozen HX3_0.out 0
              have p251 : 0 ≤ (a0 : Int) := of_decide_eq_true (by first | (with_reducible assumption) | assumption)
              have q251 : a0 < (l3_0.length : Int) := of_decide_eq_true (by first | (with_reducible assumption) | assumption)
              obtain ⟨ad251, A251_0, c251_0, e251, hx251_0, hl251_0, hi251_0⟩ := at_L2 HR3_0.out a0 p251 q251
              cases e251
              have HR251_0 := Aside0.mk hi251_0
              have HC251_0 := Aside0.mk hl251_0
              clear hi251_0 hl251_0
              replace p251 := eq_true p251
              replace q251 := eq_true q251
              have p252 : 0 ≤ (a2 : Int) := of_decide_eq_true (by first | (with_reducible assumption) | assumption)
              have q252 : a2 < ((rd_L2 l3_0 a0).length : Int) := of_decide_eq_true (by first | (with_reducible assumption) | assumption)
              obtain ⟨ad252, e252, hx252_0⟩ := Kd.at_int HR251_0.out a2 p252 q252
              cases e252
              replace p252 := eq_true p252
              replace q252 := eq_true q252
              have hcz15_0 : w.cell? ⟨g4_0, 0, none⟩ = some (.int .i64 a4_0) := (blk_cell HX4_0.out 0).trans rfl
              have hfz15_0 := blk_frozen HX4_0.out 0
              have hcz16_0 : w.cell? ⟨g5_0, 0, none⟩ = some (.int .i64 a5_0) := (blk_cell HX5_0.out 0).trans rfl
              have hfz16_0 := blk_frozen HX5_0.out 0
              go_enter Try.func37, Try.ntmps37
              go_wp2
              go_ret
              exact ⟨by first | rfl | (simp; done) | (simp [*]; done), by repeat (first | exact Drawn0.refl _ | apply Drawn0.step)⟩
            · rw [if_neg c13] at H
              have c13b0 : decide (a0 < a4_0) = false := decide_eq_false c13
              clear c13
              obtain rfl := Option.some.inj H
              have hcz17_0 : w.cell? ⟨g3_0, 0, none⟩ = some (.slice A3_0 l3_0.length c3_0) := (blk_cell HX3_0.out 0).trans rfl
              have hfz17_0 := blk_frozen HX3_0.out 0
              have p251 : 0 ≤ (a0 : Int) := of_decide_eq_true (by first | (with_reducible assumption) | assumption)
              have q251 : a0 < (l3_0.length : Int) := of_decide_eq_true (by first | (with_reducible assumption) | assumption)
              obtain ⟨ad251, A251_0, c251_0, e251, hx251_0, hl251_0, hi251_0⟩ := at_L2 HR3_0.out a0 p251 q251
              cases e251
              have HR251_0 := Aside0.mk hi251_0
              have HC251_0 := Aside0.mk hl251_0
              clear hi251_0 hl251_0
              replace p251 := eq_true p251
              replace q251 := eq_true q251
              have p252 : 0 ≤ (a2 : Int) := of_decide_eq_true (by first | (with_reducible assumption) | assumption)
              have q252 : a2 < ((rd_L2 l3_0 a0).length : Int) := of_decide_eq_true (by first | (with_reducible assumption) | assumption)
              obtain ⟨ad252, e252, hx252_0⟩ := Kd.at_int HR251_0.out a2 p252 q252
              cases e252
              replace p252 := eq_true p252
              replace q252 := eq_true q252
              have hcz18_0 : w.cell? ⟨g4_0, 0, none⟩ = some (.int .i64 a4_0) := (blk_cell HX4_0.out 0).trans rfl
              have hfz18_0 := blk_frozen HX4_0.out 0
              go_enter Try.func37, Try.ntmps37
              go_wp2
              go_ret
              exact ⟨by first | rfl | (simp; done) | (simp [*]; done), by repeat (first | exact Drawn0.refl _ | apply Drawn0.step)⟩
        · rw [if_neg c10] at H
          exact absurd H (by simp)
      · rw [if_neg c9] at H
        exact absurd H (by simp)
    · rw [if_neg c8] at H
      exact absurd H (by simp)
  · rw [if_neg c7] at H
    exact absurd H (by simp)

end Go.Proofs.Ytdbmllbphbhfpaa.PSp
