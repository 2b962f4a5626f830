/- What is proved: for every list of works that the law FnExactBestOrder is called with, within the sizes that the given statement names,
   the law returns true and leaves what it was given as it was: the program's BestOrder returns what the reference's returns.
   Conditions: none beside those of the given statement FnExactBestOrderSaid. -/
-- By this session's own program over the kit's print; every row is checked by Lean.
import Derived.Test.YtdbmllbphbhfpaaRows
import Derived.Test.YtdbmllbphbhfpaaExBo
import Derived.Test.YtdbmllbphbhfpaaPureBoE
import Derived.Test.YtdbmllbphbhfpaaOpens
import Derived.WalkKit
import Derived.ProofKit
import Derived.OpenShut
import Derived.ShutString
import Derived.ChangeOld
import Derived.Below
import Derived.SizedLaws
namespace Go.Proofs.Ytdbmllbphbhfpaa.fnExactBestOrder
open Go.Proofs.YtdbmllbphbhfpaaW Go.ChangeShapes Go.WideShapes Go.ChangeAt Go.RowKit
open Go.ChangeMaps (open_string shut_string)
set_option linter.unusedVariables false
theorem own : ownKnob Try.prog.godebug = none := by kernel_rfl
theorem laidOut : laidOutB Try.prog = true := by kernel_rfl
open Go.Proofs.YtdbmllbphbhfpaaW.PrintWords in
theorem opens75 : Opens Try.prog 75 PBo.k75 :=
  opens_iso (fun a => (⟨a.1, a.2⟩ : PBo.S75)) (fun _ => rfl) (opens_struct (n := 2) Try.underlying75 (by kernel_rfl)
    (opensF_cons (m := 1) (n := 1) rfl (by kernel_rfl) (opens_int Try.underlying3) (opensF_one rfl (by kernel_rfl) (opens_slice Try.underlying25 (by kernel_rfl) (opens_int Try.underlying3)))))
open Go.Proofs.YtdbmllbphbhfpaaW.PrintWords in
theorem opens47 : Opens Try.prog 47 (Kd.slice 75 PBo.k75) := opens_slice Try.underlying47 (by kernel_rfl) opens75
open Go.Proofs.YtdbmllbphbhfpaaW.PrintWords in
theorem bound75 {w : World} {A : Option Addr} {l : List PBo.S75} (h : PBo.k75.C w A l.length l) : ∀ j : Int, 0 ≤ j → j < l.length → (PBo.rd_T75 l j).f1.length ≤ 9223372036854775807 := by
  intro j h0 h1
  obtain ⟨ad, c, _, _, hK, _⟩ := ReadsRow.get_ h PBo.z75 j h0 h1
  obtain ⟨A1, c1, _, _, hC⟩ := PBo.k75_open hK
  exact hC.2.1
set_option maxRecDepth 100000 in
theorem lifted (os : Os) (started : os.Started) (H : Type) (enc : TypeId × Value → H) :
    ReturnsInHanded {} Try.checked os 5 .any (Rows.fnExactBestOrderSpec.pre6 enc Try.prog Try.f5 Rows.fnExactBestOrderRow.domain false) (Rows.fnExactBestOrderSpec.post enc Try.prog Try.f5 false true false false) := by
  refine returnsInHanded_of_change_sized (C := Try.checked) own started (by kernel_rfl) Try.func5
    (ChangeSpec.witness6 (enc := enc) (C := Try.checked) false ⟨#[], #[.slice none 0 0], []⟩ 8 (by kernel_rfl) (by kernel_rfl) (by kernel_rfl) (by kernel_rfl)) ?_
  intro W base args ds gs before hval0 hW hcnd hsz0 _
  have hsz : (DataW.weightsEach Try.prog (Try.f5.params.toList ++ Rows.fnExactBestOrderSpec.plain.varTypes Try.prog) (ds ++ gs)).all (· ≤ reachBytes) = true := hsz0
  have hval : ∀ (j : Nat) t v, Try.f5.params[j]? = some t → args[j]? = some v → Value.okWide Try.prog W .any base t v := hval0
  have hW' := hW
  obtain ⟨p, q, hA0, hV, rfl, hfz, hnd⟩ := hW
  have hA : DataW.TrodAll enc Try.prog W 0 (fun _ => true) true Try.f5.params.toList args.toList ds p := hA0
  rw [Try.params5] at hA hval hsz
  obtain ⟨v0, vs0, d0, ds0, p0, q0, hargs, rfl, rfl, h0, r0⟩ := trodAll_cons hA
  obtain ⟨rfl, rfl, rfl⟩ := trodAll_nil r0
  obtain rfl : args = #[v0] := by cases args; simp_all
  obtain ⟨rfl, rfl⟩ := trodVars_none hV
  obtain ⟨a0, len0, cap0, rfl⟩ := okWide_slice Try.underlying47 (hval 0 47 v0 rfl rfl)
  have k0 := h0
  have lt0 : ∀ x ∈ p0, x.block < W.heap.size := by obtain ⟨m, hm⟩ := k0; exact DataW.trod_lt m _ _ _ hm
  obtain ⟨l0, hC, hcap⟩ : ∃ l0 : List PBo.S75, (len0 = l0.length ∧ l0.length ≤ cap0) ∧ PBo.k75.C W a0 l0.length l0 := by
    obtain ⟨fuel, hf⟩ := h0
    obtain ⟨l0, A, c, he, hle, hK⟩ := opens47 _ _ _ _ _ _ _ _ _ hf
    simp [Value.cells] at he
    obtain ⟨rfl, rfl, rfl⟩ := he
    exact ⟨l0, ⟨rfl, hle⟩, hK⟩
  obtain ⟨rfl, hle⟩ := hC
  clear hA0 hval0 hsz0 hsz
  have hwalk : Calls Try.prog 5 #[.slice a0 l0.length cap0] W fun e w' => e = .returned (.bool true) ∧ Below W.heap.size W w' := by
    obtain ⟨k, left, h1, hl | ⟨hl, k1, m, l, l', o, o', h2, h3, h4, h5, h6, h7, hk1, h8, h9, hm⟩⟩ := PureBo.exact_order l0 hcap.2.1 (bound75 hcap)
    · exact PBo.laws_FnExactBestOrder.big k a0 cap0 l0 W hcap hle left h1 hl
    · exact PBo.laws_FnExactBestOrder.yes k a0 cap0 l0 W hcap hle left k1 m l l' o o' h1 hl h2 h3 h4 h5 h6 h7 hk1 h8 h9 hm
  refine hwalk.mono fun e W' ⟨he, bel⟩ => ?_
  subst he
  exact ⟨_, rfl, _, _, _, [], _, [], hW', trodAll_mk1 (shut_bool Try.underlying4 _), (trodAll_cons_mk (Below.trod laidOut (by kernel_rfl) (of_decide_eq_true (by kernel_rfl)) k0 bel lt0) trodAll_mk0), rfl, bel.frame _, fun h => by cases h⟩
theorem over : Rows.fnExactBestOrderRow.holds Try.pinned (OpenSpec.ofChange Rows.fnExactBestOrderSpec) :=
  OpenClaim.holds_of_wide 5 Try.f5 rfl rfl rfl rfl rfl rfl rfl ⟨rfl, rfl, rfl, rfl, rfl⟩ rfl rfl rfl rfl rfl (by kernel_rfl) Try.func5 (by kernel_rfl)
    (of_decide_eq_true (by kernel_rfl)) (by unfold Func.isWrapper; first | (rw [if_pos (by decide +kernel)]; kernel_rfl) | (rw [if_neg (by decide +kernel)]; exact ⟨rfl, rfl⟩))
    (fun os started H enc _ => lifted os started H enc)
theorem proved : Rows.FnExactBestOrderSaid := over
#print axioms proved
end Go.Proofs.Ytdbmllbphbhfpaa.fnExactBestOrder
namespace Go.Proofs.Ytdbmllbphbhfpaa
/-- The row, under a short name, for the claim. -/
theorem fnExactBestOrder_holds : Rows.FnExactBestOrderSaid := fnExactBestOrder.proved
end Go.Proofs.Ytdbmllbphbhfpaa
