import Derived.Test.YtdbmllbphbhfpaaWWords
import Derived.Deep.Slices
import Derived.OpenShut
/-! What came in, opened: a value that is trodden is read kind by kind. -/
namespace Go.Proofs.YtdbmllbphbhfpaaW.PrintWords
open Go.RowKit
section
variable {α β : Type} {P : Program}
/-- What is trodden at a type is read by a kind. -/
def Opens (P : Program) (e : TypeId) (d : Kd α) : Prop := ∀ (H : Type) (enc : TypeId × Value → H) (w : World) (base : Nat) (spare : Nat → Bool) (held : Bool) (fuel : Nat) (cs : List Value) (x : DataW H × List MemPlace), DataW.trod enc P w base spare held fuel e cs = some x → ∃ a, d.K w a cs
def OpensF (P : Program) (fs : List Field) (off n : Nat) (d : Kd α) : Prop := ∀ (H : Type) (enc : TypeId × Value → H) (w : World) (base : Nat) (spare : Nat → Bool) (held : Bool) (fuel : Nat) (cs : List Value) (xs : List (DataW H × List MemPlace)), cs.length = off + n →
  fs.mapM (fun f => DataW.trod enc P w base spare held fuel f.type ((cs.drop f.offset).take (P.cellsOf f.type))) = some xs → ∃ a, d.K w a (cs.drop off)
theorem opens_int {e : TypeId} {k : IntKind} (he : P.underlying e = some (.int k)) : Opens P e (Kd.int k) := by
  intro H enc w base spare held fuel cs x h
  cases fuel with
  | zero => simp [DataW.trod] at h
  | succ n =>
    unfold DataW.trod at h
    rw [he] at h
    split at h <;> simp_all
    obtain ⟨⟨rfl, _⟩, _⟩ := h
    exact ⟨_, rfl⟩
theorem opens_slice {t e : TypeId} {d : Kd α} (ht : P.underlying t = some (.slice e)) (hc : P.cellsOf e = d.sz) (hd : Opens P e d) : Opens P t (Kd.slice e d) := by
  intro H enc w base spare held fuel cs x h
  rcases Go.Deep.open_slice ht h with ⟨rfl, _⟩ | ⟨a, len, cap, m, n, D, Pl, rfl, _, hl, hm, hmm, _, hx⟩
  · exact ⟨[], none, 0, rfl, Nat.le_refl _, rfl, by simp, fun h => by simp at h⟩
  · have hlm : len ≤ m := by rw [hmm]; split <;> omega
    have hmx : maxLen = 9223372036854775807 := rfl
    by_cases h0 : len = 0
    · subst h0
      exact ⟨[], some a, cap, rfl, by simp, rfl, by simp, fun h => by simp at h⟩
    · have h1 : ∀ i, i < len → ∃ p : α × List Value, w.cells? base (a.add (i * P.cellsOf e)) (P.cellsOf e) = some p.2 ∧ d.K w p.1 p.2 := by
        intro i hi
        obtain ⟨cs', h1, h2⟩ := hx i (by omega)
        obtain ⟨y, hy⟩ := hd H enc w base spare held n cs' _ h2
        exact ⟨(y, cs'), h1, hy⟩
      obtain ⟨p0, _⟩ := h1 0 (by omega)
      letI : Inhabited (α × List Value) := ⟨p0⟩
      obtain ⟨f, hf⟩ := Go.Deep.choose_lt h1
      have hlen : ((List.range len).map fun i => (f i).1).length = len := by simp
      refine ⟨(List.range len).map fun i => (f i).1, some a, cap, by rw [hlen], by rw [hlen]; exact hl, rfl, by rw [hlen]; omega, fun _ => ⟨a, rfl, fun j q hj => ?_⟩⟩
      have hjl : j < len := by
        have := (List.getElem?_eq_some_iff.1 hj).1
        rwa [hlen] at this
      have hq : q = (f j).1 := by
        rw [List.getElem?_map, List.getElem?_range hjl] at hj
        simpa using hj.symm
      obtain ⟨h2, h3⟩ := hf j hjl
      obtain ⟨_, h4, h5⟩ := World.cells?_some h2
      refine ⟨(f j).2, by rw [h4, hc], hq ▸ h3, fun i u hi => ?_⟩
      have hil : i < P.cellsOf e := by rw [← h4]; exact (List.getElem?_eq_some_iff.1 hi).1
      have h6 := h5 i hil
      rw [hi] at h6
      rw [← h6, ← hc, Go.Deep.add_add]
theorem opensF_one {f : Field} {off n : Nat} {d : Kd α} (h1 : f.offset = off) (h2 : P.cellsOf f.type = n) (hd : Opens P f.type d) : OpensF P [f] off n d := by
  intro H enc w base spare held fuel cs xs hl h
  simp only [List.mapM_cons, List.mapM_nil] at h
  cases hx : DataW.trod enc P w base spare held fuel f.type ((cs.drop f.offset).take (P.cellsOf f.type)) with
  | none => rw [hx] at h; simp at h
  | some x =>
    obtain ⟨a, ha⟩ := hd H enc w base spare held fuel _ x hx
    rw [h1, h2, List.take_of_length_le (by rw [List.length_drop]; omega)] at ha
    exact ⟨a, ha⟩
theorem opensF_cons {f : Field} {fs : List Field} {off m n : Nat} {d : Kd α} {d' : Kd β} (h1 : f.offset = off) (h2 : P.cellsOf f.type = m) (hd : Opens P f.type d) (hr : OpensF P fs (off + m) n d') : OpensF P (f :: fs) off (m + n) (Kd.pair d d') := by
  intro H enc w base spare held fuel cs xs hl h
  simp only [List.mapM_cons] at h
  cases hx : DataW.trod enc P w base spare held fuel f.type ((cs.drop f.offset).take (P.cellsOf f.type)) with
  | none => rw [hx] at h; simp at h
  | some x =>
    rw [hx] at h
    cases hy : fs.mapM (fun f => DataW.trod enc P w base spare held fuel f.type ((cs.drop f.offset).take (P.cellsOf f.type))) with
    | none => rw [hy] at h; simp at h
    | some ys =>
      obtain ⟨a, ha⟩ := hd H enc w base spare held fuel _ x hx
      obtain ⟨b, hb⟩ := hr H enc w base spare held fuel cs ys (by omega) hy
      rw [h1, h2] at ha
      exact ⟨(a, b), _, _, by rw [← List.drop_drop, List.take_append_drop], ha, hb⟩
theorem opens_struct {t : TypeId} {fs : Array Field} {n : Nat} {d : Kd α} (ht : P.underlying t = some (.struct fs)) (hn : P.cellsOf t = n) (hf : OpensF P fs.toList 0 n d) : Opens P t d := by
  intro H enc w base spare held fuel cs x h
  cases fuel with
  | zero => simp [DataW.trod] at h
  | succ m =>
    unfold DataW.trod at h
    rw [ht] at h
    simp only at h
    split at h
    · rename_i hl
      obtain ⟨xs, hxs, _⟩ := Option.map_eq_some_iff.1 h
      obtain ⟨a, ha⟩ := hf H enc w base spare held m cs xs (by omega) hxs
      exact ⟨a, by simpa using ha⟩
    · simp at h
theorem opens_iso {t : TypeId} {d : Kd α} {f : β → α} (g : α → β) (hfg : ∀ a, f (g a) = a) (h : Opens P t d) : Opens P t (Kd.iso d f) := by
  intro H enc w base spare held fuel cs x hx
  obtain ⟨a, ha⟩ := h H enc w base spare held fuel cs x hx
  exact ⟨g a, by show d.K w (f (g a)) cs; rw [hfg]; exact ha⟩
end
end Go.Proofs.YtdbmllbphbhfpaaW.PrintWords
