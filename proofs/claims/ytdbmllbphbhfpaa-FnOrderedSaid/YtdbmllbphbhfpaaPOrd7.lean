-- By this session's own program over the kit's print; every row is checked by Lean.
import Derived.Test.YtdbmllbphbhfpaaPOrd0
import Derived.Test.YtdbmllbphbhfpaaPOrd3
import Derived.Test.YtdbmllbphbhfpaaPOrd4
import Derived.Test.YtdbmllbphbhfpaaPOrd5
import Derived.Test.YtdbmllbphbhfpaaPOrd6
namespace Go.Proofs.Ytdbmllbphbhfpaa.POrd
open Go.RowKit Go.Proofs.YtdbmllbphbhfpaaW.PrintWords Go.Proofs.YtdbmllbphbhfpaaW.PrintLast Go.Proofs.YtdbmllbphbhfpaaW.PrintMore
attribute [local go_sem] max2_int min2_int max_two min_two max_three min_three max_four min_four   -- for this text's walks alone
set_option linter.unusedVariables false
set_option linter.unusedSimpArgs false

/-! ### impl_BestOrder: function 14 (by hand) -/
namespace impl_BestOrder_w
mutual
def ext : Nat → List S40 → List Int → List Int → Int → Option (List Int × Int)
  | 0, _, _, _, _ => none
  | k + 1, l, order, best, least => if order.length = l.length then (impl_OrderCost.f k l order).bind fun c => (if least < 0 then (impl_clone_int.f order).bind fun o => some (o, c) else if c < least then (impl_clone_int.f order).bind fun o => some (o, c) else some (best, least)) else loop k l order best least 0
def loop : Nat → List S40 → List Int → List Int → Int → Int → Option (List Int × Int)
  | 0, _, _, _, _, _ => none
  | k + 1, l, order, best, least, i => if i < (l.length : Int) then (slices_Contains_int_int.f k order i).bind fun b => (if b = true then loop k l order best least (i + 1) else (if order.length < 17592186044416 then (ext k l (order ++ [i]) best least).bind fun r => loop k l order r.1 r.2 (i + 1) else none)) else some (best, least)
end
/-- The four variables, the order at hand, the best so far. -/
structure St (w0 W : World) (gl gq gb ge : Nat) (A0 : Option Addr) (c0 : Nat) (l : List S40) (v : Value) (order : List Int) (vb : Value) (best : List Int) (least : Int) : Prop where
  B : Below w0.heap.size w0 W
  hl : W.heap[gl]? = some (.cells #[.slice A0 l.length c0] 33 (0, 0))
  hq : W.heap[gq]? = some (.cells #[.int .i64 least] 3 (0, 0))
  hb : W.heap[gb]? = some (.cells #[vb] 25 (0, 0))
  he : W.heap[ge]? = some (.cells #[.func (.func 44) #[] #[.pointer (some ⟨gl, 0, none⟩), .pointer (some ⟨gq, 0, none⟩), .pointer (some ⟨gb, 0, none⟩), .pointer (some ⟨ge, 0, none⟩)]] 65 (0, 0))
  ro : Kd.R (Kd.int .i64) 3 W w0.heap.size (fun k => k ≠ gq ∧ some k ≠ vb.ownBlock) v order
  rb : Kd.R (Kd.int .i64) 3 W w0.heap.size (fun k => k ≠ gq) vb best
/-- What has been kept. -/
structure Fr (W W' : World) (gq gb : Nat) (v vb vb' : Value) : Prop where
  size : W.heap.size ≤ W'.heap.size
  keep : ∀ j, j < W.heap.size → j ≠ gq → j ≠ gb → some j ≠ v.ownBlock → W'.heap[j]? = W.heap[j]?
  new : vb' = vb ∨ ∀ j, vb'.ownBlock = some j → W.heap.size ≤ j
theorem Fr.refl (W : World) (gq gb : Nat) (v vb : Value) : Fr W W gq gb v vb vb := ⟨Nat.le_refl _, fun _ _ _ _ _ => rfl, .inl rfl⟩
theorem Fr.trans {W W1 W2 : World} {gq gb : Nat} {v vb vb1 vb2 : Value} (h : Fr W W1 gq gb v vb vb1) (k : Fr W1 W2 gq gb v vb1 vb2) : Fr W W2 gq gb v vb vb2 := by
  refine ⟨Nat.le_trans h.size k.size, fun j h1 h2 h3 h4 => (k.keep j (Nat.lt_of_lt_of_le h1 h.size) h2 h3 h4).trans (h.keep j h1 h2 h3 h4), ?_⟩
  rcases k.new with e | hn
  · rw [e]; exact h.new
  · exact .inr fun j hj => Nat.le_trans h.size (hn j hj)
/-- A world that only grew. -/
theorem St.grow {w0 W W1 : World} {gl gq gb ge : Nat} {A0 : Option Addr} {c0 : Nat} {l : List S40} {v vb : Value} {order best : List Int} {least : Int} (h : St w0 W gl gq gb ge A0 c0 l v order vb best least) (hb : Below W.heap.size W W1) : St w0 W1 gl gq gb ge A0 c0 l v order vb best least :=
  ⟨below_step h.B hb, blk_below h.hl hb, blk_below h.hq hb, blk_below h.hb hb, blk_below h.he hb, Kd.R_below h.ro hb, Kd.R_below h.rb hb⟩
theorem Fr.grow {W W1 : World} (gq gb : Nat) (v vb : Value) (hb : Below W.heap.size W W1) : Fr W W1 gq gb v vb vb := ⟨hb.size, fun j h _ _ _ => hb.block j h, .inl rfl⟩

/-- An order's row is its block's head, whatever lies behind. -/
theorem R_int_of {w : World} {base g n cap : Nat} {ok : Nat → Prop} {xs : List Int} {cur : Array Value} (hok : ok g) (hb : base ≤ g) (hh : w.heap[g]? = some (.cells cur 3 (0, 0))) (hn : xs.length = n) (hc : n ≤ cap) (hm : cap ≤ maxLen) (hs : cur.size = cap) (ht : cur.toList.take n = xs.map (Value.int .i64)) : Kd.R (Kd.int .i64) 3 w base ok (.slice (some ⟨g, 0, none⟩) n cap) xs := by
  subst hn
  refine Kd.R_of_own ⟨by simp [encs], .inr ⟨g, cap, cur, rfl, hb, hh, hc, hm, by rw [hs, Nat.mul_one], by rw [Nat.mul_one]; exact ht⟩⟩ (fun k hk => ?_)
  have : g = k := by simpa [Value.ownBlock] using hk
  exact this ▸ hok
theorem int_of_R {w : World} {base n cap : Nat} {A : Option Addr} {ok : Nat → Prop} {xs : List Int} (h : Kd.R (Kd.int .i64) 3 w base ok (.slice A n cap) xs) : xs.length = n ∧ ((A = none ∧ n = 0 ∧ cap = 0) ∨ ∃ g cur, A = some ⟨g, 0, none⟩ ∧ ok g ∧ base ≤ g ∧ w.heap[g]? = some (.cells cur 3 (0, 0)) ∧ n ≤ cap ∧ cap ≤ maxLen ∧ cur.size = cap ∧ cur.toList.take n = xs.map (Value.int .i64)) := by
  have h0 := h.1
  obtain ⟨hl, h⟩ := Kd.own_of_R h
  rcases h with ⟨he, hn⟩ | ⟨g, cap', cur, he, hb, hh, hc, hm, hs, ht⟩
  · injection he with e1 e2 e3
    exact ⟨by omega, .inl ⟨e1, e2, e3⟩⟩
  · injection he with e1 e2 e3
    subst e1 e3
    refine ⟨e2.symm, .inr ⟨g, cur, rfl, h0 g (by simp [Value.ownBlock]), hb, hh, by omega, hm, by simpa using hs, ?_⟩⟩
    rw [e2]
    simpa [encs] using ht
theorem step_append_int {P : Program} {ops : Array Oper} {o : Oper} {a : Act} {w : World} {K : Act → World → Prop} {Q : Exit → Act → World → Prop} {E : Prop}
    (hg : o.guard = none) (s x : Operand) (t : TypeId) (hop : o.op = Op.call { callee := Callee.builtin Builtin.append, args := #[s, x], argTypes := #[t, t] })
    (h1 : P.underlying t = some (.slice 3)) (hinfo : (P.info? 3).map (fun i => (i.zero, i.size, i.bytes)) = some (some (.int .i64 0), 1, 8))
    (base : Nat) (ok : Nat → Prop) (A : Option Addr) (n c0 : Nat) (xs : List Int) (y : Int) (ad : Addr) (c : Nat) (hs : a.eval s = .slice A n c0) (hx : a.eval x = .slice (some ad) 1 c)
    (hR : Kd.R (Kd.int .i64) 3 w base ok (.slice A n c0) xs) (hc : w.cell? ad = some (.int .i64 y)) (hfresh : ∀ k, w.heap.size ≤ k → ok k) (hbase : base ≤ w.heap.size) (hl : xs.length < 17592186044416)
    (h : ∀ v1 w1, Kd.R (Kd.int .i64) 3 w1 base ok v1 (xs ++ [y]) → (∀ W', Kd.R (Kd.int .i64) 3 W' base ok v1 (xs ++ [y]) → (∀ k, (Value.slice A n c0).ownBlock = some k → v1.ownBlock ≠ some k → W'.heap[k]? = w1.heap[k]?) → Kd.R (Kd.int .i64) 3 W' base ok (.slice A n c0) xs) → w.grownBy w1 (Value.slice A n c0).ownBlock → (v1.ownBlock = (Value.slice A n c0).ownBlock ∨ ∃ b, v1.ownBlock = some b ∧ w.heap.size ≤ b) → K (a.put o.dst v1) w1) :
    if Region.wanted o (yielded ops a.tmps) = true then Oper.wp P o a w K Q else E := by
  obtain ⟨i0, hi0, hz0, hsz, hby⟩ := info_parts hinfo
  obtain ⟨hn, hA⟩ := int_of_R hR
  have h1c : ∀ u ∈ [Value.int .i64 y], u.oneCell' = true := by intro u hu; simp at hu; subst hu; rfl
  have hcc : ∀ (j : Nat) u, [Value.int .i64 y][j]? = some u → w.cell? (ad.add j) = some u := by
    intro j u hj
    cases j with
    | zero => simp at hj; subst hj; first | exact hc | (have e : ad.add 0 = ad := (by unfold Addr.add; cases ad; simp); rw [e]; exact hc)
    | succ j => simp at hj
  have hb0 : ∀ k, (Value.slice A n c0).ownBlock = some k → ok k := hR.1
  have grows (hlt : c0 < n + 1) (hnone : A = none → n = 0 ∧ c0 = 0) (olds : List Value) (ho : olds = xs.map (Value.int .i64)) (hold : ∀ b, A = some b → ∀ j u, olds[j]? = some u → w.cell? (b.add j) = some u) : if Region.wanted o (yielded ops a.tmps) = true then Oper.wp P o a w K Q else E := by
    refine step_append_grows hg s x t hop 3 i0 (.int .i64 0) 1 8 h1 hi0 hz0 hsz hby rfl (by decide) A n c0 olds hs hnone (by simp [ho, hn]) hold ad 1 c [.int .i64 y] hx rfl hcc h1c hlt (by unfold maxLen; omega) (by omega) ?_
    intro v1 w1 hown hgr
    have hR1 : Kd.R (Kd.int .i64) 3 w1 base ok v1 (xs ++ [y]) := by
      refine Kd.R_of_own ?_ (fun k hk => hfresh k (own_base hown k hk))
      refine own_less (b := w.heap.size) ?_ hbase
      have e : encs (Value.int .i64) (xs ++ [y]) = olds ++ [.int .i64 y] := by simp [encs, ho]
      rw [e, show (xs ++ [y]).length = n + 1 by simp [hn]]
      exact hown
    refine h v1 w1 hR1 (fun W' hW hk => ?_) ⟨hgr.os, hgr.tape, hgr.output, hgr.size, fun i hi _ => hgr.block i hi (by simp)⟩ ?_
    · have h0 : Kd.R (Kd.int .i64) 3 w1 base ok (.slice A n c0) xs := Kd.R_grown hR hgr (fun _ _ => by simp)
      refine Kd.R_of_own (own_move (Kd.own_of_R h0) fun k e => hk k e ?_) h0.1
      intro e2
      have h3 := own_base hown k e2
      have h4 := Kd.R_lt hR k e
      omega
    · by_cases hv : v1.ownBlock = none
      · rcases hown.2 with ⟨_, hz⟩ | ⟨g, cap, cur, rfl, _⟩
        · omega
        · simp [Value.ownBlock] at hv
      · obtain ⟨b, hb⟩ := Option.ne_none_iff_exists'.1 hv
        exact .inr ⟨b, hb, own_base hown b hb⟩
  rcases hA with ⟨rfl, rfl, rfl⟩ | ⟨g, cur, rfl, hgok, hbg, hh, hnc, hm, hcs, ht⟩
  · have hx0 : xs = [] := List.length_eq_zero_iff.1 hn
    subst hx0
    exact grows (by omega) (fun _ => ⟨rfl, rfl⟩) [] rfl (fun b hb => by cases hb)
  · have hfull : ∀ j u, (xs.map (Value.int .i64))[j]? = some u → w.cell? ((⟨g, 0, none⟩ : Addr).add j) = some u := by
      intro j u hj
      rw [add_plain, blk_cell hh]
      rw [← ht] at hj
      rw [List.getElem?_take] at hj
      split at hj
      · rwa [Array.getElem?_toList] at hj
      · cases hj
    by_cases hroom : n + 1 ≤ c0
    · refine step_append_room hg s x t hop 3 i0 1 h1 hi0 hsz g 0 n c0 hs ad 1 c [.int .i64 y] hx rfl hcc h1c hroom (fun j hj => ?_) ?_
      · simp at hj
        subst hj
        refine ⟨?_, by simp [World.frozen?, hh]⟩
        rw [blk_cell hh]
        simp
        omega
      · have hw1 : (w.setCells g (0 + n * 1) [Value.int .i64 y]).heap[g]? = some (.cells (cur.setIfInBounds n (.int .i64 y)) 3 (0, 0)) := by
          simp only [World.setCells, Nat.zero_add, Nat.mul_one]
          exact blk_set hh n _
        have hR1 : Kd.R (Kd.int .i64) 3 (w.setCells g (0 + n * 1) [Value.int .i64 y]) base ok (.slice (some ⟨g, 0, none⟩) (n + 1) c0) (xs ++ [y]) := by
          refine R_int_of hgok hbg hw1 (by simp [hn]) hroom hm (by simp [hcs]) ?_
          have hlt : n < (cur.setIfInBounds n (Value.int .i64 y)).toList.length := by simp; omega
          rw [List.take_succ_eq_append_getElem hlt]
          simp only [Array.toList_setIfInBounds, List.getElem_set_self, List.map_append, List.map_cons, List.map_nil]
          rw [List.take_set_of_le (Nat.le_refl _), ht]
        have hgr : w.grownBy (w.setCells g (0 + n * 1) [Value.int .i64 y]) (some g) := by
          obtain ⟨e1, e2, e3, e4⟩ := setCells_same g [Value.int .i64 y] (0 + n * 1) w
          exact ⟨e1, e2, e3, by rw [e4]; exact Nat.le_refl _, fun i hi hne => setCells_far _ _ i (fun e => hne (by rw [e]))⟩
        refine h _ _ hR1 (fun W' hW _ => ?_) hgr (.inl rfl)
        obtain ⟨hn1, hA1⟩ := int_of_R hW
        rcases hA1 with ⟨e, _⟩ | ⟨g', cur', e, hok', hb', hh', hc', hm', hs', ht'⟩
        · cases e
        · injection e with e
          injection e with e _
          subst e
          refine R_int_of hok' hb' hh' hn hnc hm' hs' ?_
          have := congrArg (List.take n) ht'
          rw [List.take_take, List.map_append, List.take_append_of_le_length (by simp [hn])] at this
          rw [show min n (n + 1) = n by omega] at this
          rw [this, List.take_of_length_le (by simp [hn])]
    · exact grows (by omega) (fun e => by cases e) _ rfl (fun b hb => by injection hb with hb; subst hb; exact hfull)

/-- A call through a function value, as one step of a region. -/
theorem goesV_ {P : Program} {ops : Array Oper} {Q : Exit → Act → World → Prop} {E : Prop} {oi : Oper} {N : Option Tmp} {a : Act} {w : World} {K : Act → World → Prop} {f : FuncId} {fn : Func} {cal : Operand} {bs : Array Operand} {ts : Array TypeId} {caps : Array Value} (hf : P.funcs[f]? = some fn) (hname : (fn.name == "runtime.NumGoroutine") = false) (hb : fn.body.isSome = true) (args : Array Value)
    (hg : oi.guard = none) (hN : oi.dst = N) (hop : oi.op = .call { callee := .value cal, args := bs, argTypes := ts }) (hc : a.eval cal = .func (.func f) #[] caps) (hargs : bs.map a.eval ++ caps = args)
    (h : Calls P f args w fun e w' => ∃ v, e = .returned v ∧ K (a.put N v) w') : if Region.wanted oi (yielded ops a.tmps) = true then Oper.wp P oi a w K Q else E := by
  have hw : Region.wanted oi (yielded ops a.tmps) = true := by simp [Region.wanted, hg]
  rw [if_pos hw]
  have he := enters_ hf hname hb args w
  have hrun : (execOp a.eval oi).run P w = .ok (.enter f args) w := by
    unfold execOp
    simp [hop, resolve, Deferred.ofValue, invoke, hc]
    rw [hargs]
    simp [he]
  unfold Oper.wp
  rw [hrun, Oper.upon_enter]
  refine h.mono fun e w'' hh => ?_
  obtain ⟨v, rfl, hk⟩ := hh
  subst hN
  exact hk

theorem R_ok_of {w : World} {base n cap : Nat} {A : Option Addr} {ok ok' : Nat → Prop} {xs : List Int} (h : Kd.R (Kd.int .i64) 3 w base ok (.slice A n cap) xs) (hk : ∀ k, (Value.slice A n cap).ownBlock = some k → ok' k) : Kd.R (Kd.int .i64) 3 w base ok' (.slice A n cap) xs := Kd.R_of_own (by have := Kd.own_of_R h; exact this) hk
/-- Behind an append to the order. -/
theorem St.appended {w0 W w1 : World} {gl gq gb ge : Nat} {A0 : Option Addr} {c0 : Nat} {l : List S40} {v v1 vb : Value} {order best : List Int} {least y : Int} (h : St w0 W gl gq gb ge A0 c0 l v order vb best least)
    (hR : Kd.R (Kd.int .i64) 3 w1 w0.heap.size (fun k => k ≠ gq ∧ some k ≠ vb.ownBlock) v1 (order ++ [y])) (hg : W.grownBy w1 v.ownBlock) : St w0 w1 gl gq gb ge A0 c0 l v1 (order ++ [y]) vb best least := by
  have hne : ∀ {g t : Nat} {cells : Array Value}, W.heap[g]? = some (.cells cells t (0, 0)) → 3 ≠ t → some g ≠ v.ownBlock := fun hb ht => Kd.R_ne h.ro hb ht
  refine ⟨pw_below_grown h.B v.ownBlock h.B.size hg (fun k hk => Kd.R_base h.ro k hk), blk_grown h.hl hg (hne h.hl (by decide)), blk_grown h.hq hg ?_, blk_grown h.hb hg (hne h.hb (by decide)), blk_grown h.he hg (hne h.he (by decide)), hR, ?_⟩
  · intro e
    exact (h.ro.1 gq e.symm).1 rfl
  · refine Kd.R_of_own (own_move (Kd.own_of_R h.rb) fun k hk => hg.block k (Kd.R_lt h.rb k hk) ?_) h.rb.1
    intro e
    exact (h.ro.1 k e.symm).2 hk.symm
theorem Fr.appended {W w1 w2 : World} {gq gb : Nat} {v v1 vb vb' : Value} (hs : W.heap.size ≤ w1.heap.size) (hk1 : ∀ k, k < W.heap.size → some k ≠ v.ownBlock → w1.heap[k]? = W.heap[k]?) (hat : v1.ownBlock = v.ownBlock ∨ ∃ b, v1.ownBlock = some b ∧ W.heap.size ≤ b) (hF : Fr w1 w2 gq gb v1 vb vb') : Fr W w2 gq gb v vb vb' := by
  refine ⟨Nat.le_trans hs hF.size, fun j h1 h2 h3 h4 => (hF.keep j (Nat.lt_of_lt_of_le h1 hs) h2 h3 ?_).trans (hk1 j h1 h4), ?_⟩
  · rcases hat with e | ⟨b, e, hb⟩
    · rw [e]; exact h4
    · rw [e]; intro e2; injection e2 with e2; omega
  · rcases hF.new with e | hn
    · exact .inl e
    · exact .inr fun j hj => Nat.le_trans hs (hn j hj)

/-- Behind the call with the order that was appended to. -/
theorem St.back {w0 W Wm w1 w2 : World} {gl gq gb ge : Nat} {A0 Ao A1 : Option Addr} {c0 n co n1 c1 : Nat} {l : List S40} {vb vb2 : Value} {order best best2 : List Int} {least least2 y : Int} (hS : St w0 W gl gq gb ge A0 c0 l (.slice Ao n co) order vb best least)
    (hs : W.heap.size ≤ Wm.heap.size) (hm : ∀ k, k < W.heap.size → Wm.heap[k]? = W.heap[k]?)
    (hR1 : Kd.R (Kd.int .i64) 3 w1 w0.heap.size (fun k => k ≠ gq ∧ some k ≠ vb.ownBlock) (.slice A1 n1 c1) (order ++ [y]))
    (hback : ∀ W', Kd.R (Kd.int .i64) 3 W' w0.heap.size (fun k => k ≠ gq ∧ some k ≠ vb.ownBlock) (.slice A1 n1 c1) (order ++ [y]) → (∀ k, (Value.slice Ao n co).ownBlock = some k → (Value.slice A1 n1 c1).ownBlock ≠ some k → W'.heap[k]? = w1.heap[k]?) → Kd.R (Kd.int .i64) 3 W' w0.heap.size (fun k => k ≠ gq ∧ some k ≠ vb.ownBlock) (.slice Ao n co) order)
    (hgr : Wm.grownBy w1 (Value.slice Ao n co).ownBlock) (hat : (Value.slice A1 n1 c1).ownBlock = (Value.slice Ao n co).ownBlock ∨ ∃ b, (Value.slice A1 n1 c1).ownBlock = some b ∧ Wm.heap.size ≤ b)
    (hS2 : St w0 w2 gl gq gb ge A0 c0 l (.slice A1 n1 c1) (order ++ [y]) vb2 best2 least2) (hF2 : Fr w1 w2 gq gb (.slice A1 n1 c1) vb vb2) : St w0 w2 gl gq gb ge A0 c0 l (.slice Ao n co) order vb2 best2 least2 ∧ Fr W w2 gq gb (.slice Ao n co) vb vb2 := by
  have hne : ∀ {g t : Nat} {cells : Array Value}, W.heap[g]? = some (.cells cells t (0, 0)) → 3 ≠ t → some g ≠ (Value.slice Ao n co).ownBlock := fun hb ht => Kd.R_ne hS.ro hb ht
  have h1 : Kd.R (Kd.int .i64) 3 w2 w0.heap.size (fun k => k ≠ gq ∧ some k ≠ vb.ownBlock) (.slice Ao n co) order := by
    refine hback w2 (R_ok_of hS2.ro hR1.1) fun k e e2 => ?_
    have hlt := Kd.R_lt hS.ro k e
    refine hF2.keep k (by have := hgr.size; omega) (hS.ro.1 k e).1 ?_ (fun e3 => e2 e3.symm)
    intro e3
    subst e3
    exact hne hS.hb (by decide) e.symm
  refine ⟨⟨hS2.B, hS2.hl, hS2.hq, hS2.hb, hS2.he, R_ok_of h1 fun k e => ⟨(hS.ro.1 k e).1, ?_⟩, hS2.rb⟩, Fr.appended (Nat.le_trans hs hgr.size) (fun k hk hv => (hgr.block k (by omega) hv).trans (hm k hk)) ?_ hF2⟩
  · intro e2
    rcases hF2.new with e3 | hn
    · rw [e3] at e2; exact (hS.ro.1 k e).2 e2
    · have h3 := hn k e2.symm
      have h4 := Kd.R_lt hS.ro k e
      have h5 := hgr.size
      omega
  · rcases hat with e | ⟨b, e, hb⟩
    · exact .inl e
    · exact .inr ⟨b, e, by omega⟩

/-- The best order, and its cost, are laid down. -/
theorem St.stored {w0 W w2 w3 : World} {gl gq gb ge : Nat} {A0 : Option Addr} {c0 : Nat} {l : List S40} {v vb : Value} {An : Option Addr} {nn cn : Nat} {order best o : List Int} {least c : Int} (hS : St w0 w3 gl gq gb ge A0 c0 l v order vb best least) (hF : Fr W w3 gq gb v vb vb)
    (hn : Kd.R (Kd.int .i64) 3 w3 w2.heap.size (fun _ => True) (.slice An nn cn) o) (hs : W.heap.size ≤ w2.heap.size) (hlt : ∀ k, v.ownBlock = some k → k < w2.heap.size) (hq2 : gq < w2.heap.size) (h02 : w0.heap.size ≤ w2.heap.size) (hg2 : w0.heap.size ≤ gq) (hg3 : w0.heap.size ≤ gb) :
    ∃ vb', St w0 ((w3.setCell ⟨gb, 0, none⟩ (.slice An nn cn)).setCell ⟨gq, 0, none⟩ (.int .i64 c)) gl gq gb ge A0 c0 l v order vb' o c ∧ Fr W ((w3.setCell ⟨gb, 0, none⟩ (.slice An nn cn)).setCell ⟨gq, 0, none⟩ (.int .i64 c)) gq gb v vb vb' := by
  have hqb : gq ≠ gb := blk_ne hS.hq hS.hb (by decide)
  have hlq : gl ≠ gq := blk_ne hS.hl hS.hq (by decide)
  have hlb : gl ≠ gb := blk_ne hS.hl hS.hb (by decide)
  have heq : ge ≠ gq := blk_ne hS.he hS.hq (by decide)
  have heb : ge ≠ gb := blk_ne hS.he hS.hb (by decide)
  have other : ∀ k, k ≠ gq → k ≠ gb → ((w3.setCell ⟨gb, 0, none⟩ (.slice An nn cn)).setCell ⟨gq, 0, none⟩ (.int .i64 c)).heap[k]? = w3.heap[k]? := fun k h1 h2 => (Below.heap_setCell _ _ _ k h1).trans (Below.heap_setCell _ _ _ k h2)
  have size : ((w3.setCell ⟨gb, 0, none⟩ (.slice An nn cn)).setCell ⟨gq, 0, none⟩ (.int .i64 c)).heap.size = w3.heap.size := by simp
  have hneb : ∀ k, v.ownBlock = some k → k ≠ gb := fun k e e2 => by
    subst e2
    exact Kd.R_ne hS.ro hS.hb (by decide) e.symm
  have hnn : ∀ k, (Value.slice An nn cn).ownBlock = some k → k ≠ gb := fun k e e2 => by
    subst e2
    exact Kd.R_ne hn hS.hb (by decide) e.symm
  refine ⟨.slice An nn cn, ⟨below_set (below_set hS.B hg3) hg2, (other gl hlq hlb).trans hS.hl, ?_, ?_, (other ge heq heb).trans hS.he, ?_, ?_⟩, ⟨by rw [size]; exact hF.size, fun j h1 h2 h3 h4 => (other j h2 h3).trans (hF.keep j h1 h2 h3 h4), ?_⟩⟩
  · exact blk_put (blk_far hS.hq hqb _) 0 _ rfl
  · exact blk_far (blk_put hS.hb 0 _ rfl) (Ne.symm hqb) _
  · refine Kd.R_of_own (own_move (Kd.own_of_R hS.ro) fun k e => other k (hS.ro.1 k e).1 (hneb k e)) fun k e => ⟨(hS.ro.1 k e).1, fun e2 => ?_⟩
    have h1 := hlt k e
    have h2 := Kd.R_base hn k e2.symm
    omega
  · refine Kd.R_of_own (own_less (own_move (Kd.own_of_R hn) fun k e => other k ?_ (hnn k e)) h02) fun k e => ?_
    · intro e2
      have := Kd.R_base hn k e
      omega
    · intro e2
      have := Kd.R_base hn k e
      omega
  · exact .inr fun j e => Nat.le_trans hs (Kd.R_base hn j e)

set_option maxHeartbeats 8000000 in
set_option maxRecDepth 100000 in
theorem ext_calls (w0 : World) (gl gq gb ge : Nat) (h1 : w0.heap.size ≤ gl) (h2 : w0.heap.size ≤ gq) (h3 : w0.heap.size ≤ gb) (h4 : w0.heap.size ≤ ge) (A0 : Option Addr) (c0 : Nat) (l : List S40) (hr0 : Kd.C k40 w0 A0 l.length l) (hc0 : l.length ≤ c0) (k : Nat) :
    ∀ (W : World) (Ao : Option Addr) (co : Nat) (order : List Int) (vb : Value) (best : List Int) (least : Int) (r : List Int × Int) (hS : St w0 W gl gq gb ge A0 c0 l (.slice Ao order.length co) order vb best least) (h : ext k l order best least = some r),
    Calls Try.prog 44 #[.slice Ao order.length co, .pointer (some ⟨gl, 0, none⟩), .pointer (some ⟨gq, 0, none⟩), .pointer (some ⟨gb, 0, none⟩), .pointer (some ⟨ge, 0, none⟩)] W fun e W' => e = .returned (.tuple #[]) ∧ ∃ vb', St w0 W' gl gq gb ge A0 c0 l (.slice Ao order.length co) order vb' r.1 r.2 ∧ Fr W W' gq gb (.slice Ao order.length co) vb vb' := by
  induction k using Nat.strongRecOn with
  | _ k ih =>
  intro W Ao co order vb best least r hS h
  cases k with
  | zero => exact absurd h (by simp [ext])
  | succ k =>
  rw [ext] at h
  have IH := Aside0.mk ih
  clear ih
  have HS := Aside0.mk hS
  have HR0 := Aside0.mk hr0
  have HC0 := Aside0.mk hc0
  clear hS hr0 hc0
  by_cases hlen : order.length = l.length
  · rw [if_pos hlen] at h
    obtain ⟨c, ac, h⟩ := Option.bind_eq_some_iff.mp h
    have AC := Aside0.mk ac
    clear ac
    have e0 : (order.length == l.length) = true := by simpa using hlen
    have e1 : ((order.length : Int) == (l.length : Int)) = true := by simp [hlen]
    have HL := Aside0.mk hlen
    clear hlen
    have hxl : W.cell? ⟨gl, 0, none⟩ = some (.slice A0 l.length c0) := (blk_cell HS.out.hl 0).trans rfl
    have HCL := Aside0.mk (Kd.C_below HR0.out HS.out.B)
    by_cases c1 : least < 0
    · rw [if_pos c1] at h
      obtain ⟨o, ao, h⟩ := Option.bind_eq_some_iff.mp h
      have AO := Aside0.mk ao
      clear ao
      obtain rfl := Option.some.inj h
      have f1 : decide (least < 0) = true := decide_eq_true c1
      clear c1
      go_enter Try.func44, Try.ntmps44
      go_wp2_with (first
        | (go_at_call 15; (with_reducible refine (impl_OrderCost.calls k _ _ l _ _ order c _ ?side1 ?side2 ?side3 ?side4 AC.out).mono ?_); (case side1 => exact HCL.out); (case side2 => exact HC0.out); (case side3 => exact (Kd.R_reads' HS.out.ro).2.2); (case side4 => exact (Kd.R_reads' HS.out.ro).2.1); rintro e w2 ⟨rfl, hb2⟩; have HS2 := Aside0.mk (HS.out.grow hb2); have HF2 := Aside0.mk (Fr.grow gq gb (.slice Ao order.length co) vb hb2); clear hb2; have hq2 : w2.cell? ⟨gq, 0, none⟩ = some (.int .i64 least) := (blk_cell HS2.out.hq 0).trans rfl)
        | (go_at_call 45; (with_reducible refine (impl_clone_int.calls _ _ order o _ ?side1 ?side2 AO.out).mono ?_); (case side1 => exact (Kd.R_reads' HS2.out.ro).2.2); (case side2 => exact (Kd.R_reads' HS2.out.ro).2.1); rintro e w3 ⟨vn, rfl, hvn, hb3⟩; have HS3 := Aside0.mk (HS2.out.grow hb3); have HF3 := Aside0.mk (HF2.out.trans (Fr.grow gq gb (.slice Ao order.length co) vb hb3)); have HVN := Aside0.mk hvn; clear hvn hb3; obtain ⟨An_, cn_, evn⟩ := Kd.R_slice HVN.out; subst evn; have hcb3 : w3.cell? ⟨gb, 0, none⟩ = some vb := (blk_cell HS3.out.hb 0).trans rfl; have hfb3 := blk_frozen HS3.out.hb 0; have hcq3 : w3.cell? ⟨gq, 0, none⟩ = some (.int .i64 least) := (blk_cell HS3.out.hq 0).trans rfl; have hfq3 := blk_frozen HS3.out.hq 0; have hne3 := blk_ne HS3.out.hb HS3.out.hq (by decide); have hne4 := blk_ne HS3.out.hq HS3.out.hb (by decide)))
      first | go_end0 | ((try simp only [Exit.inBlock, Exit.then]); refine bodyPost_ret (results_none rfl _ _ _) rfl ?_)
      exact ⟨rfl, St.stored HS3.out HF3.out HVN.out HF2.out.size (fun k hk => Kd.R_lt HS2.out.ro k hk) (blk_lt HS2.out.hq) HS2.out.B.size h2 h3⟩
    · rw [if_neg c1] at h
      have f1 : decide (least < 0) = false := decide_eq_false c1
      clear c1
      by_cases c2 : c < least
      · rw [if_pos c2] at h
        obtain ⟨o, ao, h⟩ := Option.bind_eq_some_iff.mp h
        have AO := Aside0.mk ao
        clear ao
        obtain rfl := Option.some.inj h
        have f2 : decide (c < least) = true := decide_eq_true c2
        clear c2
        go_enter Try.func44, Try.ntmps44
        go_wp2_with (first
          | (go_at_call 15; (with_reducible refine (impl_OrderCost.calls k _ _ l _ _ order c _ ?side1 ?side2 ?side3 ?side4 AC.out).mono ?_); (case side1 => exact HCL.out); (case side2 => exact HC0.out); (case side3 => exact (Kd.R_reads' HS.out.ro).2.2); (case side4 => exact (Kd.R_reads' HS.out.ro).2.1); rintro e w2 ⟨rfl, hb2⟩; have HS2 := Aside0.mk (HS.out.grow hb2); have HF2 := Aside0.mk (Fr.grow gq gb (.slice Ao order.length co) vb hb2); clear hb2; have hq2 : w2.cell? ⟨gq, 0, none⟩ = some (.int .i64 least) := (blk_cell HS2.out.hq 0).trans rfl)
          | (go_at_call 45; (with_reducible refine (impl_clone_int.calls _ _ order o _ ?side1 ?side2 AO.out).mono ?_); (case side1 => exact (Kd.R_reads' HS2.out.ro).2.2); (case side2 => exact (Kd.R_reads' HS2.out.ro).2.1); rintro e w3 ⟨vn, rfl, hvn, hb3⟩; have HS3 := Aside0.mk (HS2.out.grow hb3); have HF3 := Aside0.mk (HF2.out.trans (Fr.grow gq gb (.slice Ao order.length co) vb hb3)); have HVN := Aside0.mk hvn; clear hvn hb3; obtain ⟨An_, cn_, evn⟩ := Kd.R_slice HVN.out; subst evn; have hcb3 : w3.cell? ⟨gb, 0, none⟩ = some vb := (blk_cell HS3.out.hb 0).trans rfl; have hfb3 := blk_frozen HS3.out.hb 0; have hcq3 : w3.cell? ⟨gq, 0, none⟩ = some (.int .i64 least) := (blk_cell HS3.out.hq 0).trans rfl; have hfq3 := blk_frozen HS3.out.hq 0; have hne3 := blk_ne HS3.out.hb HS3.out.hq (by decide); have hne4 := blk_ne HS3.out.hq HS3.out.hb (by decide)))
        first | go_end0 | ((try simp only [Exit.inBlock, Exit.then]); refine bodyPost_ret (results_none rfl _ _ _) rfl ?_)
        exact ⟨rfl, St.stored HS3.out HF3.out HVN.out HF2.out.size (fun k hk => Kd.R_lt HS2.out.ro k hk) (blk_lt HS2.out.hq) HS2.out.B.size h2 h3⟩
      · rw [if_neg c2] at h
        obtain rfl := Option.some.inj h
        have f2 : decide (c < least) = false := decide_eq_false c2
        clear c2
        go_enter Try.func44, Try.ntmps44
        go_wp2_with (first
          | (go_at_call 15; (with_reducible refine (impl_OrderCost.calls k _ _ l _ _ order c _ ?side1 ?side2 ?side3 ?side4 AC.out).mono ?_); (case side1 => exact HCL.out); (case side2 => exact HC0.out); (case side3 => exact (Kd.R_reads' HS.out.ro).2.2); (case side4 => exact (Kd.R_reads' HS.out.ro).2.1); rintro e w2 ⟨rfl, hb2⟩; have HS2 := Aside0.mk (HS.out.grow hb2); have HF2 := Aside0.mk (Fr.grow gq gb (.slice Ao order.length co) vb hb2); clear hb2; have hq2 : w2.cell? ⟨gq, 0, none⟩ = some (.int .i64 least) := (blk_cell HS2.out.hq 0).trans rfl))
        first | go_end0 | ((try simp only [Exit.inBlock, Exit.then]); refine bodyPost_ret (results_none rfl _ _ _) rfl ?_)
        exact ⟨rfl, vb, HS2.out, HF2.out⟩
  · rw [if_neg hlen] at h
    have e0 : (order.length == l.length) = false := by simpa using hlen
    have e1 : ((order.length : Int) == (l.length : Int)) = false := by simp; omega
    have HL := Aside0.mk hlen
    clear hlen
    have H := Aside0.mk h
    clear h
    have hxl : W.cell? ⟨gl, 0, none⟩ = some (.slice A0 l.length c0) := (blk_cell HS.out.hl 0).trans rfl
    have hxe := (blk_cell HS.out.he 0).trans rfl
    go_enter Try.func44, Try.ntmps44
    go_wp2
    clear hxl hxe
    go_loopg [28] k (fun kq v28 w' => ∃ (i : Int) (vbi : Value) (bi : List Int) (li : Int), v28 = .int .i64 i ∧ Aside0 (loop kq l order bi li i = some r) ∧ Aside0 (kq ≤ k) ∧ Aside0 (0 ≤ i) ∧ Aside0 (St w0 w' gl gq gb ge A0 c0 l (.slice Ao order.length co) order vbi bi li) ∧ Aside0 (Fr W w' gq gb (.slice Ao order.length co) vb vbi))
    case atStart => exact ⟨0, vb, best, least, by simp, H, ⟨Nat.le_refl _⟩, ⟨Int.le_refl _⟩, HS, ⟨Fr.refl _ _ _ _ _⟩⟩
    case round =>
      clear H HS
      obtain ⟨i, vbi, bi, li, rfl, HA, HK, HI, HS, HF⟩ := hrel
      cases gk with
      | zero => exact absurd HA.out (by simp [loop])
      | succ k1 =>
        have H := HA.out
        clear HA
        rw [loop] at H
        have hmx := Kd.C_max HR0.out
        by_cases hi : i < (l.length : Int)
        · rw [if_pos hi] at H
          obtain ⟨b, ab, H⟩ := Option.bind_eq_some_iff.mp H
          have AB := Aside0.mk ab
          clear ab
          have hi0 := HI.out
          have d1 : decide (i < (l.length : Int)) = true := decide_eq_true hi
          have HIL := Aside0.mk hi
          have ew : wrap64 (i + 1) = i + 1 := by unfold wrap64; omega
          have EW := Aside0.mk ew
          clear hi hmx ew hi0
          cases b with
          | true =>
            rw [if_pos rfl] at H
            have H' := Aside0.mk H
            clear H
            go_wp2_with (first | (go_at_call 46; (with_reducible refine (slices_Contains_int_int.calls k1 _ _ order i true _ ?side1 ?side2 AB.out).mono ?_); (case side1 => exact (Kd.R_reads' HS.out.ro).2.2); (case side2 => exact (Kd.R_reads' HS.out.ro).2.1); rintro e w' ⟨rfl, ⟨nd, rfl⟩⟩))
            go_roundg k1
            case measure => have := HK.out; omega
            case rel => exact ⟨i + 1, vbi, bi, li, by rw [EW.out], H', ⟨by have := HK.out; omega⟩, ⟨by have := HI.out; omega⟩, ⟨HS.out.grow (pw_below_drewN (Below.refl _ _) _)⟩, ⟨HF.out.trans (Fr.grow _ _ _ _ (pw_below_drewN (Below.refl _ _) _))⟩⟩
          | false =>
            rw [if_neg (by decide)] at H
            by_cases hln : order.length < 17592186044416
            · rw [if_pos hln] at H
              obtain ⟨⟨b1, l1⟩, a1, H⟩ := Option.bind_eq_some_iff.mp H
              have A1 := Aside0.mk a1
              have H' := Aside0.mk H
              have HLN := Aside0.mk hln
              clear H a1 hln
              go_wp2_with (first | (go_at_call 46; (with_reducible refine (slices_Contains_int_int.calls k1 _ _ order i false _ ?side1 ?side2 AB.out).mono ?_); (case side1 => exact (Kd.R_reads' HS.out.ro).2.2); (case side2 => exact (Kd.R_reads' HS.out.ro).2.1); rintro e w' ⟨rfl, ⟨nd, rfl⟩⟩))
              have HS1 := Aside0.mk (HS.out.grow (pw_below_drewN (Below.refl _ _) nd))
              have HF1 := Aside0.mk (HF.out.trans (Fr.grow gq gb (.slice Ao order.length co) vbi (pw_below_drewN (Below.refl wr.heap.size wr) nd)))
              clear HS HF
              generalize wr.drewN nd = wx at HS1 HF1 ⊢
              have hxe : wx.cell? ⟨ge, 0, none⟩ = some (.func (.func 44) #[] #[.pointer (some ⟨gl, 0, none⟩), .pointer (some ⟨gq, 0, none⟩), .pointer (some ⟨gb, 0, none⟩), .pointer (some ⟨ge, 0, none⟩)]) := (blk_cell HS1.out.he 0).trans rfl
              have hxe2 : (wx.alloc (.cells #[.int .i64 i] 3 (0, 0))).cell? ⟨ge, 0, none⟩ = some (.func (.func 44) #[] #[.pointer (some ⟨gl, 0, none⟩), .pointer (some ⟨gq, 0, none⟩), .pointer (some ⟨gb, 0, none⟩), .pointer (some ⟨ge, 0, none⟩)]) := (blk_cell (HS1.out.grow (below_alloc (Below.refl _ _) _)).he 0).trans rfl
              go_region_law (first
                | (refine goesV_ (f := 44) (caps := #[.pointer (some ⟨gl, 0, none⟩), .pointer (some ⟨gq, 0, none⟩), .pointer (some ⟨gb, 0, none⟩), .pointer (some ⟨ge, 0, none⟩)]) Try.func44 (by kernel_rfl) rfl #[.slice A1_ (order ++ [i]).length c1_, .pointer (some ⟨gl, 0, none⟩), .pointer (some ⟨gq, 0, none⟩), .pointer (some ⟨gb, 0, none⟩), .pointer (some ⟨ge, 0, none⟩)] rfl rfl rfl (by simp [Act.eval, Act.put]) (by simp [Act.eval, Act.put]) ?_; refine (IH.out k1 (by have := HK.out; omega) w1 A1_ c1_ (order ++ [i]) vbi bi li (b1, l1) ?hS A1.out).mono ?_; (case hS => exact St.appended (HS1.out.grow (below_drew (below_alloc (Below.refl _ _) _))) HR1.out HGR.out); rintro e w2 ⟨rfl, vb2, hS2, hF2⟩; refine ⟨_, rfl, ?_⟩; have HB2 := Aside0.mk (St.back HS1.out (by simp) (fun k hk => (below_drew (below_alloc (Below.refl wx.heap.size wx) (.cells #[.int .i64 i] 3 (0, 0)))).block k hk) HR1.out HBK.out HGR.out HAT.out hS2 hF2); clear hS2 hF2)
                | (refine step_append_int rfl (.tmp 36) (.tmp 38) 25 rfl Try.underlying25 info3 w0.heap.size (fun k => k ≠ gq ∧ some k ≠ vbi.ownBlock) Ao order.length co order i ⟨wx.heap.size, 0, none⟩ 1 (by simp [Act.eval, Act.put]) (by simp [Act.eval, Act.put]) (by repeat (first | exact HS1.out.ro | apply Kd.R_alloc | apply Kd.R_drew | apply Kd.R_drewN)) (by simp) (fun k hk => ⟨fun e => by have := blk_lt HS1.out.hq; simp at hk; omega, fun e => by have := Kd.R_lt HS1.out.rb k e.symm; simp at hk; omega⟩) (by have := HS1.out.B.size; simp; omega) HLN.out ?_; intro v1 w1 hR1 hback hgr hat; have HR1 := Aside0.mk hR1; have HBK := Aside0.mk hback; have HGR := Aside0.mk hgr; have HAT := Aside0.mk hat; clear hR1 hback hgr hat; have hxe3 : w1.cell? ⟨ge, 0, none⟩ = some (.func (.func 44) #[] #[.pointer (some ⟨gl, 0, none⟩), .pointer (some ⟨gq, 0, none⟩), .pointer (some ⟨gb, 0, none⟩), .pointer (some ⟨ge, 0, none⟩)]) := (blk_cell (St.appended (HS1.out.grow (below_drew (below_alloc (Below.refl _ _) _))) HR1.out HGR.out).he 0).trans rfl; obtain ⟨A1_, c1_, ev1⟩ := Kd.R_slice HR1.out; subst ev1))
              all_goals
                clear hxe hxe2 hxe3
                go_wp2
                go_roundg k1
                case measure => have := HK.out; omega
                case rel => exact ⟨i + 1, vb2, b1, l1, by rw [EW.out], H', ⟨by have := HK.out; omega⟩, ⟨by have := HI.out; omega⟩, ⟨HB2.out.1⟩, ⟨HF1.out.trans HB2.out.2⟩⟩
            · rw [if_neg hln] at H
              exact absurd H (by simp)
        · rw [if_neg hi] at H
          have d1 : decide (i < (l.length : Int)) = false := decide_eq_false hi
          clear hi hmx
          obtain rfl := Option.some.inj H
          go_wp2
          first | go_end0 | ((try simp only [Exit.inBlock, Exit.then]); refine bodyPost_ret (results_none rfl _ _ _) rfl ?_)
          exact ⟨rfl, _, HS.out, HF.out⟩

/-- The world when the works have been asked: four blocks are laid. -/
def W4 (w : World) (A0 : Option Addr) (n c0 : Nat) : World := (((w.alloc (.cells #[.slice A0 n c0] 33 (0, 0))).alloc (.cells #[] 3 (0, 0))).alloc (.cells #[.slice (some ⟨w.heap.size + 1, 0, none⟩) 0 0] 25 (0, 0))).alloc (.cells #[.int .i64 (-1)] 3 (0, 0))
theorem W4_size (w : World) (A0 : Option Addr) (n c0 : Nat) : (W4 w A0 n c0).heap.size = w.heap.size + 4 := by simp [W4]
theorem W4_below (w : World) (A0 : Option Addr) (n c0 : Nat) : Below w.heap.size w (W4 w A0 n c0) := below_alloc (below_alloc (below_alloc (below_alloc (Below.refl _ _) _) _) _) _
theorem alloc_last (w : World) (o : Obj) : (w.alloc o).heap[w.heap.size]? = some o := by
  show (w.heap.push o)[w.heap.size]? = some o
  exact Array.getElem?_push_size
theorem alloc_old {w : World} {k : Nat} {x : Obj} (o : Obj) (h : w.heap[k]? = some x) : (w.alloc o).heap[k]? = some x := blk_alloc h o
theorem W4_l (w : World) (A0 : Option Addr) (n c0 : Nat) : (W4 w A0 n c0).heap[w.heap.size]? = some (.cells #[.slice A0 n c0] 33 (0, 0)) := by
  unfold W4
  exact alloc_old _ (alloc_old _ (alloc_old _ (alloc_last _ _)))
theorem W4_e (w : World) (A0 : Option Addr) (n c0 : Nat) : (W4 w A0 n c0).heap[w.heap.size + 1]? = some (.cells #[] 3 (0, 0)) := by
  unfold W4
  have h := alloc_last (w.alloc (.cells #[.slice A0 n c0] 33 (0, 0))) (.cells #[] 3 (0, 0))
  rw [show (w.alloc (.cells #[.slice A0 n c0] 33 (0, 0))).heap.size = w.heap.size + 1 by simp] at h
  exact alloc_old _ (alloc_old _ h)
theorem W4_b (w : World) (A0 : Option Addr) (n c0 : Nat) : (W4 w A0 n c0).heap[w.heap.size + 1 + 1]? = some (.cells #[.slice (some ⟨w.heap.size + 1, 0, none⟩) 0 0] 25 (0, 0)) := by
  unfold W4
  have h := alloc_last ((w.alloc (.cells #[.slice A0 n c0] 33 (0, 0))).alloc (.cells #[] 3 (0, 0))) (.cells #[.slice (some ⟨w.heap.size + 1, 0, none⟩) 0 0] 25 (0, 0))
  rw [show ((w.alloc (.cells #[.slice A0 n c0] 33 (0, 0))).alloc (.cells #[] 3 (0, 0))).heap.size = w.heap.size + 1 + 1 by simp] at h
  exact alloc_old _ h
theorem W4_q (w : World) (A0 : Option Addr) (n c0 : Nat) : (W4 w A0 n c0).heap[w.heap.size + 1 + 1 + 1]? = some (.cells #[.int .i64 (-1)] 3 (0, 0)) := by
  unfold W4
  have h := alloc_last (((w.alloc (.cells #[.slice A0 n c0] 33 (0, 0))).alloc (.cells #[] 3 (0, 0))).alloc (.cells #[.slice (some ⟨w.heap.size + 1, 0, none⟩) 0 0] 25 (0, 0))) (.cells #[.int .i64 (-1)] 3 (0, 0))
  rw [show (((w.alloc (.cells #[.slice A0 n c0] 33 (0, 0))).alloc (.cells #[] 3 (0, 0))).alloc (.cells #[.slice (some ⟨w.heap.size + 1, 0, none⟩) 0 0] 25 (0, 0))).heap.size = w.heap.size + 1 + 1 + 1 by simp] at h
  exact h
theorem empty_row {w : World} {base g : Nat} {ok : Nat → Prop} (hok : ok g) (hb : base ≤ g) (hh : w.heap[g]? = some (.cells #[] 3 (0, 0))) : Kd.R (Kd.int .i64) 3 w base ok (.slice (some ⟨g, 0, none⟩) 0 0) [] := R_int_of hok hb hh rfl (Nat.le_refl _) (by unfold maxLen; omega) rfl rfl

theorem top_start {w w2 : World} {A0 : Option Addr} {c0 : Nat} {l : List S40} (h4 : w.heap.size + 4 ≤ w2.heap.size) (hb : Below (W4 w A0 l.length c0).heap.size (W4 w A0 l.length c0) w2) :
    St w ((w2.alloc (.cells #[.func (.func 44) #[] #[.pointer (some ⟨w.heap.size, 0, none⟩), .pointer (some ⟨w.heap.size + 1 + 1 + 1, 0, none⟩), .pointer (some ⟨w.heap.size + 1 + 1, 0, none⟩), .pointer (some ⟨w2.heap.size, 0, none⟩)]] 65 (0, 0))).alloc (.cells #[] 3 (0, 0))) w.heap.size (w.heap.size + 1 + 1 + 1) (w.heap.size + 1 + 1) w2.heap.size A0 c0 l (.slice (some ⟨w2.heap.size + 1, 0, none⟩) ([] : List Int).length 0) [] (.slice (some ⟨w.heap.size + 1, 0, none⟩) 0 0) [] (-1) := by
  refine ⟨below_alloc (below_alloc (below_step (W4_below w A0 l.length c0) hb) _) _, blk_alloc (blk_alloc (blk_below (W4_l w A0 l.length c0) hb) _) _, blk_alloc (blk_alloc (blk_below (W4_q w A0 l.length c0) hb) _) _, blk_alloc (blk_alloc (blk_below (W4_b w A0 l.length c0) hb) _) _, blk_alloc (alloc_last _ _) _, ?_, ?_⟩
  · refine empty_row ⟨by omega, ?_⟩ (by omega) ?_
    · simp [Value.ownBlock]; omega
    · have h := alloc_last (w2.alloc (.cells #[.func (.func 44) #[] #[.pointer (some ⟨w.heap.size, 0, none⟩), .pointer (some ⟨w.heap.size + 1 + 1 + 1, 0, none⟩), .pointer (some ⟨w.heap.size + 1 + 1, 0, none⟩), .pointer (some ⟨w2.heap.size, 0, none⟩)]] 65 (0, 0))) (.cells #[] 3 (0, 0))
      simpa using h
  · exact empty_row (by omega) (by omega) (blk_alloc (blk_alloc (blk_below (W4_e w A0 l.length c0) hb) _) _)

set_option maxHeartbeats 8000000 in
set_option maxRecDepth 100000 in
theorem top_calls (k : Nat) (A0 : Option Addr) (c0 : Nat) (l0 : List S40) (r : List Int) (w : World) (hr0 : Kd.C k40 w A0 l0.length l0) (hc0 : l0.length ≤ c0) (h : ((impl_AreWorks.f k l0).bind fun b => if b = true then (ext k l0 [] [] (-1)).bind fun r => some r.1 else some []) = some r) :
    Calls Try.prog 14 #[.slice A0 l0.length c0] w fun e w' => ∃ v0_ : Value, e = .returned (v0_) ∧ Kd.R (Kd.int .i64) 3 w' w.heap.size (fun _ => True) v0_ r ∧ Below w.heap.size w w' := by
  have HR0 := Aside0.mk hr0
  have HC0 := Aside0.mk hc0
  clear hr0 hc0
  obtain ⟨b, ab, h⟩ := Option.bind_eq_some_iff.mp h
  have AB := Aside0.mk ab
  clear ab
  cases b with
  | false =>
    rw [if_neg (by decide)] at h
    obtain rfl := Option.some.inj h
    go_enter Try.func14, Try.ntmps14
    go_wp2_with (go_at_call 16; (with_reducible refine (impl_AreWorks.calls k _ _ l0 false _ ?side1 ?side2 AB.out).mono ?_); (case side1 => exact Kd.C_below HR0.out (W4_below w A0 l0.length c0)); (case side2 => exact HC0.out); rintro e w2 ⟨rfl, hb2⟩; have HB2 := Aside0.mk (show Below (W4 w A0 l0.length c0).heap.size (W4 w A0 l0.length c0) w2 from hb2); clear hb2; have hcb : w2.cell? ⟨w.heap.size + 1 + 1, 0, none⟩ = some (.slice (some ⟨w.heap.size + 1, 0, none⟩) 0 0) := (blk_cell (blk_below (W4_b w A0 l0.length c0) HB2.out) 0).trans rfl)
    go_ret
    exact ⟨_, rfl, empty_row trivial (by omega) (blk_below (W4_e w A0 l0.length c0) HB2.out), below_step (W4_below w A0 l0.length c0) HB2.out⟩
  | true =>
    rw [if_pos rfl] at h
    obtain ⟨⟨b1, l1⟩, a1, h⟩ := Option.bind_eq_some_iff.mp h
    have A1 := Aside0.mk a1
    clear a1
    obtain rfl := Option.some.inj h
    go_enter Try.func14, Try.ntmps14
    go_wp2_with (first
      | (go_at_call 16; (with_reducible refine (impl_AreWorks.calls k _ _ l0 true _ ?side1 ?side2 AB.out).mono ?_); (case side1 => exact Kd.C_below HR0.out (W4_below w A0 l0.length c0)); (case side2 => exact HC0.out); rintro e w2 ⟨rfl, hb2⟩; have HB2 := Aside0.mk (show Below (W4 w A0 l0.length c0).heap.size (W4 w A0 l0.length c0) w2 from hb2); clear hb2)
      | (go_at_call 44; (refine (ext_calls w w.heap.size (w.heap.size + 1 + 1 + 1) (w.heap.size + 1 + 1) w2.heap.size (Nat.le_refl _) (by omega) (by omega) ?hw A0 c0 l0 HR0.out HC0.out k _ (some ⟨w2.heap.size + 1, 0, none⟩) 0 [] (.slice (some ⟨w.heap.size + 1, 0, none⟩) 0 0) [] (-1) (b1, l1) ?hS A1.out).mono ?_); (case hw => exact Nat.le_trans (W4_below w A0 l0.length c0).size HB2.out.size); (case hS => exact top_start (by have := HB2.out.size; rw [W4_size] at this; omega) HB2.out); rintro e w3 ⟨rfl, vb, hS, hF⟩; have HS := Aside0.mk hS; clear hS hF; have hcb : w3.cell? ⟨w.heap.size + 1 + 1, 0, none⟩ = some vb := (blk_cell HS.out.hb 0).trans rfl; obtain ⟨An_, cn_, evn⟩ := Kd.R_slice HS.out.rb; subst evn))
    go_ret
    exact ⟨_, rfl, Kd.R_mono HS.out.rb (fun _ _ => trivial), HS.out.B⟩
end impl_BestOrder_w

def impl_BestOrder.f (k : Nat) (l0 : List S40) : Option (List Int) := (impl_AreWorks.f k l0).bind fun b => if b = true then (impl_BestOrder_w.ext k l0 [] [] (-1)).bind fun r => some r.1 else some []
theorem impl_BestOrder.mono_l : ∀ k, (∀ l order best least, LeO (impl_BestOrder_w.ext k l order best least) (impl_BestOrder_w.ext (k + 1) l order best least)) ∧ (∀ l order best least i, LeO (impl_BestOrder_w.loop k l order best least i) (impl_BestOrder_w.loop (k + 1) l order best least i))
  | 0 => ⟨fun _ _ _ _ r h => by simp [impl_BestOrder_w.ext] at h, fun _ _ _ _ _ r h => by simp [impl_BestOrder_w.loop] at h⟩
  | k + 1 => by
    obtain ⟨ih0, ih1⟩ := impl_BestOrder.mono_l k
    refine ⟨fun l order best least => ?_, fun l order best least i => ?_⟩
    · unfold impl_BestOrder_w.ext
      refine LeO.ite (LeO.bind (impl_OrderCost.mono _ _ _) fun _ => LeO.refl _) (ih1 _ _ _ _ _)
    · unfold impl_BestOrder_w.loop
      refine LeO.ite (LeO.bind (slices_Contains_int_int.mono _ _ _) fun _ => LeO.ite (ih1 _ _ _ _ _) (LeO.ite (LeO.bind (ih0 _ _ _ _) fun _ => ih1 _ _ _ _ _) (LeO.refl _))) (LeO.refl _)
theorem impl_BestOrder.mono : ∀ a0 k, LeO (impl_BestOrder.f k a0) (impl_BestOrder.f (k + 1) a0) := by
  intro a0 k
  unfold impl_BestOrder.f
  exact LeO.bind (impl_AreWorks.mono _ _) fun _ => LeO.ite (LeO.bind ((impl_BestOrder.mono_l k).1 _ _ _ _) fun _ => LeO.refl _) (LeO.refl _)
theorem impl_BestOrder.calls (k : Nat) (A0 : Option Addr) (c0 : Nat) (l0 : List S40) (r : List Int) (w : World) (hr0 : Kd.C k40 w A0 l0.length l0) (hc0 : l0.length ≤ c0) (h : impl_BestOrder.f k l0 = some r) :
    Calls Try.prog 14 #[.slice A0 l0.length c0] w fun e w' => ∃ v0_ : Value, e = .returned (v0_) ∧ Kd.R (Kd.int .i64) 3 w' w.heap.size (fun _ => True) v0_ r ∧ Below w.heap.size w w' := impl_BestOrder_w.top_calls k A0 c0 l0 r w hr0 hc0 h

/-! ### spec_l38Two: function 51 -/
def spec_l38Two.f (k : Nat) (s0_0 : List Int) (s0_1 : Int) (s0_2 : Int) : Option (Int × List Int × Int × List Int × Int × Int) := (spec_l30Some.f k s0_0 s0_1 s0_2 2).bind fun bt302 => ((spec_l30Some.f k s0_0 bt302.2.1 bt302.2.2 2).bind fun bt308 => (some (5, bt302.1, 6, bt308.1, bt308.2.1, bt308.2.2)))
theorem spec_l38Two.mono : ∀ a0 a1 a2 k, LeO (spec_l38Two.f k a0 a1 a2) (spec_l38Two.f (k + 1) a0 a1 a2) := by
  intro a0 a1 a2 k
  unfold spec_l38Two.f
  repeat' first
      | (with_reducible exact spec_l30Some.mono _ _ _ _ _)
      | (with_reducible exact LeO.refl _)
      | (with_reducible exact LeO.none _)
      | (with_reducible refine LeO.ite ?_ ?_)
      | (with_reducible refine LeO.bind ?_ (fun _ => ?_))
      | exact spec_l30Some.mono _ _ _ _ _
      | exact LeO.none _
      | refine LeO.ite ?_ ?_
      | refine LeO.bind ?_ (fun _ => ?_)
set_option maxHeartbeats 8000000 in
set_option maxRecDepth 100000 in
theorem spec_l38Two.calls (k : Nat) (g : Nat) (s0_0 : List Int) (s0_1 : Int) (s0_2 : Int) (r1 : Int) (r2 : List Int) (r3 : Int) (r4 : List Int) (r5 : Int) (r6 : Int) (w0 w : World) (hI : IsS80 w0 w g s0_0 s0_1 s0_2) (hB : Below w0.heap.size w0 w) (h : spec_l38Two.f k s0_0 s0_1 s0_2 = some (r1, r2, r3, r4, r5, r6)) :
    Calls Try.prog 51 #[.pointer (some ⟨g, 0, none⟩)] w fun e w' => ∃ v1_ v3_ : Value, e = .returned (.tuple #[.agg #[.int .i64 r1, v1_], .agg #[.int .i64 r3, v3_]]) ∧ Kd.R (Kd.int .i64) 3 w' w.heap.size (fun k_ => some k_ ≠ (v3_ : Value).ownBlock) v1_ r2 ∧ Kd.R (Kd.int .i64) 3 w' w.heap.size (fun k_ => some k_ ≠ (v1_ : Value).ownBlock) v3_ r4 ∧ IsS80 w0 w' g s0_0 r5 r6 ∧ Below w0.heap.size w0 w' ∧ KeepBut w w' g none := by
  have hu40 := Try.underlying40
  have HI0 := Aside0.mk hI
  have HK := Aside0.mk (KeepBut.refl w g none)
  have HL := Aside0.mk hB.size
  clear hI
  have HW0 := Aside0.mk hB.size
  have HB := Aside0.mk hB
  clear hB
  have H : ((spec_l30Some.f k s0_0 s0_1 s0_2 2).bind fun bt302 => ((spec_l30Some.f k s0_0 bt302.2.1 bt302.2.2 2).bind fun bt308 => (some (5, bt302.1, 6, bt308.1, bt308.2.1, bt308.2.2)))) = some (r1, r2, r3, r4, r5, r6) := h
  clear h
  replace H := Option.bind_eq_some_iff.mp H
  obtain ⟨⟨t302, t305, t306⟩, A20, H⟩ := H
  replace H : ((spec_l30Some.f k s0_0 t305 t306 2).bind fun bt308 => (some (5, t302, 6, bt308.1, bt308.2.1, bt308.2.2))) = some (r1, r2, r3, r4, r5, r6) := H
  have A2 := Aside0.mk A20
  clear A20
  replace H := Option.bind_eq_some_iff.mp H
  obtain ⟨⟨t308, t311, t312⟩, A30, H⟩ := H
  replace H : (some (5, t302, 6, t308, t311, t312)) = some (r1, r2, r3, r4, r5, r6) := H
  have A3 := Aside0.mk A30
  clear A30
  simp only [Option.some.injEq, Prod.mk.injEq] at H
  obtain ⟨rfl, rfl, rfl, rfl, rfl, rfl⟩ := H
  go_enter Try.func51, Try.ntmps51
  try go_wp2_with (first | ((with_reducible refine gate_dst (N := 2) rfl ?_); refine box_event ?hg (N := 2) ?hd (cs := #[.int .i64 0, .slice none 0 0]) (t := 40) ?hr ?_; (case hd => rfl); (case hg => rfl); (case hr => first | (go_simp; done) | (go_simp; rfl)); intro gb300 hg w4 hbox hb; have n0_ := Aside0.mk (IsS80.below (by repeat (first | (with_reducible first | exact HI0.out | apply IsS80.alloc | apply IsS80.drewN | apply IsS80.drew | apply IsS80.set_1 | apply IsS80.set_2) | exact HI0.out)) hb); have n1_ := Aside0.mk (KeepBut.trans (by repeat (first | (with_reducible first | exact HK.out | apply KeepBut.set_ | apply keep_drewN | apply keep_drew | apply keep_alloc) | exact HK.out)) (KeepBut.of_below hb g none) (.inl rfl)); have n2_ := Aside0.mk (below_step (by repeat (first | (with_reducible first | exact HB.out | apply below_alloc | apply pw_below_drewN | apply below_drew1 | refine below_set ?_ (IsS80.ge HI0.out)) | exact HB.out)) hb); have n3_ := Aside0.mk (hbox); have n4_ := Aside0.mk ((by rw [hg]; exact (keep_size (w := w) (g := g) (row := none) (by repeat (first | (with_reducible first | exact HK.out | apply KeepBut.set_ | apply keep_drewN | apply keep_drew | apply keep_alloc) | exact HK.out))) : w.heap.size ≤ gb300)); have n5_ := Aside0.mk ((Nat.le_trans HW0.out (by rw [hg]; exact (keep_size (w := w) (g := g) (row := none) (by repeat (first | (with_reducible first | exact HK.out | apply KeepBut.set_ | apply keep_drewN | apply keep_drew | apply keep_alloc) | exact HK.out))) : w.heap.size ≤ gb300) : w0.heap.size ≤ gb300)); have n6_ := Aside0.mk ((by rw [hg]; exact Nat.ne_of_lt (IsS80.lt (show IsS80 w0 _ g s0_0 s0_1 s0_2 from by repeat (first | (with_reducible first | exact HI0.out | apply IsS80.alloc | apply IsS80.drewN | apply IsS80.drew | apply IsS80.set_1 | apply IsS80.set_2) | exact HI0.out))) : g ≠ gb300)); have n7_ := Aside0.mk ((by rw [hg]; exact Nat.ne_of_gt (IsS80.lt (show IsS80 w0 _ g s0_0 s0_1 s0_2 from by repeat (first | (with_reducible first | exact HI0.out | apply IsS80.alloc | apply IsS80.drewN | apply IsS80.drew | apply IsS80.set_1 | apply IsS80.set_2) | exact HI0.out))) : gb300 ≠ g)); clear HI0; clear HK; clear HB; have HI0 := n0_; have HK := n1_; have HB := n2_; have BK300 := n3_; have GW300 := n4_; have GE300 := n5_; have NB0_300 := n6_; have NB300_0 := n7_; clear n0_ n1_ n2_ n3_ n4_ n5_ n6_ n7_; clear hb hbox hg) | ((with_reducible refine gate_dst (N := 3) rfl ?_); refine box_event ?hg (N := 3) ?hd (cs := #[.int .i64 0, .slice none 0 0]) (t := 40) ?hr ?_; (case hd => rfl); (case hg => rfl); (case hr => first | (go_simp; done) | (go_simp; rfl)); intro gb301 hg w5 hbox hb; have n0_ := Aside0.mk (IsS80.below (by repeat (first | (with_reducible first | exact HI0.out | apply IsS80.alloc | apply IsS80.drewN | apply IsS80.drew | apply IsS80.set_1 | apply IsS80.set_2 | refine IsS80.far ?_ NB0_300.out _) | exact HI0.out)) hb); have n1_ := Aside0.mk (blk_below (g := gb300) (o := .cells #[.int .i64 0, .slice none 0 0] 40 (0, 0)) (by (with_reducible repeat (first | refine blk_drewN ?_ _ | refine blk_drew ?_ | refine blk_alloc ?_ _)); exact BK300.out) hb); have n2_ := Aside0.mk (KeepBut.trans (by repeat (first | (with_reducible first | exact HK.out | apply KeepBut.set_ | apply keep_drewN | apply keep_drew | apply keep_alloc | refine keep_far ?_ GW300.out _) | exact HK.out)) (KeepBut.of_below hb g none) (.inl rfl)); have n3_ := Aside0.mk (below_step (by repeat (first | (with_reducible first | exact HB.out | apply below_alloc | apply pw_below_drewN | apply below_drew1 | refine below_set ?_ (IsS80.ge HI0.out) | refine below_set ?_ GE300.out) | exact HB.out)) hb); have n4_ := Aside0.mk (hbox); have n5_ := Aside0.mk ((by rw [hg]; exact (keep_size (w := w) (g := g) (row := none) (by repeat (first | (with_reducible first | exact HK.out | apply KeepBut.set_ | apply keep_drewN | apply keep_drew | apply keep_alloc | refine keep_far ?_ GW300.out _) | exact HK.out))) : w.heap.size ≤ gb301)); have n6_ := Aside0.mk ((Nat.le_trans HW0.out (by rw [hg]; exact (keep_size (w := w) (g := g) (row := none) (by repeat (first | (with_reducible first | exact HK.out | apply KeepBut.set_ | apply keep_drewN | apply keep_drew | apply keep_alloc | refine keep_far ?_ GW300.out _) | exact HK.out))) : w.heap.size ≤ gb301) : w0.heap.size ≤ gb301)); have n7_ := Aside0.mk ((by rw [hg]; exact Nat.ne_of_lt (blk_lt (g := gb300) (o := .cells #[.int .i64 0, .slice none 0 0] 40 (0, 0)) (by (with_reducible repeat (first | refine blk_drewN ?_ _ | refine blk_drew ?_ | refine blk_alloc ?_ _)); exact BK300.out)) : gb300 ≠ gb301)); have n8_ := Aside0.mk ((by rw [hg]; exact Nat.ne_of_gt (blk_lt (g := gb300) (o := .cells #[.int .i64 0, .slice none 0 0] 40 (0, 0)) (by (with_reducible repeat (first | refine blk_drewN ?_ _ | refine blk_drew ?_ | refine blk_alloc ?_ _)); exact BK300.out)) : gb301 ≠ gb300)); have n9_ := Aside0.mk ((by rw [hg]; exact Nat.ne_of_lt (IsS80.lt (show IsS80 w0 _ g s0_0 s0_1 s0_2 from by repeat (first | (with_reducible first | exact HI0.out | apply IsS80.alloc | apply IsS80.drewN | apply IsS80.drew | apply IsS80.set_1 | apply IsS80.set_2 | refine IsS80.far ?_ NB0_300.out _) | exact HI0.out))) : g ≠ gb301)); have n10_ := Aside0.mk ((by rw [hg]; exact Nat.ne_of_gt (IsS80.lt (show IsS80 w0 _ g s0_0 s0_1 s0_2 from by repeat (first | (with_reducible first | exact HI0.out | apply IsS80.alloc | apply IsS80.drewN | apply IsS80.drew | apply IsS80.set_1 | apply IsS80.set_2 | refine IsS80.far ?_ NB0_300.out _) | exact HI0.out))) : gb301 ≠ g)); clear HI0; clear BK300; clear HK; clear HB; have HI0 := n0_; have BK300 := n1_; have HK := n2_; have HB := n3_; have BK301 := n4_; have GW301 := n5_; have GE301 := n6_; have NB300_301 := n7_; have NB301_300 := n8_; have NB0_301 := n9_; have NB301_0 := n10_; clear n0_ n1_ n2_ n3_ n4_ n5_ n6_ n7_ n8_ n9_ n10_; clear hb hbox hg) | ((with_reducible refine gate_callee (f := 58) rfl ?_); refine goesL_ (some 6) rfl rfl Try.func58 (by kernel_rfl) rfl #[.pointer (some ⟨g, 0, none⟩), .int .i64 2] rfl (by (try simp only [List.map_toArray, List.map_cons, List.map_nil]); first | done | rfl | (simp only [List.length_drop, List.length_take]; rfl)) ?_; (with_reducible refine (spec_l30Some.calls k g s0_0 s0_1 s0_2 2 t302 t305 t306 w0 _ ?side1 ?side2 A2.out).mono ?_); (case side1 => repeat (first | (with_reducible first | exact HI0.out | apply IsS80.alloc | apply IsS80.drewN | apply IsS80.drew | apply IsS80.set_1 | apply IsS80.set_2 | refine IsS80.far ?_ NB0_300.out _ | refine IsS80.far ?_ NB0_301.out _) | exact HI0.out)); (case side2 => repeat (first | (with_reducible first | exact HB.out | apply below_alloc | apply pw_below_drewN | apply below_drew1 | refine below_set ?_ (IsS80.ge HI0.out) | refine below_set ?_ GE300.out | refine below_set ?_ GE301.out) | exact HB.out)); rintro e w6 ⟨v303, rfl, ho0, hi, hb, hk⟩; refine ⟨_, rfl, ?_⟩; have n0_ := Aside0.mk (KeepBut.blk hk (g' := gb300) (o := .cells #[.int .i64 0, .slice none 0 0] 40 (0, 0)) (by (with_reducible repeat (first | refine blk_drewN ?_ _ | refine blk_drew ?_ | refine blk_alloc ?_ _)); exact BK300.out) NB300_0.out (by simp)); have n1_ := Aside0.mk (KeepBut.blk hk (g' := gb301) (o := .cells #[.int .i64 0, .slice none 0 0] 40 (0, 0)) (by (with_reducible repeat (first | refine blk_drewN ?_ _ | refine blk_drew ?_ | refine blk_alloc ?_ _)); exact BK301.out) NB301_0.out (by simp)); have n2_ := Aside0.mk (Kd.R_lower ho0 (keep_size (w := w) (g := g) (row := none) (by repeat (first | (with_reducible first | exact HK.out | apply KeepBut.set_ | apply keep_drewN | apply keep_drew | apply keep_alloc | refine keep_far ?_ GW300.out _ | refine keep_far ?_ GW301.out _) | exact HK.out)))); have n3_ := Aside0.mk (KeepBut.trans (by repeat (first | (with_reducible first | exact HK.out | apply KeepBut.set_ | apply keep_drewN | apply keep_drew | apply keep_alloc | refine keep_far ?_ GW300.out _ | refine keep_far ?_ GW301.out _) | exact HK.out)) hk (.inl rfl)); have n4_ := Aside0.mk (hb); have n5_ := Aside0.mk (hi); clear BK300; clear BK301; clear HK; clear HB; clear HI0; have BK300 := n0_; have BK301 := n1_; have HO304 := n2_; have HK := n3_; have HB := n4_; have HI0 := n5_; clear n0_ n1_ n2_ n3_ n4_ n5_; (try clear hb); (try clear hb2); (try clear hk); (try clear hi); (try clear ho0); obtain ⟨Ao7, co7, eo7⟩ := Kd.R_slice HO304.out; subst eo7) | ((with_reducible refine gate_dst (N := 4) rfl ?_); refine box_event ?hg (N := 4) ?hd (cs := #[.int .i64 0, .slice none 0 0]) (t := 40) ?hr ?_; (case hd => rfl); (case hg => rfl); (case hr => first | (go_simp; done) | (go_simp; rfl)); intro gb307 hg w8 hbox hb; have n0_ := Aside0.mk (Kd.R_below (by (with_reducible repeat (first | apply Kd.R_alloc | apply Kd.R_drewN | apply Kd.R_drew)); exact HO304.out) hb); have n1_ := Aside0.mk (IsS80.below (by repeat (first | (with_reducible first | exact HI0.out | apply IsS80.alloc | apply IsS80.drewN | apply IsS80.drew | apply IsS80.set_1 | apply IsS80.set_2 | refine IsS80.far ?_ NB0_300.out _ | refine IsS80.far ?_ NB0_301.out _) | exact HI0.out)) hb); have n2_ := Aside0.mk (blk_below (g := gb300) (o := .cells #[.int .i64 0, .slice none 0 0] 40 (0, 0)) (by (with_reducible repeat (first | refine blk_drewN ?_ _ | refine blk_drew ?_ | refine blk_alloc ?_ _)); exact BK300.out) hb); have n3_ := Aside0.mk (blk_below (g := gb301) (o := .cells #[.int .i64 0, .slice none 0 0] 40 (0, 0)) (by (with_reducible repeat (first | refine blk_drewN ?_ _ | refine blk_drew ?_ | refine blk_alloc ?_ _)); exact BK301.out) hb); have n4_ := Aside0.mk (KeepBut.trans (by repeat (first | (with_reducible first | exact HK.out | apply KeepBut.set_ | apply keep_drewN | apply keep_drew | apply keep_alloc | refine keep_far ?_ GW300.out _ | refine keep_far ?_ GW301.out _) | exact HK.out)) (KeepBut.of_below hb g none) (.inl rfl)); have n5_ := Aside0.mk (below_step (by repeat (first | (with_reducible first | exact HB.out | apply below_alloc | apply pw_below_drewN | apply below_drew1 | refine below_set ?_ (IsS80.ge HI0.out) | refine below_set ?_ GE300.out | refine below_set ?_ GE301.out) | exact HB.out)) hb); have n6_ := Aside0.mk (hbox); have n7_ := Aside0.mk ((by rw [hg]; exact (keep_size (w := w) (g := g) (row := none) (by repeat (first | (with_reducible first | exact HK.out | apply KeepBut.set_ | apply keep_drewN | apply keep_drew | apply keep_alloc | refine keep_far ?_ GW300.out _ | refine keep_far ?_ GW301.out _) | exact HK.out))) : w.heap.size ≤ gb307)); have n8_ := Aside0.mk ((Nat.le_trans HW0.out (by rw [hg]; exact (keep_size (w := w) (g := g) (row := none) (by repeat (first | (with_reducible first | exact HK.out | apply KeepBut.set_ | apply keep_drewN | apply keep_drew | apply keep_alloc | refine keep_far ?_ GW300.out _ | refine keep_far ?_ GW301.out _) | exact HK.out))) : w.heap.size ≤ gb307) : w0.heap.size ≤ gb307)); have n9_ := Aside0.mk ((by rw [hg]; exact Nat.ne_of_lt (blk_lt (g := gb300) (o := .cells #[.int .i64 0, .slice none 0 0] 40 (0, 0)) (by (with_reducible repeat (first | refine blk_drewN ?_ _ | refine blk_drew ?_ | refine blk_alloc ?_ _)); exact BK300.out)) : gb300 ≠ gb307)); have n10_ := Aside0.mk ((by rw [hg]; exact Nat.ne_of_gt (blk_lt (g := gb300) (o := .cells #[.int .i64 0, .slice none 0 0] 40 (0, 0)) (by (with_reducible repeat (first | refine blk_drewN ?_ _ | refine blk_drew ?_ | refine blk_alloc ?_ _)); exact BK300.out)) : gb307 ≠ gb300)); have n11_ := Aside0.mk ((by rw [hg]; exact Nat.ne_of_lt (blk_lt (g := gb301) (o := .cells #[.int .i64 0, .slice none 0 0] 40 (0, 0)) (by (with_reducible repeat (first | refine blk_drewN ?_ _ | refine blk_drew ?_ | refine blk_alloc ?_ _)); exact BK301.out)) : gb301 ≠ gb307)); have n12_ := Aside0.mk ((by rw [hg]; exact Nat.ne_of_gt (blk_lt (g := gb301) (o := .cells #[.int .i64 0, .slice none 0 0] 40 (0, 0)) (by (with_reducible repeat (first | refine blk_drewN ?_ _ | refine blk_drew ?_ | refine blk_alloc ?_ _)); exact BK301.out)) : gb307 ≠ gb301)); have n13_ := Aside0.mk ((by rw [hg]; exact Nat.ne_of_lt (IsS80.lt (show IsS80 w0 _ g s0_0 t305 t306 from by repeat (first | (with_reducible first | exact HI0.out | apply IsS80.alloc | apply IsS80.drewN | apply IsS80.drew | apply IsS80.set_1 | apply IsS80.set_2 | refine IsS80.far ?_ NB0_300.out _ | refine IsS80.far ?_ NB0_301.out _) | exact HI0.out))) : g ≠ gb307)); have n14_ := Aside0.mk ((by rw [hg]; exact Nat.ne_of_gt (IsS80.lt (show IsS80 w0 _ g s0_0 t305 t306 from by repeat (first | (with_reducible first | exact HI0.out | apply IsS80.alloc | apply IsS80.drewN | apply IsS80.drew | apply IsS80.set_1 | apply IsS80.set_2 | refine IsS80.far ?_ NB0_300.out _ | refine IsS80.far ?_ NB0_301.out _) | exact HI0.out))) : gb307 ≠ g)); clear HO304; clear HI0; clear BK300; clear BK301; clear HK; clear HB; have HO304 := n0_; have HI0 := n1_; have BK300 := n2_; have BK301 := n3_; have HK := n4_; have HB := n5_; have BK307 := n6_; have GW307 := n7_; have GE307 := n8_; have NB300_307 := n9_; have NB307_300 := n10_; have NB301_307 := n11_; have NB307_301 := n12_; have NB0_307 := n13_; have NB307_0 := n14_; clear n0_ n1_ n2_ n3_ n4_ n5_ n6_ n7_ n8_ n9_ n10_ n11_ n12_ n13_ n14_; clear hb hbox hg; have hnb9 := NB307_300.out; have hnc9 := NB300_307.out; have hnb10 := NB307_301.out; have hnc10 := NB301_307.out; have hnb11 := NB307_0.out; have hnc11 := NB0_307.out; have hcz12_0 : w8.cell? ⟨gb307, 0, none⟩ = some (.int .i64 0) := (blk_cell BK307.out 0).trans rfl; have hcz12_1 : w8.cell? ⟨gb307, 1, none⟩ = some (.slice none 0 0) := (blk_cell BK307.out 1).trans rfl; have hfz12_0 := blk_frozen BK307.out 0; have hfz12_1 := blk_frozen BK307.out 1))
  have n0_ : Aside0 (Kd.R (Kd.int .i64) 3 ((w8.setCell ⟨gb307, 0, none⟩ (.int .i64 5)).setCell ⟨gb307, 1, none⟩ (.slice Ao7 t302.length co7)) w.heap.size (fun _ => True) (.slice Ao7 t302.length co7) t302) := ⟨by (with_reducible repeat (first | apply Kd.R_alloc | apply Kd.R_drewN | apply Kd.R_drew)); exact Kd.R_mono (Kd.R_far (p := ⟨gb307, 1, none⟩) (Kd.R_far (p := ⟨gb307, 0, none⟩) (Kd.R_types HO304.out BK307.out (by decide)) (fun _ hk => hk.2) (.int .i64 5)) (fun _ hk => hk.2) (.slice Ao7 t302.length co7)) (fun _ hk => trivial)⟩
  have n1_ : Aside0 (((w8.setCell ⟨gb307, 0, none⟩ (.int .i64 5)).setCell ⟨gb307, 1, none⟩ (.slice Ao7 t302.length co7)).heap[gb300]? = some (.cells #[.int .i64 0, .slice none 0 0] 40 (0, 0))) := ⟨by (with_reducible repeat (first | refine blk_drewN ?_ _ | refine blk_drew ?_ | refine blk_alloc ?_ _)); refine blk_far ?_ NB300_307.out _; (with_reducible repeat (first | refine blk_drewN ?_ _ | refine blk_drew ?_ | refine blk_alloc ?_ _)); refine blk_far ?_ NB300_307.out _; (with_reducible repeat (first | refine blk_drewN ?_ _ | refine blk_drew ?_ | refine blk_alloc ?_ _)); exact BK300.out⟩
  have n2_ : Aside0 (((w8.setCell ⟨gb307, 0, none⟩ (.int .i64 5)).setCell ⟨gb307, 1, none⟩ (.slice Ao7 t302.length co7)).heap[gb301]? = some (.cells #[.int .i64 0, .slice none 0 0] 40 (0, 0))) := ⟨by (with_reducible repeat (first | refine blk_drewN ?_ _ | refine blk_drew ?_ | refine blk_alloc ?_ _)); refine blk_far ?_ NB301_307.out _; (with_reducible repeat (first | refine blk_drewN ?_ _ | refine blk_drew ?_ | refine blk_alloc ?_ _)); refine blk_far ?_ NB301_307.out _; (with_reducible repeat (first | refine blk_drewN ?_ _ | refine blk_drew ?_ | refine blk_alloc ?_ _)); exact BK301.out⟩
  have n3_ : Aside0 (((w8.setCell ⟨gb307, 0, none⟩ (.int .i64 5)).setCell ⟨gb307, 1, none⟩ (.slice Ao7 t302.length co7)).heap[gb307]? = some (.cells #[.int .i64 5, .slice Ao7 t302.length co7] 40 (0, 0))) := ⟨by (with_reducible repeat (first | refine blk_drewN ?_ _ | refine blk_drew ?_ | refine blk_alloc ?_ _)); refine blk_put (cs := #[.int .i64 5, .slice none 0 0]) ?_ 1 _ rfl; (with_reducible repeat (first | refine blk_drewN ?_ _ | refine blk_drew ?_ | refine blk_alloc ?_ _)); refine blk_put (cs := #[.int .i64 0, .slice none 0 0]) ?_ 0 _ rfl; (with_reducible repeat (first | refine blk_drewN ?_ _ | refine blk_drew ?_ | refine blk_alloc ?_ _)); exact BK307.out⟩
  have n4_ : Aside0 (IsS80 w0 ((w8.setCell ⟨gb307, 0, none⟩ (.int .i64 5)).setCell ⟨gb307, 1, none⟩ (.slice Ao7 t302.length co7)) g s0_0 t305 t306) := ⟨by repeat (first | (with_reducible first | exact HI0.out | apply IsS80.alloc | apply IsS80.drewN | apply IsS80.drew | apply IsS80.set_1 | apply IsS80.set_2 | refine IsS80.far ?_ NB0_300.out _ | refine IsS80.far ?_ NB0_301.out _ | refine IsS80.far ?_ NB0_307.out _) | exact HI0.out)⟩
  have n5_ : Aside0 (KeepBut w ((w8.setCell ⟨gb307, 0, none⟩ (.int .i64 5)).setCell ⟨gb307, 1, none⟩ (.slice Ao7 t302.length co7)) g none) := ⟨by repeat (first | (with_reducible first | exact HK.out | apply KeepBut.set_ | apply keep_drewN | apply keep_drew | apply keep_alloc | refine keep_far ?_ GW300.out _ | refine keep_far ?_ GW301.out _ | refine keep_far ?_ GW307.out _) | exact HK.out)⟩
  have n6_ : Aside0 (Below w0.heap.size w0 ((w8.setCell ⟨gb307, 0, none⟩ (.int .i64 5)).setCell ⟨gb307, 1, none⟩ (.slice Ao7 t302.length co7))) := ⟨by repeat (first | (with_reducible first | exact HB.out | apply below_alloc | apply pw_below_drewN | apply below_drew1 | refine below_set ?_ (IsS80.ge HI0.out) | refine below_set ?_ GE300.out | refine below_set ?_ GE301.out | refine below_set ?_ GE307.out) | exact HB.out)⟩
  (try clear HO304)
  (try clear BK300)
  (try clear BK301)
  (try clear BK307)
  (try clear HI0)
  (try clear HK)
  (try clear HB)
  generalize ((w8.setCell ⟨gb307, 0, none⟩ (.int .i64 5)).setCell ⟨gb307, 1, none⟩ (.slice Ao7 t302.length co7)) = w13 at n0_ n1_ n2_ n3_ n4_ n5_ n6_ ⊢
  have HO304 := n0_
  have BK300 := n1_
  have BK301 := n2_
  have BK307 := n3_
  have HI0 := n4_
  have HK := n5_
  have HB := n6_
  clear n0_ n1_ n2_ n3_ n4_ n5_ n6_
  have n0_ := Aside0.mk (Kd.R_drew HO304.out)
  have n1_ := Aside0.mk (blk_drew BK300.out)
  have n2_ := Aside0.mk (blk_drew BK301.out)
  have n3_ := Aside0.mk (blk_drew BK307.out)
  have n4_ := Aside0.mk (IsS80.drew HI0.out)
  have n5_ := Aside0.mk (keep_drew HK.out)
  have n6_ := Aside0.mk (below_drew1 HB.out)
  clear HO304
  clear BK300
  clear BK301
  clear BK307
  clear HI0
  clear HK
  clear HB
  have HO304 := n0_
  have BK300 := n1_
  have BK301 := n2_
  have BK307 := n3_
  have HI0 := n4_
  have HK := n5_
  have HB := n6_
  clear n0_ n1_ n2_ n3_ n4_ n5_ n6_
  refine start_ (n := 6) (S := fun w' => w'.cell? ⟨gb307, 0, none⟩ = some (.int .i64 5) ∧ w'.cell? ⟨gb307, 1, none⟩ = some (.slice Ao7 t302.length co7)) (ds := []) #[false, false, false, false, false, false] (by kernel_rfl) rfl rfl ⟨(blk_cell BK307.out 0).trans rfl, (blk_cell BK307.out 1).trans rfl⟩ (fun hHeld => ?_)
  generalize w13.drew = w14 at HO304 BK300 BK301 BK307 HI0 HK HB hHeld ⊢
  refine pure_ (i := 1) (N := some 9) (v := ?_) (a' := ?_) #[false, true, false, false, false, false] rfl rfl (by kernel_rfl) (fun _ _ _ h => h) (Or.inl ⟨by rfl, ?_⟩) ?_ ?_
  rotate_left
  · intro w'
    go_simp
    with_reducible rfl
  rotate_left
  · simp only [Act.put, List.setIfInBounds_toArray, List.set_cons_zero, List.set_cons_succ, i64_w, i32_w]
    rfl
  refine take_ (i := 0) (N := some 8) (v := ?_) (a' := ?_) #[true, true, false, false, false, false] rfl rfl (by kernel_rfl) (fun _ _ _ h => h) (Or.inl ⟨by rfl, ?_⟩) hHeld ?_ ?_
  rotate_left
  · rintro w' ⟨s0, s1⟩
    go_simp
    with_reducible rfl
  rotate_left
  · simp only [Act.put, List.setIfInBounds_toArray, List.set_cons_zero, List.set_cons_succ, i64_w, i32_w]
    rfl
  refine one_ (i := 2) (N := some 10) #[true, true, true, false, false, false] rfl rfl (by kernel_rfl) (by decide) (fun K hK => ?_)
  refine goes_ Try.func58 (by kernel_rfl) rfl #[.pointer (some ⟨g, 0, none⟩), .int .i64 2] (by rfl) rfl rfl (by (try simp only [List.map_toArray, List.map_cons, List.map_nil]); first | done | rfl | (simp only [List.length_drop, List.length_take]; rfl)) ?_
  with_reducible refine (spec_l30Some.calls k g s0_0 t305 t306 2 t308 t311 t312 w0 _ ?side1 ?side2 A3.out).mono ?_
  (case side1 => repeat (first | (with_reducible first | exact HI0.out | apply IsS80.alloc | apply IsS80.drewN | apply IsS80.drew | apply IsS80.set_1 | apply IsS80.set_2 | refine IsS80.far ?_ NB0_300.out _ | refine IsS80.far ?_ NB0_301.out _ | refine IsS80.far ?_ NB0_307.out _) | exact HI0.out))
  (case side2 => repeat (first | (with_reducible first | exact HB.out | apply below_alloc | apply pw_below_drewN | apply below_drew1 | refine below_set ?_ (IsS80.ge HI0.out) | refine below_set ?_ GE300.out | refine below_set ?_ GE301.out | refine below_set ?_ GE307.out) | exact HB.out))
  rintro e w15 ⟨v309, rfl, ho0, hi, hb, hk⟩
  refine ⟨_, rfl, ?_⟩
  have n0_ := Aside0.mk (KeepBut.blk hk (g' := gb300) (o := .cells #[.int .i64 0, .slice none 0 0] 40 (0, 0)) (by (with_reducible repeat (first | refine blk_drewN ?_ _ | refine blk_drew ?_ | refine blk_alloc ?_ _)); exact BK300.out) NB300_0.out (by simp))
  have n1_ := Aside0.mk (KeepBut.blk hk (g' := gb301) (o := .cells #[.int .i64 0, .slice none 0 0] 40 (0, 0)) (by (with_reducible repeat (first | refine blk_drewN ?_ _ | refine blk_drew ?_ | refine blk_alloc ?_ _)); exact BK301.out) NB301_0.out (by simp))
  have n2_ := Aside0.mk (Kd.R_mono (Kd.R_told (Kd.R_oldK (IsS80.apart (show IsS80 w0 _ g s0_0 t305 t306 from by repeat (first | (with_reducible first | exact HI0.out | apply IsS80.alloc | apply IsS80.drewN | apply IsS80.drew | apply IsS80.set_1 | apply IsS80.set_2 | refine IsS80.far ?_ NB0_300.out _ | refine IsS80.far ?_ NB0_301.out _ | refine IsS80.far ?_ NB0_307.out _) | exact HI0.out)) (by (with_reducible repeat (first | apply Kd.R_alloc | apply Kd.R_drewN | apply Kd.R_drew)); exact HO304.out) (by decide)) hk) (Kd.R_base ho0)) (fun _ h_ => h_.1))
  have n3_ := Aside0.mk (KeepBut.blk hk (g' := gb307) (o := .cells #[.int .i64 5, .slice Ao7 t302.length co7] 40 (0, 0)) (by (with_reducible repeat (first | refine blk_drewN ?_ _ | refine blk_drew ?_ | refine blk_alloc ?_ _)); exact BK307.out) NB307_0.out (by simp))
  have n4_ := Aside0.mk (Kd.R_lower (Kd.R_new' ho0 (Kd.R_lt (by (with_reducible repeat (first | apply Kd.R_alloc | apply Kd.R_drewN | apply Kd.R_drew)); exact HO304.out))) (keep_size (w := w) (g := g) (row := none) (by repeat (first | (with_reducible first | exact HK.out | apply KeepBut.set_ | apply keep_drewN | apply keep_drew | apply keep_alloc | refine keep_far ?_ GW300.out _ | refine keep_far ?_ GW301.out _ | refine keep_far ?_ GW307.out _) | exact HK.out))))
  have n5_ := Aside0.mk (KeepBut.trans (by repeat (first | (with_reducible first | exact HK.out | apply KeepBut.set_ | apply keep_drewN | apply keep_drew | apply keep_alloc | refine keep_far ?_ GW300.out _ | refine keep_far ?_ GW301.out _ | refine keep_far ?_ GW307.out _) | exact HK.out)) hk (.inl rfl))
  have n6_ := Aside0.mk (hb)
  have n7_ := Aside0.mk (hi)
  clear BK300
  clear BK301
  clear HO304
  clear BK307
  clear HK
  clear HB
  clear HI0
  have BK300 := n0_
  have BK301 := n1_
  have HO304 := n2_
  have BK307 := n3_
  have HO310 := n4_
  have HK := n5_
  have HB := n6_
  have HI0 := n7_
  clear n0_ n1_ n2_ n3_ n4_ n5_ n6_ n7_
  (try clear hb)
  (try clear hb2)
  (try clear hk)
  (try clear hi)
  (try clear ho0)
  obtain ⟨Ao16, co16, eo16⟩ := Kd.R_slice HO310.out
  (first | subst eo16 | (injection eo16 with f1_ f2_ f3_; have f4_ := f1_.symm; have f5_ := f3_.symm; clear f1_ f2_ f3_; subst f4_; subst f5_))
  refine hK.out _ _ ⟨(blk_cell BK307.out 0).trans rfl, (blk_cell BK307.out 1).trans rfl⟩ (fun hHeld => ?_)
  clear hK K
  refine norm_ (a' := ?_) ?_ ?_
  rotate_left
  · show Act.put _ (some 10) _ = _
    simp only [Act.put, List.setIfInBounds_toArray, List.set_cons_zero, List.set_cons_succ, i64_w, i32_w]
    rfl
  refine pure_ (i := 3) (N := some 11) (v := ?_) (a' := ?_) #[true, true, true, true, false, false] rfl rfl (by kernel_rfl) (fun _ _ _ h => h) (Or.inl ⟨by rfl, ?_⟩) ?_ ?_
  rotate_left
  · intro w'
    go_simp
    with_reducible rfl
  rotate_left
  · simp only [Act.put, List.setIfInBounds_toArray, List.set_cons_zero, List.set_cons_succ, i64_w, i32_w]
    rfl
  refine one_ (i := 4) (N := none) #[true, true, true, true, true, false] rfl rfl (by kernel_rfl) (by decide) (fun K hK => ?_)
  have hs17 : w15.cell? ⟨gb300, 0, none⟩ = some (.int .i64 0) := (blk_cell BK300.out 0).trans rfl
  have hfs17 := blk_frozen BK300.out 0
  have hns17_1 := NB301_300.out
  have hns17_2 := NB307_300.out
  have hms17_1 := NB300_301.out
  have hms17_2 := NB300_307.out
  have hs18 : w15.cell? ⟨gb300, 1, none⟩ = some (.slice none 0 0) := (blk_cell BK300.out 1).trans rfl
  have hfs18 := blk_frozen BK300.out 1
  have hns18_1 := NB301_300.out
  have hns18_2 := NB307_300.out
  have hms18_1 := NB300_301.out
  have hms18_2 := NB300_307.out
  refine skip_ (w1 := ?_) (by rfl) rfl ?_ ?_
  rotate_left
  · go_simp
    rfl
  refine hK.out _ _ ⟨((cell_far (p := ⟨gb300, _, none⟩) NB307_300.out _).trans (((cell_far (p := ⟨gb300, _, none⟩) NB307_300.out _).trans (hHeld.1)))), ((cell_far (p := ⟨gb300, _, none⟩) NB307_300.out _).trans (((cell_far (p := ⟨gb300, _, none⟩) NB307_300.out _).trans (hHeld.2))))⟩ (fun hHeld => ?_)
  clear hK K
  refine one_ (i := 5) (N := none) #[true, true, true, true, true, true] rfl rfl (by kernel_rfl) (by decide) (fun K hK => ?_)
  have hs19 : w15.cell? ⟨gb301, 0, none⟩ = some (.int .i64 0) := (blk_cell BK301.out 0).trans rfl
  have hfs19 := blk_frozen BK301.out 0
  have hns19_0 := NB300_301.out
  have hns19_2 := NB307_301.out
  have hms19_0 := NB301_300.out
  have hms19_2 := NB301_307.out
  have hs20 : w15.cell? ⟨gb301, 1, none⟩ = some (.slice none 0 0) := (blk_cell BK301.out 1).trans rfl
  have hfs20 := blk_frozen BK301.out 1
  have hns20_0 := NB300_301.out
  have hns20_2 := NB307_301.out
  have hms20_0 := NB301_300.out
  have hms20_2 := NB301_307.out
  refine skip_ (w1 := ?_) (by rfl) rfl ?_ ?_
  rotate_left
  · go_simp
    rfl
  refine hK.out _ _ ⟨((cell_far (p := ⟨gb301, _, none⟩) NB307_301.out _).trans (((cell_far (p := ⟨gb301, _, none⟩) NB307_301.out _).trans (hHeld.1)))), ((cell_far (p := ⟨gb301, _, none⟩) NB307_301.out _).trans (((cell_far (p := ⟨gb301, _, none⟩) NB307_301.out _).trans (hHeld.2))))⟩ (fun hHeld => ?_)
  clear hK K
  refine done_ (by kernel_rfl) ?_
  try go_wp2
  refine bodyPost_ret (results_cc rfl _ _ gb300 gb301 40 40 #[.int .i64 5, .slice Ao7 t302.length co7] #[.int .i64 6, .slice Ao16 t308.length co16] (0, 0) (0, 0) _ _ rfl (by (with_reducible repeat (first | refine blk_drewN ?_ _ | refine blk_drew ?_ | refine blk_alloc ?_ _)); refine blk_far ?_ NB300_301.out _; (with_reducible repeat (first | refine blk_drewN ?_ _ | refine blk_drew ?_ | refine blk_alloc ?_ _)); refine blk_far ?_ NB300_301.out _; (with_reducible repeat (first | refine blk_drewN ?_ _ | refine blk_drew ?_ | refine blk_alloc ?_ _)); refine blk_put (cs := #[.int .i64 5, .slice none 0 0]) ?_ 1 _ rfl; (with_reducible repeat (first | refine blk_drewN ?_ _ | refine blk_drew ?_ | refine blk_alloc ?_ _)); refine blk_put (cs := #[.int .i64 0, .slice none 0 0]) ?_ 0 _ rfl; (with_reducible repeat (first | refine blk_drewN ?_ _ | refine blk_drew ?_ | refine blk_alloc ?_ _)); exact BK300.out) Try.underlying40 rfl (by kernel_rfl) rfl (by (with_reducible repeat (first | refine blk_drewN ?_ _ | refine blk_drew ?_ | refine blk_alloc ?_ _)); refine blk_put (cs := #[.int .i64 6, .slice none 0 0]) ?_ 1 _ rfl; (with_reducible repeat (first | refine blk_drewN ?_ _ | refine blk_drew ?_ | refine blk_alloc ?_ _)); refine blk_put (cs := #[.int .i64 0, .slice none 0 0]) ?_ 0 _ rfl; (with_reducible repeat (first | refine blk_drewN ?_ _ | refine blk_drew ?_ | refine blk_alloc ?_ _)); refine blk_far ?_ NB301_300.out _; (with_reducible repeat (first | refine blk_drewN ?_ _ | refine blk_drew ?_ | refine blk_alloc ?_ _)); refine blk_far ?_ NB301_300.out _; (with_reducible repeat (first | refine blk_drewN ?_ _ | refine blk_drew ?_ | refine blk_alloc ?_ _)); exact BK301.out) Try.underlying40 rfl (by kernel_rfl)) rfl ?_
  exact ⟨_, _, by first | rfl | (simp [errW_none, errW_some] <;> rfl) | (simp [*, errW_none, errW_some] <;> rfl), by (with_reducible repeat (first | apply Kd.R_alloc | apply Kd.R_drewN | apply Kd.R_drew)); exact Kd.R_mono (Kd.R_far (p := ⟨gb301, 1, none⟩) (Kd.R_far (p := ⟨gb301, 0, none⟩) (Kd.R_far (p := ⟨gb300, 1, none⟩) (Kd.R_far (p := ⟨gb300, 0, none⟩) (Kd.R_types (Kd.R_types HO304.out BK300.out (by decide)) BK301.out (by decide)) (fun _ hk => hk.1.2) (.int .i64 5)) (fun _ hk => hk.1.2) (.slice Ao7 t302.length co7)) (fun _ hk => hk.2) (.int .i64 6)) (fun _ hk => hk.2) (.slice Ao16 t308.length co16)) (fun _ hk => hk.1.1.2), by (with_reducible repeat (first | apply Kd.R_alloc | apply Kd.R_drewN | apply Kd.R_drew)); exact Kd.R_mono (Kd.R_far (p := ⟨gb301, 1, none⟩) (Kd.R_far (p := ⟨gb301, 0, none⟩) (Kd.R_far (p := ⟨gb300, 1, none⟩) (Kd.R_far (p := ⟨gb300, 0, none⟩) (Kd.R_types (Kd.R_types HO310.out BK300.out (by decide)) BK301.out (by decide)) (fun _ hk => hk.1.2) (.int .i64 5)) (fun _ hk => hk.1.2) (.slice Ao7 t302.length co7)) (fun _ hk => hk.2) (.int .i64 6)) (fun _ hk => hk.2) (.slice Ao16 t308.length co16)) (fun _ hk => hk.1.1.2), by repeat (first | (with_reducible first | exact HI0.out | apply IsS80.alloc | apply IsS80.drewN | apply IsS80.drew | apply IsS80.set_1 | apply IsS80.set_2 | refine IsS80.far ?_ NB0_300.out _ | refine IsS80.far ?_ NB0_301.out _ | refine IsS80.far ?_ NB0_307.out _) | exact HI0.out), by repeat (first | (with_reducible first | exact HB.out | apply below_alloc | apply pw_below_drewN | apply below_drew1 | refine below_set ?_ (IsS80.ge HI0.out) | refine below_set ?_ GE300.out | refine below_set ?_ GE301.out | refine below_set ?_ GE307.out) | exact HB.out), by repeat (first | (with_reducible first | exact HK.out | apply KeepBut.set_ | apply keep_drewN | apply keep_drew | apply keep_alloc | refine keep_far ?_ GW300.out _ | refine keep_far ?_ GW301.out _ | refine keep_far ?_ GW307.out _) | exact HK.out)⟩

/-! ### spec_DrawMoves: function 18 -/
def spec_DrawMoves.f (k : Nat) (l0 : List Int) : Option (Int × List Int × Int × List Int) := (spec_l1New.f k l0).bind fun bt315 => ((spec_l38Two.f k bt315.1 bt315.2.1 bt315.2.2).bind fun bt319 => (some (bt319.1, bt319.2.1, bt319.2.2.1, bt319.2.2.2.1)))
theorem spec_DrawMoves.mono : ∀ a0 k, LeO (spec_DrawMoves.f k a0) (spec_DrawMoves.f (k + 1) a0) := by
  intro a0 k
  unfold spec_DrawMoves.f
  repeat' first
      | (with_reducible exact spec_l1New.mono _ _)
      | (with_reducible exact spec_l38Two.mono _ _ _ _)
      | (with_reducible exact LeO.refl _)
      | (with_reducible exact LeO.none _)
      | (with_reducible refine LeO.ite ?_ ?_)
      | (with_reducible refine LeO.bind ?_ (fun _ => ?_))
      | exact spec_l1New.mono _ _
      | exact spec_l38Two.mono _ _ _ _
      | exact LeO.none _
      | refine LeO.ite ?_ ?_
      | refine LeO.bind ?_ (fun _ => ?_)
set_option maxHeartbeats 8000000 in
set_option maxRecDepth 100000 in
theorem spec_DrawMoves.calls (k : Nat) (A0 : Option Addr) (c0 : Nat) (l0 : List Int) (r1 : Int) (r2 : List Int) (r3 : Int) (r4 : List Int) (w : World) (hr0 : Kd.C (Kd.int .u8) w A0 l0.length l0) (hc0 : l0.length ≤ c0) (h : spec_DrawMoves.f k l0 = some (r1, r2, r3, r4)) :
    Calls Try.prog 18 #[.slice A0 l0.length c0] w fun e w' => ∃ v1_ v3_ : Value, e = .returned (.tuple #[.agg #[.int .i64 r1, v1_], .agg #[.int .i64 r3, v3_]]) ∧ Kd.R (Kd.int .i64) 3 w' w.heap.size (fun k_ => some k_ ≠ (v3_ : Value).ownBlock) v1_ r2 ∧ Kd.R (Kd.int .i64) 3 w' w.heap.size (fun k_ => some k_ ≠ (v1_ : Value).ownBlock) v3_ r4 ∧ Below w.heap.size w w' := by
  have hu40 := Try.underlying40
  have HR0 := Aside0.mk hr0
  have HC0 := Aside0.mk hc0
  clear hr0 hc0
  have HB := Aside0.mk (Below.refl w.heap.size w)
  have H : ((spec_l1New.f k l0).bind fun bt315 => ((spec_l38Two.f k bt315.1 bt315.2.1 bt315.2.2).bind fun bt319 => (some (bt319.1, bt319.2.1, bt319.2.2.1, bt319.2.2.2.1)))) = some (r1, r2, r3, r4) := h
  clear h
  replace H := Option.bind_eq_some_iff.mp H
  obtain ⟨⟨t315, t316, t317⟩, A20, H⟩ := H
  replace H : ((spec_l38Two.f k t315 t316 t317).bind fun bt319 => (some (bt319.1, bt319.2.1, bt319.2.2.1, bt319.2.2.2.1))) = some (r1, r2, r3, r4) := H
  have A2 := Aside0.mk A20
  clear A20
  replace H := Option.bind_eq_some_iff.mp H
  obtain ⟨⟨t319, t320, t323, t324, t327, t328⟩, A30, H⟩ := H
  replace H : (some (t319, t320, t323, t324)) = some (r1, r2, r3, r4) := H
  have A3 := Aside0.mk A30
  clear A30
  simp only [Option.some.injEq, Prod.mk.injEq] at H
  obtain ⟨rfl, rfl, rfl, rfl⟩ := H
  go_enter Try.func18, Try.ntmps18
  go_wp2_with (first | ((with_reducible refine gate_dst (N := 2) rfl ?_); refine box_event ?hg (N := 2) ?hd (cs := #[.int .i64 0, .slice none 0 0]) (t := 40) ?hr ?_; (case hd => rfl); (case hg => rfl); (case hr => first | (go_simp; done) | (go_simp; rfl)); intro gb313 hg w4 hbox hb; have n0_ := Aside0.mk (below_step (by repeat (first | (with_reducible first | exact HB.out | apply below_alloc | apply pw_below_drewN | apply below_drew1) | exact HB.out)) hb); have n1_ := Aside0.mk (hbox); have n2_ := Aside0.mk ((by rw [hg]; exact (below_size (by repeat (first | (with_reducible first | exact HB.out | apply below_alloc | apply pw_below_drewN | apply below_drew1) | exact HB.out))) : w.heap.size ≤ gb313)); have n3_ := Aside0.mk ((by rw [hg]; exact (below_size (by repeat (first | (with_reducible first | exact HB.out | apply below_alloc | apply pw_below_drewN | apply below_drew1) | exact HB.out))) : w.heap.size ≤ gb313)); clear HB; have HB := n0_; have BK313 := n1_; have GW313 := n2_; have GE313 := n3_; clear n0_ n1_ n2_ n3_; clear hb hbox hg) | ((with_reducible refine gate_dst (N := 3) rfl ?_); refine box_event ?hg (N := 3) ?hd (cs := #[.int .i64 0, .slice none 0 0]) (t := 40) ?hr ?_; (case hd => rfl); (case hg => rfl); (case hr => first | (go_simp; done) | (go_simp; rfl)); intro gb314 hg w5 hbox hb; have n0_ := Aside0.mk (blk_below (g := gb313) (o := .cells #[.int .i64 0, .slice none 0 0] 40 (0, 0)) (by (with_reducible repeat (first | refine blk_drewN ?_ _ | refine blk_drew ?_ | refine blk_alloc ?_ _)); exact BK313.out) hb); have n1_ := Aside0.mk (below_step (by repeat (first | (with_reducible first | exact HB.out | apply below_alloc | apply pw_below_drewN | apply below_drew1 | refine below_set ?_ GE313.out) | exact HB.out)) hb); have n2_ := Aside0.mk (hbox); have n3_ := Aside0.mk ((by rw [hg]; exact (below_size (by repeat (first | (with_reducible first | exact HB.out | apply below_alloc | apply pw_below_drewN | apply below_drew1 | refine below_set ?_ GE313.out) | exact HB.out))) : w.heap.size ≤ gb314)); have n4_ := Aside0.mk ((by rw [hg]; exact (below_size (by repeat (first | (with_reducible first | exact HB.out | apply below_alloc | apply pw_below_drewN | apply below_drew1 | refine below_set ?_ GE313.out) | exact HB.out))) : w.heap.size ≤ gb314)); have n5_ := Aside0.mk ((by rw [hg]; exact Nat.ne_of_lt (blk_lt (g := gb313) (o := .cells #[.int .i64 0, .slice none 0 0] 40 (0, 0)) (by (with_reducible repeat (first | refine blk_drewN ?_ _ | refine blk_drew ?_ | refine blk_alloc ?_ _)); exact BK313.out)) : gb313 ≠ gb314)); have n6_ := Aside0.mk ((by rw [hg]; exact Nat.ne_of_gt (blk_lt (g := gb313) (o := .cells #[.int .i64 0, .slice none 0 0] 40 (0, 0)) (by (with_reducible repeat (first | refine blk_drewN ?_ _ | refine blk_drew ?_ | refine blk_alloc ?_ _)); exact BK313.out)) : gb314 ≠ gb313)); clear BK313; clear HB; have BK313 := n0_; have HB := n1_; have BK314 := n2_; have GW314 := n3_; have GE314 := n4_; have NB313_314 := n5_; have NB314_313 := n6_; clear n0_ n1_ n2_ n3_ n4_ n5_ n6_; clear hb hbox hg) | ((with_reducible refine gate_callee (f := 30) rfl ?_); refine goesL_ (some 6) rfl rfl Try.func30 (by kernel_rfl) rfl #[.slice A0 l0.length c0] rfl (by (try simp only [List.map_toArray, List.map_cons, List.map_nil]); first | done | rfl | (simp only [List.length_drop, List.length_take]; rfl)) ?_; (with_reducible refine (spec_l1New.calls k _ _ l0 t315 t316 t317 w _ ?side1 ?side2 ?side3 A2.out).mono ?_); (case side1 => repeat (first | (with_reducible first | exact HB.out | apply below_alloc | apply pw_below_drewN | apply below_drew1 | refine below_set ?_ GE313.out | refine below_set ?_ GE314.out) | exact HB.out)); (case side2 => exact HR0.out); (case side3 => exact HC0.out); rintro e w6 ⟨g318, rfl, hi, hb, hb2⟩; refine ⟨_, rfl, ?_⟩; have n0_ := Aside0.mk (blk_below (g := gb313) (o := .cells #[.int .i64 0, .slice none 0 0] 40 (0, 0)) (by (with_reducible repeat (first | refine blk_drewN ?_ _ | refine blk_drew ?_ | refine blk_alloc ?_ _)); exact BK313.out) hb2); have n1_ := Aside0.mk (blk_below (g := gb314) (o := .cells #[.int .i64 0, .slice none 0 0] 40 (0, 0)) (by (with_reducible repeat (first | refine blk_drewN ?_ _ | refine blk_drew ?_ | refine blk_alloc ?_ _)); exact BK314.out) hb2); have n2_ := Aside0.mk (hb); have n3_ := Aside0.mk (hi); have n4_ := Aside0.mk (IsS80.ne_blk hi (blk_below (g := gb313) (o := .cells #[.int .i64 0, .slice none 0 0] 40 (0, 0)) (by (with_reducible repeat (first | refine blk_drewN ?_ _ | refine blk_drew ?_ | refine blk_alloc ?_ _)); exact BK313.out) hb2) (by decide)); have n5_ := Aside0.mk (Ne.symm (IsS80.ne_blk hi (blk_below (g := gb313) (o := .cells #[.int .i64 0, .slice none 0 0] 40 (0, 0)) (by (with_reducible repeat (first | refine blk_drewN ?_ _ | refine blk_drew ?_ | refine blk_alloc ?_ _)); exact BK313.out) hb2) (by decide))); have n6_ := Aside0.mk (IsS80.ne_blk hi (blk_below (g := gb314) (o := .cells #[.int .i64 0, .slice none 0 0] 40 (0, 0)) (by (with_reducible repeat (first | refine blk_drewN ?_ _ | refine blk_drew ?_ | refine blk_alloc ?_ _)); exact BK314.out) hb2) (by decide)); have n7_ := Aside0.mk (Ne.symm (IsS80.ne_blk hi (blk_below (g := gb314) (o := .cells #[.int .i64 0, .slice none 0 0] 40 (0, 0)) (by (with_reducible repeat (first | refine blk_drewN ?_ _ | refine blk_drew ?_ | refine blk_alloc ?_ _)); exact BK314.out) hb2) (by decide))); clear BK313; clear BK314; clear HB; have BK313 := n0_; have BK314 := n1_; have HB := n2_; have HI318 := n3_; have NB318_313 := n4_; have NB313_318 := n5_; have NB318_314 := n6_; have NB314_318 := n7_; clear n0_ n1_ n2_ n3_ n4_ n5_ n6_ n7_; (try clear hb); (try clear hb2); (try clear hk); (try clear hi)) | ((with_reducible refine gate_callee (f := 51) rfl ?_); refine goesL_ (some 8) rfl rfl Try.func51 (by kernel_rfl) rfl #[.pointer (some ⟨g318, 0, none⟩)] rfl (by (try simp only [List.map_toArray, List.map_cons, List.map_nil]); first | done | rfl | (simp only [List.length_drop, List.length_take]; rfl)) ?_; (with_reducible refine (spec_l38Two.calls k g318 t315 t316 t317 t319 t320 t323 t324 t327 t328 w _ ?side1 ?side2 A3.out).mono ?_); (case side1 => repeat (first | (with_reducible first | exact HI318.out | apply IsS80.alloc | apply IsS80.drewN | apply IsS80.drew | apply IsS80.set_1 | apply IsS80.set_2 | refine IsS80.far ?_ NB318_313.out _ | refine IsS80.far ?_ NB318_314.out _) | exact HI318.out)); (case side2 => repeat (first | (with_reducible first | exact HB.out | apply below_alloc | apply pw_below_drewN | apply below_drew1 | refine below_set ?_ (IsS80.ge HI318.out) | refine below_set ?_ GE313.out | refine below_set ?_ GE314.out) | exact HB.out)); rintro e w7 ⟨v321, v325, rfl, ho0, ho1, hi, hb, hk⟩; refine ⟨_, rfl, ?_⟩; have n0_ := Aside0.mk (KeepBut.blk hk (g' := gb313) (o := .cells #[.int .i64 0, .slice none 0 0] 40 (0, 0)) (by (with_reducible repeat (first | refine blk_drewN ?_ _ | refine blk_drew ?_ | refine blk_alloc ?_ _)); exact BK313.out) NB313_318.out (by simp)); have n1_ := Aside0.mk (KeepBut.blk hk (g' := gb314) (o := .cells #[.int .i64 0, .slice none 0 0] 40 (0, 0)) (by (with_reducible repeat (first | refine blk_drewN ?_ _ | refine blk_drew ?_ | refine blk_alloc ?_ _)); exact BK314.out) NB314_318.out (by simp)); have n2_ := Aside0.mk (Kd.R_lower ho0 (below_size (by repeat (first | (with_reducible first | exact HB.out | apply below_alloc | apply pw_below_drewN | apply below_drew1 | refine below_set ?_ (IsS80.ge HI318.out) | refine below_set ?_ GE313.out | refine below_set ?_ GE314.out) | exact HB.out)))); have n3_ := Aside0.mk (Kd.R_lower ho1 (below_size (by repeat (first | (with_reducible first | exact HB.out | apply below_alloc | apply pw_below_drewN | apply below_drew1 | refine below_set ?_ (IsS80.ge HI318.out) | refine below_set ?_ GE313.out | refine below_set ?_ GE314.out) | exact HB.out)))); have n4_ := Aside0.mk (hb); have n5_ := Aside0.mk (hi); clear BK313; clear BK314; clear HB; clear HI318; have BK313 := n0_; have BK314 := n1_; have HO322 := n2_; have HO326 := n3_; have HB := n4_; have HI318 := n5_; clear n0_ n1_ n2_ n3_ n4_ n5_; (try clear hb); (try clear hb2); (try clear hk); (try clear hi); (try clear ho0); (try clear ho1); have hnb8 := NB313_314.out; have hnc8 := NB314_313.out; have hnb9 := NB313_318.out; have hnc9 := NB318_313.out; have hcz10_0 : w7.cell? ⟨gb313, 0, none⟩ = some (.int .i64 0) := (blk_cell BK313.out 0).trans rfl; have hcz10_1 : w7.cell? ⟨gb313, 1, none⟩ = some (.slice none 0 0) := (blk_cell BK313.out 1).trans rfl; have hfz10_0 := blk_frozen BK313.out 0; have hfz10_1 := blk_frozen BK313.out 1; obtain ⟨Ao11, co11, eo11⟩ := Kd.R_slice HO322.out; subst eo11; have hnb12 := NB314_318.out; have hnc12 := NB318_314.out; have hcz13_0 : w7.cell? ⟨gb314, 0, none⟩ = some (.int .i64 0) := (blk_cell BK314.out 0).trans rfl; have hcz13_1 : w7.cell? ⟨gb314, 1, none⟩ = some (.slice none 0 0) := (blk_cell BK314.out 1).trans rfl; have hfz13_0 := blk_frozen BK314.out 0; have hfz13_1 := blk_frozen BK314.out 1; obtain ⟨Ao14, co14, eo14⟩ := Kd.R_slice HO326.out; subst eo14))
  refine bodyPost_ret (results_cc rfl _ _ gb313 gb314 40 40 #[.int .i64 t319, .slice Ao11 t320.length co11] #[.int .i64 t323, .slice Ao14 t324.length co14] (0, 0) (0, 0) _ _ rfl (by (with_reducible repeat (first | refine blk_drewN ?_ _ | refine blk_drew ?_ | refine blk_alloc ?_ _)); refine blk_far ?_ NB313_314.out _; (with_reducible repeat (first | refine blk_drewN ?_ _ | refine blk_drew ?_ | refine blk_alloc ?_ _)); refine blk_far ?_ NB313_314.out _; (with_reducible repeat (first | refine blk_drewN ?_ _ | refine blk_drew ?_ | refine blk_alloc ?_ _)); refine blk_put (cs := #[.int .i64 t319, .slice none 0 0]) ?_ 1 _ rfl; (with_reducible repeat (first | refine blk_drewN ?_ _ | refine blk_drew ?_ | refine blk_alloc ?_ _)); refine blk_put (cs := #[.int .i64 0, .slice none 0 0]) ?_ 0 _ rfl; (with_reducible repeat (first | refine blk_drewN ?_ _ | refine blk_drew ?_ | refine blk_alloc ?_ _)); exact BK313.out) Try.underlying40 rfl (by kernel_rfl) rfl (by (with_reducible repeat (first | refine blk_drewN ?_ _ | refine blk_drew ?_ | refine blk_alloc ?_ _)); refine blk_put (cs := #[.int .i64 t323, .slice none 0 0]) ?_ 1 _ rfl; (with_reducible repeat (first | refine blk_drewN ?_ _ | refine blk_drew ?_ | refine blk_alloc ?_ _)); refine blk_put (cs := #[.int .i64 0, .slice none 0 0]) ?_ 0 _ rfl; (with_reducible repeat (first | refine blk_drewN ?_ _ | refine blk_drew ?_ | refine blk_alloc ?_ _)); refine blk_far ?_ NB314_313.out _; (with_reducible repeat (first | refine blk_drewN ?_ _ | refine blk_drew ?_ | refine blk_alloc ?_ _)); refine blk_far ?_ NB314_313.out _; (with_reducible repeat (first | refine blk_drewN ?_ _ | refine blk_drew ?_ | refine blk_alloc ?_ _)); exact BK314.out) Try.underlying40 rfl (by kernel_rfl)) rfl ?_
  exact ⟨_, _, by first | rfl | (simp [errW_none, errW_some] <;> rfl) | (simp [*, errW_none, errW_some] <;> rfl), by (with_reducible repeat (first | apply Kd.R_alloc | apply Kd.R_drewN | apply Kd.R_drew)); exact Kd.R_mono (Kd.R_far (p := ⟨gb314, 1, none⟩) (Kd.R_far (p := ⟨gb314, 0, none⟩) (Kd.R_far (p := ⟨gb313, 1, none⟩) (Kd.R_far (p := ⟨gb313, 0, none⟩) (Kd.R_types (Kd.R_types HO322.out BK313.out (by decide)) BK314.out (by decide)) (fun _ hk => hk.1.2) (.int .i64 t319)) (fun _ hk => hk.1.2) (.slice Ao11 t320.length co11)) (fun _ hk => hk.2) (.int .i64 t323)) (fun _ hk => hk.2) (.slice Ao14 t324.length co14)) (fun _ hk => hk.1.1), by (with_reducible repeat (first | apply Kd.R_alloc | apply Kd.R_drewN | apply Kd.R_drew)); exact Kd.R_mono (Kd.R_far (p := ⟨gb314, 1, none⟩) (Kd.R_far (p := ⟨gb314, 0, none⟩) (Kd.R_far (p := ⟨gb313, 1, none⟩) (Kd.R_far (p := ⟨gb313, 0, none⟩) (Kd.R_types (Kd.R_types HO326.out BK313.out (by decide)) BK314.out (by decide)) (fun _ hk => hk.1.2) (.int .i64 t319)) (fun _ hk => hk.1.2) (.slice Ao11 t320.length co11)) (fun _ hk => hk.2) (.int .i64 t323)) (fun _ hk => hk.2) (.slice Ao14 t324.length co14)) (fun _ hk => hk.1.1), by repeat (first | (with_reducible first | exact HB.out | apply below_alloc | apply pw_below_drewN | apply below_drew1 | refine below_set ?_ (IsS80.ge HI318.out) | refine below_set ?_ GE313.out | refine below_set ?_ GE314.out) | exact HB.out)⟩

/-! ### spec_DrawProgramMs: function 19 -/
def spec_DrawProgramMs.f (k : Nat) (l0 : List Int) : Option ((List (S40)) × Int) := (spec_l1New.f k l0).bind fun bt329 => ((spec_l38Any.f k bt329.1 bt329.2.1 bt329.2.2).bind fun bt333 => ((spec_l1Int.f bt329.1 bt333.2.1 bt333.2.2 (([0, 100, 10000000, 10000001, (-1)] : List Int))).bind fun bt341 => (some (bt333.1, bt341.1))))
theorem spec_DrawProgramMs.mono : ∀ a0 k, LeO (spec_DrawProgramMs.f k a0) (spec_DrawProgramMs.f (k + 1) a0) := by
  intro a0 k
  unfold spec_DrawProgramMs.f
  repeat' first
      | (with_reducible exact spec_l1New.mono _ _)
      | (with_reducible exact spec_l38Any.mono _ _ _ _)
      | (with_reducible exact LeO.refl _)
      | (with_reducible exact LeO.none _)
      | (with_reducible refine LeO.ite ?_ ?_)
      | (with_reducible refine LeO.bind ?_ (fun _ => ?_))
      | exact spec_l1New.mono _ _
      | exact spec_l38Any.mono _ _ _ _
      | exact LeO.none _
      | refine LeO.ite ?_ ?_
      | refine LeO.bind ?_ (fun _ => ?_)
set_option maxHeartbeats 8000000 in
set_option maxRecDepth 100000 in
theorem spec_DrawProgramMs.calls (k : Nat) (A0 : Option Addr) (c0 : Nat) (l0 : List Int) (r1 : List (S40)) (r2 : Int) (w : World) (hr0 : Kd.C (Kd.int .u8) w A0 l0.length l0) (hc0 : l0.length ≤ c0) (h : spec_DrawProgramMs.f k l0 = some (r1, r2)) :
    Calls Try.prog 19 #[.slice A0 l0.length c0] w fun e w' => ∃ v0_ : Value, e = .returned (.tuple #[v0_, .int .i64 r2]) ∧ Kd.S k40 40 w' w.heap.size (fun _ => True) v0_ r1 ∧ Below w.heap.size w w' := by
  have HR0 := Aside0.mk hr0
  have HC0 := Aside0.mk hc0
  clear hr0 hc0
  have HB := Aside0.mk (Below.refl w.heap.size w)
  have H : ((spec_l1New.f k l0).bind fun bt329 => ((spec_l38Any.f k bt329.1 bt329.2.1 bt329.2.2).bind fun bt333 => ((spec_l1Int.f bt329.1 bt333.2.1 bt333.2.2 (([0, 100, 10000000, 10000001, (-1)] : List Int))).bind fun bt341 => (some (bt333.1, bt341.1))))) = some (r1, r2) := h
  clear h
  replace H := Option.bind_eq_some_iff.mp H
  obtain ⟨⟨t329, t330, t331⟩, A20, H⟩ := H
  replace H : ((spec_l38Any.f k t329 t330 t331).bind fun bt333 => ((spec_l1Int.f t329 bt333.2.1 bt333.2.2 (([0, 100, 10000000, 10000001, (-1)] : List Int))).bind fun bt341 => (some (bt333.1, bt341.1)))) = some (r1, r2) := H
  have A2 := Aside0.mk A20
  clear A20
  replace H := Option.bind_eq_some_iff.mp H
  obtain ⟨⟨t333, t336, t337⟩, A30, H⟩ := H
  replace H : ((spec_l1Int.f t329 t336 t337 (([0, 100, 10000000, 10000001, (-1)] : List Int))).bind fun bt341 => (some (t333, bt341.1))) = some (r1, r2) := H
  have A3 := Aside0.mk A30
  clear A30
  obtain ⟨y338, hy338⟩ : ∃ y_ : List Int, y_ = (([0, 100, 10000000, 10000001, (-1)] : List Int)) := ⟨_, rfl⟩
  replace H : ((spec_l1Int.f t329 t336 t337 y338).bind fun bt341 => (some (t333, bt341.1))) = some (r1, r2) := by first | (rw [hy338]; with_reducible exact H) | (have H2_ := (Option.bind_some _ _).symm.trans H; rw [hy338]; with_reducible exact H2_) | (have H2_ := (Option.bind_some _ _).symm.trans H; with_reducible exact H2_) | with_reducible exact H | (rw [hy338]; exact H) | exact H
  have Ny338 := Aside0.mk hy338
  clear hy338
  replace H := Option.bind_eq_some_iff.mp H
  obtain ⟨⟨t341, t342, t343⟩, A40, H⟩ := H
  replace H : (some (t333, t341)) = some (r1, r2) := H
  have A4 := Aside0.mk A40
  clear A40
  simp only [Option.some.injEq, Prod.mk.injEq] at H
  obtain ⟨rfl, rfl⟩ := H
  go_enter Try.func19, Try.ntmps19
  go_wp2_with (first | ((with_reducible refine gate_callee (f := 30) rfl ?_); refine goesL_ (some 7) rfl rfl Try.func30 (by kernel_rfl) rfl #[.slice A0 l0.length c0] rfl (by (try simp only [List.map_toArray, List.map_cons, List.map_nil]); first | done | rfl | (simp only [List.length_drop, List.length_take]; rfl)) ?_; (with_reducible refine (spec_l1New.calls k _ _ l0 t329 t330 t331 w _ ?side1 ?side2 ?side3 A2.out).mono ?_); (case side1 => repeat (first | (with_reducible first | exact HB.out | apply below_alloc | apply pw_below_drewN | apply below_drew1) | exact HB.out)); (case side2 => exact HR0.out); (case side3 => exact HC0.out); rintro e w5 ⟨g332, rfl, hi, hb, hb2⟩; refine ⟨_, rfl, ?_⟩; have n0_ := Aside0.mk (hb); have n1_ := Aside0.mk (hi); clear HB; have HB := n0_; have HI332 := n1_; clear n0_ n1_; (try clear hb); (try clear hb2); (try clear hk); (try clear hi)) | ((with_reducible refine gate_callee (f := 43) rfl ?_); refine goesL_ (some 9) rfl rfl Try.func43 (by kernel_rfl) rfl #[.pointer (some ⟨g332, 0, none⟩)] rfl (by (try simp only [List.map_toArray, List.map_cons, List.map_nil]); first | done | rfl | (simp only [List.length_drop, List.length_take]; rfl)) ?_; (with_reducible refine (spec_l38Any.calls k g332 t329 t330 t331 t333 t336 t337 w _ ?side1 ?side2 A3.out).mono ?_); (case side1 => repeat (first | (with_reducible first | exact HI332.out | apply IsS80.alloc | apply IsS80.drewN | apply IsS80.drew | apply IsS80.set_1 | apply IsS80.set_2) | exact HI332.out)); (case side2 => repeat (first | (with_reducible first | exact HB.out | apply below_alloc | apply pw_below_drewN | apply below_drew1 | refine below_set ?_ (IsS80.ge HI332.out)) | exact HB.out)); rintro e w6 ⟨v334, rfl, ho0, hi, hb, hk⟩; refine ⟨_, rfl, ?_⟩; have n0_ := Aside0.mk (Kd.S_lower ho0 (below_size (by repeat (first | (with_reducible first | exact HB.out | apply below_alloc | apply pw_below_drewN | apply below_drew1 | refine below_set ?_ (IsS80.ge HI332.out)) | exact HB.out)))); have n1_ := Aside0.mk (hb); have n2_ := Aside0.mk (hi); clear HB; clear HI332; have HO335 := n0_; have HB := n1_; have HI332 := n2_; clear n0_ n1_ n2_; (try clear hb); (try clear hb2); (try clear hk); (try clear hi); (try clear ho0)) | ((with_reducible refine gate_dst (N := 12) rfl ?_); refine Kd.R_lit (Kd.int .i64) _ 3 ?hg (N := 12) ?hd (xs := ([0, 100, 10000000, 10000001, (-1)] : List Int)) (inner := [.int .i64 0, .int .i64 100, .int .i64 10000000, .int .i64 10000001, .int .i64 (-1)]) (ok := fun _ => True) (okp := fun _ => True) ?hr ?hp (fun _ hk => hk) trivial (Below.refl _ _) (Nat.le_refl _) (by simp) ?_; (case hd => rfl); (case hg => rfl); (case hr => first | (go_simp; done) | (go_simp; rfl)); (case hp => exact (Reps.one (show Kd.M (Kd.int .i64) _ _ _ 0 [.int .i64 0] from rfl) (Reps.one (show Kd.M (Kd.int .i64) _ _ _ 100 [.int .i64 100] from rfl) (Reps.one (show Kd.M (Kd.int .i64) _ _ _ 10000000 [.int .i64 10000000] from rfl) (Reps.one (show Kd.M (Kd.int .i64) _ _ _ 10000001 [.int .i64 10000001] from rfl) (Reps.one (show Kd.M (Kd.int .i64) _ _ _ (-1) [.int .i64 (-1)] from rfl) (Reps.none _ _))))))); intro v339 w7 ho8 hb hg_ hnew_; clear hg_ hnew_; (first | rw [← Ny338.out] at ho8 | (simp only [Int.reduceToNat] at ho8; rw [← Ny338.out] at ho8)); have n0_ := Aside0.mk (Kd.S_elder' (by (with_reducible repeat (first | apply Kd.S_alloc | apply Kd.S_drewN | apply Kd.S_drew)); exact HO335.out) (Kd.R_base ho8) hb); have n1_ := Aside0.mk (Kd.R_lower ho8 (below_size (by repeat (first | (with_reducible first | exact HB.out | apply below_alloc | apply pw_below_drewN | apply below_drew1 | refine below_set ?_ (IsS80.ge HI332.out)) | exact HB.out)))); have n2_ := Aside0.mk (IsS80.below (by repeat (first | (with_reducible first | exact HI332.out | apply IsS80.alloc | apply IsS80.drewN | apply IsS80.drew | apply IsS80.set_1 | apply IsS80.set_2) | exact HI332.out)) hb); have n3_ := Aside0.mk (below_step (by repeat (first | (with_reducible first | exact HB.out | apply below_alloc | apply pw_below_drewN | apply below_drew1 | refine below_set ?_ (IsS80.ge HI332.out)) | exact HB.out)) hb); clear HO335; clear HI332; clear HB; have HO335 := n0_; have HO340 := n1_; have HI332 := n2_; have HB := n3_; clear n0_ n1_ n2_ n3_; clear hb ho8; obtain ⟨Ao9, co9, eo9⟩ := Kd.R_slice HO340.out; subst eo9) | ((with_reducible refine gate_callee (f := 32) rfl ?_); refine goesL_ (some 13) rfl rfl Try.func32 (by kernel_rfl) rfl #[.pointer (some ⟨g332, 0, none⟩), .slice Ao9 y338.length co9] rfl (by (try simp only [List.map_toArray, List.map_cons, List.map_nil]); first | done | rfl | (simp only [List.length_drop, List.length_take]; rfl)) ?_; (with_reducible refine (spec_l1Int.calls g332 t329 t336 t337 _ _ y338 t341 t342 t343 w _ ?side1 ?side2 ?side3 ?side4 ?side5 A4.out).mono ?_); (case side1 => repeat (first | (with_reducible first | exact HI332.out | apply IsS80.alloc | apply IsS80.drewN | apply IsS80.drew | apply IsS80.set_1 | apply IsS80.set_2) | exact HI332.out)); (case side2 => repeat (first | (with_reducible first | exact HB.out | apply below_alloc | apply pw_below_drewN | apply below_drew1 | refine below_set ?_ (IsS80.ge HI332.out)) | exact HB.out)); (case side3 => repeat (first | exact (Kd.R_reads' HO340.out).2.2 | (with_reducible refine Kd.C_alloc ?_ _) | (with_reducible refine Kd.C_drewN ?_ _) | (with_reducible refine Kd.C_drew ?_))); (case side4 => exact (Kd.R_reads' HO340.out).2.1); (case side5 => exact far_slice (IsS80.own_ne HI332.out HO340.out (by decide))); rintro e w10 ⟨rfl, hi, hb, hk⟩; refine ⟨_, rfl, ?_⟩; have n0_ := Aside0.mk (Kd.S_mono (Kd.S_keep (IsS80.apartS (show IsS80 w _ g332 t329 t336 t337 from by repeat (first | (with_reducible first | exact HI332.out | apply IsS80.alloc | apply IsS80.drewN | apply IsS80.drew | apply IsS80.set_1 | apply IsS80.set_2) | exact HI332.out)) (by (with_reducible repeat (first | apply Kd.S_alloc | apply Kd.S_drewN | apply Kd.S_drew)); exact HO335.out) (by decide)) hk (fun _ h => h.2)) (fun _ h => h.1)); have n1_ := Aside0.mk (Kd.R_mono (Kd.R_keep (IsS80.apart (show IsS80 w _ g332 t329 t336 t337 from by repeat (first | (with_reducible first | exact HI332.out | apply IsS80.alloc | apply IsS80.drewN | apply IsS80.drew | apply IsS80.set_1 | apply IsS80.set_2) | exact HI332.out)) (by (with_reducible repeat (first | apply Kd.R_alloc | apply Kd.R_drewN | apply Kd.R_drew)); exact HO340.out) (by decide)) hk (fun _ h => h.2)) (fun _ h => h.1)); have n2_ := Aside0.mk (hb); have n3_ := Aside0.mk (hi); clear HO335; clear HO340; clear HB; clear HI332; have HO335 := n0_; have HO340 := n1_; have HB := n2_; have HI332 := n3_; clear n0_ n1_ n2_ n3_; (try clear hb); (try clear hb2); (try clear hk); (try clear hi)))
  go_ret2
  exact ⟨_, by first | rfl | (simp [errW_none, errW_some] <;> rfl) | (simp [*, errW_none, errW_some] <;> rfl), by (with_reducible repeat (first | apply Kd.S_alloc | apply Kd.S_drewN | apply Kd.S_drew)); exact Kd.S_mono HO335.out (fun _ hk => trivial), by repeat (first | (with_reducible first | exact HB.out | apply below_alloc | apply pw_below_drewN | apply below_drew1 | refine below_set ?_ (IsS80.ge HI332.out)) | exact HB.out)⟩

end Go.Proofs.Ytdbmllbphbhfpaa.POrd
