-- By this session's own program over the kit's print; every row is checked by Lean.
import Derived.Test.YtdbmllbphbhfpaaPBo0
import Derived.Test.YtdbmllbphbhfpaaPBo1
import Derived.Test.YtdbmllbphbhfpaaPBo2
namespace Go.Proofs.Ytdbmllbphbhfpaa.PBo
open Go.RowKit Go.Proofs.YtdbmllbphbhfpaaW.PrintWords Go.Proofs.YtdbmllbphbhfpaaW.PrintLast Go.Proofs.YtdbmllbphbhfpaaW.PrintMore
attribute [local go_sem] max2_int min2_int max_two min_two max_three min_three max_four min_four   -- for this text's walks alone
set_option linter.unusedVariables false
set_option linter.unusedSimpArgs false

/-! ### impl_BestOrder: function 14 (by hand) -/
namespace impl_BestOrder_w
mutual
def ext : Nat → List S40 → List Int → List Int → Int → Option (List Int × Int)
  | 0, _, _, _, _ => none
  | k + 1, l, order, best, least => if order.length = l.length then (impl_OrderCost.f k l order).bind fun c => (if least < 0 then (impl_clone_int.f order).bind fun o => some (o, c) else if c < least then (impl_clone_int.f order).bind fun o => some (o, c) else some (best, least)) else loop k l order best least 0
def loop : Nat → List S40 → List Int → List Int → Int → Int → Option (List Int × Int)
  | 0, _, _, _, _, _ => none
  | k + 1, l, order, best, least, i => if i < (l.length : Int) then (slices_Contains_int_int.f k order i).bind fun b => (if b = true then loop k l order best least (i + 1) else (if order.length < 17592186044416 then (ext k l (order ++ [i]) best least).bind fun r => loop k l order r.1 r.2 (i + 1) else none)) else some (best, least)
end
/-- The four variables, the order at hand, the best so far. -/
structure St (w0 W : World) (gl gq gb ge : Nat) (A0 : Option Addr) (c0 : Nat) (l : List S40) (v : Value) (order : List Int) (vb : Value) (best : List Int) (least : Int) : Prop where
  B : Below w0.heap.size w0 W
  hl : W.heap[gl]? = some (.cells #[.slice A0 l.length c0] 33 (0, 0))
  hq : W.heap[gq]? = some (.cells #[.int .i64 least] 3 (0, 0))
  hb : W.heap[gb]? = some (.cells #[vb] 25 (0, 0))
  he : W.heap[ge]? = some (.cells #[.func (.func 44) #[] #[.pointer (some ⟨gl, 0, none⟩), .pointer (some ⟨gq, 0, none⟩), .pointer (some ⟨gb, 0, none⟩), .pointer (some ⟨ge, 0, none⟩)]] 65 (0, 0))
  ro : Kd.R (Kd.int .i64) 3 W w0.heap.size (fun k => k ≠ gq ∧ some k ≠ vb.ownBlock) v order
  rb : Kd.R (Kd.int .i64) 3 W w0.heap.size (fun k => k ≠ gq) vb best
/-- What has been kept. -/
structure Fr (W W' : World) (gq gb : Nat) (v vb vb' : Value) : Prop where
  size : W.heap.size ≤ W'.heap.size
  keep : ∀ j, j < W.heap.size → j ≠ gq → j ≠ gb → some j ≠ v.ownBlock → W'.heap[j]? = W.heap[j]?
  new : vb' = vb ∨ ∀ j, vb'.ownBlock = some j → W.heap.size ≤ j
theorem Fr.refl (W : World) (gq gb : Nat) (v vb : Value) : Fr W W gq gb v vb vb := ⟨Nat.le_refl _, fun _ _ _ _ _ => rfl, .inl rfl⟩
theorem Fr.trans {W W1 W2 : World} {gq gb : Nat} {v vb vb1 vb2 : Value} (h : Fr W W1 gq gb v vb vb1) (k : Fr W1 W2 gq gb v vb1 vb2) : Fr W W2 gq gb v vb vb2 := by
  refine ⟨Nat.le_trans h.size k.size, fun j h1 h2 h3 h4 => (k.keep j (Nat.lt_of_lt_of_le h1 h.size) h2 h3 h4).trans (h.keep j h1 h2 h3 h4), ?_⟩
  rcases k.new with e | hn
  · rw [e]; exact h.new
  · exact .inr fun j hj => Nat.le_trans h.size (hn j hj)
/-- A world that only grew. -/
theorem St.grow {w0 W W1 : World} {gl gq gb ge : Nat} {A0 : Option Addr} {c0 : Nat} {l : List S40} {v vb : Value} {order best : List Int} {least : Int} (h : St w0 W gl gq gb ge A0 c0 l v order vb best least) (hb : Below W.heap.size W W1) : St w0 W1 gl gq gb ge A0 c0 l v order vb best least :=
  ⟨below_step h.B hb, blk_below h.hl hb, blk_below h.hq hb, blk_below h.hb hb, blk_below h.he hb, Kd.R_below h.ro hb, Kd.R_below h.rb hb⟩
theorem Fr.grow {W W1 : World} (gq gb : Nat) (v vb : Value) (hb : Below W.heap.size W W1) : Fr W W1 gq gb v vb vb := ⟨hb.size, fun j h _ _ _ => hb.block j h, .inl rfl⟩

/-- An order's row is its block's head, whatever lies behind. -/
theorem R_int_of {w : World} {base g n cap : Nat} {ok : Nat → Prop} {xs : List Int} {cur : Array Value} (hok : ok g) (hb : base ≤ g) (hh : w.heap[g]? = some (.cells cur 3 (0, 0))) (hn : xs.length = n) (hc : n ≤ cap) (hm : cap ≤ maxLen) (hs : cur.size = cap) (ht : cur.toList.take n = xs.map (Value.int .i64)) : Kd.R (Kd.int .i64) 3 w base ok (.slice (some ⟨g, 0, none⟩) n cap) xs := by
  subst hn
  refine Kd.R_of_own ⟨by simp [encs], .inr ⟨g, cap, cur, rfl, hb, hh, hc, hm, by rw [hs, Nat.mul_one], by rw [Nat.mul_one]; exact ht⟩⟩ (fun k hk => ?_)
  have : g = k := by simpa [Value.ownBlock] using hk
  exact this ▸ hok
theorem int_of_R {w : World} {base n cap : Nat} {A : Option Addr} {ok : Nat → Prop} {xs : List Int} (h : Kd.R (Kd.int .i64) 3 w base ok (.slice A n cap) xs) : xs.length = n ∧ ((A = none ∧ n = 0 ∧ cap = 0) ∨ ∃ g cur, A = some ⟨g, 0, none⟩ ∧ ok g ∧ base ≤ g ∧ w.heap[g]? = some (.cells cur 3 (0, 0)) ∧ n ≤ cap ∧ cap ≤ maxLen ∧ cur.size = cap ∧ cur.toList.take n = xs.map (Value.int .i64)) := by
  have h0 := h.1
  obtain ⟨hl, h⟩ := Kd.own_of_R h
  rcases h with ⟨he, hn⟩ | ⟨g, cap', cur, he, hb, hh, hc, hm, hs, ht⟩
  · injection he with e1 e2 e3
    exact ⟨by omega, .inl ⟨e1, e2, e3⟩⟩
  · injection he with e1 e2 e3
    subst e1 e3
    refine ⟨e2.symm, .inr ⟨g, cur, rfl, h0 g (by simp [Value.ownBlock]), hb, hh, by omega, hm, by simpa using hs, ?_⟩⟩
    rw [e2]
    simpa [encs] using ht
theorem step_append_int {P : Program} {ops : Array Oper} {o : Oper} {a : Act} {w : World} {K : Act → World → Prop} {Q : Exit → Act → World → Prop} {E : Prop}
    (hg : o.guard = none) (s x : Operand) (t : TypeId) (hop : o.op = Op.call { callee := Callee.builtin Builtin.append, args := #[s, x], argTypes := #[t, t] })
    (h1 : P.underlying t = some (.slice 3)) (hinfo : (P.info? 3).map (fun i => (i.zero, i.size, i.bytes)) = some (some (.int .i64 0), 1, 8))
    (base : Nat) (ok : Nat → Prop) (A : Option Addr) (n c0 : Nat) (xs : List Int) (y : Int) (ad : Addr) (c : Nat) (hs : a.eval s = .slice A n c0) (hx : a.eval x = .slice (some ad) 1 c)
    (hR : Kd.R (Kd.int .i64) 3 w base ok (.slice A n c0) xs) (hc : w.cell? ad = some (.int .i64 y)) (hfresh : ∀ k, w.heap.size ≤ k → ok k) (hbase : base ≤ w.heap.size) (hl : xs.length < 17592186044416)
    (h : ∀ v1 w1, Kd.R (Kd.int .i64) 3 w1 base ok v1 (xs ++ [y]) → (∀ W', Kd.R (Kd.int .i64) 3 W' base ok v1 (xs ++ [y]) → (∀ k, (Value.slice A n c0).ownBlock = some k → v1.ownBlock ≠ some k → W'.heap[k]? = w1.heap[k]?) → Kd.R (Kd.int .i64) 3 W' base ok (.slice A n c0) xs) → w.grownBy w1 (Value.slice A n c0).ownBlock → (v1.ownBlock = (Value.slice A n c0).ownBlock ∨ ∃ b, v1.ownBlock = some b ∧ w.heap.size ≤ b) → K (a.put o.dst v1) w1) :
    if Region.wanted o (yielded ops a.tmps) = true then Oper.wp P o a w K Q else E := by
  obtain ⟨i0, hi0, hz0, hsz, hby⟩ := info_parts hinfo
  obtain ⟨hn, hA⟩ := int_of_R hR
  have h1c : ∀ u ∈ [Value.int .i64 y], u.oneCell' = true := by intro u hu; simp at hu; subst hu; rfl
  have hcc : ∀ (j : Nat) u, [Value.int .i64 y][j]? = some u → w.cell? (ad.add j) = some u := by
    intro j u hj
    cases j with
    | zero => simp at hj; subst hj; first | exact hc | (have e : ad.add 0 = ad := (by unfold Addr.add; cases ad; simp); rw [e]; exact hc)
    | succ j => simp at hj
  have hb0 : ∀ k, (Value.slice A n c0).ownBlock = some k → ok k := hR.1
  have grows (hlt : c0 < n + 1) (hnone : A = none → n = 0 ∧ c0 = 0) (olds : List Value) (ho : olds = xs.map (Value.int .i64)) (hold : ∀ b, A = some b → ∀ j u, olds[j]? = some u → w.cell? (b.add j) = some u) : if Region.wanted o (yielded ops a.tmps) = true then Oper.wp P o a w K Q else E := by
    refine step_append_grows hg s x t hop 3 i0 (.int .i64 0) 1 8 h1 hi0 hz0 hsz hby rfl (by decide) A n c0 olds hs hnone (by simp [ho, hn]) hold ad 1 c [.int .i64 y] hx rfl hcc h1c hlt (by unfold maxLen; omega) (by omega) ?_
    intro v1 w1 hown hgr
    have hR1 : Kd.R (Kd.int .i64) 3 w1 base ok v1 (xs ++ [y]) := by
      refine Kd.R_of_own ?_ (fun k hk => hfresh k (own_base hown k hk))
      refine own_less (b := w.heap.size) ?_ hbase
      have e : encs (Value.int .i64) (xs ++ [y]) = olds ++ [.int .i64 y] := by simp [encs, ho]
      rw [e, show (xs ++ [y]).length = n + 1 by simp [hn]]
      exact hown
    refine h v1 w1 hR1 (fun W' hW hk => ?_) ⟨hgr.os, hgr.tape, hgr.output, hgr.size, fun i hi _ => hgr.block i hi (by simp)⟩ ?_
    · have h0 : Kd.R (Kd.int .i64) 3 w1 base ok (.slice A n c0) xs := Kd.R_grown hR hgr (fun _ _ => by simp)
      refine Kd.R_of_own (own_move (Kd.own_of_R h0) fun k e => hk k e ?_) h0.1
      intro e2
      have h3 := own_base hown k e2
      have h4 := Kd.R_lt hR k e
      omega
    · by_cases hv : v1.ownBlock = none
      · rcases hown.2 with ⟨_, hz⟩ | ⟨g, cap, cur, rfl, _⟩
        · omega
        · simp [Value.ownBlock] at hv
      · obtain ⟨b, hb⟩ := Option.ne_none_iff_exists'.1 hv
        exact .inr ⟨b, hb, own_base hown b hb⟩
  rcases hA with ⟨rfl, rfl, rfl⟩ | ⟨g, cur, rfl, hgok, hbg, hh, hnc, hm, hcs, ht⟩
  · have hx0 : xs = [] := List.length_eq_zero_iff.1 hn
    subst hx0
    exact grows (by omega) (fun _ => ⟨rfl, rfl⟩) [] rfl (fun b hb => by cases hb)
  · have hfull : ∀ j u, (xs.map (Value.int .i64))[j]? = some u → w.cell? ((⟨g, 0, none⟩ : Addr).add j) = some u := by
      intro j u hj
      rw [add_plain, blk_cell hh]
      rw [← ht] at hj
      rw [List.getElem?_take] at hj
      split at hj
      · rwa [Array.getElem?_toList] at hj
      · cases hj
    by_cases hroom : n + 1 ≤ c0
    · refine step_append_room hg s x t hop 3 i0 1 h1 hi0 hsz g 0 n c0 hs ad 1 c [.int .i64 y] hx rfl hcc h1c hroom (fun j hj => ?_) ?_
      · simp at hj
        subst hj
        refine ⟨?_, by simp [World.frozen?, hh]⟩
        rw [blk_cell hh]
        simp
        omega
      · have hw1 : (w.setCells g (0 + n * 1) [Value.int .i64 y]).heap[g]? = some (.cells (cur.setIfInBounds n (.int .i64 y)) 3 (0, 0)) := by
          simp only [World.setCells, Nat.zero_add, Nat.mul_one]
          exact blk_set hh n _
        have hR1 : Kd.R (Kd.int .i64) 3 (w.setCells g (0 + n * 1) [Value.int .i64 y]) base ok (.slice (some ⟨g, 0, none⟩) (n + 1) c0) (xs ++ [y]) := by
          refine R_int_of hgok hbg hw1 (by simp [hn]) hroom hm (by simp [hcs]) ?_
          have hlt : n < (cur.setIfInBounds n (Value.int .i64 y)).toList.length := by simp; omega
          rw [List.take_succ_eq_append_getElem hlt]
          simp only [Array.toList_setIfInBounds, List.getElem_set_self, List.map_append, List.map_cons, List.map_nil]
          rw [List.take_set_of_le (Nat.le_refl _), ht]
        have hgr : w.grownBy (w.setCells g (0 + n * 1) [Value.int .i64 y]) (some g) := by
          obtain ⟨e1, e2, e3, e4⟩ := setCells_same g [Value.int .i64 y] (0 + n * 1) w
          exact ⟨e1, e2, e3, by rw [e4]; exact Nat.le_refl _, fun i hi hne => setCells_far _ _ i (fun e => hne (by rw [e]))⟩
        refine h _ _ hR1 (fun W' hW _ => ?_) hgr (.inl rfl)
        obtain ⟨hn1, hA1⟩ := int_of_R hW
        rcases hA1 with ⟨e, _⟩ | ⟨g', cur', e, hok', hb', hh', hc', hm', hs', ht'⟩
        · cases e
        · injection e with e
          injection e with e _
          subst e
          refine R_int_of hok' hb' hh' hn hnc hm' hs' ?_
          have := congrArg (List.take n) ht'
          rw [List.take_take, List.map_append, List.take_append_of_le_length (by simp [hn])] at this
          rw [show min n (n + 1) = n by omega] at this
          rw [this, List.take_of_length_le (by simp [hn])]
    · exact grows (by omega) (fun e => by cases e) _ rfl (fun b hb => by injection hb with hb; subst hb; exact hfull)

/-- A call through a function value, as one step of a region. -/
theorem goesV_ {P : Program} {ops : Array Oper} {Q : Exit → Act → World → Prop} {E : Prop} {oi : Oper} {N : Option Tmp} {a : Act} {w : World} {K : Act → World → Prop} {f : FuncId} {fn : Func} {cal : Operand} {bs : Array Operand} {ts : Array TypeId} {caps : Array Value} (hf : P.funcs[f]? = some fn) (hname : (fn.name == "runtime.NumGoroutine") = false) (hb : fn.body.isSome = true) (args : Array Value)
    (hg : oi.guard = none) (hN : oi.dst = N) (hop : oi.op = .call { callee := .value cal, args := bs, argTypes := ts }) (hc : a.eval cal = .func (.func f) #[] caps) (hargs : bs.map a.eval ++ caps = args)
    (h : Calls P f args w fun e w' => ∃ v, e = .returned v ∧ K (a.put N v) w') : if Region.wanted oi (yielded ops a.tmps) = true then Oper.wp P oi a w K Q else E := by
  have hw : Region.wanted oi (yielded ops a.tmps) = true := by simp [Region.wanted, hg]
  rw [if_pos hw]
  have he := enters_ hf hname hb args w
  have hrun : (execOp a.eval oi).run P w = .ok (.enter f args) w := by
    unfold execOp
    simp [hop, resolve, Deferred.ofValue, invoke, hc]
    rw [hargs]
    simp [he]
  unfold Oper.wp
  rw [hrun, Oper.upon_enter]
  refine h.mono fun e w'' hh => ?_
  obtain ⟨v, rfl, hk⟩ := hh
  subst hN
  exact hk

theorem R_ok_of {w : World} {base n cap : Nat} {A : Option Addr} {ok ok' : Nat → Prop} {xs : List Int} (h : Kd.R (Kd.int .i64) 3 w base ok (.slice A n cap) xs) (hk : ∀ k, (Value.slice A n cap).ownBlock = some k → ok' k) : Kd.R (Kd.int .i64) 3 w base ok' (.slice A n cap) xs := Kd.R_of_own (by have := Kd.own_of_R h; exact this) hk
/-- Behind an append to the order. -/
theorem St.appended {w0 W w1 : World} {gl gq gb ge : Nat} {A0 : Option Addr} {c0 : Nat} {l : List S40} {v v1 vb : Value} {order best : List Int} {least y : Int} (h : St w0 W gl gq gb ge A0 c0 l v order vb best least)
    (hR : Kd.R (Kd.int .i64) 3 w1 w0.heap.size (fun k => k ≠ gq ∧ some k ≠ vb.ownBlock) v1 (order ++ [y])) (hg : W.grownBy w1 v.ownBlock) : St w0 w1 gl gq gb ge A0 c0 l v1 (order ++ [y]) vb best least := by
  have hne : ∀ {g t : Nat} {cells : Array Value}, W.heap[g]? = some (.cells cells t (0, 0)) → 3 ≠ t → some g ≠ v.ownBlock := fun hb ht => Kd.R_ne h.ro hb ht
  refine ⟨pw_below_grown h.B v.ownBlock h.B.size hg (fun k hk => Kd.R_base h.ro k hk), blk_grown h.hl hg (hne h.hl (by decide)), blk_grown h.hq hg ?_, blk_grown h.hb hg (hne h.hb (by decide)), blk_grown h.he hg (hne h.he (by decide)), hR, ?_⟩
  · intro e
    exact (h.ro.1 gq e.symm).1 rfl
  · refine Kd.R_of_own (own_move (Kd.own_of_R h.rb) fun k hk => hg.block k (Kd.R_lt h.rb k hk) ?_) h.rb.1
    intro e
    exact (h.ro.1 k e.symm).2 hk.symm
theorem Fr.appended {W w1 w2 : World} {gq gb : Nat} {v v1 vb vb' : Value} (hs : W.heap.size ≤ w1.heap.size) (hk1 : ∀ k, k < W.heap.size → some k ≠ v.ownBlock → w1.heap[k]? = W.heap[k]?) (hat : v1.ownBlock = v.ownBlock ∨ ∃ b, v1.ownBlock = some b ∧ W.heap.size ≤ b) (hF : Fr w1 w2 gq gb v1 vb vb') : Fr W w2 gq gb v vb vb' := by
  refine ⟨Nat.le_trans hs hF.size, fun j h1 h2 h3 h4 => (hF.keep j (Nat.lt_of_lt_of_le h1 hs) h2 h3 ?_).trans (hk1 j h1 h4), ?_⟩
  · rcases hat with e | ⟨b, e, hb⟩
    · rw [e]; exact h4
    · rw [e]; intro e2; injection e2 with e2; omega
  · rcases hF.new with e | hn
    · exact .inl e
    · exact .inr fun j hj => Nat.le_trans hs (hn j hj)

/-- Behind the call with the order that was appended to. -/
theorem St.back {w0 W Wm w1 w2 : World} {gl gq gb ge : Nat} {A0 Ao A1 : Option Addr} {c0 n co n1 c1 : Nat} {l : List S40} {vb vb2 : Value} {order best best2 : List Int} {least least2 y : Int} (hS : St w0 W gl gq gb ge A0 c0 l (.slice Ao n co) order vb best least)
    (hs : W.heap.size ≤ Wm.heap.size) (hm : ∀ k, k < W.heap.size → Wm.heap[k]? = W.heap[k]?)
    (hR1 : Kd.R (Kd.int .i64) 3 w1 w0.heap.size (fun k => k ≠ gq ∧ some k ≠ vb.ownBlock) (.slice A1 n1 c1) (order ++ [y]))
    (hback : ∀ W', Kd.R (Kd.int .i64) 3 W' w0.heap.size (fun k => k ≠ gq ∧ some k ≠ vb.ownBlock) (.slice A1 n1 c1) (order ++ [y]) → (∀ k, (Value.slice Ao n co).ownBlock = some k → (Value.slice A1 n1 c1).ownBlock ≠ some k → W'.heap[k]? = w1.heap[k]?) → Kd.R (Kd.int .i64) 3 W' w0.heap.size (fun k => k ≠ gq ∧ some k ≠ vb.ownBlock) (.slice Ao n co) order)
    (hgr : Wm.grownBy w1 (Value.slice Ao n co).ownBlock) (hat : (Value.slice A1 n1 c1).ownBlock = (Value.slice Ao n co).ownBlock ∨ ∃ b, (Value.slice A1 n1 c1).ownBlock = some b ∧ Wm.heap.size ≤ b)
    (hS2 : St w0 w2 gl gq gb ge A0 c0 l (.slice A1 n1 c1) (order ++ [y]) vb2 best2 least2) (hF2 : Fr w1 w2 gq gb (.slice A1 n1 c1) vb vb2) : St w0 w2 gl gq gb ge A0 c0 l (.slice Ao n co) order vb2 best2 least2 ∧ Fr W w2 gq gb (.slice Ao n co) vb vb2 := by
  have hne : ∀ {g t : Nat} {cells : Array Value}, W.heap[g]? = some (.cells cells t (0, 0)) → 3 ≠ t → some g ≠ (Value.slice Ao n co).ownBlock := fun hb ht => Kd.R_ne hS.ro hb ht
  have h1 : Kd.R (Kd.int .i64) 3 w2 w0.heap.size (fun k => k ≠ gq ∧ some k ≠ vb.ownBlock) (.slice Ao n co) order := by
    refine hback w2 (R_ok_of hS2.ro hR1.1) fun k e e2 => ?_
    have hlt := Kd.R_lt hS.ro k e
    refine hF2.keep k (by have := hgr.size; omega) (hS.ro.1 k e).1 ?_ (fun e3 => e2 e3.symm)
    intro e3
    subst e3
    exact hne hS.hb (by decide) e.symm
  refine ⟨⟨hS2.B, hS2.hl, hS2.hq, hS2.hb, hS2.he, R_ok_of h1 fun k e => ⟨(hS.ro.1 k e).1, ?_⟩, hS2.rb⟩, Fr.appended (Nat.le_trans hs hgr.size) (fun k hk hv => (hgr.block k (by omega) hv).trans (hm k hk)) ?_ hF2⟩
  · intro e2
    rcases hF2.new with e3 | hn
    · rw [e3] at e2; exact (hS.ro.1 k e).2 e2
    · have h3 := hn k e2.symm
      have h4 := Kd.R_lt hS.ro k e
      have h5 := hgr.size
      omega
  · rcases hat with e | ⟨b, e, hb⟩
    · exact .inl e
    · exact .inr ⟨b, e, by omega⟩

/-- The best order, and its cost, are laid down. -/
theorem St.stored {w0 W w2 w3 : World} {gl gq gb ge : Nat} {A0 : Option Addr} {c0 : Nat} {l : List S40} {v vb : Value} {An : Option Addr} {nn cn : Nat} {order best o : List Int} {least c : Int} (hS : St w0 w3 gl gq gb ge A0 c0 l v order vb best least) (hF : Fr W w3 gq gb v vb vb)
    (hn : Kd.R (Kd.int .i64) 3 w3 w2.heap.size (fun _ => True) (.slice An nn cn) o) (hs : W.heap.size ≤ w2.heap.size) (hlt : ∀ k, v.ownBlock = some k → k < w2.heap.size) (hq2 : gq < w2.heap.size) (h02 : w0.heap.size ≤ w2.heap.size) (hg2 : w0.heap.size ≤ gq) (hg3 : w0.heap.size ≤ gb) :
    ∃ vb', St w0 ((w3.setCell ⟨gb, 0, none⟩ (.slice An nn cn)).setCell ⟨gq, 0, none⟩ (.int .i64 c)) gl gq gb ge A0 c0 l v order vb' o c ∧ Fr W ((w3.setCell ⟨gb, 0, none⟩ (.slice An nn cn)).setCell ⟨gq, 0, none⟩ (.int .i64 c)) gq gb v vb vb' := by
  have hqb : gq ≠ gb := blk_ne hS.hq hS.hb (by decide)
  have hlq : gl ≠ gq := blk_ne hS.hl hS.hq (by decide)
  have hlb : gl ≠ gb := blk_ne hS.hl hS.hb (by decide)
  have heq : ge ≠ gq := blk_ne hS.he hS.hq (by decide)
  have heb : ge ≠ gb := blk_ne hS.he hS.hb (by decide)
  have other : ∀ k, k ≠ gq → k ≠ gb → ((w3.setCell ⟨gb, 0, none⟩ (.slice An nn cn)).setCell ⟨gq, 0, none⟩ (.int .i64 c)).heap[k]? = w3.heap[k]? := fun k h1 h2 => (Below.heap_setCell _ _ _ k h1).trans (Below.heap_setCell _ _ _ k h2)
  have size : ((w3.setCell ⟨gb, 0, none⟩ (.slice An nn cn)).setCell ⟨gq, 0, none⟩ (.int .i64 c)).heap.size = w3.heap.size := by simp
  have hneb : ∀ k, v.ownBlock = some k → k ≠ gb := fun k e e2 => by
    subst e2
    exact Kd.R_ne hS.ro hS.hb (by decide) e.symm
  have hnn : ∀ k, (Value.slice An nn cn).ownBlock = some k → k ≠ gb := fun k e e2 => by
    subst e2
    exact Kd.R_ne hn hS.hb (by decide) e.symm
  refine ⟨.slice An nn cn, ⟨below_set (below_set hS.B hg3) hg2, (other gl hlq hlb).trans hS.hl, ?_, ?_, (other ge heq heb).trans hS.he, ?_, ?_⟩, ⟨by rw [size]; exact hF.size, fun j h1 h2 h3 h4 => (other j h2 h3).trans (hF.keep j h1 h2 h3 h4), ?_⟩⟩
  · exact blk_put (blk_far hS.hq hqb _) 0 _ rfl
  · exact blk_far (blk_put hS.hb 0 _ rfl) (Ne.symm hqb) _
  · refine Kd.R_of_own (own_move (Kd.own_of_R hS.ro) fun k e => other k (hS.ro.1 k e).1 (hneb k e)) fun k e => ⟨(hS.ro.1 k e).1, fun e2 => ?_⟩
    have h1 := hlt k e
    have h2 := Kd.R_base hn k e2.symm
    omega
  · refine Kd.R_of_own (own_less (own_move (Kd.own_of_R hn) fun k e => other k ?_ (hnn k e)) h02) fun k e => ?_
    · intro e2
      have := Kd.R_base hn k e
      omega
    · intro e2
      have := Kd.R_base hn k e
      omega
  · exact .inr fun j e => Nat.le_trans hs (Kd.R_base hn j e)

set_option maxHeartbeats 8000000 in
set_option maxRecDepth 100000 in
theorem ext_calls (w0 : World) (gl gq gb ge : Nat) (h1 : w0.heap.size ≤ gl) (h2 : w0.heap.size ≤ gq) (h3 : w0.heap.size ≤ gb) (h4 : w0.heap.size ≤ ge) (A0 : Option Addr) (c0 : Nat) (l : List S40) (hr0 : Kd.C k40 w0 A0 l.length l) (hc0 : l.length ≤ c0) (k : Nat) :
    ∀ (W : World) (Ao : Option Addr) (co : Nat) (order : List Int) (vb : Value) (best : List Int) (least : Int) (r : List Int × Int) (hS : St w0 W gl gq gb ge A0 c0 l (.slice Ao order.length co) order vb best least) (h : ext k l order best least = some r),
    Calls Try.prog 44 #[.slice Ao order.length co, .pointer (some ⟨gl, 0, none⟩), .pointer (some ⟨gq, 0, none⟩), .pointer (some ⟨gb, 0, none⟩), .pointer (some ⟨ge, 0, none⟩)] W fun e W' => e = .returned (.tuple #[]) ∧ ∃ vb', St w0 W' gl gq gb ge A0 c0 l (.slice Ao order.length co) order vb' r.1 r.2 ∧ Fr W W' gq gb (.slice Ao order.length co) vb vb' := by
  induction k using Nat.strongRecOn with
  | _ k ih =>
  intro W Ao co order vb best least r hS h
  cases k with
  | zero => exact absurd h (by simp [ext])
  | succ k =>
  rw [ext] at h
  have IH := Aside0.mk ih
  clear ih
  have HS := Aside0.mk hS
  have HR0 := Aside0.mk hr0
  have HC0 := Aside0.mk hc0
  clear hS hr0 hc0
  by_cases hlen : order.length = l.length
  · rw [if_pos hlen] at h
    obtain ⟨c, ac, h⟩ := Option.bind_eq_some_iff.mp h
    have AC := Aside0.mk ac
    clear ac
    have e0 : (order.length == l.length) = true := by simpa using hlen
    have e1 : ((order.length : Int) == (l.length : Int)) = true := by simp [hlen]
    have HL := Aside0.mk hlen
    clear hlen
    have hxl : W.cell? ⟨gl, 0, none⟩ = some (.slice A0 l.length c0) := (blk_cell HS.out.hl 0).trans rfl
    have HCL := Aside0.mk (Kd.C_below HR0.out HS.out.B)
    by_cases c1 : least < 0
    · rw [if_pos c1] at h
      obtain ⟨o, ao, h⟩ := Option.bind_eq_some_iff.mp h
      have AO := Aside0.mk ao
      clear ao
      obtain rfl := Option.some.inj h
      have f1 : decide (least < 0) = true := decide_eq_true c1
      clear c1
      go_enter Try.func44, Try.ntmps44
      go_wp2_with (first
        | (go_at_call 15; (with_reducible refine (impl_OrderCost.calls k _ _ l _ _ order c _ ?side1 ?side2 ?side3 ?side4 AC.out).mono ?_); (case side1 => exact HCL.out); (case side2 => exact HC0.out); (case side3 => exact (Kd.R_reads' HS.out.ro).2.2); (case side4 => exact (Kd.R_reads' HS.out.ro).2.1); rintro e w2 ⟨rfl, hb2⟩; have HS2 := Aside0.mk (HS.out.grow hb2); have HF2 := Aside0.mk (Fr.grow gq gb (.slice Ao order.length co) vb hb2); clear hb2; have hq2 : w2.cell? ⟨gq, 0, none⟩ = some (.int .i64 least) := (blk_cell HS2.out.hq 0).trans rfl)
        | (go_at_call 45; (with_reducible refine (impl_clone_int.calls _ _ order o _ ?side1 ?side2 AO.out).mono ?_); (case side1 => exact (Kd.R_reads' HS2.out.ro).2.2); (case side2 => exact (Kd.R_reads' HS2.out.ro).2.1); rintro e w3 ⟨vn, rfl, hvn, hb3⟩; have HS3 := Aside0.mk (HS2.out.grow hb3); have HF3 := Aside0.mk (HF2.out.trans (Fr.grow gq gb (.slice Ao order.length co) vb hb3)); have HVN := Aside0.mk hvn; clear hvn hb3; obtain ⟨An_, cn_, evn⟩ := Kd.R_slice HVN.out; subst evn; have hcb3 : w3.cell? ⟨gb, 0, none⟩ = some vb := (blk_cell HS3.out.hb 0).trans rfl; have hfb3 := blk_frozen HS3.out.hb 0; have hcq3 : w3.cell? ⟨gq, 0, none⟩ = some (.int .i64 least) := (blk_cell HS3.out.hq 0).trans rfl; have hfq3 := blk_frozen HS3.out.hq 0; have hne3 := blk_ne HS3.out.hb HS3.out.hq (by decide); have hne4 := blk_ne HS3.out.hq HS3.out.hb (by decide)))
      first | go_end0 | ((try simp only [Exit.inBlock, Exit.then]); refine bodyPost_ret (results_none rfl _ _ _) rfl ?_)
      exact ⟨rfl, St.stored HS3.out HF3.out HVN.out HF2.out.size (fun k hk => Kd.R_lt HS2.out.ro k hk) (blk_lt HS2.out.hq) HS2.out.B.size h2 h3⟩
    · rw [if_neg c1] at h
      have f1 : decide (least < 0) = false := decide_eq_false c1
      clear c1
      by_cases c2 : c < least
      · rw [if_pos c2] at h
        obtain ⟨o, ao, h⟩ := Option.bind_eq_some_iff.mp h
        have AO := Aside0.mk ao
        clear ao
        obtain rfl := Option.some.inj h
        have f2 : decide (c < least) = true := decide_eq_true c2
        clear c2
        go_enter Try.func44, Try.ntmps44
        go_wp2_with (first
          | (go_at_call 15; (with_reducible refine (impl_OrderCost.calls k _ _ l _ _ order c _ ?side1 ?side2 ?side3 ?side4 AC.out).mono ?_); (case side1 => exact HCL.out); (case side2 => exact HC0.out); (case side3 => exact (Kd.R_reads' HS.out.ro).2.2); (case side4 => exact (Kd.R_reads' HS.out.ro).2.1); rintro e w2 ⟨rfl, hb2⟩; have HS2 := Aside0.mk (HS.out.grow hb2); have HF2 := Aside0.mk (Fr.grow gq gb (.slice Ao order.length co) vb hb2); clear hb2; have hq2 : w2.cell? ⟨gq, 0, none⟩ = some (.int .i64 least) := (blk_cell HS2.out.hq 0).trans rfl)
          | (go_at_call 45; (with_reducible refine (impl_clone_int.calls _ _ order o _ ?side1 ?side2 AO.out).mono ?_); (case side1 => exact (Kd.R_reads' HS2.out.ro).2.2); (case side2 => exact (Kd.R_reads' HS2.out.ro).2.1); rintro e w3 ⟨vn, rfl, hvn, hb3⟩; have HS3 := Aside0.mk (HS2.out.grow hb3); have HF3 := Aside0.mk (HF2.out.trans (Fr.grow gq gb (.slice Ao order.length co) vb hb3)); have HVN := Aside0.mk hvn; clear hvn hb3; obtain ⟨An_, cn_, evn⟩ := Kd.R_slice HVN.out; subst evn; have hcb3 : w3.cell? ⟨gb, 0, none⟩ = some vb := (blk_cell HS3.out.hb 0).trans rfl; have hfb3 := blk_frozen HS3.out.hb 0; have hcq3 : w3.cell? ⟨gq, 0, none⟩ = some (.int .i64 least) := (blk_cell HS3.out.hq 0).trans rfl; have hfq3 := blk_frozen HS3.out.hq 0; have hne3 := blk_ne HS3.out.hb HS3.out.hq (by decide); have hne4 := blk_ne HS3.out.hq HS3.out.hb (by decide)))
        first | go_end0 | ((try simp only [Exit.inBlock, Exit.then]); refine bodyPost_ret (results_none rfl _ _ _) rfl ?_)
        exact ⟨rfl, St.stored HS3.out HF3.out HVN.out HF2.out.size (fun k hk => Kd.R_lt HS2.out.ro k hk) (blk_lt HS2.out.hq) HS2.out.B.size h2 h3⟩
      · rw [if_neg c2] at h
        obtain rfl := Option.some.inj h
        have f2 : decide (c < least) = false := decide_eq_false c2
        clear c2
        go_enter Try.func44, Try.ntmps44
        go_wp2_with (first
          | (go_at_call 15; (with_reducible refine (impl_OrderCost.calls k _ _ l _ _ order c _ ?side1 ?side2 ?side3 ?side4 AC.out).mono ?_); (case side1 => exact HCL.out); (case side2 => exact HC0.out); (case side3 => exact (Kd.R_reads' HS.out.ro).2.2); (case side4 => exact (Kd.R_reads' HS.out.ro).2.1); rintro e w2 ⟨rfl, hb2⟩; have HS2 := Aside0.mk (HS.out.grow hb2); have HF2 := Aside0.mk (Fr.grow gq gb (.slice Ao order.length co) vb hb2); clear hb2; have hq2 : w2.cell? ⟨gq, 0, none⟩ = some (.int .i64 least) := (blk_cell HS2.out.hq 0).trans rfl))
        first | go_end0 | ((try simp only [Exit.inBlock, Exit.then]); refine bodyPost_ret (results_none rfl _ _ _) rfl ?_)
        exact ⟨rfl, vb, HS2.out, HF2.out⟩
  · rw [if_neg hlen] at h
    have e0 : (order.length == l.length) = false := by simpa using hlen
    have e1 : ((order.length : Int) == (l.length : Int)) = false := by simp; omega
    have HL := Aside0.mk hlen
    clear hlen
    have H := Aside0.mk h
    clear h
    have hxl : W.cell? ⟨gl, 0, none⟩ = some (.slice A0 l.length c0) := (blk_cell HS.out.hl 0).trans rfl
    have hxe := (blk_cell HS.out.he 0).trans rfl
    go_enter Try.func44, Try.ntmps44
    go_wp2
    clear hxl hxe
    go_loopg [28] k (fun kq v28 w' => ∃ (i : Int) (vbi : Value) (bi : List Int) (li : Int), v28 = .int .i64 i ∧ Aside0 (loop kq l order bi li i = some r) ∧ Aside0 (kq ≤ k) ∧ Aside0 (0 ≤ i) ∧ Aside0 (St w0 w' gl gq gb ge A0 c0 l (.slice Ao order.length co) order vbi bi li) ∧ Aside0 (Fr W w' gq gb (.slice Ao order.length co) vb vbi))
    case atStart => exact ⟨0, vb, best, least, by simp, H, ⟨Nat.le_refl _⟩, ⟨Int.le_refl _⟩, HS, ⟨Fr.refl _ _ _ _ _⟩⟩
    case round =>
      clear H HS
      obtain ⟨i, vbi, bi, li, rfl, HA, HK, HI, HS, HF⟩ := hrel
      cases gk with
      | zero => exact absurd HA.out (by simp [loop])
      | succ k1 =>
        have H := HA.out
        clear HA
        rw [loop] at H
        have hmx := Kd.C_max HR0.out
        by_cases hi : i < (l.length : Int)
        · rw [if_pos hi] at H
          obtain ⟨b, ab, H⟩ := Option.bind_eq_some_iff.mp H
          have AB := Aside0.mk ab
          clear ab
          have hi0 := HI.out
          have d1 : decide (i < (l.length : Int)) = true := decide_eq_true hi
          have HIL := Aside0.mk hi
          have ew : wrap64 (i + 1) = i + 1 := by unfold wrap64; omega
          have EW := Aside0.mk ew
          clear hi hmx ew hi0
          cases b with
          | true =>
            rw [if_pos rfl] at H
            have H' := Aside0.mk H
            clear H
            go_wp2_with (first | (go_at_call 46; (with_reducible refine (slices_Contains_int_int.calls k1 _ _ order i true _ ?side1 ?side2 AB.out).mono ?_); (case side1 => exact (Kd.R_reads' HS.out.ro).2.2); (case side2 => exact (Kd.R_reads' HS.out.ro).2.1); rintro e w' ⟨rfl, ⟨nd, rfl⟩⟩))
            go_roundg k1
            case measure => have := HK.out; omega
            case rel => exact ⟨i + 1, vbi, bi, li, by rw [EW.out], H', ⟨by have := HK.out; omega⟩, ⟨by have := HI.out; omega⟩, ⟨HS.out.grow (pw_below_drewN (Below.refl _ _) _)⟩, ⟨HF.out.trans (Fr.grow _ _ _ _ (pw_below_drewN (Below.refl _ _) _))⟩⟩
          | false =>
            rw [if_neg (by decide)] at H
            by_cases hln : order.length < 17592186044416
            · rw [if_pos hln] at H
              obtain ⟨⟨b1, l1⟩, a1, H⟩ := Option.bind_eq_some_iff.mp H
              have A1 := Aside0.mk a1
              have H' := Aside0.mk H
              have HLN := Aside0.mk hln
              clear H a1 hln
              go_wp2_with (first | (go_at_call 46; (with_reducible refine (slices_Contains_int_int.calls k1 _ _ order i false _ ?side1 ?side2 AB.out).mono ?_); (case side1 => exact (Kd.R_reads' HS.out.ro).2.2); (case side2 => exact (Kd.R_reads' HS.out.ro).2.1); rintro e w' ⟨rfl, ⟨nd, rfl⟩⟩))
              have HS1 := Aside0.mk (HS.out.grow (pw_below_drewN (Below.refl _ _) nd))
              have HF1 := Aside0.mk (HF.out.trans (Fr.grow gq gb (.slice Ao order.length co) vbi (pw_below_drewN (Below.refl wr.heap.size wr) nd)))
              clear HS HF
              generalize wr.drewN nd = wx at HS1 HF1 ⊢
              have hxe : wx.cell? ⟨ge, 0, none⟩ = some (.func (.func 44) #[] #[.pointer (some ⟨gl, 0, none⟩), .pointer (some ⟨gq, 0, none⟩), .pointer (some ⟨gb, 0, none⟩), .pointer (some ⟨ge, 0, none⟩)]) := (blk_cell HS1.out.he 0).trans rfl
              have hxe2 : (wx.alloc (.cells #[.int .i64 i] 3 (0, 0))).cell? ⟨ge, 0, none⟩ = some (.func (.func 44) #[] #[.pointer (some ⟨gl, 0, none⟩), .pointer (some ⟨gq, 0, none⟩), .pointer (some ⟨gb, 0, none⟩), .pointer (some ⟨ge, 0, none⟩)]) := (blk_cell (HS1.out.grow (below_alloc (Below.refl _ _) _)).he 0).trans rfl
              go_region_law (first
                | (refine goesV_ (f := 44) (caps := #[.pointer (some ⟨gl, 0, none⟩), .pointer (some ⟨gq, 0, none⟩), .pointer (some ⟨gb, 0, none⟩), .pointer (some ⟨ge, 0, none⟩)]) Try.func44 (by kernel_rfl) rfl #[.slice A1_ (order ++ [i]).length c1_, .pointer (some ⟨gl, 0, none⟩), .pointer (some ⟨gq, 0, none⟩), .pointer (some ⟨gb, 0, none⟩), .pointer (some ⟨ge, 0, none⟩)] rfl rfl rfl (by simp [Act.eval, Act.put]) (by simp [Act.eval, Act.put]) ?_; refine (IH.out k1 (by have := HK.out; omega) w1 A1_ c1_ (order ++ [i]) vbi bi li (b1, l1) ?hS A1.out).mono ?_; (case hS => exact St.appended (HS1.out.grow (below_drew (below_alloc (Below.refl _ _) _))) HR1.out HGR.out); rintro e w2 ⟨rfl, vb2, hS2, hF2⟩; refine ⟨_, rfl, ?_⟩; have HB2 := Aside0.mk (St.back HS1.out (by simp) (fun k hk => (below_drew (below_alloc (Below.refl wx.heap.size wx) (.cells #[.int .i64 i] 3 (0, 0)))).block k hk) HR1.out HBK.out HGR.out HAT.out hS2 hF2); clear hS2 hF2)
                | (refine step_append_int rfl (.tmp 36) (.tmp 38) 25 rfl Try.underlying25 info3 w0.heap.size (fun k => k ≠ gq ∧ some k ≠ vbi.ownBlock) Ao order.length co order i ⟨wx.heap.size, 0, none⟩ 1 (by simp [Act.eval, Act.put]) (by simp [Act.eval, Act.put]) (by repeat (first | exact HS1.out.ro | apply Kd.R_alloc | apply Kd.R_drew | apply Kd.R_drewN)) (by simp) (fun k hk => ⟨fun e => by have := blk_lt HS1.out.hq; simp at hk; omega, fun e => by have := Kd.R_lt HS1.out.rb k e.symm; simp at hk; omega⟩) (by have := HS1.out.B.size; simp; omega) HLN.out ?_; intro v1 w1 hR1 hback hgr hat; have HR1 := Aside0.mk hR1; have HBK := Aside0.mk hback; have HGR := Aside0.mk hgr; have HAT := Aside0.mk hat; clear hR1 hback hgr hat; have hxe3 : w1.cell? ⟨ge, 0, none⟩ = some (.func (.func 44) #[] #[.pointer (some ⟨gl, 0, none⟩), .pointer (some ⟨gq, 0, none⟩), .pointer (some ⟨gb, 0, none⟩), .pointer (some ⟨ge, 0, none⟩)]) := (blk_cell (St.appended (HS1.out.grow (below_drew (below_alloc (Below.refl _ _) _))) HR1.out HGR.out).he 0).trans rfl; obtain ⟨A1_, c1_, ev1⟩ := Kd.R_slice HR1.out; subst ev1))
              all_goals
                clear hxe hxe2 hxe3
                go_wp2
                go_roundg k1
                case measure => have := HK.out; omega
                case rel => exact ⟨i + 1, vb2, b1, l1, by rw [EW.out], H', ⟨by have := HK.out; omega⟩, ⟨by have := HI.out; omega⟩, ⟨HB2.out.1⟩, ⟨HF1.out.trans HB2.out.2⟩⟩
            · rw [if_neg hln] at H
              exact absurd H (by simp)
        · rw [if_neg hi] at H
          have d1 : decide (i < (l.length : Int)) = false := decide_eq_false hi
          clear hi hmx
          obtain rfl := Option.some.inj H
          go_wp2
          first | go_end0 | ((try simp only [Exit.inBlock, Exit.then]); refine bodyPost_ret (results_none rfl _ _ _) rfl ?_)
          exact ⟨rfl, _, HS.out, HF.out⟩

/-- The world when the works have been asked: four blocks are laid. -/
def W4 (w : World) (A0 : Option Addr) (n c0 : Nat) : World := (((w.alloc (.cells #[.slice A0 n c0] 33 (0, 0))).alloc (.cells #[] 3 (0, 0))).alloc (.cells #[.slice (some ⟨w.heap.size + 1, 0, none⟩) 0 0] 25 (0, 0))).alloc (.cells #[.int .i64 (-1)] 3 (0, 0))
theorem W4_size (w : World) (A0 : Option Addr) (n c0 : Nat) : (W4 w A0 n c0).heap.size = w.heap.size + 4 := by simp [W4]
theorem W4_below (w : World) (A0 : Option Addr) (n c0 : Nat) : Below w.heap.size w (W4 w A0 n c0) := below_alloc (below_alloc (below_alloc (below_alloc (Below.refl _ _) _) _) _) _
theorem alloc_last (w : World) (o : Obj) : (w.alloc o).heap[w.heap.size]? = some o := by
  show (w.heap.push o)[w.heap.size]? = some o
  exact Array.getElem?_push_size
theorem alloc_old {w : World} {k : Nat} {x : Obj} (o : Obj) (h : w.heap[k]? = some x) : (w.alloc o).heap[k]? = some x := blk_alloc h o
theorem W4_l (w : World) (A0 : Option Addr) (n c0 : Nat) : (W4 w A0 n c0).heap[w.heap.size]? = some (.cells #[.slice A0 n c0] 33 (0, 0)) := by
  unfold W4
  exact alloc_old _ (alloc_old _ (alloc_old _ (alloc_last _ _)))
theorem W4_e (w : World) (A0 : Option Addr) (n c0 : Nat) : (W4 w A0 n c0).heap[w.heap.size + 1]? = some (.cells #[] 3 (0, 0)) := by
  unfold W4
  have h := alloc_last (w.alloc (.cells #[.slice A0 n c0] 33 (0, 0))) (.cells #[] 3 (0, 0))
  rw [show (w.alloc (.cells #[.slice A0 n c0] 33 (0, 0))).heap.size = w.heap.size + 1 by simp] at h
  exact alloc_old _ (alloc_old _ h)
theorem W4_b (w : World) (A0 : Option Addr) (n c0 : Nat) : (W4 w A0 n c0).heap[w.heap.size + 1 + 1]? = some (.cells #[.slice (some ⟨w.heap.size + 1, 0, none⟩) 0 0] 25 (0, 0)) := by
  unfold W4
  have h := alloc_last ((w.alloc (.cells #[.slice A0 n c0] 33 (0, 0))).alloc (.cells #[] 3 (0, 0))) (.cells #[.slice (some ⟨w.heap.size + 1, 0, none⟩) 0 0] 25 (0, 0))
  rw [show ((w.alloc (.cells #[.slice A0 n c0] 33 (0, 0))).alloc (.cells #[] 3 (0, 0))).heap.size = w.heap.size + 1 + 1 by simp] at h
  exact alloc_old _ h
theorem W4_q (w : World) (A0 : Option Addr) (n c0 : Nat) : (W4 w A0 n c0).heap[w.heap.size + 1 + 1 + 1]? = some (.cells #[.int .i64 (-1)] 3 (0, 0)) := by
  unfold W4
  have h := alloc_last (((w.alloc (.cells #[.slice A0 n c0] 33 (0, 0))).alloc (.cells #[] 3 (0, 0))).alloc (.cells #[.slice (some ⟨w.heap.size + 1, 0, none⟩) 0 0] 25 (0, 0))) (.cells #[.int .i64 (-1)] 3 (0, 0))
  rw [show (((w.alloc (.cells #[.slice A0 n c0] 33 (0, 0))).alloc (.cells #[] 3 (0, 0))).alloc (.cells #[.slice (some ⟨w.heap.size + 1, 0, none⟩) 0 0] 25 (0, 0))).heap.size = w.heap.size + 1 + 1 + 1 by simp] at h
  exact h
theorem empty_row {w : World} {base g : Nat} {ok : Nat → Prop} (hok : ok g) (hb : base ≤ g) (hh : w.heap[g]? = some (.cells #[] 3 (0, 0))) : Kd.R (Kd.int .i64) 3 w base ok (.slice (some ⟨g, 0, none⟩) 0 0) [] := R_int_of hok hb hh rfl (Nat.le_refl _) (by unfold maxLen; omega) rfl rfl

theorem top_start {w w2 : World} {A0 : Option Addr} {c0 : Nat} {l : List S40} (h4 : w.heap.size + 4 ≤ w2.heap.size) (hb : Below (W4 w A0 l.length c0).heap.size (W4 w A0 l.length c0) w2) :
    St w ((w2.alloc (.cells #[.func (.func 44) #[] #[.pointer (some ⟨w.heap.size, 0, none⟩), .pointer (some ⟨w.heap.size + 1 + 1 + 1, 0, none⟩), .pointer (some ⟨w.heap.size + 1 + 1, 0, none⟩), .pointer (some ⟨w2.heap.size, 0, none⟩)]] 65 (0, 0))).alloc (.cells #[] 3 (0, 0))) w.heap.size (w.heap.size + 1 + 1 + 1) (w.heap.size + 1 + 1) w2.heap.size A0 c0 l (.slice (some ⟨w2.heap.size + 1, 0, none⟩) ([] : List Int).length 0) [] (.slice (some ⟨w.heap.size + 1, 0, none⟩) 0 0) [] (-1) := by
  refine ⟨below_alloc (below_alloc (below_step (W4_below w A0 l.length c0) hb) _) _, blk_alloc (blk_alloc (blk_below (W4_l w A0 l.length c0) hb) _) _, blk_alloc (blk_alloc (blk_below (W4_q w A0 l.length c0) hb) _) _, blk_alloc (blk_alloc (blk_below (W4_b w A0 l.length c0) hb) _) _, blk_alloc (alloc_last _ _) _, ?_, ?_⟩
  · refine empty_row ⟨by omega, ?_⟩ (by omega) ?_
    · simp [Value.ownBlock]; omega
    · have h := alloc_last (w2.alloc (.cells #[.func (.func 44) #[] #[.pointer (some ⟨w.heap.size, 0, none⟩), .pointer (some ⟨w.heap.size + 1 + 1 + 1, 0, none⟩), .pointer (some ⟨w.heap.size + 1 + 1, 0, none⟩), .pointer (some ⟨w2.heap.size, 0, none⟩)]] 65 (0, 0))) (.cells #[] 3 (0, 0))
      simpa using h
  · exact empty_row (by omega) (by omega) (blk_alloc (blk_alloc (blk_below (W4_e w A0 l.length c0) hb) _) _)

set_option maxHeartbeats 8000000 in
set_option maxRecDepth 100000 in
theorem top_calls (k : Nat) (A0 : Option Addr) (c0 : Nat) (l0 : List S40) (r : List Int) (w : World) (hr0 : Kd.C k40 w A0 l0.length l0) (hc0 : l0.length ≤ c0) (h : ((impl_AreWorks.f k l0).bind fun b => if b = true then (ext k l0 [] [] (-1)).bind fun r => some r.1 else some []) = some r) :
    Calls Try.prog 14 #[.slice A0 l0.length c0] w fun e w' => ∃ v0_ : Value, e = .returned (v0_) ∧ Kd.R (Kd.int .i64) 3 w' w.heap.size (fun _ => True) v0_ r ∧ Below w.heap.size w w' := by
  have HR0 := Aside0.mk hr0
  have HC0 := Aside0.mk hc0
  clear hr0 hc0
  obtain ⟨b, ab, h⟩ := Option.bind_eq_some_iff.mp h
  have AB := Aside0.mk ab
  clear ab
  cases b with
  | false =>
    rw [if_neg (by decide)] at h
    obtain rfl := Option.some.inj h
    go_enter Try.func14, Try.ntmps14
    go_wp2_with (go_at_call 16; (with_reducible refine (impl_AreWorks.calls k _ _ l0 false _ ?side1 ?side2 AB.out).mono ?_); (case side1 => exact Kd.C_below HR0.out (W4_below w A0 l0.length c0)); (case side2 => exact HC0.out); rintro e w2 ⟨rfl, hb2⟩; have HB2 := Aside0.mk (show Below (W4 w A0 l0.length c0).heap.size (W4 w A0 l0.length c0) w2 from hb2); clear hb2; have hcb : w2.cell? ⟨w.heap.size + 1 + 1, 0, none⟩ = some (.slice (some ⟨w.heap.size + 1, 0, none⟩) 0 0) := (blk_cell (blk_below (W4_b w A0 l0.length c0) HB2.out) 0).trans rfl)
    go_ret
    exact ⟨_, rfl, empty_row trivial (by omega) (blk_below (W4_e w A0 l0.length c0) HB2.out), below_step (W4_below w A0 l0.length c0) HB2.out⟩
  | true =>
    rw [if_pos rfl] at h
    obtain ⟨⟨b1, l1⟩, a1, h⟩ := Option.bind_eq_some_iff.mp h
    have A1 := Aside0.mk a1
    clear a1
    obtain rfl := Option.some.inj h
    go_enter Try.func14, Try.ntmps14
    go_wp2_with (first
      | (go_at_call 16; (with_reducible refine (impl_AreWorks.calls k _ _ l0 true _ ?side1 ?side2 AB.out).mono ?_); (case side1 => exact Kd.C_below HR0.out (W4_below w A0 l0.length c0)); (case side2 => exact HC0.out); rintro e w2 ⟨rfl, hb2⟩; have HB2 := Aside0.mk (show Below (W4 w A0 l0.length c0).heap.size (W4 w A0 l0.length c0) w2 from hb2); clear hb2)
      | (go_at_call 44; (refine (ext_calls w w.heap.size (w.heap.size + 1 + 1 + 1) (w.heap.size + 1 + 1) w2.heap.size (Nat.le_refl _) (by omega) (by omega) ?hw A0 c0 l0 HR0.out HC0.out k _ (some ⟨w2.heap.size + 1, 0, none⟩) 0 [] (.slice (some ⟨w.heap.size + 1, 0, none⟩) 0 0) [] (-1) (b1, l1) ?hS A1.out).mono ?_); (case hw => exact Nat.le_trans (W4_below w A0 l0.length c0).size HB2.out.size); (case hS => exact top_start (by have := HB2.out.size; rw [W4_size] at this; omega) HB2.out); rintro e w3 ⟨rfl, vb, hS, hF⟩; have HS := Aside0.mk hS; clear hS hF; have hcb : w3.cell? ⟨w.heap.size + 1 + 1, 0, none⟩ = some vb := (blk_cell HS.out.hb 0).trans rfl; obtain ⟨An_, cn_, evn⟩ := Kd.R_slice HS.out.rb; subst evn))
    go_ret
    exact ⟨_, rfl, Kd.R_mono HS.out.rb (fun _ _ => trivial), HS.out.B⟩
end impl_BestOrder_w

def impl_BestOrder.f (k : Nat) (l0 : List S40) : Option (List Int) := (impl_AreWorks.f k l0).bind fun b => if b = true then (impl_BestOrder_w.ext k l0 [] [] (-1)).bind fun r => some r.1 else some []
theorem impl_BestOrder.mono_l : ∀ k, (∀ l order best least, LeO (impl_BestOrder_w.ext k l order best least) (impl_BestOrder_w.ext (k + 1) l order best least)) ∧ (∀ l order best least i, LeO (impl_BestOrder_w.loop k l order best least i) (impl_BestOrder_w.loop (k + 1) l order best least i))
  | 0 => ⟨fun _ _ _ _ r h => by simp [impl_BestOrder_w.ext] at h, fun _ _ _ _ _ r h => by simp [impl_BestOrder_w.loop] at h⟩
  | k + 1 => by
    obtain ⟨ih0, ih1⟩ := impl_BestOrder.mono_l k
    refine ⟨fun l order best least => ?_, fun l order best least i => ?_⟩
    · unfold impl_BestOrder_w.ext
      refine LeO.ite (LeO.bind (impl_OrderCost.mono _ _ _) fun _ => LeO.refl _) (ih1 _ _ _ _ _)
    · unfold impl_BestOrder_w.loop
      refine LeO.ite (LeO.bind (slices_Contains_int_int.mono _ _ _) fun _ => LeO.ite (ih1 _ _ _ _ _) (LeO.ite (LeO.bind (ih0 _ _ _ _) fun _ => ih1 _ _ _ _ _) (LeO.refl _))) (LeO.refl _)
theorem impl_BestOrder.mono : ∀ a0 k, LeO (impl_BestOrder.f k a0) (impl_BestOrder.f (k + 1) a0) := by
  intro a0 k
  unfold impl_BestOrder.f
  exact LeO.bind (impl_AreWorks.mono _ _) fun _ => LeO.ite (LeO.bind ((impl_BestOrder.mono_l k).1 _ _ _ _) fun _ => LeO.refl _) (LeO.refl _)
theorem impl_BestOrder.calls (k : Nat) (A0 : Option Addr) (c0 : Nat) (l0 : List S40) (r : List Int) (w : World) (hr0 : Kd.C k40 w A0 l0.length l0) (hc0 : l0.length ≤ c0) (h : impl_BestOrder.f k l0 = some r) :
    Calls Try.prog 14 #[.slice A0 l0.length c0] w fun e w' => ∃ v0_ : Value, e = .returned (v0_) ∧ Kd.R (Kd.int .i64) 3 w' w.heap.size (fun _ => True) v0_ r ∧ Below w.heap.size w w' := impl_BestOrder_w.top_calls k A0 c0 l0 r w hr0 hc0 h

/-! ### laws_szIntS: function 61 -/
def laws_szIntS.f (l0 : List Int) (a1 : Int) : Option (Int) := if (wrap64 (a1 - (l0.length : Int))) < 0 then (some (-1)) else (some (wrap64 (a1 - (l0.length : Int))))
set_option maxHeartbeats 8000000 in
set_option maxRecDepth 100000 in
theorem laws_szIntS.calls (A0 : Option Addr) (c0 : Nat) (l0 : List Int) (a1 : Int) (r : Int) (w : World) (hr0 : Kd.C (Kd.int .i64) w A0 l0.length l0) (hc0 : l0.length ≤ c0) (h : laws_szIntS.f l0 a1 = some r) :
    Calls Try.prog 61 #[.slice A0 l0.length c0, .int .i64 a1] w fun e w' => e = .returned (.int .i64 r) ∧ Drawn0 w w' := by
  have HR0 := Aside0.mk hr0
  have HC0 := Aside0.mk hc0
  clear hr0 hc0
  have H : (if (wrap64 (a1 - (l0.length : Int))) < 0 then (some (-1)) else (some (wrap64 (a1 - (l0.length : Int))))) = some r := h
  clear h
  by_cases c3 : (wrap64 (a1 - (l0.length : Int))) < 0
  · rw [if_pos c3] at H
    have c3b0 : decide ((wrap64 (a1 - (l0.length : Int))) < 0) = true := decide_eq_true c3
    clear c3
    obtain rfl := Option.some.inj H
    go_enter Try.func61, Try.ntmps61
    go_wp2
    go_ret
    exact ⟨by first | rfl | (simp; done) | (simp [*]; done), by repeat (first | exact Drawn0.refl _ | apply Drawn0.step)⟩
  · rw [if_neg c3] at H
    have c3b0 : decide ((wrap64 (a1 - (l0.length : Int))) < 0) = false := decide_eq_false c3
    clear c3
    obtain rfl := Option.some.inj H
    go_enter Try.func61, Try.ntmps61
    go_wp2
    go_ret
    exact ⟨by first | rfl | (simp; done) | (simp [*]; done), by repeat (first | exact Drawn0.refl _ | apply Drawn0.step)⟩

/-! ### laws_szWork: function 53 -/
def laws_szWork.f (a0_0 : Int) (l0_1 : List Int) (a1 : Int) : Option (Int) := (laws_szIntS.f l0_1 a1).bind fun t135 => (if t135 < 0 then (some (-1)) else (some t135))
set_option maxHeartbeats 8000000 in
set_option maxRecDepth 100000 in
theorem laws_szWork.calls (a0_0 : Int) (A0_1 : Option Addr) (c0_1 : Nat) (l0_1 : List Int) (a1 : Int) (r : Int) (w : World) (hr0_1 : Kd.C (Kd.int .i64) w A0_1 l0_1.length l0_1) (hc0_1 : l0_1.length ≤ c0_1) (h : laws_szWork.f a0_0 l0_1 a1 = some r) :
    Calls Try.prog 53 #[.agg #[.int .i64 a0_0, .slice A0_1 l0_1.length c0_1], .int .i64 a1] w fun e w' => e = .returned (.int .i64 r) ∧ Below w.heap.size w w' := by
  have hu75 := Try.underlying75
  have HR0_1 := Aside0.mk hr0_1
  have HC0_1 := Aside0.mk hc0_1
  clear hr0_1 hc0_1
  have HB := Aside0.mk (Below.refl w.heap.size w)
  have H : ((laws_szIntS.f l0_1 a1).bind fun t135 => (if t135 < 0 then (some (-1)) else (some t135))) = some r := h
  clear h
  replace H := Option.bind_eq_some_iff.mp H
  obtain ⟨t135, A30, H⟩ := H
  replace H : (if t135 < 0 then (some (-1)) else (some t135)) = some r := H
  have A3 := Aside0.mk A30
  clear A30
  by_cases c4 : t135 < 0
  · rw [if_pos c4] at H
    have c4b0 : decide (t135 < 0) = true := decide_eq_true c4
    clear c4
    obtain rfl := Option.some.inj H
    go_enter Try.func53, Try.ntmps53
    go_wp2_with (first | ((with_reducible refine gate_dst (N := 2) rfl ?_); refine box_event ?hg (N := 2) ?hd (cs := #[.int .i64 a0_0, .slice A0_1 l0_1.length c0_1]) (t := 75) ?hr ?_; (case hd => rfl); (case hg => rfl); (case hr => first | (go_simp; done) | (go_simp; rfl)); intro gb134 hg w5 hbox hb; have n0_ := Aside0.mk (below_step (by repeat (first | (with_reducible first | exact HB.out | apply below_alloc | apply pw_below_drewN | apply below_drew1) | exact HB.out)) hb); have n1_ := Aside0.mk (hbox); have n2_ := Aside0.mk ((by rw [hg]; exact (below_size (by repeat (first | (with_reducible first | exact HB.out | apply below_alloc | apply pw_below_drewN | apply below_drew1) | exact HB.out))) : w.heap.size ≤ gb134)); have n3_ := Aside0.mk ((by rw [hg]; exact (below_size (by repeat (first | (with_reducible first | exact HB.out | apply below_alloc | apply pw_below_drewN | apply below_drew1) | exact HB.out))) : w.heap.size ≤ gb134)); clear HB; have HB := n0_; have BK134 := n1_; have GW134 := n2_; have GE134 := n3_; clear n0_ n1_ n2_ n3_; clear hb hbox hg; have hcz6_0 : w5.cell? ⟨gb134, 0, none⟩ = some (.int .i64 a0_0) := (blk_cell BK134.out 0).trans rfl; have hcz6_1 : w5.cell? ⟨gb134, 1, none⟩ = some (.slice A0_1 l0_1.length c0_1) := (blk_cell BK134.out 1).trans rfl; have hfz6_0 := blk_frozen BK134.out 0; have hfz6_1 := blk_frozen BK134.out 1) | ((with_reducible refine gate_callee (f := 61) rfl ?_); refine goesL_ (some 8) rfl rfl Try.func61 (by kernel_rfl) rfl #[.slice A0_1 l0_1.length c0_1, .int .i64 a1] rfl (by (try simp only [List.map_toArray, List.map_cons, List.map_nil]); first | done | rfl | (simp only [List.length_drop, List.length_take]; rfl)) ?_; (with_reducible refine (laws_szIntS.calls _ _ l0_1 a1 t135 _ ?side1 ?side2 A3.out).mono ?_); (case side1 => repeat (first | exact (Kd.C_below HR0_1.out HB.out) | (with_reducible refine Kd.C_alloc ?_ _) | (with_reducible refine Kd.C_drewN ?_ _) | (with_reducible refine Kd.C_drew ?_))); (case side2 => exact HC0_1.out); rintro e w' ⟨rfl, ⟨nd, rfl⟩⟩; refine ⟨_, rfl, ?_⟩))
    go_ret
    exact ⟨by first | rfl | (simp [errW_none, errW_some] <;> rfl) | (simp [*, errW_none, errW_some] <;> rfl), by repeat (first | (with_reducible first | exact HB.out | apply below_alloc | apply pw_below_drewN | apply below_drew1 | refine below_set ?_ GE134.out) | exact HB.out)⟩
  · rw [if_neg c4] at H
    have c4b0 : decide (t135 < 0) = false := decide_eq_false c4
    clear c4
    obtain rfl := Option.some.inj H
    go_enter Try.func53, Try.ntmps53
    go_wp2_with (first | ((with_reducible refine gate_dst (N := 2) rfl ?_); refine box_event ?hg (N := 2) ?hd (cs := #[.int .i64 a0_0, .slice A0_1 l0_1.length c0_1]) (t := 75) ?hr ?_; (case hd => rfl); (case hg => rfl); (case hr => first | (go_simp; done) | (go_simp; rfl)); intro gb134 hg w7 hbox hb; have n0_ := Aside0.mk (below_step (by repeat (first | (with_reducible first | exact HB.out | apply below_alloc | apply pw_below_drewN | apply below_drew1) | exact HB.out)) hb); have n1_ := Aside0.mk (hbox); have n2_ := Aside0.mk ((by rw [hg]; exact (below_size (by repeat (first | (with_reducible first | exact HB.out | apply below_alloc | apply pw_below_drewN | apply below_drew1) | exact HB.out))) : w.heap.size ≤ gb134)); have n3_ := Aside0.mk ((by rw [hg]; exact (below_size (by repeat (first | (with_reducible first | exact HB.out | apply below_alloc | apply pw_below_drewN | apply below_drew1) | exact HB.out))) : w.heap.size ≤ gb134)); clear HB; have HB := n0_; have BK134 := n1_; have GW134 := n2_; have GE134 := n3_; clear n0_ n1_ n2_ n3_; clear hb hbox hg; have hcz8_0 : w7.cell? ⟨gb134, 0, none⟩ = some (.int .i64 a0_0) := (blk_cell BK134.out 0).trans rfl; have hcz8_1 : w7.cell? ⟨gb134, 1, none⟩ = some (.slice A0_1 l0_1.length c0_1) := (blk_cell BK134.out 1).trans rfl; have hfz8_0 := blk_frozen BK134.out 0; have hfz8_1 := blk_frozen BK134.out 1) | ((with_reducible refine gate_callee (f := 61) rfl ?_); refine goesL_ (some 8) rfl rfl Try.func61 (by kernel_rfl) rfl #[.slice A0_1 l0_1.length c0_1, .int .i64 a1] rfl (by (try simp only [List.map_toArray, List.map_cons, List.map_nil]); first | done | rfl | (simp only [List.length_drop, List.length_take]; rfl)) ?_; (with_reducible refine (laws_szIntS.calls _ _ l0_1 a1 t135 _ ?side1 ?side2 A3.out).mono ?_); (case side1 => repeat (first | exact (Kd.C_below HR0_1.out HB.out) | (with_reducible refine Kd.C_alloc ?_ _) | (with_reducible refine Kd.C_drewN ?_ _) | (with_reducible refine Kd.C_drew ?_))); (case side2 => exact HC0_1.out); rintro e w' ⟨rfl, ⟨nd, rfl⟩⟩; refine ⟨_, rfl, ?_⟩))
    go_ret
    exact ⟨by first | rfl | (simp [errW_none, errW_some] <;> rfl) | (simp [*, errW_none, errW_some] <;> rfl), by repeat (first | (with_reducible first | exact HB.out | apply below_alloc | apply pw_below_drewN | apply below_drew1 | refine below_set ?_ GE134.out) | exact HB.out)⟩

/-! ### laws_szWorkS: function 22 -/
def laws_szWorkS.l0 : Nat → List (S75) → Int → Int → Option (Int)
  | 0, _, _, _ => none
  | k + 1, x0, x1, x5 => if x5 < (x0.length : Int) then (if 0 ≤ x5 then ((laws_szWork.f ((rd_T75 x0 x5).f0) ((rd_T75 x0 x5).f1) x1).bind fun t137 => (if t137 < 0 then (some (-1)) else (laws_szWorkS.l0 k x0 t137 (wrap64 (x5 + 1))))) else (none)) else (some x1)
def laws_szWorkS.f (k : Nat) (l0 : List (S75)) (a1 : Int) : Option (Int) := if (wrap64 (a1 - (l0.length : Int))) < 0 then (some (-1)) else (laws_szWorkS.l0 k l0 (wrap64 (a1 - (l0.length : Int))) 0)
theorem laws_szWorkS.mono_l : ∀ k, (∀ y0 y1 y2, LeO (laws_szWorkS.l0 k y0 y1 y2) (laws_szWorkS.l0 (k + 1) y0 y1 y2))
  | 0 => fun _ _ _ r h => by simp [laws_szWorkS.l0] at h
  | k + 1 => by
    have ih0 := laws_szWorkS.mono_l k
    · intro y0 y1 y2
      unfold laws_szWorkS.l0
      repeat' first
      | (with_reducible exact ih0 _ _ _)
      | (with_reducible exact LeO.refl _)
      | (with_reducible exact LeO.none _)
      | (with_reducible refine LeO.ite ?_ ?_)
      | (with_reducible refine LeO.bind ?_ (fun _ => ?_))
      | exact ih0 _ _ _
      | exact LeO.none _
      | refine LeO.ite ?_ ?_
      | refine LeO.bind ?_ (fun _ => ?_)
theorem laws_szWorkS.mono : ∀ a0 a1 k, LeO (laws_szWorkS.f k a0 a1) (laws_szWorkS.f (k + 1) a0 a1) := by
  intro a0 a1 k
  have ih0 := laws_szWorkS.mono_l k
  unfold laws_szWorkS.f
  repeat' first
      | (with_reducible exact ih0 _ _ _)
      | (with_reducible exact LeO.refl _)
      | (with_reducible exact LeO.none _)
      | (with_reducible refine LeO.ite ?_ ?_)
      | (with_reducible refine LeO.bind ?_ (fun _ => ?_))
      | exact ih0 _ _ _
      | exact LeO.none _
      | refine LeO.ite ?_ ?_
      | refine LeO.bind ?_ (fun _ => ?_)
set_option maxHeartbeats 8000000 in
set_option maxRecDepth 100000 in
theorem laws_szWorkS.calls (k : Nat) (A0 : Option Addr) (c0 : Nat) (l0 : List (S75)) (a1 : Int) (r : Int) (w : World) (hr0 : Kd.C k75 w A0 l0.length l0) (hc0 : l0.length ≤ c0) (h : laws_szWorkS.f k l0 a1 = some r) :
    Calls Try.prog 22 #[.slice A0 l0.length c0, .int .i64 a1] w fun e w' => e = .returned (.int .i64 r) ∧ Below w.heap.size w w' := by
  have hu75 := Try.underlying75
  have HR0 := Aside0.mk hr0
  have HC0 := Aside0.mk hc0
  clear hr0 hc0
  have HB := Aside0.mk (Below.refl w.heap.size w)
  have H : (if (wrap64 (a1 - (l0.length : Int))) < 0 then (some (-1)) else (laws_szWorkS.l0 k l0 (wrap64 (a1 - (l0.length : Int))) 0)) = some r := h
  clear h
  by_cases c3 : (wrap64 (a1 - (l0.length : Int))) < 0
  · rw [if_pos c3] at H
    have c3b0 : decide ((wrap64 (a1 - (l0.length : Int))) < 0) = true := decide_eq_true c3
    clear c3
    obtain rfl := Option.some.inj H
    go_enter Try.func22, Try.ntmps22
    go_wp2
    go_ret
    exact ⟨by first | rfl | (simp [errW_none, errW_some] <;> rfl) | (simp [*, errW_none, errW_some] <;> rfl), by repeat (first | (with_reducible first | exact HB.out | apply below_alloc | apply pw_below_drewN | apply below_drew1) | exact HB.out)⟩
  · rw [if_neg c3] at H
    have c3b0 : decide ((wrap64 (a1 - (l0.length : Int))) < 0) = false := decide_eq_false c3
    clear c3
    have H' := Aside0.mk H
    clear H
    go_enter Try.func22, Try.ntmps22
    go_wp2
    go_loopg [1, 5] k (fun kq v1 v5 w' => ∃ (x1_1 : Int) (x5_1 : Int), v1 = .int .i64 x1_1 ∧ v5 = .int .i64 x5_1 ∧ Aside0 (laws_szWorkS.l0 kq l0 x1_1 x5_1 = some r) ∧ Aside0 (kq ≤ k) ∧ Aside0 (Below w.heap.size w w'))
    case atStart => exact ⟨(wrap64 (a1 - (l0.length : Int))), (0), (by first | rfl | (simp; done) | (simp [*]; done)), (by first | rfl | (simp; done) | (simp [*]; done)), H', ⟨Nat.le_refl _⟩, ⟨by repeat (first | (with_reducible first | exact HB.out | apply below_alloc | apply pw_below_drewN | apply below_drew1) | exact HB.out)⟩⟩
    case round =>
      clear H'
      try clear c2
      try clear p2
      try clear c3
      try clear c3b0
      obtain ⟨x1_1, x5_1, rfl, rfl, HA, HK1, HB⟩ := hrel
      cases gk with
      | zero => exact absurd HA.out (by simp [laws_szWorkS.l0])
      | succ k1 =>
        have H := HA.out
        clear HA
        simp only [laws_szWorkS.l0] at H
        by_cases c4 : x5_1 < (l0.length : Int)
        · rw [if_pos c4] at H
          have c4b0 : decide (x5_1 < (l0.length : Int)) = true := decide_eq_true c4
          clear c4
          by_cases c5 : 0 ≤ x5_1
          · rw [if_pos c5] at H
            have c5b0 : decide (0 ≤ x5_1) = true := decide_eq_true c5
            clear c5
            replace H := Option.bind_eq_some_iff.mp H
            obtain ⟨t137, A60, H⟩ := H
            replace H : (if t137 < 0 then (some (-1)) else (laws_szWorkS.l0 k1 l0 t137 (wrap64 (x5_1 + 1)))) = some r := H
            have A6 := Aside0.mk A60
            clear A60
            by_cases c7 : t137 < 0
            · rw [if_pos c7] at H
              have c7b0 : decide (t137 < 0) = true := decide_eq_true c7
              clear c7
              obtain rfl := Option.some.inj H
              have p136 : 0 ≤ (x5_1 : Int) := of_decide_eq_true (by first | (with_reducible assumption) | assumption)
              have q136 : x5_1 < (l0.length : Int) := of_decide_eq_true (by first | (with_reducible assumption) | assumption)
              obtain ⟨ad136, A136_1, c136_1, e136, hx136_0, hx136_1, hl136_1, hi136_1⟩ := at_T75 HR0.out x5_1 p136 q136
              cases e136
              replace hx136_0 := (HB.out.cell (World.block_lt_of_cell? w _ hx136_0)).trans hx136_0
              replace hx136_1 := (HB.out.cell (World.block_lt_of_cell? w _ hx136_1)).trans hx136_1
              have HR136_1 := Aside0.mk hi136_1
              have HC136_1 := Aside0.mk hl136_1
              clear hi136_1 hl136_1
              replace p136 := eq_true p136
              replace q136 := eq_true q136
              go_wp2_with (first | ((with_reducible refine gate_callee (f := 53) rfl ?_); refine goesL_ (some 23) rfl rfl Try.func53 (by kernel_rfl) rfl #[.agg #[.int .i64 ((rd_T75 l0 x5_1).f0), .slice A136_1 ((rd_T75 l0 x5_1).f1).length c136_1], .int .i64 x1_1] rfl (by (try simp only [List.map_toArray, List.map_cons, List.map_nil]); first | done | rfl | (simp only [List.length_drop, List.length_take]; rfl)) ?_; (with_reducible refine (laws_szWork.calls ((rd_T75 l0 x5_1).f0) _ _ ((rd_T75 l0 x5_1).f1) x1_1 t137 _ ?side1 ?side2 A6.out).mono ?_); (case side1 => repeat (first | exact (Kd.C_below HR136_1.out HB.out) | (with_reducible refine Kd.C_alloc ?_ _) | (with_reducible refine Kd.C_drewN ?_ _) | (with_reducible refine Kd.C_drew ?_))); (case side2 => exact HC136_1.out); rintro e w8 ⟨rfl, hb⟩; refine ⟨_, rfl, ?_⟩; have n0_ := Aside0.mk (below_step (by repeat (first | (with_reducible first | exact HB.out | apply below_alloc | apply pw_below_drewN | apply below_drew1) | exact HB.out)) hb); clear HB; have HB := n0_; clear n0_; (try clear hb); (try clear hb2); (try clear hk); (try clear hi)))
              go_ret
              exact ⟨by first | rfl | (simp [errW_none, errW_some] <;> rfl) | (simp [*, errW_none, errW_some] <;> rfl), by repeat (first | (with_reducible first | exact HB.out | apply below_alloc | apply pw_below_drewN | apply below_drew1) | exact HB.out)⟩
            · rw [if_neg c7] at H
              have c7b0 : decide (t137 < 0) = false := decide_eq_false c7
              clear c7
              have H' := Aside0.mk H
              clear H
              have p136 : 0 ≤ (x5_1 : Int) := of_decide_eq_true (by first | (with_reducible assumption) | assumption)
              have q136 : x5_1 < (l0.length : Int) := of_decide_eq_true (by first | (with_reducible assumption) | assumption)
              obtain ⟨ad136, A136_1, c136_1, e136, hx136_0, hx136_1, hl136_1, hi136_1⟩ := at_T75 HR0.out x5_1 p136 q136
              cases e136
              replace hx136_0 := (HB.out.cell (World.block_lt_of_cell? w _ hx136_0)).trans hx136_0
              replace hx136_1 := (HB.out.cell (World.block_lt_of_cell? w _ hx136_1)).trans hx136_1
              have HR136_1 := Aside0.mk hi136_1
              have HC136_1 := Aside0.mk hl136_1
              clear hi136_1 hl136_1
              replace p136 := eq_true p136
              replace q136 := eq_true q136
              go_wp2_with (first | ((with_reducible refine gate_callee (f := 53) rfl ?_); refine goesL_ (some 23) rfl rfl Try.func53 (by kernel_rfl) rfl #[.agg #[.int .i64 ((rd_T75 l0 x5_1).f0), .slice A136_1 ((rd_T75 l0 x5_1).f1).length c136_1], .int .i64 x1_1] rfl (by (try simp only [List.map_toArray, List.map_cons, List.map_nil]); first | done | rfl | (simp only [List.length_drop, List.length_take]; rfl)) ?_; (with_reducible refine (laws_szWork.calls ((rd_T75 l0 x5_1).f0) _ _ ((rd_T75 l0 x5_1).f1) x1_1 t137 _ ?side1 ?side2 A6.out).mono ?_); (case side1 => repeat (first | exact (Kd.C_below HR136_1.out HB.out) | (with_reducible refine Kd.C_alloc ?_ _) | (with_reducible refine Kd.C_drewN ?_ _) | (with_reducible refine Kd.C_drew ?_))); (case side2 => exact HC136_1.out); rintro e w9 ⟨rfl, hb⟩; refine ⟨_, rfl, ?_⟩; have n0_ := Aside0.mk (below_step (by repeat (first | (with_reducible first | exact HB.out | apply below_alloc | apply pw_below_drewN | apply below_drew1) | exact HB.out)) hb); clear HB; have HB := n0_; clear n0_; (try clear hb); (try clear hb2); (try clear hk); (try clear hi)))
              go_roundg k1
              case measure => have := HK1.out; omega
              case rel => exact ⟨(t137), (wrap64 (x5_1 + 1)), (by first | rfl | (simp; done) | (simp [*]; done)), (by first | rfl | (simp; done) | (simp [*]; done)), H', ⟨by have := HK1.out; omega⟩, ⟨by repeat (first | (with_reducible first | exact HB.out | apply below_alloc | apply pw_below_drewN | apply below_drew1) | exact HB.out)⟩⟩
          · rw [if_neg c5] at H
            exact absurd H (by simp)
        · rw [if_neg c4] at H
          have c4b0 : decide (x5_1 < (l0.length : Int)) = false := decide_eq_false c4
          clear c4
          obtain rfl := Option.some.inj H
          go_wp2
          go_ret
          exact ⟨by first | rfl | (simp [errW_none, errW_some] <;> rfl) | (simp [*, errW_none, errW_some] <;> rfl), by repeat (first | (with_reducible first | exact HB.out | apply below_alloc | apply pw_below_drewN | apply below_drew1) | exact HB.out)⟩

/-! ### spec_l1In: function 39 -/
def spec_l1In.f (a0 : Int) (a1 : Int) (a2 : Int) : Option (Bool) := if a0 ≥ a1 then (some (decide (a0 ≤ a2))) else (some false)
set_option maxHeartbeats 8000000 in
set_option maxRecDepth 100000 in
theorem spec_l1In.calls (a0 : Int) (a1 : Int) (a2 : Int) (r : Bool) (w : World) (h : spec_l1In.f a0 a1 a2 = some r) :
    Calls Try.prog 39 #[.int .i64 a0, .int .i64 a1, .int .i64 a2] w fun e w' => e = .returned (.bool r) ∧ Drawn0 w w' := by
  have H : (if a0 ≥ a1 then (some (decide (a0 ≤ a2))) else (some false)) = some r := h
  clear h
  by_cases c4 : a0 ≥ a1
  · rw [if_pos c4] at H
    have c4b0 : decide (a1 ≤ a0) = true := decide_eq_true c4
    clear c4
    obtain rfl := Option.some.inj H
    go_enter Try.func39, Try.ntmps39
    go_wp2
    go_ret
    exact ⟨by first | rfl | (simp; done) | (simp [*]; done), by repeat (first | exact Drawn0.refl _ | apply Drawn0.step)⟩
  · rw [if_neg c4] at H
    have c4b0 : decide (a1 ≤ a0) = false := decide_eq_false c4
    clear c4
    obtain rfl := Option.some.inj H
    go_enter Try.func39, Try.ntmps39
    go_wp2
    go_ret
    exact ⟨by first | rfl | (simp; done) | (simp [*]; done), by repeat (first | exact Drawn0.refl _ | apply Drawn0.step)⟩

/-! ### spec_l30Ids: function 50 -/
def spec_l30Ids.l0 : Nat → List Int → Int → Option (Bool)
  | 0, _, _ => none
  | k + 1, x0, x3 => if x3 < (x0.length : Int) then (if 0 ≤ x3 then ((spec_l1In.f (rd x0 x3) 1 99).bind fun t139 => (if t139 = true then (if x3 > 0 then (if 0 ≤ (wrap64 (x3 - 1)) then (if (wrap64 (x3 - 1)) < (x0.length : Int) then (if (rd x0 (wrap64 (x3 - 1))) ≥ (rd x0 x3) then (some false) else (spec_l30Ids.l0 k x0 (wrap64 (x3 + 1)))) else (none)) else (none)) else (spec_l30Ids.l0 k x0 (wrap64 (x3 + 1)))) else (some false))) else (none)) else (some true)
def spec_l30Ids.f (k : Nat) (l0 : List Int) : Option (Bool) := spec_l30Ids.l0 k l0 0
theorem spec_l30Ids.mono_l : ∀ k, (∀ y0 y1, LeO (spec_l30Ids.l0 k y0 y1) (spec_l30Ids.l0 (k + 1) y0 y1))
  | 0 => fun _ _ r h => by simp [spec_l30Ids.l0] at h
  | k + 1 => by
    have ih0 := spec_l30Ids.mono_l k
    · intro y0 y1
      unfold spec_l30Ids.l0
      repeat' first
      | (with_reducible exact ih0 _ _)
      | (with_reducible exact LeO.refl _)
      | (with_reducible exact LeO.none _)
      | (with_reducible refine LeO.ite ?_ ?_)
      | (with_reducible refine LeO.bind ?_ (fun _ => ?_))
      | exact ih0 _ _
      | exact LeO.none _
      | refine LeO.ite ?_ ?_
      | refine LeO.bind ?_ (fun _ => ?_)
theorem spec_l30Ids.mono : ∀ a0 k, LeO (spec_l30Ids.f k a0) (spec_l30Ids.f (k + 1) a0) := by
  intro a0 k
  have ih0 := spec_l30Ids.mono_l k
  unfold spec_l30Ids.f
  repeat' first
      | (with_reducible exact ih0 _ _)
      | (with_reducible exact LeO.refl _)
      | (with_reducible exact LeO.none _)
      | (with_reducible refine LeO.ite ?_ ?_)
      | (with_reducible refine LeO.bind ?_ (fun _ => ?_))
      | exact ih0 _ _
      | exact LeO.none _
      | refine LeO.ite ?_ ?_
      | refine LeO.bind ?_ (fun _ => ?_)
set_option maxHeartbeats 8000000 in
set_option maxRecDepth 100000 in
theorem spec_l30Ids.calls (k : Nat) (A0 : Option Addr) (c0 : Nat) (l0 : List Int) (r : Bool) (w : World) (hr0 : Kd.C (Kd.int .i64) w A0 l0.length l0) (hc0 : l0.length ≤ c0) (h : spec_l30Ids.f k l0 = some r) :
    Calls Try.prog 50 #[.slice A0 l0.length c0] w fun e w' => e = .returned (.bool r) ∧ Drawn0 w w' := by
  have HR0 := Aside0.mk hr0
  have HC0 := Aside0.mk hc0
  clear hr0 hc0
  have H : (spec_l30Ids.l0 k l0 0) = some r := h
  clear h
  have H' := Aside0.mk H
  clear H
  go_enter Try.func50, Try.ntmps50
  go_wp2
  repeat (go_quiet (fail); try go_wp2)
  go_loopg [3] k (fun kq v3 w' => ∃ (x3_1 : Int), v3 = .int .i64 x3_1 ∧ Aside0 (spec_l30Ids.l0 kq l0 x3_1 = some r) ∧ Aside0 (kq ≤ k) ∧ Drawn0 w w')
  case atStart => exact ⟨(0), (by first | rfl | (simp; done) | (simp [*]; done)), H', ⟨Nat.le_refl _⟩, by repeat (first | exact Drawn0.refl _ | apply Drawn0.step)⟩
  case round =>
    clear H'
    obtain ⟨x3_1, rfl, HA, HK1, ⟨m1, rfl⟩⟩ := hrel
    cases gk with
    | zero => exact absurd HA.out (by simp [spec_l30Ids.l0])
    | succ k1 =>
      have H := HA.out
      clear HA
      simp only [spec_l30Ids.l0] at H
      by_cases c2 : x3_1 < (l0.length : Int)
      · rw [if_pos c2] at H
        have c2b0 : decide (x3_1 < (l0.length : Int)) = true := decide_eq_true c2
        clear c2
        by_cases c3 : 0 ≤ x3_1
        · rw [if_pos c3] at H
          have c3b0 : decide (0 ≤ x3_1) = true := decide_eq_true c3
          clear c3
          replace H := Option.bind_eq_some_iff.mp H
          obtain ⟨t139, A40, H⟩ := H
          replace H : (if t139 = true then (if x3_1 > 0 then (if 0 ≤ (wrap64 (x3_1 - 1)) then (if (wrap64 (x3_1 - 1)) < (l0.length : Int) then (if (rd l0 (wrap64 (x3_1 - 1))) ≥ (rd l0 x3_1) then (some false) else (spec_l30Ids.l0 k1 l0 (wrap64 (x3_1 + 1)))) else (none)) else (none)) else (spec_l30Ids.l0 k1 l0 (wrap64 (x3_1 + 1)))) else (some false)) = some r := H
          have A4 := Aside0.mk A40
          clear A40
          by_cases c5 : t139 = true
          · subst c5
            have H1 : (if x3_1 > 0 then (if 0 ≤ (wrap64 (x3_1 - 1)) then (if (wrap64 (x3_1 - 1)) < (l0.length : Int) then (if (rd l0 (wrap64 (x3_1 - 1))) ≥ (rd l0 x3_1) then (some false) else (spec_l30Ids.l0 k1 l0 (wrap64 (x3_1 + 1)))) else (none)) else (none)) else (spec_l30Ids.l0 k1 l0 (wrap64 (x3_1 + 1)))) = some r := by rw [if_pos rfl] at H; exact H
            clear H
            have H := H1
            clear H1
            by_cases c6 : x3_1 > 0
            · rw [if_pos c6] at H
              have c6b0 : decide (0 < x3_1) = true := decide_eq_true c6
              clear c6
              obtain ⟨ji7, hji7⟩ : ∃ j_ : Int, (wrap64 (x3_1 - 1)) = j_ := ⟨_, rfl⟩
              replace H : (if 0 ≤ (ji7) then (if (ji7) < (l0.length : Int) then (if (rd l0 (ji7)) ≥ (rd l0 x3_1) then (some false) else (spec_l30Ids.l0 k1 l0 (wrap64 (x3_1 + 1)))) else (none)) else (none)) = some r := by first | (rw [hji7] at H; exact H) | (simp only [hji7] at H ⊢; exact H)
              (try rw [hji7] at A4)
              have hji7w : (IntKind.i64.wrap (x3_1 - 1)) = ji7 := (i64_w _).trans hji7
              by_cases c8 : 0 ≤ (ji7)
              · rw [if_pos c8] at H
                have c8b0 : decide (0 ≤ (ji7)) = true := decide_eq_true c8
                clear c8
                by_cases c9 : (ji7) < (l0.length : Int)
                · rw [if_pos c9] at H
                  have c9b0 : decide ((ji7) < (l0.length : Int)) = true := decide_eq_true c9
                  clear c9
                  by_cases c10 : (rd l0 (ji7)) ≥ (rd l0 x3_1)
                  · rw [if_pos c10] at H
                    have c10b0 : decide ((rd l0 x3_1) ≤ (rd l0 (ji7))) = true := decide_eq_true c10
                    clear c10
                    obtain rfl := Option.some.inj H
                    have p138 : 0 ≤ (x3_1 : Int) := of_decide_eq_true (by first | (with_reducible assumption) | assumption)
                    have q138 : x3_1 < (l0.length : Int) := of_decide_eq_true (by first | (with_reducible assumption) | assumption)
                    obtain ⟨ad138, e138, hx138_0⟩ := Kd.at_int HR0.out x3_1 p138 q138
                    cases e138
                    replace p138 := eq_true p138
                    replace q138 := eq_true q138
                    go_wp2_with (first | (go_at_call 39; (with_reducible refine (spec_l1In.calls (rd l0 x3_1) 1 99 true _ A4.out).mono ?_); rintro e w' ⟨rfl, ⟨nd, rfl⟩⟩; (try first | exact ⟨rfl, _, World.drewN_drewN _ _ _⟩ | exact ⟨rfl, _, Eq.trans (World.drewN_drewN _ _ _) (congrArg (World.drewN _) (Nat.add_assoc _ _ _))⟩); have p140 : 0 ≤ ((ji7) : Int) := of_decide_eq_true (by first | (with_reducible assumption) | assumption); have q140 : (ji7) < (l0.length : Int) := of_decide_eq_true (by first | (with_reducible assumption) | assumption); obtain ⟨ad140, e140, hx140_0⟩ := Kd.at_int HR0.out (ji7) p140 q140; obtain rfl : ad138 = ad140 := (by injection e140); replace p140 := eq_true p140; replace q140 := eq_true q140; have p141 : 0 ≤ (x3_1 : Int) := of_decide_eq_true (by first | (with_reducible assumption) | assumption); have q141 : x3_1 < (l0.length : Int) := of_decide_eq_true (by first | (with_reducible assumption) | assumption); obtain ⟨ad141, e141, hx141_0⟩ := Kd.at_int HR0.out x3_1 p141 q141; obtain rfl : ad138 = ad141 := (by injection e141); replace p141 := eq_true p141; replace q141 := eq_true q141))
                    repeat (go_quiet (first | (go_at_call 39; (with_reducible refine (spec_l1In.calls (rd l0 x3_1) 1 99 true _ A4.out).mono ?_); rintro e w' ⟨rfl, ⟨nd, rfl⟩⟩; (try first | exact ⟨rfl, _, World.drewN_drewN _ _ _⟩ | exact ⟨rfl, _, Eq.trans (World.drewN_drewN _ _ _) (congrArg (World.drewN _) (Nat.add_assoc _ _ _))⟩); have p140 : 0 ≤ ((ji7) : Int) := of_decide_eq_true (by first | (with_reducible assumption) | assumption); have q140 : (ji7) < (l0.length : Int) := of_decide_eq_true (by first | (with_reducible assumption) | assumption); obtain ⟨ad140, e140, hx140_0⟩ := Kd.at_int HR0.out (ji7) p140 q140; obtain rfl : ad138 = ad140 := (by injection e140); replace p140 := eq_true p140; replace q140 := eq_true q140; have p141 : 0 ≤ (x3_1 : Int) := of_decide_eq_true (by first | (with_reducible assumption) | assumption); have q141 : x3_1 < (l0.length : Int) := of_decide_eq_true (by first | (with_reducible assumption) | assumption); obtain ⟨ad141, e141, hx141_0⟩ := Kd.at_int HR0.out x3_1 p141 q141; obtain rfl : ad138 = ad141 := (by injection e141); replace p141 := eq_true p141; replace q141 := eq_true q141)); try go_wp2_with (first | (go_at_call 39; (with_reducible refine (spec_l1In.calls (rd l0 x3_1) 1 99 true _ A4.out).mono ?_); rintro e w' ⟨rfl, ⟨nd, rfl⟩⟩; (try first | exact ⟨rfl, _, World.drewN_drewN _ _ _⟩ | exact ⟨rfl, _, Eq.trans (World.drewN_drewN _ _ _) (congrArg (World.drewN _) (Nat.add_assoc _ _ _))⟩); have p140 : 0 ≤ ((ji7) : Int) := of_decide_eq_true (by first | (with_reducible assumption) | assumption); have q140 : (ji7) < (l0.length : Int) := of_decide_eq_true (by first | (with_reducible assumption) | assumption); obtain ⟨ad140, e140, hx140_0⟩ := Kd.at_int HR0.out (ji7) p140 q140; obtain rfl : ad138 = ad140 := (by injection e140); replace p140 := eq_true p140; replace q140 := eq_true q140; have p141 : 0 ≤ (x3_1 : Int) := of_decide_eq_true (by first | (with_reducible assumption) | assumption); have q141 : x3_1 < (l0.length : Int) := of_decide_eq_true (by first | (with_reducible assumption) | assumption); obtain ⟨ad141, e141, hx141_0⟩ := Kd.at_int HR0.out x3_1 p141 q141; obtain rfl : ad138 = ad141 := (by injection e141); replace p141 := eq_true p141; replace q141 := eq_true q141)))
                    go_ret
                    exact ⟨by first | rfl | (simp; done) | (simp only [← hji7] <;> (first | rfl | simp)) | (simp [*]; done), by repeat (first | exact Drawn0.refl _ | apply Drawn0.step)⟩
                  · rw [if_neg c10] at H
                    have c10b0 : decide ((rd l0 x3_1) ≤ (rd l0 (ji7))) = false := decide_eq_false c10
                    clear c10
                    have H' := Aside0.mk H
                    clear H
                    have p138 : 0 ≤ (x3_1 : Int) := of_decide_eq_true (by first | (with_reducible assumption) | assumption)
                    have q138 : x3_1 < (l0.length : Int) := of_decide_eq_true (by first | (with_reducible assumption) | assumption)
                    obtain ⟨ad138, e138, hx138_0⟩ := Kd.at_int HR0.out x3_1 p138 q138
                    cases e138
                    replace p138 := eq_true p138
                    replace q138 := eq_true q138
                    go_wp2_with (first | (go_at_call 39; (with_reducible refine (spec_l1In.calls (rd l0 x3_1) 1 99 true _ A4.out).mono ?_); rintro e w' ⟨rfl, ⟨nd, rfl⟩⟩; (try first | exact ⟨rfl, _, World.drewN_drewN _ _ _⟩ | exact ⟨rfl, _, Eq.trans (World.drewN_drewN _ _ _) (congrArg (World.drewN _) (Nat.add_assoc _ _ _))⟩); have p140 : 0 ≤ ((ji7) : Int) := of_decide_eq_true (by first | (with_reducible assumption) | assumption); have q140 : (ji7) < (l0.length : Int) := of_decide_eq_true (by first | (with_reducible assumption) | assumption); obtain ⟨ad140, e140, hx140_0⟩ := Kd.at_int HR0.out (ji7) p140 q140; obtain rfl : ad138 = ad140 := (by injection e140); replace p140 := eq_true p140; replace q140 := eq_true q140; have p141 : 0 ≤ (x3_1 : Int) := of_decide_eq_true (by first | (with_reducible assumption) | assumption); have q141 : x3_1 < (l0.length : Int) := of_decide_eq_true (by first | (with_reducible assumption) | assumption); obtain ⟨ad141, e141, hx141_0⟩ := Kd.at_int HR0.out x3_1 p141 q141; obtain rfl : ad138 = ad141 := (by injection e141); replace p141 := eq_true p141; replace q141 := eq_true q141))
                    repeat (go_quiet (first | (go_at_call 39; (with_reducible refine (spec_l1In.calls (rd l0 x3_1) 1 99 true _ A4.out).mono ?_); rintro e w' ⟨rfl, ⟨nd, rfl⟩⟩; (try first | exact ⟨rfl, _, World.drewN_drewN _ _ _⟩ | exact ⟨rfl, _, Eq.trans (World.drewN_drewN _ _ _) (congrArg (World.drewN _) (Nat.add_assoc _ _ _))⟩); have p140 : 0 ≤ ((ji7) : Int) := of_decide_eq_true (by first | (with_reducible assumption) | assumption); have q140 : (ji7) < (l0.length : Int) := of_decide_eq_true (by first | (with_reducible assumption) | assumption); obtain ⟨ad140, e140, hx140_0⟩ := Kd.at_int HR0.out (ji7) p140 q140; obtain rfl : ad138 = ad140 := (by injection e140); replace p140 := eq_true p140; replace q140 := eq_true q140; have p141 : 0 ≤ (x3_1 : Int) := of_decide_eq_true (by first | (with_reducible assumption) | assumption); have q141 : x3_1 < (l0.length : Int) := of_decide_eq_true (by first | (with_reducible assumption) | assumption); obtain ⟨ad141, e141, hx141_0⟩ := Kd.at_int HR0.out x3_1 p141 q141; obtain rfl : ad138 = ad141 := (by injection e141); replace p141 := eq_true p141; replace q141 := eq_true q141)); try go_wp2_with (first | (go_at_call 39; (with_reducible refine (spec_l1In.calls (rd l0 x3_1) 1 99 true _ A4.out).mono ?_); rintro e w' ⟨rfl, ⟨nd, rfl⟩⟩; (try first | exact ⟨rfl, _, World.drewN_drewN _ _ _⟩ | exact ⟨rfl, _, Eq.trans (World.drewN_drewN _ _ _) (congrArg (World.drewN _) (Nat.add_assoc _ _ _))⟩); have p140 : 0 ≤ ((ji7) : Int) := of_decide_eq_true (by first | (with_reducible assumption) | assumption); have q140 : (ji7) < (l0.length : Int) := of_decide_eq_true (by first | (with_reducible assumption) | assumption); obtain ⟨ad140, e140, hx140_0⟩ := Kd.at_int HR0.out (ji7) p140 q140; obtain rfl : ad138 = ad140 := (by injection e140); replace p140 := eq_true p140; replace q140 := eq_true q140; have p141 : 0 ≤ (x3_1 : Int) := of_decide_eq_true (by first | (with_reducible assumption) | assumption); have q141 : x3_1 < (l0.length : Int) := of_decide_eq_true (by first | (with_reducible assumption) | assumption); obtain ⟨ad141, e141, hx141_0⟩ := Kd.at_int HR0.out x3_1 p141 q141; obtain rfl : ad138 = ad141 := (by injection e141); replace p141 := eq_true p141; replace q141 := eq_true q141)))
                    go_roundg k1
                    case measure => have := HK1.out; omega
                    case rel => exact ⟨(wrap64 (x3_1 + 1)), (by first | rfl | (simp; done) | (simp [*]; done)), H', ⟨by have := HK1.out; omega⟩, by repeat (first | exact Drawn0.refl _ | apply Drawn0.step)⟩
                · rw [if_neg c9] at H
                  exact absurd H (by simp)
              · rw [if_neg c8] at H
                exact absurd H (by simp)
            · rw [if_neg c6] at H
              have c6b0 : decide (0 < x3_1) = false := decide_eq_false c6
              clear c6
              have H' := Aside0.mk H
              clear H
              have p138 : 0 ≤ (x3_1 : Int) := of_decide_eq_true (by first | (with_reducible assumption) | assumption)
              have q138 : x3_1 < (l0.length : Int) := of_decide_eq_true (by first | (with_reducible assumption) | assumption)
              obtain ⟨ad138, e138, hx138_0⟩ := Kd.at_int HR0.out x3_1 p138 q138
              cases e138
              replace p138 := eq_true p138
              replace q138 := eq_true q138
              go_wp2_with (first | (go_at_call 39; (with_reducible refine (spec_l1In.calls (rd l0 x3_1) 1 99 true _ A4.out).mono ?_); rintro e w' ⟨rfl, ⟨nd, rfl⟩⟩; (try first | exact ⟨rfl, _, World.drewN_drewN _ _ _⟩ | exact ⟨rfl, _, Eq.trans (World.drewN_drewN _ _ _) (congrArg (World.drewN _) (Nat.add_assoc _ _ _))⟩)))
              repeat (go_quiet (first | (go_at_call 39; (with_reducible refine (spec_l1In.calls (rd l0 x3_1) 1 99 true _ A4.out).mono ?_); rintro e w' ⟨rfl, ⟨nd, rfl⟩⟩; (try first | exact ⟨rfl, _, World.drewN_drewN _ _ _⟩ | exact ⟨rfl, _, Eq.trans (World.drewN_drewN _ _ _) (congrArg (World.drewN _) (Nat.add_assoc _ _ _))⟩))); try go_wp2_with (first | (go_at_call 39; (with_reducible refine (spec_l1In.calls (rd l0 x3_1) 1 99 true _ A4.out).mono ?_); rintro e w' ⟨rfl, ⟨nd, rfl⟩⟩; (try first | exact ⟨rfl, _, World.drewN_drewN _ _ _⟩ | exact ⟨rfl, _, Eq.trans (World.drewN_drewN _ _ _) (congrArg (World.drewN _) (Nat.add_assoc _ _ _))⟩))))
              go_roundg k1
              case measure => have := HK1.out; omega
              case rel => exact ⟨(wrap64 (x3_1 + 1)), (by first | rfl | (simp; done) | (simp [*]; done)), H', ⟨by have := HK1.out; omega⟩, by repeat (first | exact Drawn0.refl _ | apply Drawn0.step)⟩
          · replace c5 := Bool.eq_false_iff.mpr c5
            subst c5
            have H1 : (some false) = some r := by rw [if_neg (show ¬ (false = true) by decide)] at H; exact H
            clear H
            have H := H1
            clear H1
            obtain rfl := Option.some.inj H
            have p138 : 0 ≤ (x3_1 : Int) := of_decide_eq_true (by first | (with_reducible assumption) | assumption)
            have q138 : x3_1 < (l0.length : Int) := of_decide_eq_true (by first | (with_reducible assumption) | assumption)
            obtain ⟨ad138, e138, hx138_0⟩ := Kd.at_int HR0.out x3_1 p138 q138
            cases e138
            replace p138 := eq_true p138
            replace q138 := eq_true q138
            go_wp2_with (first | (go_at_call 39; (with_reducible refine (spec_l1In.calls (rd l0 x3_1) 1 99 false _ A4.out).mono ?_); rintro e w' ⟨rfl, ⟨nd, rfl⟩⟩; (try first | exact ⟨rfl, _, World.drewN_drewN _ _ _⟩ | exact ⟨rfl, _, Eq.trans (World.drewN_drewN _ _ _) (congrArg (World.drewN _) (Nat.add_assoc _ _ _))⟩)))
            repeat (go_quiet (first | (go_at_call 39; (with_reducible refine (spec_l1In.calls (rd l0 x3_1) 1 99 false _ A4.out).mono ?_); rintro e w' ⟨rfl, ⟨nd, rfl⟩⟩; (try first | exact ⟨rfl, _, World.drewN_drewN _ _ _⟩ | exact ⟨rfl, _, Eq.trans (World.drewN_drewN _ _ _) (congrArg (World.drewN _) (Nat.add_assoc _ _ _))⟩))); try go_wp2_with (first | (go_at_call 39; (with_reducible refine (spec_l1In.calls (rd l0 x3_1) 1 99 false _ A4.out).mono ?_); rintro e w' ⟨rfl, ⟨nd, rfl⟩⟩; (try first | exact ⟨rfl, _, World.drewN_drewN _ _ _⟩ | exact ⟨rfl, _, Eq.trans (World.drewN_drewN _ _ _) (congrArg (World.drewN _) (Nat.add_assoc _ _ _))⟩))))
            go_ret
            exact ⟨by first | rfl | (simp; done) | (simp [*]; done), by repeat (first | exact Drawn0.refl _ | apply Drawn0.step)⟩
        · rw [if_neg c3] at H
          exact absurd H (by simp)
      · rw [if_neg c2] at H
        have c2b0 : decide (x3_1 < (l0.length : Int)) = false := decide_eq_false c2
        clear c2
        obtain rfl := Option.some.inj H
        go_wp2
        repeat (go_quiet (fail); try go_wp2)
        go_ret
        exact ⟨by first | rfl | (simp; done) | (simp [*]; done), by repeat (first | exact Drawn0.refl _ | apply Drawn0.step)⟩

end Go.Proofs.Ytdbmllbphbhfpaa.PBo
