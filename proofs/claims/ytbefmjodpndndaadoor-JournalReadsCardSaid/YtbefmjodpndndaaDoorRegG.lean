
/- The law of Reg for regions with guards: an operation that is wanted by what its guard has yielded. -/
import Derived.Test.YtbefmjodpndndaaDoorReg
set_option linter.unusedSimpArgs false
set_option linter.unusedVariables false
namespace Go.Proofs.YtbefmjodpndndaaDoor
open Go.RowKit Go.ChangeShapes Go.WideShapes Go.Deep

section
variable {F : Fence} {n : Nat} {P : Program} {ops : Array Oper} {Q : Exit → Act → World → Prop} {md : Region.Mode} {S : World → Prop} {late : List Nat}

/-- In every world of S the operation yields v, and leaves the world alone. -/
def YieldsG (P : Program) (ops : Array Oper) (S : World → Prop) (o : Oper) (v : Value) (a : Act) : Prop := Region.wanted o (yielded ops a.tmps) = true ∧ (∀ c, o.op ≠ .defer c) ∧ ∀ w, S w → (execOp a.eval o).run P w = .ok (.value v) w
theorem YieldsG.of_same {o : Oper} {v : Value} {a a' : Act} (hy : YieldsG P ops S o v a) (he : execOp a'.eval o = execOp a.eval o) (hw : Region.wanted o (yielded ops a'.tmps) = Region.wanted o (yielded ops a.tmps)) : YieldsG P ops S o v a' := ⟨hw.trans hy.1, hy.2.1, fun w hw => by rw [he]; exact hy.2.2 w hw⟩
theorem YieldsG.op (hF : ∀ f, F.fn f) {i : Nat} {o : Oper} {v : Value} {a : Act} (hi : ops[i]? = some o) (hy : YieldsG P ops S o v a) {K : Act → World → Prop} {w : World} (hw : S w) (h : K (a.put o.dst v) w) : wpOpIn F n P ops Q i K a w := by
  unfold wpOpIn
  simp only [hi]
  rw [if_pos hy.1]
  unfold Oper.wpIn
  rw [Oper.semAt_plain F _ _ hy.2.1, hy.2.2 w hw]
  exact ⟨fun f _ => hF f, h⟩
theorem wpOpIn_putG (hF : ∀ f, F.fn f) {i j : Nat} {oi oj : Oper} {v : Value} (hj : ops[j]? = some oj) (hap : oi.apart ops oj = true) (hsi : ∀ cs b, oi.op ≠ .select cs b) (hsj : ∀ cs b, oj.op ≠ .select cs b) (hdj : ∀ c, oj.op ≠ .defer c)
    (hQ : ∀ c a w, Q (.panic c) (a.put oi.dst v) w → Q (.panic c) a w) {K : Act → World → Prop} {a : Act} {w : World} (hy : YieldsG P ops S oi v a) (h : wpOpIn F n P ops Q j K (a.put oi.dst v) w) :
    wpOpIn F n P ops Q j (fun a' w' => YieldsG P ops S oi v a' ∧ K (a'.put oi.dst v) w') a w := by
  obtain ⟨h1, h2, h3⟩ := Oper.apart_spec hap
  have keep : ∀ (a : Act), YieldsG P ops S oi v a → ∀ u, YieldsG P ops S oi v (a.put oj.dst u) := fun a hy u => hy.of_same (execOp_put oi hsi a oj.dst u h3) (wanted_put oi a oj.dst u h3)
  unfold wpOpIn at *
  simp only [hj] at *
  rw [wanted_put oj a oi.dst v h1] at h
  split
  · rename_i hw
    simp only [hw, if_true] at h
    unfold Oper.wpIn at *
    refine ⟨fun f _ => hF f, ?_⟩
    have h := h.2
    rw [Oper.semAt_plain F _ _ hdj, execOp_put oj hsj a oi.dst v h1] at h
    rw [Oper.semAt_plain F _ _ hdj]
    generalize (execOp a.eval oj).run P w = r at *
    cases r with
    | ok x w' =>
      cases x <;> simp only [Oper.uponIn] at h ⊢
      case value u => exact ⟨keep a hy u, by rw [← Act.put_comm a v u h2]; exact h⟩
      case skip => exact ⟨keep a hy _, by rw [← Act.put_comm a v undef h2]; exact h⟩
      case defer d =>
        refine ⟨keep { a with defers := d :: a.defers } (hy.of_same rfl rfl) _, ?_⟩
        rw [← Act.put_comm _ v undef h2, ← Act.put_defers]
        exact h
      case enter f args =>
        refine ⟨h.1, CallsIn.mono h.2 fun e w'' he => ?_⟩
        cases e with
        | returned u => exact ⟨keep a hy u, by rw [← Act.put_comm a v u h2]; exact he⟩
        | panicked c => exact hQ _ _ _ he
        | outgrown => exact he
      case row row args => exact ⟨h.1, RowsIn.mono h.2 fun u w'' he => ⟨keep a hy u, by rw [← Act.put_comm a v u h2]; exact he⟩⟩
      case round l f tmps assign body =>
        refine ⟨h.1, RoundIn.mono h.2 fun e w'' he => ?_⟩
        cases e with
        | returned u => exact ⟨keep a hy u, by rw [← Act.put_comm a v u h2]; exact he⟩
        | panicked c => exact hQ _ _ _ he
        | outgrown => exact he
    | halt x w' =>
      cases x <;> simp only [Oper.uponIn] at h ⊢
      case panic u => exact hQ _ _ _ h
  · rename_i hw
    simp only [hw] at h
    exact ⟨fun f _ => hF f, keep a hy _, by rw [← Act.put_comm a v undef h2]; exact h.2⟩

theorem wpAnyG_first {i f0 : Nat} {oi : Oper} {v : Value} {pure : Bool} (hF : ∀ f, F.fn f) (hi : ops[i]? = some oi) (hsel : ∀ (j : Nat) (o : Oper) cs b, ops[j]? = some o → o.op ≠ .select cs b) (hdef : ∀ (j : Nat) (o : Oper) c, ops[j]? = some o → o.op ≠ .defer c)
    (hQ : ∀ c a w, Q (.panic c) (a.put oi.dst v) w → Q (.panic c) a w) (hni : late.contains i = false) (hl : pure = false → ∀ j, late.contains j = true → ancB md ops f0 j i = true) :
    ∀ (fuel : Nat) (listed : Array Bool) (a : Act) (w : World),
      (∀ j oj, ops[j]? = some oj → j ≠ i → listed.getD j true = false → (∀ e ∈ oj.after, Region.binds md e = true → e.on ≠ i) → oi.apart ops oj = true) →
      ShutS md ops listed → i ∈ Region.ready md ops listed → YieldsG P ops (fun w => pure = false → S w) oi v a → (lateFree late listed = true → S w) →
      wpAnyS F n P md ops Q S late fuel (listed.setIfInBounds i true) (a.put oi.dst v) w → wpAnyS F n P md ops Q S late (fuel + 1) listed a w := by
  intro fuel
  induction fuel with
  | zero =>
    intro listed a w _ hsh hr hy hw H
    refine ⟨fun h => (by rw [h] at hr; cases hr), fun j hj => ?_⟩
    by_cases hji : j = i
    · subst hji; exact hy.op hF hi (fun hp => hw (late_shut hsh (ready_not hr) (hl hp))) ⟨fun h => hw (by rwa [late_set hni] at h), H⟩
    · have := ready_mono hj hji
      rw [H.1] at this
      cases this
  | succ fuel ih =>
    intro listed a w hfree hsh hr hy hw H
    refine ⟨fun h => (by rw [h] at hr; cases hr), fun j hj => ?_⟩
    by_cases hji : j = i
    · subst hji; exact hy.op hF hi (fun hp => hw (late_shut hsh (ready_not hr) (hl hp))) ⟨fun h => hw (by rwa [late_set hni] at h), H⟩
    · have h1 := H.2 j (ready_mono hj hji)
      obtain ⟨hjun, oj, hoj, hall⟩ := mem_ready.1 hj
      have hnot : ∀ e ∈ oj.after, Region.binds md e = true → e.on ≠ i := fun e he hb heq => by
        have h1 := hall e he hb
        rw [heq, ready_not hr] at h1
        cases h1
      have h2 := wpOpIn_putG (i := i) hF hoj (hfree j oj hoj hji hjun hnot) (fun cs b => hsel i oi cs b hi) (fun cs b => hsel j oj cs b hoj) (fun c => hdef j oj c hoj) hQ hy h1
      have hfree' : ∀ k ok, ops[k]? = some ok → k ≠ i → (listed.setIfInBounds j true).getD k true = false →
          (∀ e ∈ ok.after, Region.binds md e = true → e.on ≠ i) → oi.apart ops ok = true := fun k ok hk hki hun hno => by
        refine hfree k ok hk hki ?_ hno
        by_cases hjk : j = k
        · subst hjk; exact hjun
        · rw [getD_set_ne true hjk] at hun; exact hun
      have hcm : (listed.setIfInBounds i true).setIfInBounds j true = (listed.setIfInBounds j true).setIfInBounds i true := Array.setIfInBounds_comm _ _ (Ne.symm hji)
      refine wpOpIn_mono (fun a' w' h3 => ?_) h2
      have hS : lateFree late (listed.setIfInBounds j true) = true → S w' := fun h => h3.2.1 (by rw [hcm, late_set hni]; exact h)
      refine ⟨hS, ih (listed.setIfInBounds j true) a' w' hfree' (hsh.step hj) (ready_mono hr (Ne.symm hji)) h3.1 hS ?_⟩
      rw [← hcm]
      exact h3.2.2
theorem wpAnyG_take_ {pure : Bool} {i : Nat} {oi : Oper} {v : Value} {fuel : Nat} {listed : Array Bool} {a : Act} {w : World} (hF : ∀ f, F.fn f) (hi : ops[i]? = some oi) (ht : takeB md ops late listed pure i = true)
    (hQ : ∀ c a (d : Tmp) v w, Q (.panic c) (a.put (some d) v) w → Q (.panic c) a w) (hy : YieldsG P ops (fun w => pure = false → S w) oi v a) (hw : lateFree late listed = true → S w)
    (h : wpAnyS F n P md ops Q S late fuel (listed.setIfInBounds i true) (a.put oi.dst v) w) : wpAnyS F n P md ops Q S late (fuel + 1) listed a w := by
  simp only [takeB, Bool.and_eq_true] at ht
  obtain ⟨⟨⟨⟨⟨h1, h2⟩, h3⟩, h4⟩, h6⟩, h5⟩ := ht
  obtain ⟨p1, p2⟩ := plainB_spec h4
  refine wpAnyG_first (f0 := ops.size) hF hi p1 p2 (fun c a w h => by
    cases hd : oi.dst with
    | none => rw [hd] at h; exact h
    | some d => rw [hd] at h; exact hQ c a d _ w h) (by simpa using h6) (fun hp j hj => ?_) fuel listed a w (Region.free_spec hi h2) (shutB_spec h3) (by simpa using h1) hy hw h
  rw [hp] at h5
  simp only [Bool.false_or, List.all_eq_true] at h5
  exact h5 j (by simpa using hj)
/-- A load is taken first. -/
theorem wpAnyG_take (i : Nat) {oi : Oper} {v : Value} {fuel : Nat} {listed : Array Bool} {a : Act} {w : World} (hF : ∀ f, F.fn f) (hi : ops[i]? = some oi) (ht : takeB md ops late listed false i = true)
    (hQ : ∀ c a (d : Tmp) v w, Q (.panic c) (a.put (some d) v) w → Q (.panic c) a w) (hy : YieldsG P ops S oi v a) (hw : S w)
    (h : wpAnyS F n P md ops Q S late fuel (listed.setIfInBounds i true) (a.put oi.dst v) w) : wpAnyS F n P md ops Q S late (fuel + 1) listed a w :=
  wpAnyG_take_ hF hi ht hQ ⟨hy.1, hy.2.1, fun w hw => hy.2.2 w (hw rfl)⟩ (fun _ => hw) h
/-- What yields its value in every world is taken first, as long as S is known. -/
theorem wpAnyG_pure (i : Nat) {oi : Oper} {v : Value} {fuel : Nat} {listed : Array Bool} {a : Act} {w : World} (hF : ∀ f, F.fn f) (hi : ops[i]? = some oi) (ht : takeB md ops late listed true i = true)
    (hQ : ∀ c a (d : Tmp) v w, Q (.panic c) (a.put (some d) v) w → Q (.panic c) a w) (hy : YieldsG P ops (fun _ => True) oi v a) (hw : S w)
    (h : wpAnyS F n P md ops Q S late fuel (listed.setIfInBounds i true) (a.put oi.dst v) w) : wpAnyS F n P md ops Q S late (fuel + 1) listed a w :=
  wpAnyG_take_ hF hi ht hQ ⟨hy.1, hy.2.1, fun w _ => hy.2.2 w trivial⟩ (fun _ => hw) h
/-- .. and behind the first of the late ones. -/
theorem wpAnyG_pureL (i : Nat) {oi : Oper} {v : Value} {fuel : Nat} {listed : Array Bool} {a : Act} {w : World} (hF : ∀ f, F.fn f) (hi : ops[i]? = some oi) (ht : takeB md ops late listed true i = true) (hlf : lateFree late listed = false)
    (hQ : ∀ c a (d : Tmp) v w, Q (.panic c) (a.put (some d) v) w → Q (.panic c) a w) (hy : YieldsG P ops (fun _ => True) oi v a)
    (h : wpAnyS F n P md ops Q S late fuel (listed.setIfInBounds i true) (a.put oi.dst v) w) : wpAnyS F n P md ops Q S late (fuel + 1) listed a w :=
  wpAnyG_take_ hF hi ht hQ ⟨hy.1, hy.2.1, fun w _ => hy.2.2 w trivial⟩ (fun h => by rw [hlf] at h; cases h) h
theorem AllReadyS.consG {fuel : Nat} {listed : Array Bool} {a : Act} {w : World} {i : Nat} {o : Oper} {rs : List Nat} (ho : ops[i]? = some o) (hg : Region.wanted o (yielded ops a.tmps) = true)
    (h : ∀ K' : Act → World → Prop, Hid (∀ a w, S w → wpAnyS F n P md ops Q S late fuel (listed.setIfInBounds i true) a w → K' a w) → Oper.wpIn F n P o a w K' Q)
    (hs : AllReadyS F n P md ops Q S late fuel listed a w rs) : AllReadyS F n P md ops Q S late fuel listed a w (i :: rs) := fun j hj => by
  rcases List.mem_cons.1 hj with rfl | hj
  · unfold wpOpIn
    simp only [ho]
    rw [if_pos hg]
    exact h _ (hid fun a w h1 h2 => ⟨fun _ => h1, h2⟩)
  · exact hs j hj
/-- A late one, or one that comes behind a late one: S is not asked. -/
theorem AllReadyS.consLG {fuel : Nat} {listed : Array Bool} {a : Act} {w : World} {i : Nat} {o : Oper} {rs : List Nat} (ho : ops[i]? = some o) (hg : Region.wanted o (yielded ops a.tmps) = true) (hlf : lateFree late (listed.setIfInBounds i true) = false)
    (h : ∀ K' : Act → World → Prop, Hid (∀ a w, wpAnyS F n P md ops Q S late fuel (listed.setIfInBounds i true) a w → K' a w) → Oper.wpIn F n P o a w K' Q)
    (hs : AllReadyS F n P md ops Q S late fuel listed a w rs) : AllReadyS F n P md ops Q S late fuel listed a w (i :: rs) := fun j hj => by
  rcases List.mem_cons.1 hj with rfl | hj
  · unfold wpOpIn
    simp only [ho]
    rw [if_pos hg]
    exact h _ (hid fun a w h2 => ⟨fun h1 => (by rw [hlf] at h1; cases h1), h2⟩)
  · exact hs j hj
end
end Go.Proofs.YtbefmjodpndndaaDoor
