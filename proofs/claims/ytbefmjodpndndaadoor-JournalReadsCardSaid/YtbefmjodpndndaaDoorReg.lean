
/- A region that draws its order, in any fence of all functions (a round of a range over a function too): loads are taken first under a condition S, which the LATE operations (the stores that wait for the loads) need not keep. -/
import Derived.Test.YtbefmjodpndndaaDoorBase
import Derived.OrdersIn
import Derived.OwnWalkIn
set_option linter.unusedSimpArgs false
set_option linter.unusedVariables false
namespace Go.Proofs.YtbefmjodpndndaaDoor
open Go.RowKit Go.ChangeShapes Go.WideShapes Go.Deep

section
variable {F : Fence} {n : Nat} {P : Program} {ops : Array Oper} {Q : Exit → Act → World → Prop} {md : Region.Mode} {S : World → Prop} {late : List Nat}

/-- None of the late ones has come up. -/
def lateFree (late : List Nat) (listed : Array Bool) : Bool := late.all fun j => !listed.getD j false
/-- All orders; behind each operation, as long as none of the late ones has come up, S. -/
def wpAnyS (F : Fence) (n : Nat) (P : Program) (md : Region.Mode) (ops : Array Oper) (Q : Exit → Act → World → Prop) (S : World → Prop) (late : List Nat) : Nat → Array Bool → Act → World → Prop
  | 0, listed, a, w => Region.ready md ops listed = [] ∧ Q .normal a w
  | fuel + 1, listed, a, w => (Region.ready md ops listed = [] → Q .normal a w) ∧
    ∀ i ∈ Region.ready md ops listed, wpOpIn F n P ops Q i (fun a' w' => (lateFree late (listed.setIfInBounds i true) = true → S w') ∧ wpAnyS F n P md ops Q S late fuel (listed.setIfInBounds i true) a' w') a w

theorem wpAnyS.any : ∀ (fuel : Nat) (listed : Array Bool) (a : Act) (w : World), wpAnyS F n P md ops Q S late fuel listed a w → wpAnyIn F n P md ops Q fuel listed a w
  | 0, _, _, _, h => h
  | fuel + 1, listed, a, w, h => ⟨h.1, fun i hi => wpOpIn_mono (fun a' w' h' => wpAnyS.any fuel _ a' w' h'.2) (h.2 i hi)⟩
theorem wpIn_region_S {id : Nat} {a : Act} {w : World} (S : World → Prop) (late : List Nat) (hm : P.follows .mixedOrders = true) (hS : S w.drew)
    (h : S w.drew → wpAnyS F n P .any ops Q S late ops.size (Array.replicate ops.size false) a w.drew) : (Code.region id ops true).wpIn F n P Q a w :=
  wpIn_region_any hm (wpAnyS.any _ _ _ _ (h hS))

/-- What is listed has its forerunners listed. -/
def ShutS (md : Region.Mode) (ops : Array Oper) (listed : Array Bool) : Prop := ∀ k o, ops[k]? = some o → listed.getD k false = true → ∀ e ∈ o.after, Region.binds md e = true → listed.getD e.on false = true
def shutB (md : Region.Mode) (ops : Array Oper) (listed : Array Bool) : Bool := (List.range ops.size).all fun k => !listed.getD k false || ((ops[k]?).map (·.after.all fun e => !Region.binds md e || listed.getD e.on false)).getD true
theorem shutB_spec {listed : Array Bool} (h : shutB md ops listed = true) : ShutS md ops listed := by
  intro k o ho hk e he hb
  simp only [shutB, List.all_eq_true, List.mem_range] at h
  have h1 := h k (Array.getElem?_eq_some_iff.1 ho).1
  simp only [ho, Option.map_some, Option.getD_some, hk, Bool.not_true, Bool.false_or] at h1
  have h2 := Array.all_eq_true_iff_forall_mem.1 h1 e he
  simpa [hb] using h2
theorem ShutS.step {listed : Array Bool} (h : ShutS md ops listed) {i : Nat} (hi : i ∈ Region.ready md ops listed) : ShutS md ops (listed.setIfInBounds i true) := by
  intro k o ho hk e he hb
  by_cases hik : k = i
  · subst hik
    obtain ⟨_, o', ho', hall⟩ := mem_ready.1 hi
    rw [ho] at ho'
    injection ho' with ho'
    subst ho'
    exact getD_set_true (hall e he hb)
  · rw [getD_set_ne false (fun e => hik e.symm)] at hk
    exact getD_set_true (h k o ho hk e he hb)
/-- i comes before j, in whatever order. -/
def ancB (md : Region.Mode) (ops : Array Oper) : Nat → Nat → Nat → Bool
  | 0, _, _ => false
  | f + 1, j, i => match ops[j]? with
    | some o => o.after.any fun e => Region.binds md e && (e.on == i || ancB md ops f e.on i)
    | none => false
theorem ancB_spec {listed : Array Bool} (hs : ShutS md ops listed) : ∀ (f j i : Nat) (o : Oper), ops[j]? = some o → (∀ e ∈ o.after, Region.binds md e = true → listed.getD e.on false = true) → ancB md ops f j i = true → listed.getD i false = true
  | 0, _, _, _, _, _, h => by simp [ancB] at h
  | f + 1, j, i, o, ho, hall, h => by
    simp only [ancB, ho] at h
    obtain ⟨e, he, hb⟩ := Array.any_eq_true'.1 h
    simp only [Bool.and_eq_true, Bool.or_eq_true, beq_iff_eq] at hb
    have hl := hall e he hb.1
    rcases hb.2 with rfl | h2
    · exact hl
    · cases ho2 : ops[e.on]? with
      | none => cases f <;> simp [ancB, ho2] at h2
      | some o2 => exact ancB_spec hs f e.on i o2 ho2 (hs _ _ ho2 hl) h2
theorem late_set {listed : Array Bool} {i : Nat} (hn : late.contains i = false) : lateFree late (listed.setIfInBounds i true) = lateFree late listed := by
  unfold lateFree
  rw [Bool.eq_iff_iff, List.all_eq_true, List.all_eq_true]
  have hne : ∀ j ∈ late, i ≠ j := fun j hj e => by subst e; simp [hj] at hn
  constructor
  · intro h j hj
    have := h j hj
    rwa [getD_set_ne false (hne j hj)] at this
  · intro h j hj
    rw [getD_set_ne false (hne j hj)]
    exact h j hj
theorem late_shut {listed : Array Bool} (hs : ShutS md ops listed) {i f : Nat} (hi : listed.getD i false = false) (hl : ∀ j, late.contains j = true → ancB md ops f j i = true) : lateFree late listed = true := by
  unfold lateFree
  rw [List.all_eq_true]
  intro j hj
  cases hc : listed.getD j false with
  | false => rfl
  | true =>
    exfalso
    have ha := hl j (by simpa using hj)
    cases ho : ops[j]? with
    | none => cases f <;> simp [ancB, ho] at ha
    | some o =>
      have := ancB_spec hs f j i o ho (hs j o ho hc) ha
      rw [hi] at this
      cases this
theorem ready_not {listed : Array Bool} {i : Nat} (hi : i ∈ Region.ready md ops listed) : listed.getD i false = false := by
  have h0 := (mem_ready.1 hi).1
  rcases Nat.lt_or_ge i listed.size with h' | h'
  · simp [h'] at h0 ⊢; exact h0
  · simp [h']
/-- In every world of S the operation yields v, and leaves the world alone. -/
def YieldsS (P : Program) (S : World → Prop) (o : Oper) (v : Value) (a : Act) : Prop := o.guard = none ∧ (∀ c, o.op ≠ .defer c) ∧ ∀ w, S w → (execOp a.eval o).run P w = .ok (.value v) w
theorem YieldsS.of_same {o : Oper} {v : Value} {a a' : Act} (hy : YieldsS P S o v a) (he : execOp a'.eval o = execOp a.eval o) : YieldsS P S o v a' := ⟨hy.1, hy.2.1, fun w hw => by rw [he]; exact hy.2.2 w hw⟩
theorem YieldsS.op (hF : ∀ f, F.fn f) {i : Nat} {o : Oper} {v : Value} {a : Act} (hi : ops[i]? = some o) (hy : YieldsS P S o v a) {K : Act → World → Prop} {w : World} (hw : S w) (h : K (a.put o.dst v) w) : wpOpIn F n P ops Q i K a w := by
  unfold wpOpIn
  simp only [hi]
  rw [if_pos (by simp [Region.wanted, hy.1])]
  unfold Oper.wpIn
  rw [Oper.semAt_plain F _ _ hy.2.1, hy.2.2 w hw]
  exact ⟨fun f _ => hF f, h⟩
theorem wpOpIn_putS (hF : ∀ f, F.fn f) {i j : Nat} {oi oj : Oper} {v : Value} (hj : ops[j]? = some oj) (hap : oi.apart ops oj = true) (hsi : ∀ cs b, oi.op ≠ .select cs b) (hsj : ∀ cs b, oj.op ≠ .select cs b) (hdj : ∀ c, oj.op ≠ .defer c)
    (hQ : ∀ c a w, Q (.panic c) (a.put oi.dst v) w → Q (.panic c) a w) {K : Act → World → Prop} {a : Act} {w : World} (hy : YieldsS P S oi v a) (h : wpOpIn F n P ops Q j K (a.put oi.dst v) w) :
    wpOpIn F n P ops Q j (fun a' w' => YieldsS P S oi v a' ∧ K (a'.put oi.dst v) w') a w := by
  obtain ⟨h1, h2, h3⟩ := Oper.apart_spec hap
  have keep : ∀ (a : Act), YieldsS P S oi v a → ∀ u, YieldsS P S oi v (a.put oj.dst u) := fun a hy u => hy.of_same (execOp_put oi hsi a oj.dst u h3)
  unfold wpOpIn at *
  simp only [hj] at *
  rw [wanted_put oj a oi.dst v h1] at h
  split
  · rename_i hw
    simp only [hw, if_true] at h
    unfold Oper.wpIn at *
    refine ⟨fun f _ => hF f, ?_⟩
    have h := h.2
    rw [Oper.semAt_plain F _ _ hdj, execOp_put oj hsj a oi.dst v h1] at h
    rw [Oper.semAt_plain F _ _ hdj]
    generalize (execOp a.eval oj).run P w = r at *
    cases r with
    | ok x w' =>
      cases x <;> simp only [Oper.uponIn] at h ⊢
      case value u => exact ⟨keep a hy u, by rw [← Act.put_comm a v u h2]; exact h⟩
      case skip => exact ⟨keep a hy _, by rw [← Act.put_comm a v undef h2]; exact h⟩
      case defer d =>
        refine ⟨keep { a with defers := d :: a.defers } (hy.of_same rfl) _, ?_⟩
        rw [← Act.put_comm _ v undef h2, ← Act.put_defers]
        exact h
      case enter f args =>
        refine ⟨h.1, CallsIn.mono h.2 fun e w'' he => ?_⟩
        cases e with
        | returned u => exact ⟨keep a hy u, by rw [← Act.put_comm a v u h2]; exact he⟩
        | panicked c => exact hQ _ _ _ he
        | outgrown => exact he
      case row row args => exact ⟨h.1, RowsIn.mono h.2 fun u w'' he => ⟨keep a hy u, by rw [← Act.put_comm a v u h2]; exact he⟩⟩
      case round l f tmps assign body =>
        refine ⟨h.1, RoundIn.mono h.2 fun e w'' he => ?_⟩
        cases e with
        | returned u => exact ⟨keep a hy u, by rw [← Act.put_comm a v u h2]; exact he⟩
        | panicked c => exact hQ _ _ _ he
        | outgrown => exact he
    | halt x w' =>
      cases x <;> simp only [Oper.uponIn] at h ⊢
      case panic u => exact hQ _ _ _ h
  · rename_i hw
    simp only [hw] at h
    exact ⟨fun f _ => hF f, keep a hy _, by rw [← Act.put_comm a v undef h2]; exact h.2⟩

theorem wpAnyS_first {i f0 : Nat} {oi : Oper} {v : Value} {pure : Bool} (hF : ∀ f, F.fn f) (hi : ops[i]? = some oi) (hsel : ∀ (j : Nat) (o : Oper) cs b, ops[j]? = some o → o.op ≠ .select cs b) (hdef : ∀ (j : Nat) (o : Oper) c, ops[j]? = some o → o.op ≠ .defer c)
    (hQ : ∀ c a w, Q (.panic c) (a.put oi.dst v) w → Q (.panic c) a w) (hni : late.contains i = false) (hl : pure = false → ∀ j, late.contains j = true → ancB md ops f0 j i = true) :
    ∀ (fuel : Nat) (listed : Array Bool) (a : Act) (w : World),
      (∀ j oj, ops[j]? = some oj → j ≠ i → listed.getD j true = false → (∀ e ∈ oj.after, Region.binds md e = true → e.on ≠ i) → oi.apart ops oj = true) →
      ShutS md ops listed → i ∈ Region.ready md ops listed → YieldsS P (fun w => pure = false → S w) oi v a → (lateFree late listed = true → S w) →
      wpAnyS F n P md ops Q S late fuel (listed.setIfInBounds i true) (a.put oi.dst v) w → wpAnyS F n P md ops Q S late (fuel + 1) listed a w := by
  intro fuel
  induction fuel with
  | zero =>
    intro listed a w _ hsh hr hy hw H
    refine ⟨fun h => (by rw [h] at hr; cases hr), fun j hj => ?_⟩
    by_cases hji : j = i
    · subst hji; exact hy.op hF hi (fun hp => hw (late_shut hsh (ready_not hr) (hl hp))) ⟨fun h => hw (by rwa [late_set hni] at h), H⟩
    · have := ready_mono hj hji
      rw [H.1] at this
      cases this
  | succ fuel ih =>
    intro listed a w hfree hsh hr hy hw H
    refine ⟨fun h => (by rw [h] at hr; cases hr), fun j hj => ?_⟩
    by_cases hji : j = i
    · subst hji; exact hy.op hF hi (fun hp => hw (late_shut hsh (ready_not hr) (hl hp))) ⟨fun h => hw (by rwa [late_set hni] at h), H⟩
    · have h1 := H.2 j (ready_mono hj hji)
      obtain ⟨hjun, oj, hoj, hall⟩ := mem_ready.1 hj
      have hnot : ∀ e ∈ oj.after, Region.binds md e = true → e.on ≠ i := fun e he hb heq => by
        have h1 := hall e he hb
        rw [heq, ready_not hr] at h1
        cases h1
      have h2 := wpOpIn_putS (i := i) hF hoj (hfree j oj hoj hji hjun hnot) (fun cs b => hsel i oi cs b hi) (fun cs b => hsel j oj cs b hoj) (fun c => hdef j oj c hoj) hQ hy h1
      have hfree' : ∀ k ok, ops[k]? = some ok → k ≠ i → (listed.setIfInBounds j true).getD k true = false →
          (∀ e ∈ ok.after, Region.binds md e = true → e.on ≠ i) → oi.apart ops ok = true := fun k ok hk hki hun hno => by
        refine hfree k ok hk hki ?_ hno
        by_cases hjk : j = k
        · subst hjk; exact hjun
        · rw [getD_set_ne true hjk] at hun; exact hun
      have hcm : (listed.setIfInBounds i true).setIfInBounds j true = (listed.setIfInBounds j true).setIfInBounds i true := Array.setIfInBounds_comm _ _ (Ne.symm hji)
      refine wpOpIn_mono (fun a' w' h3 => ?_) h2
      have hS : lateFree late (listed.setIfInBounds j true) = true → S w' := fun h => h3.2.1 (by rw [hcm, late_set hni]; exact h)
      refine ⟨hS, ih (listed.setIfInBounds j true) a' w' hfree' (hsh.step hj) (ready_mono hr (Ne.symm hji)) h3.1 hS ?_⟩
      rw [← hcm]
      exact h3.2.2
def plainB (ops : Array Oper) : Bool := ops.all fun o => match o.op with | .select .. => false | .defer .. => false | _ => true
theorem plainB_spec (h : plainB ops = true) : (∀ (j : Nat) (o : Oper) cs b, ops[j]? = some o → o.op ≠ .select cs b) ∧ ∀ (j : Nat) (o : Oper) c, ops[j]? = some o → o.op ≠ .defer c := by
  refine ⟨fun j o cs b ho heq => ?_, fun j o c ho heq => ?_⟩ <;>
  · have := Array.all_eq_true_iff_forall_mem.1 h o (Array.mem_of_getElem? ho)
    simp [heq] at this
/-- The operation may be taken first. -/
def takeB (md : Region.Mode) (ops : Array Oper) (late : List Nat) (listed : Array Bool) (pure : Bool) (i : Nat) : Bool :=
  (Region.ready md ops listed).contains i && Region.free md ops listed i && shutB md ops listed && plainB ops && !late.contains i && (pure || late.all (fun j => ancB md ops ops.size j i))
theorem wpAnyS_take_ {pure : Bool} {i : Nat} {oi : Oper} {v : Value} {fuel : Nat} {listed : Array Bool} {a : Act} {w : World} (hF : ∀ f, F.fn f) (hi : ops[i]? = some oi) (ht : takeB md ops late listed pure i = true)
    (hQ : ∀ c a (d : Tmp) v w, Q (.panic c) (a.put (some d) v) w → Q (.panic c) a w) (hy : YieldsS P (fun w => pure = false → S w) oi v a) (hw : lateFree late listed = true → S w)
    (h : wpAnyS F n P md ops Q S late fuel (listed.setIfInBounds i true) (a.put oi.dst v) w) : wpAnyS F n P md ops Q S late (fuel + 1) listed a w := by
  simp only [takeB, Bool.and_eq_true] at ht
  obtain ⟨⟨⟨⟨⟨h1, h2⟩, h3⟩, h4⟩, h6⟩, h5⟩ := ht
  obtain ⟨p1, p2⟩ := plainB_spec h4
  refine wpAnyS_first (f0 := ops.size) hF hi p1 p2 (fun c a w h => by
    cases hd : oi.dst with
    | none => rw [hd] at h; exact h
    | some d => rw [hd] at h; exact hQ c a d _ w h) (by simpa using h6) (fun hp j hj => ?_) fuel listed a w (Region.free_spec hi h2) (shutB_spec h3) (by simpa using h1) hy hw h
  rw [hp] at h5
  simp only [Bool.false_or, List.all_eq_true] at h5
  exact h5 j (by simpa using hj)
/-- A load is taken first. -/
theorem wpAnyS_take (i : Nat) {oi : Oper} {v : Value} {fuel : Nat} {listed : Array Bool} {a : Act} {w : World} (hF : ∀ f, F.fn f) (hi : ops[i]? = some oi) (ht : takeB md ops late listed false i = true)
    (hQ : ∀ c a (d : Tmp) v w, Q (.panic c) (a.put (some d) v) w → Q (.panic c) a w) (hy : YieldsS P S oi v a) (hw : S w)
    (h : wpAnyS F n P md ops Q S late fuel (listed.setIfInBounds i true) (a.put oi.dst v) w) : wpAnyS F n P md ops Q S late (fuel + 1) listed a w :=
  wpAnyS_take_ hF hi ht hQ ⟨hy.1, hy.2.1, fun w hw => hy.2.2 w (hw rfl)⟩ (fun _ => hw) h
/-- What yields its value in every world is taken first, as long as S is known. -/
theorem wpAnyS_pure (i : Nat) {oi : Oper} {v : Value} {fuel : Nat} {listed : Array Bool} {a : Act} {w : World} (hF : ∀ f, F.fn f) (hi : ops[i]? = some oi) (ht : takeB md ops late listed true i = true)
    (hQ : ∀ c a (d : Tmp) v w, Q (.panic c) (a.put (some d) v) w → Q (.panic c) a w) (hy : YieldsS P (fun _ => True) oi v a) (hw : S w)
    (h : wpAnyS F n P md ops Q S late fuel (listed.setIfInBounds i true) (a.put oi.dst v) w) : wpAnyS F n P md ops Q S late (fuel + 1) listed a w :=
  wpAnyS_take_ hF hi ht hQ ⟨hy.1, hy.2.1, fun w _ => hy.2.2 w trivial⟩ (fun _ => hw) h
/-- .. and behind the first of the late ones. -/
theorem wpAnyS_pureL (i : Nat) {oi : Oper} {v : Value} {fuel : Nat} {listed : Array Bool} {a : Act} {w : World} (hF : ∀ f, F.fn f) (hi : ops[i]? = some oi) (ht : takeB md ops late listed true i = true) (hlf : lateFree late listed = false)
    (hQ : ∀ c a (d : Tmp) v w, Q (.panic c) (a.put (some d) v) w → Q (.panic c) a w) (hy : YieldsS P (fun _ => True) oi v a)
    (h : wpAnyS F n P md ops Q S late fuel (listed.setIfInBounds i true) (a.put oi.dst v) w) : wpAnyS F n P md ops Q S late (fuel + 1) listed a w :=
  wpAnyS_take_ hF hi ht hQ ⟨hy.1, hy.2.1, fun w _ => hy.2.2 w trivial⟩ (fun h => by rw [hlf] at h; cases h) h
def AllReadyS (F : Fence) (n : Nat) (P : Program) (md : Region.Mode) (ops : Array Oper) (Q : Exit → Act → World → Prop) (S : World → Prop) (late : List Nat) (fuel : Nat) (listed : Array Bool) (a : Act) (w : World) (rs : List Nat) : Prop :=
  ∀ i ∈ rs, wpOpIn F n P ops Q i (fun a' w' => (lateFree late (listed.setIfInBounds i true) = true → S w') ∧ wpAnyS F n P md ops Q S late fuel (listed.setIfInBounds i true) a' w') a w
theorem wpAnyS_ready (rs : List Nat) {fuel : Nat} {listed : Array Bool} {a : Act} {w : World} (hr : Region.ready md ops listed = rs) (hne : rs ≠ []) (h : AllReadyS F n P md ops Q S late fuel listed a w rs) : wpAnyS F n P md ops Q S late (fuel + 1) listed a w :=
  ⟨fun h0 => absurd (hr ▸ h0) hne, hr ▸ h⟩
theorem AllReadyS.nil {fuel : Nat} {listed : Array Bool} {a : Act} {w : World} : AllReadyS F n P md ops Q S late fuel listed a w [] := fun _ h => by cases h
theorem AllReadyS.cons {fuel : Nat} {listed : Array Bool} {a : Act} {w : World} {i : Nat} {o : Oper} {rs : List Nat} (ho : ops[i]? = some o) (hg : o.guard = none)
    (h : ∀ K' : Act → World → Prop, Hid (∀ a w, S w → wpAnyS F n P md ops Q S late fuel (listed.setIfInBounds i true) a w → K' a w) → Oper.wpIn F n P o a w K' Q)
    (hs : AllReadyS F n P md ops Q S late fuel listed a w rs) : AllReadyS F n P md ops Q S late fuel listed a w (i :: rs) := fun j hj => by
  rcases List.mem_cons.1 hj with rfl | hj
  · unfold wpOpIn
    simp only [ho]
    rw [if_pos (by simp [Region.wanted, hg])]
    exact h _ (hid fun a w h1 h2 => ⟨fun _ => h1, h2⟩)
  · exact hs j hj
/-- A late one, or one that comes behind a late one: S is not asked. -/
theorem AllReadyS.consL {fuel : Nat} {listed : Array Bool} {a : Act} {w : World} {i : Nat} {o : Oper} {rs : List Nat} (ho : ops[i]? = some o) (hg : o.guard = none) (hlf : lateFree late (listed.setIfInBounds i true) = false)
    (h : ∀ K' : Act → World → Prop, Hid (∀ a w, wpAnyS F n P md ops Q S late fuel (listed.setIfInBounds i true) a w → K' a w) → Oper.wpIn F n P o a w K' Q)
    (hs : AllReadyS F n P md ops Q S late fuel listed a w rs) : AllReadyS F n P md ops Q S late fuel listed a w (i :: rs) := fun j hj => by
  rcases List.mem_cons.1 hj with rfl | hj
  · unfold wpOpIn
    simp only [ho]
    rw [if_pos (by simp [Region.wanted, hg])]
    exact h _ (hid fun a w h2 => ⟨fun h1 => (by rw [hlf] at h1; cases h1), h2⟩)
  · exact hs j hj
theorem wpAnyS_done {fuel : Nat} {listed : Array Bool} {a : Act} {w : World} (hr : Region.ready md ops listed = []) (h : Q .normal a w) : wpAnyS F n P md ops Q S late fuel listed a w := by
  cases fuel with
  | zero => exact ⟨hr, h⟩
  | succ _ => exact ⟨fun _ => h, by rw [hr]; simp⟩
end
theorem uponIn_of_value {F : Fence} {n : Nat} {P : Program} {o : Oper} {a : Act} {w w' : World} {v : Value} {K : Act → World → Prop} {Q : Exit → Act → World → Prop} (hF : ∀ f, F.fn f) (hd : ∀ c, o.op ≠ .defer c) (hr : (execOp a.eval o).run P w = .ok (.value v) w') (h : K (a.put o.dst v) w') : o.wpIn F n P a w K Q := by
  unfold Oper.wpIn
  rw [Oper.semAt_plain F _ _ hd, hr]
  exact ⟨fun f _ => hF f, h⟩
/-- A call of a Go function that comes up. -/
theorem callS {n : Nat} {P : Program} {o : Oper} {a : Act} {w : World} {K : Act → World → Prop} {Q : Exit → Act → World → Prop} {f : FuncId} {args : Array Value} {v : Value} {R : World → Prop} (hd : ∀ c, o.op ≠ .defer c)
    (hr : (execOp a.eval o).run P w = .ok (.enter f args) w) (hc : Calls P f args w fun e w' => e = .returned v ∧ R w') (h : ∀ w', R w' → K (a.put o.dst v) w') : o.wpIn Fence.wide n P a w K Q := by
  unfold Oper.wpIn
  rw [Oper.semAt_plain _ _ _ hd, hr]
  exact ⟨fun f _ => trivial, fun h => by simp [Fence.wide] at h, callsIn_wide.2 (hc.mono fun e w' he => by obtain ⟨rfl, hR⟩ := he; exact h w' hR)⟩
end Go.Proofs.YtbefmjodpndndaaDoor
