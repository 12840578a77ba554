
/- Stock: what Plan's inner loop does: the plain law of StockFirst. -/
import Derived.Test.YtmffdhfpfijocaaStkPb
set_option linter.unusedSimpArgs false
set_option linter.unusedVariables false
namespace Go.Proofs.Ytmffdhfpfijocaa
open Go.RowKit Go.IntWalk

theorem serve_acc : ∀ (l : List Nat) (need : Int) (bs : List Bx) (ts : List Tk), serve l need bs ts = ((serve l need bs []).1, (serve l need bs []).2.1, ts ++ (serve l need bs []).2.2)
  | [], need, bs, ts => by simp [serve]
  | i :: r, need, bs, ts => by
    simp only [serve, List.nil_append]
    split
    · simp
    · rw [serve_acc r _ _ (ts ++ _), serve_acc r _ _ [_]]
      simp
theorem serve_zero (l : List Nat) (bs : List Bx) (h : ∀ i ∈ l, 0 < cntAt bs i) : serve l 0 bs [] = (0, bs, []) := by
  cases l with
  | nil => rfl
  | cons i r =>
    have := h i (List.mem_cons_self ..)
    simp only [serve]
    rw [if_pos (by omega)]
/-- The takes, one after the other, lead from the boxes to bs'; each is of a box that fits. -/
def Serves (lots : List Lt) (w : Wt) : List Bx → List Tk → List Bx → Prop
  | bs, [], bs' => bs' = bs
  | bs, t :: ts, bs' => ∃ k : Nat, t.1 = k ∧ k < bs.length ∧ 1 ≤ t.2 ∧ t.2 ≤ cntAt bs k ∧ hasF lots w (bs.getD k z3) = true ∧ Serves lots w (subAt bs k t.2) ts bs'
theorem cnt_sub {bs : List Bx} {i : Nat} (hi : i < bs.length) (m : Int) (k : Nat) : cntAt (subAt bs i m) k = if k = i then cntAt bs i - m else cntAt bs k := by
  have h := subAt_at hi m k
  unfold cntAt
  show ((subAt bs i m).getD k z3).2.1 = _
  rw [h]
  split <;> rfl
theorem lot_sub {bs : List Bx} {i : Nat} (hi : i < bs.length) (m : Int) (k : Nat) : ((subAt bs i m).getD k z3).1 = (bs.getD k z3).1 := by
  rw [subAt_at hi]
  split
  · rename_i e; rw [e]
  · rfl
theorem has_lot {lots : List Lt} {w : Wt} {a b : Bx} (h : a.1 = b.1) : hasF lots w a = hasF lots w b := by
  unfold hasF lotAt
  rw [h]
theorem exp_lot {lots : List Lt} {bs cs : List Bx} {k : Nat} (h : (bs.getD k z3).1 = (cs.getD k z3).1) : expAt lots bs k = expAt lots cs k := by
  have h' : (bs.getD k (0, 0, 0)).1 = (cs.getD k (0, 0, 0)).1 := h
  unfold expAt lotAt
  rw [h']
def sumT (ts : List Tk) : Int := sumI (ts.map (fun t => t.2))
structure Srv (lots : List Lt) (w : Wt) (l : List Nat) (need : Int) (bs : List Bx) (need' : Int) (bs' : List Bx) (ts : List Tk) : Prop where
  srv : Serves lots w bs ts bs'
  nn : 0 ≤ need'
  sum : need' + sumT ts = need
  mem : ∀ t ∈ ts, ∃ k ∈ l, t.1 = (k : Int)
  nodup : (ts.map (fun t => t.1)).Nodup
  far : ∀ k, k ∉ l → bs'.getD k z3 = bs.getD k z3
  order : ∀ key, Srt key l → ∀ k ∈ l, 0 < cntAt bs' k → ∀ t ∈ ts, key t.1.toNat ≤ key k
  dry : 0 < need' → ∀ k ∈ l, cntAt bs' k = 0
theorem serve_spec {lots : List Lt} {w : Wt} : ∀ (l : List Nat) (need : Int) (bs : List Bx), 0 ≤ need → l.Nodup → (∀ i ∈ l, i < bs.length ∧ 0 < cntAt bs i ∧ hasF lots w (bs.getD i z3) = true) →
    Srv lots w l need bs (serve l need bs []).1 (serve l need bs []).2.1 (serve l need bs []).2.2
  | [], need, bs, h0, _, _ => by
    simp only [serve]
    exact ⟨rfl, h0, by simp [sumT, sumI], by simp, by simp, fun _ _ => rfl, by simp, by simp⟩
  | i :: r, need, bs, h0, hnd, hal => by
    obtain ⟨hi, hc, hf⟩ := hal i (List.mem_cons_self ..)
    obtain ⟨hir, hnr⟩ := List.nodup_cons.1 hnd
    by_cases hz : min need (cntAt bs i) = 0
    · have e : serve (i :: r) need bs [] = (need, bs, []) := by simp only [serve]; rw [if_pos hz]
      rw [e]
      have : need = 0 := by omega
      exact ⟨rfl, h0, by simp [sumT, sumI], by simp, by simp, fun _ _ => rfl, by simp, fun h => by simp only at h; omega⟩
    · generalize hm : min need (cntAt bs i) = m at *
      have hm1 : 1 ≤ m ∧ m ≤ need ∧ m ≤ cntAt bs i := by omega
      have e : serve (i :: r) need bs [] = ((serve r (need - m) (subAt bs i m) []).1, (serve r (need - m) (subAt bs i m) []).2.1, ((i : Int), m) :: (serve r (need - m) (subAt bs i m) []).2.2) := by
        simp only [serve, hm, List.nil_append]
        rw [if_neg hz, serve_acc]
        rfl
      have hr : ∀ k ∈ r, k < (subAt bs i m).length ∧ 0 < cntAt (subAt bs i m) k ∧ hasF lots w ((subAt bs i m).getD k z3) = true := by
        intro k hk
        obtain ⟨a1, a2, a3⟩ := hal k (List.mem_cons_of_mem _ hk)
        have hne : k ≠ i := fun e => hir (e ▸ hk)
        refine ⟨by rw [subAt_len]; exact a1, by rw [cnt_sub hi, if_neg hne]; exact a2, by rw [has_lot (lot_sub hi m k)]; exact a3⟩
      have ih := serve_spec r (need - m) (subAt bs i m) (by omega) hnr hr
      have hz0 : need - m = 0 → serve r (need - m) (subAt bs i m) [] = (0, subAt bs i m, []) := fun h => by rw [h]; exact serve_zero r _ (fun k hk => (hr k hk).2.1)
      rw [e]
      generalize hq : serve r (need - m) (subAt bs i m) [] = q at *
      obtain ⟨n', bs', ts⟩ := q
      simp only at ih ⊢
      have hfi := ih.far i hir
      have hci : cntAt bs' i = cntAt bs i - m := by
        have : cntAt bs' i = cntAt (subAt bs i m) i := by unfold cntAt; exact congrArg (fun x => x.2.1) hfi
        rw [this, cnt_sub hi, if_pos rfl]
      refine ⟨⟨i, rfl, hi, hm1.1, hm1.2.2, hf, ih.srv⟩, ih.nn, ?_, ?_, ?_, ?_, ?_, ?_⟩
      · have := ih.sum
        simp only [sumT, List.map_cons, sumI, List.foldr_cons] at this ⊢
        omega
      · intro t ht
        rcases List.mem_cons.1 ht with rfl | ht
        · exact ⟨i, List.mem_cons_self .., rfl⟩
        · obtain ⟨k, hk, e⟩ := ih.mem t ht
          exact ⟨k, List.mem_cons_of_mem _ hk, e⟩
      · rw [List.map_cons, List.nodup_cons]
        refine ⟨fun hmem => ?_, ih.nodup⟩
        obtain ⟨t, ht, e2⟩ := List.mem_map.1 hmem
        obtain ⟨k, hk, e3⟩ := ih.mem t ht
        simp only at e2
        have : k = i := by omega
        exact hir (this ▸ hk)
      · intro k hk
        have hki : k ≠ i := fun e => hk (e ▸ List.mem_cons_self ..)
        have hkr : k ∉ r := fun h => hk (List.mem_cons_of_mem _ h)
        rw [ih.far k hkr, subAt_at hi, if_neg hki]
      · intro key hs k hk hck t ht
        have hs' := List.pairwise_cons.1 hs
        rcases List.mem_cons.1 hk with rfl | hk
        · have : need - m = 0 := by omega
          have e9 := hz0 this
          injection e9 with _ e9
          injection e9 with _ e9
          subst e9
          rcases List.mem_cons.1 ht with rfl | ht
          · simp
          · cases ht
        · rcases List.mem_cons.1 ht with rfl | ht
          · simpa using hs'.1 k hk
          · exact ih.order key hs'.2 k hk hck t ht
      · intro hn k hk
        rcases List.mem_cons.1 hk with rfl | hk
        · have : ¬ need - m = 0 := fun h => by
            have e9 := hz0 h
            injection e9 with e9 _
            omega
          omega
        · exact ih.dry hn k hk
theorem Serves.same {lots : List Lt} {w : Wt} : ∀ {ts : List Tk} {bs bs' : List Bx}, Serves lots w bs ts bs' → bs'.length = bs.length ∧ (∀ k, (bs'.getD k z3).1 = (bs.getD k z3).1) ∧ ∀ k, cntAt bs' k ≤ cntAt bs k
  | [], bs, bs', h => by
    simp only [Serves] at h
    subst h
    exact ⟨rfl, fun _ => rfl, fun _ => Int.le_refl _⟩
  | t :: ts, bs, bs', h => by
    obtain ⟨k, e, hk, h1, h2, hf, hs⟩ := h
    obtain ⟨a1, a2, a3⟩ := hs.same
    refine ⟨by rw [a1, subAt_len], fun j => by rw [a2, lot_sub hk], fun j => ?_⟩
    have := a3 j
    rw [cnt_sub hk] at this
    split at this
    · rename_i e; subst e; omega
    · exact this
/-- What the order of a want is, as serve needs it. -/
theorem order_ok {lots : List Lt} {bs : List Bx} {w : Wt} : (orderL lots bs w).Nodup ∧ ∀ i ∈ orderL lots bs w, i < bs.length ∧ 0 < cntAt bs i ∧ hasF lots w (bs.getD i z3) = true := ⟨orderL_nodup _ _ _, fun _ h => orderL_mem.1 h⟩
def lastL (lots : List Lt) (bs : List Bx) (ts : List Tk) : Int := ts.foldl (fun a t => max a (expAt lots bs t.1.toNat)) (-1)
theorem lastL_take {lots : List Lt} {bs : List Bx} {ts : List Tk} {k : Nat} (h : k < ts.length) : lastL lots bs (ts.take (k + 1)) = max (lastL lots bs (ts.take k)) (expAt lots bs ts[k].1.toNat) := by
  unfold lastL
  rw [List.take_add_one, List.getElem?_eq_getElem h, Option.toList_some, List.foldl_append]
  rfl
theorem lastL_le {lots : List Lt} {bs : List Bx} {x : Int} (h0 : -1 ≤ x) : ∀ {ts : List Tk}, (∀ t ∈ ts, expAt lots bs t.1.toNat ≤ x) → lastL lots bs ts ≤ x := by
  have key : ∀ (ts : List Tk) (a : Int), a ≤ x → (∀ t ∈ ts, expAt lots bs t.1.toNat ≤ x) → ts.foldl (fun a t => max a (expAt lots bs t.1.toNat)) a ≤ x := by
    intro ts
    induction ts with
    | nil => intro a ha _; exact ha
    | cons t ts ih =>
      intro a ha h
      have h1 := h t (List.mem_cons_self ..)
      exact ih _ (show max a (expAt lots bs t.1.toNat) ≤ x by omega) (fun t ht => h t (List.mem_cons_of_mem _ ht))
  intro ts h
  exact key ts (-1) h0 h
/-- THE LAW: what is left of a box that fits does not expire before what was taken. -/
theorem first_law {lots : List Lt} {bs : List Bx} {w : Wt} {need : Int} {bs' : List Bx} {ts : List Tk} {n' : Int} (h : Srv lots w (orderL lots bs w) need bs n' bs' ts) {k : Nat} (hk : k < bs.length) (hf : hasF lots w (bs'.getD k z3) = true) (hc : 0 < cntAt bs' k) (he : 0 ≤ expAt lots bs' k) : lastL lots bs ts ≤ expAt lots bs' k := by
  obtain ⟨a1, a2, a3⟩ := h.srv.same
  have hko : k ∈ orderL lots bs w := orderL_mem.2 ⟨hk, by have := a3 k; omega, by
    have := has_lot (lots := lots) (w := w) (a2 k)
    rw [hf] at this
    exact this.symm⟩
  rw [exp_lot (a2 k)] at he ⊢
  exact lastL_le (by omega) (fun t ht => h.order (expAt lots bs) (orderL_srt _ _ _) k hko hc t ht)
/-- What Plan's outer loop does. -/
def Plans (lots : List Lt) : List Wt → List Bx → List (List Tk) → List Bx → Prop
  | [], bs, [], bs' => bs' = bs
  | w :: ws, bs, p :: ps, bs' => ∃ bs1, Srv lots w (orderL lots bs w) w.2.1 bs 0 bs1 p ∧ Plans lots ws bs1 ps bs'
  | _, _, _, _ => False
theorem plans_of {lots : List Lt} : ∀ {ws : List Wt} {bs : List Bx} {out : List (List Tk)} {r : List (List Tk) × List Bx}, (∀ w ∈ ws, 0 ≤ w.2.1) → planS lots ws bs out = some r → ∃ ps, r.1 = out ++ ps ∧ Plans lots ws bs ps r.2
  | [], bs, out, r, _, h => by
    simp only [planS, Option.some.injEq] at h
    subst h
    exact ⟨[], by simp, rfl⟩
  | w :: ws, bs, out, r, hw, h => by
    simp only [planS] at h
    split at h
    · cases h
    rename_i hn
    have hs := serve_spec (lots := lots) (w := w) (orderL lots bs w) w.2.1 bs (hw w (List.mem_cons_self ..)) order_ok.1 order_ok.2
    obtain ⟨ps, h1, h2⟩ := plans_of (fun x hx => hw x (List.mem_cons_of_mem _ hx)) h
    have h0 : (serve (orderL lots bs w) w.2.1 bs []).1 = 0 := by have := hs.nn; omega
    rw [h0] at hs
    exact ⟨_ :: ps, by rw [h1, List.append_assoc]; rfl, _, hs, h2⟩
theorem Plans.len {lots : List Lt} : ∀ {ws : List Wt} {bs bs' : List Bx} {ps : List (List Tk)}, Plans lots ws bs ps bs' → ps.length = ws.length
  | [], _, _, [], _ => rfl
  | [], _, _, _ :: _, h => by simp [Plans] at h
  | _ :: _, _, _, [], h => by simp [Plans] at h
  | w :: ws, bs, bs', p :: ps, h => by
    obtain ⟨b1, _, h2⟩ := h
    simp [h2.len]
theorem planL_ok {lots : List Lt} {bs : List Bx} {wants : List Wt} (h : (planL lots bs wants).2 = 0) : (∀ w ∈ wants, wantF w = true) ∧ ∃ bs', Plans lots wants bs (planL lots bs wants).1 bs' := by
  unfold planL at h ⊢
  split at h
  · exact absurd h (by decide)
  rename_i h1
  rw [if_neg h1]
  have hw : ∀ w ∈ wants, wantF w = true := fun w hw => by
    simp only [List.any_eq_true, not_exists, not_and] at h1
    have := h1 w hw
    simpa using this
  refine ⟨hw, ?_⟩
  cases hp : planS lots wants bs [] with
  | none => rw [hp] at h; exact absurd h (by decide)
  | some r =>
    obtain ⟨ps, e, h2⟩ := plans_of (fun w h => by
      have := hw w h
      simp only [wantF, btw, Bool.and_eq_true, decide_eq_true_eq] at this
      omega) hp
    simp only [List.nil_append] at e
    simp only [e]
    exact ⟨r.2, h2⟩
theorem planL_bad {lots : List Lt} {bs : List Bx} {wants : List Wt} (h : (planL lots bs wants).2 ≠ 0) : (planL lots bs wants).1 = [] := by
  unfold planL at h ⊢
  split
  · rfl
  rename_i h1
  rw [if_neg h1] at h
  cases hp : planS lots wants bs [] with
  | none => rfl
  | some r => rw [hp] at h; exact absurd rfl h
theorem right_exp {ks : List Kd} {lots : List Lt} {bs : List Bx} (h : rightS ks lots bs = true) {j : Nat} (hj : j < lots.length) : 0 ≤ lots[j].2.1 ∧ lots[j].2.1 ≤ 20000 := by
  have hl := List.all_eq_true.1 (right_kinds h).2.1 _ (List.getElem_mem hj)
  simp only [lotF, btw, Bool.and_eq_true, decide_eq_true_eq] at hl
  omega
theorem has_parts {lots : List Lt} {w : Wt} {b : Bx} (h : hasF lots w b = true) : 0 ≤ b.1 ∧ b.1 < lots.length := by
  simp only [hasF, Bool.and_eq_true, decide_eq_true_eq] at h
  exact h.1
end Go.Proofs.Ytmffdhfpfijocaa
