
/- Stock: the plain law of StockPlans. -/
import Derived.Test.YtmffdhfpfijocaaStkFa
set_option linter.unusedSimpArgs false
set_option linter.unusedVariables false
namespace Go.Proofs.Ytmffdhfpfijocaa
open Go.RowKit Go.IntWalk

/-- What the wants of a kind, from a tick on, ask for. -/
def askL (ws : List Wt) (v : Wt) : Int := sumI ((ws.filter (fun x => decide (x.1 = v.1) && decide (v.2.2 ≤ x.2.2))).map (fun x => x.2.1))
theorem askL_cons (w : Wt) (ws : List Wt) (v : Wt) : askL (w :: ws) v = (if decide (w.1 = v.1) && decide (v.2.2 ≤ w.2.2) then w.2.1 else 0) + askL ws v := by
  unfold askL
  by_cases h : (decide (w.1 = v.1) && decide (v.2.2 ≤ w.2.2)) = true
  · rw [if_pos h]; simp only [List.filter_cons, h, if_true, List.map_cons, sumI, List.foldr_cons]
  · rw [if_neg h]; simp only [List.filter_cons, h]; simp
theorem askL_app (a b : List Wt) (v : Wt) : askL (a ++ b) v = askL a v + askL b v := by
  unfold askL
  rw [List.filter_append, List.map_append, sumI_app]
theorem askL_take {ws : List Wt} {v : Wt} {k : Nat} (h : k < ws.length) : askL (ws.take (k + 1)) v = askL (ws.take k) v + if decide (ws[k].1 = v.1) && decide (v.2.2 ≤ ws[k].2.2) then ws[k].2.1 else 0 := by
  rw [List.take_add_one, List.getElem?_eq_getElem h, Option.toList_some, askL_app, askL_cons]
  simp [askL, sumI]
theorem askL_nn {ws : List Wt} (h : ∀ w ∈ ws, 0 ≤ w.2.1) (v : Wt) : 0 ≤ askL ws v := by
  induction ws with
  | nil => simp [askL, sumI]
  | cons w ws ih =>
    have h0 := h w (List.mem_cons_self ..)
    have h1 := ih (fun x hx => h x (List.mem_cons_of_mem _ hx))
    rw [askL_cons]
    split <;> omega
theorem askL_bd {ws : List Wt} (h : ∀ w ∈ ws, 0 ≤ w.2.1 ∧ w.2.1 ≤ 20000) (v : Wt) : ∀ k, k ≤ ws.length → 0 ≤ askL (ws.take k) v ∧ askL (ws.take k) v ≤ 20000 * k := by
  intro k
  induction k with
  | zero => intro _; simp [askL, sumI]
  | succ k ih =>
    intro hk
    have h1 := ih (by omega)
    have h2 := h _ (List.getElem_mem (show k < ws.length by omega))
    rw [askL_take (by omega)]
    split <;> constructor <;> omega
/-- The later threshold asks for less. -/
theorem askL_mono {ws : List Wt} (h : ∀ w ∈ ws, 0 ≤ w.2.1) {v u : Wt} (hk : v.1 = u.1) (hu : u.2.2 ≤ v.2.2) : askL ws v ≤ askL ws u := by
  induction ws with
  | nil => simp [askL, sumI]
  | cons w ws ih =>
    have h0 := h w (List.mem_cons_self ..)
    have h1 := ih (fun x hx => h x (List.mem_cons_of_mem _ hx))
    rw [askL_cons, askL_cons]
    by_cases a : (decide (w.1 = v.1) && decide (v.2.2 ≤ w.2.2)) = true
    · have b : (decide (w.1 = u.1) && decide (u.2.2 ≤ w.2.2)) = true := by
        simp only [Bool.and_eq_true, decide_eq_true_eq] at a ⊢
        omega
      rw [if_pos a, if_pos b]; omega
    · rw [if_neg a]; split <;> omega
def possL (lots : List Lt) (bs : List Bx) (ws : List Wt) : Bool := ws.all (fun w => decide (askL ws w ≤ supplyL lots bs w))
/-! ### Sums over boxes -/
theorem sumI_set {l : List Int} {k : Nat} (h : k < l.length) (y : Int) : sumI (l.set k y) = sumI l - l[k] + y := by
  induction l generalizing k with
  | nil => simp at h
  | cons a l ih =>
    cases k with
    | zero => simp only [sumI, List.set_cons_zero, List.foldr_cons, List.getElem_cons_zero]; omega
    | succ k =>
      have := ih (k := k) (by simpa using h)
      simp only [sumI, List.set_cons_succ, List.foldr_cons, List.getElem_cons_succ] at this ⊢
      omega
theorem sumI_le {T : Type} {l : List T} {f g : T → Int} (h : ∀ x ∈ l, f x ≤ g x) : sumI (l.map f) ≤ sumI (l.map g) := by
  induction l with
  | nil => simp [sumI]
  | cons a l ih =>
    have h0 := h a (List.mem_cons_self ..)
    have h1 := ih (fun x hx => h x (List.mem_cons_of_mem _ hx))
    simp only [sumI, List.map_cons, List.foldr_cons] at h1 ⊢
    omega
theorem supply_map (lots : List Lt) (bs : List Bx) (v : Wt) : supplyL lots bs v = sumI (bs.map (fun b => if hasF lots v b then b.2.1 else 0)) := by
  unfold supplyL
  induction bs with
  | nil => rfl
  | cons b bs ih =>
    by_cases h : hasF lots v b = true
    · simp only [List.filter_cons, h, if_true, List.map_cons, sumI, List.foldr_cons] at ih ⊢
      omega
    · simp only [List.filter_cons, h, List.map_cons, sumI, List.foldr_cons] at ih ⊢
      simp at ih ⊢
      omega
theorem supply_sub {lots : List Lt} {bs : List Bx} {k : Nat} (hk : k < bs.length) (m : Int) (v : Wt) : supplyL lots (subAt bs k m) v = supplyL lots bs v - if hasF lots v (bs.getD k z3) then m else 0 := by
  have e : bs.getD k z3 = bs[k] := by simp [hk]
  rw [supply_map, supply_map, subAt_eq hk, List.map_set, sumI_set (by simpa using hk), List.getElem_map, e]
  have e2 : hasF lots v (bs[k].1, bs[k].2.1 - m, bs[k].2.2) = hasF lots v bs[k] := rfl
  simp only [e2]
  split <;> omega
theorem units_sub {bs : List Bx} {k : Nat} (hk : k < bs.length) (m : Int) : unitsL (subAt bs k m) = unitsL bs - m := by
  unfold unitsL
  rw [subAt_eq hk, List.map_set, sumI_set (by simpa using hk), List.getElem_map]
  simp only
  omega
theorem supply_le {lots : List Lt} {bs : List Bx} {w v : Wt} (hc : CntOK bs) (h : ∀ k, k < bs.length → hasF lots w (bs.getD k z3) = true → 0 < cntAt bs k → hasF lots v (bs.getD k z3) = true) : supplyL lots bs w ≤ supplyL lots bs v := by
  rw [supply_map, supply_map]
  refine sumI_le fun b hb => ?_
  have h0 := hc b hb
  obtain ⟨k, hk, rfl⟩ := List.getElem_of_mem hb
  have e : bs.getD k z3 = bs[k] := by simp [hk]
  have e2 : cntAt bs k = bs[k].2.1 := by unfold cntAt; simp [hk]
  have h1 := h k hk
  rw [e, e2] at h1
  by_cases a : hasF lots w bs[k] = true
  · rw [if_pos a]
    by_cases p : 0 < bs[k].2.1
    · rw [if_pos (h1 a p)]; omega
    · split <;> omega
  · rw [if_neg a]; split <;> omega
theorem supply_zero {lots : List Lt} {bs : List Bx} {w : Wt} (hc : CntOK bs) (h : ∀ k, k < bs.length → hasF lots w (bs.getD k z3) = true → cntAt bs k = 0) : supplyL lots bs w ≤ 0 := by
  rw [supply_map]
  have : sumI (bs.map (fun b => if hasF lots w b then b.2.1 else 0)) ≤ sumI (bs.map (fun _ => (0 : Int))) := by
    refine sumI_le fun b hb => ?_
    have h0 := hc b hb
    obtain ⟨k, hk, rfl⟩ := List.getElem_of_mem hb
    have e : bs.getD k z3 = bs[k] := by simp [hk]
    have e2 : cntAt bs k = bs[k].2.1 := by unfold cntAt; simp [hk]
    have h1 := h k hk
    rw [e, e2] at h1
    by_cases a : hasF lots w bs[k] = true
    · rw [if_pos a, h1 a]; omega
    · rw [if_neg a]; omega
  have z : ∀ l : List Bx, sumI (l.map (fun _ => (0 : Int))) = 0 := by
    intro l
    induction l with
    | nil => rfl
    | cons a l ih => simp only [sumI, List.map_cons, List.foldr_cons] at ih ⊢; omega
  rw [z] at this
  exact this
theorem supply_nn {lots : List Lt} {bs : List Bx} (hc : CntOK bs) (w : Wt) : 0 ≤ supplyL lots bs w := by
  have := (hc.supply lots w bs.length).1
  rwa [List.take_length] at this
/-! ### A want served -/
def fitT (lots : List Lt) (bs : List Bx) (v : Wt) (ts : List Tk) : Int := sumI (ts.map (fun t => if hasF lots v (bs.getD t.1.toNat z3) then t.2 else 0))
theorem Serves.supply {lots : List Lt} {w : Wt} (v : Wt) : ∀ {ts : List Tk} {bs bs' : List Bx}, Serves lots w bs ts bs' → supplyL lots bs' v = supplyL lots bs v - fitT lots bs v ts
  | [], bs, bs', h => by
    simp only [Serves] at h
    subst h
    simp [fitT, sumI]
  | t :: ts, bs, bs', h => by
    obtain ⟨k, e, hk, h1, h2, hf, hs⟩ := h
    obtain ⟨t1, t2⟩ := t
    simp only at e
    subst e
    have ih := hs.supply v
    rw [supply_sub hk] at ih
    have e3 : fitT lots (subAt bs k t2) v ts = fitT lots bs v ts := by
      unfold fitT
      congr 1
      refine List.map_congr_left fun t _ => ?_
      rw [has_lot (lot_sub hk t2 t.1.toNat)]
    simp only at ih
    rw [e3] at ih
    simp only [fitT, List.map_cons, sumI, List.foldr_cons, Int.toNat_natCast] at ih ⊢
    omega
theorem Serves.all {lots : List Lt} {w : Wt} : ∀ {ts : List Tk} {bs bs' : List Bx}, Serves lots w bs ts bs' → ∀ t ∈ ts, 0 ≤ t.1 ∧ t.1 < bs.length ∧ 1 ≤ t.2 ∧ hasF lots w (bs.getD t.1.toNat z3) = true
  | [], _, _, _, t, ht => by cases ht
  | t0 :: ts, bs, bs', h, t, ht => by
    obtain ⟨k, e, hk, h1, h2, hf, hs⟩ := h
    rcases List.mem_cons.1 ht with rfl | ht
    · rw [e]; exact ⟨by omega, by omega, h1, hf⟩
    · have := hs.all t ht
      rw [subAt_len, has_lot (lot_sub hk _ _)] at this
      exact this
theorem Serves.cnt {lots : List Lt} {w : Wt} : ∀ {ts : List Tk} {bs bs' : List Bx}, Serves lots w bs ts bs' → CntOK bs → CntOK bs'
  | [], bs, bs', h, hc => by simp only [Serves] at h; subst h; exact hc
  | t :: ts, bs, bs', h, hc => by
    obtain ⟨k, e, hk, h1, h2, hf, hs⟩ := h
    refine hs.cnt (fun b hb => ?_)
    rw [subAt_eq hk] at hb
    have hck : cntAt bs k = bs[k].2.1 := by unfold cntAt; simp [hk]
    rcases List.mem_or_eq_of_mem_set hb with hb | rfl
    · exact hc b hb
    · have := hc _ (List.getElem_mem hk)
      simp only
      omega
theorem Serves.units {lots : List Lt} {w : Wt} : ∀ {ts : List Tk} {bs bs' : List Bx}, Serves lots w bs ts bs' → unitsL bs' = unitsL bs - sumT ts
  | [], bs, bs', h => by simp only [Serves] at h; subst h; simp [sumT, sumI]
  | t :: ts, bs, bs', h => by
    obtain ⟨k, e, hk, h1, h2, hf, hs⟩ := h
    have := hs.units
    rw [units_sub hk] at this
    simp only [sumT, List.map_cons, sumI, List.foldr_cons] at this ⊢
    omega
theorem Serves.pick {lots : List Lt} {w : Wt} : ∀ {ts : List Tk} {bs bs' : List Bx}, Serves lots w bs ts bs' → ∀ rest, pickGo (ts ++ rest) bs = pickGo rest bs'
  | [], bs, bs', h, rest => by simp only [Serves] at h; subst h; rfl
  | t :: ts, bs, bs', h, rest => by
    obtain ⟨k, e, hk, h1, h2, hf, hs⟩ := h
    simp only [List.cons_append, pickGo, e, Int.toNat_natCast]
    rw [if_neg (by omega)]
    exact hs.pick rest
theorem fitT_all {lots : List Lt} {bs : List Bx} {v : Wt} {ts : List Tk} (h : ∀ t ∈ ts, hasF lots v (bs.getD t.1.toNat z3) = true) : fitT lots bs v ts = sumT ts := by
  unfold fitT sumT
  congr 1
  exact List.map_congr_left fun t ht => by rw [if_pos (h t ht)]
theorem fitT_none {lots : List Lt} {bs : List Bx} {v : Wt} {ts : List Tk} (h : ∀ t ∈ ts, hasF lots v (bs.getD t.1.toNat z3) = false) : fitT lots bs v ts = 0 := by
  unfold fitT
  induction ts with
  | nil => rfl
  | cons t ts ih =>
    have h0 := h t (List.mem_cons_self ..)
    have h1 := ih (fun x hx => h x (List.mem_cons_of_mem _ hx))
    simp only [List.map_cons, sumI, List.foldr_cons, h0] at h1 ⊢
    simp at h1 ⊢
    omega
theorem fitT_nn {lots : List Lt} {bs : List Bx} {v : Wt} {ts : List Tk} (h : ∀ t ∈ ts, 1 ≤ t.2) : 0 ≤ fitT lots bs v ts := by
  unfold fitT
  induction ts with
  | nil => simp [sumI]
  | cons t ts ih =>
    have h0 := h t (List.mem_cons_self ..)
    have h1 := ih (fun x hx => h x (List.mem_cons_of_mem _ hx))
    simp only [List.map_cons, sumI, List.foldr_cons] at h1 ⊢
    split <;> omega
theorem has_other {lots : List Lt} {w v : Wt} {b : Bx} (h : hasF lots w b = true) : hasF lots v b = (decide (w.1 = v.1) && decide (v.2.2 ≤ (lotAt lots b).2.1)) ∧ w.2.2 ≤ (lotAt lots b).2.1 := by
  simp only [hasF, fitF, Bool.and_eq_true, decide_eq_true_eq] at h ⊢
  obtain ⟨⟨h0, h1⟩, ⟨h2, h3⟩, h4⟩ := h
  refine ⟨?_, h4⟩
  rw [h2]
  simp [h0, h1, h3]
theorem Srv.supply {lots : List Lt} {w : Wt} {bs bs' : List Bx} {ts : List Tk} (h : Srv lots w (orderL lots bs w) w.2.1 bs 0 bs' ts) (v : Wt) : (if decide (w.1 = v.1) && decide (v.2.2 ≤ w.2.2) then w.2.1 else 0) ≤ supplyL lots bs v - supplyL lots bs' v := by
  have h1 := h.srv.supply v
  have h2 := h.sum
  by_cases a : (decide (w.1 = v.1) && decide (v.2.2 ≤ w.2.2)) = true
  · rw [if_pos a]
    simp only [Bool.and_eq_true, decide_eq_true_eq] at a
    rw [fitT_all (fun t ht => by
      have h3 := (h.srv.all t ht).2.2.2
      obtain ⟨e, h4⟩ := has_other (v := v) h3
      rw [e]
      simp only [Bool.and_eq_true, decide_eq_true_eq]
      omega)] at h1
    omega
  · rw [if_neg a]
    have := fitT_nn (lots := lots) (bs := bs) (v := v) (fun t ht => (h.srv.all t ht).2.2.1)
    omega
/-- If there is a plan, each threshold's wants are met by what there is. -/
theorem plans_ask {lots : List Lt} : ∀ {ws : List Wt} {bs bs' : List Bx} {ps : List (List Tk)}, CntOK bs → Plans lots ws bs ps bs' → ∀ v, askL ws v ≤ supplyL lots bs v
  | [], bs, bs', [], hc, h, v => by
    have := supply_nn (lots := lots) hc v
    simpa [askL, sumI] using this
  | [], _, _, _ :: _, _, h, _ => by simp [Plans] at h
  | _ :: _, _, _, [], _, h, _ => by simp [Plans] at h
  | w :: ws, bs, bs', p :: ps, hc, h, v => by
    obtain ⟨b1, hs, h2⟩ := h
    have ih := plans_ask (hs.srv.cnt hc) h2 v
    have h3 := hs.supply v
    rw [askL_cons]
    omega
/-- .. and if they are, there is one. -/
theorem plan_some {lots : List Lt} : ∀ {ws : List Wt} {bs : List Bx} {out : List (List Tk)}, CntOK bs → (∀ w ∈ ws, 0 ≤ w.2.1) → (∀ w ∈ ws, askL ws w ≤ supplyL lots bs w) → planS lots ws bs out ≠ none
  | [], bs, out, _, _, _ => by simp [planS]
  | w :: ws, bs, out, hc, hw, ha => by
    have hw0 := hw w (List.mem_cons_self ..)
    have hwr : ∀ x ∈ ws, 0 ≤ x.2.1 := fun x hx => hw x (List.mem_cons_of_mem _ hx)
    have hs := serve_spec (lots := lots) (w := w) (orderL lots bs w) w.2.1 bs hw0 order_ok.1 order_ok.2
    simp only [planS]
    generalize hq : serve (orderL lots bs w) w.2.1 bs [] = q at *
    obtain ⟨n', bs1, ts⟩ := q
    simp only at hs ⊢
    have hc1 := hs.srv.cnt hc
    have hall := hs.srv.all
    obtain ⟨s1, s2, s3⟩ := hs.srv.same
    have hsw := hs.srv.supply w
    rw [fitT_all (fun t ht => (hall t ht).2.2.2)] at hsw
    have hsum := hs.sum
    have haw := ha w (List.mem_cons_self ..)
    rw [askL_cons] at haw
    simp only [decide_true, Bool.true_and, Int.le_refl, if_true] at haw
    have hask := askL_nn hwr w
    have hn' : n' = 0 := by
      have hnn := hs.nn
      refine Classical.byContradiction fun hne => ?_
      have hpos : 0 < n' := by omega
      have hz := supply_zero (lots := lots) (w := w) hc1 (fun k hk hf => by
        by_cases hko : k ∈ orderL lots bs w
        · exact hs.dry hpos k hko
        · have hcb : cntAt bs1 k = cntAt bs k := by unfold cntAt; exact congrArg (fun x => x.2.1) (hs.far k hko)
          have hkb : k < bs.length := by omega
          have hfb : hasF lots w (bs.getD k z3) = true := by rw [← has_lot (s2 k)]; exact hf
          have : ¬ 0 < cntAt bs k := fun hp => hko (orderL_mem.2 ⟨hkb, hp, hfb⟩)
          have hcc : 0 ≤ cntAt bs k := by
            have := hc _ (List.getElem_mem hkb)
            unfold cntAt
            simp [hkb]
            omega
          omega)
      omega
    subst hn'
    rw [if_neg (by omega)]
    refine plan_some hc1 hwr (fun v hv => ?_)
    have hav := ha v (List.mem_cons_of_mem _ hv)
    rw [askL_cons] at hav
    have hsv := hs.supply v
    by_cases hk : w.1 = v.1
    · by_cases hu : v.2.2 ≤ w.2.2
      · have e := hs.srv.supply v
        rw [fitT_all (fun t ht => by
          obtain ⟨e, h4⟩ := has_other (v := v) ((hall t ht).2.2.2)
          rw [e]
          simp only [Bool.and_eq_true, decide_eq_true_eq]
          omega)] at e
        simp only [hk, hu, decide_true, Bool.and_self, if_true] at hav
        omega
      · have hav2 : askL ws v ≤ supplyL lots bs v := by
          simp only [hu, decide_false, Bool.and_false] at hav
          simp at hav
          exact hav
        by_cases hex : ∃ t ∈ ts, hasF lots v (bs.getD t.1.toNat z3) = true
        · obtain ⟨t, ht, hft⟩ := hex
          have hle := supply_le (lots := lots) (w := w) (v := v) hc1 (fun k hk1 hf hcp => by
            have hkb : k < bs.length := by omega
            have hfb : hasF lots w (bs.getD k z3) = true := by rw [← has_lot (s2 k)]; exact hf
            have hko : k ∈ orderL lots bs w := orderL_mem.2 ⟨hkb, by have := s3 k; omega, hfb⟩
            have h5 := hs.order (expAt lots bs) (orderL_srt _ _ _) k hko hcp t ht
            rw [has_lot (s2 k)]
            rw [(has_other (v := v) hfb).1]
            have h6 := (has_other (v := v) ((hall t ht).2.2.2)).1
            rw [hft] at h6
            have h7 := h6.symm
            simp only [Bool.and_eq_true, decide_eq_true_eq] at h7 ⊢
            refine ⟨hk, ?_⟩
            have h8 : v.2.2 ≤ expAt lots bs t.1.toNat := h7.2
            have h9 : expAt lots bs k = (lotAt lots (bs.getD k z3)).2.1 := rfl
            omega)
          have hmo := askL_mono hwr (v := v) (u := w) hk.symm (by omega)
          omega
        · have e := hs.srv.supply v
          rw [fitT_none (fun t ht => by
            cases hc' : hasF lots v (bs.getD t.1.toNat z3) with
            | false => rfl
            | true => exact absurd ⟨t, ht, hc'⟩ hex)] at e
          omega
    · have e := hs.srv.supply v
      rw [fitT_none (fun t ht => by
        rw [(has_other (v := v) ((hall t ht).2.2.2)).1]
        simp [hk])] at e
      simp only [hk, decide_false, Bool.false_and] at hav
      simp at hav
      omega
/-- THE LAW: there is a plan exactly if it is possible. -/
theorem plan_iff {lots : List Lt} {bs : List Bx} {ws : List Wt} (hc : CntOK bs) (hw : ∀ w ∈ ws, wantF w = true) : (decide ((planL lots bs ws).2 = 0)) = possL lots bs ws ∧ ((planL lots bs ws).2 = 0 ∨ (planL lots bs ws).2 = 22) := by
  have hw0 : ∀ w ∈ ws, 0 ≤ w.2.1 := fun w h => by
    have := hw w h
    simp only [wantF, btw, Bool.and_eq_true, decide_eq_true_eq] at this
    omega
  have hany : ws.any (fun x => !wantF x) = false := by
    rw [List.any_eq_false]
    intro w h
    simp [hw w h]
  cases hp : planS lots ws bs [] with
  | none =>
    rw [planL_none hany hp]
    refine ⟨?_, .inr rfl⟩
    have hf : possL lots bs ws = false := by
      cases hq : possL lots bs ws with
      | false => rfl
      | true =>
        exfalso
        refine plan_some (lots := lots) (bs := bs) (out := []) hc hw0 (fun w h => ?_) hp
        have := List.all_eq_true.1 hq w h
        simpa using this
    rw [hf]
    rfl
  | some r =>
    rw [planL_some hany hp]
    refine ⟨?_, .inl rfl⟩
    obtain ⟨ps, _, h2⟩ := plans_of hw0 hp
    have hq : possL lots bs ws = true := List.all_eq_true.2 fun w _ => by simpa using plans_ask hc h2 w
    rw [hq]
    rfl
/-! ### What a plan gives -/
structure PlanOK (lots : List Lt) (bs : List Bx) (x : Wt) (p : List Tk) : Prop where
  good : ∀ t ∈ p, 0 ≤ t.1 ∧ t.1 < bs.length ∧ 1 ≤ t.2 ∧ hasF lots x (bs.getD t.1.toNat z3) = true
  nodup : (p.map (fun t => t.1)).Nodup
  sum : sumT p = x.2.1
theorem plans_ok {lots : List Lt} {bs0 : List Bx} : ∀ {ws : List Wt} {bs bs' : List Bx} {ps : List (List Tk)}, bs.length = bs0.length → (∀ k, (bs.getD k z3).1 = (bs0.getD k z3).1) → Plans lots ws bs ps bs' → ∀ i (h1 : i < ws.length) (h2 : i < ps.length), PlanOK lots bs0 ws[i] ps[i]
  | [], _, _, _, _, _, _, i, h1, _ => by simp at h1
  | _ :: _, _, _, [], _, _, h, _, _, h2 => by simp at h2
  | w :: ws, bs, bs', p :: ps, hl, hs0, h, i, h1, h2 => by
    obtain ⟨b1, hs, h3⟩ := h
    obtain ⟨s1, s2, _⟩ := hs.srv.same
    cases i with
    | zero =>
      refine ⟨fun t ht => ?_, hs.nodup, by have := hs.sum; simp only [List.getElem_cons_zero]; omega⟩
      have := hs.srv.all t ht
      rw [hl, has_lot (hs0 _)] at this
      exact this
    | succ i => exact plans_ok (by rw [s1, hl]) (fun k => (s2 k).trans (hs0 k)) h3 i (by simpa using h1) (by simpa using h2)
theorem sumT_app (a b : List Tk) : sumT (a ++ b) = sumT a + sumT b := by unfold sumT; rw [List.map_append, sumI_app]
theorem sumT_take {p : List Tk} {k : Nat} (h : k < p.length) : sumT (p.take (k + 1)) = sumT (p.take k) + p[k].2 := by
  rw [List.take_add_one, List.getElem?_eq_getElem h, Option.toList_some, sumT_app]
  simp [sumT, sumI]
theorem sumT_len : ∀ {p : List Tk}, (∀ t ∈ p, 1 ≤ t.2) → (p.length : Int) ≤ sumT p
  | [], _ => by simp [sumT, sumI]
  | t :: p, h => by
    have h0 := h t (List.mem_cons_self ..)
    have h1 := sumT_len (fun x hx => h x (List.mem_cons_of_mem _ hx))
    simp only [sumT, List.map_cons, sumI, List.foldr_cons, List.length_cons] at h1 ⊢
    omega
theorem sumT_part {p : List Tk} (h : ∀ t ∈ p, 1 ≤ t.2) (k : Nat) : 0 ≤ sumT (p.take k) ∧ sumT (p.take k) ≤ sumT p := by
  have h1 := sumT_len (p := p.take k) (fun x hx => h x (List.mem_of_mem_take hx))
  have h2 := sumT_len (p := p.drop k) (fun x hx => h x (List.mem_of_mem_drop hx))
  have h3 := sumT_app (p.take k) (p.drop k)
  rw [List.take_append_drop] at h3
  omega
theorem plans_pick {lots : List Lt} : ∀ {ws : List Wt} {bs bs' : List Bx} {ps : List (List Tk)}, Plans lots ws bs ps bs' → pickGo ps.flatten bs = some bs' ∧ unitsL bs' = unitsL bs - sumT ps.flatten ∧ (CntOK bs → CntOK bs') ∧ (∀ t ∈ ps.flatten, 0 ≤ t.1 ∧ t.1 < bs.length ∧ 1 ≤ t.2)
  | [], bs, bs', [], h => by
    simp only [Plans] at h
    subst h
    exact ⟨rfl, by simp [sumT, sumI], id, by simp⟩
  | [], _, _, _ :: _, h => by simp [Plans] at h
  | _ :: _, _, _, [], h => by simp [Plans] at h
  | w :: ws, bs, bs', p :: ps, h => by
    obtain ⟨b1, hs, h2⟩ := h
    obtain ⟨a1, a2, a3, a4⟩ := plans_pick h2
    have hu := hs.srv.units
    obtain ⟨s1, _, _⟩ := hs.srv.same
    rw [List.flatten_cons]
    refine ⟨by rw [hs.srv.pick, a1], by rw [sumT_app]; omega, fun hc => a3 (hs.srv.cnt hc), fun t ht => ?_⟩
    rcases List.mem_append.1 ht with ht | ht
    · have := hs.srv.all t ht
      exact ⟨this.1, this.2.1, this.2.2.1⟩
    · have := a4 t ht
      rw [s1] at this
      exact this
theorem pickL_of {bs l : List Bx} {ts : List Tk} (h : ∀ t ∈ ts, 0 ≤ t.1 ∧ t.1 < bs.length ∧ 1 ≤ t.2) (hp : pickGo ts bs = some l) : pickL bs ts = (l, 0) := by
  unfold pickL
  rw [if_neg, if_neg, hp]
  · simp only [List.any_eq_true, not_exists, not_and, decide_eq_true_eq]
    intro t ht
    have := h t ht
    omega
  · simp only [List.any_eq_true, not_exists, not_and, Bool.not_eq_true, Bool.not_eq_false', btw, Bool.and_eq_true, decide_eq_true_eq]
    intro t ht
    have := h t ht
    omega
theorem right_left {ks : List Kd} {lots : List Lt} {bs l : List Bx} {ts : List Tk} (hr : rightS ks lots bs = true) (hg : GoodT bs.length ts) (hp : Pk bs ts l) (hu : unitsL l ≤ unitsL bs) : rightS ks lots l = true := by
  have hb : ∀ b ∈ l, boxF lots.length b = true := by
    intro b hb
    obtain ⟨i, hi, hm, rfl⟩ := pk_mem hp hb
    have hok := right_box hr hm
    exact boxF_of hok (takenL_nonneg hg i) (hp.le i hi hok.cnt.1)
  simp only [rightS, Bool.and_eq_true, decide_eq_true_eq] at hr ⊢
  refine ⟨⟨⟨⟨⟨hr.1.1.1.1.1, by rw [hp.len]; exact hr.1.1.1.1.2⟩, hr.1.1.1.2⟩, hr.1.1.2⟩, List.all_eq_true.2 hb⟩, ?_⟩
  omega
theorem right_units {ks : List Kd} {lots : List Lt} {bs : List Bx} (hr : rightS ks lots bs = true) : unitsL bs ≤ 20000 := by
  simp only [rightS, Bool.and_eq_true, decide_eq_true_eq] at hr
  exact hr.2
end Go.Proofs.Ytmffdhfpfijocaa
