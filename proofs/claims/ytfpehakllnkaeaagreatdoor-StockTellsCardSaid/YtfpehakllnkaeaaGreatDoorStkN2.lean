
/- Stock, the reference: Read. -/
import Derived.Test.YtfpehakllnkaeaaGreatDoorStkN1
import Derived.Test.YtfpehakllnkaeaaGreatDoorStkYb
import Derived.Test.YtfpehakllnkaeaaGreatDoorStkYa
import Derived.Test.YtfpehakllnkaeaaGreatDoorStkN0
import Derived.Deep.CutBlock
set_option linter.unusedSimpArgs false
set_option linter.unusedVariables false
namespace Go.Proofs.YtfpehakllnkaeaaGreatDoor
open Go.RowKit Go.IntWalk

/-- What the wants of a kind, from a tick on, ask for. -/
def askL (ws : List Wt) (v : Wt) : Int := sumI ((ws.filter (fun x => decide (x.1 = v.1) && decide (v.2.2 ≤ x.2.2))).map (fun x => x.2.1))
theorem askL_cons (w : Wt) (ws : List Wt) (v : Wt) : askL (w :: ws) v = (if decide (w.1 = v.1) && decide (v.2.2 ≤ w.2.2) then w.2.1 else 0) + askL ws v := by
  unfold askL
  by_cases h : (decide (w.1 = v.1) && decide (v.2.2 ≤ w.2.2)) = true
  · rw [if_pos h]; simp only [List.filter_cons, h, if_true, List.map_cons, sumI, List.foldr_cons]
  · rw [if_neg h]; simp only [List.filter_cons, h]; simp
theorem askL_app (a b : List Wt) (v : Wt) : askL (a ++ b) v = askL a v + askL b v := by
  unfold askL
  rw [List.filter_append, List.map_append, sumI_app]
theorem askL_take {ws : List Wt} {v : Wt} {k : Nat} (h : k < ws.length) : askL (ws.take (k + 1)) v = askL (ws.take k) v + if decide (ws[k].1 = v.1) && decide (v.2.2 ≤ ws[k].2.2) then ws[k].2.1 else 0 := by
  rw [List.take_add_one, List.getElem?_eq_getElem h, Option.toList_some, askL_app, askL_cons]
  simp [askL, sumI]
theorem askL_nn {ws : List Wt} (h : ∀ w ∈ ws, 0 ≤ w.2.1) (v : Wt) : 0 ≤ askL ws v := by
  induction ws with
  | nil => simp [askL, sumI]
  | cons w ws ih =>
    have h0 := h w (List.mem_cons_self ..)
    have h1 := ih (fun x hx => h x (List.mem_cons_of_mem _ hx))
    rw [askL_cons]
    split <;> omega
theorem askL_bd {ws : List Wt} (h : ∀ w ∈ ws, 0 ≤ w.2.1 ∧ w.2.1 ≤ 20000) (v : Wt) : ∀ k, k ≤ ws.length → 0 ≤ askL (ws.take k) v ∧ askL (ws.take k) v ≤ 20000 * k := by
  intro k
  induction k with
  | zero => intro _; simp [askL, sumI]
  | succ k ih =>
    intro hk
    have h1 := ih (by omega)
    have h2 := h _ (List.getElem_mem (show k < ws.length by omega))
    rw [askL_take (by omega)]
    split <;> constructor <;> omega
/-- The later threshold asks for less. -/
theorem askL_mono {ws : List Wt} (h : ∀ w ∈ ws, 0 ≤ w.2.1) {v u : Wt} (hk : v.1 = u.1) (hu : u.2.2 ≤ v.2.2) : askL ws v ≤ askL ws u := by
  induction ws with
  | nil => simp [askL, sumI]
  | cons w ws ih =>
    have h0 := h w (List.mem_cons_self ..)
    have h1 := ih (fun x hx => h x (List.mem_cons_of_mem _ hx))
    rw [askL_cons, askL_cons]
    by_cases a : (decide (w.1 = v.1) && decide (v.2.2 ≤ w.2.2)) = true
    · have b : (decide (w.1 = u.1) && decide (u.2.2 ≤ w.2.2)) = true := by
        simp only [Bool.and_eq_true, decide_eq_true_eq] at a ⊢
        omega
      rw [if_pos a, if_pos b]; omega
    · rw [if_neg a]; split <;> omega
def possL (lots : List Lt) (bs : List Bx) (ws : List Wt) : Bool := ws.all (fun w => decide (askL ws w ≤ supplyL lots bs w))
/-! ### Sums over boxes -/
theorem sumI_set {l : List Int} {k : Nat} (h : k < l.length) (y : Int) : sumI (l.set k y) = sumI l - l[k] + y := by
  induction l generalizing k with
  | nil => simp at h
  | cons a l ih =>
    cases k with
    | zero => simp only [sumI, List.set_cons_zero, List.foldr_cons, List.getElem_cons_zero]; omega
    | succ k =>
      have := ih (k := k) (by simpa using h)
      simp only [sumI, List.set_cons_succ, List.foldr_cons, List.getElem_cons_succ] at this ⊢
      omega
theorem sumI_le {T : Type} {l : List T} {f g : T → Int} (h : ∀ x ∈ l, f x ≤ g x) : sumI (l.map f) ≤ sumI (l.map g) := by
  induction l with
  | nil => simp [sumI]
  | cons a l ih =>
    have h0 := h a (List.mem_cons_self ..)
    have h1 := ih (fun x hx => h x (List.mem_cons_of_mem _ hx))
    simp only [sumI, List.map_cons, List.foldr_cons] at h1 ⊢
    omega
theorem supply_map (lots : List Lt) (bs : List Bx) (v : Wt) : supplyL lots bs v = sumI (bs.map (fun b => if hasF lots v b then b.2.1 else 0)) := by
  unfold supplyL
  induction bs with
  | nil => rfl
  | cons b bs ih =>
    by_cases h : hasF lots v b = true
    · simp only [List.filter_cons, h, if_true, List.map_cons, sumI, List.foldr_cons] at ih ⊢
      omega
    · simp only [List.filter_cons, h, List.map_cons, sumI, List.foldr_cons] at ih ⊢
      simp at ih ⊢
      omega
theorem supply_sub {lots : List Lt} {bs : List Bx} {k : Nat} (hk : k < bs.length) (m : Int) (v : Wt) : supplyL lots (subAt bs k m) v = supplyL lots bs v - if hasF lots v (bs.getD k z3) then m else 0 := by
  have e : bs.getD k z3 = bs[k] := by simp [hk]
  rw [supply_map, supply_map, subAt_eq hk, List.map_set, sumI_set (by simpa using hk), List.getElem_map, e]
  have e2 : hasF lots v (bs[k].1, bs[k].2.1 - m, bs[k].2.2) = hasF lots v bs[k] := rfl
  simp only [e2]
  split <;> omega
theorem units_sub {bs : List Bx} {k : Nat} (hk : k < bs.length) (m : Int) : unitsL (subAt bs k m) = unitsL bs - m := by
  unfold unitsL
  rw [subAt_eq hk, List.map_set, sumI_set (by simpa using hk), List.getElem_map]
  simp only
  omega
theorem supply_le {lots : List Lt} {bs : List Bx} {w v : Wt} (hc : CntOK bs) (h : ∀ k, k < bs.length → hasF lots w (bs.getD k z3) = true → 0 < cntAt bs k → hasF lots v (bs.getD k z3) = true) : supplyL lots bs w ≤ supplyL lots bs v := by
  rw [supply_map, supply_map]
  refine sumI_le fun b hb => ?_
  have h0 := hc b hb
  obtain ⟨k, hk, rfl⟩ := List.getElem_of_mem hb
  have e : bs.getD k z3 = bs[k] := by simp [hk]
  have e2 : cntAt bs k = bs[k].2.1 := by unfold cntAt; simp [hk]
  have h1 := h k hk
  rw [e, e2] at h1
  by_cases a : hasF lots w bs[k] = true
  · rw [if_pos a]
    by_cases p : 0 < bs[k].2.1
    · rw [if_pos (h1 a p)]; omega
    · split <;> omega
  · rw [if_neg a]; split <;> omega
theorem supply_zero {lots : List Lt} {bs : List Bx} {w : Wt} (hc : CntOK bs) (h : ∀ k, k < bs.length → hasF lots w (bs.getD k z3) = true → cntAt bs k = 0) : supplyL lots bs w ≤ 0 := by
  rw [supply_map]
  have : sumI (bs.map (fun b => if hasF lots w b then b.2.1 else 0)) ≤ sumI (bs.map (fun _ => (0 : Int))) := by
    refine sumI_le fun b hb => ?_
    have h0 := hc b hb
    obtain ⟨k, hk, rfl⟩ := List.getElem_of_mem hb
    have e : bs.getD k z3 = bs[k] := by simp [hk]
    have e2 : cntAt bs k = bs[k].2.1 := by unfold cntAt; simp [hk]
    have h1 := h k hk
    rw [e, e2] at h1
    by_cases a : hasF lots w bs[k] = true
    · rw [if_pos a, h1 a]; omega
    · rw [if_neg a]; omega
  have z : ∀ l : List Bx, sumI (l.map (fun _ => (0 : Int))) = 0 := by
    intro l
    induction l with
    | nil => rfl
    | cons a l ih => simp only [sumI, List.map_cons, List.foldr_cons] at ih ⊢; omega
  rw [z] at this
  exact this
theorem supply_nn {lots : List Lt} {bs : List Bx} (hc : CntOK bs) (w : Wt) : 0 ≤ supplyL lots bs w := by
  have := (hc.supply lots w bs.length).1
  rwa [List.take_length] at this
/-! ### A want served -/
def fitT (lots : List Lt) (bs : List Bx) (v : Wt) (ts : List Tk) : Int := sumI (ts.map (fun t => if hasF lots v (bs.getD t.1.toNat z3) then t.2 else 0))
theorem Serves.supply {lots : List Lt} {w : Wt} (v : Wt) : ∀ {ts : List Tk} {bs bs' : List Bx}, Serves lots w bs ts bs' → supplyL lots bs' v = supplyL lots bs v - fitT lots bs v ts
  | [], bs, bs', h => by
    simp only [Serves] at h
    subst h
    simp [fitT, sumI]
  | t :: ts, bs, bs', h => by
    obtain ⟨k, e, hk, h1, h2, hf, hs⟩ := h
    obtain ⟨t1, t2⟩ := t
    simp only at e
    subst e
    have ih := hs.supply v
    rw [supply_sub hk] at ih
    have e3 : fitT lots (subAt bs k t2) v ts = fitT lots bs v ts := by
      unfold fitT
      congr 1
      refine List.map_congr_left fun t _ => ?_
      rw [has_lot (lot_sub hk t2 t.1.toNat)]
    simp only at ih
    rw [e3] at ih
    simp only [fitT, List.map_cons, sumI, List.foldr_cons, Int.toNat_natCast] at ih ⊢
    omega
theorem Serves.all {lots : List Lt} {w : Wt} : ∀ {ts : List Tk} {bs bs' : List Bx}, Serves lots w bs ts bs' → ∀ t ∈ ts, 0 ≤ t.1 ∧ t.1 < bs.length ∧ 1 ≤ t.2 ∧ hasF lots w (bs.getD t.1.toNat z3) = true
  | [], _, _, _, t, ht => by cases ht
  | t0 :: ts, bs, bs', h, t, ht => by
    obtain ⟨k, e, hk, h1, h2, hf, hs⟩ := h
    rcases List.mem_cons.1 ht with rfl | ht
    · rw [e]; exact ⟨by omega, by omega, h1, hf⟩
    · have := hs.all t ht
      rw [subAt_len, has_lot (lot_sub hk _ _)] at this
      exact this
theorem Serves.cnt {lots : List Lt} {w : Wt} : ∀ {ts : List Tk} {bs bs' : List Bx}, Serves lots w bs ts bs' → CntOK bs → CntOK bs'
  | [], bs, bs', h, hc => by simp only [Serves] at h; subst h; exact hc
  | t :: ts, bs, bs', h, hc => by
    obtain ⟨k, e, hk, h1, h2, hf, hs⟩ := h
    refine hs.cnt (fun b hb => ?_)
    rw [subAt_eq hk] at hb
    have hck : cntAt bs k = bs[k].2.1 := by unfold cntAt; simp [hk]
    rcases List.mem_or_eq_of_mem_set hb with hb | rfl
    · exact hc b hb
    · have := hc _ (List.getElem_mem hk)
      simp only
      omega
theorem Serves.units {lots : List Lt} {w : Wt} : ∀ {ts : List Tk} {bs bs' : List Bx}, Serves lots w bs ts bs' → unitsL bs' = unitsL bs - sumT ts
  | [], bs, bs', h => by simp only [Serves] at h; subst h; simp [sumT, sumI]
  | t :: ts, bs, bs', h => by
    obtain ⟨k, e, hk, h1, h2, hf, hs⟩ := h
    have := hs.units
    rw [units_sub hk] at this
    simp only [sumT, List.map_cons, sumI, List.foldr_cons] at this ⊢
    omega
theorem Serves.pick {lots : List Lt} {w : Wt} : ∀ {ts : List Tk} {bs bs' : List Bx}, Serves lots w bs ts bs' → ∀ rest, pickGo (ts ++ rest) bs = pickGo rest bs'
  | [], bs, bs', h, rest => by simp only [Serves] at h; subst h; rfl
  | t :: ts, bs, bs', h, rest => by
    obtain ⟨k, e, hk, h1, h2, hf, hs⟩ := h
    simp only [List.cons_append, pickGo, e, Int.toNat_natCast]
    rw [if_neg (by omega)]
    exact hs.pick rest
theorem fitT_all {lots : List Lt} {bs : List Bx} {v : Wt} {ts : List Tk} (h : ∀ t ∈ ts, hasF lots v (bs.getD t.1.toNat z3) = true) : fitT lots bs v ts = sumT ts := by
  unfold fitT sumT
  congr 1
  exact List.map_congr_left fun t ht => by rw [if_pos (h t ht)]
theorem fitT_none {lots : List Lt} {bs : List Bx} {v : Wt} {ts : List Tk} (h : ∀ t ∈ ts, hasF lots v (bs.getD t.1.toNat z3) = false) : fitT lots bs v ts = 0 := by
  unfold fitT
  induction ts with
  | nil => rfl
  | cons t ts ih =>
    have h0 := h t (List.mem_cons_self ..)
    have h1 := ih (fun x hx => h x (List.mem_cons_of_mem _ hx))
    simp only [List.map_cons, sumI, List.foldr_cons, h0] at h1 ⊢
    simp at h1 ⊢
    omega
theorem fitT_nn {lots : List Lt} {bs : List Bx} {v : Wt} {ts : List Tk} (h : ∀ t ∈ ts, 1 ≤ t.2) : 0 ≤ fitT lots bs v ts := by
  unfold fitT
  induction ts with
  | nil => simp [sumI]
  | cons t ts ih =>
    have h0 := h t (List.mem_cons_self ..)
    have h1 := ih (fun x hx => h x (List.mem_cons_of_mem _ hx))
    simp only [List.map_cons, sumI, List.foldr_cons] at h1 ⊢
    split <;> omega
theorem has_other {lots : List Lt} {w v : Wt} {b : Bx} (h : hasF lots w b = true) : hasF lots v b = (decide (w.1 = v.1) && decide (v.2.2 ≤ (lotAt lots b).2.1)) ∧ w.2.2 ≤ (lotAt lots b).2.1 := by
  simp only [hasF, fitF, Bool.and_eq_true, decide_eq_true_eq] at h ⊢
  obtain ⟨⟨h0, h1⟩, ⟨h2, h3⟩, h4⟩ := h
  refine ⟨?_, h4⟩
  rw [h2]
  simp [h0, h1, h3]
theorem Srv.supply {lots : List Lt} {w : Wt} {bs bs' : List Bx} {ts : List Tk} (h : Srv lots w (orderL lots bs w) w.2.1 bs 0 bs' ts) (v : Wt) : (if decide (w.1 = v.1) && decide (v.2.2 ≤ w.2.2) then w.2.1 else 0) ≤ supplyL lots bs v - supplyL lots bs' v := by
  have h1 := h.srv.supply v
  have h2 := h.sum
  by_cases a : (decide (w.1 = v.1) && decide (v.2.2 ≤ w.2.2)) = true
  · rw [if_pos a]
    simp only [Bool.and_eq_true, decide_eq_true_eq] at a
    rw [fitT_all (fun t ht => by
      have h3 := (h.srv.all t ht).2.2.2
      obtain ⟨e, h4⟩ := has_other (v := v) h3
      rw [e]
      simp only [Bool.and_eq_true, decide_eq_true_eq]
      omega)] at h1
    omega
  · rw [if_neg a]
    have := fitT_nn (lots := lots) (bs := bs) (v := v) (fun t ht => (h.srv.all t ht).2.2.1)
    omega
/-- If there is a plan, each threshold's wants are met by what there is. -/
theorem plans_ask {lots : List Lt} : ∀ {ws : List Wt} {bs bs' : List Bx} {ps : List (List Tk)}, CntOK bs → Plans lots ws bs ps bs' → ∀ v, askL ws v ≤ supplyL lots bs v
  | [], bs, bs', [], hc, h, v => by
    have := supply_nn (lots := lots) hc v
    simpa [askL, sumI] using this
  | [], _, _, _ :: _, _, h, _ => by simp [Plans] at h
  | _ :: _, _, _, [], _, h, _ => by simp [Plans] at h
  | w :: ws, bs, bs', p :: ps, hc, h, v => by
    obtain ⟨b1, hs, h2⟩ := h
    have ih := plans_ask (hs.srv.cnt hc) h2 v
    have h3 := hs.supply v
    rw [askL_cons]
    omega
/-- .. and if they are, there is one. -/
theorem plan_some {lots : List Lt} : ∀ {ws : List Wt} {bs : List Bx} {out : List (List Tk)}, CntOK bs → (∀ w ∈ ws, 0 ≤ w.2.1) → (∀ w ∈ ws, askL ws w ≤ supplyL lots bs w) → planS lots ws bs out ≠ none
  | [], bs, out, _, _, _ => by simp [planS]
  | w :: ws, bs, out, hc, hw, ha => by
    have hw0 := hw w (List.mem_cons_self ..)
    have hwr : ∀ x ∈ ws, 0 ≤ x.2.1 := fun x hx => hw x (List.mem_cons_of_mem _ hx)
    have hs := serve_spec (lots := lots) (w := w) (orderL lots bs w) w.2.1 bs hw0 order_ok.1 order_ok.2
    simp only [planS]
    generalize hq : serve (orderL lots bs w) w.2.1 bs [] = q at *
    obtain ⟨n', bs1, ts⟩ := q
    simp only at hs ⊢
    have hc1 := hs.srv.cnt hc
    have hall := hs.srv.all
    obtain ⟨s1, s2, s3⟩ := hs.srv.same
    have hsw := hs.srv.supply w
    rw [fitT_all (fun t ht => (hall t ht).2.2.2)] at hsw
    have hsum := hs.sum
    have haw := ha w (List.mem_cons_self ..)
    rw [askL_cons] at haw
    simp only [decide_true, Bool.true_and, Int.le_refl, if_true] at haw
    have hask := askL_nn hwr w
    have hn' : n' = 0 := by
      have hnn := hs.nn
      refine Classical.byContradiction fun hne => ?_
      have hpos : 0 < n' := by omega
      have hz := supply_zero (lots := lots) (w := w) hc1 (fun k hk hf => by
        by_cases hko : k ∈ orderL lots bs w
        · exact hs.dry hpos k hko
        · have hcb : cntAt bs1 k = cntAt bs k := by unfold cntAt; exact congrArg (fun x => x.2.1) (hs.far k hko)
          have hkb : k < bs.length := by omega
          have hfb : hasF lots w (bs.getD k z3) = true := by rw [← has_lot (s2 k)]; exact hf
          have : ¬ 0 < cntAt bs k := fun hp => hko (orderL_mem.2 ⟨hkb, hp, hfb⟩)
          have hcc : 0 ≤ cntAt bs k := by
            have := hc _ (List.getElem_mem hkb)
            unfold cntAt
            simp [hkb]
            omega
          omega)
      omega
    subst hn'
    rw [if_neg (by omega)]
    refine plan_some hc1 hwr (fun v hv => ?_)
    have hav := ha v (List.mem_cons_of_mem _ hv)
    rw [askL_cons] at hav
    have hsv := hs.supply v
    by_cases hk : w.1 = v.1
    · by_cases hu : v.2.2 ≤ w.2.2
      · have e := hs.srv.supply v
        rw [fitT_all (fun t ht => by
          obtain ⟨e, h4⟩ := has_other (v := v) ((hall t ht).2.2.2)
          rw [e]
          simp only [Bool.and_eq_true, decide_eq_true_eq]
          omega)] at e
        simp only [hk, hu, decide_true, Bool.and_self, if_true] at hav
        omega
      · have hav2 : askL ws v ≤ supplyL lots bs v := by
          simp only [hu, decide_false, Bool.and_false] at hav
          simp at hav
          exact hav
        by_cases hex : ∃ t ∈ ts, hasF lots v (bs.getD t.1.toNat z3) = true
        · obtain ⟨t, ht, hft⟩ := hex
          have hle := supply_le (lots := lots) (w := w) (v := v) hc1 (fun k hk1 hf hcp => by
            have hkb : k < bs.length := by omega
            have hfb : hasF lots w (bs.getD k z3) = true := by rw [← has_lot (s2 k)]; exact hf
            have hko : k ∈ orderL lots bs w := orderL_mem.2 ⟨hkb, by have := s3 k; omega, hfb⟩
            have h5 := hs.order (expAt lots bs) (orderL_srt _ _ _) k hko hcp t ht
            rw [has_lot (s2 k)]
            rw [(has_other (v := v) hfb).1]
            have h6 := (has_other (v := v) ((hall t ht).2.2.2)).1
            rw [hft] at h6
            have h7 := h6.symm
            simp only [Bool.and_eq_true, decide_eq_true_eq] at h7 ⊢
            refine ⟨hk, ?_⟩
            have h8 : v.2.2 ≤ expAt lots bs t.1.toNat := h7.2
            have h9 : expAt lots bs k = (lotAt lots (bs.getD k z3)).2.1 := rfl
            omega)
          have hmo := askL_mono hwr (v := v) (u := w) hk.symm (by omega)
          omega
        · have e := hs.srv.supply v
          rw [fitT_none (fun t ht => by
            cases hc' : hasF lots v (bs.getD t.1.toNat z3) with
            | false => rfl
            | true => exact absurd ⟨t, ht, hc'⟩ hex)] at e
          omega
    · have e := hs.srv.supply v
      rw [fitT_none (fun t ht => by
        rw [(has_other (v := v) ((hall t ht).2.2.2)).1]
        simp [hk])] at e
      simp only [hk, decide_false, Bool.false_and] at hav
      simp at hav
      omega
/-- THE LAW: there is a plan exactly if it is possible. -/
theorem plan_iff {lots : List Lt} {bs : List Bx} {ws : List Wt} (hc : CntOK bs) (hw : ∀ w ∈ ws, wantF w = true) : (decide ((planL lots bs ws).2 = 0)) = possL lots bs ws ∧ ((planL lots bs ws).2 = 0 ∨ (planL lots bs ws).2 = 22) := by
  have hw0 : ∀ w ∈ ws, 0 ≤ w.2.1 := fun w h => by
    have := hw w h
    simp only [wantF, btw, Bool.and_eq_true, decide_eq_true_eq] at this
    omega
  have hany : ws.any (fun x => !wantF x) = false := by
    rw [List.any_eq_false]
    intro w h
    simp [hw w h]
  cases hp : planS lots ws bs [] with
  | none =>
    rw [planL_none hany hp]
    refine ⟨?_, .inr rfl⟩
    have hf : possL lots bs ws = false := by
      cases hq : possL lots bs ws with
      | false => rfl
      | true =>
        exfalso
        refine plan_some (lots := lots) (bs := bs) (out := []) hc hw0 (fun w h => ?_) hp
        have := List.all_eq_true.1 hq w h
        simpa using this
    rw [hf]
    rfl
  | some r =>
    rw [planL_some hany hp]
    refine ⟨?_, .inl rfl⟩
    obtain ⟨ps, _, h2⟩ := plans_of hw0 hp
    have hq : possL lots bs ws = true := List.all_eq_true.2 fun w _ => by simpa using plans_ask hc h2 w
    rw [hq]
    rfl
/-! ### What a plan gives -/
structure PlanOK (lots : List Lt) (bs : List Bx) (x : Wt) (p : List Tk) : Prop where
  good : ∀ t ∈ p, 0 ≤ t.1 ∧ t.1 < bs.length ∧ 1 ≤ t.2 ∧ hasF lots x (bs.getD t.1.toNat z3) = true
  nodup : (p.map (fun t => t.1)).Nodup
  sum : sumT p = x.2.1
theorem plans_ok {lots : List Lt} {bs0 : List Bx} : ∀ {ws : List Wt} {bs bs' : List Bx} {ps : List (List Tk)}, bs.length = bs0.length → (∀ k, (bs.getD k z3).1 = (bs0.getD k z3).1) → Plans lots ws bs ps bs' → ∀ i (h1 : i < ws.length) (h2 : i < ps.length), PlanOK lots bs0 ws[i] ps[i]
  | [], _, _, _, _, _, _, i, h1, _ => by simp at h1
  | _ :: _, _, _, [], _, _, h, _, _, h2 => by simp at h2
  | w :: ws, bs, bs', p :: ps, hl, hs0, h, i, h1, h2 => by
    obtain ⟨b1, hs, h3⟩ := h
    obtain ⟨s1, s2, _⟩ := hs.srv.same
    cases i with
    | zero =>
      refine ⟨fun t ht => ?_, hs.nodup, by have := hs.sum; simp only [List.getElem_cons_zero]; omega⟩
      have := hs.srv.all t ht
      rw [hl, has_lot (hs0 _)] at this
      exact this
    | succ i => exact plans_ok (by rw [s1, hl]) (fun k => (s2 k).trans (hs0 k)) h3 i (by simpa using h1) (by simpa using h2)
theorem sumT_app (a b : List Tk) : sumT (a ++ b) = sumT a + sumT b := by unfold sumT; rw [List.map_append, sumI_app]
theorem sumT_take {p : List Tk} {k : Nat} (h : k < p.length) : sumT (p.take (k + 1)) = sumT (p.take k) + p[k].2 := by
  rw [List.take_add_one, List.getElem?_eq_getElem h, Option.toList_some, sumT_app]
  simp [sumT, sumI]
theorem sumT_len : ∀ {p : List Tk}, (∀ t ∈ p, 1 ≤ t.2) → (p.length : Int) ≤ sumT p
  | [], _ => by simp [sumT, sumI]
  | t :: p, h => by
    have h0 := h t (List.mem_cons_self ..)
    have h1 := sumT_len (fun x hx => h x (List.mem_cons_of_mem _ hx))
    simp only [sumT, List.map_cons, sumI, List.foldr_cons, List.length_cons] at h1 ⊢
    omega
theorem sumT_part {p : List Tk} (h : ∀ t ∈ p, 1 ≤ t.2) (k : Nat) : 0 ≤ sumT (p.take k) ∧ sumT (p.take k) ≤ sumT p := by
  have h1 := sumT_len (p := p.take k) (fun x hx => h x (List.mem_of_mem_take hx))
  have h2 := sumT_len (p := p.drop k) (fun x hx => h x (List.mem_of_mem_drop hx))
  have h3 := sumT_app (p.take k) (p.drop k)
  rw [List.take_append_drop] at h3
  omega
theorem plans_pick {lots : List Lt} : ∀ {ws : List Wt} {bs bs' : List Bx} {ps : List (List Tk)}, Plans lots ws bs ps bs' → pickGo ps.flatten bs = some bs' ∧ unitsL bs' = unitsL bs - sumT ps.flatten ∧ (CntOK bs → CntOK bs') ∧ (∀ t ∈ ps.flatten, 0 ≤ t.1 ∧ t.1 < bs.length ∧ 1 ≤ t.2)
  | [], bs, bs', [], h => by
    simp only [Plans] at h
    subst h
    exact ⟨rfl, by simp [sumT, sumI], id, by simp⟩
  | [], _, _, _ :: _, h => by simp [Plans] at h
  | _ :: _, _, _, [], h => by simp [Plans] at h
  | w :: ws, bs, bs', p :: ps, h => by
    obtain ⟨b1, hs, h2⟩ := h
    obtain ⟨a1, a2, a3, a4⟩ := plans_pick h2
    have hu := hs.srv.units
    obtain ⟨s1, _, _⟩ := hs.srv.same
    rw [List.flatten_cons]
    refine ⟨by rw [hs.srv.pick, a1], by rw [sumT_app]; omega, fun hc => a3 (hs.srv.cnt hc), fun t ht => ?_⟩
    rcases List.mem_append.1 ht with ht | ht
    · have := hs.srv.all t ht
      exact ⟨this.1, this.2.1, this.2.2.1⟩
    · have := a4 t ht
      rw [s1] at this
      exact this
theorem pickL_of {bs l : List Bx} {ts : List Tk} (h : ∀ t ∈ ts, 0 ≤ t.1 ∧ t.1 < bs.length ∧ 1 ≤ t.2) (hp : pickGo ts bs = some l) : pickL bs ts = (l, 0) := by
  unfold pickL
  rw [if_neg, if_neg, hp]
  · simp only [List.any_eq_true, not_exists, not_and, decide_eq_true_eq]
    intro t ht
    have := h t ht
    omega
  · simp only [List.any_eq_true, not_exists, not_and, Bool.not_eq_true, Bool.not_eq_false', btw, Bool.and_eq_true, decide_eq_true_eq]
    intro t ht
    have := h t ht
    omega
theorem right_left {ks : List Kd} {lots : List Lt} {bs l : List Bx} {ts : List Tk} (hr : rightS ks lots bs = true) (hg : GoodT bs.length ts) (hp : Pk bs ts l) (hu : unitsL l ≤ unitsL bs) : rightS ks lots l = true := by
  have hb : ∀ b ∈ l, boxF lots.length b = true := by
    intro b hb
    obtain ⟨i, hi, hm, rfl⟩ := pk_mem hp hb
    have hok := right_box hr hm
    exact boxF_of hok (takenL_nonneg hg i) (hp.le i hi hok.cnt.1)
  simp only [rightS, Bool.and_eq_true, decide_eq_true_eq] at hr ⊢
  refine ⟨⟨⟨⟨⟨hr.1.1.1.1.1, by rw [hp.len]; exact hr.1.1.1.1.2⟩, hr.1.1.1.2⟩, hr.1.1.2⟩, List.all_eq_true.2 hb⟩, ?_⟩
  omega
theorem right_units {ks : List Kd} {lots : List Lt} {bs : List Bx} (hr : rightS ks lots bs = true) : unitsL bs ≤ 20000 := by
  simp only [rightS, Bool.and_eq_true, decide_eq_true_eq] at hr
  exact hr.2
end Go.Proofs.YtfpehakllnkaeaaGreatDoor
namespace Go.Proofs.YtfpehakllnkaeaaGreatDoor
open Go.RowKit Go.IntWalk

set_option maxRecDepth 100000 in
set_option maxHeartbeats 1000000 in
theorem rints_any (A B : Option Addr) (c d : Nat) (l m : List Int) (w : World) (hl : l.length ≤ maxLen) (hm : m.length ≤ maxLen) (h1 : SlR w w.heap.size A l) (h2 : SlR w w.heap.size B m) :
    Calls Tryz.prog 11 #[.slice A l.length c, .slice B m.length d] w fun e w' => e = .returned (.bool (decide (l = m))) ∧ Below w.heap.size w w' := by
  unfold maxLen at hl hm
  by_cases hne : l.length = m.length
  case neg =>
    have hne' : ¬ (l.length : Int) = m.length := by omega
    have hr := hid (show decide (l = m) = false by have : l ≠ m := (fun e => hne (by rw [e])); simp [this])
    clear hne
    go_enter Tryz.func11, Tryz.ntmps11
    go_wp2_with fail
    go_ret
    exact ⟨ret_bool hr.out.symm, Below.refl _ _⟩
  have HN := hid hne
  have hne' : (l.length : Int) = m.length := by omega
  clear hne
  go_enter Tryz.func11, Tryz.ntmps11
  go_wp2_with fail
  go_loopw [5] (fun i wr => ∃ k : Nat, k ≤ l.length ∧ i = .int .i64 k ∧ Below w.heap.size w wr ∧ Hid (l.take k = m.take k)) (fun i _ => l.length - (intOf i).toNat)
  case atStart => exact ⟨0, by omega, rfl, Below.refl _ _, by simp [Hid]⟩
  case round =>
    obtain ⟨k, hk, rfl, hB, ht⟩ := hrel
    have HB := hid hB
    by_cases hlt : k < l.length
    · have hlt' : (k : Int) < l.length := by omega
      have hlm : (k : Int) < m.length := by omega
      have hkm : k < m.length := by omega
      obtain ⟨b1, o1, rfl, hb1, c1, _⟩ := h1.int hlt
      obtain ⟨b2, o2, rfl, hb2, d1, _⟩ := h2.int hkm
      replace c1 := (bcell hB b1 _ hb1).trans c1
      replace d1 := (bcell hB b2 _ hb2).trans d1
      have z1 : b1 < wr.heap.size := by have := hB.size; omega
      have z2 : b2 < wr.heap.size := by have := hB.size; omega
      have HE := hid (fun (e : l[k] = m[k]) => take_snoc_eq hlt hkm ht.out e)
      have HNE := hid (fun (e : l[k] ≠ m[k]) => show decide (l = m) = false from by simp [take_snoc_ne hlt hkm e])
      clear hB ht
      generalize l[k] = x at *
      generalize m[k] = y at *
      by_cases e0 : x = y
      · subst e0
        have HT2 := hid (HE.out rfl)
        clear HE HNE
        as_aux_lemma =>
          go_wp2_with fail
          go_quiet (fail)
          go_wp2_with fail
          go_roundw
          case rel => exact ⟨k + 1, by omega, by go_num, below_drewN HB.out _, HT2⟩
          case measure => simp [intOf]; omega
      · have hf := hid (HNE.out e0)
        have e1 : (x == y) = false := by simp [e0]
        have e2 : (x != y) = true := by simp [e0]
        clear HE HNE
        as_aux_lemma =>
          go_wp2_with fail
          go_quiet (fail)
          go_wp2_with fail
          go_ret
          exact ⟨ret_bool hf.out.symm, below_drewN HB.out _⟩
    · obtain rfl : k = l.length := by omega
      have hr := hid (show decide (l = m) = true by
        have h5 := HN.out
        have h6 := ht.out
        rw [List.take_length, h5, List.take_length] at h6
        simp [h6])
      clear hB ht
      go_wp2_with fail
      go_ret
      exact ⟨ret_bool hr.out.symm, HB.out⟩
theorem ownLt_empty (w : World) : ltRK.Own (w.alloc (Obj.cells #[] 40)) w.heap.size (.slice (some ⟨w.heap.size, 0, none⟩) 0 0) [] :=
  RK.Own.fresh (R := ltRK) (l := []) (base := w.heap.size) (show Blk (w.alloc (Obj.cells #[] 40)) w.heap.size ltRK.e (ltRK.all []).toArray from Blk.new _ _ _) (Nat.le_refl _) (by simp)
theorem ownBx_empty (w : World) : bxRK.Own (w.alloc (Obj.cells #[] 45)) w.heap.size (.slice (some ⟨w.heap.size, 0, none⟩) 0 0) [] :=
  RK.Own.fresh (R := bxRK) (l := []) (base := w.heap.size) (show Blk (w.alloc (Obj.cells #[] 45)) w.heap.size bxRK.e (bxRK.all []).toArray from Blk.new _ _ _) (Nat.le_refl _) (by simp)
set_option maxRecDepth 100000 in
set_option maxHeartbeats 4000000 in
theorem rrecall_any (A : Option Addr) (c : Nat) (lots : List Lt) (n : Int) (w : World) (hl : lots.length ≤ 100000) (h : SlR w w.heap.size A lots) :
    Calls Tryz.prog 27 #[.slice A lots.length c, .int .i64 n] w (RecR w lots n) := by
  have hmx : lots.length ≤ maxLen := by unfold maxLen; omega
  have HMX := hid hmx
  have HLI := hid (ltRK.oks h)
  clear hmx
  by_cases h0 : n < 0
  · have hr := hid (show recL lots n = ([], 4) by unfold recL; rw [if_neg (by omega)])
    go_enter Tryz.func27, Tryz.ntmps27
    go_wp2_with fail
    refine bodyPost_ret (v := .tuple #[.slice none 0 0, .int .i64 4]) (by simp [results, Tryz.results27, go_sem]) rfl ?_
    exact ⟨none, 0, by rw [hr.out]; rfl, by rw [hr.out]; exact Nat.zero_le _, by rw [hr.out]; exact SlR.nil, Below.refl _ _⟩
  by_cases h1 : (lots.length : Int) ≤ n
  · have hr := hid (show recL lots n = ([], 4) by unfold recL; rw [if_neg (by omega)])
    go_enter Tryz.func27, Tryz.ntmps27
    go_wp2_with fail
    refine bodyPost_ret (v := .tuple #[.slice none 0 0, .int .i64 4]) (by simp [results, Tryz.results27, go_sem]) rfl ?_
    exact ⟨none, 0, by rw [hr.out]; rfl, by rw [hr.out]; exact Nat.zero_le _, by rw [hr.out]; exact SlR.nil, Below.refl _ _⟩
  obtain ⟨k, rfl⟩ := Int.eq_ofNat_of_zero_le (show 0 ≤ n by omega)
  have hkl : k < lots.length := by omega
  have hg : lots.getD k (0, 0, false) = lots[k] := by simp [hkl]
  have hr := hid (show recL lots (k : Int) = (lots.set k (lots[k].1, lots[k].2.1, true), 0) by unfold recL; rw [if_pos (by omega), Int.toNat_natCast, hg])
  have HSO := hid (show ∀ x ∈ lots.set k (lots[k].1, lots[k].2.1, true), ltRK.ok x from fun x hx => by
    rcases List.mem_or_eq_of_mem_set hx with hx | rfl
    · exact HLI.out x hx
    · exact (show ltRK.ok lots[k] from HLI.out _ (List.getElem_mem hkl)))
  have HCS := hid (show (ltRK.cs lots[k]).set 2 (.bool true) = ltRK.cs (lots[k].1, lots[k].2.1, true) from rfl)
  clear hg
  have b1 := hid (show Below w.heap.size w (w.alloc (Obj.cells #[] 40)) by (repeat (first | exact Below.refl _ _ | assumption | refine below_drewN ?_ _ | refine Below.drew ?_ | refine Below.alloc ?_ (by (try simp); (try omega)) _ | refine Below.setCell ?_ (by (try simp); (try omega)) _)))
  have O1 := hid (ownLt_empty w)
  have S1 := hid ((h.below b1.out).more b1.out.size)
  have hlen := hid (show ([] : List Lt).length + lots.length ≤ 100000000 by simp; omega)
  clear h
  go_enter Tryz.func27, Tryz.ntmps27
  go_upto_region 4 with (at_builtin; refine ltRK.appL _ rfl (.tmp 15) (.tmp 16) rfl rfl O1.out (ys := lots) (c := c) rfl S1.out hlen.out b1.out.size ?_; intro A6 c6 w6 ho hg; have O6 := hid ho; have b6 := hid (b1.out.grown hg b1.out.size (fun q e => (own_blk O1.out q e).1)); clear ho hg)
  rw [List.length_nil, Nat.zero_add, List.nil_append] at O6
  clear O1 S1 hlen b1
  obtain ⟨g6, cap6, cur6, hv, hg6, -⟩ := own_cell O6.out (show 0 < lots.length by omega)
  injection hv with hv hv2 hv3
  subst hv hv3
  clear hv2
  obtain ⟨hgz, -, hcell, hfr⟩ := RK.Own.at_ O6.out hkl
  have hcell2 := hcell 2 (by decide)
  have hfr2 := hfr (k * 3 + 2)
  replace hcell2 : w6.cell? ⟨g6, k * 3 + 2, none⟩ = some (.bool lots[k].2.2) := hcell2
  have O7 := hid (show ltRK.Own (w6.setCell ⟨g6, k * 3 + 2, none⟩ (.bool true)) w.heap.size (.slice (some ⟨g6, 0, none⟩) lots.length c6) (lots.set k (lots[k].1, lots[k].2.1, true)) from RK.Own.set_ O6.out hkl (j := 2) (by decide) HCS.out)
  have b7 := hid (b6.out.setCell (p := ⟨g6, k * 3 + 2, none⟩) hg6 (.bool true))
  have hlI : (k : Int) < lots.length := by omega
  have hln := hid (show (lots.set k (lots[k].1, lots[k].2.1, true)).length = lots.length by rw [List.length_set])
  generalize lots[k].2.2 = ff at *
  clear hcell hfr O6 b6
  obtain ⟨A7, c7, hv, _, _, hs⟩ := O7.out.slr HSO.out
  injection hv with hv hv2 hv3
  subst hv hv3
  have S7 := hid hs
  clear hv2 hs
  generalize lots.set k (lots[k].1, lots[k].2.1, true) = L9 at *
  go_wp2_with fail
  refine bodyPost_ret (v := .tuple #[.slice (some ⟨g6, 0, none⟩) lots.length c6, .int .i64 0]) (by simp [results, Tryz.results27, go_sem]) rfl ?_
  exact ⟨some ⟨g6, 0, none⟩, c6, by rw [hr.out, hln.out], by rw [hr.out, hln.out]; exact HMX.out, by rw [hr.out]; exact S7.out, b7.out⟩
set_option maxRecDepth 100000 in
set_option maxHeartbeats 8000000 in
theorem rpick_any (B C : Option Addr) (d e0 : Nat) (lots : List Lt) (bs : List Bx) (ts : List Tk) (w : World) (hb : bs.length ≤ 20) (hw : ts.length ≤ 100000) (h2 : SlR w w.heap.size B bs) (h3 : SlR w w.heap.size C ts) (hok : LeftOK lots bs.length bs) :
    Calls Tryz.prog 25 #[.slice B bs.length d, .slice C ts.length e0] w (PickR w bs ts) := by
  have H2 := hid h2; have H3 := hid h3; have HOK := hid hok
  have hmx : bs.length ≤ maxLen ∧ ts.length ≤ maxLen := by unfold maxLen; omega
  have HMX := hid hmx.1
  clear h2 h3 hok hmx
  go_enter Tryz.func25, Tryz.ntmps25
  go_wp2_with fail
  go_loopw [6] (fun iv wr => ∃ k : Nat, k ≤ ts.length ∧ iv = .int .i64 k ∧ Hid ((ts.take k).any (fun x => !btw x.1 0 ((bs.length : Int) - 1)) = false) ∧ Below w.heap.size w wr) (fun iv _ => ts.length - (intOf iv).toNat)
  case atStart => exact ⟨0, by omega, rfl, by simp [Hid], Below.refl _ _⟩
  case round =>
    obtain ⟨k, hk, rfl, hA, hB⟩ := hrel
    have HB := hid hB
    clear hB
    by_cases hlt : k < ts.length
    case pos =>
      have hltI : (k : Int) < ts.length := by omega
      obtain ⟨b, off, rfl, hbz, c0, c1, -⟩ := H3.out.tk hlt
      replace c0 := (bcell HB.out b _ hbz).trans c0
      have hz : b < wr.heap.size := by have := HB.out.size; omega
      have HS := hid (show (ts.take (k + 1)).any (fun x => !btw x.1 0 ((bs.length : Int) - 1)) = ((ts.take k).any (fun x => !btw x.1 0 ((bs.length : Int) - 1)) || !btw ts[k].1 0 ((bs.length : Int) - 1)) by
        rw [List.take_add_one, List.getElem?_eq_getElem hlt, List.any_append]; simp)
      have HP := hid (show (!btw ts[k].1 0 ((bs.length : Int) - 1)) = true → pickL bs ts = ([], 4) from fun e => by unfold pickL; rw [if_pos (List.any_eq_true.2 ⟨_, List.getElem_mem hlt, e⟩)])
      clear c1
      generalize ts[k] = x at *
      obtain ⟨xk, xn⟩ := x
      simp only at c0 HS HP
      by_cases q1 : xk < 0
      · have hp := hid (HP.out (by simp [btw]; omega))
        as_aux_lemma =>
          go_wp2_with fail
          refine bodyPost_ret (v := .tuple #[.slice none 0 0, .int .i64 4]) (by simp [results, Tryz.results25, go_sem]) rfl ?_
          exact ⟨none, 0, by rw [hp.out]; rfl, by rw [hp.out]; exact Nat.zero_le _, by rw [hp.out]; exact SlR.nil, HB.out⟩
      by_cases q2 : (bs.length : Int) ≤ xk
      · have hp := hid (HP.out (by simp [btw]; omega))
        as_aux_lemma =>
          go_wp2_with fail
          refine bodyPost_ret (v := .tuple #[.slice none 0 0, .int .i64 4]) (by simp [results, Tryz.results25, go_sem]) rfl ?_
          exact ⟨none, 0, by rw [hp.out]; rfl, by rw [hp.out]; exact Nat.zero_le _, by rw [hp.out]; exact SlR.nil, HB.out⟩
      have hf := hid (show (ts.take (k + 1)).any (fun x => !btw x.1 0 ((bs.length : Int) - 1)) = false by rw [HS.out, hA.out]; simp [btw]; omega)
      as_aux_lemma =>
        go_wp2_with fail
        go_roundw
        case rel => exact ⟨k + 1, by omega, by go_num, hf, HB.out⟩
        case measure => simp [intOf]; omega
    case neg =>
    obtain rfl : k = ts.length := by omega
    have HANY := hid (show ts.any (fun x => !btw x.1 0 ((bs.length : Int) - 1)) = false by have := hA.out; rwa [List.take_length] at this)
    clear hA hlt hk
    go_wp2_with fail
    go_loopw [7] (fun iv wr => ∃ k : Nat, k ≤ ts.length ∧ iv = .int .i64 k ∧ Hid ((ts.take k).any (fun x => decide (x.2 < 1)) = false) ∧ Below w.heap.size w wr) (fun iv _ => ts.length - (intOf iv).toNat)
    case atStart => exact ⟨0, by omega, rfl, by simp [Hid], HB.out⟩
    case round =>
      clear HB
      obtain ⟨k, hk, rfl, hA, hB⟩ := hrel
      have HB := hid hB
      clear hB
      by_cases hlt : k < ts.length
      case pos =>
        have hltI : (k : Int) < ts.length := by omega
        obtain ⟨b, off, rfl, hbz, c0, c1, -⟩ := H3.out.tk hlt
        replace c1 := (bcell HB.out b _ hbz).trans c1
        have hz : b < wr.heap.size := by have := HB.out.size; omega
        have HS := hid (show (ts.take (k + 1)).any (fun x => decide (x.2 < 1)) = ((ts.take k).any (fun x => decide (x.2 < 1)) || decide (ts[k].2 < 1)) by
          rw [List.take_add_one, List.getElem?_eq_getElem hlt, List.any_append]; simp)
        have HP := hid (show ts[k].2 < 1 → pickL bs ts = ([], 1) from fun e => by unfold pickL; rw [if_neg (by rw [HANY.out]; simp), if_pos (List.any_eq_true.2 ⟨_, List.getElem_mem hlt, by simp [e]⟩)])
        clear c0
        generalize ts[k] = x at *
        obtain ⟨xk, xn⟩ := x
        simp only at c1 HS HP
        by_cases q1 : xn < 1
        · have hp := hid (HP.out q1)
          as_aux_lemma =>
            go_wp2_with fail
            refine bodyPost_ret (v := .tuple #[.slice none 0 0, .int .i64 1]) (by simp [results, Tryz.results25, go_sem]) rfl ?_
            exact ⟨none, 0, by rw [hp.out]; rfl, by rw [hp.out]; exact Nat.zero_le _, by rw [hp.out]; exact SlR.nil, HB.out⟩
        have hf := hid (show (ts.take (k + 1)).any (fun x => decide (x.2 < 1)) = false by rw [HS.out, hA.out]; simp [q1])
        as_aux_lemma =>
          go_wp2_with fail
          go_roundw
          case rel => exact ⟨k + 1, by omega, by go_num, hf, HB.out⟩
          case measure => simp [intOf]; omega
      case neg =>
      obtain rfl : k = ts.length := by omega
      have HANZ := hid (show ts.any (fun x => decide (x.2 < 1)) = false by have := hA.out; rwa [List.take_length] at this)
      have hpl := hid (show pickL bs ts = match pickGo ts bs with | none => ([], 22) | some l => (l, 0) by unfold pickL; rw [if_neg (by rw [HANY.out]; simp), if_neg (by rw [HANZ.out]; simp)]; cases pickGo ts bs <;> rfl)
      clear hA hlt hk
      have b1 := hid (show Below wr.heap.size wr (wr.alloc (Obj.cells #[] 45)) by (repeat (first | exact Below.refl _ _ | assumption | refine below_drewN ?_ _ | refine Below.drew ?_ | refine Below.alloc ?_ (by (try simp); (try omega)) _ | refine Below.setCell ?_ (by (try simp); (try omega)) _)))
      have B1 := hid (HB.out.trans (b1.out.mono HB.out.size))
      have O1 := hid (ownBx_empty wr)
      have S1 := hid ((H2.out.below B1.out).more B1.out.size)
      have hlen := hid (show ([] : List Bx).length + bs.length ≤ 100000000 by simp; omega)
      have hbz := hid HB.out.size
      go_upto_region 12 with (at_builtin; refine bxRK.appL _ rfl (.tmp 45) (.tmp 46) rfl rfl O1.out (ys := bs) (c := d) rfl S1.out hlen.out b1.out.size ?_; intro A6 c6 w6 ho hg; have O6 := hid ho; have B6 := hid (B1.out.grown hg B1.out.size (fun q e => Nat.le_trans hbz.out (own_blk O1.out q e).1)); clear ho hg)
      rw [List.length_nil, Nat.zero_add, List.nil_append] at O6
      have X6 := hid (show bxRK.Own w6 w.heap.size (.slice A6 bs.length c6) bs from O6.out.base_ hbz.out)
      clear O1 S1 hlen b1 B1 O6 hbz HB
      go_wp2_with fail
      go_loopw [9] (fun iv wr => ∃ (i : Nat) (l : List Bx), i ≤ ts.length ∧ iv = .int .i64 i ∧ bxRK.Own wr w.heap.size (.slice A6 bs.length c6) l ∧ Hid (pickGo ts bs = pickGo (ts.drop i) l) ∧ LeftOK lots bs.length l ∧ Below w.heap.size w wr) (fun iv _ => ts.length - (intOf iv).toNat)
      case atStart => exact ⟨0, bs, by omega, rfl, X6.out, by simp [Hid], HOK.out, B6.out⟩
      case round =>
        clear X6 B6
        obtain ⟨i, l, hi, rfl, hX, hS, hL, hB⟩ := hrel
        have HX := hid hX; have HL := hid hL; have HB := hid hB
        clear hX hL hB
        by_cases hlt : i < ts.length
        case neg =>
          obtain rfl : i = ts.length := by omega
          have hp := hid (show pickL bs ts = (l, 0) by rw [hpl.out, hS.out, List.drop_length]; rfl)
          have hll := hid HL.out.len
          obtain ⟨A9, c9, h9, _, _, h92⟩ := HX.out.slr (fun x hx => HL.out.i3 x hx)
          injection h9 with h9 h9b h9c
          subst h9 h9c
          have Q9 := hid h92
          clear h92 hlt hi hS h9b
          as_aux_lemma =>
            go_wp2_with fail
            refine bodyPost_ret (v := .tuple #[.slice A6 bs.length c6, .int .i64 0]) (by simp [results, Tryz.results25, go_sem]) rfl ?_
            exact ⟨A6, c6, by rw [hp.out, hll.out], by rw [hp.out, hll.out]; exact HMX.out, by rw [hp.out]; exact Q9.out, HB.out⟩
        have hltI : (i : Int) < ts.length := by omega
        have hdr := hid (show ts.drop i = ts[i] :: ts.drop (i + 1) from List.drop_eq_getElem_cons hlt)
        obtain ⟨b, off, rfl, hbz, c0, c1, -⟩ := H3.out.tk hlt
        replace c0 := (bcell HB.out b _ hbz).trans c0
        replace c1 := (bcell HB.out b _ hbz).trans c1
        have hz : b < wr.heap.size := by have := HB.out.size; omega
        have hin := List.any_eq_false.1 HANY.out _ (List.getElem_mem hlt)
        have hin2 := List.any_eq_false.1 HANZ.out _ (List.getElem_mem hlt)
        generalize ts[i] = x at *
        obtain ⟨xk, xn⟩ := x
        simp only at c0 c1 hin hin2
        simp only [btw, Bool.not_eq_true', Bool.and_eq_false_imp, decide_eq_true_eq, decide_eq_false_iff_not, Int.not_lt, Bool.not_eq_true, Bool.not_eq_false', Bool.and_eq_true] at hin hin2
        have hk : 0 ≤ xk ∧ xk < bs.length := by omega
        obtain ⟨k, rfl⟩ := Int.eq_ofNat_of_zero_le hk.1
        clear hin
        have hkl : k < l.length := by have := HL.out.len; omega
        have hkI : (k : Int) < bs.length := hk.2
        obtain ⟨g, cap, cur, hv, hgw, -⟩ := own_cell HX.out (show 0 < l.length by omega)
        injection hv with hv hv2 hv3
        subst hv
        clear hv2 hv3
        obtain ⟨hgz, -, hcell, hfr⟩ := RK.Own.at_ HX.out hkl
        have x1 := hcell 1 (by decide)
        have xf := hfr (k * 3 + 1)
        replace x1 : wr.cell? ⟨g, k * 3 + 1, none⟩ = some (.int .i64 l[k].2.1) := x1
        have hcb := HL.out.cnt _ (List.getElem_mem hkl)
        have hgo := hid (show pickGo ((k, xn) :: ts.drop (i + 1)) l = if l[k].2.1 < xn then none else pickGo (ts.drop (i + 1)) (subAt l k xn) by
          have e : cntAt l k = l[k].2.1 := by simp [cntAt, hkl]
          rw [← e]; rfl)
        have hset := hid (fun (W : World) (hW : bxRK.Own W w.heap.size (.slice (some ⟨g, 0, none⟩) bs.length c6) l) => show bxRK.Own (W.setCell ⟨g, k * 3 + 1, none⟩ (.int .i64 (l[k].2.1 - xn))) w.heap.size (.slice (some ⟨g, 0, none⟩) bs.length c6) (subAt l k xn) from by
          rw [subAt_eq hkl]
          exact RK.Own.set_ hW hkl (j := 1) (by decide) rfl)
        have hsub := hid (fun (h0 : 0 ≤ xn) (h1 : xn ≤ l[k].2.1) => HL.out.sub hkl h0 h1)
        generalize l[k].2.1 = cnt at *
        have HGW := hid hgw
        clear hcell hfr hgw hk
        go_upto_region 16 with fail
        clear c0
        refine wpIn_wide.1 (wpIn_region_S (n := 0) (fun wq => wq.cell? ⟨b, off + i * 2 + 1, none⟩ = some (.int .i64 xn) ∧ wq.cell? ⟨g, k * 3 + 1, none⟩ = some (.int .i64 cnt)) [] (by kernel_rfl) ⟨c1, x1⟩ (fun hHeld => ?_))
        refine wpAnyS_pure 0 (v := ?_) (fun _ => trivial) (by simp only [List.getElem?_toArray, List.getElem?_cons_succ, List.getElem?_cons_zero]; rfl) (by kernel_rfl) (fun _ _ _ _ _ h => h) ⟨rfl, (by intro c h; cases h), ?_⟩ hHeld ?_
        rotate_left
        focus (intro wS hSw; (try replace hSw := HSF.out wS hSw); (try dsimp only at hSw); go_simp; (try with_reducible rfl))
        (try simp only [Act.put, List.setIfInBounds_toArray, List.set_cons_zero, List.set_cons_succ])
        refine wpAnyS_pure 1 (v := ?_) (fun _ => trivial) (by simp only [List.getElem?_toArray, List.getElem?_cons_succ, List.getElem?_cons_zero]; rfl) (by kernel_rfl) (fun _ _ _ _ _ h => h) ⟨rfl, (by intro c h; cases h), ?_⟩ hHeld ?_
        rotate_left
        focus (intro wS hSw; (try replace hSw := HSF.out wS hSw); (try dsimp only at hSw); go_simp; (try with_reducible rfl))
        (try simp only [Act.put, List.setIfInBounds_toArray, List.set_cons_zero, List.set_cons_succ])
        refine wpAnyS_pure 2 (v := ?_) (fun _ => trivial) (by simp only [List.getElem?_toArray, List.getElem?_cons_succ, List.getElem?_cons_zero]; rfl) (by kernel_rfl) (fun _ _ _ _ _ h => h) ⟨rfl, (by intro c h; cases h), ?_⟩ hHeld ?_
        rotate_left
        focus (intro wS hSw; (try replace hSw := HSF.out wS hSw); (try dsimp only at hSw); go_simp; (try with_reducible rfl))
        (try simp only [Act.put, List.setIfInBounds_toArray, List.set_cons_zero, List.set_cons_succ])
        refine wpAnyS_pure 3 (v := ?_) (fun _ => trivial) (by simp only [List.getElem?_toArray, List.getElem?_cons_succ, List.getElem?_cons_zero]; rfl) (by kernel_rfl) (fun _ _ _ _ _ h => h) ⟨rfl, (by intro c h; cases h), ?_⟩ hHeld ?_
        rotate_left
        focus (intro wS hSw; (try replace hSw := HSF.out wS hSw); (try dsimp only at hSw); go_simp; (try with_reducible rfl))
        (try simp only [Act.put, List.setIfInBounds_toArray, List.set_cons_zero, List.set_cons_succ])
        refine wpAnyS_take 4 (v := ?_) (fun _ => trivial) (by simp only [List.getElem?_toArray, List.getElem?_cons_succ, List.getElem?_cons_zero]; rfl) (by kernel_rfl) (fun _ _ _ _ _ h => h) ⟨rfl, (by intro c h; cases h), ?_⟩ hHeld ?_
        rotate_left
        focus (intro wS hSw; (try replace hSw := HSF.out wS hSw); (try dsimp only at hSw); go_simp; (try with_reducible rfl))
        (try simp only [Act.put, List.setIfInBounds_toArray, List.set_cons_zero, List.set_cons_succ])
        refine wpAnyS_pure 5 (v := ?_) (fun _ => trivial) (by simp only [List.getElem?_toArray, List.getElem?_cons_succ, List.getElem?_cons_zero]; rfl) (by kernel_rfl) (fun _ _ _ _ _ h => h) ⟨rfl, (by intro c h; cases h), ?_⟩ hHeld ?_
        rotate_left
        focus (intro wS hSw; (try replace hSw := HSF.out wS hSw); (try dsimp only at hSw); go_simp; (try with_reducible rfl))
        (try simp only [Act.put, List.setIfInBounds_toArray, List.set_cons_zero, List.set_cons_succ])
        refine wpAnyS_pure 6 (v := ?_) (fun _ => trivial) (by simp only [List.getElem?_toArray, List.getElem?_cons_succ, List.getElem?_cons_zero]; rfl) (by kernel_rfl) (fun _ _ _ _ _ h => h) ⟨rfl, (by intro c h; cases h), ?_⟩ hHeld ?_
        rotate_left
        focus (intro wS hSw; (try replace hSw := HSF.out wS hSw); (try dsimp only at hSw); go_simp; (try with_reducible rfl))
        (try simp only [Act.put, List.setIfInBounds_toArray, List.set_cons_zero, List.set_cons_succ])
        refine wpAnyS_pure 7 (v := ?_) (fun _ => trivial) (by simp only [List.getElem?_toArray, List.getElem?_cons_succ, List.getElem?_cons_zero]; rfl) (by kernel_rfl) (fun _ _ _ _ _ h => h) ⟨rfl, (by intro c h; cases h), ?_⟩ hHeld ?_
        rotate_left
        focus (intro wS hSw; (try replace hSw := HSF.out wS hSw); (try dsimp only at hSw); go_simp; (try with_reducible rfl))
        (try simp only [Act.put, List.setIfInBounds_toArray, List.set_cons_zero, List.set_cons_succ])
        refine wpAnyS_pure 8 (v := ?_) (fun _ => trivial) (by simp only [List.getElem?_toArray, List.getElem?_cons_succ, List.getElem?_cons_zero]; rfl) (by kernel_rfl) (fun _ _ _ _ _ h => h) ⟨rfl, (by intro c h; cases h), ?_⟩ hHeld ?_
        rotate_left
        focus (intro wS hSw; (try replace hSw := HSF.out wS hSw); (try dsimp only at hSw); go_simp; (try with_reducible rfl))
        (try simp only [Act.put, List.setIfInBounds_toArray, List.set_cons_zero, List.set_cons_succ])
        refine wpAnyS_take 9 (v := ?_) (fun _ => trivial) (by simp only [List.getElem?_toArray, List.getElem?_cons_succ, List.getElem?_cons_zero]; rfl) (by kernel_rfl) (fun _ _ _ _ _ h => h) ⟨rfl, (by intro c h; cases h), ?_⟩ hHeld ?_
        rotate_left
        focus (intro wS hSw; (try replace hSw := HSF.out wS hSw); (try dsimp only at hSw); go_simp; (try with_reducible rfl))
        (try simp only [Act.put, List.setIfInBounds_toArray, List.set_cons_zero, List.set_cons_succ])
        refine wpAnyS_pure 10 (v := ?_) (fun _ => trivial) (by simp only [List.getElem?_toArray, List.getElem?_cons_succ, List.getElem?_cons_zero]; rfl) (by kernel_rfl) (fun _ _ _ _ _ h => h) ⟨rfl, (by intro c h; cases h), ?_⟩ hHeld ?_
        rotate_left
        focus (intro wS hSw; (try replace hSw := HSF.out wS hSw); (try dsimp only at hSw); go_simp; (try with_reducible rfl))
        (try simp only [Act.put, List.setIfInBounds_toArray, List.set_cons_zero, List.set_cons_succ])
        refine wpAnyS_done (by kernel_rfl) ?_
        clear hHeld
        by_cases hcx : cnt < xn
        case pos =>
          have hp := hid (show pickL bs ts = ([], 22) by rw [hpl.out, hS.out, hdr.out, hgo.out, if_pos hcx])
          as_aux_lemma =>
            go_wp2_with fail
            refine bodyPost_ret (v := .tuple #[.slice none 0 0, .int .i64 22]) (by simp [results, Tryz.results25, go_sem]) rfl ?_
            exact ⟨none, 0, by rw [hp.out]; rfl, by rw [hp.out]; exact Nat.zero_le _, by rw [hp.out]; exact SlR.nil, HB.out.drew⟩
        have hps := hid (show pickGo ts bs = pickGo (ts.drop (i + 1)) (subAt l k xn) by rw [hS.out, hdr.out, hgo.out, if_neg hcx])
        have hw1 : IntKind.i64.wrap (cnt - xn) = cnt - xn := IntWalk.i64_in _ (by omega)
        go_upto_region 18 with fail
        refine wpIn_wide.1 (wpIn_region_S (n := 0) (fun wq => wq.cell? ⟨b, off + i * 2 + 1, none⟩ = some (.int .i64 xn) ∧ wq.cell? ⟨g, k * 3 + 1, none⟩ = some (.int .i64 cnt)) [15] (by kernel_rfl) ⟨c1, x1⟩ (fun hHeld => ?_))
        refine wpAnyS_pure 0 (v := ?_) (fun _ => trivial) (by simp only [List.getElem?_toArray, List.getElem?_cons_succ, List.getElem?_cons_zero]; rfl) (by kernel_rfl) (fun _ _ _ _ _ h => h) ⟨rfl, (by intro c h; cases h), ?_⟩ hHeld ?_
        rotate_left
        focus (intro wS hSw; (try replace hSw := HSF.out wS hSw); (try dsimp only at hSw); go_simp; (try with_reducible rfl))
        (try simp only [Act.put, List.setIfInBounds_toArray, List.set_cons_zero, List.set_cons_succ])
        refine wpAnyS_pure 1 (v := ?_) (fun _ => trivial) (by simp only [List.getElem?_toArray, List.getElem?_cons_succ, List.getElem?_cons_zero]; rfl) (by kernel_rfl) (fun _ _ _ _ _ h => h) ⟨rfl, (by intro c h; cases h), ?_⟩ hHeld ?_
        rotate_left
        focus (intro wS hSw; (try replace hSw := HSF.out wS hSw); (try dsimp only at hSw); go_simp; (try with_reducible rfl))
        (try simp only [Act.put, List.setIfInBounds_toArray, List.set_cons_zero, List.set_cons_succ])
        refine wpAnyS_pure 2 (v := ?_) (fun _ => trivial) (by simp only [List.getElem?_toArray, List.getElem?_cons_succ, List.getElem?_cons_zero]; rfl) (by kernel_rfl) (fun _ _ _ _ _ h => h) ⟨rfl, (by intro c h; cases h), ?_⟩ hHeld ?_
        rotate_left
        focus (intro wS hSw; (try replace hSw := HSF.out wS hSw); (try dsimp only at hSw); go_simp; (try with_reducible rfl))
        (try simp only [Act.put, List.setIfInBounds_toArray, List.set_cons_zero, List.set_cons_succ])
        refine wpAnyS_pure 3 (v := ?_) (fun _ => trivial) (by simp only [List.getElem?_toArray, List.getElem?_cons_succ, List.getElem?_cons_zero]; rfl) (by kernel_rfl) (fun _ _ _ _ _ h => h) ⟨rfl, (by intro c h; cases h), ?_⟩ hHeld ?_
        rotate_left
        focus (intro wS hSw; (try replace hSw := HSF.out wS hSw); (try dsimp only at hSw); go_simp; (try with_reducible rfl))
        (try simp only [Act.put, List.setIfInBounds_toArray, List.set_cons_zero, List.set_cons_succ])
        refine wpAnyS_pure 4 (v := ?_) (fun _ => trivial) (by simp only [List.getElem?_toArray, List.getElem?_cons_succ, List.getElem?_cons_zero]; rfl) (by kernel_rfl) (fun _ _ _ _ _ h => h) ⟨rfl, (by intro c h; cases h), ?_⟩ hHeld ?_
        rotate_left
        focus (intro wS hSw; (try replace hSw := HSF.out wS hSw); (try dsimp only at hSw); go_simp; (try with_reducible rfl))
        (try simp only [Act.put, List.setIfInBounds_toArray, List.set_cons_zero, List.set_cons_succ])
        refine wpAnyS_pure 5 (v := ?_) (fun _ => trivial) (by simp only [List.getElem?_toArray, List.getElem?_cons_succ, List.getElem?_cons_zero]; rfl) (by kernel_rfl) (fun _ _ _ _ _ h => h) ⟨rfl, (by intro c h; cases h), ?_⟩ hHeld ?_
        rotate_left
        focus (intro wS hSw; (try replace hSw := HSF.out wS hSw); (try dsimp only at hSw); go_simp; (try with_reducible rfl))
        (try simp only [Act.put, List.setIfInBounds_toArray, List.set_cons_zero, List.set_cons_succ])
        refine wpAnyS_take 6 (v := ?_) (fun _ => trivial) (by simp only [List.getElem?_toArray, List.getElem?_cons_succ, List.getElem?_cons_zero]; rfl) (by kernel_rfl) (fun _ _ _ _ _ h => h) ⟨rfl, (by intro c h; cases h), ?_⟩ hHeld ?_
        rotate_left
        focus (intro wS hSw; (try replace hSw := HSF.out wS hSw); (try dsimp only at hSw); go_simp; (try with_reducible rfl))
        (try simp only [Act.put, List.setIfInBounds_toArray, List.set_cons_zero, List.set_cons_succ])
        refine wpAnyS_pure 7 (v := ?_) (fun _ => trivial) (by simp only [List.getElem?_toArray, List.getElem?_cons_succ, List.getElem?_cons_zero]; rfl) (by kernel_rfl) (fun _ _ _ _ _ h => h) ⟨rfl, (by intro c h; cases h), ?_⟩ hHeld ?_
        rotate_left
        focus (intro wS hSw; (try replace hSw := HSF.out wS hSw); (try dsimp only at hSw); go_simp; (try with_reducible rfl))
        (try simp only [Act.put, List.setIfInBounds_toArray, List.set_cons_zero, List.set_cons_succ])
        refine wpAnyS_pure 8 (v := ?_) (fun _ => trivial) (by simp only [List.getElem?_toArray, List.getElem?_cons_succ, List.getElem?_cons_zero]; rfl) (by kernel_rfl) (fun _ _ _ _ _ h => h) ⟨rfl, (by intro c h; cases h), ?_⟩ hHeld ?_
        rotate_left
        focus (intro wS hSw; (try replace hSw := HSF.out wS hSw); (try dsimp only at hSw); go_simp; (try with_reducible rfl))
        (try simp only [Act.put, List.setIfInBounds_toArray, List.set_cons_zero, List.set_cons_succ])
        refine wpAnyS_pure 9 (v := ?_) (fun _ => trivial) (by simp only [List.getElem?_toArray, List.getElem?_cons_succ, List.getElem?_cons_zero]; rfl) (by kernel_rfl) (fun _ _ _ _ _ h => h) ⟨rfl, (by intro c h; cases h), ?_⟩ hHeld ?_
        rotate_left
        focus (intro wS hSw; (try replace hSw := HSF.out wS hSw); (try dsimp only at hSw); go_simp; (try with_reducible rfl))
        (try simp only [Act.put, List.setIfInBounds_toArray, List.set_cons_zero, List.set_cons_succ])
        refine wpAnyS_pure 10 (v := ?_) (fun _ => trivial) (by simp only [List.getElem?_toArray, List.getElem?_cons_succ, List.getElem?_cons_zero]; rfl) (by kernel_rfl) (fun _ _ _ _ _ h => h) ⟨rfl, (by intro c h; cases h), ?_⟩ hHeld ?_
        rotate_left
        focus (intro wS hSw; (try replace hSw := HSF.out wS hSw); (try dsimp only at hSw); go_simp; (try with_reducible rfl))
        (try simp only [Act.put, List.setIfInBounds_toArray, List.set_cons_zero, List.set_cons_succ])
        refine wpAnyS_take 11 (v := ?_) (fun _ => trivial) (by simp only [List.getElem?_toArray, List.getElem?_cons_succ, List.getElem?_cons_zero]; rfl) (by kernel_rfl) (fun _ _ _ _ _ h => h) ⟨rfl, (by intro c h; cases h), ?_⟩ hHeld ?_
        rotate_left
        focus (intro wS hSw; (try replace hSw := HSF.out wS hSw); (try dsimp only at hSw); go_simp; (try with_reducible rfl))
        (try simp only [Act.put, List.setIfInBounds_toArray, List.set_cons_zero, List.set_cons_succ])
        refine wpAnyS_pure 12 (v := ?_) (fun _ => trivial) (by simp only [List.getElem?_toArray, List.getElem?_cons_succ, List.getElem?_cons_zero]; rfl) (by kernel_rfl) (fun _ _ _ _ _ h => h) ⟨rfl, (by intro c h; cases h), ?_⟩ hHeld ?_
        rotate_left
        focus (intro wS hSw; (try replace hSw := HSF.out wS hSw); (try dsimp only at hSw); go_simp; (try with_reducible rfl))
        (try simp only [Act.put, List.setIfInBounds_toArray, List.set_cons_zero, List.set_cons_succ])
        refine wpAnyS_pure 13 (v := ?_) (fun _ => trivial) (by simp only [List.getElem?_toArray, List.getElem?_cons_succ, List.getElem?_cons_zero]; rfl) (by kernel_rfl) (fun _ _ _ _ _ h => h) ⟨rfl, (by intro c h; cases h), ?_⟩ hHeld ?_
        rotate_left
        focus (intro wS hSw; (try replace hSw := HSF.out wS hSw); (try dsimp only at hSw); go_simp; (try with_reducible rfl))
        (try simp only [Act.put, List.setIfInBounds_toArray, List.set_cons_zero, List.set_cons_succ])
        refine wpAnyS_pure 14 (v := ?_) (fun _ => trivial) (by simp only [List.getElem?_toArray, List.getElem?_cons_succ, List.getElem?_cons_zero]; rfl) (by kernel_rfl) (fun _ _ _ _ _ h => h) ⟨rfl, (by intro c h; cases h), ?_⟩ hHeld ?_
        rotate_left
        focus (intro wS hSw; (try replace hSw := HSF.out wS hSw); (try dsimp only at hSw); go_simp; (try with_reducible rfl))
        (try simp only [Act.put, List.setIfInBounds_toArray, List.set_cons_zero, List.set_cons_succ])
        have x7 : wr.drew.drew.frozen? ⟨g, k * 3 + 1, none⟩ = false := xf
        refine wpAnyS_ready [15] (by kernel_rfl) (by simp) (AllReadyS.consL (by simp only [List.getElem?_toArray, List.getElem?_cons_succ, List.getElem?_cons_zero]; rfl) rfl (by kernel_rfl) (fun K hK => ?_) AllReadyS.nil)
        go_simp
        refine hK.out _ _ ?_
        clear hK K hHeld
        refine wpAnyS_done (by kernel_rfl) ?_
        have bd := hid (show Below wr.heap.size wr wr.drew.drew by (repeat (first | exact Below.refl _ _ | assumption | refine below_drewN ?_ _ | refine Below.drew ?_ | refine Below.alloc ?_ (by (try simp); (try omega)) _ | refine Below.setCell ?_ (by (try simp); (try omega)) _)))
        have X6 := hid (show bxRK.Own wr.drew.drew w.heap.size (.slice (some ⟨g, 0, none⟩) bs.length c6) l from HX.out.below bd.out)
        have X9 := hid (hset.out _ X6.out)
        have B9 := hid ((HB.out.trans (bd.out.mono HB.out.size)).setCell (p := ⟨g, k * 3 + 1, none⟩) (by exact HGW.out) (.int .i64 (cnt - xn)))
        as_aux_lemma =>
          go_wp2_with fail
          go_roundw
          case rel => exact ⟨i + 1, _, by omega, by go_num, X9.out, hps, hsub.out (by omega) (by omega), B9.out⟩
          case measure => simp [intOf]; omega
end Go.Proofs.YtfpehakllnkaeaaGreatDoor
namespace Go.Proofs.YtfpehakllnkaeaaGreatDoor
open Go.RowKit Go.IntWalk

theorem CntOK.nn {bs : List Bx} (h : CntOK bs) : CntNN bs := cntNN_of (fun x hx => (h x hx).1)
theorem firstN_nil_neg {lots : List Lt} {bs : List Bx} {w : Wt} {but : List Int} {n : Nat} {r : Int} (h : FirstN lots bs w but n r) : r = -1 ∨ 0 ≤ r := by
  rcases h with ⟨rfl, _⟩ | ⟨k, rfl, _⟩
  · exact .inl rfl
  · right; omega
set_option maxRecDepth 100000 in
set_option maxHeartbeats 40000000 in
theorem rplan_any (A B C : Option Addr) (c d e0 : Nat) (lots : List Lt) (bs : List Bx) (wants : List Wt) (w : World) (hl : lots.length ≤ maxLen) (hb : bs.length ≤ 20) (hw : wants.length ≤ 1000) (h1 : SlR w w.heap.size A lots) (h2 : SlR w w.heap.size B bs) (h3 : SlR w w.heap.size C wants) (hok : LeftOK lots bs.length bs) :
    Calls Tryz.prog 23 #[.slice A lots.length c, .slice B bs.length d, .slice C wants.length e0] w (PlanR w lots bs wants) := by
  have HL := hid hl; have H1 := hid h1; have H2 := hid h2; have H3 := hid h3; have HOK := hid hok
  clear hl h1 h2 h3 hok
  go_enter Tryz.func23, Tryz.ntmps23
  go_wp2_with fail
  go_loopw [8] (fun iv wr => ∃ k : Nat, k ≤ wants.length ∧ iv = .int .i64 k ∧ Hid ((wants.take k).any (fun x => !wantF x) = false) ∧ Below w.heap.size w wr) (fun iv _ => wants.length - (intOf iv).toNat)
  case atStart => exact ⟨0, by omega, rfl, by simp [Hid], Below.refl _ _⟩
  case round =>
    obtain ⟨k, hk, rfl, hA, hB⟩ := hrel
    have HB := hid hB
    clear hB
    by_cases hlt : k < wants.length
    case pos =>
      have hltI : (k : Int) < wants.length := by omega
      obtain ⟨b, off, rfl, hbz, c0, c1, c2, -⟩ := H3.out.i3 hlt
      replace c0 := (bcell HB.out b _ hbz).trans c0
      replace c1 := (bcell HB.out b _ hbz).trans c1
      replace c2 := (bcell HB.out b _ hbz).trans c2
      have hz : b < wr.heap.size := by have := HB.out.size; omega
      have HS := hid (show (wants.take (k + 1)).any (fun x => !wantF x) = ((wants.take k).any (fun x => !wantF x) || !wantF wants[k]) by
        rw [List.take_add_one, List.getElem?_eq_getElem hlt, List.any_append]; simp)
      have HP := hid (show wantF wants[k] = false → planL lots bs wants = ([], 1) from fun e => planL_arg (List.any_eq_true.2 ⟨_, List.getElem_mem hlt, by rw [e]; rfl⟩))
      generalize wants[k] = x at *
      obtain ⟨xk, xc, xu⟩ := x
      simp only at c0 c1 c2
      have HW := hid (refWant_any (xk, xc, xu) wr)
      simp only at HW
      go_wp2_with fail
      refine HW.out.mono ?_
      rintro e w2 ⟨rfl, hB2⟩
      have B2 := hid (HB.out.trans (hB2.mono HB.out.size))
      clear hB2 HW c0 c1 c2 hz
      cases hq : wantF (xk, xc, xu) with
      | false =>
        have hp := hid (HP.out hq)
        as_aux_lemma =>
          go_wp2_with fail
          refine bodyPost_ret (v := .tuple #[.slice none 0 0, .int .i64 1]) (by simp [results, Tryz.results23, go_sem]) rfl ?_
          exact ⟨none, 0, by rw [hp.out]; rfl, by rw [hp.out]; exact Nat.zero_le _, by rw [hp.out]; exact SlR.nil, B2.out⟩
      | true =>
        have hf := hid (show (wants.take (k + 1)).any (fun x => !wantF x) = false by rw [HS.out, hA.out, hq]; rfl)
        as_aux_lemma =>
          go_wp2_with fail
          go_roundw
          case rel => exact ⟨k + 1, by omega, by go_num, hf, B2.out⟩
          case measure => simp [intOf]; omega
    case neg =>
    obtain rfl : k = wants.length := by omega
    have HANY := hid (show wants.any (fun x => !wantF x) = false by have := hA.out; rwa [List.take_length] at this)
    clear hA hlt hk
    have b1 := hid (show Below wr.heap.size wr (wr.alloc (Obj.cells #[] 45)) by (repeat (first | exact Below.refl _ _ | assumption | refine below_drewN ?_ _ | refine Below.drew ?_ | refine Below.alloc ?_ (by (try simp); (try omega)) _ | refine Below.setCell ?_ (by (try simp); (try omega)) _)))
    have B1 := hid (HB.out.trans (b1.out.mono HB.out.size))
    have O1 := hid (ownBx_empty wr)
    have S1 := hid ((H2.out.below B1.out).more B1.out.size)
    have hlen := hid (show ([] : List Bx).length + bs.length ≤ 100000000 by simp; omega)
    have hbz := hid HB.out.size
    go_upto_region 7 with (at_builtin; refine bxRK.appL _ rfl (.tmp 28) (.tmp 29) rfl rfl O1.out (ys := bs) (c := d) rfl S1.out hlen.out b1.out.size ?_; intro A9 c9 w4 ho hg; have O4 := hid ho; have B4 := hid (B1.out.grown hg B1.out.size (fun q e => Nat.le_trans hbz.out (own_blk O1.out q e).1)); clear ho hg)
    rw [List.length_nil, Nat.zero_add, List.nil_append] at O4
    have X4 := hid (show bxRK.Own w4 w.heap.size (.slice A9 bs.length c9) bs from O4.out.base_ hbz.out)
    clear O1 S1 hlen b1 B1 O4 hbz HB
    go_wp2_with fail
    go_loopw [10, 11] (fun ov iv wr => ∃ (i : Nat) (vO : Value) (vs : List Value) (p : List (List Tk)) (left : List Bx), i ≤ wants.length ∧ iv = .int .i64 i ∧ vO = ov ∧ bxRK.Own wr w.heap.size (.slice A9 bs.length c9) left ∧ OwnO wr w.heap.size vO vs ∧ Pln wr vs p ∧ Hid (planS lots wants bs [] = planS lots (wants.drop i) left p) ∧ LeftOK lots bs.length left ∧ Hid (p.length = i) ∧ Below w.heap.size w wr) (fun _ iv _ => wants.length - (intOf iv).toNat)
    case atStart => exact ⟨0, .slice none 0 0, [], [], bs, by omega, rfl, rfl, X4.out, ⟨rfl, .inl ⟨rfl, rfl⟩⟩, ⟨rfl, fun k h => by simp at h, fun l h => by simp at h⟩, by simp [Hid], HOK.out, rfl, B4.out⟩
    case round =>
      obtain ⟨i, vO, vs, p, left, hi, rfl, rfl, hX, hO, hP, HS, hLO, HPL, hB⟩ := hrel
      have HX := hid hX; have HO := hid hO; have HP := hid hP; have HLO := hid hLO; have HB := hid hB
      clear hX hO hP hLO hB X4 B4
      by_cases hlt : i < wants.length
      case neg =>
        obtain rfl : i = wants.length := by omega
        have hp := hid (planL_some (lots := lots) (bs := bs) (r := (p, left)) HANY.out (by rw [HS.out, List.drop_length]; rfl))
        obtain ⟨Ap, cp, rfl, hq1, hq2, hq3⟩ := Pln.slr HO.out HP.out
        have Q3 := hid hq3
        have Q2 := hid (Nat.le_trans hq1 hq2)
        clear hq1 hq2 hq3 hlt hi HPL
        as_aux_lemma =>
          go_wp2_with fail
          refine bodyPost_ret (v := .tuple #[.slice Ap p.length cp, .int .i64 0]) (by simp [results, Tryz.results23, go_sem]) rfl ?_
          exact ⟨Ap, cp, by rw [hp.out], by rw [hp.out]; exact Q2.out, by rw [hp.out]; exact Q3.out, HB.out⟩
      have hltI : (i : Int) < wants.length := by omega
      have hwf := hid (show wantF wants[i] = true by
        have := List.any_eq_false.1 HANY.out _ (List.getElem_mem hlt)
        simpa using this)
      have hdr := hid (show wants.drop i = wants[i] :: wants.drop (i + 1) from List.drop_eq_getElem_cons hlt)
      obtain ⟨b, off, rfl, hbz, c0, c1, c2, -⟩ := H3.out.i3 hlt
      have HC := hid (fun (W : World) (hW : Below w.heap.size w W) => And.intro ((bcell hW b _ hbz).trans c0) (And.intro ((bcell hW b _ hbz).trans c1) (And.intro ((bcell hW b _ hbz).trans c2) (show b < W.heap.size by have := hW.size; omega))))
      clear c0 c1 c2
      generalize wants[i] = x at *
      obtain ⟨xk, xc, xu⟩ := x
      simp only at HC
      obtain ⟨c0, c1, c2, hz⟩ := HC.out wr HB.out
      have hxc : 1 ≤ xc ∧ xc ≤ 20000 := by
        have := hwf.out
        simp only [wantF, btw, Bool.and_eq_true, decide_eq_true_eq] at this
        omega
      have HPS := hid (PS.start (lots := lots) (bs := left) (w := (xk, xc, xu)) HLO.out.cnt.nn (by simp only; omega))
      simp only at HPS
      have hplan := hid (show planS lots ((xk, xc, xu) :: wants.drop (i + 1)) left p = if 0 < (serve (orderL lots left (xk, xc, xu)) xc left []).1 then none else planS lots (wants.drop (i + 1)) (serve (orderL lots left (xk, xc, xu)) xc left []).2.1 (p ++ [(serve (orderL lots left (xk, xc, xu)) xc left []).2.2]) from rfl)
      have hol := hid (show (orderL lots left (xk, xc, xu)).length ≤ 20 by have := orderL_len lots left (xk, xc, xu); have := HLO.out.len; omega)
      have HNN := hid HLO.out.cnt.nn
      have hxb := hid (fun q (e : (Value.slice A9 bs.length c9).ownBlock = some q) => own_blk HX.out q e)
      have hwz := hid HB.out.size
      go_wp2_with fail
      clear c0 c1 c2 hz hwf
      obtain ⟨wy, hwy⟩ : ∃ wy, wy = wr := ⟨wr, rfl⟩
      subst hwy
      go_loopw [12, 13, 14, 15] (fun tv nv _ _ wq => ∃ (k : Nat) (vT : Value) (ts : List Tk) (lf : List Bx) (need : Int), vT = tv ∧ nv = .int .i64 need ∧ need ≤ 20000 ∧ tkRK.Own wq wy.heap.size vT ts ∧ (∀ x ∈ ts, I2 x) ∧ bxRK.Own wq w.heap.size (.slice A9 bs.length c9) lf ∧ LeftOK lots bs.length lf ∧ PS lots left (xk, xc, xu) k need lf ts ∧ Hid (ts.length = k) ∧ wy.grownBy wq (Value.slice A9 bs.length c9).ownBlock) (fun _ nv _ _ _ => (intOf nv).toNat)
      case atStart => exact ⟨0, .slice none 0 0, [], left, xc, rfl, rfl, hxc.2, RK.Own.nil, (fun x hx => (by cases hx)), HX.out, HLO.out, HPS.out, rfl, World.grownBy.refl _ _⟩
      case round =>
        clear HX HLO HPS
        obtain ⟨k, vT, ts, lf, need, rfl, rfl, hn2, hT, hTI, hX, hLF, hPS, HTL, hG⟩ := hrel
        have HT := hid hT; have HTI := hid hTI; have HX := hid hX; have HLF := hid hLF; have HPS := hid hPS; have HG := hid hG
        have hnn := hPS.nn
        clear hT hTI hX hLF hPS hG
        have BQ := hid (HB.out.grown HG.out HB.out.size (fun q e => (hxb.out q e).1))
        have HBT := hid (fun q (e : vT.ownBlock = some q) => own_blk HT.out q e)
        by_cases hpos : 0 < need
        case neg =>
          obtain rfl : need = 0 := by omega
          have hfin := hid HPS.out.done
          have hps := hid (show planS lots wants bs [] = planS lots (wants.drop (i + 1)) lf (p ++ [ts]) by rw [HS.out, hdr.out, hplan.out]; have h5 := hfin.out; simp only at h5; rw [h5]; simp)
          have KQ := hid (KT.of_grown (ts := [66, 28]) HG.out (fun q e => by obtain ⟨_, cs, hc⟩ := hxb.out q e; exact ⟨_, cs, hc, by decide⟩))
          have OQ := hid (show OwnO wr w.heap.size vO vs from own_kt HO.out KQ.out (by decide))
          have PQ := hid (HP.out.kt KQ.out (by decide))
          obtain ⟨AT, cT, rfl⟩ := own_form HT.out
          have bz := hid ((Below.refl wr.heap.size wr).alloc (Nat.le_refl _) (Obj.cells #[.slice AT ts.length cT] 28))
          have BZ := hid (BQ.out.trans (bz.out.mono BQ.out.size))
          have OZ := hid (show OwnO _ w.heap.size vO vs from own_kt (ts := [28]) OQ.out (KT.of_below bz.out) (by decide))
          have PZ := hid ((PQ.out.snoc (show OwnT wr 0 (.slice AT ts.length cT) ts from own_base HT.out (Nat.zero_le _)) HTI.out).kt (ts := [66]) (KT.of_below bz.out) (by decide))
          have XZ := hid (show bxRK.Own _ w.heap.size (.slice A9 bs.length c9) lf from HX.out.below bz.out)
          have NZ := hid (Blk.new wr 28 #[.slice AT ts.length cT])
          have hvl := hid (show vs.length ≤ 1000000 by have h7 := HP.out.len; have h8 := HPL.out; omega)
          have hone := hid (own_one HT.out)
          clear HPS KQ OQ PQ bz HNN
          as_aux_lemma =>
            go_wp2_with (at_builtin; refine wp_appO _ rfl (.tmp 80) (.tmp 82) rfl w.heap.size vO vs rfl OZ.out wr.heap.size 1 (.slice AT ts.length cT) hone.out rfl NZ.out hvl.out BZ.out.size ?_; intro v9 w9 ho9 hg9; have O9 := hid ho9; have k9 := hid (KT.of_grown (ts := [66, 45]) hg9 (fun q e => by obtain ⟨_, cs, hb⟩ := own_blk OZ.out q e; exact ⟨_, cs, hb, by decide⟩)); have B9 := hid (BZ.out.grown hg9 BZ.out.size (fun q e => (own_blk OZ.out q e).1)); clear ho9 hg9)
            go_roundw
            case rel => exact ⟨i + 1, v9, _, _, lf, by omega, by go_num, rfl, own_kt XZ.out k9.out (by decide), O9.out, PZ.out.kt k9.out (by decide), hps, HLF.out, by have := HPL.out; show _ = _; simp; omega, B9.out⟩
            case measure => simp [intOf]; omega
        case pos =>
        obtain ⟨c0, c1, c2, hz⟩ := HC.out wr BQ.out
        have hll := hid HLF.out.len
        have HCC := hid (show Calls Tryz.prog 56 #[.slice A lots.length c, .slice A9 bs.length c9, .agg #[.int .i64 xk, .int .i64 xc, .int .i64 xu], .slice none 0 0] wr (fun e w' => ∃ r : Int, e = .returned (.int .i64 r) ∧ FirstN lots lf (xk, xc, xu) [] lf.length r ∧ Below wr.heap.size wr w') by
          obtain ⟨Al, cl, e1, _, _, hsl⟩ := HX.out.slr (fun x hx => HLF.out.i3 x hx)
          injection e1 with e1 e2 e3
          subst e1 e3
          have := rfirst_any A A9 none c c9 0 lots lf (xk, xc, xu) [] wr HL.out (by rw [hll.out]; omega) (Nat.zero_le _) ((H1.out.below BQ.out).more BQ.out.size) hsl SlR.nil
          rw [← e2] at this
          exact this.mono fun e w' ⟨r, h1, h2, h3⟩ => ⟨r, h1, by rw [← e2]; exact h2, h3⟩)
        have HFN := hid (HPS.out.first HNN.out hpos)
        go_wp2_with fail
        refine HCC.out.mono ?_
        rintro e w6 ⟨r, rfl, hF, hB6⟩
        have hr := hF.uniq HFN.out
        have b6 := hid hB6
        have B6 := hid (BQ.out.trans (hB6.mono BQ.out.size))
        have X6 := hid (show bxRK.Own w6 w.heap.size (.slice A9 bs.length c9) lf from HX.out.below hB6)
        have T6 := hid (show tkRK.Own w6 wy.heap.size vT ts from HT.out.below hB6)
        have G6 := hid (gr_far HG.out (gr_below hB6 none) (fun q e => by cases e))
        clear hF hB6 HFN HCC c0 c1 c2 hz HX HT HG BQ HBT
        by_cases hkS : k < (orderL lots left (xk, xc, xu)).length
        case neg =>
          rw [dif_neg hkS] at hr
          subst hr
          have hfin := hid (HPS.out.none hkS)
          have hp := hid (planL_none (lots := lots) (bs := bs) HANY.out (by rw [HS.out, hdr.out, hplan.out]; have h5 := hfin.out; simp only at h5; rw [h5]; simp [hpos]))
          clear HPS hfin
          as_aux_lemma =>
            go_wp2_with fail
            refine bodyPost_ret (v := .tuple #[.slice none 0 0, .int .i64 22]) (by simp [results, Tryz.results23, go_sem]) rfl ?_
            exact ⟨none, 0, by rw [hp.out]; rfl, by rw [hp.out]; exact Nat.zero_le _, by rw [hp.out]; exact SlR.nil, B6.out⟩
        case pos =>
        rw [dif_pos hkS] at hr
        obtain ⟨hql, hqc, hst⟩ := HPS.out.step hpos hkS
        generalize (orderL lots left (xk, xc, xu))[k] = q at *
        subst hr
        have hca : cntAt lf q = lf[q].2.1 := by simp [cntAt, hql]
        rw [hca] at hqc hst
        have HST := hid hst
        have hqb : (q : Int) < bs.length := by have := hll.out; omega
        have hq0 : ¬ (q : Int) < 0 := by omega
        obtain ⟨g, cap, cur, hv, hgw, -⟩ := own_cell X6.out (show 0 < lf.length by omega)
        injection hv with hv hv2 hv3
        subst hv
        clear hv2 hv3 hst hca HPS
        have hcb := HLF.out.cnt _ (List.getElem_mem hql)
        have hsub := hid (fun (m : Int) (h0 : 0 ≤ m) (h1 : m ≤ lf[q].2.1) => HLF.out.sub hql h0 h1)
        have hset := hid (fun (W : World) (hW : bxRK.Own W w.heap.size (.slice (some ⟨g, 0, none⟩) bs.length c9) lf) (m : Int) => show bxRK.Own (W.setCell ⟨g, q * 3 + 1, none⟩ (.int .i64 (lf[q].2.1 - m))) w.heap.size (.slice (some ⟨g, 0, none⟩) bs.length c9) (subAt lf q m) from by
          rw [subAt_eq hql]
          exact RK.Own.set_ hW hql (j := 1) (by decide) rfl)
        have hat := hid (fun (W : World) (hW : bxRK.Own W w.heap.size (.slice (some ⟨g, 0, none⟩) bs.length c9) lf) => show g < W.heap.size ∧ W.cell? ⟨g, q * 3 + 1, none⟩ = some (.int .i64 lf[q].2.1) ∧ W.frozen? ⟨g, q * 3 + 1, none⟩ = false from by
          obtain ⟨h1, _, h3, h4⟩ := RK.Own.at_ hW hql
          exact ⟨h1, h3 1 (by decide), h4 _⟩)
        generalize lf[q].2.1 = cnt at *
        obtain ⟨m, hm⟩ : ∃ m, m = min need cnt := ⟨_, rfl⟩
        rw [← hm] at HST
        have hm1 : 1 ≤ m ∧ m ≤ need ∧ m ≤ cnt := by omega
        obtain ⟨gz, gc, gf⟩ := hat.out w6 X6.out
        go_upto_region 18 with fail
        rw [← hm]
        clear hm gz gc gf
        have b7 := hid ((Below.refl w6.heap.size w6).alloc (Nat.le_refl _) (Obj.cells #[.int .i64 (q : Int), .int .i64 m] 66))
        have hIQ := hid (show I2 ((q : Int), m) from ⟨⟨by omega, by omega⟩, ⟨by omega, by omega⟩⟩)
        have S7 := hid (show SlR (w6.alloc (Obj.cells #[.int .i64 (q : Int), .int .i64 m] 66)) (w6.alloc (Obj.cells #[.int .i64 (q : Int), .int .i64 m] 66)).heap.size (some ⟨w6.heap.size, 0, none⟩) [((q : Int), m)] from tkRK.blk (show Blk _ w6.heap.size tkRK.e (tkRK.all [((q : Int), m)]).toArray from Blk.new w6 _ _) (by intro x hx; rw [List.mem_singleton.1 hx]; exact hIQ.out))
        have T7 := hid (show tkRK.Own (w6.alloc (Obj.cells #[.int .i64 (q : Int), .int .i64 m] 66)) wy.heap.size vT ts from T6.out.below b7.out)
        have X7 := hid (show bxRK.Own (w6.alloc (Obj.cells #[.int .i64 (q : Int), .int .i64 m] 66)) w.heap.size (.slice (some ⟨g, 0, none⟩) bs.length c9) lf from X6.out.below b7.out)
        have G7 := hid (gr_far G6.out (gr_below b7.out none) (fun q e => by cases e))
        have hlen7 := hid (show ts.length + [((q : Int), m)].length ≤ 100000000 by have := HTL.out; have := hol.out; simp; omega)
        have hsz7 := hid (show wy.heap.size ≤ (w6.alloc (Obj.cells #[.int .i64 (q : Int), .int .i64 m] 66)).heap.size by have := G6.out.size; simp; omega)
        clear T6 X6 G6 b7 B6 b6
        go_upto_region 19 with (at_builtin; refine tkRK.appL _ rfl (.tmp 60) (.tmp 64) rfl rfl T7.out (ys := [((q : Int), m)]) (c := 1) rfl S7.out hlen7.out hsz7.out ?_; intro A8 c8 w9 ho9 hg9; have T9 := hid ho9; have X9 := hid (show bxRK.Own w9 w.heap.size (.slice (some ⟨g, 0, none⟩) bs.length c9) lf from X7.out.other T7.out (by decide) hg9); have G9 := hid (gr_far G7.out hg9 (fun q e => (own_blk T7.out q e).1)); clear ho9 hg9)
        clear S7 T7 X7 G7 hlen7 hsz7
        obtain ⟨gz, gc, gf⟩ := hat.out w9 X9.out
        have X10 := hid (hset.out w9 X9.out m)
        have G10 := hid (gr_tr G9.out (gr_set w9 g (q * 3 + 1) (.int .i64 (cnt - m))))
        have T10 := hid (show tkRK.Own (w9.setCell ⟨g, q * 3 + 1, none⟩ (.int .i64 (cnt - m))) wy.heap.size (.slice A8 (ts.length + 1) c8) (ts ++ [((q : Int), m)]) from own_kept T9.out (fun g' cs hv hb => hb.far (fun e => by obtain ⟨_, cs2, hb2⟩ := own_blk X9.out g rfl; subst e; exact Blk.ne_ hb hb2 (by decide) rfl) _))
        have hw1 : IntKind.i64.wrap (cnt - m) = cnt - m := IntWalk.i64_in _ (by omega)
        have hw2 : IntKind.i64.wrap (need - m) = need - m := IntWalk.i64_in _ (by omega)
        have hlo := hid (hsub.out m (by omega) (by omega))
        clear hat hset hsub T9 X9 G9
        as_aux_lemma =>
          go_wp2_with fail
          go_roundw
          case rel => exact ⟨k + 1, _, _, _, need - m, rfl, by go_num, by omega, T10.out, fun x hx => by
            rcases List.mem_append.1 hx with hx | hx
            · exact HTI.out x hx
            · rw [List.mem_singleton.1 hx]; exact hIQ.out, X10.out, hlo.out, HST.out, by have := HTL.out; show _ = _; simp; omega, G10.out⟩
          case measure => simp [intOf]; omega
end Go.Proofs.YtfpehakllnkaeaaGreatDoor
namespace Go.Proofs.YtfpehakllnkaeaaGreatDoor
open Go.RowKit Go.IntWalk

theorem addA (a b : List UInt8) (h : a.length ≤ 100000000000) (h2 : b.length ≤ 100000000000) : ¬ 9223372036854775807 < (bs a).size + (bs b).size := by rw [bs_size, bs_size]; omega
theorem addB (a b c : List UInt8) (h : a.length ≤ 100000000000) (h2 : b.length ≤ 100000000000) (h3 : c.length ≤ 100000000000) : (¬ 9223372036854775807 < (bs a).size + (bs b).size + (bs c).size) ∧ (¬ 9223372036854775807 < (bs a ++ bs b).size + (bs c).size) := by
  rw [bs_app, bs_size, bs_size, bs_size, bs_size, List.length_append]; omega
theorem addC (a b c d : List UInt8) (h : a.length ≤ 100000000000) (h2 : b.length ≤ 100000000000) (h3 : c.length ≤ 100000000000) (h4 : d.length ≤ 100000000000) : (¬ 9223372036854775807 < (bs a).size + (bs b).size + (bs c).size + (bs d).size) ∧ (¬ 9223372036854775807 < (bs a ++ bs b ++ bs c).size + (bs d).size) := by
  rw [bs_app, bs_app, bs_size, bs_size, bs_size, bs_size, bs_size, List.length_append, List.length_append]; omega
set_option maxRecDepth 100000 in
set_option maxHeartbeats 8000000 in
theorem rbytes_any (A B C : Option Addr) (c d e0 : Nat) (ks : List Kd) (lots : List Lt) (bxs : List Bx) (w : World) (hk : ks.length ≤ 10000) (hl : lots.length ≤ 10000) (hb : bxs.length ≤ 10000) (hK : ∀ k ∈ ks, KdI k) (h1 : SlR w w.heap.size A ks) (h2 : SlR w w.heap.size B lots) (h3 : SlR w w.heap.size C bxs) :
    Calls Tryz.prog 32 #[.slice A ks.length c, .slice B lots.length d, .slice C bxs.length e0] w fun e w' => e = .returned (.string (bs (encStk ks lots bxs))) ∧ Below w.heap.size w w' := by
  have HKO := hid hK
  have HLO := hid (lts_I h2)
  have HBO := hid (bxs_I h3)
  clear hK
  have z1 := hid (encI_le22 ks.length ⟨by omega, by omega⟩)
  have z2 := hid (encI_le22 lots.length ⟨by omega, by omega⟩)
  have z3 := hid (encI_le22 bxs.length ⟨by omega, by omega⟩)
  have f1 := hid (flat_bd encKd 1100 ks (fun x hx => encKd_le x (HKO.out x hx)))
  have f2 := hid (flat_bd encLt 66 lots (fun x hx => encLt_le x (HLO.out x hx)))
  have f3 := hid (flat_bd enc3 66 bxs (fun x hx => enc3_le x (HBO.out x hx)))
  obtain ⟨a0, ha0⟩ : ∃ a, a = encI ks.length := ⟨_, rfl⟩
  have H0 := hid ha0
  have L0 := hid (show a0.length ≤ 22 by rw [ha0]; exact z1.out)
  clear ha0
  obtain ⟨a1, ha1⟩ : ∃ a, a = a0 ++ (ks.map encKd).flatten := ⟨_, rfl⟩
  have H1 := hid ha1
  have L1 := hid (show a1.length ≤ 12000000 by rw [ha1, List.length_append]; have := L0.out; have := f1.out; omega)
  clear ha1
  obtain ⟨a2, ha2⟩ : ∃ a, a = a1 ++ encI lots.length := ⟨_, rfl⟩
  have H2 := hid ha2
  have L2 := hid (show a2.length ≤ 13000000 by rw [ha2, List.length_append]; have := L1.out; have := z2.out; omega)
  clear ha2
  obtain ⟨a3, ha3⟩ : ∃ a, a = a2 ++ (lots.map encLt).flatten := ⟨_, rfl⟩
  have H3 := hid ha3
  have L3 := hid (show a3.length ≤ 15000000 by rw [ha3, List.length_append]; have := L2.out; have := f2.out; omega)
  clear ha3
  obtain ⟨a4, ha4⟩ : ∃ a, a = a3 ++ encI bxs.length := ⟨_, rfl⟩
  have H4 := hid ha4
  have L4 := hid (show a4.length ≤ 16000000 by rw [ha4, List.length_append]; have := L3.out; have := z3.out; omega)
  clear ha4
  have HEND := hid (show a4 ++ (bxs.map enc3).flatten = encStk ks lots bxs by rw [H4.out, H3.out, H2.out, H1.out, H0.out]; rfl)
  have HN0 := hid (rNum_any (ks.length : Int) ⟨by omega, by omega⟩ w)
  rw [if_neg (by omega), ← H0.out] at HN0
  go_enter Tryz.func32, Tryz.ntmps32
  go_wp2_with fail
  refine HN0.out.mono ?_
  rintro e w1 ⟨rfl, hB1⟩
  have B2 := hid hB1
  clear hB1 HN0
  go_wp2_with fail
  go_loopw [7, 8] (fun sv i wr => ∃ k : Nat, k ≤ ks.length ∧ i = .int .i64 k ∧ sv = .string (bs (a0 ++ ((ks.take k).map encKd).flatten)) ∧ Below w.heap.size w wr) (fun _ i _ => ks.length - (intOf i).toNat)
  case atStart => exact ⟨0, by omega, rfl, by simp, B2.out⟩
  case round =>
    clear B2
    obtain ⟨k, hk, rfl, rfl, hP⟩ := hrel
    have HP := hid hP
    clear hP
    by_cases hlt : k < ks.length
    case pos =>
      as_aux_lemma =>
        obtain ⟨b, off, rfl, hbB, g0, g1, _, _⟩ := h1.kd hlt
        have hki := HKO.out _ (List.getElem_mem hlt)
        have hsn := hid (flat_snoc3 encKd ks k hlt)
        have hlt' : (k : Int) < ks.length := by omega
        have hlen := hid (show (a0 ++ ((ks.take k).map encKd).flatten).length ≤ 100000000 by
          rw [List.length_append]
          have := L0.out
          have := flat_take encKd ks k
          have := f1.out
          omega)
        generalize ks[k] = x at *
        obtain ⟨s1, n1⟩ := x
        simp only at g0 g1 hki
        obtain ⟨k0, k1⟩ := hki
        simp only at k0 k1
        obtain ⟨acc, hacc⟩ : ∃ acc, acc = a0 ++ ((ks.take k).map encKd).flatten := ⟨_, rfl⟩
        rw [← hacc]
        rw [← hacc] at hlen
        have Hacc := hid hacc
        clear hacc
        replace g0 := (bcell HP.out b _ hbB).trans g0
        replace g1 := (bcell HP.out b _ hbB).trans g1
        have hbz : b < wr.heap.size := by have := HP.out.size; omega
        have q1 := addA acc (encT s1.data.toList) (by have := hlen.out; omega) (by have := encT_le s1 k0; omega)
        obtain ⟨q2, q3⟩ := addB acc (encT s1.data.toList) (encI n1) (by have := hlen.out; omega) (by have := encT_le s1 k0; omega) (by have := encI_le22 n1 k1; omega)
        have hcat := hid (show bs acc ++ bs (encT s1.data.toList) ++ bs (encI n1) = bs (a0 ++ ((ks.take (k + 1)).map encKd).flatten) by
          rw [hsn.out, ← List.append_assoc, ← Hacc.out, bs_app, bs_app]; simp [encKd])
        have HTX := hid (fun (W' : World) => rText_any s1 (by omega) W')
        have HI := hid (fun (n : Int) (hn : I64 n) (W' : World) => rInt_any n hn W')
        have HSF := hid (fun (wq : World) (hq : Below wr.heap.size wr wq) => (And.intro ((bcell hq _ _ hbz).trans g0) ((bcell hq _ _ hbz).trans g1)))
        have BD := hid ((Below.refl wr.heap.size wr).drew)
        clear g0 g1
        go_upto_region 5 with fail
        refine wpIn_wide.1 (wpIn_region_S (n := 0) (fun wq => Below wr.heap.size wr wq) [] (by kernel_rfl) BD.out (fun hHeld => ?_))
        generalize wr.drew = wd at *
        refine wpAnyG_pure 0 (v := ?_) (fun _ => trivial) (by simp only [List.getElem?_toArray, List.getElem?_cons_succ, List.getElem?_cons_zero]; rfl) (by kernel_rfl) (fun _ _ _ _ _ h => h) ⟨(by rfl), (by intro c h; cases h), ?_⟩ hHeld ?_
        rotate_left
        focus (intro wS hSw; (try replace hSw := HSF.out wS hSw); (try dsimp only at hSw); go_simp; (try with_reducible rfl))
        (try simp only [Act.put, List.setIfInBounds_toArray, List.set_cons_zero, List.set_cons_succ])
        refine wpAnyG_pure 1 (v := ?_) (fun _ => trivial) (by simp only [List.getElem?_toArray, List.getElem?_cons_succ, List.getElem?_cons_zero]; rfl) (by kernel_rfl) (fun _ _ _ _ _ h => h) ⟨(by rfl), (by intro c h; cases h), ?_⟩ hHeld ?_
        rotate_left
        focus (intro wS hSw; (try replace hSw := HSF.out wS hSw); (try dsimp only at hSw); go_simp; (try with_reducible rfl))
        (try simp only [Act.put, List.setIfInBounds_toArray, List.set_cons_zero, List.set_cons_succ])
        refine wpAnyG_pure 2 (v := ?_) (fun _ => trivial) (by simp only [List.getElem?_toArray, List.getElem?_cons_succ, List.getElem?_cons_zero]; rfl) (by kernel_rfl) (fun _ _ _ _ _ h => h) ⟨(by rfl), (by intro c h; cases h), ?_⟩ hHeld ?_
        rotate_left
        focus (intro wS hSw; (try replace hSw := HSF.out wS hSw); (try dsimp only at hSw); go_simp; (try with_reducible rfl))
        (try simp only [Act.put, List.setIfInBounds_toArray, List.set_cons_zero, List.set_cons_succ])
        refine wpAnyG_pure 3 (v := ?_) (fun _ => trivial) (by simp only [List.getElem?_toArray, List.getElem?_cons_succ, List.getElem?_cons_zero]; rfl) (by kernel_rfl) (fun _ _ _ _ _ h => h) ⟨(by rfl), (by intro c h; cases h), ?_⟩ hHeld ?_
        rotate_left
        focus (intro wS hSw; (try replace hSw := HSF.out wS hSw); (try dsimp only at hSw); go_simp; (try with_reducible rfl))
        (try simp only [Act.put, List.setIfInBounds_toArray, List.set_cons_zero, List.set_cons_succ])
        refine wpAnyG_pure 4 (v := ?_) (fun _ => trivial) (by simp only [List.getElem?_toArray, List.getElem?_cons_succ, List.getElem?_cons_zero]; rfl) (by kernel_rfl) (fun _ _ _ _ _ h => h) ⟨(by rfl), (by intro c h; cases h), ?_⟩ hHeld ?_
        rotate_left
        focus (intro wS hSw; (try replace hSw := HSF.out wS hSw); (try dsimp only at hSw); go_simp; (try with_reducible rfl))
        (try simp only [Act.put, List.setIfInBounds_toArray, List.set_cons_zero, List.set_cons_succ])
        refine wpAnyG_take 5 (v := ?_) (fun _ => trivial) (by simp only [List.getElem?_toArray, List.getElem?_cons_succ, List.getElem?_cons_zero]; rfl) (by kernel_rfl) (fun _ _ _ _ _ h => h) ⟨(by rfl), (by intro c h; cases h), ?_⟩ hHeld ?_
        rotate_left
        focus (intro wS hSw; (try replace hSw := HSF.out wS hSw); (try dsimp only at hSw); go_simp; (try with_reducible rfl))
        (try simp only [Act.put, List.setIfInBounds_toArray, List.set_cons_zero, List.set_cons_succ])
        refine wpAnyG_pure 8 (v := ?_) (fun _ => trivial) (by simp only [List.getElem?_toArray, List.getElem?_cons_succ, List.getElem?_cons_zero]; rfl) (by kernel_rfl) (fun _ _ _ _ _ h => h) ⟨(by rfl), (by intro c h; cases h), ?_⟩ hHeld ?_
        rotate_left
        focus (intro wS hSw; (try replace hSw := HSF.out wS hSw); (try dsimp only at hSw); go_simp; (try with_reducible rfl))
        (try simp only [Act.put, List.setIfInBounds_toArray, List.set_cons_zero, List.set_cons_succ])
        refine wpAnyG_pure 9 (v := ?_) (fun _ => trivial) (by simp only [List.getElem?_toArray, List.getElem?_cons_succ, List.getElem?_cons_zero]; rfl) (by kernel_rfl) (fun _ _ _ _ _ h => h) ⟨(by rfl), (by intro c h; cases h), ?_⟩ hHeld ?_
        rotate_left
        focus (intro wS hSw; (try replace hSw := HSF.out wS hSw); (try dsimp only at hSw); go_simp; (try with_reducible rfl))
        (try simp only [Act.put, List.setIfInBounds_toArray, List.set_cons_zero, List.set_cons_succ])
        refine wpAnyG_pure 10 (v := ?_) (fun _ => trivial) (by simp only [List.getElem?_toArray, List.getElem?_cons_succ, List.getElem?_cons_zero]; rfl) (by kernel_rfl) (fun _ _ _ _ _ h => h) ⟨(by rfl), (by intro c h; cases h), ?_⟩ hHeld ?_
        rotate_left
        focus (intro wS hSw; (try replace hSw := HSF.out wS hSw); (try dsimp only at hSw); go_simp; (try with_reducible rfl))
        (try simp only [Act.put, List.setIfInBounds_toArray, List.set_cons_zero, List.set_cons_succ])
        refine wpAnyG_pure 11 (v := ?_) (fun _ => trivial) (by simp only [List.getElem?_toArray, List.getElem?_cons_succ, List.getElem?_cons_zero]; rfl) (by kernel_rfl) (fun _ _ _ _ _ h => h) ⟨(by rfl), (by intro c h; cases h), ?_⟩ hHeld ?_
        rotate_left
        focus (intro wS hSw; (try replace hSw := HSF.out wS hSw); (try dsimp only at hSw); go_simp; (try with_reducible rfl))
        (try simp only [Act.put, List.setIfInBounds_toArray, List.set_cons_zero, List.set_cons_succ])
        refine wpAnyG_take 12 (v := ?_) (fun _ => trivial) (by simp only [List.getElem?_toArray, List.getElem?_cons_succ, List.getElem?_cons_zero]; rfl) (by kernel_rfl) (fun _ _ _ _ _ h => h) ⟨(by rfl), (by intro c h; cases h), ?_⟩ hHeld ?_
        rotate_left
        focus (intro wS hSw; (try replace hSw := HSF.out wS hSw); (try dsimp only at hSw); go_simp; (try with_reducible rfl))
        (try simp only [Act.put, List.setIfInBounds_toArray, List.set_cons_zero, List.set_cons_succ])
        refine wpAnyS_ready [6] (by kernel_rfl) (by simp) (AllReadyS.consG (by simp only [List.getElem?_toArray, List.getElem?_cons_succ, List.getElem?_cons_zero]; rfl) (by rfl) (fun K hK => ?_) AllReadyS.nil)
        refine callS (by intro c h; cases h) (by go_simp; try with_reducible rfl) (HTX.out _) ?_
        intro w3 hBq
        have B3 := hid (BD.out.trans (hBq.mono BD.out.size))
        refine hK.out _ _ B3.out ?_
        (try simp only [Act.put, List.setIfInBounds_toArray, List.set_cons_zero, List.set_cons_succ])
        clear hK K hBq
        clear hHeld
        have hHeld := B3.out
        refine wpAnyG_pure 7 (v := ?_) (fun _ => trivial) (by simp only [List.getElem?_toArray, List.getElem?_cons_succ, List.getElem?_cons_zero]; rfl) (by kernel_rfl) (fun _ _ _ _ _ h => h) ⟨(by rfl), (by intro c h; cases h), ?_⟩ hHeld ?_
        rotate_left
        focus (intro wS hSw; (try replace hSw := HSF.out wS hSw); (try dsimp only at hSw); go_simp; (try with_reducible rfl))
        (try simp only [Act.put, List.setIfInBounds_toArray, List.set_cons_zero, List.set_cons_succ])
        refine wpAnyS_ready [13] (by kernel_rfl) (by simp) (AllReadyS.consG (by simp only [List.getElem?_toArray, List.getElem?_cons_succ, List.getElem?_cons_zero]; rfl) (by rfl) (fun K hK => ?_) AllReadyS.nil)
        refine callS (by intro c h; cases h) (by go_simp; try with_reducible rfl) (HI.out n1 k1 _) ?_
        intro w4 hBq
        have BL := hid (B3.out.trans (hBq.mono B3.out.size))
        refine hK.out _ _ BL.out ?_
        (try simp only [Act.put, List.setIfInBounds_toArray, List.set_cons_zero, List.set_cons_succ])
        clear hK K hBq
        clear hHeld
        have hHeld := BL.out
        refine wpAnyG_pure 14 (v := ?_) (fun _ => trivial) (by simp only [List.getElem?_toArray, List.getElem?_cons_succ, List.getElem?_cons_zero]; rfl) (by kernel_rfl) (fun _ _ _ _ _ h => h) ⟨(by rfl), (by intro c h; cases h), ?_⟩ hHeld ?_
        rotate_left
        focus (intro wS hSw; (try replace hSw := HSF.out wS hSw); (try dsimp only at hSw); go_simp; (try with_reducible rfl))
        (try simp only [Act.put, List.setIfInBounds_toArray, List.set_cons_zero, List.set_cons_succ])
        refine wpAnyG_pure 15 (v := ?_) (fun _ => trivial) (by simp only [List.getElem?_toArray, List.getElem?_cons_succ, List.getElem?_cons_zero]; rfl) (by kernel_rfl) (fun _ _ _ _ _ h => h) ⟨(by rfl), (by intro c h; cases h), ?_⟩ hHeld ?_
        rotate_left
        focus (intro wS hSw; (try replace hSw := HSF.out wS hSw); (try dsimp only at hSw); go_simp; (try with_reducible rfl))
        (try simp only [Act.put, List.setIfInBounds_toArray, List.set_cons_zero, List.set_cons_succ])
        refine wpAnyS_done (by kernel_rfl) ?_
        have P6 := hid (HP.out.trans (BL.out.mono HP.out.size))
        clear hHeld BD HSF HI BL
        go_wp2_with fail
        go_roundw
        case rel => exact ⟨k + 1, by omega, by go_num, by rw [hcat.out], P6.out⟩
        case measure => simp [intOf]; omega
    case neg =>
      obtain rfl : k = ks.length := by omega
      rw [List.take_length]
      clear hlt hk
      rw [← H1.out]
      have HN := hid (rNum_any (lots.length : Int) ⟨by omega, by omega⟩ wr)
      rw [if_neg (by omega)] at HN
      have q1 := addA a1 (encI lots.length) (by have := L1.out; omega) (by have := z2.out; omega)
      have hcat := hid (show bs a1 ++ bs (encI lots.length) = bs a2 by rw [bs_app, H2.out])
      go_wp2_with fail
      refine HN.out.mono ?_
      rintro e w1 ⟨rfl, hB1⟩
      have B2 := hid (HP.out.trans (hB1.mono HP.out.size))
      clear hB1 HN HP
      go_wp2_with fail
      rw [hcat.out]
      clear hcat q1
      go_loopw [7, 9] (fun sv i wr => ∃ k : Nat, k ≤ lots.length ∧ i = .int .i64 k ∧ sv = .string (bs (a2 ++ ((lots.take k).map encLt).flatten)) ∧ Below w.heap.size w wr) (fun _ i _ => lots.length - (intOf i).toNat)
      case atStart => exact ⟨0, by omega, rfl, by simp, B2.out⟩
      case round =>
        clear B2
        obtain ⟨k, hk, rfl, rfl, hP⟩ := hrel
        have HP := hid hP
        clear hP
        by_cases hlt : k < lots.length
        case pos =>
          as_aux_lemma =>
            obtain ⟨b, off, rfl, hbB, g0, g1, g2, k0, k1⟩ := h2.lt hlt
            have hsn := hid (flat_snoc3 encLt lots k hlt)
            have hlt' : (k : Int) < lots.length := by omega
            have hlen := hid (show (a2 ++ ((lots.take k).map encLt).flatten).length ≤ 100000000 by
              rw [List.length_append]
              have := L2.out
              have := flat_take encLt lots k
              have := f2.out
              omega)
            generalize lots[k] = x at *
            obtain ⟨n1, n2, fz⟩ := x
            simp only at g0 g1 g2 k0 k1
            obtain ⟨acc, hacc⟩ : ∃ acc, acc = a2 ++ ((lots.take k).map encLt).flatten := ⟨_, rfl⟩
            rw [← hacc]
            rw [← hacc] at hlen
            have Hacc := hid hacc
            clear hacc
            replace g0 := (bcell HP.out b _ hbB).trans g0
            replace g1 := (bcell HP.out b _ hbB).trans g1
            replace g2 := (bcell HP.out b _ hbB).trans g2
            have hbz : b < wr.heap.size := by have := HP.out.size; omega
            have q1 := addA acc (encI n1) (by have := hlen.out; omega) (by have := encI_le22 n1 k0; omega)
            obtain ⟨q2, q3⟩ := addB acc (encI n1) (encI n2) (by have := hlen.out; omega) (by have := encI_le22 n1 k0; omega) (by have := encI_le22 n2 k1; omega)
            have HI := hid (fun (n : Int) (hn : I64 n) (W' : World) => rInt_any n hn W')
            have HSF := hid (fun (wq : World) (hq : Below wr.heap.size wr wq) => (And.intro ((bcell hq _ _ hbz).trans g0) (And.intro ((bcell hq _ _ hbz).trans g1) ((bcell hq _ _ hbz).trans g2))))
            have BD := hid ((Below.refl wr.heap.size wr).drew)
            clear g0 g1 g2
            go_upto_region 10 with fail
            refine wpIn_wide.1 (wpIn_region_S (n := 0) (fun wq => Below wr.heap.size wr wq) [] (by kernel_rfl) BD.out (fun hHeld => ?_))
            generalize wr.drew = wd at *
            refine wpAnyG_pure 0 (v := ?_) (fun _ => trivial) (by simp only [List.getElem?_toArray, List.getElem?_cons_succ, List.getElem?_cons_zero]; rfl) (by kernel_rfl) (fun _ _ _ _ _ h => h) ⟨(by rfl), (by intro c h; cases h), ?_⟩ hHeld ?_
            rotate_left
            focus (intro wS hSw; (try replace hSw := HSF.out wS hSw); (try dsimp only at hSw); go_simp; (try with_reducible rfl))
            (try simp only [Act.put, List.setIfInBounds_toArray, List.set_cons_zero, List.set_cons_succ])
            refine wpAnyG_pure 1 (v := ?_) (fun _ => trivial) (by simp only [List.getElem?_toArray, List.getElem?_cons_succ, List.getElem?_cons_zero]; rfl) (by kernel_rfl) (fun _ _ _ _ _ h => h) ⟨(by rfl), (by intro c h; cases h), ?_⟩ hHeld ?_
            rotate_left
            focus (intro wS hSw; (try replace hSw := HSF.out wS hSw); (try dsimp only at hSw); go_simp; (try with_reducible rfl))
            (try simp only [Act.put, List.setIfInBounds_toArray, List.set_cons_zero, List.set_cons_succ])
            refine wpAnyG_pure 2 (v := ?_) (fun _ => trivial) (by simp only [List.getElem?_toArray, List.getElem?_cons_succ, List.getElem?_cons_zero]; rfl) (by kernel_rfl) (fun _ _ _ _ _ h => h) ⟨(by rfl), (by intro c h; cases h), ?_⟩ hHeld ?_
            rotate_left
            focus (intro wS hSw; (try replace hSw := HSF.out wS hSw); (try dsimp only at hSw); go_simp; (try with_reducible rfl))
            (try simp only [Act.put, List.setIfInBounds_toArray, List.set_cons_zero, List.set_cons_succ])
            refine wpAnyG_pure 3 (v := ?_) (fun _ => trivial) (by simp only [List.getElem?_toArray, List.getElem?_cons_succ, List.getElem?_cons_zero]; rfl) (by kernel_rfl) (fun _ _ _ _ _ h => h) ⟨(by rfl), (by intro c h; cases h), ?_⟩ hHeld ?_
            rotate_left
            focus (intro wS hSw; (try replace hSw := HSF.out wS hSw); (try dsimp only at hSw); go_simp; (try with_reducible rfl))
            (try simp only [Act.put, List.setIfInBounds_toArray, List.set_cons_zero, List.set_cons_succ])
            refine wpAnyG_pure 4 (v := ?_) (fun _ => trivial) (by simp only [List.getElem?_toArray, List.getElem?_cons_succ, List.getElem?_cons_zero]; rfl) (by kernel_rfl) (fun _ _ _ _ _ h => h) ⟨(by rfl), (by intro c h; cases h), ?_⟩ hHeld ?_
            rotate_left
            focus (intro wS hSw; (try replace hSw := HSF.out wS hSw); (try dsimp only at hSw); go_simp; (try with_reducible rfl))
            (try simp only [Act.put, List.setIfInBounds_toArray, List.set_cons_zero, List.set_cons_succ])
            refine wpAnyG_take 5 (v := ?_) (fun _ => trivial) (by simp only [List.getElem?_toArray, List.getElem?_cons_succ, List.getElem?_cons_zero]; rfl) (by kernel_rfl) (fun _ _ _ _ _ h => h) ⟨(by rfl), (by intro c h; cases h), ?_⟩ hHeld ?_
            rotate_left
            focus (intro wS hSw; (try replace hSw := HSF.out wS hSw); (try dsimp only at hSw); go_simp; (try with_reducible rfl))
            (try simp only [Act.put, List.setIfInBounds_toArray, List.set_cons_zero, List.set_cons_succ])
            refine wpAnyG_pure 8 (v := ?_) (fun _ => trivial) (by simp only [List.getElem?_toArray, List.getElem?_cons_succ, List.getElem?_cons_zero]; rfl) (by kernel_rfl) (fun _ _ _ _ _ h => h) ⟨(by rfl), (by intro c h; cases h), ?_⟩ hHeld ?_
            rotate_left
            focus (intro wS hSw; (try replace hSw := HSF.out wS hSw); (try dsimp only at hSw); go_simp; (try with_reducible rfl))
            (try simp only [Act.put, List.setIfInBounds_toArray, List.set_cons_zero, List.set_cons_succ])
            refine wpAnyG_pure 9 (v := ?_) (fun _ => trivial) (by simp only [List.getElem?_toArray, List.getElem?_cons_succ, List.getElem?_cons_zero]; rfl) (by kernel_rfl) (fun _ _ _ _ _ h => h) ⟨(by rfl), (by intro c h; cases h), ?_⟩ hHeld ?_
            rotate_left
            focus (intro wS hSw; (try replace hSw := HSF.out wS hSw); (try dsimp only at hSw); go_simp; (try with_reducible rfl))
            (try simp only [Act.put, List.setIfInBounds_toArray, List.set_cons_zero, List.set_cons_succ])
            refine wpAnyG_pure 10 (v := ?_) (fun _ => trivial) (by simp only [List.getElem?_toArray, List.getElem?_cons_succ, List.getElem?_cons_zero]; rfl) (by kernel_rfl) (fun _ _ _ _ _ h => h) ⟨(by rfl), (by intro c h; cases h), ?_⟩ hHeld ?_
            rotate_left
            focus (intro wS hSw; (try replace hSw := HSF.out wS hSw); (try dsimp only at hSw); go_simp; (try with_reducible rfl))
            (try simp only [Act.put, List.setIfInBounds_toArray, List.set_cons_zero, List.set_cons_succ])
            refine wpAnyG_pure 11 (v := ?_) (fun _ => trivial) (by simp only [List.getElem?_toArray, List.getElem?_cons_succ, List.getElem?_cons_zero]; rfl) (by kernel_rfl) (fun _ _ _ _ _ h => h) ⟨(by rfl), (by intro c h; cases h), ?_⟩ hHeld ?_
            rotate_left
            focus (intro wS hSw; (try replace hSw := HSF.out wS hSw); (try dsimp only at hSw); go_simp; (try with_reducible rfl))
            (try simp only [Act.put, List.setIfInBounds_toArray, List.set_cons_zero, List.set_cons_succ])
            refine wpAnyG_take 12 (v := ?_) (fun _ => trivial) (by simp only [List.getElem?_toArray, List.getElem?_cons_succ, List.getElem?_cons_zero]; rfl) (by kernel_rfl) (fun _ _ _ _ _ h => h) ⟨(by rfl), (by intro c h; cases h), ?_⟩ hHeld ?_
            rotate_left
            focus (intro wS hSw; (try replace hSw := HSF.out wS hSw); (try dsimp only at hSw); go_simp; (try with_reducible rfl))
            (try simp only [Act.put, List.setIfInBounds_toArray, List.set_cons_zero, List.set_cons_succ])
            refine wpAnyS_ready [6] (by kernel_rfl) (by simp) (AllReadyS.consG (by simp only [List.getElem?_toArray, List.getElem?_cons_succ, List.getElem?_cons_zero]; rfl) (by rfl) (fun K hK => ?_) AllReadyS.nil)
            refine callS (by intro c h; cases h) (by go_simp; try with_reducible rfl) (HI.out n1 k0 _) ?_
            intro w3 hBq
            have B3 := hid (BD.out.trans (hBq.mono BD.out.size))
            refine hK.out _ _ B3.out ?_
            (try simp only [Act.put, List.setIfInBounds_toArray, List.set_cons_zero, List.set_cons_succ])
            clear hK K hBq
            clear hHeld
            have hHeld := B3.out
            refine wpAnyG_pure 7 (v := ?_) (fun _ => trivial) (by simp only [List.getElem?_toArray, List.getElem?_cons_succ, List.getElem?_cons_zero]; rfl) (by kernel_rfl) (fun _ _ _ _ _ h => h) ⟨(by rfl), (by intro c h; cases h), ?_⟩ hHeld ?_
            rotate_left
            focus (intro wS hSw; (try replace hSw := HSF.out wS hSw); (try dsimp only at hSw); go_simp; (try with_reducible rfl))
            (try simp only [Act.put, List.setIfInBounds_toArray, List.set_cons_zero, List.set_cons_succ])
            refine wpAnyS_ready [13] (by kernel_rfl) (by simp) (AllReadyS.consG (by simp only [List.getElem?_toArray, List.getElem?_cons_succ, List.getElem?_cons_zero]; rfl) (by rfl) (fun K hK => ?_) AllReadyS.nil)
            refine callS (by intro c h; cases h) (by go_simp; try with_reducible rfl) (HI.out n2 k1 _) ?_
            intro w4 hBq
            have BL := hid (B3.out.trans (hBq.mono B3.out.size))
            refine hK.out _ _ BL.out ?_
            (try simp only [Act.put, List.setIfInBounds_toArray, List.set_cons_zero, List.set_cons_succ])
            clear hK K hBq
            clear hHeld
            have hHeld := BL.out
            refine wpAnyG_pure 14 (v := ?_) (fun _ => trivial) (by simp only [List.getElem?_toArray, List.getElem?_cons_succ, List.getElem?_cons_zero]; rfl) (by kernel_rfl) (fun _ _ _ _ _ h => h) ⟨(by rfl), (by intro c h; cases h), ?_⟩ hHeld ?_
            rotate_left
            focus (intro wS hSw; (try replace hSw := HSF.out wS hSw); (try dsimp only at hSw); go_simp; (try with_reducible rfl))
            (try simp only [Act.put, List.setIfInBounds_toArray, List.set_cons_zero, List.set_cons_succ])
            refine wpAnyG_pure 15 (v := ?_) (fun _ => trivial) (by simp only [List.getElem?_toArray, List.getElem?_cons_succ, List.getElem?_cons_zero]; rfl) (by kernel_rfl) (fun _ _ _ _ _ h => h) ⟨(by rfl), (by intro c h; cases h), ?_⟩ hHeld ?_
            rotate_left
            focus (intro wS hSw; (try replace hSw := HSF.out wS hSw); (try dsimp only at hSw); go_simp; (try with_reducible rfl))
            (try simp only [Act.put, List.setIfInBounds_toArray, List.set_cons_zero, List.set_cons_succ])
            refine wpAnyS_done (by kernel_rfl) ?_
            have P6 := hid (HP.out.trans (BL.out.mono HP.out.size))
            have g2' := HSF.out w4 BL.out
            obtain ⟨g0, g1, g2⟩ := g2'
            have hbz4 : b < w4.heap.size := by have := BL.out.size; omega
            clear hHeld BD HSF HI BL
            cases fz with
            | true =>
              have hcat := hid (show bs acc ++ bs (encI n1) ++ bs (encI n2) ++ bs (encI 1) = bs (a2 ++ ((lots.take (k + 1)).map encLt).flatten) by
                rw [hsn.out, ← List.append_assoc, ← Hacc.out, bs_app, bs_app, bs_app]; simp [encLt, lt3, fzI, enc3])
              obtain ⟨q4, q5⟩ := addC acc (encI n1) (encI n2) (encI 1) (by have := hlen.out; omega) (by have := encI_le22 n1 k0; omega) (by have := encI_le22 n2 k1; omega) (by have := encI_le22 1 ⟨by omega, by omega⟩; omega)
              have HI1 := hid (rInt_any 1 ⟨by omega, by omega⟩ w4)
              go_wp2_with fail
              refine HI1.out.mono ?_
              rintro e w5 ⟨rfl, hB5⟩
              have P7 := hid (P6.out.trans (hB5.mono P6.out.size))
              clear hB5 HI1
              go_wp2_with fail
              go_roundw
              case rel => exact ⟨k + 1, by omega, by go_num, by rw [hcat.out], P7.out⟩
              case measure => simp [intOf]; omega
            | false =>
              have hcat := hid (show bs acc ++ bs (encI n1) ++ bs (encI n2) ++ bs (encI 0) = bs (a2 ++ ((lots.take (k + 1)).map encLt).flatten) by
                rw [hsn.out, ← List.append_assoc, ← Hacc.out, bs_app, bs_app, bs_app]; simp [encLt, lt3, fzI, enc3])
              obtain ⟨q4, q5⟩ := addC acc (encI n1) (encI n2) (encI 0) (by have := hlen.out; omega) (by have := encI_le22 n1 k0; omega) (by have := encI_le22 n2 k1; omega) (by have := encI_le22 0 ⟨by omega, by omega⟩; omega)
              have HI1 := hid (rInt_any 0 ⟨by omega, by omega⟩ w4)
              go_wp2_with fail
              refine HI1.out.mono ?_
              rintro e w5 ⟨rfl, hB5⟩
              have P7 := hid (P6.out.trans (hB5.mono P6.out.size))
              clear hB5 HI1
              go_wp2_with fail
              go_roundw
              case rel => exact ⟨k + 1, by omega, by go_num, by rw [hcat.out], P7.out⟩
              case measure => simp [intOf]; omega
        case neg =>
          obtain rfl : k = lots.length := by omega
          rw [List.take_length]
          clear hlt hk
          rw [← H3.out]
          have HN := hid (rNum_any (bxs.length : Int) ⟨by omega, by omega⟩ wr)
          rw [if_neg (by omega)] at HN
          have q1 := addA a3 (encI bxs.length) (by have := L3.out; omega) (by have := z3.out; omega)
          have hcat := hid (show bs a3 ++ bs (encI bxs.length) = bs a4 by rw [bs_app, H4.out])
          go_wp2_with fail
          refine HN.out.mono ?_
          rintro e w1 ⟨rfl, hB1⟩
          have B2 := hid (HP.out.trans (hB1.mono HP.out.size))
          clear hB1 HN HP
          go_wp2_with fail
          rw [hcat.out]
          clear hcat q1
          go_loopw [7, 10] (fun sv i wr => ∃ k : Nat, k ≤ bxs.length ∧ i = .int .i64 k ∧ sv = .string (bs (a4 ++ ((bxs.take k).map enc3).flatten)) ∧ Below w.heap.size w wr) (fun _ i _ => bxs.length - (intOf i).toNat)
          case atStart => exact ⟨0, by omega, rfl, by simp, B2.out⟩
          case round =>
            clear B2
            obtain ⟨k, hk, rfl, rfl, hP⟩ := hrel
            have HP := hid hP
            clear hP
            by_cases hlt : k < bxs.length
            case pos =>
              as_aux_lemma =>
                obtain ⟨b, off, rfl, hbB, g0, g1, g2, k0, k1, k2⟩ := h3.i3 hlt
                have hsn := hid (flat_snoc3 enc3 bxs k hlt)
                have hlt' : (k : Int) < bxs.length := by omega
                have hlen := hid (show (a4 ++ ((bxs.take k).map enc3).flatten).length ≤ 100000000 by
                  rw [List.length_append]
                  have := L4.out
                  have := flat_take enc3 bxs k
                  have := f3.out
                  omega)
                generalize bxs[k] = x at *
                obtain ⟨n1, n2, n3⟩ := x
                simp only at g0 g1 g2 k0 k1 k2
                obtain ⟨acc, hacc⟩ : ∃ acc, acc = a4 ++ ((bxs.take k).map enc3).flatten := ⟨_, rfl⟩
                rw [← hacc]
                rw [← hacc] at hlen
                have Hacc := hid hacc
                clear hacc
                replace g0 := (bcell HP.out b _ hbB).trans g0
                replace g1 := (bcell HP.out b _ hbB).trans g1
                replace g2 := (bcell HP.out b _ hbB).trans g2
                have hbz : b < wr.heap.size := by have := HP.out.size; omega
                have q1 := addA acc (encI n1) (by have := hlen.out; omega) (by have := encI_le22 n1 k0; omega)
                obtain ⟨q2, q3⟩ := addB acc (encI n1) (encI n2) (by have := hlen.out; omega) (by have := encI_le22 n1 k0; omega) (by have := encI_le22 n2 k1; omega)
                obtain ⟨q4, q5⟩ := addC acc (encI n1) (encI n2) (encI n3) (by have := hlen.out; omega) (by have := encI_le22 n1 k0; omega) (by have := encI_le22 n2 k1; omega) (by have := encI_le22 n3 k2; omega)
                have hcat := hid (show bs acc ++ bs (encI n1) ++ bs (encI n2) ++ bs (encI n3) = bs (a4 ++ ((bxs.take (k + 1)).map enc3).flatten) by
                  rw [hsn.out, ← List.append_assoc, ← Hacc.out, bs_app, bs_app, bs_app]; simp [enc3])
                have HI := hid (fun (n : Int) (hn : I64 n) (W' : World) => rInt_any n hn W')
                have HSF := hid (fun (wq : World) (hq : Below wr.heap.size wr wq) => (And.intro ((bcell hq _ _ hbz).trans g0) (And.intro ((bcell hq _ _ hbz).trans g1) ((bcell hq _ _ hbz).trans g2))))
                have BD := hid ((Below.refl wr.heap.size wr).drew)
                clear g0 g1 g2
                go_upto_region 18 with fail
                refine wpIn_wide.1 (wpIn_region_S (n := 0) (fun wq => Below wr.heap.size wr wq) [] (by kernel_rfl) BD.out (fun hHeld => ?_))
                generalize wr.drew = wd at *
                refine wpAnyG_pure 0 (v := ?_) (fun _ => trivial) (by simp only [List.getElem?_toArray, List.getElem?_cons_succ, List.getElem?_cons_zero]; rfl) (by kernel_rfl) (fun _ _ _ _ _ h => h) ⟨(by rfl), (by intro c h; cases h), ?_⟩ hHeld ?_
                rotate_left
                focus (intro wS hSw; (try replace hSw := HSF.out wS hSw); (try dsimp only at hSw); go_simp; (try with_reducible rfl))
                (try simp only [Act.put, List.setIfInBounds_toArray, List.set_cons_zero, List.set_cons_succ])
                refine wpAnyG_pure 1 (v := ?_) (fun _ => trivial) (by simp only [List.getElem?_toArray, List.getElem?_cons_succ, List.getElem?_cons_zero]; rfl) (by kernel_rfl) (fun _ _ _ _ _ h => h) ⟨(by rfl), (by intro c h; cases h), ?_⟩ hHeld ?_
                rotate_left
                focus (intro wS hSw; (try replace hSw := HSF.out wS hSw); (try dsimp only at hSw); go_simp; (try with_reducible rfl))
                (try simp only [Act.put, List.setIfInBounds_toArray, List.set_cons_zero, List.set_cons_succ])
                refine wpAnyG_pure 2 (v := ?_) (fun _ => trivial) (by simp only [List.getElem?_toArray, List.getElem?_cons_succ, List.getElem?_cons_zero]; rfl) (by kernel_rfl) (fun _ _ _ _ _ h => h) ⟨(by rfl), (by intro c h; cases h), ?_⟩ hHeld ?_
                rotate_left
                focus (intro wS hSw; (try replace hSw := HSF.out wS hSw); (try dsimp only at hSw); go_simp; (try with_reducible rfl))
                (try simp only [Act.put, List.setIfInBounds_toArray, List.set_cons_zero, List.set_cons_succ])
                refine wpAnyG_pure 3 (v := ?_) (fun _ => trivial) (by simp only [List.getElem?_toArray, List.getElem?_cons_succ, List.getElem?_cons_zero]; rfl) (by kernel_rfl) (fun _ _ _ _ _ h => h) ⟨(by rfl), (by intro c h; cases h), ?_⟩ hHeld ?_
                rotate_left
                focus (intro wS hSw; (try replace hSw := HSF.out wS hSw); (try dsimp only at hSw); go_simp; (try with_reducible rfl))
                (try simp only [Act.put, List.setIfInBounds_toArray, List.set_cons_zero, List.set_cons_succ])
                refine wpAnyG_pure 4 (v := ?_) (fun _ => trivial) (by simp only [List.getElem?_toArray, List.getElem?_cons_succ, List.getElem?_cons_zero]; rfl) (by kernel_rfl) (fun _ _ _ _ _ h => h) ⟨(by rfl), (by intro c h; cases h), ?_⟩ hHeld ?_
                rotate_left
                focus (intro wS hSw; (try replace hSw := HSF.out wS hSw); (try dsimp only at hSw); go_simp; (try with_reducible rfl))
                (try simp only [Act.put, List.setIfInBounds_toArray, List.set_cons_zero, List.set_cons_succ])
                refine wpAnyG_take 5 (v := ?_) (fun _ => trivial) (by simp only [List.getElem?_toArray, List.getElem?_cons_succ, List.getElem?_cons_zero]; rfl) (by kernel_rfl) (fun _ _ _ _ _ h => h) ⟨(by rfl), (by intro c h; cases h), ?_⟩ hHeld ?_
                rotate_left
                focus (intro wS hSw; (try replace hSw := HSF.out wS hSw); (try dsimp only at hSw); go_simp; (try with_reducible rfl))
                (try simp only [Act.put, List.setIfInBounds_toArray, List.set_cons_zero, List.set_cons_succ])
                refine wpAnyG_pure 8 (v := ?_) (fun _ => trivial) (by simp only [List.getElem?_toArray, List.getElem?_cons_succ, List.getElem?_cons_zero]; rfl) (by kernel_rfl) (fun _ _ _ _ _ h => h) ⟨(by rfl), (by intro c h; cases h), ?_⟩ hHeld ?_
                rotate_left
                focus (intro wS hSw; (try replace hSw := HSF.out wS hSw); (try dsimp only at hSw); go_simp; (try with_reducible rfl))
                (try simp only [Act.put, List.setIfInBounds_toArray, List.set_cons_zero, List.set_cons_succ])
                refine wpAnyG_pure 9 (v := ?_) (fun _ => trivial) (by simp only [List.getElem?_toArray, List.getElem?_cons_succ, List.getElem?_cons_zero]; rfl) (by kernel_rfl) (fun _ _ _ _ _ h => h) ⟨(by rfl), (by intro c h; cases h), ?_⟩ hHeld ?_
                rotate_left
                focus (intro wS hSw; (try replace hSw := HSF.out wS hSw); (try dsimp only at hSw); go_simp; (try with_reducible rfl))
                (try simp only [Act.put, List.setIfInBounds_toArray, List.set_cons_zero, List.set_cons_succ])
                refine wpAnyG_pure 10 (v := ?_) (fun _ => trivial) (by simp only [List.getElem?_toArray, List.getElem?_cons_succ, List.getElem?_cons_zero]; rfl) (by kernel_rfl) (fun _ _ _ _ _ h => h) ⟨(by rfl), (by intro c h; cases h), ?_⟩ hHeld ?_
                rotate_left
                focus (intro wS hSw; (try replace hSw := HSF.out wS hSw); (try dsimp only at hSw); go_simp; (try with_reducible rfl))
                (try simp only [Act.put, List.setIfInBounds_toArray, List.set_cons_zero, List.set_cons_succ])
                refine wpAnyG_pure 11 (v := ?_) (fun _ => trivial) (by simp only [List.getElem?_toArray, List.getElem?_cons_succ, List.getElem?_cons_zero]; rfl) (by kernel_rfl) (fun _ _ _ _ _ h => h) ⟨(by rfl), (by intro c h; cases h), ?_⟩ hHeld ?_
                rotate_left
                focus (intro wS hSw; (try replace hSw := HSF.out wS hSw); (try dsimp only at hSw); go_simp; (try with_reducible rfl))
                (try simp only [Act.put, List.setIfInBounds_toArray, List.set_cons_zero, List.set_cons_succ])
                refine wpAnyG_take 12 (v := ?_) (fun _ => trivial) (by simp only [List.getElem?_toArray, List.getElem?_cons_succ, List.getElem?_cons_zero]; rfl) (by kernel_rfl) (fun _ _ _ _ _ h => h) ⟨(by rfl), (by intro c h; cases h), ?_⟩ hHeld ?_
                rotate_left
                focus (intro wS hSw; (try replace hSw := HSF.out wS hSw); (try dsimp only at hSw); go_simp; (try with_reducible rfl))
                (try simp only [Act.put, List.setIfInBounds_toArray, List.set_cons_zero, List.set_cons_succ])
                refine wpAnyG_pure 15 (v := ?_) (fun _ => trivial) (by simp only [List.getElem?_toArray, List.getElem?_cons_succ, List.getElem?_cons_zero]; rfl) (by kernel_rfl) (fun _ _ _ _ _ h => h) ⟨(by rfl), (by intro c h; cases h), ?_⟩ hHeld ?_
                rotate_left
                focus (intro wS hSw; (try replace hSw := HSF.out wS hSw); (try dsimp only at hSw); go_simp; (try with_reducible rfl))
                (try simp only [Act.put, List.setIfInBounds_toArray, List.set_cons_zero, List.set_cons_succ])
                refine wpAnyG_pure 16 (v := ?_) (fun _ => trivial) (by simp only [List.getElem?_toArray, List.getElem?_cons_succ, List.getElem?_cons_zero]; rfl) (by kernel_rfl) (fun _ _ _ _ _ h => h) ⟨(by rfl), (by intro c h; cases h), ?_⟩ hHeld ?_
                rotate_left
                focus (intro wS hSw; (try replace hSw := HSF.out wS hSw); (try dsimp only at hSw); go_simp; (try with_reducible rfl))
                (try simp only [Act.put, List.setIfInBounds_toArray, List.set_cons_zero, List.set_cons_succ])
                refine wpAnyG_pure 17 (v := ?_) (fun _ => trivial) (by simp only [List.getElem?_toArray, List.getElem?_cons_succ, List.getElem?_cons_zero]; rfl) (by kernel_rfl) (fun _ _ _ _ _ h => h) ⟨(by rfl), (by intro c h; cases h), ?_⟩ hHeld ?_
                rotate_left
                focus (intro wS hSw; (try replace hSw := HSF.out wS hSw); (try dsimp only at hSw); go_simp; (try with_reducible rfl))
                (try simp only [Act.put, List.setIfInBounds_toArray, List.set_cons_zero, List.set_cons_succ])
                refine wpAnyG_pure 18 (v := ?_) (fun _ => trivial) (by simp only [List.getElem?_toArray, List.getElem?_cons_succ, List.getElem?_cons_zero]; rfl) (by kernel_rfl) (fun _ _ _ _ _ h => h) ⟨(by rfl), (by intro c h; cases h), ?_⟩ hHeld ?_
                rotate_left
                focus (intro wS hSw; (try replace hSw := HSF.out wS hSw); (try dsimp only at hSw); go_simp; (try with_reducible rfl))
                (try simp only [Act.put, List.setIfInBounds_toArray, List.set_cons_zero, List.set_cons_succ])
                refine wpAnyG_take 19 (v := ?_) (fun _ => trivial) (by simp only [List.getElem?_toArray, List.getElem?_cons_succ, List.getElem?_cons_zero]; rfl) (by kernel_rfl) (fun _ _ _ _ _ h => h) ⟨(by rfl), (by intro c h; cases h), ?_⟩ hHeld ?_
                rotate_left
                focus (intro wS hSw; (try replace hSw := HSF.out wS hSw); (try dsimp only at hSw); go_simp; (try with_reducible rfl))
                (try simp only [Act.put, List.setIfInBounds_toArray, List.set_cons_zero, List.set_cons_succ])
                refine wpAnyS_ready [6] (by kernel_rfl) (by simp) (AllReadyS.consG (by simp only [List.getElem?_toArray, List.getElem?_cons_succ, List.getElem?_cons_zero]; rfl) (by rfl) (fun K hK => ?_) AllReadyS.nil)
                refine callS (by intro c h; cases h) (by go_simp; try with_reducible rfl) (HI.out n1 k0 _) ?_
                intro w3 hBq
                have B3 := hid (BD.out.trans (hBq.mono BD.out.size))
                refine hK.out _ _ B3.out ?_
                (try simp only [Act.put, List.setIfInBounds_toArray, List.set_cons_zero, List.set_cons_succ])
                clear hK K hBq
                clear hHeld
                have hHeld := B3.out
                refine wpAnyG_pure 7 (v := ?_) (fun _ => trivial) (by simp only [List.getElem?_toArray, List.getElem?_cons_succ, List.getElem?_cons_zero]; rfl) (by kernel_rfl) (fun _ _ _ _ _ h => h) ⟨(by rfl), (by intro c h; cases h), ?_⟩ hHeld ?_
                rotate_left
                focus (intro wS hSw; (try replace hSw := HSF.out wS hSw); (try dsimp only at hSw); go_simp; (try with_reducible rfl))
                (try simp only [Act.put, List.setIfInBounds_toArray, List.set_cons_zero, List.set_cons_succ])
                refine wpAnyS_ready [13] (by kernel_rfl) (by simp) (AllReadyS.consG (by simp only [List.getElem?_toArray, List.getElem?_cons_succ, List.getElem?_cons_zero]; rfl) (by rfl) (fun K hK => ?_) AllReadyS.nil)
                refine callS (by intro c h; cases h) (by go_simp; try with_reducible rfl) (HI.out n2 k1 _) ?_
                intro w4 hBq
                have B4 := hid (B3.out.trans (hBq.mono B3.out.size))
                refine hK.out _ _ B4.out ?_
                (try simp only [Act.put, List.setIfInBounds_toArray, List.set_cons_zero, List.set_cons_succ])
                clear hK K hBq
                clear hHeld
                have hHeld := B4.out
                refine wpAnyG_pure 14 (v := ?_) (fun _ => trivial) (by simp only [List.getElem?_toArray, List.getElem?_cons_succ, List.getElem?_cons_zero]; rfl) (by kernel_rfl) (fun _ _ _ _ _ h => h) ⟨(by rfl), (by intro c h; cases h), ?_⟩ hHeld ?_
                rotate_left
                focus (intro wS hSw; (try replace hSw := HSF.out wS hSw); (try dsimp only at hSw); go_simp; (try with_reducible rfl))
                (try simp only [Act.put, List.setIfInBounds_toArray, List.set_cons_zero, List.set_cons_succ])
                refine wpAnyS_ready [20] (by kernel_rfl) (by simp) (AllReadyS.consG (by simp only [List.getElem?_toArray, List.getElem?_cons_succ, List.getElem?_cons_zero]; rfl) (by rfl) (fun K hK => ?_) AllReadyS.nil)
                refine callS (by intro c h; cases h) (by go_simp; try with_reducible rfl) (HI.out n3 k2 _) ?_
                intro w5 hBq
                have BL := hid (B4.out.trans (hBq.mono B4.out.size))
                refine hK.out _ _ BL.out ?_
                (try simp only [Act.put, List.setIfInBounds_toArray, List.set_cons_zero, List.set_cons_succ])
                clear hK K hBq
                clear hHeld
                have hHeld := BL.out
                refine wpAnyG_pure 21 (v := ?_) (fun _ => trivial) (by simp only [List.getElem?_toArray, List.getElem?_cons_succ, List.getElem?_cons_zero]; rfl) (by kernel_rfl) (fun _ _ _ _ _ h => h) ⟨(by rfl), (by intro c h; cases h), ?_⟩ hHeld ?_
                rotate_left
                focus (intro wS hSw; (try replace hSw := HSF.out wS hSw); (try dsimp only at hSw); go_simp; (try with_reducible rfl))
                (try simp only [Act.put, List.setIfInBounds_toArray, List.set_cons_zero, List.set_cons_succ])
                refine wpAnyG_pure 22 (v := ?_) (fun _ => trivial) (by simp only [List.getElem?_toArray, List.getElem?_cons_succ, List.getElem?_cons_zero]; rfl) (by kernel_rfl) (fun _ _ _ _ _ h => h) ⟨(by rfl), (by intro c h; cases h), ?_⟩ hHeld ?_
                rotate_left
                focus (intro wS hSw; (try replace hSw := HSF.out wS hSw); (try dsimp only at hSw); go_simp; (try with_reducible rfl))
                (try simp only [Act.put, List.setIfInBounds_toArray, List.set_cons_zero, List.set_cons_succ])
                refine wpAnyS_done (by kernel_rfl) ?_
                have P6 := hid (HP.out.trans (BL.out.mono HP.out.size))
                clear hHeld BD HSF HI BL
                go_wp2_with fail
                go_roundw
                case rel => exact ⟨k + 1, by omega, by go_num, by rw [hcat.out], P6.out⟩
                case measure => simp [intOf]; omega
            case neg =>
              obtain rfl : k = bxs.length := by omega
              rw [List.take_length]
              clear hlt hk
              go_wp2_with fail
              go_ret
              exact ⟨ret_str (by rw [HEND.out]), HP.out⟩
end Go.Proofs.YtfpehakllnkaeaaGreatDoor
namespace Go.Proofs.YtfpehakllnkaeaaGreatDoor
open Go.RowKit Go.IntWalk

def toLt (x : P3) : Lt := (x.1, x.2.1, decide (x.2.2 = 1))
def fzOK (x : P3) : Bool := decide (x.2.2 = 0) || decide (x.2.2 = 1)
/-- What the reference's reader reads: the three numbers, and what follows each. -/
def rA (s : List UInt8) : List Kd × RS := rWhile rKd (rN (s, false)).1.toNat (rN (s, false)).2
def rB (s : List UInt8) : List P3 × RS := rWhile r3 (rN (rA s).2).1.toNat (rN (rA s).2).2
def rC (s : List UInt8) : List Bx × RS := rWhile r3 (rN (rB s).2).1.toNat (rN (rB s).2).2
def refStk (s : List UInt8) : Option (List Kd × List Lt × List Bx) :=
  if (rB s).1.all fzOK = true ∧ (rC s).2 = ([], false) ∧ ((rA s).1.length : Int) = (rN (s, false)).1 ∧ ((rB s).1.length : Int) = (rN (rA s).2).1 ∧ ((rC s).1.length : Int) = (rN (rB s).2).1 ∧ rightS (rA s).1 ((rB s).1.map toLt) (rC s).1 = true then some ((rA s).1, (rB s).1.map toLt, (rC s).1) else none
theorem rKd_split {s : RS} (h : (rKd s).2.2 = false) : s.2 = false ∧ s.1 = encKd (rKd s).1 ++ (rKd s).2.1 := by
  unfold rKd at h ⊢
  simp only at h ⊢
  obtain ⟨h1, e1⟩ := rI_split h
  obtain ⟨h2, e2⟩ := rT_split h1
  refine ⟨h2, ?_⟩
  unfold encKd
  simp only
  have hb : (bs (rT s).1).data.toList = (rT s).1 := by simp [bs]
  rw [hb, List.append_assoc, ← e1, ← e2]
theorem rLt_eq : rLt = fun s => (toLt (r3 s).1, (r3 s).2) := rfl
theorem outStk_eq (s : List UInt8) : outStk s = (((rA s).1, (rB s).1.map toLt, (rC s).1), (rC s).2) := by
  unfold outStk
  rw [rLt_eq]
  simp only [rWhile_map]
  rfl
theorem lt3_to {x : P3} (h : fzOK x = true) : lt3 (toLt x) = x := by
  obtain ⟨a, b, c⟩ := x
  unfold fzOK at h
  simp only [Bool.or_eq_true, decide_eq_true_eq] at h
  unfold lt3 toLt fzI
  rcases h with h | h <;> simp [h]
theorem fz_lt3 (l : Lt) : fzOK (lt3 l) = true := by
  obtain ⟨a, b, c⟩ := l
  cases c <;> simp [fzOK, lt3, fzI]
theorem enc_raw {l : List P3} (h : l.all fzOK = true) : ((l.map toLt).map encLt).flatten = (l.map enc3).flatten := by
  congr 1
  rw [List.map_map]
  apply List.map_congr_left
  intro x hx
  show encLt (toLt x) = enc3 x
  unfold encLt
  rw [lt3_to (List.all_eq_true.1 h x hx)]
theorem kd_bd (n : Nat) (s : RS) : ∀ k ∈ (rWhile rKd n s).1, I64 k.2 := rWhile_all (p := fun (k : Kd) => I64 k.2) (fun s => rI_bd _) n s
theorem p3_bd (n : Nat) (s : RS) : ∀ k ∈ (rWhile r3 n s).1, P3I k := rWhile_all (p := P3I) r3_bd n s
/-- The reference reads what the program reads. -/
theorem refStk_eq (s : List UInt8) : refStk s = readStk s := by
  unfold readStk
  rw [outStk_eq]
  simp only
  unfold refStk
  have iff : ((rB s).1.all fzOK = true ∧ (rC s).2 = ([], false) ∧ ((rA s).1.length : Int) = (rN (s, false)).1 ∧ ((rB s).1.length : Int) = (rN (rA s).2).1 ∧ ((rC s).1.length : Int) = (rN (rB s).2).1 ∧ rightS (rA s).1 ((rB s).1.map toLt) (rC s).1 = true) ↔ ((rC s).2 = ([], false) ∧ rightS (rA s).1 ((rB s).1.map toLt) (rC s).1 = true ∧ encStk (rA s).1 ((rB s).1.map toLt) (rC s).1 = s) := by
    constructor
    · rintro ⟨h1, h2, h3, h4, h5, h6⟩
      refine ⟨h2, h6, ?_⟩
      have c1 : (rC s).2.2 = false := by rw [h2]
      obtain ⟨c2, e2⟩ := rWhile_split (fun s h => r3_split h) _ _ c1
      obtain ⟨c3, e3⟩ := rN_split c2
      obtain ⟨c4, e4⟩ := rWhile_split (fun s h => r3_split h) _ _ c3
      obtain ⟨c5, e5⟩ := rN_split c4
      obtain ⟨c6, e6⟩ := rWhile_split (fun s h => rKd_split h) _ _ c5
      obtain ⟨_, e7⟩ := rN_split c6
      have e2' : (rN (rB s).2).2.1 = ((rC s).1.map enc3).flatten := by
        have : (rC s).2.1 = [] := by rw [h2]
        rw [e2]
        show ((rC s).1.map enc3).flatten ++ (rC s).2.1 = _
        rw [this, List.append_nil]
      have e3' : (rB s).2.1 = encI (rN (rB s).2).1 ++ (rN (rB s).2).2.1 := e3
      have e4' : (rN (rA s).2).2.1 = ((rB s).1.map enc3).flatten ++ (rB s).2.1 := e4
      have e5' : (rA s).2.1 = encI (rN (rA s).2).1 ++ (rN (rA s).2).2.1 := e5
      have e6' : (rN (s, false)).2.1 = ((rA s).1.map encKd).flatten ++ (rA s).2.1 := e6
      have e7' : s = encI (rN (s, false)).1 ++ (rN (s, false)).2.1 := e7
      unfold encStk
      rw [enc_raw h1, List.length_map, h3, h4, h5]
      conv => rhs; rw [e7', e6', e5', e4', e3', e2']
      simp only [List.append_assoc]
    · rintro ⟨h2, h6, h7⟩
      obtain ⟨b1, b2, b3, b4⟩ := right_kd h6 (kd_bd _ _)
      have hL : ∀ l ∈ (rB s).1.map toLt, I64 l.1 ∧ I64 l.2.1 := by
        intro l hl
        obtain ⟨x, hx, rfl⟩ := List.mem_map.1 hl
        have := p3_bd _ _ x hx
        exact ⟨this.1, this.2.1⟩
      have hB : ∀ x ∈ (rC s).1, P3I x := fun x hx => p3_bd _ _ x hx
      generalize hks : (rA s).1 = ks at *
      generalize hlots : (rB s).1.map toLt = lots at *
      generalize hbxs : (rC s).1 = bxs at *
      have e1 : rN (s, false) = ((ks.length : Int), (ks.map encKd).flatten ++ (encI lots.length ++ ((lots.map encLt).flatten ++ (encI bxs.length ++ (bxs.map enc3).flatten))), false) := by
        have := rN_enc ks.length ⟨by omega, by omega⟩ (by omega) ((ks.map encKd).flatten ++ (encI lots.length ++ ((lots.map encLt).flatten ++ (encI bxs.length ++ (bxs.map enc3).flatten)))) false
        rw [← this, ← h7]
        simp only [encStk, List.append_assoc]
      have e2 := rWhile_enc rKd encKd (encI lots.length ++ ((lots.map encLt).flatten ++ (encI bxs.length ++ (bxs.map enc3).flatten))) ks (fun x _ => encKd_ne x) (fun x hx r b => rKd_enc x (b4 x hx) r b)
      have a1 : rA s = (ks, encI lots.length ++ ((lots.map encLt).flatten ++ (encI bxs.length ++ (bxs.map enc3).flatten)), false) := by
        unfold rA
        rw [e1]
        simp only [Int.toNat_natCast, e2]
      have e3 := rN_enc lots.length ⟨by omega, by omega⟩ (by omega) ((lots.map encLt).flatten ++ (encI bxs.length ++ (bxs.map enc3).flatten)) false
      have em : (lots.map encLt).flatten = ((lots.map lt3).map enc3).flatten := by rw [List.map_map]; rfl
      have e4 := rWhile_enc r3 enc3 (encI bxs.length ++ (bxs.map enc3).flatten) (lots.map lt3) (fun x _ => enc3_ne x) (fun x hx r b => r3_enc x (by
        obtain ⟨l, hl, rfl⟩ := List.mem_map.1 hx
        exact ⟨(hL l hl).1, (hL l hl).2, fzI_I _⟩) r b)
      rw [List.length_map, ← em] at e4
      have a2 : rB s = (lots.map lt3, encI bxs.length ++ (bxs.map enc3).flatten, false) := by
        unfold rB
        rw [a1]
        simp only [e3, Int.toNat_natCast, e4]
      have e5 := rN_enc bxs.length ⟨by omega, by omega⟩ (by omega) ((bxs.map enc3).flatten) false
      refine ⟨?_, h2, ?_, ?_, ?_, h6⟩
      · rw [a2]
        simp only [List.all_map, List.all_eq_true]
        intro l _
        exact fz_lt3 l
      · rw [e1]
      · rw [a1, a2]
        simp only [e3, List.length_map]
      · rw [a2]
        simp only [e5]
  by_cases hc : (rC s).2 = ([], false) ∧ rightS (rA s).1 ((rB s).1.map toLt) (rC s).1 = true ∧ encStk (rA s).1 ((rB s).1.map toLt) (rC s).1 = s
  · rw [if_pos hc, if_pos (iff.2 hc)]
  · rw [if_neg hc, if_neg (fun h => hc (iff.1 h))]
end Go.Proofs.YtfpehakllnkaeaaGreatDoor
namespace Go.Proofs.YtfpehakllnkaeaaGreatDoor
open Go.RowKit Go.IntWalk

set_option maxRecDepth 100000 in
set_option maxHeartbeats 16000000 in
theorem rread_any (s : ByteArray) (w : World) (hs : s.size ≤ 90000) :
    Calls Tryz.prog 7 #[.string s] w (StkRes w (refStk s.data.toList)) := by
  have hsl := hid (size_list s)
  have hl0 : s.data.toList.length ≤ 90000 := by rw [← size_list]; exact hs
  obtain ⟨s0, hs0⟩ : ∃ s0 : RS, s0 = (s.data.toList, false) := ⟨_, rfl⟩
  have K0 : RSok s0 := by rw [hs0]; intro h; cases h
  have Z0 : s0.1.length ≤ 90000 := by rw [hs0]; exact hl0
  have R0 : Calls Tryz.prog 42 #[.string s] w fun e w' => e = .returned (.pointer (some ⟨w.heap.size, 0, none⟩)) ∧ Rr w' w.heap.size s0.1 s0.2 ∧ Below w.heap.size w w' := by rw [hs0]; exact openR_any s w
  have HR0 := hid R0
  have HS0 := hid hs0
  have K0 := hid K0
  clear R0 hs0
  go_enter Tryz.func7, Tryz.ntmps7
  go_wp2_with fail
  refine HR0.out.mono ?_
  rintro e w1 ⟨rfl, hR, hB⟩
  have hz1 := hR.lt
  generalize hbq : w.heap.size = b at hR hz1
  have Hbq := hid hbq
  have HBb := hid (show w.heap.size ≤ b by rw [hbq]; exact Nat.le_refl _)
  clear hbq
  have B0 := hid hB
  have R0 := hid hR
  clear hB hR HR0
  obtain ⟨n1_, s1, hr1⟩ : ∃ n s, rN s0 = (n, s) := ⟨_, _, rfl⟩
  have c1 := rrNum_f s0 (by omega) b
  have hn1 := rN_bd s0
  have hl1 := rN_le s0
  have hk1 := rN_ok K0.out
  rw [hr1] at c1 hn1 hl1 hk1
  have Hr1 := hid hr1
  simp only at c1 hn1 hl1 hk1
  obtain ⟨m1, rfl⟩ := Int.eq_ofNat_of_zero_le hn1.1
  have C1 := hid c1
  have K1 := hid hk1
  have Z1 : s1.1.length ≤ 90000 := by omega
  have N1 := hid (show m1 ≤ 9223372036854775807 by have := hn1.2.2; omega)
  clear c1 hn1 hl1 hk1 hr1 Z0 K0
  go_wp2_with fail
  refine (C1.out w1 R0.out).mono ?_
  rintro e w1n ⟨rfl, hR, hg⟩
  have B1 := hid (bg B0.out hg HBb.out)
  have R1 := hid hR

  clear hR hg C1 B0 R0
  go_upto_block 0 with fail
  go_cut [7] (fun ov wx => ∃ (O : List Kd) (st : RS), kdRK.Own wx (b + 1) ov O ∧ (∀ x ∈ O, kdRK.ok x) ∧ Rr wx b st.1 st.2 ∧ RSok st ∧ O.length + st.1.length ≤ 90000 ∧ Hid (rWhile rKd m1 s1 = (O, st)) ∧ Below w.heap.size w wx)
  case first =>
    as_aux_lemma =>
      go_wp2_with fail
      go_loopw [7, 11] (fun ov i wr => ∃ (j m : Nat) (O : List Kd) (st : RS), j + m = m1 ∧ i = .int .i64 j ∧ kdRK.Own wr (b + 1) ov O ∧ (∀ x ∈ O, kdRK.ok x) ∧ Rr wr b st.1 st.2 ∧ RSok st ∧ O.length + st.1.length ≤ 90000 ∧ Hid (rWhile rKd m1 s1 = (O ++ (rWhile rKd m st).1, (rWhile rKd m st).2)) ∧ Below w.heap.size w wr) (fun _ i _ => m1 - (intOf i).toNat)
      case atStart => exact ⟨0, m1, [], s1, by omega, rfl, RK.Own.nil, by simp, R1.out, K1.out, by simpa using Z1, by simp [Hid], B1.out⟩
      case round =>
        clear R1 B1 Z1 
        obtain ⟨j, m, O, st, hjm, rfl, hO, hOK, hRd, hst, hsz, hrm, hB⟩ := hrel
        have HO := hid hO
        have HOK := hid hOK
        have HR := hid hRd
        have HB := hid hB
        have HST := hid hst
        skip

        clear hO hOK hRd hB hst  
        rcases Nat.eq_zero_or_pos m with hm0 | hm0
        case inr =>
          obtain ⟨m, rfl⟩ : ∃ k, m = k + 1 := ⟨m - 1, by omega⟩
          have hpos : (j : Int) < (m1 : Int) := by omega
          have hm1 : m1 ≤ 9223372036854775807 := N1.out
          clear hm0
          by_cases hnil : st.1 = []
          case neg =>
            as_aux_lemma =>
              have hln : (0 : Int) < (st.1.length : Int) := by have := List.length_pos_iff.2 hnil; omega
              have hsz0 := hid hsz
              have HNIL := hid hnil
              clear hsz hnil
              go_wp2_with fail
              refine (leftR_any b st.1 st.2 wr HR.out).mono ?_
              rintro e w0 ⟨rfl, hBl⟩
              have B0 := hid (HB.out.trans (hBl.mono HB.out.size))
              have R0 := hid (show Rr w0 b st.1 st.2 from Blk.below HR.out hBl HR.out.lt)
              have Q0 := hid (HO.out.below hBl)

              clear hBl HR HB HO
              obtain ⟨x1, t1, e1⟩ : ∃ x s', rT st = (x, s') := ⟨_, _, rfl⟩
              obtain ⟨x2, t2, e2⟩ : ∃ x s', rI t1 = (x, s') := ⟨_, _, rfl⟩
              have hL0 : st.1.length ≤ 90000 := by have := hsz0.out; omega
              have g1 := rT_lt st HNIL.out
              have k1 := rT_ok HST.out
              have l1 := (rT_le st).2
              have c1 := rrText_f st HST.out (by omega) b
              rw [e1] at g1 k1 l1 c1
              simp only at g1 k1 l1 c1
              have l2 := rI_le t1
              have i2 := rI_bd t1
              have k2 := rI_ok k1
              have c2 := rrInt_f t1 (by omega) b
              rw [e2] at l2 i2 k2 c2
              simp only at l2 i2 k2 c2
              have hfx := hid (show rKd st = ((bs x1, x2), t2) by unfold rKd; rw [e1]; simp only [e2])
              have HX := hid (show kdRK.ok (bs x1, x2) from ⟨by rw [bs_size]; unfold maxLen; omega, i2⟩)
              have HXR := HX
              have HSZ := hid (show O.length + 1 + t2.1.length ≤ 90000 by have := hsz0.out; omega)
              have KT := hid k2
              have C1 := hid c1; have C2 := hid c2
              clear c1 c2 g1 k1 l1 l2 i2 k2 e1 e2 hL0
              go_wp2_with fail
              refine (C1.out w0 R0.out).mono ?_
              rintro e w1 ⟨rfl, hR, hg⟩
              have B1 := hid (bg B0.out hg HBb.out)
              have R1 := hid hR
              have Q1 := hid (Q0.out.reader hg)

              clear hR hg C1 B0 R0 Q0
              obtain ⟨wa, hwa⟩ : ∃ wa, wa = w1.alloc (Obj.cells #[.string (bs x1), .int .i64 0] 63) := ⟨_, rfl⟩
              obtain ⟨g, hgq⟩ : ∃ g, g = w1.heap.size := ⟨_, rfl⟩
              have bx := hid (show Below w1.heap.size w1 wa by rw [hwa]; exact (Below.refl w1.heap.size w1).alloc (Nat.le_refl _) _)
              have X := hid (show Blk wa g 63 #[.string (bs x1), .int .i64 0] by rw [hwa, hgq]; exact Blk.new w1 _ _)
              have hbg := hid (show b < g by rw [hgq]; exact R1.out.lt)
              have HQG := hid (fun q (e : _ = some q) => show q < g by rw [hgq]; obtain ⟨_, cs, hb⟩ := own_blk Q1.out q e; exact hb.lt)
              have hwg := hid (show w.heap.size ≤ g by rw [hgq]; exact B1.out.size)
              replace B1 := hid (B1.out.trans (bx.out.mono B1.out.size))
              replace R1 := hid (show Rr wa b t1.1 t1.2 from Blk.below R1.out bx.out R1.out.lt)
              replace Q1 := hid (Q1.out.below bx.out)

              go_upto_region 10 with fail
              rw [← hwa, ← hgq]
              clear hwa hgq bx
              go_wp2_with fail
              refine (C2.out wa R1.out).mono ?_
              rintro e w2 ⟨rfl, hR, hg⟩
              have B2 := hid (bg B1.out hg HBb.out)
              have R2 := hid hR
              have Q2 := hid (Q1.out.reader hg)

              replace X := hid (Blk.grown X.out hg (fun e => by injection e with e; have := hbg.out; omega))
              clear hR hg C2 B1 R1 Q1
              have xz := X.out.lt; have xf := X.out.frozen 1; have xc := X.out.cell 1
              simp at xc
              have Xs := hid (X.out.set_ 1 (.int .i64 x2))
              have Bs := hid (B2.out.setCell (p := ⟨g, 1, none⟩) hwg.out (.int .i64 x2))
              have Rs := hid (show Rr (w2.setCell ⟨g, 1, none⟩ (.int .i64 x2)) b t2.1 t2.2 from Blk.far R2.out (fun e => by have := hbg.out; simp only at e; omega) _)
              have Qs := hid (show kdRK.Own (w2.setCell ⟨g, 1, none⟩ (.int .i64 x2)) (b + 1) _ _ from own_kept Q2.out (fun p cs hv hb => hb.far (fun e => by have := HQG.out p hv; simp only at e; omega) _))

              go_upto_region 11 with fail
              clear xz xf xc X B2 R2 Q2

              have X := Xs; have B2 := Bs; have R2 := Rs; have Q2 := Qs
              clear Xs Bs Rs Qs
              generalize (w2.setCell ⟨g, 1, none⟩ (.int .i64 x2)) = w2' at *
              simp only [List.setIfInBounds_toArray, List.set_cons_zero, List.set_cons_succ] at X
              have x0c := X.out.cell 0; have x1c := X.out.cell 1; have xz := X.out.lt
              simp at x0c x1c
              have b6 := hid (show Below w2'.heap.size w2' (w2'.alloc (Obj.cells #[.string (bs x1), .int .i64 x2] 63)) by (repeat (first | exact Below.refl _ _ | assumption | refine below_drewN ?_ _ | refine Below.drew ?_ | refine Below.alloc ?_ (by (try simp); (try omega)) _ | refine Below.setCell ?_ (by (try simp); (try omega)) _)))
              have O6 := hid (show kdRK.Own (w2'.alloc (Obj.cells #[.string (bs x1), .int .i64 x2] 63)) (b + 1) _ O from Q2.out.below b6.out)
              have S6 := hid (show SlR (w2'.alloc (Obj.cells #[.string (bs x1), .int .i64 x2] 63)) (w2'.alloc (Obj.cells #[.string (bs x1), .int .i64 x2] 63)).heap.size (some ⟨w2'.heap.size, 0, none⟩) [(bs x1, x2)] from kdRK.blk (show Blk _ w2'.heap.size kdRK.e (kdRK.all [(bs x1, x2)]).toArray from Blk.new w2' _ _) (by intro x hx; rw [List.mem_singleton.1 hx]; exact HX.out))
              have B6 := hid (B2.out.trans (b6.out.mono B2.out.size))
              have R6 := hid (show Rr (w2'.alloc (Obj.cells #[.string (bs x1), .int .i64 x2] 63)) b t2.1 t2.2 from Blk.alloc R2.out _)

              have hz6 := hid (show b + 1 ≤ (w2'.alloc (Obj.cells #[.string (bs x1), .int .i64 x2] 63)).heap.size by have := R6.out.lt; omega)
              have hlen6 := hid (show O.length + [(bs x1, x2)].length ≤ 100000000 by simp; have := HSZ.out; omega)
              clear R2 B2 Q2
              go_upto_region 8 with (at_builtin; refine kdRK.appL _ rfl (.tmp 40) (.tmp 42) rfl rfl O6.out (ys := [(bs x1, x2)]) (c := 1) rfl S6.out hlen6.out hz6.out ?_; intro A9 c9 w9 ho9 hg9; have O9 := hid ho9; have G9 := hid hg9; clear ho9 hg9)
              have R9 := hid (show Rr w9 b t2.1 t2.2 from Blk.grown R6.out G9.out (fun e => by have := (own_blk O6.out b e.symm).1; omega))
              have B9 := hid (B6.out.grown G9.out B6.out.size (fun q e => by have := (own_blk O6.out q e).1; have := HBb.out; omega))

              clear R6 B6 O6 S6 G9 b6 hz6 hlen6 x0c x1c xz X
              go_wp2_with fail
              go_roundw
              case rel =>
                refine ⟨j + 1, m, O ++ [(bs x1, x2)], t2, by omega, by go_num, O9.out, ?_, R9.out, KT.out, by simp; have := HSZ.out; omega, ?_, B9.out⟩
                · intro x hx
                  rcases List.mem_append.1 hx with h | h
                  · exact HOK.out x h
                  · rw [List.mem_singleton.1 h]; exact HXR.out
                · show rWhile rKd m1 s1 = _
                  rw [hrm.out, rWhile_go rKd m st HNIL.out, hfx.out]; try simp

              case measure => simp [intOf]; omega
          case pos =>
            as_aux_lemma =>
              have hln : ¬ (0 : Int) < (st.1.length : Int) := by rw [hnil]; simp
              have hfin := hid (show rWhile rKd m1 s1 = (O, st) by rw [hrm.out, rWhile_nil _ _ _ hnil]; simp)
              have hsz0 := hid hsz
              clear hnil hrm hsz
              go_wp2_with fail
              refine (leftR_any b st.1 st.2 wr HR.out).mono ?_
              rintro e wl ⟨rfl, hBl⟩
              have BE := hid (HB.out.trans (hBl.mono HB.out.size))
              have RE := hid (show Rr wl b st.1 st.2 from Blk.below HR.out hBl HR.out.lt)
              have OE := hid (HO.out.below hBl)

              clear hBl HR HB HO
              go_wp2_with fail
              go_meet
              exact ⟨O, st, OE.out, HOK.out, RE.out, HST.out, hsz0.out, hfin.out, BE.out⟩
        case inl =>
          as_aux_lemma =>
            subst hm0
            have hpos : ¬ (j : Int) < (m1 : Int) := by omega
            have hfin := hid (show rWhile rKd m1 s1 = (O, st) by rw [hrm.out]; simp [rWhile])
            have hsz0 := hid hsz
            clear hrm hsz
            go_wp2_with fail
            go_meet
            exact ⟨O, st, HO.out, HOK.out, HR.out, HST.out, hsz0.out, hfin.out, HB.out⟩
  case rest =>
    clear R1 B1 Z1 
    obtain ⟨L1, p1, hO, hOK, hRd, hst, hsz, hrm, hB⟩ := hcut
    obtain ⟨A1, ca1, rfl⟩ := hO.form
    have O1 := hid hO
    have OK1 := hid hOK
    have R2 := hid hRd
    have K2 := hid hst
    have W1 := hrm
    have B2 := hid hB
    have M1 := hid (show L1.length ≤ 90000 by omega)
    have Z2 : p1.1.length ≤ 90000 := by omega


    clear hO hOK hRd hst hsz hrm hB  
    generalize wc = wk1 at *
    obtain ⟨n3_, s3, hr3⟩ : ∃ n s, rN p1 = (n, s) := ⟨_, _, rfl⟩
    have c3 := rrNum_f p1 (by omega) b
    have hn3 := rN_bd p1
    have hl3 := rN_le p1
    have hk3 := rN_ok K2.out
    rw [hr3] at c3 hn3 hl3 hk3
    have Hr3 := hid hr3
    simp only at c3 hn3 hl3 hk3
    obtain ⟨m2, rfl⟩ := Int.eq_ofNat_of_zero_le hn3.1
    have C3 := hid c3
    have K3 := hid hk3
    have Z3 : s3.1.length ≤ 90000 := by omega
    have N3 := hid (show m2 ≤ 9223372036854775807 by have := hn3.2.2; omega)
    clear c3 hn3 hl3 hk3 hr3 Z2 K2
    go_wp2_with fail
    refine (C3.out wk1 R2.out).mono ?_
    rintro e w3n ⟨rfl, hR, hg⟩
    have B3 := hid (bg B2.out hg HBb.out)
    have R3 := hid hR
    replace O1 := hid (O1.out.reader hg)
    clear hR hg C3 B2 R2
    go_upto_block 2 with fail
    go_cut [8] (fun ov wx => ∃ (O : List P3) (st : RS), ltRK.Own wx (b + 1) ov (O.map toLt) ∧ (∀ x ∈ O, P3I x) ∧ Rr wx b st.1 st.2 ∧ RSok st ∧ O.length + st.1.length ≤ 90000 ∧ Hid (rWhile r3 m2 s3 = (O, st)) ∧ Below w.heap.size w wx ∧ Hid (O.all fzOK = true) ∧ kdRK.Own wx (b + 1) (Value.slice A1 L1.length ca1) L1)
    case first =>
      as_aux_lemma =>
        go_wp2_with fail
        go_loopw [8, 14] (fun ov i wr => ∃ (j m : Nat) (O : List P3) (st : RS), j + m = m2 ∧ i = .int .i64 j ∧ ltRK.Own wr (b + 1) ov (O.map toLt) ∧ (∀ x ∈ O, P3I x) ∧ Rr wr b st.1 st.2 ∧ RSok st ∧ O.length + st.1.length ≤ 90000 ∧ Hid (rWhile r3 m2 s3 = (O ++ (rWhile r3 m st).1, (rWhile r3 m st).2)) ∧ Below w.heap.size w wr ∧ Hid (O.all fzOK = true) ∧ kdRK.Own wr (b + 1) (Value.slice A1 L1.length ca1) L1) (fun _ i _ => m2 - (intOf i).toNat)
        case atStart => exact ⟨0, m2, [], s3, by omega, rfl, RK.Own.nil, by simp, R3.out, K3.out, by simpa using Z3, by simp [Hid], B3.out, by simp [Hid], O1.out⟩
        case round =>
          clear R3 B3 Z3 O1
          obtain ⟨j, m, O, st, hjm, rfl, hO, hOK, hRd, hst, hsz, hrm, hB, hex, h1⟩ := hrel
          have HO := hid hO
          have HOK := hid hOK
          have HR := hid hRd
          have HB := hid hB
          have HST := hid hst
          have HEX := hex
          have O1 := hid h1
          clear hO hOK hRd hB hst hex h1
          rcases Nat.eq_zero_or_pos m with hm0 | hm0
          case inr =>
            obtain ⟨m, rfl⟩ : ∃ k, m = k + 1 := ⟨m - 1, by omega⟩
            have hpos : (j : Int) < (m2 : Int) := by omega
            have hm1 : m2 ≤ 9223372036854775807 := N3.out
            clear hm0
            by_cases hnil : st.1 = []
            case neg =>
              as_aux_lemma =>
                have hln : (0 : Int) < (st.1.length : Int) := by have := List.length_pos_iff.2 hnil; omega
                have hsz0 := hid hsz
                have HNIL := hid hnil
                clear hsz hnil
                go_wp2_with fail
                refine (leftR_any b st.1 st.2 wr HR.out).mono ?_
                rintro e w0 ⟨rfl, hBl⟩
                have B0 := hid (HB.out.trans (hBl.mono HB.out.size))
                have R0 := hid (show Rr w0 b st.1 st.2 from Blk.below HR.out hBl HR.out.lt)
                have Q0 := hid (HO.out.below hBl)
                replace O1 := hid (O1.out.below hBl)
                clear hBl HR HB HO
                obtain ⟨x1, t1, e1⟩ : ∃ x s', rI st = (x, s') := ⟨_, _, rfl⟩
                obtain ⟨x2, t2, e2⟩ : ∃ x s', rI t1 = (x, s') := ⟨_, _, rfl⟩
                obtain ⟨x3, t3, e3⟩ : ∃ x s', rI t2 = (x, s') := ⟨_, _, rfl⟩
                have hL0 : st.1.length ≤ 90000 := by have := hsz0.out; omega
                have g1 := rI_lt st HNIL.out
                have k1 := rI_ok HST.out
                have i1 := rI_bd st
                have c1 := rrInt_f st (by omega) b
                rw [e1] at g1 k1 i1 c1
                simp only at g1 k1 i1 c1
                have l2 := rI_le t1
                have i2 := rI_bd t1
                have k2 := rI_ok k1
                have c2 := rrInt_f t1 (by omega) b
                rw [e2] at l2 i2 k2 c2
                simp only at l2 i2 k2 c2
                have l3 := rI_le t2
                have i3 := rI_bd t2
                have k3 := rI_ok k2
                have c3 := rrInt_f t2 (by omega) b
                rw [e3] at l3 i3 k3 c3
                simp only at l3 i3 k3 c3
                have hfx := hid (show r3 st = ((x1, x2, x3), t3) by unfold r3; rw [e1]; simp only [e2, e3])
                have HXR := hid (show P3I (x1, x2, x3) from ⟨i1, i2, i3⟩)
                have HSZ := hid (show O.length + 1 + t3.1.length ≤ 90000 by have := hsz0.out; omega)
                have KT := hid k3
                have C1 := hid c1; have C2 := hid c2; have C3 := hid c3
                clear c1 c2 c3 g1 k1 i1 l2 i2 k2 l3 i3 k3 e1 e2 e3 hL0
                go_wp2_with fail
                refine (C1.out w0 R0.out).mono ?_
                rintro e w1 ⟨rfl, hR, hg⟩
                have B1 := hid (bg B0.out hg HBb.out)
                have R1 := hid hR
                have Q1 := hid (Q0.out.reader hg)
                replace O1 := hid (O1.out.reader hg)
                clear hR hg C1 B0 R0 Q0
                obtain ⟨wa, hwa⟩ : ∃ wa, wa = w1.alloc (Obj.cells #[.int .i64 x1, .int .i64 0, .bool false] 40) := ⟨_, rfl⟩
                obtain ⟨g, hgq⟩ : ∃ g, g = w1.heap.size := ⟨_, rfl⟩
                have bx := hid (show Below w1.heap.size w1 wa by rw [hwa]; exact (Below.refl w1.heap.size w1).alloc (Nat.le_refl _) _)
                have X := hid (show Blk wa g 40 #[.int .i64 x1, .int .i64 0, .bool false] by rw [hwa, hgq]; exact Blk.new w1 _ _)
                have hbg := hid (show b < g by rw [hgq]; exact R1.out.lt)
                have HQG := hid (fun q (e : _ = some q) => show q < g by rw [hgq]; obtain ⟨_, cs, hb⟩ := own_blk Q1.out q e; exact hb.lt)
                have HOG1 := hid (fun p (e : (Value.slice A1 L1.length ca1).ownBlock = some p) => show p < g by rw [hgq]; obtain ⟨_, cs, hb⟩ := own_blk O1.out p e; exact hb.lt)
                have hwg := hid (show w.heap.size ≤ g by rw [hgq]; exact B1.out.size)
                replace B1 := hid (B1.out.trans (bx.out.mono B1.out.size))
                replace R1 := hid (show Rr wa b t1.1 t1.2 from Blk.below R1.out bx.out R1.out.lt)
                replace Q1 := hid (Q1.out.below bx.out)
                replace O1 := hid (O1.out.below bx.out)
                go_upto_region 17 with fail
                rw [← hwa, ← hgq]
                clear hwa hgq bx
                go_wp2_with fail
                refine (C2.out wa R1.out).mono ?_
                rintro e w2 ⟨rfl, hR, hg⟩
                have B2 := hid (bg B1.out hg HBb.out)
                have R2 := hid hR
                have Q2 := hid (Q1.out.reader hg)
                replace O1 := hid (O1.out.reader hg)
                replace X := hid (Blk.grown X.out hg (fun e => by injection e with e; have := hbg.out; omega))
                clear hR hg C2 B1 R1 Q1
                have xz := X.out.lt; have xf := X.out.frozen 1; have xc := X.out.cell 1
                simp at xc
                have Xs := hid (X.out.set_ 1 (.int .i64 x2))
                have Bs := hid (B2.out.setCell (p := ⟨g, 1, none⟩) hwg.out (.int .i64 x2))
                have Rs := hid (show Rr (w2.setCell ⟨g, 1, none⟩ (.int .i64 x2)) b t2.1 t2.2 from Blk.far R2.out (fun e => by have := hbg.out; simp only at e; omega) _)
                have Qs := hid (show ltRK.Own (w2.setCell ⟨g, 1, none⟩ (.int .i64 x2)) (b + 1) _ _ from own_kept Q2.out (fun p cs hv hb => hb.far (fun e => by have := HQG.out p hv; simp only at e; omega) _))
                have O1s := hid (show kdRK.Own (w2.setCell ⟨g, 1, none⟩ (.int .i64 x2)) (b + 1) (Value.slice A1 L1.length ca1) L1 from own_kept O1.out (fun p cs hv hb => hb.far (fun e => by have := HOG1.out p hv; simp only at e; omega) _))
                go_upto_region 18 with fail
                clear xz xf xc X B2 R2 Q2
                clear O1
                have O1 := O1s
                clear O1s
                have X := Xs; have B2 := Bs; have R2 := Rs; have Q2 := Qs
                clear Xs Bs Rs Qs
                generalize (w2.setCell ⟨g, 1, none⟩ (.int .i64 x2)) = w2' at *
                simp only [List.setIfInBounds_toArray, List.set_cons_zero, List.set_cons_succ] at X
                go_wp2_with fail
                refine (C3.out w2' R2.out).mono ?_
                rintro e w3 ⟨rfl, hR, hg⟩
                have B3 := hid (bg B2.out hg HBb.out)
                have R3 := hid hR
                have Q3 := hid (Q2.out.reader hg)
                replace O1 := hid (O1.out.reader hg)
                replace X := hid (Blk.grown X.out hg (fun e => by injection e with e; have := hbg.out; omega))
                clear hR hg C3 B2 R2 Q2
                by_cases hx3 : x3 = 1
                case pos =>
                  subst hx3
                  have HX := hid (show ltRK.ok (toLt (x1, x2, 1)) from ⟨HXR.out.1, HXR.out.2.1⟩)
                  have xz := X.out.lt; have xf := X.out.frozen 2; have xc := X.out.cell 2
                  simp at xc
                  have Xs := hid (X.out.set_ 2 (.bool true))
                  have Bs := hid (B3.out.setCell (p := ⟨g, 2, none⟩) hwg.out (.bool true))
                  have Rs := hid (show Rr (w3.setCell ⟨g, 2, none⟩ (.bool true)) b t3.1 t3.2 from Blk.far R3.out (fun e => by have := hbg.out; simp only at e; omega) _)
                  have Qs := hid (show ltRK.Own (w3.setCell ⟨g, 2, none⟩ (.bool true)) (b + 1) _ _ from own_kept Q3.out (fun p cs hv hb => hb.far (fun e => by have := HQG.out p hv; simp only at e; omega) _))
                  have O1s := hid (show kdRK.Own (w3.setCell ⟨g, 2, none⟩ (.bool true)) (b + 1) (Value.slice A1 L1.length ca1) L1 from own_kept O1.out (fun p cs hv hb => hb.far (fun e => by have := HOG1.out p hv; simp only at e; omega) _))
                  go_upto_region 22 with fail
                  clear xz xf xc X B3 R3 Q3
                  clear O1
                  have O1 := O1s
                  clear O1s
                  have X := Xs; have B3 := Bs; have R3 := Rs; have Q3 := Qs
                  clear Xs Bs Rs Qs
                  generalize (w3.setCell ⟨g, 2, none⟩ (.bool true)) = w3' at *
                  simp only [List.setIfInBounds_toArray, List.set_cons_zero, List.set_cons_succ] at X
                  have x0c := X.out.cell 0; have x1c := X.out.cell 1; have x2c := X.out.cell 2; have xz := X.out.lt
                  simp at x0c x1c x2c
                  have b6 := hid (show Below w3'.heap.size w3' (w3'.alloc (Obj.cells #[.int .i64 x1, .int .i64 x2, .bool true] 40)) by (repeat (first | exact Below.refl _ _ | assumption | refine below_drewN ?_ _ | refine Below.drew ?_ | refine Below.alloc ?_ (by (try simp); (try omega)) _ | refine Below.setCell ?_ (by (try simp); (try omega)) _)))
                  have O6 := hid (show ltRK.Own (w3'.alloc (Obj.cells #[.int .i64 x1, .int .i64 x2, .bool true] 40)) (b + 1) _ (O.map toLt) from Q3.out.below b6.out)
                  have S6 := hid (show SlR (w3'.alloc (Obj.cells #[.int .i64 x1, .int .i64 x2, .bool true] 40)) (w3'.alloc (Obj.cells #[.int .i64 x1, .int .i64 x2, .bool true] 40)).heap.size (some ⟨w3'.heap.size, 0, none⟩) [toLt (x1, x2, 1)] from ltRK.blk (show Blk _ w3'.heap.size ltRK.e (ltRK.all [toLt (x1, x2, 1)]).toArray from Blk.new w3' _ _) (by intro x hx; rw [List.mem_singleton.1 hx]; exact HX.out))
                  have B6 := hid (B3.out.trans (b6.out.mono B3.out.size))
                  have R6 := hid (show Rr (w3'.alloc (Obj.cells #[.int .i64 x1, .int .i64 x2, .bool true] 40)) b t3.1 t3.2 from Blk.alloc R3.out _)
                  replace O1 := hid (O1.out.below b6.out)
                  have hz6 := hid (show b + 1 ≤ (w3'.alloc (Obj.cells #[.int .i64 x1, .int .i64 x2, .bool true] 40)).heap.size by have := R6.out.lt; omega)
                  have hlen6 := hid (show (O.map toLt).length + [toLt (x1, x2, 1)].length ≤ 100000000 by simp; have := HSZ.out; omega)
                  clear R3 B3 Q3
                  go_upto_region 15 with (at_builtin; refine ltRK.appL _ rfl (.tmp 73) (.tmp 75) rfl rfl O6.out (ys := [toLt (x1, x2, 1)]) (c := 1) rfl S6.out hlen6.out hz6.out ?_; intro A9 c9 w9 ho9 hg9; have O9 := hid ho9; have G9 := hid hg9; clear ho9 hg9)
                  have R9 := hid (show Rr w9 b t3.1 t3.2 from Blk.grown R6.out G9.out (fun e => by have := (own_blk O6.out b e.symm).1; omega))
                  have B9 := hid (B6.out.grown G9.out B6.out.size (fun q e => by have := (own_blk O6.out q e).1; have := HBb.out; omega))
                  replace O1 := hid (O1.out.other O6.out (by decide) G9.out)
                  clear R6 B6 O6 S6 G9 b6 hz6 hlen6 x0c x1c x2c xz X
                  go_wp2_with fail
                  go_roundw
                  case rel =>
                    refine ⟨j + 1, m, O ++ [(x1, x2, 1)], t3, by omega, by go_num, by have h9 := O9.out; rw [List.length_map] at h9; rw [List.map_append]; exact h9, ?_, R9.out, KT.out, by simp; have := HSZ.out; omega, ?_, B9.out, ?_, O1.out⟩
                    · intro x hx
                      rcases List.mem_append.1 hx with h | h
                      · exact HOK.out x h
                      · rw [List.mem_singleton.1 h]; exact HXR.out
                    · show rWhile r3 m2 s3 = _
                      rw [hrm.out, rWhile_go r3 m st HNIL.out, hfx.out]; try simp
                    · show (O ++ [(x1, x2, 1)]).all fzOK = true
                      rw [List.all_append, HEX.out]; rfl
                  case measure => simp [intOf]; omega
                case neg =>
                  have hx31 := hx3
                  clear hx3
                  by_cases hx3 : x3 = 0
                  case pos =>
                    clear hx31
                    subst hx3
                    have HX := hid (show ltRK.ok (toLt (x1, x2, 0)) from ⟨HXR.out.1, HXR.out.2.1⟩)
                    have xz := X.out.lt; have xf := X.out.frozen 2; have xc := X.out.cell 2
                    simp at xc
                    have Xs := hid (X.out.set_ 2 (.bool false))
                    have Bs := hid (B3.out.setCell (p := ⟨g, 2, none⟩) hwg.out (.bool false))
                    have Rs := hid (show Rr (w3.setCell ⟨g, 2, none⟩ (.bool false)) b t3.1 t3.2 from Blk.far R3.out (fun e => by have := hbg.out; simp only at e; omega) _)
                    have Qs := hid (show ltRK.Own (w3.setCell ⟨g, 2, none⟩ (.bool false)) (b + 1) _ _ from own_kept Q3.out (fun p cs hv hb => hb.far (fun e => by have := HQG.out p hv; simp only at e; omega) _))
                    have O1s := hid (show kdRK.Own (w3.setCell ⟨g, 2, none⟩ (.bool false)) (b + 1) (Value.slice A1 L1.length ca1) L1 from own_kept O1.out (fun p cs hv hb => hb.far (fun e => by have := HOG1.out p hv; simp only at e; omega) _))
                    go_upto_region 22 with fail
                    clear xz xf xc X B3 R3 Q3
                    clear O1
                    have O1 := O1s
                    clear O1s
                    have X := Xs; have B3 := Bs; have R3 := Rs; have Q3 := Qs
                    clear Xs Bs Rs Qs
                    generalize (w3.setCell ⟨g, 2, none⟩ (.bool false)) = w3' at *
                    simp only [List.setIfInBounds_toArray, List.set_cons_zero, List.set_cons_succ] at X
                    have x0c := X.out.cell 0; have x1c := X.out.cell 1; have x2c := X.out.cell 2; have xz := X.out.lt
                    simp at x0c x1c x2c
                    have b6 := hid (show Below w3'.heap.size w3' (w3'.alloc (Obj.cells #[.int .i64 x1, .int .i64 x2, .bool false] 40)) by (repeat (first | exact Below.refl _ _ | assumption | refine below_drewN ?_ _ | refine Below.drew ?_ | refine Below.alloc ?_ (by (try simp); (try omega)) _ | refine Below.setCell ?_ (by (try simp); (try omega)) _)))
                    have O6 := hid (show ltRK.Own (w3'.alloc (Obj.cells #[.int .i64 x1, .int .i64 x2, .bool false] 40)) (b + 1) _ (O.map toLt) from Q3.out.below b6.out)
                    have S6 := hid (show SlR (w3'.alloc (Obj.cells #[.int .i64 x1, .int .i64 x2, .bool false] 40)) (w3'.alloc (Obj.cells #[.int .i64 x1, .int .i64 x2, .bool false] 40)).heap.size (some ⟨w3'.heap.size, 0, none⟩) [toLt (x1, x2, 0)] from ltRK.blk (show Blk _ w3'.heap.size ltRK.e (ltRK.all [toLt (x1, x2, 0)]).toArray from Blk.new w3' _ _) (by intro x hx; rw [List.mem_singleton.1 hx]; exact HX.out))
                    have B6 := hid (B3.out.trans (b6.out.mono B3.out.size))
                    have R6 := hid (show Rr (w3'.alloc (Obj.cells #[.int .i64 x1, .int .i64 x2, .bool false] 40)) b t3.1 t3.2 from Blk.alloc R3.out _)
                    replace O1 := hid (O1.out.below b6.out)
                    have hz6 := hid (show b + 1 ≤ (w3'.alloc (Obj.cells #[.int .i64 x1, .int .i64 x2, .bool false] 40)).heap.size by have := R6.out.lt; omega)
                    have hlen6 := hid (show (O.map toLt).length + [toLt (x1, x2, 0)].length ≤ 100000000 by simp; have := HSZ.out; omega)
                    clear R3 B3 Q3
                    go_upto_region 15 with (at_builtin; refine ltRK.appL _ rfl (.tmp 73) (.tmp 75) rfl rfl O6.out (ys := [toLt (x1, x2, 0)]) (c := 1) rfl S6.out hlen6.out hz6.out ?_; intro A9 c9 w9 ho9 hg9; have O9 := hid ho9; have G9 := hid hg9; clear ho9 hg9)
                    have R9 := hid (show Rr w9 b t3.1 t3.2 from Blk.grown R6.out G9.out (fun e => by have := (own_blk O6.out b e.symm).1; omega))
                    have B9 := hid (B6.out.grown G9.out B6.out.size (fun q e => by have := (own_blk O6.out q e).1; have := HBb.out; omega))
                    replace O1 := hid (O1.out.other O6.out (by decide) G9.out)
                    clear R6 B6 O6 S6 G9 b6 hz6 hlen6 x0c x1c x2c xz X
                    go_wp2_with fail
                    go_roundw
                    case rel =>
                      refine ⟨j + 1, m, O ++ [(x1, x2, 0)], t3, by omega, by go_num, by have h9 := O9.out; rw [List.length_map] at h9; rw [List.map_append]; exact h9, ?_, R9.out, KT.out, by simp; have := HSZ.out; omega, ?_, B9.out, ?_, O1.out⟩
                      · intro x hx
                        rcases List.mem_append.1 hx with h | h
                        · exact HOK.out x h
                        · rw [List.mem_singleton.1 h]; exact HXR.out
                      · show rWhile r3 m2 s3 = _
                        rw [hrm.out, rWhile_go r3 m st HNIL.out, hfx.out]; try simp
                      · show (O ++ [(x1, x2, 0)]).all fzOK = true
                        rw [List.all_append, HEX.out]; rfl
                    case measure => simp [intOf]; omega
                  case neg =>
                    have hx30 := hx3
                    clear hx3
                    have hnone := hid (show refStk s.data.toList = none by
                      have hb : (rB s.data.toList).1 = O ++ (x1, x2, x3) :: (rWhile r3 m t3).1 := by
                        unfold rB rA
                        rw [← HS0.out, Hr1.out]
                        simp only [Int.toNat_natCast, W1.out, Hr3.out]
                        rw [hrm.out, rWhile_go r3 m st HNIL.out, hfx.out]
                      unfold refStk
                      rw [if_neg]
                      rintro ⟨h, _⟩
                      rw [hb, List.all_append, List.all_cons] at h
                      have : fzOK (x1, x2, x3) = false := by simp [fzOK, hx30, hx31]
                      rw [this] at h
                      simp at h)
                    have e0 : (x3 == 0) = false := by simp [hx30]
                    have e1 : (x3 == 1) = false := by simp [hx31]
                    have e2 : (x3 != 0) = true := by simp [hx30]
                    have e3 : (x3 != 1) = true := by simp [hx31]
                    go_wp2_with fail
                    refine bodyPost_ret (v := .tuple #[.slice none 0 0, .slice none 0 0, .slice none 0 0, .bool false]) (by simp [results, Tryz.results7, go_sem]) rfl ?_
                    rw [hnone.out]
                    exact ⟨rfl, B3.out⟩
            case pos =>
              as_aux_lemma =>
                have hln : ¬ (0 : Int) < (st.1.length : Int) := by rw [hnil]; simp
                have hfin := hid (show rWhile r3 m2 s3 = (O, st) by rw [hrm.out, rWhile_nil _ _ _ hnil]; simp)
                have hsz0 := hid hsz
                clear hnil hrm hsz
                go_wp2_with fail
                refine (leftR_any b st.1 st.2 wr HR.out).mono ?_
                rintro e wl ⟨rfl, hBl⟩
                have BE := hid (HB.out.trans (hBl.mono HB.out.size))
                have RE := hid (show Rr wl b st.1 st.2 from Blk.below HR.out hBl HR.out.lt)
                have OE := hid (HO.out.below hBl)
                replace O1 := hid (O1.out.below hBl)
                clear hBl HR HB HO
                go_wp2_with fail
                go_meet
                exact ⟨O, st, OE.out, HOK.out, RE.out, HST.out, hsz0.out, hfin.out, BE.out, HEX, O1.out⟩
          case inl =>
            as_aux_lemma =>
              subst hm0
              have hpos : ¬ (j : Int) < (m2 : Int) := by omega
              have hfin := hid (show rWhile r3 m2 s3 = (O, st) by rw [hrm.out]; simp [rWhile])
              have hsz0 := hid hsz
              clear hrm hsz
              go_wp2_with fail
              go_meet
              exact ⟨O, st, HO.out, HOK.out, HR.out, HST.out, hsz0.out, hfin.out, HB.out, HEX, O1.out⟩
    case rest =>
      clear R3 B3 Z3 O1
      obtain ⟨L2, p2, hO, hOK, hRd, hst, hsz, hrm, hB, hex, h1⟩ := hcut
      obtain ⟨A2, ca2, rfl⟩ := hO.form
      have O2 := hid hO
      have OK2 := hid hOK
      have R4 := hid hRd
      have K4 := hid hst
      have W2 := hrm
      have B4 := hid hB
      have M2 := hid (show L2.length ≤ 90000 by omega)
      have Z4 : p2.1.length ≤ 90000 := by omega
      have EX := hex
      have O1 := hid h1
      clear hO hOK hRd hst hsz hrm hB hex h1
      generalize wc = wk2 at *
      obtain ⟨n5_, s5, hr5⟩ : ∃ n s, rN p2 = (n, s) := ⟨_, _, rfl⟩
      have c5 := rrNum_f p2 (by omega) b
      have hn5 := rN_bd p2
      have hl5 := rN_le p2
      have hk5 := rN_ok K4.out
      rw [hr5] at c5 hn5 hl5 hk5
      have Hr5 := hid hr5
      simp only at c5 hn5 hl5 hk5
      obtain ⟨m3, rfl⟩ := Int.eq_ofNat_of_zero_le hn5.1
      have C5 := hid c5
      have K5 := hid hk5
      have Z5 : s5.1.length ≤ 90000 := by omega
      have N5 := hid (show m3 ≤ 9223372036854775807 by have := hn5.2.2; omega)
      clear c5 hn5 hl5 hk5 hr5 Z4 K4
      go_wp2_with fail
      refine (C5.out wk2 R4.out).mono ?_
      rintro e w5n ⟨rfl, hR, hg⟩
      have B5 := hid (bg B4.out hg HBb.out)
      have R5 := hid hR
      replace O1 := hid (O1.out.reader hg)
      replace O2 := hid (O2.out.reader hg)
      clear hR hg C5 B4 R4
      go_upto_block 4 with fail
      go_cut [9] (fun ov wx => ∃ (O : List Bx) (st : RS), bxRK.Own wx (b + 1) ov O ∧ (∀ x ∈ O, bxRK.ok x) ∧ Rr wx b st.1 st.2 ∧ RSok st ∧ O.length + st.1.length ≤ 90000 ∧ Hid (rWhile r3 m3 s5 = (O, st)) ∧ Below w.heap.size w wx ∧ kdRK.Own wx (b + 1) (Value.slice A1 L1.length ca1) L1 ∧ ltRK.Own wx (b + 1) (Value.slice A2 (L2.map toLt).length ca2) (L2.map toLt))
      case first =>
        as_aux_lemma =>
          go_wp2_with fail
          go_loopw [9, 18] (fun ov i wr => ∃ (j m : Nat) (O : List Bx) (st : RS), j + m = m3 ∧ i = .int .i64 j ∧ bxRK.Own wr (b + 1) ov O ∧ (∀ x ∈ O, bxRK.ok x) ∧ Rr wr b st.1 st.2 ∧ RSok st ∧ O.length + st.1.length ≤ 90000 ∧ Hid (rWhile r3 m3 s5 = (O ++ (rWhile r3 m st).1, (rWhile r3 m st).2)) ∧ Below w.heap.size w wr ∧ kdRK.Own wr (b + 1) (Value.slice A1 L1.length ca1) L1 ∧ ltRK.Own wr (b + 1) (Value.slice A2 (L2.map toLt).length ca2) (L2.map toLt)) (fun _ i _ => m3 - (intOf i).toNat)
          case atStart => exact ⟨0, m3, [], s5, by omega, rfl, RK.Own.nil, by simp, R5.out, K5.out, by simpa using Z5, by simp [Hid], B5.out, O1.out, O2.out⟩
          case round =>
            clear R5 B5 Z5 O1 O2
            obtain ⟨j, m, O, st, hjm, rfl, hO, hOK, hRd, hst, hsz, hrm, hB, h1, h2⟩ := hrel
            have HO := hid hO
            have HOK := hid hOK
            have HR := hid hRd
            have HB := hid hB
            have HST := hid hst
            skip
            have O1 := hid h1
            have O2 := hid h2
            clear hO hOK hRd hB hst  h1 h2
            rcases Nat.eq_zero_or_pos m with hm0 | hm0
            case inr =>
              obtain ⟨m, rfl⟩ : ∃ k, m = k + 1 := ⟨m - 1, by omega⟩
              have hpos : (j : Int) < (m3 : Int) := by omega
              have hm1 : m3 ≤ 9223372036854775807 := N5.out
              clear hm0
              by_cases hnil : st.1 = []
              case neg =>
                as_aux_lemma =>
                  have hln : (0 : Int) < (st.1.length : Int) := by have := List.length_pos_iff.2 hnil; omega
                  have hsz0 := hid hsz
                  have HNIL := hid hnil
                  clear hsz hnil
                  go_wp2_with fail
                  refine (leftR_any b st.1 st.2 wr HR.out).mono ?_
                  rintro e w0 ⟨rfl, hBl⟩
                  have B0 := hid (HB.out.trans (hBl.mono HB.out.size))
                  have R0 := hid (show Rr w0 b st.1 st.2 from Blk.below HR.out hBl HR.out.lt)
                  have Q0 := hid (HO.out.below hBl)
                  replace O1 := hid (O1.out.below hBl)
                  replace O2 := hid (O2.out.below hBl)
                  clear hBl HR HB HO
                  obtain ⟨x1, t1, e1⟩ : ∃ x s', rI st = (x, s') := ⟨_, _, rfl⟩
                  obtain ⟨x2, t2, e2⟩ : ∃ x s', rI t1 = (x, s') := ⟨_, _, rfl⟩
                  obtain ⟨x3, t3, e3⟩ : ∃ x s', rI t2 = (x, s') := ⟨_, _, rfl⟩
                  have hL0 : st.1.length ≤ 90000 := by have := hsz0.out; omega
                  have g1 := rI_lt st HNIL.out
                  have k1 := rI_ok HST.out
                  have i1 := rI_bd st
                  have c1 := rrInt_f st (by omega) b
                  rw [e1] at g1 k1 i1 c1
                  simp only at g1 k1 i1 c1
                  have l2 := rI_le t1
                  have i2 := rI_bd t1
                  have k2 := rI_ok k1
                  have c2 := rrInt_f t1 (by omega) b
                  rw [e2] at l2 i2 k2 c2
                  simp only at l2 i2 k2 c2
                  have l3 := rI_le t2
                  have i3 := rI_bd t2
                  have k3 := rI_ok k2
                  have c3 := rrInt_f t2 (by omega) b
                  rw [e3] at l3 i3 k3 c3
                  simp only at l3 i3 k3 c3
                  have hfx := hid (show r3 st = ((x1, x2, x3), t3) by unfold r3; rw [e1]; simp only [e2, e3])
                  have HXR := hid (show P3I (x1, x2, x3) from ⟨i1, i2, i3⟩)
                  have HSZ := hid (show O.length + 1 + t3.1.length ≤ 90000 by have := hsz0.out; omega)
                  have KT := hid k3
                  have C1 := hid c1; have C2 := hid c2; have C3 := hid c3
                  clear c1 c2 c3 g1 k1 i1 l2 i2 k2 l3 i3 k3 e1 e2 e3 hL0
                  go_wp2_with fail
                  refine (C1.out w0 R0.out).mono ?_
                  rintro e w1 ⟨rfl, hR, hg⟩
                  have B1 := hid (bg B0.out hg HBb.out)
                  have R1 := hid hR
                  have Q1 := hid (Q0.out.reader hg)
                  replace O1 := hid (O1.out.reader hg)
                  replace O2 := hid (O2.out.reader hg)
                  clear hR hg C1 B0 R0 Q0
                  obtain ⟨wa, hwa⟩ : ∃ wa, wa = w1.alloc (Obj.cells #[.int .i64 x1, .int .i64 0, .int .i64 0] 45) := ⟨_, rfl⟩
                  obtain ⟨g, hgq⟩ : ∃ g, g = w1.heap.size := ⟨_, rfl⟩
                  have bx := hid (show Below w1.heap.size w1 wa by rw [hwa]; exact (Below.refl w1.heap.size w1).alloc (Nat.le_refl _) _)
                  have X := hid (show Blk wa g 45 #[.int .i64 x1, .int .i64 0, .int .i64 0] by rw [hwa, hgq]; exact Blk.new w1 _ _)
                  have hbg := hid (show b < g by rw [hgq]; exact R1.out.lt)
                  have HQG := hid (fun q (e : _ = some q) => show q < g by rw [hgq]; obtain ⟨_, cs, hb⟩ := own_blk Q1.out q e; exact hb.lt)
                  have HOG1 := hid (fun p (e : (Value.slice A1 L1.length ca1).ownBlock = some p) => show p < g by rw [hgq]; obtain ⟨_, cs, hb⟩ := own_blk O1.out p e; exact hb.lt)
                  have HOG2 := hid (fun p (e : (Value.slice A2 (L2.map toLt).length ca2).ownBlock = some p) => show p < g by rw [hgq]; obtain ⟨_, cs, hb⟩ := own_blk O2.out p e; exact hb.lt)
                  have hwg := hid (show w.heap.size ≤ g by rw [hgq]; exact B1.out.size)
                  replace B1 := hid (B1.out.trans (bx.out.mono B1.out.size))
                  replace R1 := hid (show Rr wa b t1.1 t1.2 from Blk.below R1.out bx.out R1.out.lt)
                  replace Q1 := hid (Q1.out.below bx.out)
                  replace O1 := hid (O1.out.below bx.out)
                  replace O2 := hid (O2.out.below bx.out)
                  go_upto_region 28 with fail
                  rw [← hwa, ← hgq]
                  clear hwa hgq bx
                  go_wp2_with fail
                  refine (C2.out wa R1.out).mono ?_
                  rintro e w2 ⟨rfl, hR, hg⟩
                  have B2 := hid (bg B1.out hg HBb.out)
                  have R2 := hid hR
                  have Q2 := hid (Q1.out.reader hg)
                  replace O1 := hid (O1.out.reader hg)
                  replace O2 := hid (O2.out.reader hg)
                  replace X := hid (Blk.grown X.out hg (fun e => by injection e with e; have := hbg.out; omega))
                  clear hR hg C2 B1 R1 Q1
                  have xz := X.out.lt; have xf := X.out.frozen 1; have xc := X.out.cell 1
                  simp at xc
                  have Xs := hid (X.out.set_ 1 (.int .i64 x2))
                  have Bs := hid (B2.out.setCell (p := ⟨g, 1, none⟩) hwg.out (.int .i64 x2))
                  have Rs := hid (show Rr (w2.setCell ⟨g, 1, none⟩ (.int .i64 x2)) b t2.1 t2.2 from Blk.far R2.out (fun e => by have := hbg.out; simp only at e; omega) _)
                  have Qs := hid (show bxRK.Own (w2.setCell ⟨g, 1, none⟩ (.int .i64 x2)) (b + 1) _ _ from own_kept Q2.out (fun p cs hv hb => hb.far (fun e => by have := HQG.out p hv; simp only at e; omega) _))
                  have O1s := hid (show kdRK.Own (w2.setCell ⟨g, 1, none⟩ (.int .i64 x2)) (b + 1) (Value.slice A1 L1.length ca1) L1 from own_kept O1.out (fun p cs hv hb => hb.far (fun e => by have := HOG1.out p hv; simp only at e; omega) _))
                  have O2s := hid (show ltRK.Own (w2.setCell ⟨g, 1, none⟩ (.int .i64 x2)) (b + 1) (Value.slice A2 (L2.map toLt).length ca2) (L2.map toLt) from own_kept O2.out (fun p cs hv hb => hb.far (fun e => by have := HOG2.out p hv; simp only at e; omega) _))
                  go_upto_region 29 with fail
                  clear xz xf xc X B2 R2 Q2
                  clear O1
                  have O1 := O1s
                  clear O1s
                  clear O2
                  have O2 := O2s
                  clear O2s
                  have X := Xs; have B2 := Bs; have R2 := Rs; have Q2 := Qs
                  clear Xs Bs Rs Qs
                  generalize (w2.setCell ⟨g, 1, none⟩ (.int .i64 x2)) = w2' at *
                  simp only [List.setIfInBounds_toArray, List.set_cons_zero, List.set_cons_succ] at X
                  go_wp2_with fail
                  refine (C3.out w2' R2.out).mono ?_
                  rintro e w3 ⟨rfl, hR, hg⟩
                  have B3 := hid (bg B2.out hg HBb.out)
                  have R3 := hid hR
                  have Q3 := hid (Q2.out.reader hg)
                  replace O1 := hid (O1.out.reader hg)
                  replace O2 := hid (O2.out.reader hg)
                  replace X := hid (Blk.grown X.out hg (fun e => by injection e with e; have := hbg.out; omega))
                  clear hR hg C3 B2 R2 Q2
                  have xz := X.out.lt; have xf := X.out.frozen 2; have xc := X.out.cell 2
                  simp at xc
                  have Xs := hid (X.out.set_ 2 (.int .i64 x3))
                  have Bs := hid (B3.out.setCell (p := ⟨g, 2, none⟩) hwg.out (.int .i64 x3))
                  have Rs := hid (show Rr (w3.setCell ⟨g, 2, none⟩ (.int .i64 x3)) b t3.1 t3.2 from Blk.far R3.out (fun e => by have := hbg.out; simp only at e; omega) _)
                  have Qs := hid (show bxRK.Own (w3.setCell ⟨g, 2, none⟩ (.int .i64 x3)) (b + 1) _ _ from own_kept Q3.out (fun p cs hv hb => hb.far (fun e => by have := HQG.out p hv; simp only at e; omega) _))
                  have O1s := hid (show kdRK.Own (w3.setCell ⟨g, 2, none⟩ (.int .i64 x3)) (b + 1) (Value.slice A1 L1.length ca1) L1 from own_kept O1.out (fun p cs hv hb => hb.far (fun e => by have := HOG1.out p hv; simp only at e; omega) _))
                  have O2s := hid (show ltRK.Own (w3.setCell ⟨g, 2, none⟩ (.int .i64 x3)) (b + 1) (Value.slice A2 (L2.map toLt).length ca2) (L2.map toLt) from own_kept O2.out (fun p cs hv hb => hb.far (fun e => by have := HOG2.out p hv; simp only at e; omega) _))
                  go_upto_region 30 with fail
                  clear xz xf xc X B3 R3 Q3
                  clear O1
                  have O1 := O1s
                  clear O1s
                  clear O2
                  have O2 := O2s
                  clear O2s
                  have X := Xs; have B3 := Bs; have R3 := Rs; have Q3 := Qs
                  clear Xs Bs Rs Qs
                  generalize (w3.setCell ⟨g, 2, none⟩ (.int .i64 x3)) = w3' at *
                  simp only [List.setIfInBounds_toArray, List.set_cons_zero, List.set_cons_succ] at X
                  have HX := hid (show bxRK.ok (x1, x2, x3) from HXR.out)
                  have x0c := X.out.cell 0; have x1c := X.out.cell 1; have x2c := X.out.cell 2; have xz := X.out.lt
                  simp at x0c x1c x2c
                  have b6 := hid (show Below w3'.heap.size w3' (w3'.alloc (Obj.cells #[.int .i64 x1, .int .i64 x2, .int .i64 x3] 45)) by (repeat (first | exact Below.refl _ _ | assumption | refine below_drewN ?_ _ | refine Below.drew ?_ | refine Below.alloc ?_ (by (try simp); (try omega)) _ | refine Below.setCell ?_ (by (try simp); (try omega)) _)))
                  have O6 := hid (show bxRK.Own (w3'.alloc (Obj.cells #[.int .i64 x1, .int .i64 x2, .int .i64 x3] 45)) (b + 1) _ O from Q3.out.below b6.out)
                  have S6 := hid (show SlR (w3'.alloc (Obj.cells #[.int .i64 x1, .int .i64 x2, .int .i64 x3] 45)) (w3'.alloc (Obj.cells #[.int .i64 x1, .int .i64 x2, .int .i64 x3] 45)).heap.size (some ⟨w3'.heap.size, 0, none⟩) [(x1, x2, x3)] from bxRK.blk (show Blk _ w3'.heap.size bxRK.e (bxRK.all [(x1, x2, x3)]).toArray from Blk.new w3' _ _) (by intro x hx; rw [List.mem_singleton.1 hx]; exact HX.out))
                  have B6 := hid (B3.out.trans (b6.out.mono B3.out.size))
                  have R6 := hid (show Rr (w3'.alloc (Obj.cells #[.int .i64 x1, .int .i64 x2, .int .i64 x3] 45)) b t3.1 t3.2 from Blk.alloc R3.out _)
                  replace O1 := hid (O1.out.below b6.out)
                  replace O2 := hid (O2.out.below b6.out)
                  have hz6 := hid (show b + 1 ≤ (w3'.alloc (Obj.cells #[.int .i64 x1, .int .i64 x2, .int .i64 x3] 45)).heap.size by have := R6.out.lt; omega)
                  have hlen6 := hid (show O.length + [(x1, x2, x3)].length ≤ 100000000 by simp; have := HSZ.out; omega)
                  clear R3 B3 Q3
                  go_upto_region 26 with (at_builtin; refine bxRK.appL _ rfl (.tmp 98) (.tmp 100) rfl rfl O6.out (ys := [(x1, x2, x3)]) (c := 1) rfl S6.out hlen6.out hz6.out ?_; intro A9 c9 w9 ho9 hg9; have O9 := hid ho9; have G9 := hid hg9; clear ho9 hg9)
                  have R9 := hid (show Rr w9 b t3.1 t3.2 from Blk.grown R6.out G9.out (fun e => by have := (own_blk O6.out b e.symm).1; omega))
                  have B9 := hid (B6.out.grown G9.out B6.out.size (fun q e => by have := (own_blk O6.out q e).1; have := HBb.out; omega))
                  replace O1 := hid (O1.out.other O6.out (by decide) G9.out)
                  replace O2 := hid (O2.out.other O6.out (by decide) G9.out)
                  clear R6 B6 O6 S6 G9 b6 hz6 hlen6 x0c x1c x2c xz X
                  go_wp2_with fail
                  go_roundw
                  case rel =>
                    refine ⟨j + 1, m, O ++ [(x1, x2, x3)], t3, by omega, by go_num, O9.out, ?_, R9.out, KT.out, by simp; have := HSZ.out; omega, ?_, B9.out, O1.out, O2.out⟩
                    · intro x hx
                      rcases List.mem_append.1 hx with h | h
                      · exact HOK.out x h
                      · rw [List.mem_singleton.1 h]; exact HXR.out
                    · show rWhile r3 m3 s5 = _
                      rw [hrm.out, rWhile_go r3 m st HNIL.out, hfx.out]; try simp

                  case measure => simp [intOf]; omega
              case pos =>
                as_aux_lemma =>
                  have hln : ¬ (0 : Int) < (st.1.length : Int) := by rw [hnil]; simp
                  have hfin := hid (show rWhile r3 m3 s5 = (O, st) by rw [hrm.out, rWhile_nil _ _ _ hnil]; simp)
                  have hsz0 := hid hsz
                  clear hnil hrm hsz
                  go_wp2_with fail
                  refine (leftR_any b st.1 st.2 wr HR.out).mono ?_
                  rintro e wl ⟨rfl, hBl⟩
                  have BE := hid (HB.out.trans (hBl.mono HB.out.size))
                  have RE := hid (show Rr wl b st.1 st.2 from Blk.below HR.out hBl HR.out.lt)
                  have OE := hid (HO.out.below hBl)
                  replace O1 := hid (O1.out.below hBl)
                  replace O2 := hid (O2.out.below hBl)
                  clear hBl HR HB HO
                  go_wp2_with fail
                  go_meet
                  exact ⟨O, st, OE.out, HOK.out, RE.out, HST.out, hsz0.out, hfin.out, BE.out, O1.out, O2.out⟩
            case inl =>
              as_aux_lemma =>
                subst hm0
                have hpos : ¬ (j : Int) < (m3 : Int) := by omega
                have hfin := hid (show rWhile r3 m3 s5 = (O, st) by rw [hrm.out]; simp [rWhile])
                have hsz0 := hid hsz
                clear hrm hsz
                go_wp2_with fail
                go_meet
                exact ⟨O, st, HO.out, HOK.out, HR.out, HST.out, hsz0.out, hfin.out, HB.out, O1.out, O2.out⟩
      case rest =>
        clear R5 B5 Z5 O1 O2
        obtain ⟨L3, p3, hO, hOK, hRd, hst, hsz, hrm, hB, h1, h2⟩ := hcut
        obtain ⟨A3, ca3, rfl⟩ := hO.form
        have O3 := hid hO
        have OK3 := hid hOK
        have R6 := hid hRd
        have K6 := hid hst
        have W3 := hrm
        have B6 := hid hB
        have M3 := hid (show L3.length ≤ 90000 by omega)
        have Z6 : p3.1.length ≤ 90000 := by omega

        have O1 := hid h1
        have O2 := hid h2
        clear hO hOK hRd hst hsz hrm hB  h1 h2
        generalize wc = wk3 at *
        have hdn := doneR_any b p3.1 p3.2 wk3 R6.out
        have HRS := hid (show refStk s.data.toList = if p3 = ([], false) ∧ (L1.length : Int) = m1 ∧ (L2.length : Int) = m2 ∧ (L3.length : Int) = m3 ∧ rightS L1 (L2.map toLt) L3 = true then some (L1, L2.map toLt, L3) else none by
          have a1 : rA s.data.toList = (L1, p1) := by
            unfold rA
            rw [← HS0.out, Hr1.out]
            simp only [Int.toNat_natCast, W1.out]
          have a2 : rB s.data.toList = (L2, p2) := by
            unfold rB
            rw [a1]
            simp only [Hr3.out, Int.toNat_natCast, W2.out]
          have a3 : rC s.data.toList = (L3, p3) := by
            unfold rC
            rw [a2]
            simp only [Hr5.out, Int.toNat_natCast, W3.out]
          unfold refStk
          rw [a1, a2, a3, ← HS0.out, Hr1.out]
          simp only [Hr3.out, Hr5.out, EX.out, true_and])
        have hmx2 : (L2.map toLt).length = L2.length := by simp
        obtain ⟨A1', ca1', e1, _, _, S1⟩ := O1.out.slr OK1.out
        injection e1 with e1a _ e1c
        subst e1a e1c
        obtain ⟨A2', ca2', e2, _, _, S2⟩ := O2.out.slr (fun x hx => by
          obtain ⟨y, hy, rfl⟩ := List.mem_map.1 hx
          exact (show ltRK.ok (toLt y) from ⟨(OK2.out y hy).1, (OK2.out y hy).2.1⟩))
        injection e2 with e2a _ e2c
        subst e2a e2c
        obtain ⟨A3', ca3', e3, _, _, S3⟩ := O3.out.slr OK3.out
        injection e3 with e3a _ e3c
        subst e3a e3c
        have S1 := hid S1; have S2 := hid S2; have S3 := hid S3
        have HML := hid hmx2
        clear O1 O2 O3 W1 W2 W3 R6 Hr1 Hr3 Hr5 EX hmx2
        have mx1 : L1.length ≤ maxLen := by have := M1.out; unfold maxLen; omega
        have mx2 : (L2.map toLt).length ≤ maxLen := by have := M2.out; have := HML.out; unfold maxLen; omega
        have mx3 : L3.length ≤ maxLen := by have := M3.out; unfold maxLen; omega
        have HX1 := hid mx1; have HX2 := hid mx2; have HX3 := hid mx3
        clear mx1 mx2 mx3
        generalize hL2 : L2.map toLt = LL at *
        clear hL2
        cases hd : (!p3.2 && p3.1.isEmpty) with
        | false =>
          as_aux_lemma =>
            have hr := hid (show refStk s.data.toList = none by
              rw [HRS.out, if_neg]
              rintro ⟨h, _⟩
              rw [h] at hd
              simp at hd)
            rw [hd] at hdn
            have Hd := hid hdn
            clear hdn hd
            go_wp2_with fail
            refine Hd.out.mono ?_
            rintro e w7 ⟨rfl, hB7⟩
            have BF := hid (B6.out.trans (hB7.mono B6.out.size))
            clear hB7
            go_wp2_with fail
            refine bodyPost_ret (v := .tuple #[.slice none 0 0, .slice none 0 0, .slice none 0 0, .bool false]) (by simp [results, Tryz.results7, go_sem]) rfl ?_
            rw [hr.out]
            exact ⟨rfl, BF.out⟩
        | true =>
          have hp3 := hid (show p3 = ([], false) by
            obtain ⟨l, bd⟩ := p3
            simp only at hd
            cases bd <;> simp_all)
          rw [hd] at hdn
          have Hd := hid hdn
          clear hdn hd
          go_wp2_with fail
          refine Hd.out.mono ?_
          rintro e w7 ⟨rfl, hB7⟩
          have BF := hid (B6.out.trans (hB7.mono B6.out.size))
          have S17 := hid ((S1.out.below hB7).more hB7.size)
          have S27 := hid ((S2.out.below hB7).more hB7.size)
          have S37 := hid ((S3.out.below hB7).more hB7.size)
          clear hB7 Hd S1 S2 S3 B6
          by_cases q1 : L1.length = m1
          case neg =>
            as_aux_lemma =>
              have hr := hid (show refStk s.data.toList = none by rw [HRS.out, if_neg]; rintro ⟨_, h, _⟩; omega)
              have q1I : ¬ (L1.length : Int) = m1 := by omega
              have q1b : ((L1.length : Int) == (m1 : Int)) = false := by simpa using q1I
              have q1c : ((L1.length : Int) != (m1 : Int)) = true := by simpa using q1I
              go_wp2_with fail
              refine bodyPost_ret (v := .tuple #[.slice none 0 0, .slice none 0 0, .slice none 0 0, .bool false]) (by simp [results, Tryz.results7, go_sem]) rfl ?_
              rw [hr.out]
              exact ⟨rfl, BF.out⟩
          have q1H := hid (show (L1.length : Int) = m1 by omega)
          by_cases q2 : L2.length = m2
          case neg =>
            as_aux_lemma =>
              have hr := hid (show refStk s.data.toList = none by rw [HRS.out, if_neg]; rintro ⟨_, _, h, _⟩; omega)
              have q1I : ¬ (L2.length : Int) = m2 := by omega
              have q1b : ((L2.length : Int) == (m2 : Int)) = false := by simpa using q1I
              have q1c : ((L2.length : Int) != (m2 : Int)) = true := by simpa using q1I
              go_wp2_with fail
              refine bodyPost_ret (v := .tuple #[.slice none 0 0, .slice none 0 0, .slice none 0 0, .bool false]) (by simp [results, Tryz.results7, go_sem]) rfl ?_
              rw [hr.out]
              exact ⟨rfl, BF.out⟩
          have q2H := hid (show (L2.length : Int) = m2 by omega)
          by_cases q3 : L3.length = m3
          case neg =>
            as_aux_lemma =>
              have hr := hid (show refStk s.data.toList = none by rw [HRS.out, if_neg]; rintro ⟨_, _, _, h, _⟩; omega)
              have q1I : ¬ (L3.length : Int) = m3 := by omega
              have q1b : ((L3.length : Int) == (m3 : Int)) = false := by simpa using q1I
              have q1c : ((L3.length : Int) != (m3 : Int)) = true := by simpa using q1I
              go_wp2_with fail
              refine bodyPost_ret (v := .tuple #[.slice none 0 0, .slice none 0 0, .slice none 0 0, .bool false]) (by simp [results, Tryz.results7, go_sem]) rfl ?_
              rw [hr.out]
              exact ⟨rfl, BF.out⟩
          have q3H := hid (show (L3.length : Int) = m3 by omega)
          have HRT := hid (rsright_any A1 A2 A3 ca1 ca2 ca3 L1 LL L3 w7 HX1.out HX2.out HX3.out S17.out S27.out S37.out)
          rw [HML.out, q1, q2, q3] at HRT
          cases hrt : rightS L1 LL L3 with
          | false =>
            as_aux_lemma =>
              rw [hrt] at HRT
              have hr := hid (show refStk s.data.toList = none by
                rw [HRS.out, if_neg]
                rintro ⟨_, _, _, _, h⟩
                rw [h] at hrt
                cases hrt)
              clear hrt
              go_wp2_with fail
              refine HRT.out.mono ?_
              rintro e w8 ⟨rfl, hB8⟩
              replace BF := hid (BF.out.trans (hB8.mono BF.out.size))
              clear hB8
              go_wp2_with fail
              refine bodyPost_ret (v := .tuple #[.slice none 0 0, .slice none 0 0, .slice none 0 0, .bool false]) (by simp [results, Tryz.results7, go_sem]) rfl ?_
              rw [hr.out]
              exact ⟨rfl, BF.out⟩
          | true =>
            as_aux_lemma =>
              rw [hrt] at HRT
              have hr := hid (show refStk s.data.toList = some (L1, LL, L3) by rw [HRS.out, if_pos ⟨hp3.out, q1H.out, q2H.out, q3H.out, hrt⟩])
              clear hrt
              go_wp2_with fail
              refine HRT.out.mono ?_
              rintro e w8 ⟨rfl, hB8⟩
              have B9 := hid (BF.out.trans (hB8.mono BF.out.size))
              have S19 := hid ((S17.out.below hB8).more hB8.size)
              have S29 := hid ((S27.out.below hB8).more hB8.size)
              have S39 := hid ((S37.out.below hB8).more hB8.size)
              clear hB8
              go_wp2_with fail
              refine bodyPost_ret (v := .tuple #[.slice A1 m1 ca1, .slice A2 m2 ca2, .slice A3 m3 ca3, .bool true]) (by simp [results, Tryz.results7, go_sem]) rfl ?_
              rw [hr.out]
              exact ⟨A1, ca1, A2, ca2, A3, ca3, by rw [HML.out, q1, q2, q3], S19.out, S29.out, S39.out, (fun k hk => (OK1.out k hk).2), B9.out⟩
end Go.Proofs.YtfpehakllnkaeaaGreatDoor
